/- Cross pages: all arguments of Extend and of Restore: a fault, or all is well; matrices that came in. -/
import Derived.Test.YtcinfkmekkdhfaaCqH
namespace Go.Proofs.Ytcinfkmekkdhfaa
open Go.RowKit Go.Shelf
set_option linter.unusedVariables false

theorem first_of (q : Nat → Prop) [DecidablePred q] (m : Nat) : (∀ i, i < m → ¬ q i) ∨ ∃ f, f < m ∧ q f ∧ ∀ i, i < f → ¬ q i := by
  induction m with
  | zero => exact .inl fun i hi => absurd hi (Nat.not_lt_zero i)
  | succ m ih =>
    rcases ih with h | ⟨f, h1, h2, h3⟩
    · by_cases hq : q m
      · exact .inr ⟨m, Nat.lt_succ_self m, hq, h⟩
      · exact .inl fun i hi => by
          by_cases e : i = m
          · subst e; exact hq
          · exact h i (by omega)
    · exact .inr ⟨f, by omega, h2, h3⟩
/-- Pages that may be extended. -/
structure ExtGood (P : List (List GF)) (m q n : Nat) : Prop where
  h1 : 1 ≤ m
  h2 : m ≤ 48
  hq : q ≤ 16
  hn1 : 1 ≤ n
  hn2 : n ≤ 384
  hl : ∀ i, i < m → (P.getD i []).length = n
theorem ext_split (m : Nat) (p : Int) (P : List (List GF)) :
    (∃ C I : Int, C ≠ 0 ∧ ∀ A c w, RdM w A m P → Calls Try.prog 9 #[.slice A m c, .int .i64 p] w (ExtBad w C I) ∧ Calls Try.prog 10 #[.slice A m c, .int .i64 p] w (AggF w C I)) ∨
    (∃ q n : Nat, p = q ∧ ExtGood P m q n ∧ ∀ A c w, RdM w A m P → Calls Try.prog 10 #[.slice A m c, .int .i64 p] w (AggF w 0 0)) := by
  by_cases hp : p < 0 ∨ 16 < p
  · exact .inl ⟨4, -2, by decide, fun A c w _ => ⟨extend_b1 A m c p w hp, rExt_b1 A m c p w hp⟩⟩
  have hp' : 0 ≤ p ∧ p ≤ 16 := by omega
  by_cases h1 : m = 0
  · subst h1
    exact .inl ⟨10, -1, by decide, fun A c w _ => ⟨extend_b2 A c p w hp', rExt_b2 A c p w hp'⟩⟩
  by_cases h2 : 48 < m
  · exact .inl ⟨2, -1, by decide, fun A c w _ => ⟨extend_b3 A m c p w hp' h2, rExt_b3 A m c p w hp' h2⟩⟩
  have dec : DecidablePred fun i => ¬ pgOk P i := fun i => by unfold pgOk; exact inferInstance
  rcases first_of (fun i => ¬ pgOk P i) m with h | ⟨b, hb, hbad, hgood⟩
  · have hg : ∀ i, i < m → pgOk P i := fun i hi => Decidable.byContradiction (dec := by unfold pgOk; exact inferInstance) (h i hi)
    have h0 := hg 0 (by omega)
    exact .inr ⟨p.toNat, (P.getD 0 []).length, by omega, ⟨by omega, by omega, by omega, h0.1, h0.2.1, fun i hi => (hg i hi).2.2⟩, fun A c w hM => rExt_ok A m c p P w hM hp' (by omega) (by omega) hg⟩
  · have hg : ∀ i, i < b → pgOk P i := fun i hi => Decidable.byContradiction (dec := by unfold pgOk; exact inferInstance) (hgood i hi)
    exact .inl ⟨9, b, by decide, fun A c w hM => ⟨extend_b4 A m c b p P w hM hp' (by omega) hb hbad hg, rExt_b4 A m c b p P w hM hp' (by omega) hb hbad hg⟩⟩
theorem incOk_of {l : List Int} {q : Nat} (h : incF l q 0 = (0, 0)) : IncOk l q := by
  rcases incF_split l q with ⟨_, h2⟩ | ⟨t0, code, h1, h2, h3, h4⟩
  · exact h2
  · rw [h] at h4
    rcases h3 with ⟨rfl, _⟩ | ⟨rfl, _⟩ <;> cases h4
theorem res_split (m m' : Nat) (p : Int) (P : List (List GF)) (Z : List (List Int)) (hpl : ∀ i, i < m → (P.getD i []).length ≤ 9223372036854775807) (hzl : ∀ i, i < m' → (Z.getD i []).length ≤ 9223372036854775807) :
    (∃ C I : Int, C ≠ 0 ∧ ∀ A B c c' w, RdM w A m P → RdMI w B m' Z → Calls Try.prog 14 #[.slice A m c, .slice B m' c', .int .i64 p] w (ResBad w C I) ∧ Calls Try.prog 15 #[.slice A m c, .slice B m' c', .int .i64 p] w (AggF w C I)) ∨
    (∃ q n f : Nat, p = q ∧ m' = m ∧ PgsOk P m q n f ∧ (∀ i, i < m → IncOk (Z.getD i []) (P.getD i []).length) ∧ ∀ A B c c' w, RdM w A m P → RdMI w B m' Z → Calls Try.prog 15 #[.slice A m c, .slice B m' c', .int .i64 p] w (AggF w 0 0)) := by
  by_cases hp : p < 0 ∨ 16 < p
  · exact .inl ⟨4, -3, by decide, fun A B c c' w _ _ => ⟨restore_bad A B m c m' c' p 4 (-3) w rfl fun W _ => cpCheck_b1 A B m c m' c' p W hp, rRes_b1 A B m c m' c' p w hp⟩⟩
  have hp' : 0 ≤ p ∧ p ≤ 16 := by omega
  by_cases h1 : (m : Int) < p + 1
  · exact .inl ⟨9, -1, by decide, fun A B c c' w _ _ => ⟨restore_bad A B m c m' c' p 9 (-1) w rfl fun W _ => cpCheck_b2 A B m c m' c' p W hp' h1, rRes_b2 A B m c m' c' p w hp' h1⟩⟩
  by_cases h2 : 48 + p < m
  · exact .inl ⟨2, -1, by decide, fun A B c c' w _ _ => ⟨restore_bad A B m c m' c' p 2 (-1) w rfl fun W _ => cpCheck_b3 A B m c m' c' p W hp' h2, rRes_b3 A B m c m' c' p w hp' h2⟩⟩
  rcases first_of (fun i => 0 < (P.getD i []).length) m with h3 | ⟨f, hf, hfl, hfb⟩
  · have h0 : ∀ i, i < m → (P.getD i []).length = 0 := fun i hi => by have := h3 i hi; omega
    exact .inl ⟨17, -1, by decide, fun A B c c' w hP _ => ⟨restore_bad A B m c m' c' p 17 (-1) w rfl fun W hW => cpCheck_b4 A B m c m' c' p P W (hP.below hW) hp' (by omega) h0, rRes_b4 A B m c m' c' p P w hP hp' (by omega) h0⟩⟩
  have hfb' : ∀ i, i < f → (P.getD i []).length = 0 := fun i hi => by have := hfb i hi; omega
  obtain ⟨q, rfl⟩ : ∃ q : Nat, p = q := ⟨p.toNat, by omega⟩
  rcases first_of (fun i => 0 < (P.getD i []).length ∧ (384 < (P.getD i []).length ∨ (P.getD i []).length ≠ (P.getD f []).length)) m with h3 | ⟨b, hb, hbb, hbg⟩
  · have hff := h3 f hf
    have hg : PgsOk P m q (P.getD f []).length f := ⟨by omega, by omega, by omega, hf, rfl, by omega, by omega, hfb', fun i hi => by have := h3 i hi; omega⟩
    by_cases hm : m' = m
    · subst hm
      rcases first_of (fun i => ¬ incF (Z.getD i []) (P.getD i []).length 0 = (0, 0)) m' with h4 | ⟨i0, hi0, hib, hig⟩
      · have h5 : ∀ i, i < m' → incF (Z.getD i []) (P.getD i []).length 0 = (0, 0) := fun i hi => Decidable.byContradiction (h4 i hi)
        exact .inr ⟨q, _, f, rfl, rfl, hg, fun i hi => incOk_of (h5 i hi), fun A B c c' w hP hZ => rRes_lists A B m' c c' q _ f m' 0 0 P Z w hP hZ hg hzl (Nat.le_refl _) h5 (.inl ⟨rfl, rfl, rfl⟩)⟩
      · have h5 : ∀ i, i < i0 → incF (Z.getD i []) (P.getD i []).length 0 = (0, 0) := fun i hi => Decidable.byContradiction (hig i hi)
        rcases incF_split (Z.getD i0 []) (P.getD i0 []).length with ⟨h6, _⟩ | ⟨t0, code, e1, e2, e3, e4⟩
        · exact absurd h6 hib
        · have hc0 : code ≠ 0 := by rcases e3 with ⟨rfl, _⟩ | ⟨rfl, _⟩ <;> decide
          have hmono : ∀ t, t < t0 → (t : Int) ≤ (Z.getD i0 []).getD t 0 := fun t => by
            induction t with
            | zero => intro ht; exact (e2 0 ht).1
            | succ t ih =>
              intro ht
              have h1 := ih (by omega)
              have h2 := (e2 (t + 1) ht).2.2 (Nat.succ_pos t)
              rw [Nat.add_sub_cancel] at h2
              omega
          have hq384 : (P.getD i0 []).length ≤ 384 := by rcases hg.hl i0 hi0 with h | h <;> have := hg.hn2 <;> omega
          have ht0 : t0 ≤ 1099511627776 := by
            by_cases hz : t0 = 0
            · omega
            · have h1 := hmono (t0 - 1) (by omega)
              have h2 := (e2 (t0 - 1) (by omega)).2.1
              omega
          exact .inl ⟨code, i0, hc0, fun A B c c' w hP hZ => ⟨restore_bad A B m' c m' c' q code i0 w (by rw [beq_eq_false_iff_ne]; exact hc0) fun W hW => cpCheck_b7 A B m' c c' q _ f i0 t0 code P Z W (hP.below hW) (hZ.below hW) hg hi0 (fun i hi => incOk_of (h5 i hi)) e1 ht0 e2 e3,
            rRes_lists A B m' c c' q _ f i0 code i0 P Z w hP hZ hg hzl (Nat.le_of_lt hi0) h5 (.inr ⟨hi0, e4, hc0, rfl⟩)⟩⟩
    · exact .inl ⟨9, -2, by decide, fun A B c c' w hP _ => ⟨restore_bad A B m c m' c' q 9 (-2) w rfl fun W hW => cpCheck_b6 A B m c m' c' q _ f P W (hP.below hW) hg hm, rRes_b6 A B m c m' c' q _ f P w hP hg hm⟩⟩
  · have hg : ∀ i, i < b → (P.getD i []).length = 0 ∨ ((P.getD i []).length = (P.getD f []).length ∧ (P.getD f []).length ≤ 384) := fun i hi => by have := hbg i hi; omega
    exact .inl ⟨9, b, by decide, fun A B c c' w hP _ => ⟨restore_bad A B m c m' c' q 9 b w rfl fun W hW => cpCheck_b5 A B m c m' c' q _ f b P W (hP.below hW) (by omega) (by omega) (by omega) hf rfl hfl hfb' hb hg hbb.1 hbb.2 (hpl b hb), rRes_b5 A B m c m' c' q _ f b P w hP (by omega) (by omega) (by omega) hf rfl hfl hfb' hb hg hbb.1 hbb.2 (hpl b hb)⟩⟩
/-! ### matrices that came in -/
theorem IsRow.intL {w : World} {a : Option Addr} {len cap : Nat} {zs : List Int} (h : IsRow .i64 w a len cap zs) : ∃ l : List Int, RdI w a len l := by
  rcases h with ⟨rfl, rfl, rfl, rfl⟩ | ⟨x, rfl, hl, hm, hz, hcell, hwz⟩
  · exact ⟨[], ⟨rfl, fun h => by omega⟩⟩
  · refine ⟨zs.take len, ⟨by rw [List.length_take]; omega, fun hn => ?_⟩⟩
    obtain ⟨b, off, spot⟩ := x
    have hc0 := hcell 0 (by omega)
    have hspot : spot = none := by simpa [Addr.add] using World.cell?_spot hc0
    subst hspot
    have hlt : b < w.heap.size := by
      have h0 := hcell 0 (by omega)
      rw [addr_add] at h0
      rcases Nat.lt_or_ge b w.heap.size with h | h
      · exact h
      · simp [World.cell?, Array.getElem?_eq_none h] at h0
    refine ⟨b, off, rfl, hlt, fun i hi => ?_⟩
    rw [← addr_add, hcell i (by omega)]
    simp [List.getD, hi]
theorem mat_of {H : Type} {enc : TypeId × Value → H} {P : Program} {w : World} {base : Nat} {held : Bool} {t e q : TypeId} {k : IntKind} {fuel : Nat} {a : Option Addr} {len cap : Nat} {cs : List Value} {x : DataW H × List MemPlace} (ht : P.underlying t = some (.slice e)) (he : P.underlying e = some (.slice q)) (hq : P.underlying q = some (.int k))
    (ce : P.cellsOf e = 1) (cq : P.cellsOf q = 1) (hcs : cs = [.slice a len cap]) (h : DataW.trod enc P w base (fun _ => true) held fuel t cs = some x) : ∃ A L C Z, IsMat k w a len cap A L C Z := by
  rcases Go.Deep.open_int_rows ht he hq ce cq h with ⟨h1, _⟩ | ⟨x', len', cap', A, L, C, Z, h1, hb, hl, hm, _, hr⟩
  · rw [hcs] at h1
    injection h1 with h1 _
    injection h1 with e1 e2 e3
    subst e1 e2 e3
    exact ⟨fun _ => none, fun _ => 0, fun _ => 0, fun _ => [], .inl ⟨rfl, rfl, rfl⟩⟩
  · rw [hcs] at h1
    injection h1 with h1 _
    injection h1 with e1 e2 e3
    subst e1 e2 e3
    refine ⟨A, L, C, Z, .inr ⟨x', rfl, hl, hm, fun r hr' => ?_⟩⟩
    obtain ⟨h2, h3, h4, h5, h6, h7, h8⟩ := hr r hr'
    refine ⟨h2, ?_⟩
    cases hA : A r with
    | none =>
      have h9 := h7 hA
      exact .inl ⟨rfl, by omega, h9, List.eq_nil_of_length_eq_zero (by omega)⟩
    | some a' => exact .inr ⟨a', rfl, h3, h4, h5, fun i hi => (h8 a' hA).2 i (by omega), h6⟩
theorem IsMat.ints {w : World} {a : Option Addr} {len cap : Nat} {A : Nat → Option Addr} {Ln C : Nat → Nat} {Z : Nat → List Int} (h : IsMat .i64 w a len cap A Ln C Z) : ∃ P : List (List Int), RdMI w a len P ∧ len ≤ maxLen ∧ ∀ r, r < len → (P.getD r []).length = Ln r := by
  rcases h with ⟨rfl, rfl, rfl⟩ | ⟨x, rfl, hl, hm, hc⟩
  · exact ⟨[], ⟨rfl, fun h => absurd h (Nat.lt_irrefl 0)⟩, Nat.zero_le _, fun r hr => absurd hr (Nat.not_lt_zero _)⟩
  · have hb : ∀ r, r < cap → ∃ l : List Int, RdI w (A r) (Ln r) l := fun r hr => by
      exact (hc r hr).2.intL
    obtain ⟨f, hf⟩ : ∃ f : Nat → List Int, ∀ r, r < cap → RdI w (A r) (Ln r) (f r) :=
      ⟨fun r => if h : r < cap then (hb r h).choose else [], fun r hr => by simp only [hr, dif_pos]; exact (hb r hr).choose_spec⟩
    have hget : ∀ r, r < len → ((List.range len).map f).getD r [] = f r := fun r hr => by simp [List.getD, hr]
    refine ⟨(List.range len).map f, ⟨by simp, fun hn => ?_⟩, by omega, fun r hr => by rw [hget r hr]; exact (hf r (by omega)).1⟩
    obtain ⟨b, off, spot⟩ := x
    have h0 := (hc 0 (by omega)).1
    have hspot : spot = none := by simpa [Addr.add] using World.cell?_spot h0
    subst hspot
    have hlt : b < w.heap.size := by
      rcases Nat.lt_or_ge b w.heap.size with h | h
      · exact h
      · rw [addr_add] at h0
        simp [World.cell?, Array.getElem?_eq_none h] at h0
    refine ⟨b, off, rfl, hlt, fun i hi => ⟨A i, C i, ?_, ?_⟩⟩
    · rw [hget i hi, (hf i (by omega)).1, ← addr_add]; exact (hc i (by omega)).1
    · rw [hget i hi, (hf i (by omega)).1]; exact hf i (by omega)
theorem IsMat.len {k : IntKind} {w : World} {a : Option Addr} {len cap : Nat} {A : Nat → Option Addr} {Ln C : Nat → Nat} {Z : Nat → List Int} (h : IsMat k w a len cap A Ln C Z) : ∀ r, r < len → Ln r ≤ 9223372036854775807 := by
  rcases h with ⟨rfl, rfl, rfl⟩ | ⟨x, rfl, hl, hm, hc⟩
  · exact fun r hr => absurd hr (Nat.not_lt_zero r)
  · intro r hr
    rcases (hc r (by omega)).2 with ⟨_, h1, _⟩ | ⟨_, _, h1, h2, _⟩
    · omega
    · unfold maxLen at h2; omega
end Go.Proofs.Ytcinfkmekkdhfaa
