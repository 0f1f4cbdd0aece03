/- Cross pages: without parity pages, in plain words; the walk of that law. -/
import Derived.Test.YtcinfkmekkdhfaaCqK
namespace Go.Proofs.Ytcinfkmekkdhfaa
open Go.RowKit Go.Shelf
set_option linter.unusedVariables false
attribute [local go_sem] Oper.semAt_some

theorem er_nil {P : List (List GF)} {Z : List (List Int)} {m t : Nat} (h : erN P Z m t = []) {k : Nat} (hk : k < m) : ¬ unkP P Z k t := fun hu => by
  have := mem_erN.2 ⟨hk, hu⟩
  rw [h] at this
  cases this
theorem wordP_get (P : List (List GF)) (t : Nat) {k : Nat} (hk : k < P.length) : (wordP P t).getD k 0 = (P.getD k []).getD t 0 := by
  simp [wordP, List.getD, hk]
/-- Where there are more unknown bytes than parity bytes: what is returned. -/
theorem over_gone {P : List (List GF)} {Z : List (List Int)} {m p t k : Nat} (h : p < (erN P Z m t).length) : goneP P Z m p t k ↔ unkP P Z k t := by
  have hm : ¬ hitP P Z m p t := fun ⟨c, _, _, hc⟩ => by omega
  constructor
  · rintro ⟨_, h1 | h1⟩
    · omega
    · exact h1
  · exact fun h1 => ⟨hm, .inr h1⟩
theorem over_byte {P : List (List GF)} {Z : List (List Int)} {m p t k : Nat} {b : GF} (h : p < (erN P Z m t).length) (hk : k < P.length) (hb : byteP P Z m p t k b) : b = if unkP P Z k t then 0 else (P.getD k []).getD t 0 := by
  have hm : ¬ hitP P Z m p t := fun ⟨c, _, _, hc⟩ => by omega
  have h2 := hb.2 hm
  by_cases hu : unkP P Z k t
  · rw [if_pos hu]; exact h2.1 (.inr hu)
  · rw [if_neg hu, h2.2 (fun h1 => h1.elim (by omega) hu)]
    exact wordP_get P t hk
/-- Without parity. -/
theorem no_hit {P : List (List GF)} {Z : List (List Int)} {m t : Nat} (h : erN P Z m t = []) : Within 0 (wordP P t) (erN P Z m t) (wordP P t) := by
  refine ⟨rfl, fun j hj => absurd hj (Nat.not_lt_zero j), ?_⟩
  rw [h, show wrongs (wordP P t) (wordP P t) [] = [] from List.eq_nil_iff_forall_not_mem.2 fun i hi => (mem_wrongs.1 hi).2.1 rfl]
  exact Nat.le_refl 0
theorem no_gone {P : List (List GF)} {Z : List (List Int)} {m t k : Nat} (hk : k < m) : goneP P Z m 0 t k ↔ unkP P Z k t := by
  by_cases h : erN P Z m t = []
  · exact ⟨fun hg => absurd ⟨_, no_hit h⟩ hg.1, fun hu => absurd hu (er_nil h hk)⟩
  · exact over_gone (List.length_pos_iff.2 h)
theorem no_byte {P : List (List GF)} {Z : List (List Int)} {m t k : Nat} {b : GF} (hk : k < m) (hP : P.length = m) (hb : byteP P Z m 0 t k b) : b = if unkP P Z k t then 0 else (P.getD k []).getD t 0 := by
  by_cases h : erN P Z m t = []
  · rw [if_neg (er_nil h hk), hb.1 _ (no_hit h)]
    exact wordP_get P t (by omega)
  · exact over_byte (List.length_pos_iff.2 h) (by omega) hb
theorem sorted_ext : ∀ {a b : List Int}, a.Pairwise (· < ·) → b.Pairwise (· < ·) → (∀ x, x ∈ a ↔ x ∈ b) → a = b
  | [], [], _, _, _ => rfl
  | [], y :: b, _, _, h => absurd ((h y).2 List.mem_cons_self) (by simp)
  | x :: a, [], _, _, h => absurd ((h x).1 List.mem_cons_self) (by simp)
  | x :: a, y :: b, ha, hb, h => by
    obtain ⟨ha1, ha2⟩ := List.pairwise_cons.1 ha
    obtain ⟨hb1, hb2⟩ := List.pairwise_cons.1 hb
    have hxy : x = y := by
      rcases List.mem_cons.1 ((h x).1 List.mem_cons_self) with e | e
      · exact e
      · rcases List.mem_cons.1 ((h y).2 List.mem_cons_self) with e2 | e2
        · exact e2.symm
        · have := hb1 x e
          have := ha1 y e2
          omega
    subst hxy
    congr 1
    refine sorted_ext ha2 hb2 fun z => ?_
    constructor
    · intro hz
      rcases List.mem_cons.1 ((h z).1 (List.mem_cons_of_mem _ hz)) with e | e
      · subst e; have := ha1 z hz; omega
      · exact e
    · intro hz
      rcases List.mem_cons.1 ((h z).2 (List.mem_cons_of_mem _ hz)) with e | e
      · subst e; have := hb1 z hz; omega
      · exact e
theorem incOk_incF {l : List Int} {q : Nat} (h : IncOk l q) : incF l q 0 = (0, 0) := by
  rcases incF_split l q with ⟨h1, _⟩ | ⟨t0, code, h1, h2, h3, h4⟩
  · exact h1
  · obtain ⟨g1, g2, g3⟩ := h t0 h1
    rcases h3 with ⟨_, h5⟩ | ⟨_, _, _, h5, h6⟩
    · exact absurd ⟨g1, g2⟩ h5
    · have := g3 h5; omega
theorem toI_sorted {er : List Nat} (h : er.Pairwise (· < ·)) : (toI er).Pairwise (· < ·) := by
  unfold toI
  rw [List.pairwise_map]
  exact h.imp fun h => by omega
/-- The lost positions of a page that is there. -/
theorem gone_eq {q : Nat → Prop} {n : Nat} {l z : List Int} (h : IsGone q n l) (hz : IncOk z n) (hq : ∀ t, t < n → (q t ↔ (t : Int) ∈ z)) : l = z := by
  obtain ⟨er, rfl, _, hlt, _, hs⟩ := incF_nat (incOk_incF hz)
  refine sorted_ext h.sorted (toI_sorted hs) fun x => ?_
  rw [h.mem]
  constructor
  · rintro ⟨t, h1, h2, rfl⟩
    exact (hq t h1).1 h2
  · intro hx
    obtain ⟨t, ht, rfl⟩ := List.mem_map.1 hx
    exact ⟨t, hlt t ht, (hq t (hlt t ht)).2 hx, rfl⟩
/-- What the law on no parity sees. -/
theorem no_rows {P : List (List GF)} {Z : List (List Int)} {m n f : Nat} {L : List (List GF)} {G : List (List Int)} (hP : P.length = m) (hg : PgsOk P m 0 n f) (hi : ∀ i, i < m → IncOk (Z.getD i []) (P.getD i []).length) (h : ResOK P Z m 0 n L G) {k : Nat} (hk : k < m) :
    ((P.getD k []).length = 0 → (G.getD k []).length = n) ∧ (0 < (P.getD k []).length → G.getD k [] = Z.getD k []) ∧ (L.getD k []).length = n ∧ ∀ t, t < (P.getD k []).length → t < n ∧ (L.getD k []).getD t 0 = if (t : Int) ∈ Z.getD k [] then 0 else (P.getD k []).getD t 0 := by
  obtain ⟨h1, h2, h3⟩ := h.2.2 k (by omega)
  refine ⟨fun h0 => h3.all fun t ht => (no_gone hk).2 (.inl h0), fun h0 => ?_, h1, fun t ht => ?_⟩
  · have hl : (P.getD k []).length = n := by rcases hg.hl k hk with e | e <;> omega
    have hik := hi k hk
    rw [hl] at hik
    exact gone_eq h3 hik fun t ht => by
      rw [no_gone hk]
      exact ⟨fun hu => hu.resolve_left (by omega), .inr⟩
  · have hl : (P.getD k []).length = n := by rcases hg.hl k hk with e | e <;> omega
    refine ⟨by omega, ?_⟩
    rw [no_byte hk hP (h2 t (by omega))]
    by_cases hu : (t : Int) ∈ Z.getD k []
    · rw [if_pos hu, if_pos (.inr hu)]
    · rw [if_neg hu, if_neg (fun h => h.elim (by omega) hu)]
end Go.Proofs.Ytcinfkmekkdhfaa
