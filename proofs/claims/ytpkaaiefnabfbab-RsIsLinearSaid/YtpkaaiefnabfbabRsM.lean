/- Increasing places: the plain law, the reference's Increasing, and the walk of rs.Decode. -/
import Derived.Test.YtpkaaiefnabfbabRsL
namespace Go.Proofs.Ytpkaaiefnabfbab
open Go.RowKit
set_option linter.unusedVariables false

def incR (l : List Int) (n f : Int) : Nat → Int × Int
  | 0 => (0, 0)
  | m + 1 => if ¬ (0 ≤ l.getD (l.length - (m + 1)) 0 ∧ l.getD (l.length - (m + 1)) 0 ≤ n - 1) then (4, f + ((l.length - (m + 1) : Nat) : Int))
    else if 0 < l.length - (m + 1) ∧ l.getD (l.length - (m + 1)) 0 ≤ l.getD (l.length - (m + 1) - 1) 0 then (11, f + ((l.length - (m + 1) : Nat) : Int)) else incR l n f m
/-- The fault of places that do not increase. -/
def incF (l : List Int) (n f : Int) : Int × Int := incR l n f l.length
theorem incR_at (l : List Int) (n f : Int) {k : Nat} (hk : k < l.length) : incR l n f (l.length - k) = if ¬ (0 ≤ l.getD k 0 ∧ l.getD k 0 ≤ n - 1) then (4, f + (k : Int)) else if 0 < k ∧ l.getD k 0 ≤ l.getD (k - 1) 0 then (11, f + (k : Int)) else incR l n f (l.length - (k + 1)) := by
  obtain ⟨m, hm⟩ : ∃ m, l.length - k = m + 1 := ⟨l.length - k - 1, by omega⟩
  rw [hm]
  have e1 : l.length - (m + 1) = k := by omega
  have e2 : l.length - (k + 1) = m := by omega
  rw [e2]
  show (if ¬ (0 ≤ l.getD (l.length - (m + 1)) 0 ∧ l.getD (l.length - (m + 1)) 0 ≤ n - 1) then _ else _) = _
  rw [e1]
theorem incR_end (l : List Int) (n f : Int) : incR l n f (l.length - l.length) = (0, 0) := by rw [Nat.sub_self]; rfl
theorem incR_good {l : List Int} {n f : Int} (h : incF l n f = (0, 0)) : ∀ k, k ≤ l.length → incR l n f (l.length - k) = (0, 0) ∧ ∀ i, i < k → (0 ≤ l.getD i 0 ∧ l.getD i 0 ≤ n - 1) ∧ (0 < i → l.getD (i - 1) 0 < l.getD i 0) := by
  intro k
  induction k with
  | zero => intro _; exact ⟨h, fun i hi => absurd hi (Nat.not_lt_zero _)⟩
  | succ k ih =>
    intro hk
    obtain ⟨h1, h2⟩ := ih (by omega)
    rw [incR_at l n f (by omega)] at h1
    by_cases c1 : 0 ≤ l.getD k 0 ∧ l.getD k 0 ≤ n - 1
    · rw [if_neg (by simpa using c1)] at h1
      by_cases c2 : 0 < k ∧ l.getD k 0 ≤ l.getD (k - 1) 0
      · rw [if_pos c2] at h1
        exact absurd (congrArg Prod.fst h1) (by simp)
      · rw [if_neg c2] at h1
        refine ⟨h1, fun i hi => ?_⟩
        by_cases e : i = k
        · subst e; exact ⟨c1, fun hp => by omega⟩
        · exact h2 i (by omega)
    · rw [if_pos c1] at h1
      exact absurd (congrArg Prod.fst h1) (by simp)
theorem incF_code (l : List Int) (n f : Int) : incF l n f = (0, 0) ∨ (∃ k, k < l.length ∧ incF l n f = (4, f + (k : Int))) ∨ (∃ k, k < l.length ∧ incF l n f = (11, f + (k : Int))) := by
  have : ∀ m, m ≤ l.length → incR l n f m = (0, 0) ∨ (∃ k, k < l.length ∧ incR l n f m = (4, f + (k : Int))) ∨ (∃ k, k < l.length ∧ incR l n f m = (11, f + (k : Int))) := by
    intro m
    induction m with
    | zero => intro _; exact .inl rfl
    | succ m ih =>
      intro hm
      have e : m + 1 = l.length - (l.length - (m + 1)) := by omega
      rw [e, incR_at l n f (by omega)]
      split
      · exact .inr (.inl ⟨_, by omega, rfl⟩)
      · split
        · exact .inr (.inr ⟨_, by omega, rfl⟩)
        · rw [show l.length - (l.length - (m + 1) + 1) = m by omega]; exact ih (by omega)
  exact this _ (Nat.le_refl _)
/-- Places that increase are natural numbers, different, and few. -/
theorem incF_nat {l : List Int} {n : Nat} {f : Int} (h : incF l n f = (0, 0)) : ∃ er : List Nat, l = toI er ∧ er.Nodup ∧ (∀ i ∈ er, i < n) ∧ er.length ≤ n ∧ er.Pairwise (· < ·) := by
  have hg := (incR_good h l.length (Nat.le_refl _)).2
  have hP : l.Pairwise (· < ·) := by
    rw [List.pairwise_iff_getElem]
    have step : ∀ d i, i + d + 1 < l.length → l.getD i 0 < l.getD (i + d + 1) 0 := by
      intro d
      induction d with
      | zero => intro i hi; have := (hg (i + 1) (by omega)).2 (by omega); simpa using this
      | succ d ih =>
        intro i hi
        have h1 := ih i (by omega)
        have h2 := (hg (i + d + 1 + 1) (by omega)).2 (by omega)
        have h3 : i + d + 1 + 1 - 1 = i + d + 1 := by omega
        rw [h3] at h2
        have h4 : i + (d + 1) + 1 = i + d + 1 + 1 := by omega
        rw [h4]; omega
    intro i j hi hj hij
    have := step (j - i - 1) i (by omega)
    rw [show i + (j - i - 1) + 1 = j by omega] at this
    simpa [List.getD, hi, hj] using this
  have hb : ∀ x ∈ l, 0 ≤ x ∧ x < n := by
    intro x hx
    obtain ⟨i, hi, rfl⟩ := List.mem_iff_getElem.1 hx
    have := (hg i hi).1
    have e : l.getD i 0 = l[i] := by simp [List.getD, hi]
    rw [e] at this; omega
  have e1 : l = toI (l.map Int.toNat) := by
    unfold toI
    rw [List.map_map]
    conv => lhs; rw [← List.map_id l]
    apply List.map_congr_left
    intro x hx
    have := hb x hx
    simp; omega
  have hP2 : (l.map Int.toNat).Pairwise (· < ·) := by
    rw [List.pairwise_map]
    refine hP.imp_of_mem ?_
    intro a b ha hb' hab
    have := hb a ha
    have := hb b hb'
    omega
  have hnd : (l.map Int.toNat).Nodup := hP2.imp (fun h => Nat.ne_of_lt h)
  have hlt : ∀ i ∈ l.map Int.toNat, i < n := by
    intro i hi
    obtain ⟨x, hx, rfl⟩ := List.mem_map.1 hi
    have := hb x hx
    omega
  refine ⟨l.map Int.toNat, e1, hnd, hlt, ?_, hP2⟩
  have := List.Nodup.length_le_of_subset hnd (l₂ := List.range n) (fun i hi => List.mem_range.2 (hlt i hi))
  rwa [List.length_range] at this
theorem incF_of {er : List Nat} {n : Nat} (f : Int) (hlt : ∀ i ∈ er, i < n) (hP : er.Pairwise (· < ·)) : incF (toI er) n f = (0, 0) := by
  have : ∀ d k, k + d = (toI er).length → incR (toI er) n f ((toI er).length - k) = (0, 0) := by
    intro d
    induction d with
    | zero => intro k hk; rw [← hk, Nat.add_zero, Nat.sub_self]; rfl
    | succ d ih =>
      intro k hk
      have hk2 : k < er.length := by rw [toI_len] at hk; omega
      rw [incR_at _ _ _ (by omega), toI_get, toI_get]
      have h1 : er.getD k 0 < n := hlt _ (by simp [List.getD, hk2])
      rw [if_neg (by omega), if_neg ?_]
      · exact ih (k + 1) (by omega)
      · intro ⟨a, b⟩
        rw [List.pairwise_iff_getElem] at hP
        have := hP (k - 1) k (by omega) hk2 (by omega)
        have e1 : er.getD k 0 = er[k] := by simp [List.getD, hk2]
        have e2 : er.getD (k - 1) 0 = er[k - 1]'(by omega) := by simp [List.getD, show k - 1 < er.length by omega]
        omega
  exact this _ 0 (Nat.zero_add _)
attribute [irreducible] incF incR
theorem rdI_ext {w : World} {b off n : Nat} {l : List Int} (h : RdI w (some ⟨b, off, none⟩) n l) {i : Nat} (hi : i < n) (x : Ext w) : x.w.cell? ⟨b, off + i, none⟩ = some (.int .i64 (l.getD i 0)) := by
  obtain ⟨b', o', e, hlt, hc⟩ := rdI_cell (h.below x.below) hi
  cases e
  exact hc
set_option maxRecDepth 100000 in
set_option maxHeartbeats 2000000 in
theorem rIncreasing_any (A : Option Addr) (n c : Nat) (l : List Int) (N f : Int) (w : World) (hl : RdI w A n l) (hn : n + f ≤ 9223372036854775807) (hN : 0 ≤ N ∧ N ≤ 9223372036854775807) (hf : 0 ≤ f) :
    Calls Try.prog 20 #[.slice A n c, .int .i64 N, .int .i64 f] w fun e w' => e = .returned (.agg #[.int .i64 (incF l N f).1, .int .i64 (incF l N f).2]) ∧ Below w.heap.size w w' := by
  have ll := hl.1
  subst ll
  have HL := Lib.hid hl
  have HS := Lib.hid (show incF l N f = incR l N f (l.length - 0) by unfold incF; rfl)
  clear hl
  go_enter Try.func20, Try.ntmps20
  go_wp2
  go_loopw [7] (fun i wr => ∃ k : Nat, k ≤ l.length ∧ i = .int .i64 k ∧ incF l N f = incR l N f (l.length - k) ∧ Has wr w.heap.size 0 0 ∧ Below w.heap.size w wr) (fun i _ => l.length - (intOf i).toNat)
  case atStart => exact ⟨0, Nat.zero_le _, rfl, HS.out, Has.new _ _ _ _, below_new _ _⟩
  case round =>
    obtain ⟨k, hk, rfl, hs, hF, hbw⟩ := hrel
    by_cases hlt : k < l.length
    · rw [incR_at l N f hlt] at hs
      have hl1 := HL.out.below hbw
      obtain ⟨b, off, rfl, hlb, hcc⟩ := rdI_cell hl1 (i := k) hlt
      obtain ⟨l0, c00, c01, f00, f01⟩ := id hF
      by_cases c1 : 0 ≤ l.getD k 0 ∧ l.getD k 0 ≤ N - 1
      · rw [if_neg (by simpa using c1)] at hs
        have i1 := inT' c1
        by_cases hk0 : k = 0
        · rw [if_neg (fun h => absurd h.1 (by omega))] at hs
          have HSS := Lib.hid hs
          have dk : decide (0 < k) = false := by simp only [decide_eq_false_iff_not]; omega
          clear hs hk0
          generalize l.getD k 0 = y at *
          have hx := fun x => cell_ext hlb hcc x
          go_wp2_with (go_at_call 33; refine (refIn_any _ _ _ _).mono ?_; rintro e w' ⟨rfl, rfl⟩)
          (refine wp_region_ext (by kernel_rfl) (by kernel_rfl) ?_; (repeat (go_big_quiet_step ((fail)))); refine wpQuiet_nil ?_; intro W5 hw'; have hW5 := ext_below hw'; clear hw')
          go_wp2
          go_roundw
          case rel => exact ⟨k + 1, by omega, by go_num, HSS.out, hF.below hW5, Bw.step hbw hW5⟩
          case measure => simp [intOf]; omega
        · have hx := fun x => rdI_ext hl1 hlt x
          have hx2 := fun x => rdI_ext hl1 (i := k - 1) (by omega) x
          have ws : IntKind.i64.wrap ((k : Int) - 1) = ((k - 1 : Nat) : Int) := by rw [IntWalk.i64_in _ (by omega)]; omega
          have ws2 : (k : Int) - 1 = ((k - 1 : Nat) : Int) := by omega
          have hk1 : k - 1 < l.length := by omega
          have dk : decide (0 < k) = true := by simp only [decide_eq_true_eq]; omega
          have d1 := Lib.hid c1
          by_cases c2 : l.getD k 0 ≤ l.getD (k - 1) 0
          · rw [if_pos ⟨by omega, c2⟩] at hs
            have HSS := Lib.hid hs
            have dc : decide (l.getD k 0 ≤ l.getD (k - 1) 0) = true := by simp only [decide_eq_true_eq]; exact c2
            clear hs c1 c2
            generalize l.getD k 0 = y at *
            generalize l.getD (k - 1) 0 = z at *
            go_wp2_with (go_at_call 33; refine (refIn_any _ _ _ _).mono ?_; rintro e w' ⟨rfl, rfl⟩)
            (refine wp_region_ext (by kernel_rfl) (by kernel_rfl) ?_; (repeat (go_big_quiet_step ((fail)))); refine wpQuiet_nil ?_; intro W5 hw'; have hW5 := ext_below hw'; clear hw')
            have F5 := hF.below hW5
            have B5 := Bw.step hbw hW5
            obtain ⟨l5, c50, c51, f50, f51⟩ := id F5
            go_wp2_with (go_at_call 22; refine (refAt_any _ _ _).mono ?_; rintro e w' ⟨rfl, rfl⟩)
            rw [HSS.out]
            exact bodyPost_ret (resF1 rfl rfl ((F5.set2 11 (f + k)).al _)) rfl ⟨rfl, Bw.al (Bw.set (Bw.set B5 (Nat.le_refl _) _) (Nat.le_refl _) _) _⟩
          · rw [if_neg (fun h => c2 h.2)] at hs
            have HSS := Lib.hid hs
            have dc : decide (l.getD k 0 ≤ l.getD (k - 1) 0) = false := by simp only [decide_eq_false_iff_not]; exact c2
            clear hs c1 c2
            generalize l.getD k 0 = y at *
            generalize l.getD (k - 1) 0 = z at *
            go_wp2_with (go_at_call 33; refine (refIn_any _ _ _ _).mono ?_; rintro e w' ⟨rfl, rfl⟩)
            (refine wp_region_ext (by kernel_rfl) (by kernel_rfl) ?_; (repeat (go_big_quiet_step ((fail)))); refine wpQuiet_nil ?_; intro W5 hw'; have hW5 := ext_below hw'; clear hw')
            go_wp2
            go_roundw
            case rel => exact ⟨k + 1, by omega, by go_num, HSS.out, hF.below hW5, Bw.step hbw hW5⟩
            case measure => simp [intOf]; omega
      · rw [if_pos c1] at hs
        have i1 := inF' c1
        have HSS := Lib.hid hs
        clear hs c1
        generalize l.getD k 0 = y at *
        go_wp2_with (first | (go_at_call 33; refine (refIn_any _ _ _ _).mono ?_; rintro e w' ⟨rfl, rfl⟩) | (go_at_call 22; refine (refAt_any _ _ _).mono ?_; rintro e w' ⟨rfl, rfl⟩))
        rw [HSS.out]
        exact bodyPost_ret (resF1 rfl rfl ((hF.set2 4 (f + k)).al _)) rfl ⟨rfl, Bw.al (Bw.set (Bw.set hbw (Nat.le_refl _) _) (Nat.le_refl _) _) _⟩
    · obtain rfl : k = l.length := by omega
      rw [incR_end] at hs
      have HSS := Lib.hid hs
      obtain ⟨l0, c00, c01, f00, f01⟩ := id hF
      clear hs
      go_wp2_with (go_at_call 22; refine (refAt_any _ _ _).mono ?_; rintro e w' ⟨rfl, rfl⟩)
      rw [HSS.out]
      exact bodyPost_ret (resF1 rfl rfl ((hF.set2 0 0).al _)) rfl ⟨rfl, Bw.al (Bw.set (Bw.set hbw (Nat.le_refl _) _) (Nat.le_refl _) _) _⟩
/-! ### Places where two words differ -/
def dcnt (a b : List GF) (er : List Nat) (k : Nat) : Nat := ((List.range k).filter fun i => decide (a.getD i 0 ≠ b.getD i 0) && decide (i ∉ er)).length
theorem dcnt_full (a b : List GF) (er : List Nat) : dcnt a b er a.length = (wrongs a b er).length := rfl
theorem dcnt_zero (a b : List GF) (er : List Nat) : dcnt a b er 0 = 0 := rfl
theorem dcnt_yes {a b : List GF} {er : List Nat} {k : Nat} (h1 : a.getD k 0 ≠ b.getD k 0) (h2 : k ∉ er) : dcnt a b er (k + 1) = dcnt a b er k + 1 := by
  unfold dcnt
  rw [List.range_succ, List.filter_append, List.length_append]
  congr 1
  rw [show (List.filter (fun i => decide (a.getD i 0 ≠ b.getD i 0) && decide (i ∉ er)) [k]) = [k] from List.filter_cons_of_pos (by rw [decide_eq_true h1, decide_eq_true h2]; rfl)]
  rfl
theorem dcnt_no {a b : List GF} {er : List Nat} {k : Nat} (h : a.getD k 0 = b.getD k 0 ∨ k ∈ er) : dcnt a b er (k + 1) = dcnt a b er k := by
  unfold dcnt
  rw [List.range_succ, List.filter_append, List.length_append]
  rw [show (List.filter (fun i => decide (a.getD i 0 ≠ b.getD i 0) && decide (i ∉ er)) [k]) = [] from List.filter_cons_of_neg (by
    rcases h with h | h
    · rw [decide_eq_false (fun hn => hn h)]; simp
    · rw [decide_eq_false (p := k ∉ er) (fun hn => hn h)]; simp)]
  rfl
theorem dcnt_le (a b : List GF) (er : List Nat) (k : Nat) : dcnt a b er k ≤ k := by
  have := List.length_filter_le (fun i => decide (a.getD i 0 ≠ b.getD i 0) && decide (i ∉ er)) (List.range k)
  rwa [List.length_range] at this
attribute [irreducible] dcnt
set_option maxRecDepth 100000 in
set_option maxHeartbeats 1000000 in
theorem Decode_bad (A I : Option Addr) (n c m ci : Nat) (p : Int) (w : World) (hn : n ≤ 9223372036854775807) (hp : -9223372036854775808 ≤ p ∧ p ≤ 9223372036854775807) (hbad : wF n p ≠ (0, 0)) :
    Calls Try.prog 18 #[.slice A n c, .int .i64 p, .slice I m ci] w fun e w' => e = .returned (.tuple #[.slice none 0 0, .int .i64 0, .agg #[.int .i64 (wF n p).1, .int .i64 (wF n p).2]]) ∧ Below w.heap.size w w' := by
  have HS := Lib.hid (fun w => Syndromes_bad A n c p w hn hp hbad)
  have hc : (wF n p).1 = 4 ∨ (wF n p).1 = 9 := by
    rcases wF_cases n p with ⟨q, _, _, _, _, h⟩ | ⟨_, h⟩ | ⟨_, _, h⟩
    · exact absurd h hbad
    · rw [h]; exact .inl rfl
    · rw [h]; exact .inr rfl
  generalize (wF n p).1 = C at *
  generalize (wF n p).2 = F at *
  have xC : (C == 0) = false := by rw [beq_eq_false_iff_ne]; omega
  clear hbad
  go_enter Try.func18, Try.ntmps18
  go_wp2_with fail
  refine (HS.out _).mono ?_
  rintro e w1 ⟨rfl, hb1⟩
  have F0 := ((Has.new w 0 0 24).below hb1).al (.cells #[.int .i64 C, .int .i64 F] 24)
  have F1 := Has.new w1 C F 24
  have B1 := Bw.al (Bw.step (below_new w (.cells #[.int .i64 0, .int .i64 0] 24)) hb1) (.cells #[.int .i64 C, .int .i64 F] 24)
  clear hb1
  go_wp2
  generalize w1.alloc (.cells #[.int .i64 C, .int .i64 F] 24) = W at *
  generalize w1.heap.size = b1 at *
  have X1 := F1.ext
  (refine wp_region_extail 3 (by kernel_rfl) (by kernel_rfl) ?_; simp only [List.take_succ_cons, List.take_zero, List.drop_succ_cons, List.drop_zero]; (repeat (go_big_quiet_step ((fail)))); refine wpQuiet_nil ?_; intro W5 hw'; have hW5 := ext_below hw'; clear hw')
  have F5 := F0.below hW5
  have B5 := Bw.step B1 hW5
  clear X1
  obtain ⟨l0, c00, c01, f00, f01⟩ := id F5
  go_wp2
  exact bodyPost_ret (resF3 rfl rfl (F5.set2 C F)) rfl ⟨rfl, Bw.set (Bw.set B5 (Nat.le_refl _) _) (Nat.le_refl _) _⟩
/-- What rs.Decode returns for a word of a right length. -/
def DecPost (l : List GF) (p : Nat) (er : List Int) (w0 : World) (e : Ending) (w : World) : Prop :=
  Below w0.heap.size w0 w ∧
  ((incF er l.length 0 ≠ (0, 0) ∧ e = .returned (.tuple #[.slice none 0 0, .int .i64 0, .agg #[.int .i64 (incF er l.length 0).1, .int .i64 (incF er l.length 0).2]])) ∨
   ∃ es, er = toI es ∧ es.Nodup ∧ (∀ i ∈ es, i < l.length) ∧ es.Pairwise (· < ·) ∧
    ((∃ c A' c', Within p l es c ∧ e = .returned (.tuple #[.slice A' l.length c', .int .i64 ((dcnt l c [] l.length : Nat) : Int), .agg #[.int .i64 0, .int .i64 0]]) ∧ OwB w w0.heap.size (.slice A' l.length c') c) ∨
     ((∀ c, ¬ Within p l es c) ∧ e = .returned (.tuple #[.slice none 0 0, .int .i64 0, .agg #[.int .i64 16, .int .i64 (-1)]]))))
set_option maxRecDepth 100000 in
set_option maxHeartbeats 4000000 in
theorem Decode_ok (A I : Option Addr) (n c ci m p : Nat) (l : List GF) (er : List Int) (w : World) (hl : RdB w A n l) (hi : RdI w I m er) (hm : m ≤ 9223372036854775807) (h1 : p ≤ 32) (h2 : p + 1 ≤ n) (h3 : n ≤ 255) :
    Calls Try.prog 18 #[.slice A n c, .int .i64 p, .slice I m ci] w fun e w' => DecPost l p er w e w' := by
  have ll := hl.1
  subst ll
  have li := hi.1
  subst li
  have HL := Lib.hid hl
  have HI := Lib.hid hi
  have HS := Lib.hid (show incF er (l.length : Nat) 0 = incR er (l.length : Nat) 0 (er.length - 0) by unfold incF; rfl)
  clear hl hi
  go_enter Try.func18, Try.ntmps18
  go_wp2_with fail
  refine (Syndromes_ok _ _ _ _ _ _ (HL.out.al _) h1 h2 h3).mono ?_
  rintro e w1 ⟨A1, c1, rfl, ho1, hb1⟩
  have HR1 := Lib.hid (ho1.rd.1.al (.cells #[.int .i64 0, .int .i64 0] 24))
  have F0 := ((Has.new w 0 0 24).below hb1).al (.cells #[.int .i64 0, .int .i64 0] 24)
  have HF0 := Lib.hid F0
  obtain ⟨l1, c10, c11, f10, f11⟩ := Has.new w1 0 0 24
  have B1 := Bw.al (Bw.step (below_new w (.cells #[.int .i64 0, .int .i64 0] 24)) hb1) (.cells #[.int .i64 0, .int .i64 0] 24)
  have HB1 := Lib.hid B1
  clear ho1 hb1 F0 B1
  go_wp2
  clear l1 c10 c11 f10 f11
  generalize w1.alloc (.cells #[.int .i64 0, .int .i64 0] 24) = W at *
  generalize w1.heap.size = b1 at *
  go_loopw [29] (fun i wr => ∃ k : Nat, k ≤ er.length ∧ i = .int .i64 k ∧ incF er (l.length : Nat) 0 = incR er (l.length : Nat) 0 (er.length - k) ∧ wr = W) (fun i _ => er.length - (intOf i).toNat)
  case atStart => exact ⟨0, Nat.zero_le _, rfl, HS.out, rfl⟩
  case round =>
    obtain ⟨k, hk, rfl, hs, rfl⟩ := hrel
    have hF := HF0.out
    have hbw := HB1.out
    by_cases hlt : k < er.length
    · --[[a
      rw [incR_at er _ 0 hlt] at hs
      have hl1 := HI.out.below hbw
      obtain ⟨b, off, rfl, hlb, hcc⟩ := rdI_cell hl1 (i := k) hlt
      obtain ⟨l0, c00, c01, f00, f01⟩ := id hF
      by_cases c1 : 0 ≤ er.getD k 0 ∧ er.getD k 0 ≤ (l.length : Int) - 1
      · rw [if_neg (by simpa using c1)] at hs
        have d1 : decide (er.getD k 0 < 0) = false := by simp only [decide_eq_false_iff_not]; omega
        have d2 : decide ((l.length : Int) ≤ er.getD k 0) = false := by simp only [decide_eq_false_iff_not]; omega
        by_cases hk0 : k = 0
        · rw [if_neg (fun h => absurd h.1 (by omega))] at hs
          have HSS := Lib.hid hs
          have dk : decide (0 < k) = false := by simp only [decide_eq_false_iff_not]; omega
          clear hs hk0 c1
          generalize er.getD k 0 = y at *
          go_wp2
          go_roundw
          case rel => exact ⟨k + 1, by omega, by go_num, HSS.out, by first | rfl | trivial⟩
          case measure => simp [intOf]; omega
        · obtain ⟨b', off', e', _, hcd⟩ := rdI_cell hl1 (i := k - 1) (by omega)
          cases e'
          have ws : IntKind.i64.wrap ((k : Int) - 1) = ((k - 1 : Nat) : Int) := by rw [IntWalk.i64_in _ (by omega)]; omega
          have ws2 : (k : Int) - 1 = ((k - 1 : Nat) : Int) := by omega
          have hk1 : k - 1 < er.length := by omega
          have dk : decide (0 < k) = true := by simp only [decide_eq_true_eq]; omega
          by_cases c2 : er.getD k 0 ≤ er.getD (k - 1) 0
          · rw [if_pos ⟨by omega, c2⟩] at hs
            have HSS := Lib.hid hs
            have dc : decide (er.getD k 0 ≤ er.getD (k - 1) 0) = true := by simp only [decide_eq_true_eq]; exact c2
            clear hs c1 c2
            generalize er.getD k 0 = y at *
            generalize er.getD (k - 1) 0 = z at *
            go_wp2_with (go_at_call 34; refine (rsFault_any _ _ _).mono ?_; rintro e w' ⟨rfl, rfl⟩)
            exact bodyPost_ret (resF3 rfl rfl ((hF.set2 11 k).al _)) rfl ⟨Bw.al (Bw.set (Bw.set hbw (Nat.le_refl _) _) (Nat.le_refl _) _) _, .inl ⟨by rw [HSS.out]; simp, by rw [HSS.out, Int.zero_add]; rfl⟩⟩
          · rw [if_neg (fun h => c2 h.2)] at hs
            have HSS := Lib.hid hs
            have dc : decide (er.getD k 0 ≤ er.getD (k - 1) 0) = false := by simp only [decide_eq_false_iff_not]; exact c2
            clear hs c1 c2
            generalize er.getD k 0 = y at *
            generalize er.getD (k - 1) 0 = z at *
            go_wp2
            go_roundw
            case rel => exact ⟨k + 1, by omega, by go_num, HSS.out, by first | rfl | trivial⟩
            case measure => simp [intOf]; omega
      · rw [if_pos c1] at hs
        have HSS := Lib.hid hs
        by_cases c2 : er.getD k 0 < 0
        all_goals
          clear hs
          generalize er.getD k 0 = y at *
          first
            | (have d1 : decide (y < 0) = true := by simp only [decide_eq_true_eq]; omega)
            | (have d1 : decide (y < 0) = false := by simp only [decide_eq_false_iff_not]; omega
               have d2 : decide ((l.length : Int) ≤ y) = true := by simp only [decide_eq_true_eq]; omega)
          clear c1 c2
          go_wp2_with (go_at_call 34; refine (rsFault_any _ _ _).mono ?_; rintro e w' ⟨rfl, rfl⟩)
          exact bodyPost_ret (resF3 rfl rfl ((hF.set2 4 k).al _)) rfl ⟨Bw.al (Bw.set (Bw.set hbw (Nat.le_refl _) _) (Nat.le_refl _) _) _, .inl ⟨by rw [HSS.out]; simp, by rw [HSS.out, Int.zero_add]; rfl⟩⟩
    · obtain rfl : k = er.length := by omega
      rw [incR_end] at hs
      obtain ⟨es, rfl, hnd, hel, hen, hP⟩ := incF_nat hs
      have HP := Lib.hid hP
      have HEL := Lib.hid hel
      have HND := Lib.hid hnd
      have hI2 : RdI wr I es.length (toI es) := by rw [← toI_len]; exact HI.out.below hbw
      have HC := Lib.hid (fun cs ci => correct_any A A1 I c cs ci p l es wr (HL.out.below hbw) HR1.out hI2 h3 h1 hnd hel (by omega))
      rw [toI_len] at *
      clear hs hnd hel hP hI2 hlt hk
      go_wp2_with fail
      refine (HC.out _ _).mono ?_
      rintro e w2 hpost
      rcases hpost with ⟨cw, A2, c2, hwi, rfl, ho2, hb2⟩ | ⟨hno, ⟨A2, n2, c2, rfl⟩, hb2⟩
      · have HW := Lib.hid hwi
        have HO2 := Lib.hid ho2
        have hcl : l.length = cw.length := hwi.1.symm
        have HCL := Lib.hid hcl
        have hF2 := hF.below hb2
        have hbw2 := Bw.step hbw hb2
        have HL2 := Lib.hid ((HL.out.below hbw).below hb2)
        have HR2 := Lib.hid ho2.rd.1
        clear hwi ho2 hcl hb2 hF hbw
        go_wp2
        go_loopw [15, 70] (fun d i wr => ∃ k : Nat, k ≤ l.length ∧ i = .int .i64 k ∧ d = .int .i64 (dcnt l cw [] k : Nat) ∧ Below w2.heap.size w2 wr) (fun _ i _ => l.length - (intOf i).toNat)
        case atStart => exact ⟨0, Nat.zero_le _, rfl, by rw [dcnt_zero]; rfl, Below.refl _ _⟩
        case round =>
          obtain ⟨k, hk, rfl, rfl, hb3⟩ := hrel
          have hdl := dcnt_le l cw [] k
          by_cases hlt : k < l.length
          · --[[b
            obtain ⟨b3, o3, rfl, hl3, hc3⟩ := rd_cell (HL2.out.below hb3) (i := k) hlt
            obtain ⟨b4, o4, rfl, hl4, hc4⟩ := rd_cell (HR2.out.below hb3) (i := k) hlt
            have hx3 := fun x => cell_ext hl3 hc3 x
            have hx4 := fun x => cell_ext hl4 hc4 x
            by_cases he : cf l k = cf cw k
            · have z0 := z_eq he
              have HD := Lib.hid (dcnt_no (er := []) (.inl he))
              generalize cf l k = y at *
              generalize cf cw k = z at *
              clear he
              go_wp2
              (refine wp_region_ext (by kernel_rfl) (by kernel_rfl) ?_; (repeat (go_big_quiet_step ((fail)))); refine wpQuiet_nil ?_; intro W5 hw'; have hW5 := ext_below hw'; clear hw')
              go_wp2
              go_roundw
              case rel => exact ⟨k + 1, by omega, by go_num, by rw [HD.out], Bw.step hb3 hW5⟩
              case measure => simp [intOf]; omega
            · have z0 := z_ne he
              have HD := Lib.hid (dcnt_yes (er := []) he (by simp))
              generalize cf l k = y at *
              generalize cf cw k = z at *
              clear he
              go_wp2
              (refine wp_region_ext (by kernel_rfl) (by kernel_rfl) ?_; (repeat (go_big_quiet_step ((fail)))); refine wpQuiet_nil ?_; intro W5 hw'; have hW5 := ext_below hw'; clear hw')
              go_wp2
              go_roundw
              case rel => exact ⟨k + 1, by omega, by go_num, by rw [HD.out]; go_num, Bw.step hb3 hW5⟩
              case measure => simp [intOf]; omega
          · obtain rfl : k = l.length := by omega
            have F3 := hF2.below hb3
            have B3 := Bw.step hbw2 hb3
            obtain ⟨l0, c00, c01, f00, f01⟩ := id F3
            go_wp2
            have hl := HB1.out.size
            have hlw := HF0.out.1
            exact bodyPost_ret (resF3 rfl rfl (F3.set2 0 0)) rfl ⟨Bw.set (Bw.set B3 (Nat.le_refl _) _) (Nat.le_refl _) _, .inr ⟨es, rfl, HND.out, HEL.out, HP.out, .inl ⟨cw, A2, c2, HW.out, rfl, own_base (((HO2.out.below hb3).low (p := ⟨w.heap.size, 0, none⟩) hlw _).low (p := ⟨w.heap.size, 1, none⟩) hlw _) (Nat.le_of_lt hlw)⟩⟩⟩
      · have hF2 := hF.below hb2
        have hbw2 := Bw.step hbw hb2
        obtain ⟨l0, c00, c01, f00, f01⟩ := id hF2
        have HN := Lib.hid hno
        clear hno
        go_wp2_with (go_at_call 34; refine (rsFault_any _ _ _).mono ?_; rintro e w' ⟨rfl, rfl⟩)
        exact bodyPost_ret (resF3 rfl rfl ((hF2.set2 16 (-1)).al _)) rfl ⟨Bw.al (Bw.set (Bw.set hbw2 (Nat.le_refl _) _) (Nat.le_refl _) _) _, .inr ⟨es, rfl, HND.out, HEL.out, HP.out, .inr ⟨HN.out, rfl⟩⟩⟩
end Go.Proofs.Ytpkaaiefnabfbab
