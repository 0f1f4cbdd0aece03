/- Walks of the package rs: fault, syndromes, Syndromes, Check; of the reference: Syndromes, Zero, WordFault, DataFault. -/
import Derived.Test.YtpkaaiefnabfbabRsB
import Derived.Test.YtpkaaiefnabfbabSlB
namespace Go.Proofs.Ytpkaaiefnabfbab
open Go.RowKit
set_option linter.unusedVariables false

set_option maxHeartbeats 400000 in
theorem rsFault_any (c i : Int) (w : World) :
    Calls Try.prog 34 #[.int .i64 c, .int .i64 i] w fun e w' => e = .returned (.agg #[.int .i64 c, .int .i64 i]) ∧ w.alloc (.cells #[.int .i64 c, .int .i64 i] 24) = w' := by
  go_enter Try.func34, Try.ntmps34
  go_wp2
  exact bodyPost_ret (v := .agg #[.int .i64 c, .int .i64 i]) (by simp [results, Try.results34, go_sem]) rfl ⟨rfl, rfl⟩
/-- The syndromes. -/
def syndL (l : List GF) (p : Nat) : List GF := (List.range p).map (synd l)
theorem syndL_len (l : List GF) (p : Nat) : (syndL l p).length = p := by simp [syndL]
theorem syndL_get (l : List GF) {p j : Nat} (hj : j < p) : (syndL l p).getD j 0 = synd l j := by simp [syndL, List.getD, hj]
theorem syndL_zero {l : List GF} {p : Nat} : zeroB (syndL l p) = true ↔ isCW p l := by
  unfold zeroB
  rw [decide_eq_true_eq, syndL_len]
  exact ⟨fun h j hj => by rw [← syndL_get l hj]; exact h j hj, fun h j hj => by rw [syndL_get l hj]; exact h j hj⟩
def hw (l : List GF) (x : GF) (k : Nat) : GF := valL (l.take k).reverse x
theorem hw_zero (l : List GF) (x : GF) : hw l x 0 = 0 := by simp [hw, valL]
theorem hw_succ (l : List GF) (x : GF) {k : Nat} (hk : k < l.length) : hw l x (k + 1) = hw l x k * x + cf l k := by
  unfold hw
  rw [trim_take hk, List.reverse_append, List.reverse_singleton]; rfl
theorem hw_full (l : List GF) (j : Nat) : hw l (GF.exp j) l.length = synd l j := by unfold hw synd; rw [List.take_of_length_le (Nat.le_refl _)]
def syIn (l : List GF) (p j k : Nat) : List GF := (List.range p).map fun i => if i < j then synd l i else if i = j then hw l (GF.exp j) k else 0
theorem syIn_len (l : List GF) (p j k : Nat) : (syIn l p j k).length = p := by simp [syIn]
theorem syIn_get (l : List GF) {p i : Nat} (j k : Nat) (hi : i < p) : (syIn l p j k).getD i 0 = if i < j then synd l i else if i = j then hw l (GF.exp j) k else 0 := by simp [syIn, List.getD, hi]
theorem syIn_start (l : List GF) (p : Nat) : syIn l p 0 0 = List.replicate p 0 := by
  refine list_eq_getD (by rw [syIn_len, List.length_replicate]) fun i hi => ?_
  rw [syIn_len] at hi
  rw [syIn_get _ _ _ hi, if_neg (by omega), hw_zero]
  have : (List.replicate p (0 : GF)).getD i 0 = 0 := by simp [List.getD, hi]
  rw [this]; split <;> rfl
theorem syIn_step (l : List GF) {p j : Nat} (k : Nat) (hj : j < p) : (syIn l p j k).set j (hw l (GF.exp j) (k + 1)) = syIn l p j (k + 1) := by
  refine list_eq_getD (by rw [List.length_set, syIn_len, syIn_len]) fun i hi => ?_
  rw [List.length_set, syIn_len] at hi
  rw [syIn_get _ _ _ hi]
  by_cases e : i = j
  · subst e; rw [getD_set_self (by rw [syIn_len]; exact hi), if_neg (by omega), if_pos rfl]
  · rw [getD_set_other (Ne.symm e), syIn_get _ _ _ hi]
    rw [if_neg e, if_neg e]
theorem syIn_next (l : List GF) (p j : Nat) : syIn l p j l.length = syIn l p (j + 1) 0 := by
  refine list_eq_getD (by rw [syIn_len, syIn_len]) fun i hi => ?_
  rw [syIn_len] at hi
  rw [syIn_get _ _ _ hi, syIn_get _ _ _ hi, hw_full, hw_zero]
  by_cases h1 : i < j
  · rw [if_pos h1, if_pos (by omega)]
  · rw [if_neg h1]
    by_cases h2 : i = j
    · rw [if_pos h2, if_pos (by omega), h2]
    · rw [if_neg h2, if_neg (by omega)]; split <;> rfl
theorem syIn_end (l : List GF) (p : Nat) : syIn l p p 0 = syndL l p := by
  refine list_eq_getD (by rw [syIn_len, syndL_len]) fun i hi => ?_
  rw [syIn_len] at hi
  rw [syIn_get _ _ _ hi, if_pos hi, syndL_get l hi]
set_option maxRecDepth 100000 in
set_option maxHeartbeats 2000000 in
theorem syndromes_any (A : Option Addr) (n c p : Nat) (l : List GF) (w : World) (hl : RdB w A n l) (hn : n ≤ 1000000) (hp : p ≤ 1000000) :
    Calls Try.prog 47 #[.slice A n c, .int .i64 p] w fun e w' => ∃ A' c', e = .returned (.slice A' p c') ∧ OwB w' w.heap.size (.slice A' p c') (syndL l p) ∧ Below w.heap.size w w' := by
  have ll := hl.1
  subst ll
  have HL := Lib.hid hl
  have hmk := run_makeB p (by omega)
  have O0 := OwB.new w w.heap.size p (Nat.le_refl _) (by unfold maxLen; omega)
  rw [← syIn_start l p] at O0
  have HO := Lib.hid O0
  have B0 := below_new w (.cells (zerosB p) 5)
  clear hl O0
  go_enter Try.func47, Try.ntmps47
  go_wp2
  generalize w.alloc (.cells (zerosB p) 5) = W at *
  generalize hg : w.heap.size = g at *
  have HG := Lib.hid hg
  clear hmk hg
  go_loopw [14] (fun i wr => ∃ j : Nat, j ≤ p ∧ i = .int .i64 j ∧ OwB wr g (.slice (some ⟨g, 0, none⟩) p p) (syIn l p j 0) ∧ Below g w wr) (fun i _ => p - (intOf i).toNat)
  case atStart => exact ⟨0, Nat.zero_le _, rfl, HO.out, B0⟩
  case round =>
    obtain ⟨j, hj, rfl, ho, hbw⟩ := hrel
    by_cases hlt : j < p
    · have HO := Lib.hid ho
      obtain ⟨wo, rfl⟩ : ∃ wo : World, wo = wr := ⟨_, rfl⟩
      have dj : decide ((j : Int) < p) = true := by simp only [decide_eq_true_eq]; omega
      clear ho
      go_wp2_with (go_at_call 29; refine (gExpZ _ _).mono ?_; rintro e w' ⟨rfl, rfl⟩)
      go_loopw [21] (fun i wr => ∃ k : Nat, k ≤ l.length ∧ i = .int .i64 k ∧ OwB wr g (.slice (some ⟨g, 0, none⟩) p p) (syIn l p j k) ∧ Below g w wr) (fun i _ => l.length - (intOf i).toNat)
      case atStart => exact ⟨0, Nat.zero_le _, rfl, HO.out, hbw⟩
      case round =>
        obtain ⟨k, hk, rfl, ho, hbw2⟩ := hrel
        by_cases hlk : k < l.length
        · obtain ⟨b, off, rfl, hlb, hcc⟩ := rd_cell (HL.out.below (by rw [HG.out]; exact hbw2)) (i := k) hlk
          have hcl := ho.cellAt (i := j) hlt
          rw [syIn_get _ _ _ hlt, if_neg (by omega), if_pos rfl] at hcl
          have hfz := ho.frozenAt j
          have hst := ho.set j (hw l (GF.exp j) (k + 1))
          rw [syIn_step l k hlt, hw_succ l _ hlk] at hst
          have HST := Lib.hid hst
          have HLT := Lib.hid ho.lt.1
          generalize hw l (GF.exp j) k = s at *
          generalize cf l k = y at *
          generalize GF.exp (j : Int) = x at *
          clear ho hst
          go_wp2_with (first
            | (go_at_call 26; refine (gMulZ s x _).mono ?_; rintro e w' ⟨rfl, rfl⟩)
            | (go_at_call 25; refine (gAddZ (s * x) y _).mono ?_; rintro e w' ⟨rfl, rfl⟩))
          go_roundw
          case rel => exact ⟨k + 1, by omega, by go_num, HST.out, hbw2.setCell HLT.out _⟩
          case measure => simp [intOf]; omega
        · obtain rfl : k = l.length := by omega
          rw [syIn_next] at ho
          have HO2 := Lib.hid ho
          clear ho
          go_wp2
          go_roundw
          case rel => first | exact ⟨j + 1, by omega, by go_num, HO2.out, hbw2⟩ | ((repeat apply Exists.intro); exact ⟨⟨j + 1, by omega, by go_num, HO2.out, hbw2⟩, rfl⟩)
          case measure => simp [intOf]; omega
    · obtain rfl : j = p := by omega
      rw [syIn_end] at ho
      go_wp2
      go_ret
      exact ⟨_, _, rfl, by rw [HG.out]; exact ho, by rw [HG.out]; exact hbw⟩
/-- The faults of a word. -/
def wF (n : Nat) (p : Int) : Int × Int := if ¬ (0 ≤ p ∧ p ≤ 32) then (4, -2) else if ¬ (p + 1 ≤ n ∧ n ≤ 255) then (9, -1) else (0, 0)
theorem wF_ok {n p : Nat} (h1 : p ≤ 32) (h2 : p + 1 ≤ n) (h3 : n ≤ 255) : wF n p = (0, 0) := by unfold wF; rw [if_neg (by omega), if_neg (by omega)]
theorem wF_cases (n : Nat) (p : Int) : (∃ q : Nat, p = q ∧ q ≤ 32 ∧ q + 1 ≤ n ∧ n ≤ 255 ∧ wF n p = (0, 0)) ∨ (¬ (0 ≤ p ∧ p ≤ 32) ∧ wF n p = (4, -2)) ∨ ((0 ≤ p ∧ p ≤ 32) ∧ ¬ (p + 1 ≤ n ∧ n ≤ 255) ∧ wF n p = (9, -1)) := by
  by_cases h1 : 0 ≤ p ∧ p ≤ 32
  · by_cases h2 : p + 1 ≤ n ∧ n ≤ 255
    · obtain ⟨q, rfl⟩ := Int.eq_ofNat_of_zero_le h1.1
      exact .inl ⟨q, rfl, by omega, by omega, by omega, wF_ok (by omega) (by omega) (by omega)⟩
    · exact .inr (.inr ⟨h1, h2, by unfold wF; rw [if_neg (by omega), if_pos h2]⟩)
  · exact .inr (.inl ⟨h1, by unfold wF; rw [if_pos h1]⟩)
set_option maxHeartbeats 1000000 in
theorem Syndromes_ok (A : Option Addr) (n c p : Nat) (l : List GF) (w : World) (hl : RdB w A n l) (h1 : p ≤ 32) (h2 : p + 1 ≤ n) (h3 : n ≤ 255) :
    Calls Try.prog 27 #[.slice A n c, .int .i64 p] w fun e w' => ∃ A' c', e = .returned (.tuple #[.slice A' p c', .agg #[.int .i64 0, .int .i64 0]]) ∧ OwB w' w.heap.size (.slice A' p c') (syndL l p) ∧ Below w.heap.size w w' := by
  have HL := Lib.hid hl
  have d1 : decide ((p : Int) < 0) = false := by simp only [decide_eq_false_iff_not]; omega
  have d2 : decide ((n : Int) < (p : Int) + 1) = false := by simp only [decide_eq_false_iff_not]; omega
  clear hl
  go_enter Try.func27, Try.ntmps27
  go_wp2_with fail
  refine (syndromes_any _ _ _ _ _ _ (HL.out.al _) (by omega) (by omega)).mono ?_
  rintro e w1 ⟨A1, c1, rfl, ho1, hb1⟩
  have F0 := (Has.new w 0 0 24).below hb1
  have B1 := Bw.step (below_new w (.cells #[.int .i64 0, .int .i64 0] 24)) hb1
  rw [World.size_alloc] at ho1
  obtain ⟨l0, c00, c01, f00, f01⟩ := id F0
  go_wp2
  exact bodyPost_ret (resF2 rfl rfl (F0.set2 0 0)) rfl ⟨A1, c1, rfl, own_base ((ho1.low (p := ⟨w.heap.size, 0, none⟩) (Nat.lt_succ_self _) _).low (p := ⟨w.heap.size, 1, none⟩) (Nat.lt_succ_self _) _) (Nat.le_succ _), Bw.set (Bw.set B1 (Nat.le_refl _) _) (Nat.le_refl _) _⟩
set_option maxHeartbeats 1000000 in
theorem Syndromes_bad (A : Option Addr) (n c : Nat) (p : Int) (w : World) (hn : n ≤ 9223372036854775807) (hp : -9223372036854775808 ≤ p ∧ p ≤ 9223372036854775807) (hbad : wF n p ≠ (0, 0)) :
    Calls Try.prog 27 #[.slice A n c, .int .i64 p] w fun e w' => e = .returned (.tuple #[.slice none 0 0, .agg #[.int .i64 (wF n p).1, .int .i64 (wF n p).2]]) ∧ Below w.heap.size w w' := by
  rcases wF_cases n p with ⟨q, _, _, _, _, h⟩ | ⟨h1, h⟩ | ⟨h1, h2, h⟩
  · exact absurd h hbad
  · rw [h]
    clear h hbad
    rcases Int.lt_or_le p 0 with h | h
    all_goals
      first
        | (have d1 : decide (p < 0) = true := by simp only [decide_eq_true_eq]; omega)
        | (have d1 : decide (p < 0) = false := by simp only [decide_eq_false_iff_not]; omega
           have d2 : 32 < p := by omega)
      go_enter Try.func27, Try.ntmps27
      go_wp2_with fail
      refine (rsFault_any _ _ _).mono ?_; rintro e w1 ⟨rfl, rfl⟩
      have F1 := (Has.new w 0 0 24).al (.cells #[.int .i64 4, .int .i64 (-2)] 24)
      have B1 := Bw.al (below_new w (.cells #[.int .i64 0, .int .i64 0] 24)) (.cells #[.int .i64 4, .int .i64 (-2)] 24)
      obtain ⟨l0, c00, c01, f00, f01⟩ := id F1
      go_wp2
      exact bodyPost_ret (resF2 rfl rfl ((Has.new w 4 (-2) _).al _)) rfl ⟨rfl, Bw.al (below_new w _) _⟩
  · rw [h]
    clear h hbad
    have d1 : decide (p < 0) = false := by simp only [decide_eq_false_iff_not]; omega
    rcases Int.lt_or_le (n : Int) (p + 1) with h | h
    all_goals
      first
        | (have d2 : decide ((n : Int) < p + 1) = true := by simp only [decide_eq_true_eq]; omega)
        | (have d2 : decide ((n : Int) < p + 1) = false := by simp only [decide_eq_false_iff_not]; omega
           have d3 : 255 < n := by omega)
      go_enter Try.func27, Try.ntmps27
      go_wp2_with fail
      refine (rsFault_any _ _ _).mono ?_; rintro e w1 ⟨rfl, rfl⟩
      have F1 := (Has.new w 0 0 24).al (.cells #[.int .i64 9, .int .i64 (-1)] 24)
      have B1 := Bw.al (below_new w (.cells #[.int .i64 0, .int .i64 0] 24)) (.cells #[.int .i64 9, .int .i64 (-1)] 24)
      obtain ⟨l0, c00, c01, f00, f01⟩ := id F1
      go_wp2
      exact bodyPost_ret (resF2 rfl rfl ((Has.new w 9 (-1) _).al _)) rfl ⟨rfl, Bw.al (below_new w _) _⟩
end Go.Proofs.Ytpkaaiefnabfbab
