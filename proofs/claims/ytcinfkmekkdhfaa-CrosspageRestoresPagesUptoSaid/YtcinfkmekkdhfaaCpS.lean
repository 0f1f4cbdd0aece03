/- Cross pages: the reference's faults of Restore: numbers. -/
import Derived.Test.YtcinfkmekkdhfaaCpR
namespace Go.Proofs.Ytcinfkmekkdhfaa
open Go.RowKit Go.Shelf
set_option linter.unusedVariables false
attribute [local go_sem] Oper.semAt_some

set_option maxRecDepth 100000 in
set_option maxHeartbeats 1000000 in
theorem rRes_b1 (A B : Option Addr) (m c m' c' : Nat) (p : Int) (w : World) (hp : p < 0 ∨ 16 < p) :
    Calls Try.prog 15 #[.slice A m c, .slice B m' c', .int .i64 p] w (AggF w 4 (-3)) := by
  have h1 : inB p 0 16 = false := inB_f (by omega)
  go_enter Try.func15, Try.ntmps15
  go_wp2_with (first | (go_at_call 26; refine (refIn_any _ _ _ _).mono ?_; rintro e w' ⟨rfl, rfl⟩) | (go_at_call 27; refine (refAt_any _ _ _).mono ?_; rintro e w' ⟨rfl, rfl⟩))
  exact bodyPost_ret (v := .agg #[.int .i64 4, .int .i64 (-3)]) (by simp [results, Try.results15, go_sem]) rfl ⟨rfl, by (repeat (first | exact Below.refl _ _ | assumption | refine Bw.al ?_ _ | refine Bw.step ?_ (by assumption) | refine Bw.drew ?_))⟩
set_option maxRecDepth 100000 in
set_option maxHeartbeats 1000000 in
theorem rRes_b2 (A B : Option Addr) (m c m' c' : Nat) (p : Int) (w : World) (hp : 0 ≤ p ∧ p ≤ 16) (hm : (m : Int) < p + 1) :
    Calls Try.prog 15 #[.slice A m c, .slice B m' c', .int .i64 p] w (AggF w 9 (-1)) := by
  have h1 : inB p 0 16 = true := inB_t (by omega)
  have h3 : decide ((m : Int) ≤ p) = true := by simp only [decide_eq_true_eq]; omega
  go_enter Try.func15, Try.ntmps15
  go_wp2_with (first | (go_at_call 26; refine (refIn_any _ _ _ _).mono ?_; rintro e w' ⟨rfl, rfl⟩) | (go_at_call 27; refine (refAt_any _ _ _).mono ?_; rintro e w' ⟨rfl, rfl⟩))
  exact bodyPost_ret (v := .agg #[.int .i64 9, .int .i64 (-1)]) (by simp [results, Try.results15, go_sem]) rfl ⟨rfl, by (repeat (first | exact Below.refl _ _ | assumption | refine Bw.al ?_ _ | refine Bw.step ?_ (by assumption) | refine Bw.drew ?_))⟩
set_option maxRecDepth 100000 in
set_option maxHeartbeats 1000000 in
theorem rRes_b3 (A B : Option Addr) (m c m' c' : Nat) (p : Int) (w : World) (hp : 0 ≤ p ∧ p ≤ 16) (hm : 48 + p < m) :
    Calls Try.prog 15 #[.slice A m c, .slice B m' c', .int .i64 p] w (AggF w 2 (-1)) := by
  have h1 : inB p 0 16 = true := inB_t (by omega)
  have h3 : decide ((m : Int) ≤ p) = false := by simp only [decide_eq_false_iff_not]; omega
  have h4 : decide (48 + p < (m : Int)) = true := by simp only [decide_eq_true_eq]; omega
  go_enter Try.func15, Try.ntmps15
  go_wp2_with (first | (go_at_call 26; refine (refIn_any _ _ _ _).mono ?_; rintro e w' ⟨rfl, rfl⟩) | (go_at_call 27; refine (refAt_any _ _ _).mono ?_; rintro e w' ⟨rfl, rfl⟩))
  exact bodyPost_ret (v := .agg #[.int .i64 2, .int .i64 (-1)]) (by simp [results, Try.results15, go_sem]) rfl ⟨rfl, by (repeat (first | exact Below.refl _ _ | assumption | refine Bw.al ?_ _ | refine Bw.step ?_ (by assumption) | refine Bw.drew ?_))⟩
set_option maxRecDepth 100000 in
set_option maxHeartbeats 1000000 in
theorem rRes_b4 (A B : Option Addr) (m c m' c' : Nat) (p : Int) (P : List (List GF)) (w : World) (hP : RdM w A m P) (hp : 0 ≤ p ∧ p ≤ 16) (hm : p + 1 ≤ m ∧ m ≤ 48 + p) (h0 : ∀ i, i < m → (P.getD i []).length = 0) :
    Calls Try.prog 15 #[.slice A m c, .slice B m' c', .int .i64 p] w (AggF w 17 (-1)) := by
  have h1 : inB p 0 16 = true := inB_t (by omega)
  have h3 : decide ((m : Int) ≤ p) = false := by simp only [decide_eq_false_iff_not]; omega
  have h4 : decide (48 + p < (m : Int)) = false := by simp only [decide_eq_false_iff_not]; omega
  have HP := Lib.hid hP
  have H0 := Lib.hid h0
  have hF0 := Has.new w 0 0 24
  clear hP h0
  go_enter Try.func15, Try.ntmps15
  go_wp2_with (first | (go_at_call 26; refine (refIn_any _ _ _ _).mono ?_; rintro e w' ⟨rfl, rfl⟩) | (go_at_call 27; refine (refAt_any _ _ _).mono ?_; rintro e w' ⟨rfl, rfl⟩) | (go_at_call 21; refine (pageSize_miss _ _ _ P _ (HP.out.below (below_new _ _)) (by omega) H0.out).mono ?_; rintro e w' ⟨rfl, hb2⟩; have B1 := Bw.step (below_new w (.cells #[.int .i64 0, .int .i64 0] 24)) hb2; have F1 := hF0.below hb2; clear hb2 hF0; obtain ⟨l0, c00, c01, f00, f01⟩ := id F1))
  exact bodyPost_ret (resF1 rfl rfl ((F1.set2 17 (-1)).al _)) rfl ⟨rfl, Bw.al ((B1.setCell (p := ⟨w.heap.size, 0, none⟩) (Nat.le_refl _) _).setCell (p := ⟨w.heap.size, 1, none⟩) (Nat.le_refl _) _) _⟩
end Go.Proofs.Ytcinfkmekkdhfaa
