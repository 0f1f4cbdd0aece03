/- Cross pages: the reference's PageSize. -/
import Derived.Test.YtcinfkmekkdhfaaCpQ
namespace Go.Proofs.Ytcinfkmekkdhfaa
open Go.RowKit Go.Shelf
set_option linter.unusedVariables false
attribute [local go_sem] Oper.semAt_some

set_option maxRecDepth 100000 in
set_option maxHeartbeats 2000000 in
theorem pageSize_hit (A : Option Addr) (m c b : Nat) (P : List (List GF)) (w : World) (hP : RdM w A m P) (hm : m ≤ 100000) (hb : b < m) (hgood : 0 < (P.getD b []).length) (hbad : ∀ i, i < b → (P.getD i []).length = 0) :
    Calls Try.prog 21 #[.slice A m c] w fun e w' => e = .returned (.int .i64 ((P.getD b []).length : Int)) ∧ Below w.heap.size w w' := by
  have HP := Lib.hid hP
  have HB := Lib.hid hbad
  clear hP hbad
  go_enter Try.func21, Try.ntmps21
  go_wp2
  go_loopw [3] (fun i wr => ∃ k : Nat, k ≤ b ∧ i = .int .i64 k ∧ Below w.heap.size w wr) (fun i _ => b - (intOf i).toNat)
  case atStart => exact ⟨0, Nat.zero_le _, rfl, Below.refl _ _⟩
  case round =>
    obtain ⟨k, hk, rfl, hbw⟩ := hrel
    obtain ⟨ba, oa, rfl, hba, hca⟩ := (HP.out.below hbw).2 (by omega)
    obtain ⟨A1, c1, e1, r1⟩ := hca k (by omega)
    have HW := Lib.hid hbw
    have hkm : k < m := by omega
    clear hca r1 hbw
    by_cases hlt : k < b
    · have h0 := HB.out k hlt
      rw [h0] at e1
      go_wp2
      go_roundw
      case rel => exact ⟨k + 1, by omega, by go_num, HW.out⟩
      case measure => simp [intOf]; omega
    · obtain rfl : b = k := by omega
      have h1 : decide (0 < ((P.getD b []).length : Int)) = true := by simp only [decide_eq_true_eq]; omega
      have h2 : decide (0 < (P.getD b []).length) = true := by simp only [decide_eq_true_eq]; omega
      generalize hq : (P.getD b []).length = q at *
      have HQ := Lib.hid hq
      clear hq
      go_wp2
      go_ret
      exact ⟨by rw [HQ.out]; rfl, HW.out⟩
set_option maxRecDepth 100000 in
set_option maxHeartbeats 2000000 in
theorem pageSize_miss (A : Option Addr) (m c : Nat) (P : List (List GF)) (w : World) (hP : RdM w A m P) (hm : m ≤ 100000) (hbad : ∀ i, i < m → (P.getD i []).length = 0) :
    Calls Try.prog 21 #[.slice A m c] w fun e w' => e = .returned (.int .i64 0) ∧ Below w.heap.size w w' := by
  have HP := Lib.hid hP
  have HB := Lib.hid hbad
  clear hP hbad
  go_enter Try.func21, Try.ntmps21
  go_wp2
  go_loopw [3] (fun i wr => ∃ k : Nat, k ≤ m ∧ i = .int .i64 k ∧ Below w.heap.size w wr) (fun i _ => m - (intOf i).toNat)
  case atStart => exact ⟨0, Nat.zero_le _, rfl, Below.refl _ _⟩
  case round =>
    obtain ⟨k, hk, rfl, hbw⟩ := hrel
    have HW := Lib.hid hbw
    by_cases hlt : k < m
    · obtain ⟨ba, oa, rfl, hba, hca⟩ := (HP.out.below hbw).2 (by omega)
      obtain ⟨A1, c1, e1, r1⟩ := hca k (by omega)
      have h0 := HB.out k hlt
      rw [h0] at e1
      clear hca r1 hbw
      go_wp2
      go_roundw
      case rel => exact ⟨k + 1, by omega, by go_num, HW.out⟩
      case measure => simp [intOf]; omega
    · obtain rfl : m = k := by omega
      go_wp2
      go_ret
      exact ⟨rfl, HW.out⟩
end Go.Proofs.Ytcinfkmekkdhfaa
