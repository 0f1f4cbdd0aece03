/- Cross pages: the first page that is there. -/
import Derived.Test.YtcinfkmekkdhfaaCpJ
namespace Go.Proofs.Ytcinfkmekkdhfaa
open Go.RowKit Go.Shelf
set_option linter.unusedVariables false
attribute [local go_sem] Oper.semAt_some

theorem check1_any (A : Option Addr) (n c : Nat) (w : World) :
    Calls Try.prog 46 #[.slice A n c] w fun e w' => e = .returned (.bool (decide (0 < n))) ∧ w = w' := by
  go_enter Try.func46, Try.ntmps46
  go_wp2
  go_ret
  exact ⟨rfl, rfl⟩
set_option maxRecDepth 100000 in
set_option maxHeartbeats 2000000 in
theorem firstPage_hit (A : Option Addr) (m c b : Nat) (P : List (List GF)) (w : World) (hP : RdM w A m P) (hm : m ≤ 100000) (hb : b < m) (hgood : 0 < (P.getD b []).length) (hbad : ∀ i, i < b → (P.getD i []).length = 0) :
    Calls Try.prog 45 #[.slice A m c, .func (.func 46) #[] #[]] w fun e w' => e = .returned (.int .i64 b) ∧ Below w.heap.size w w' := by
  have HP := Lib.hid hP
  have HB := Lib.hid hbad
  clear hP hbad
  go_enter Try.func45, Try.ntmps45
  go_wp2
  go_loopw [8] (fun i wr => ∃ k : Nat, k ≤ b ∧ i = .int .i64 k ∧ Below w.heap.size w wr) (fun i _ => b - (intOf i).toNat)
  case atStart => exact ⟨0, Nat.zero_le _, rfl, Below.refl _ _⟩
  case round =>
    obtain ⟨k, hk, rfl, hbw⟩ := hrel
    obtain ⟨ba, oa, rfl, hba, hca⟩ := (HP.out.below hbw).2 (by omega)
    obtain ⟨A1, c1, e1, r1⟩ := hca k (by omega)
    have HW := Lib.hid hbw
    clear hca r1 hbw
    have hkm : k < m := by omega
    by_cases hlt : k < b
    · have h0 := HB.out k hlt
      rw [h0] at e1
      go_wp2_with (go_at_call 46; refine (check1_any _ _ _ _).mono ?_; rintro e w' ⟨rfl, rfl⟩)
      go_roundw
      case rel => exact ⟨k + 1, by omega, by go_num, HW.out⟩
      case measure => simp [intOf]; omega
    · obtain rfl : b = k := by omega
      have h1 : decide (0 < (P.getD b []).length) = true := by simp only [decide_eq_true_eq]; exact hgood
      go_wp2_with (go_at_call 46; refine (check1_any _ _ _ _).mono ?_; rintro e w' ⟨rfl, rfl⟩)
      go_ret
      exact ⟨rfl, HW.out⟩
set_option maxRecDepth 100000 in
set_option maxHeartbeats 2000000 in
theorem firstPage_miss (A : Option Addr) (m c : Nat) (P : List (List GF)) (w : World) (hP : RdM w A m P) (hm : m ≤ 100000) (hbad : ∀ i, i < m → (P.getD i []).length = 0) :
    Calls Try.prog 45 #[.slice A m c, .func (.func 46) #[] #[]] w fun e w' => e = .returned (.int .i64 (-1)) ∧ Below w.heap.size w w' := by
  have HP := Lib.hid hP
  have HB := Lib.hid hbad
  clear hP hbad
  go_enter Try.func45, Try.ntmps45
  go_wp2
  go_loopw [8] (fun i wr => ∃ k : Nat, k ≤ m ∧ i = .int .i64 k ∧ Below w.heap.size w wr) (fun i _ => m - (intOf i).toNat)
  case atStart => exact ⟨0, Nat.zero_le _, rfl, Below.refl _ _⟩
  case round =>
    obtain ⟨k, hk, rfl, hbw⟩ := hrel
    have HW := Lib.hid hbw
    by_cases hlt : k < m
    · obtain ⟨ba, oa, rfl, hba, hca⟩ := (HP.out.below hbw).2 (by omega)
      obtain ⟨A1, c1, e1, r1⟩ := hca k (by omega)
      have h0 := HB.out k hlt
      rw [h0] at e1
      clear hca r1 hbw
      go_wp2_with (go_at_call 46; refine (check1_any _ _ _ _).mono ?_; rintro e w' ⟨rfl, rfl⟩)
      go_roundw
      case rel => first | exact ⟨k + 1, by omega, by go_num, HW.out⟩ | ((repeat apply Exists.intro); exact ⟨⟨k + 1, by omega, by go_num, HW.out⟩, rfl⟩)
      case measure => simp [intOf]; omega
    · obtain rfl : m = k := by omega
      go_wp2
      go_ret
      exact ⟨rfl, HW.out⟩
end Go.Proofs.Ytcinfkmekkdhfaa
