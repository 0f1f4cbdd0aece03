/- Cross pages: check, where numbers do not fit. -/
import Derived.Test.YtcinfkmekkdhfaaCpN
namespace Go.Proofs.Ytcinfkmekkdhfaa
open Go.RowKit Go.Shelf
set_option linter.unusedVariables false
attribute [local go_sem] Oper.semAt_some

/-- How check fails. -/
def ChkBad (w : World) (c i : Int) (e : Ending) (w' : World) : Prop := e = .returned (.tuple #[.int .i64 0, .agg #[.int .i64 c, .int .i64 i]]) ∧ Below w.heap.size w w'
set_option maxRecDepth 100000 in
set_option maxHeartbeats 1000000 in
theorem cpCheck_b1 (A B : Option Addr) (m c m' c' : Nat) (p : Int) (w : World) (hp : p < 0 ∨ 16 < p) :
    Calls Try.prog 29 #[.slice A m c, .slice B m' c', .int .i64 p] w (ChkBad w 4 (-3)) := by
  by_cases h : p < 0
  · have h1 : decide (p < 0) = true := by simp; omega
    go_enter Try.func29, Try.ntmps29
    go_wp2_with (go_at_call 23; refine (cpFault_any _ _ _).mono ?_; rintro e w' ⟨rfl, rfl⟩)
    exact bodyPost_ret (resF2 rfl rfl ((Has.new w _ _ _).al _)) rfl ⟨rfl, below_new2 _ _ _⟩
  · have h1 : decide (p < 0) = false := by simp; omega
    have h2 : 16 < p := by omega
    go_enter Try.func29, Try.ntmps29
    go_wp2_with (go_at_call 23; refine (cpFault_any _ _ _).mono ?_; rintro e w' ⟨rfl, rfl⟩)
    exact bodyPost_ret (resF2 rfl rfl ((Has.new w _ _ _).al _)) rfl ⟨rfl, below_new2 _ _ _⟩
set_option maxRecDepth 100000 in
set_option maxHeartbeats 1000000 in
theorem cpCheck_b2 (A B : Option Addr) (m c m' c' : Nat) (p : Int) (w : World) (hp : 0 ≤ p ∧ p ≤ 16) (hm : (m : Int) < p + 1) :
    Calls Try.prog 29 #[.slice A m c, .slice B m' c', .int .i64 p] w (ChkBad w 9 (-1)) := by
  have h1 : decide (p < 0) = false := by simp; omega
  have h2 : decide (16 < p) = false := by simp; omega
  have h3 : decide ((m : Int) < p + 1) = true := by simp; omega
  go_enter Try.func29, Try.ntmps29
  go_wp2_with (go_at_call 23; refine (cpFault_any _ _ _).mono ?_; rintro e w' ⟨rfl, rfl⟩)
  exact bodyPost_ret (resF2 rfl rfl ((Has.new w _ _ _).al _)) rfl ⟨rfl, below_new2 _ _ _⟩
set_option maxRecDepth 100000 in
set_option maxHeartbeats 1000000 in
theorem cpCheck_b3 (A B : Option Addr) (m c m' c' : Nat) (p : Int) (w : World) (hp : 0 ≤ p ∧ p ≤ 16) (hm : 48 + p < m) :
    Calls Try.prog 29 #[.slice A m c, .slice B m' c', .int .i64 p] w (ChkBad w 2 (-1)) := by
  have h1 : decide (p < 0) = false := by simp; omega
  have h2 : decide (16 < p) = false := by simp; omega
  have h3 : decide ((m : Int) < p + 1) = false := by simp; omega
  have h4 : decide (48 + p < (m : Int)) = true := by simp; omega
  go_enter Try.func29, Try.ntmps29
  go_wp2_with (go_at_call 23; refine (cpFault_any _ _ _).mono ?_; rintro e w' ⟨rfl, rfl⟩)
  exact bodyPost_ret (resF2 rfl rfl ((Has.new w _ _ _).al _)) rfl ⟨rfl, below_new2 _ _ _⟩
set_option maxRecDepth 100000 in
set_option maxHeartbeats 1000000 in
theorem cpCheck_b4 (A B : Option Addr) (m c m' c' : Nat) (p : Int) (P : List (List GF)) (w : World) (hP : RdM w A m P) (hp : 0 ≤ p ∧ p ≤ 16) (hm : p + 1 ≤ m ∧ m ≤ 48 + p) (h0 : ∀ i, i < m → (P.getD i []).length = 0) :
    Calls Try.prog 29 #[.slice A m c, .slice B m' c', .int .i64 p] w (ChkBad w 17 (-1)) := by
  have h1 : decide (p < 0) = false := by simp; omega
  have h2 : decide (16 < p) = false := by simp; omega
  have h3 : decide ((m : Int) < p + 1) = false := by simp; omega
  have h4 : decide (48 + p < (m : Int)) = false := by simp; omega
  have HP := Lib.hid hP
  have H0 := Lib.hid h0
  have hF0 := Has.new w 0 0 24
  clear hP h0
  go_enter Try.func29, Try.ntmps29
  go_wp2_with (first | (go_at_call 45; refine (firstPage_miss _ _ _ P _ (HP.out.below (below_new _ _)) (by omega) H0.out).mono ?_; rintro e w' ⟨rfl, hb2⟩; have B1 := Bw.step (below_new w (.cells #[.int .i64 0, .int .i64 0] 24)) hb2; have F1 := hF0.below hb2; clear hb2 hF0; obtain ⟨l0, c00, c01, f00, f01⟩ := id F1) | (go_at_call 23; refine (cpFault_any _ _ _).mono ?_; rintro e w' ⟨rfl, rfl⟩))
  exact bodyPost_ret (resF2 rfl rfl ((F1.set2 17 (-1)).al _)) rfl ⟨rfl, Bw.al ((B1.setCell (p := ⟨w.heap.size, 0, none⟩) (Nat.le_refl _) _).setCell (p := ⟨w.heap.size, 1, none⟩) (Nat.le_refl _) _) _⟩
end Go.Proofs.Ytcinfkmekkdhfaa
