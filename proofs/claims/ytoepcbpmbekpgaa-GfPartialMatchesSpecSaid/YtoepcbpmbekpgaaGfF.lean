/- The walk of the statement GfPartialMatchesSpec, case by case. -/
import Derived.Test.YtoepcbpmbekpgaaGfD
import Derived.Test.YtoepcbpmbekpgaaQuiet
import Derived.Deep.RegionHeld3
import Derived.Deep.RegionWith
import Derived.Deep.QuietTactic
import Derived.BigQuiet
import Derived.Handy
namespace Go.Proofs.Ytoepcbpmbekpgaa
open Go.RowKit
set_option linter.unusedVariables false
theorem quiet_left {P : Program} {f : FuncId} {args : Array Value} {w : World} {n : Nat} {v : Value}
    (h : Calls P f args (w.drewN n) fun e w' => e = .returned v ∧ w.drewN n = w') : Calls P f args (w.drewN n) fun e w'' => e = .returned v ∧ ∃ m, w'' = w.drewN m :=
  h.mono fun _ _ ⟨he, hm⟩ => ⟨he, n, hm.symm⟩
theorem quiet_add_left {P : Program} {f : FuncId} {args : Array Value} {w : World} {a n : Nat} {v : Value}
    (h : Calls P f args (w.drewN (a + n)) fun e w' => e = .returned v ∧ w.drewN (a + n) = w') :
    Calls P f args (w.drewN (a + n)) fun e w'' => e = .returned v ∧ ∃ m, w'' = w.drewN (a + m) :=
  h.mono fun _ _ ⟨he, hm⟩ => ⟨he, n, hm.symm⟩

set_option maxRecDepth 100000 in
set_option maxHeartbeats 1000000 in
theorem walkPartial_a0n_b0 (a b n : Int) (w : World) (ha : 0 ≤ a ∧ a < 256) (hb : 0 ≤ b ∧ b < 256) (h0 : a = 0) (hn : n < 0) (hb0 : b = 0) :
    Calls Try.prog 13 #[.int .u8 a, .int .u8 b, .int .i64 n] w fun e w' => e = .returned (.bool true) ∧ Below w.heap.size w w' := by
  have a0 : (a == 0) = true := by simp; omega
  have a1 : (a != 0) = false := by simp; omega
  have b0 : (b == 0) = true := by simp; omega
  have b1 : (b != 0) = false := by simp; omega
  have H0 := Lib.hid h0
  clear h0
  have HB := Lib.hid hb0
  clear hb0
  have n0 : decide (n < 0) = true := by simpa using hn
  go_enter Try.func13, Try.ntmps13
  go_wp2_with fail
  refine (gfLog_zero _ _ H0.out).mono ?_; rintro e w1 ⟨rfl, hb1⟩
  go_wp2_with fail
  refine (gfInverse_zero _ _ H0.out).mono ?_; rintro e w2 ⟨rfl, hb2⟩
  have F1 := (Has.new w1 26 (-1) _).below hb2
  go_wp2_with fail
  refine (gfDiv_zero _ _ _ HB.out).mono ?_; rintro e w3 ⟨rfl, hb3⟩
  have F1 := (F1.al _).below hb3
  have F2 := (Has.new w2 26 (-1) _).below hb3
  go_wp2_with fail
  refine (gfPow_bad _ _ _ H0.out hn).mono ?_; rintro e w4 ⟨rfl, hb4⟩
  have F1 := (F1.al _).below hb4
  have F2 := (F2.al _).below hb4
  have F3 := (Has.new w3 26 (-2) _).below hb4
  have F1 := F1.al (.cells #[.int .i64 26, .int .i64 (-1)] 27)
  have F2 := F2.al (.cells #[.int .i64 26, .int .i64 (-1)] 27)
  have F3 := F3.al (.cells #[.int .i64 26, .int .i64 (-1)] 27)
  have F4 := Has.new w4 26 (-1) 27
  have BW : Below w.heap.size w (w4.alloc (.cells #[.int .i64 26, .int .i64 (-1)] 27)) := by (repeat (first | exact Below.refl _ _ | assumption | refine Bw.al ?_ _ | refine Bw.step ?_ (by assumption) | refine Bw.drew ?_))
  clear hb1 hb2 hb3 hb4
  go_wp2_with fail
  generalize w4.alloc (.cells #[.int .i64 26, .int .i64 (-1)] 27) = W at *
  generalize w1.heap.size = B1 at *
  generalize w2.heap.size = B2 at *
  generalize w3.heap.size = B3 at *
  generalize w4.heap.size = B4 at *
  have X1 := F1.ext
  have X2 := F2.ext
  have X3 := F3.ext
  have X4 := F4.ext
  (refine wp_region_ext (by kernel_rfl) (by kernel_rfl) ?_; (repeat (go_big_quiet_step ((first | (go_at_call 31; exact ext_alloc (refAt_any _ _ _)) | (go_at_call 17; exact ext_same (refMul_any _ _ _ (by omega) (by omega))) | (go_at_call 39; exact ext_same (refInverse_any _ _ (by omega))) | (go_at_call 20; exact ext_call (multiplied_any _)))))); refine wpQuiet_nil ?_; intro W5 hw'; have hW5 := ext_below hw'; clear hw')
  clear X1 X2 X3 X4
  have BW := Bw.step BW hW5
  have F1 := F1.below hW5
  have F2 := F2.below hW5
  have F3 := F3.below hW5
  have F4 := F4.below hW5
  clear hW5
  obtain ⟨l1, c10, c11⟩ := id F1
  obtain ⟨l2, c20, c21⟩ := id F2
  obtain ⟨l3, c30, c31⟩ := id F3
  obtain ⟨l4, c40, c41⟩ := id F4
  go_wp2_with (first | (go_at_call 38; refine (refLog_any _ _ (by omega)).mono ?_; rintro e w' ⟨rfl, rfl⟩) | (go_at_call 39; refine (refInverse_any _ _ (by omega)).mono ?_; rintro e w' ⟨rfl, rfl⟩) | (go_at_call 40; refine (refPow_ok _ _ _ ha).mono ?_; rintro e w' ⟨rfl, rfl⟩) | (go_at_call 20; refine (multiplied_any _).mono ?_; rintro e w' ⟨rfl, hbm⟩))
  clear c10 c11 c20 c21 c30 c31 c40 c41
  have X1 := F1.ext
  have X2 := F2.ext
  have X3 := F3.ext
  have X4 := F4.ext
  (refine wp_region_ext (by kernel_rfl) (by kernel_rfl) ?_; (repeat (go_big_quiet_step ((first | (go_at_call 31; exact ext_alloc (refAt_any _ _ _)) | (go_at_call 17; exact ext_same (refMul_any _ _ _ (by omega) (by omega))) | (go_at_call 39; exact ext_same (refInverse_any _ _ (by omega))) | (go_at_call 20; exact ext_call (multiplied_any _)))))); refine wpQuiet_nil ?_; intro W6 hw'; have hW6 := ext_below hw'; clear hw')
  clear X1 X2 X3 X4
  have BW := Bw.step BW hW6
  have F1 := F1.below hW6
  have F2 := F2.below hW6
  have F3 := F3.below hW6
  have F4 := F4.below hW6
  clear hW6
  obtain ⟨l1, c10, c11⟩ := id F1
  obtain ⟨l2, c20, c21⟩ := id F2
  obtain ⟨l3, c30, c31⟩ := id F3
  obtain ⟨l4, c40, c41⟩ := id F4
  go_wp2_with (first | (go_at_call 38; refine (refLog_any _ _ (by omega)).mono ?_; rintro e w' ⟨rfl, rfl⟩) | (go_at_call 39; refine (refInverse_any _ _ (by omega)).mono ?_; rintro e w' ⟨rfl, rfl⟩) | (go_at_call 40; refine (refPow_ok _ _ _ ha).mono ?_; rintro e w' ⟨rfl, rfl⟩) | (go_at_call 20; refine (multiplied_any _).mono ?_; rintro e w' ⟨rfl, hbm⟩))
  clear c10 c11 c20 c21 c30 c31 c40 c41
  have X1 := F1.ext
  have X2 := F2.ext
  have X3 := F3.ext
  have X4 := F4.ext
  (refine wp_region_ext (by kernel_rfl) (by kernel_rfl) ?_; (repeat (go_big_quiet_step ((first | (go_at_call 31; exact ext_alloc (refAt_any _ _ _)) | (go_at_call 17; exact ext_same (refMul_any _ _ _ (by omega) (by omega))) | (go_at_call 39; exact ext_same (refInverse_any _ _ (by omega))) | (go_at_call 20; exact ext_call (multiplied_any _)))))); refine wpQuiet_nil ?_; intro W7 hw'; have hW7 := ext_below hw'; clear hw')
  clear X1 X2 X3 X4
  have BW := Bw.step BW hW7
  have F1 := F1.below hW7
  have F2 := F2.below hW7
  have F3 := F3.below hW7
  have F4 := F4.below hW7
  clear hW7
  go_wp2
  go_ret
  exact ⟨rfl, BW⟩

set_option maxRecDepth 100000 in
set_option maxHeartbeats 1000000 in
theorem walkPartial_a0n_b1 (a b n : Int) (w : World) (ha : 0 ≤ a ∧ a < 256) (hb : 0 ≤ b ∧ b < 256) (h0 : a = 0) (hn : n < 0) (hb0 : 0 < b) :
    Calls Try.prog 13 #[.int .u8 a, .int .u8 b, .int .i64 n] w fun e w' => e = .returned (.bool true) ∧ Below w.heap.size w w' := by
  have a0 : (a == 0) = true := by simp; omega
  have a1 : (a != 0) = false := by simp; omega
  have b0 : (b == 0) = false := by simp; omega
  have b1 : (b != 0) = true := by simp; omega
  have H0 := Lib.hid h0
  clear h0
  have n0 : decide (n < 0) = true := by simpa using hn
  have bJ := gI_bd hb
  have bM := gM_bd (b := gI b) ha
  have q3 : (gM a (gI b) != gM a (gI b)) = false := by simp
  go_enter Try.func13, Try.ntmps13
  go_wp2_with fail
  refine (gfLog_zero _ _ H0.out).mono ?_; rintro e w1 ⟨rfl, hb1⟩
  go_wp2_with fail
  refine (gfInverse_zero _ _ H0.out).mono ?_; rintro e w2 ⟨rfl, hb2⟩
  have F1 := (Has.new w1 26 (-1) _).below hb2
  go_wp2_with fail
  refine (gfDiv_any _ _ _ ha (by omega)).mono ?_; rintro e w3 ⟨rfl, hb3⟩
  have F1 := (F1.al _).below hb3
  have F2 := (Has.new w2 26 (-1) _).below hb3
  go_wp2_with fail
  refine (gfPow_bad _ _ _ H0.out hn).mono ?_; rintro e w4 ⟨rfl, hb4⟩
  have F1 := (F1.al _).below hb4
  have F2 := (F2.al _).below hb4
  have F3 := (Has.new w3 0 0 _).below hb4
  have F1 := F1.al (.cells #[.int .i64 26, .int .i64 (-1)] 27)
  have F2 := F2.al (.cells #[.int .i64 26, .int .i64 (-1)] 27)
  have F3 := F3.al (.cells #[.int .i64 26, .int .i64 (-1)] 27)
  have F4 := Has.new w4 26 (-1) 27
  have BW : Below w.heap.size w (w4.alloc (.cells #[.int .i64 26, .int .i64 (-1)] 27)) := by (repeat (first | exact Below.refl _ _ | assumption | refine Bw.al ?_ _ | refine Bw.step ?_ (by assumption) | refine Bw.drew ?_))
  clear hb1 hb2 hb3 hb4
  go_wp2_with fail
  generalize w4.alloc (.cells #[.int .i64 26, .int .i64 (-1)] 27) = W at *
  generalize w1.heap.size = B1 at *
  generalize w2.heap.size = B2 at *
  generalize w3.heap.size = B3 at *
  generalize w4.heap.size = B4 at *
  have X1 := F1.ext
  have X2 := F2.ext
  have X3 := F3.ext
  have X4 := F4.ext
  (refine wp_region_ext (by kernel_rfl) (by kernel_rfl) ?_; (repeat (go_big_quiet_step ((first | (go_at_call 31; exact ext_alloc (refAt_any _ _ _)) | (go_at_call 17; exact ext_same (refMul_any _ _ _ (by omega) (by omega))) | (go_at_call 39; exact ext_same (refInverse_any _ _ (by omega))) | (go_at_call 20; exact ext_call (multiplied_any _)))))); refine wpQuiet_nil ?_; intro W5 hw'; have hW5 := ext_below hw'; clear hw')
  clear X1 X2 X3 X4
  have BW := Bw.step BW hW5
  have F1 := F1.below hW5
  have F2 := F2.below hW5
  have F3 := F3.below hW5
  have F4 := F4.below hW5
  clear hW5
  obtain ⟨l1, c10, c11⟩ := id F1
  obtain ⟨l2, c20, c21⟩ := id F2
  obtain ⟨l3, c30, c31⟩ := id F3
  obtain ⟨l4, c40, c41⟩ := id F4
  go_wp2_with (first | (go_at_call 38; refine (refLog_any _ _ (by omega)).mono ?_; rintro e w' ⟨rfl, rfl⟩) | (go_at_call 39; refine (refInverse_any _ _ (by omega)).mono ?_; rintro e w' ⟨rfl, rfl⟩) | (go_at_call 40; refine (refPow_ok _ _ _ ha).mono ?_; rintro e w' ⟨rfl, rfl⟩) | (go_at_call 20; refine (multiplied_any _).mono ?_; rintro e w' ⟨rfl, hbm⟩))
  clear c10 c11 c20 c21 c30 c31 c40 c41
  have X1 := F1.ext
  have X2 := F2.ext
  have X3 := F3.ext
  have X4 := F4.ext
  (refine wp_region_ext (by kernel_rfl) (by kernel_rfl) ?_; (repeat (go_big_quiet_step ((first | (go_at_call 31; exact ext_alloc (refAt_any _ _ _)) | (go_at_call 17; exact ext_same (refMul_any _ _ _ (by omega) (by omega))) | (go_at_call 39; exact ext_same (refInverse_any _ _ (by omega))) | (go_at_call 20; exact ext_call (multiplied_any _)))))); refine wpQuiet_nil ?_; intro W6 hw'; have hW6 := ext_below hw'; clear hw')
  clear X1 X2 X3 X4
  have BW := Bw.step BW hW6
  have F1 := F1.below hW6
  have F2 := F2.below hW6
  have F3 := F3.below hW6
  have F4 := F4.below hW6
  clear hW6
  obtain ⟨l1, c10, c11⟩ := id F1
  obtain ⟨l2, c20, c21⟩ := id F2
  obtain ⟨l3, c30, c31⟩ := id F3
  obtain ⟨l4, c40, c41⟩ := id F4
  go_wp2_with (first | (go_at_call 38; refine (refLog_any _ _ (by omega)).mono ?_; rintro e w' ⟨rfl, rfl⟩) | (go_at_call 39; refine (refInverse_any _ _ (by omega)).mono ?_; rintro e w' ⟨rfl, rfl⟩) | (go_at_call 40; refine (refPow_ok _ _ _ ha).mono ?_; rintro e w' ⟨rfl, rfl⟩) | (go_at_call 20; refine (multiplied_any _).mono ?_; rintro e w' ⟨rfl, hbm⟩))
  clear c10 c11 c20 c21 c30 c31 c40 c41
  have X1 := F1.ext
  have X2 := F2.ext
  have X3 := F3.ext
  have X4 := F4.ext
  (refine wp_region_ext (by kernel_rfl) (by kernel_rfl) ?_; (repeat (go_big_quiet_step ((first | (go_at_call 31; exact ext_alloc (refAt_any _ _ _)) | (go_at_call 17; exact ext_same (refMul_any _ _ _ (by omega) (by omega))) | (go_at_call 39; exact ext_same (refInverse_any _ _ (by omega))) | (go_at_call 20; exact ext_call (multiplied_any _)))))); refine wpQuiet_nil ?_; intro W7 hw'; have hW7 := ext_below hw'; clear hw')
  clear X1 X2 X3 X4
  have BW := Bw.step BW hW7
  have F1 := F1.below hW7
  have F2 := F2.below hW7
  have F3 := F3.below hW7
  have F4 := F4.below hW7
  clear hW7
  go_wp2
  go_ret
  exact ⟨rfl, BW⟩

set_option maxRecDepth 100000 in
set_option maxHeartbeats 1000000 in
theorem walkPartial_a0p_b0 (a b n : Int) (w : World) (ha : 0 ≤ a ∧ a < 256) (hb : 0 ≤ b ∧ b < 256) (h0 : a = 0) (hn : 0 ≤ n) (hb0 : b = 0) :
    Calls Try.prog 13 #[.int .u8 a, .int .u8 b, .int .i64 n] w fun e w' => e = .returned (.bool true) ∧ Below w.heap.size w w' := by
  have a0 : (a == 0) = true := by simp; omega
  have a1 : (a != 0) = false := by simp; omega
  have b0 : (b == 0) = true := by simp; omega
  have b1 : (b != 0) = false := by simp; omega
  have H0 := Lib.hid h0
  clear h0
  have HB := Lib.hid hb0
  clear hb0
  have n0 : decide (n < 0) = false := by simpa using hn
  have bW := gW_bd (n := n) ha
  have q4 : (gW a n == gW a n) = true := by simp
  go_enter Try.func13, Try.ntmps13
  go_wp2_with fail
  refine (gfLog_zero _ _ H0.out).mono ?_; rintro e w1 ⟨rfl, hb1⟩
  go_wp2_with fail
  refine (gfInverse_zero _ _ H0.out).mono ?_; rintro e w2 ⟨rfl, hb2⟩
  have F1 := (Has.new w1 26 (-1) _).below hb2
  go_wp2_with fail
  refine (gfDiv_zero _ _ _ HB.out).mono ?_; rintro e w3 ⟨rfl, hb3⟩
  have F1 := (F1.al _).below hb3
  have F2 := (Has.new w2 26 (-1) _).below hb3
  go_wp2_with fail
  refine (gfPow_ok _ _ _ ha (by omega)).mono ?_; rintro e w4 ⟨rfl, hb4⟩
  have F1 := (F1.al _).below hb4
  have F2 := (F2.al _).below hb4
  have F3 := (Has.new w3 26 (-2) _).below hb4
  have F1 := F1.al (.cells #[.int .i64 0, .int .i64 0] 27)
  have F2 := F2.al (.cells #[.int .i64 0, .int .i64 0] 27)
  have F3 := F3.al (.cells #[.int .i64 0, .int .i64 0] 27)
  have F4 := Has.new w4 0 0 27
  have BW : Below w.heap.size w (w4.alloc (.cells #[.int .i64 0, .int .i64 0] 27)) := by (repeat (first | exact Below.refl _ _ | assumption | refine Bw.al ?_ _ | refine Bw.step ?_ (by assumption) | refine Bw.drew ?_))
  clear hb1 hb2 hb3 hb4
  go_wp2_with fail
  generalize w4.alloc (.cells #[.int .i64 0, .int .i64 0] 27) = W at *
  generalize w1.heap.size = B1 at *
  generalize w2.heap.size = B2 at *
  generalize w3.heap.size = B3 at *
  generalize w4.heap.size = B4 at *
  have X1 := F1.ext
  have X2 := F2.ext
  have X3 := F3.ext
  have X4 := F4.ext
  (refine wp_region_ext (by kernel_rfl) (by kernel_rfl) ?_; (repeat (go_big_quiet_step ((first | (go_at_call 31; exact ext_alloc (refAt_any _ _ _)) | (go_at_call 17; exact ext_same (refMul_any _ _ _ (by omega) (by omega))) | (go_at_call 39; exact ext_same (refInverse_any _ _ (by omega))) | (go_at_call 20; exact ext_call (multiplied_any _)))))); refine wpQuiet_nil ?_; intro W5 hw'; have hW5 := ext_below hw'; clear hw')
  clear X1 X2 X3 X4
  have BW := Bw.step BW hW5
  have F1 := F1.below hW5
  have F2 := F2.below hW5
  have F3 := F3.below hW5
  have F4 := F4.below hW5
  clear hW5
  obtain ⟨l1, c10, c11⟩ := id F1
  obtain ⟨l2, c20, c21⟩ := id F2
  obtain ⟨l3, c30, c31⟩ := id F3
  obtain ⟨l4, c40, c41⟩ := id F4
  go_wp2_with (first | (go_at_call 38; refine (refLog_any _ _ (by omega)).mono ?_; rintro e w' ⟨rfl, rfl⟩) | (go_at_call 39; refine (refInverse_any _ _ (by omega)).mono ?_; rintro e w' ⟨rfl, rfl⟩) | (go_at_call 40; refine (refPow_ok _ _ _ ha).mono ?_; rintro e w' ⟨rfl, rfl⟩) | (go_at_call 20; refine (multiplied_any _).mono ?_; rintro e w' ⟨rfl, hbm⟩))
  clear c10 c11 c20 c21 c30 c31 c40 c41
  have X1 := F1.ext
  have X2 := F2.ext
  have X3 := F3.ext
  have X4 := F4.ext
  (refine wp_region_ext (by kernel_rfl) (by kernel_rfl) ?_; (repeat (go_big_quiet_step ((first | (go_at_call 31; exact ext_alloc (refAt_any _ _ _)) | (go_at_call 17; exact ext_same (refMul_any _ _ _ (by omega) (by omega))) | (go_at_call 39; exact ext_same (refInverse_any _ _ (by omega))) | (go_at_call 20; exact ext_call (multiplied_any _)))))); refine wpQuiet_nil ?_; intro W6 hw'; have hW6 := ext_below hw'; clear hw')
  clear X1 X2 X3 X4
  have BW := Bw.step BW hW6
  have F1 := F1.below hW6
  have F2 := F2.below hW6
  have F3 := F3.below hW6
  have F4 := F4.below hW6
  clear hW6
  obtain ⟨l1, c10, c11⟩ := id F1
  obtain ⟨l2, c20, c21⟩ := id F2
  obtain ⟨l3, c30, c31⟩ := id F3
  obtain ⟨l4, c40, c41⟩ := id F4
  go_wp2_with (first | (go_at_call 38; refine (refLog_any _ _ (by omega)).mono ?_; rintro e w' ⟨rfl, rfl⟩) | (go_at_call 39; refine (refInverse_any _ _ (by omega)).mono ?_; rintro e w' ⟨rfl, rfl⟩) | (go_at_call 40; refine (refPow_ok _ _ _ ha).mono ?_; rintro e w' ⟨rfl, rfl⟩) | (go_at_call 20; refine (multiplied_any _).mono ?_; rintro e w' ⟨rfl, hbm⟩))
  go_ret
  exact ⟨rfl, Bw.step BW hbm⟩

set_option maxRecDepth 100000 in
set_option maxHeartbeats 1000000 in
theorem walkPartial_a0p_b1 (a b n : Int) (w : World) (ha : 0 ≤ a ∧ a < 256) (hb : 0 ≤ b ∧ b < 256) (h0 : a = 0) (hn : 0 ≤ n) (hb0 : 0 < b) :
    Calls Try.prog 13 #[.int .u8 a, .int .u8 b, .int .i64 n] w fun e w' => e = .returned (.bool true) ∧ Below w.heap.size w w' := by
  have a0 : (a == 0) = true := by simp; omega
  have a1 : (a != 0) = false := by simp; omega
  have b0 : (b == 0) = false := by simp; omega
  have b1 : (b != 0) = true := by simp; omega
  have H0 := Lib.hid h0
  clear h0
  have n0 : decide (n < 0) = false := by simpa using hn
  have bJ := gI_bd hb
  have bM := gM_bd (b := gI b) ha
  have q3 : (gM a (gI b) != gM a (gI b)) = false := by simp
  have bW := gW_bd (n := n) ha
  have q4 : (gW a n == gW a n) = true := by simp
  go_enter Try.func13, Try.ntmps13
  go_wp2_with fail
  refine (gfLog_zero _ _ H0.out).mono ?_; rintro e w1 ⟨rfl, hb1⟩
  go_wp2_with fail
  refine (gfInverse_zero _ _ H0.out).mono ?_; rintro e w2 ⟨rfl, hb2⟩
  have F1 := (Has.new w1 26 (-1) _).below hb2
  go_wp2_with fail
  refine (gfDiv_any _ _ _ ha (by omega)).mono ?_; rintro e w3 ⟨rfl, hb3⟩
  have F1 := (F1.al _).below hb3
  have F2 := (Has.new w2 26 (-1) _).below hb3
  go_wp2_with fail
  refine (gfPow_ok _ _ _ ha (by omega)).mono ?_; rintro e w4 ⟨rfl, hb4⟩
  have F1 := (F1.al _).below hb4
  have F2 := (F2.al _).below hb4
  have F3 := (Has.new w3 0 0 _).below hb4
  have F1 := F1.al (.cells #[.int .i64 0, .int .i64 0] 27)
  have F2 := F2.al (.cells #[.int .i64 0, .int .i64 0] 27)
  have F3 := F3.al (.cells #[.int .i64 0, .int .i64 0] 27)
  have F4 := Has.new w4 0 0 27
  have BW : Below w.heap.size w (w4.alloc (.cells #[.int .i64 0, .int .i64 0] 27)) := by (repeat (first | exact Below.refl _ _ | assumption | refine Bw.al ?_ _ | refine Bw.step ?_ (by assumption) | refine Bw.drew ?_))
  clear hb1 hb2 hb3 hb4
  go_wp2_with fail
  generalize w4.alloc (.cells #[.int .i64 0, .int .i64 0] 27) = W at *
  generalize w1.heap.size = B1 at *
  generalize w2.heap.size = B2 at *
  generalize w3.heap.size = B3 at *
  generalize w4.heap.size = B4 at *
  have X1 := F1.ext
  have X2 := F2.ext
  have X3 := F3.ext
  have X4 := F4.ext
  (refine wp_region_ext (by kernel_rfl) (by kernel_rfl) ?_; (repeat (go_big_quiet_step ((first | (go_at_call 31; exact ext_alloc (refAt_any _ _ _)) | (go_at_call 17; exact ext_same (refMul_any _ _ _ (by omega) (by omega))) | (go_at_call 39; exact ext_same (refInverse_any _ _ (by omega))) | (go_at_call 20; exact ext_call (multiplied_any _)))))); refine wpQuiet_nil ?_; intro W5 hw'; have hW5 := ext_below hw'; clear hw')
  clear X1 X2 X3 X4
  have BW := Bw.step BW hW5
  have F1 := F1.below hW5
  have F2 := F2.below hW5
  have F3 := F3.below hW5
  have F4 := F4.below hW5
  clear hW5
  obtain ⟨l1, c10, c11⟩ := id F1
  obtain ⟨l2, c20, c21⟩ := id F2
  obtain ⟨l3, c30, c31⟩ := id F3
  obtain ⟨l4, c40, c41⟩ := id F4
  go_wp2_with (first | (go_at_call 38; refine (refLog_any _ _ (by omega)).mono ?_; rintro e w' ⟨rfl, rfl⟩) | (go_at_call 39; refine (refInverse_any _ _ (by omega)).mono ?_; rintro e w' ⟨rfl, rfl⟩) | (go_at_call 40; refine (refPow_ok _ _ _ ha).mono ?_; rintro e w' ⟨rfl, rfl⟩) | (go_at_call 20; refine (multiplied_any _).mono ?_; rintro e w' ⟨rfl, hbm⟩))
  clear c10 c11 c20 c21 c30 c31 c40 c41
  have X1 := F1.ext
  have X2 := F2.ext
  have X3 := F3.ext
  have X4 := F4.ext
  (refine wp_region_ext (by kernel_rfl) (by kernel_rfl) ?_; (repeat (go_big_quiet_step ((first | (go_at_call 31; exact ext_alloc (refAt_any _ _ _)) | (go_at_call 17; exact ext_same (refMul_any _ _ _ (by omega) (by omega))) | (go_at_call 39; exact ext_same (refInverse_any _ _ (by omega))) | (go_at_call 20; exact ext_call (multiplied_any _)))))); refine wpQuiet_nil ?_; intro W6 hw'; have hW6 := ext_below hw'; clear hw')
  clear X1 X2 X3 X4
  have BW := Bw.step BW hW6
  have F1 := F1.below hW6
  have F2 := F2.below hW6
  have F3 := F3.below hW6
  have F4 := F4.below hW6
  clear hW6
  obtain ⟨l1, c10, c11⟩ := id F1
  obtain ⟨l2, c20, c21⟩ := id F2
  obtain ⟨l3, c30, c31⟩ := id F3
  obtain ⟨l4, c40, c41⟩ := id F4
  go_wp2_with (first | (go_at_call 38; refine (refLog_any _ _ (by omega)).mono ?_; rintro e w' ⟨rfl, rfl⟩) | (go_at_call 39; refine (refInverse_any _ _ (by omega)).mono ?_; rintro e w' ⟨rfl, rfl⟩) | (go_at_call 40; refine (refPow_ok _ _ _ ha).mono ?_; rintro e w' ⟨rfl, rfl⟩) | (go_at_call 20; refine (multiplied_any _).mono ?_; rintro e w' ⟨rfl, hbm⟩))
  go_ret
  exact ⟨rfl, Bw.step BW hbm⟩

set_option maxRecDepth 100000 in
set_option maxHeartbeats 1000000 in
theorem walkPartial_a1_b0 (a b n : Int) (w : World) (ha : 0 ≤ a ∧ a < 256) (hb : 0 ≤ b ∧ b < 256) (h0 : 0 < a) (hb0 : b = 0) :
    Calls Try.prog 13 #[.int .u8 a, .int .u8 b, .int .i64 n] w fun e w' => e = .returned (.bool true) ∧ Below w.heap.size w w' := by
  have a0 : (a == 0) = false := by simp; omega
  have a1 : (a != 0) = true := by simp; omega
  have b0 : (b == 0) = true := by simp; omega
  have b1 : (b != 0) = false := by simp; omega
  have HB := Lib.hid hb0
  clear hb0
  have bI := gI_bd ha
  have bL := gL_bd (a := a) (by omega)
  have q1 : (gL a != gL a) = false := by simp
  have q2 : (gI a != gI a) = false := by simp
  have bW := gW_bd (n := n) ha
  have q4 : (gW a n == gW a n) = true := by simp
  go_enter Try.func13, Try.ntmps13
  go_wp2_with fail
  refine (gfLog_any _ _ (by omega)).mono ?_; rintro e w1 ⟨rfl, hb1⟩
  go_wp2_with fail
  refine (gfInverse_any _ _ (by omega)).mono ?_; rintro e w2 ⟨rfl, hb2⟩
  have F1 := (Has.new w1 0 0 _).below hb2
  go_wp2_with fail
  refine (gfDiv_zero _ _ _ HB.out).mono ?_; rintro e w3 ⟨rfl, hb3⟩
  have F1 := (F1.al _).below hb3
  have F2 := (Has.new w2 0 0 _).below hb3
  go_wp2_with fail
  refine (gfPow_ok _ _ _ ha (by omega)).mono ?_; rintro e w4 ⟨rfl, hb4⟩
  have F1 := (F1.al _).below hb4
  have F2 := (F2.al _).below hb4
  have F3 := (Has.new w3 26 (-2) _).below hb4
  have F1 := F1.al (.cells #[.int .i64 0, .int .i64 0] 27)
  have F2 := F2.al (.cells #[.int .i64 0, .int .i64 0] 27)
  have F3 := F3.al (.cells #[.int .i64 0, .int .i64 0] 27)
  have F4 := Has.new w4 0 0 27
  have BW : Below w.heap.size w (w4.alloc (.cells #[.int .i64 0, .int .i64 0] 27)) := by (repeat (first | exact Below.refl _ _ | assumption | refine Bw.al ?_ _ | refine Bw.step ?_ (by assumption) | refine Bw.drew ?_))
  clear hb1 hb2 hb3 hb4
  go_wp2_with fail
  generalize w4.alloc (.cells #[.int .i64 0, .int .i64 0] 27) = W at *
  generalize w1.heap.size = B1 at *
  generalize w2.heap.size = B2 at *
  generalize w3.heap.size = B3 at *
  generalize w4.heap.size = B4 at *
  have X1 := F1.ext
  have X2 := F2.ext
  have X3 := F3.ext
  have X4 := F4.ext
  (refine wp_region_ext (by kernel_rfl) (by kernel_rfl) ?_; (repeat (go_big_quiet_step ((first | (go_at_call 31; exact ext_alloc (refAt_any _ _ _)) | (go_at_call 17; exact ext_same (refMul_any _ _ _ (by omega) (by omega))) | (go_at_call 39; exact ext_same (refInverse_any _ _ (by omega))) | (go_at_call 20; exact ext_call (multiplied_any _)))))); refine wpQuiet_nil ?_; intro W5 hw'; have hW5 := ext_below hw'; clear hw')
  clear X1 X2 X3 X4
  have BW := Bw.step BW hW5
  have F1 := F1.below hW5
  have F2 := F2.below hW5
  have F3 := F3.below hW5
  have F4 := F4.below hW5
  clear hW5
  obtain ⟨l1, c10, c11⟩ := id F1
  obtain ⟨l2, c20, c21⟩ := id F2
  obtain ⟨l3, c30, c31⟩ := id F3
  obtain ⟨l4, c40, c41⟩ := id F4
  go_wp2_with (first | (go_at_call 38; refine (refLog_any _ _ (by omega)).mono ?_; rintro e w' ⟨rfl, rfl⟩) | (go_at_call 39; refine (refInverse_any _ _ (by omega)).mono ?_; rintro e w' ⟨rfl, rfl⟩) | (go_at_call 40; refine (refPow_ok _ _ _ ha).mono ?_; rintro e w' ⟨rfl, rfl⟩) | (go_at_call 20; refine (multiplied_any _).mono ?_; rintro e w' ⟨rfl, hbm⟩))
  clear c10 c11 c20 c21 c30 c31 c40 c41
  have X1 := F1.ext
  have X2 := F2.ext
  have X3 := F3.ext
  have X4 := F4.ext
  (refine wp_region_ext (by kernel_rfl) (by kernel_rfl) ?_; (repeat (go_big_quiet_step ((first | (go_at_call 31; exact ext_alloc (refAt_any _ _ _)) | (go_at_call 17; exact ext_same (refMul_any _ _ _ (by omega) (by omega))) | (go_at_call 39; exact ext_same (refInverse_any _ _ (by omega))) | (go_at_call 20; exact ext_call (multiplied_any _)))))); refine wpQuiet_nil ?_; intro W6 hw'; have hW6 := ext_below hw'; clear hw')
  clear X1 X2 X3 X4
  have BW := Bw.step BW hW6
  have F1 := F1.below hW6
  have F2 := F2.below hW6
  have F3 := F3.below hW6
  have F4 := F4.below hW6
  clear hW6
  obtain ⟨l1, c10, c11⟩ := id F1
  obtain ⟨l2, c20, c21⟩ := id F2
  obtain ⟨l3, c30, c31⟩ := id F3
  obtain ⟨l4, c40, c41⟩ := id F4
  go_wp2_with (first | (go_at_call 38; refine (refLog_any _ _ (by omega)).mono ?_; rintro e w' ⟨rfl, rfl⟩) | (go_at_call 39; refine (refInverse_any _ _ (by omega)).mono ?_; rintro e w' ⟨rfl, rfl⟩) | (go_at_call 40; refine (refPow_ok _ _ _ ha).mono ?_; rintro e w' ⟨rfl, rfl⟩) | (go_at_call 20; refine (multiplied_any _).mono ?_; rintro e w' ⟨rfl, hbm⟩))
  go_ret
  exact ⟨rfl, Bw.step BW hbm⟩

set_option maxRecDepth 100000 in
set_option maxHeartbeats 1000000 in
theorem walkPartial_a1_b1 (a b n : Int) (w : World) (ha : 0 ≤ a ∧ a < 256) (hb : 0 ≤ b ∧ b < 256) (h0 : 0 < a) (hb0 : 0 < b) :
    Calls Try.prog 13 #[.int .u8 a, .int .u8 b, .int .i64 n] w fun e w' => e = .returned (.bool true) ∧ Below w.heap.size w w' := by
  have a0 : (a == 0) = false := by simp; omega
  have a1 : (a != 0) = true := by simp; omega
  have b0 : (b == 0) = false := by simp; omega
  have b1 : (b != 0) = true := by simp; omega
  have bI := gI_bd ha
  have bL := gL_bd (a := a) (by omega)
  have q1 : (gL a != gL a) = false := by simp
  have q2 : (gI a != gI a) = false := by simp
  have bJ := gI_bd hb
  have bM := gM_bd (b := gI b) ha
  have q3 : (gM a (gI b) != gM a (gI b)) = false := by simp
  have bW := gW_bd (n := n) ha
  have q4 : (gW a n == gW a n) = true := by simp
  go_enter Try.func13, Try.ntmps13
  go_wp2_with fail
  refine (gfLog_any _ _ (by omega)).mono ?_; rintro e w1 ⟨rfl, hb1⟩
  go_wp2_with fail
  refine (gfInverse_any _ _ (by omega)).mono ?_; rintro e w2 ⟨rfl, hb2⟩
  have F1 := (Has.new w1 0 0 _).below hb2
  go_wp2_with fail
  refine (gfDiv_any _ _ _ ha (by omega)).mono ?_; rintro e w3 ⟨rfl, hb3⟩
  have F1 := (F1.al _).below hb3
  have F2 := (Has.new w2 0 0 _).below hb3
  go_wp2_with fail
  refine (gfPow_ok _ _ _ ha (by omega)).mono ?_; rintro e w4 ⟨rfl, hb4⟩
  have F1 := (F1.al _).below hb4
  have F2 := (F2.al _).below hb4
  have F3 := (Has.new w3 0 0 _).below hb4
  have F1 := F1.al (.cells #[.int .i64 0, .int .i64 0] 27)
  have F2 := F2.al (.cells #[.int .i64 0, .int .i64 0] 27)
  have F3 := F3.al (.cells #[.int .i64 0, .int .i64 0] 27)
  have F4 := Has.new w4 0 0 27
  have BW : Below w.heap.size w (w4.alloc (.cells #[.int .i64 0, .int .i64 0] 27)) := by (repeat (first | exact Below.refl _ _ | assumption | refine Bw.al ?_ _ | refine Bw.step ?_ (by assumption) | refine Bw.drew ?_))
  clear hb1 hb2 hb3 hb4
  go_wp2_with fail
  generalize w4.alloc (.cells #[.int .i64 0, .int .i64 0] 27) = W at *
  generalize w1.heap.size = B1 at *
  generalize w2.heap.size = B2 at *
  generalize w3.heap.size = B3 at *
  generalize w4.heap.size = B4 at *
  have X1 := F1.ext
  have X2 := F2.ext
  have X3 := F3.ext
  have X4 := F4.ext
  (refine wp_region_ext (by kernel_rfl) (by kernel_rfl) ?_; (repeat (go_big_quiet_step ((first | (go_at_call 31; exact ext_alloc (refAt_any _ _ _)) | (go_at_call 17; exact ext_same (refMul_any _ _ _ (by omega) (by omega))) | (go_at_call 39; exact ext_same (refInverse_any _ _ (by omega))) | (go_at_call 20; exact ext_call (multiplied_any _)))))); refine wpQuiet_nil ?_; intro W5 hw'; have hW5 := ext_below hw'; clear hw')
  clear X1 X2 X3 X4
  have BW := Bw.step BW hW5
  have F1 := F1.below hW5
  have F2 := F2.below hW5
  have F3 := F3.below hW5
  have F4 := F4.below hW5
  clear hW5
  obtain ⟨l1, c10, c11⟩ := id F1
  obtain ⟨l2, c20, c21⟩ := id F2
  obtain ⟨l3, c30, c31⟩ := id F3
  obtain ⟨l4, c40, c41⟩ := id F4
  go_wp2_with (first | (go_at_call 38; refine (refLog_any _ _ (by omega)).mono ?_; rintro e w' ⟨rfl, rfl⟩) | (go_at_call 39; refine (refInverse_any _ _ (by omega)).mono ?_; rintro e w' ⟨rfl, rfl⟩) | (go_at_call 40; refine (refPow_ok _ _ _ ha).mono ?_; rintro e w' ⟨rfl, rfl⟩) | (go_at_call 20; refine (multiplied_any _).mono ?_; rintro e w' ⟨rfl, hbm⟩))
  clear c10 c11 c20 c21 c30 c31 c40 c41
  have X1 := F1.ext
  have X2 := F2.ext
  have X3 := F3.ext
  have X4 := F4.ext
  (refine wp_region_ext (by kernel_rfl) (by kernel_rfl) ?_; (repeat (go_big_quiet_step ((first | (go_at_call 31; exact ext_alloc (refAt_any _ _ _)) | (go_at_call 17; exact ext_same (refMul_any _ _ _ (by omega) (by omega))) | (go_at_call 39; exact ext_same (refInverse_any _ _ (by omega))) | (go_at_call 20; exact ext_call (multiplied_any _)))))); refine wpQuiet_nil ?_; intro W6 hw'; have hW6 := ext_below hw'; clear hw')
  clear X1 X2 X3 X4
  have BW := Bw.step BW hW6
  have F1 := F1.below hW6
  have F2 := F2.below hW6
  have F3 := F3.below hW6
  have F4 := F4.below hW6
  clear hW6
  obtain ⟨l1, c10, c11⟩ := id F1
  obtain ⟨l2, c20, c21⟩ := id F2
  obtain ⟨l3, c30, c31⟩ := id F3
  obtain ⟨l4, c40, c41⟩ := id F4
  go_wp2_with (first | (go_at_call 38; refine (refLog_any _ _ (by omega)).mono ?_; rintro e w' ⟨rfl, rfl⟩) | (go_at_call 39; refine (refInverse_any _ _ (by omega)).mono ?_; rintro e w' ⟨rfl, rfl⟩) | (go_at_call 40; refine (refPow_ok _ _ _ ha).mono ?_; rintro e w' ⟨rfl, rfl⟩) | (go_at_call 20; refine (multiplied_any _).mono ?_; rintro e w' ⟨rfl, hbm⟩))
  go_ret
  exact ⟨rfl, Bw.step BW hbm⟩

theorem walkGfPartialMatchesSpec (a b n : Int) (w : World) (w0 : (Lit.int .u8 a).wf = true) (w1 : (Lit.int .u8 b).wf = true) (_w2 : (Lit.int .i64 n).wf = true) :
    Calls Try.prog 13 #[.int .u8 a, .int .u8 b, .int .i64 n] w fun e w' => e = .returned (.bool true) ∧ Below w.heap.size w w' := by
  have ha := wf_u8 w0
  have hb := wf_u8 w1
  by_cases h0 : a = 0 <;> by_cases hb0 : b = 0 <;> by_cases hn : n < 0
  · exact walkPartial_a0n_b0 a b n w ha hb h0 hn hb0
  · exact walkPartial_a0p_b0 a b n w ha hb h0 (by omega) hb0
  · exact walkPartial_a0n_b1 a b n w ha hb h0 hn (by omega)
  · exact walkPartial_a0p_b1 a b n w ha hb h0 (by omega) (by omega)
  · exact walkPartial_a1_b0 a b n w ha hb (by omega) hb0
  · exact walkPartial_a1_b0 a b n w ha hb (by omega) hb0
  · exact walkPartial_a1_b1 a b n w ha hb (by omega) (by omega)
  · exact walkPartial_a1_b1 a b n w ha hb (by omega) (by omega)
end Go.Proofs.Ytoepcbpmbekpgaa
