/- Cross pages: Restore, where its arguments do not fit. -/
import Derived.Test.YtcinfkmekkdhfaaCpU
import Derived.Test.YtcinfkmekkdhfaaCqB
namespace Go.Proofs.Ytcinfkmekkdhfaa
open Go.RowKit Go.Shelf
set_option linter.unusedVariables false
attribute [local go_sem] Oper.semAt_some

/-- How Restore fails. -/
def ResBad (w : World) (c i : Int) (e : Ending) (w' : World) : Prop := e = .returned (.tuple #[.slice none 0 0, .slice none 0 0, .agg #[.int .i64 c, .int .i64 i]]) ∧ Below w.heap.size w w'
theorem bw4b (w : World) (a b c d : Obj) : Below w.heap.size w ((((w.alloc a).alloc b).alloc c).alloc d) := Bw.al (Bw.al (Bw.al (below_new w _) _) _) _
set_option maxRecDepth 100000 in
set_option maxHeartbeats 1000000 in
theorem restore_bad (A B : Option Addr) (m c m' c' : Nat) (p : Int) (C F : Int) (w : World) (xC : (C == 0) = false) (hS : ∀ W, Below w.heap.size w W → Calls Try.prog 29 #[.slice A m c, .slice B m' c', .int .i64 p] W (ChkBad W C F)) :
    Calls Try.prog 14 #[.slice A m c, .slice B m' c', .int .i64 p] w (ResBad w C F) := by
  have HS := Lib.hid hS
  clear hS
  go_enter Try.func14, Try.ntmps14
  go_wp2_with fail
  refine (HS.out _ (bw4b w _ _ _ _)).mono ?_
  rintro e w1 ⟨rfl, hb1⟩
  have H0 := Has.new (((w.alloc (.cells #[.slice A m c] 22)).alloc (.cells #[.slice B m' c'] 32)).alloc (.cells #[.int .i64 p] 3)) 0 0 24
  rw [World.size_alloc, World.size_alloc, World.size_alloc] at H0
  have F0 := (H0.below hb1).al (.cells #[.int .i64 C, .int .i64 F] 24)
  have F1 := Has.new w1 C F 24
  have B1 := Bw.al (Bw.step (bw4b w _ _ _ _) hb1) (.cells #[.int .i64 C, .int .i64 F] 24)
  clear hb1 H0
  go_wp2
  generalize w1.alloc (.cells #[.int .i64 C, .int .i64 F] 24) = W at *
  generalize w1.heap.size = b1 at *
  have X1 := F1.ext
  (refine wp_region_extail 3 (by kernel_rfl) (by kernel_rfl) ?_; simp only [List.take_succ_cons, List.take_zero, List.drop_succ_cons, List.drop_zero]; (repeat (go_big_quiet_step ((fail)))); refine wpQuiet_nil ?_; intro W5 hw'; have hW5 := ext_below hw'; clear hw')
  have F5 := F0.below hW5
  have B5 := Bw.step B1 hW5
  clear X1
  obtain ⟨l0, c00, c01, f00, f01⟩ := id F5
  go_wp2
  exact bodyPost_ret (resF3 rfl rfl (F5.set2 C F)) rfl ⟨rfl, Bw.set (Bw.set B5 (by show w.heap.size ≤ w.heap.size + 1 + 1 + 1; omega) _) (by show w.heap.size ≤ w.heap.size + 1 + 1 + 1; omega) _⟩
end Go.Proofs.Ytcinfkmekkdhfaa
