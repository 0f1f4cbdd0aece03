/- Walks of what the statements share: In, At, and the known products. -/
import Derived.Test.YtnajdmkdkpmdgaaGfB
namespace Go.Proofs.Ytnajdmkdkpmdgaa
open Go.RowKit

@[go_sem] theorem run_code (w : World) (c i : Int) : (Instr.field 27 (.agg #[.int .i64 c, .int .i64 i]) 0).run Try.prog w = .ok (.int .i64 c) w := by kernel_rfl
@[go_sem] theorem run_index (w : World) (c i : Int) : (Instr.field 27 (.agg #[.int .i64 c, .int .i64 i]) 1).run Try.prog w = .ok (.int .i64 i) w := by kernel_rfl

def inB (n lo hi : Int) : Bool := decide (lo ≤ n ∧ n ≤ hi)
set_option maxHeartbeats 400000 in
theorem refIn_any (n lo hi : Int) (w : World) :
    Calls Try.prog 24 #[.int .i64 n, .int .i64 lo, .int .i64 hi] w fun e w' => e = .returned (.bool (inB n lo hi)) ∧ w = w' := by
  by_cases h1 : lo ≤ n
  · by_cases h2 : n ≤ hi
    · have hi' : inB n lo hi = true := by unfold inB; simp [h1, h2]
      rw [hi']
      go_enter Try.func24, Try.ntmps24
      go_wp2
      go_ret
      exact ⟨rfl, rfl⟩
    · have hi' : inB n lo hi = false := by unfold inB; simp [h2]
      rw [hi']
      go_enter Try.func24, Try.ntmps24
      go_wp2
      go_ret
      exact ⟨rfl, rfl⟩
  · have hi' : inB n lo hi = false := by unfold inB; simp [h1]
    have hd : decide (lo ≤ n) = false := by simpa using h1
    rw [hi']
    go_enter Try.func24, Try.ntmps24
    go_wp2
    go_ret
    exact ⟨rfl, rfl⟩
set_option maxHeartbeats 400000 in
theorem refAt_any (c i : Int) (w : World) :
    Calls Try.prog 11 #[.int .i64 c, .int .i64 i] w fun e w' => e = .returned (.agg #[.int .i64 c, .int .i64 i]) ∧ w.alloc (.cells #[.int .i64 c, .int .i64 i] 27) = w' := by
  go_enter Try.func11, Try.ntmps11
  go_wp2
  exact bodyPost_ret (v := .agg #[.int .i64 c, .int .i64 i]) (by simp [results, Try.results11, go_sem]) rfl ⟨rfl, rfl⟩

end Go.Proofs.Ytnajdmkdkpmdgaa
