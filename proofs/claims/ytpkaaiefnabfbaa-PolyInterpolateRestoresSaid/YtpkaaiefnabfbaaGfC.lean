/- Walks of what the statements share: In, At, and the known products. -/
import Derived.Test.YtpkaaiefnabfbaaGfB
namespace Go.Proofs.Ytpkaaiefnabfbaa
open Go.RowKit

@[go_sem] theorem run_code (w : World) (c i : Int) : (Instr.field 24 (.agg #[.int .i64 c, .int .i64 i]) 0).run Try.prog w = .ok (.int .i64 c) w := by kernel_rfl
@[go_sem] theorem run_index (w : World) (c i : Int) : (Instr.field 24 (.agg #[.int .i64 c, .int .i64 i]) 1).run Try.prog w = .ok (.int .i64 i) w := by kernel_rfl

def inB (n lo hi : Int) : Bool := decide (lo ≤ n ∧ n ≤ hi)
set_option maxHeartbeats 400000 in
theorem refAt_any (c i : Int) (w : World) :
    Calls Try.prog 16 #[.int .i64 c, .int .i64 i] w fun e w' => e = .returned (.agg #[.int .i64 c, .int .i64 i]) ∧ w.alloc (.cells #[.int .i64 c, .int .i64 i] 24) = w' := by
  go_enter Try.func16, Try.ntmps16
  go_wp2
  exact bodyPost_ret (v := .agg #[.int .i64 c, .int .i64 i]) (by simp [results, Try.results16, go_sem]) rfl ⟨rfl, rfl⟩

end Go.Proofs.Ytpkaaiefnabfbaa
