/- Walks of what the statements share: In, At, and the known products. -/
import Derived.Test.YtoepcbpmbekpgaaGfB
namespace Go.Proofs.Ytoepcbpmbekpgaa
open Go.RowKit

@[go_sem] theorem run_code (w : World) (c i : Int) : (Instr.field 27 (.agg #[.int .i64 c, .int .i64 i]) 0).run Try.prog w = .ok (.int .i64 c) w := by kernel_rfl
@[go_sem] theorem run_index (w : World) (c i : Int) : (Instr.field 27 (.agg #[.int .i64 c, .int .i64 i]) 1).run Try.prog w = .ok (.int .i64 i) w := by kernel_rfl

def inB (n lo hi : Int) : Bool := decide (lo ≤ n ∧ n ≤ hi)
set_option maxHeartbeats 400000 in
theorem refIn_any (n lo hi : Int) (w : World) :
    Calls Try.prog 27 #[.int .i64 n, .int .i64 lo, .int .i64 hi] w fun e w' => e = .returned (.bool (inB n lo hi)) ∧ w = w' := by
  by_cases h1 : lo ≤ n
  · by_cases h2 : n ≤ hi
    · have hi' : inB n lo hi = true := by unfold inB; simp [h1, h2]
      rw [hi']
      go_enter Try.func27, Try.ntmps27
      go_wp2
      go_ret
      exact ⟨rfl, rfl⟩
    · have hi' : inB n lo hi = false := by unfold inB; simp [h2]
      rw [hi']
      go_enter Try.func27, Try.ntmps27
      go_wp2
      go_ret
      exact ⟨rfl, rfl⟩
  · have hi' : inB n lo hi = false := by unfold inB; simp [h1]
    have hd : decide (lo ≤ n) = false := by simpa using h1
    rw [hi']
    go_enter Try.func27, Try.ntmps27
    go_wp2
    go_ret
    exact ⟨rfl, rfl⟩
set_option maxHeartbeats 400000 in
theorem refAt_any (c i : Int) (w : World) :
    Calls Try.prog 31 #[.int .i64 c, .int .i64 i] w fun e w' => e = .returned (.agg #[.int .i64 c, .int .i64 i]) ∧ w.alloc (.cells #[.int .i64 c, .int .i64 i] 27) = w' := by
  go_enter Try.func31, Try.ntmps31
  go_wp2
  exact bodyPost_ret (v := .agg #[.int .i64 c, .int .i64 i]) (by simp [results, Try.results31, go_sem]) rfl ⟨rfl, rfl⟩

set_option maxHeartbeats 400000 in
theorem multiplied_any (w : World) :
    Calls Try.prog 20 #[] w fun e w' => e = .returned (.bool true) ∧ Below w.heap.size w w' := by
  have h1 : (gL 29 == 8) = true := by decide +kernel
  have h2 : (gM 2 128 == 29) = true := by decide +kernel
  have h3 : (gE 8 == 29) = true := by decide +kernel
  have h4 : (gA 12 10 == 6) = true := by decide +kernel
  go_enter Try.func20, Try.ntmps20
  go_wp2_with (first
    | (go_at_call 21; refine (gfLog_any _ _ (by omega)).mono ?_; rintro e w' ⟨rfl, hb⟩)
    | (go_at_call 16; refine (gfMul_any _ _ _ (by omega) (by omega)).mono ?_; rintro e w' ⟨rfl, rfl⟩)
    | (go_at_call 18; refine (gfExp_any _ _).mono ?_; rintro e w' ⟨rfl, rfl⟩)
    | (go_at_call 15; refine (gfAdd_any _ _ _ (by omega) (by omega)).mono ?_; rintro e w' ⟨rfl, rfl⟩))
  go_ret
  exact ⟨rfl, hb.alloc hb.size _⟩
end Go.Proofs.Ytoepcbpmbekpgaa
