/- Walks of the package interleave and of its reference: what Place, Source and Meets compute. -/
import Derived.Test.YtnajdmkdkpmdgaaBytes
import Derived.Test.YtnajdmkdkpmdgaaIl
import Derived.Handy
import Derived.RegionTactic
import Derived.Deep.LoopGhost
namespace Go.Proofs.Ytnajdmkdkpmdgaa
open Go.RowKit
set_option linter.unusedVariables false

theorem Has.drew {w : World} {b : Nat} {c i : Int} (h : Has w b c i) : Has w.drew b c i := h
set_option maxHeartbeats 400000 in
theorem ilFault_any (c i : Int) (w : World) :
    Calls Try.prog 34 #[.int .i64 c, .int .i64 i] w fun e w' => e = .returned (.agg #[.int .i64 c, .int .i64 i]) ∧ w.alloc (.cells #[.int .i64 c, .int .i64 i] 27) = w' := by
  go_enter Try.func34, Try.ntmps34
  go_wp2
  exact bodyPost_ret (v := .agg #[.int .i64 c, .int .i64 i]) (by simp [results, Try.results34, go_sem]) rfl ⟨rfl, rfl⟩
set_option maxHeartbeats 400000 in
theorem ilCheck_ok (r c : Int) (w : World) (hr : 0 ≤ r ∧ r < 16) (hc : 0 ≤ c ∧ c < 24) :
    Calls Try.prog 33 #[.int .i64 r, .int .i64 c] w fun e w' => e = .returned (.agg #[.int .i64 0, .int .i64 0]) ∧ Below w.heap.size w w' := by
  have h1 : decide (r < 0) = false := by simp; omega
  have h2 : decide (c < 0) = false := by simp; omega
  go_enter Try.func33, Try.ntmps33
  go_wp2
  exact bodyPost_ret (v := .agg #[.int .i64 0, .int .i64 0]) (by simp [results, Try.results33, go_sem]) rfl ⟨rfl, below_new _ _⟩
set_option maxHeartbeats 400000 in
theorem ilCheck_row (r c : Int) (w : World) (hr : ¬ (0 ≤ r ∧ r < 16)) :
    Calls Try.prog 33 #[.int .i64 r, .int .i64 c] w fun e w' => e = .returned (.agg #[.int .i64 4, .int .i64 (-1)]) ∧ Below w.heap.size w w' := by
  by_cases h : r < 0
  · have h1 : decide (r < 0) = true := by simp; omega
    go_enter Try.func33, Try.ntmps33
    go_wp2_with (go_at_call 34; refine (ilFault_any _ _ _).mono ?_; rintro e w' ⟨rfl, rfl⟩)
    exact bodyPost_ret (v := .agg #[.int .i64 4, .int .i64 (-1)]) (by simp [results, Try.results33, go_sem]) rfl ⟨rfl, below_new2 _ _ _⟩
  · have h1 : decide (r < 0) = false := by simp; omega
    have h2 : 16 ≤ r := by omega
    go_enter Try.func33, Try.ntmps33
    go_wp2_with (go_at_call 34; refine (ilFault_any _ _ _).mono ?_; rintro e w' ⟨rfl, rfl⟩)
    exact bodyPost_ret (v := .agg #[.int .i64 4, .int .i64 (-1)]) (by simp [results, Try.results33, go_sem]) rfl ⟨rfl, below_new2 _ _ _⟩
set_option maxHeartbeats 400000 in
theorem ilCheck_col (r c : Int) (w : World) (hr : 0 ≤ r ∧ r < 16) (hc : ¬ (0 ≤ c ∧ c < 24)) :
    Calls Try.prog 33 #[.int .i64 r, .int .i64 c] w fun e w' => e = .returned (.agg #[.int .i64 4, .int .i64 (-2)]) ∧ Below w.heap.size w w' := by
  have h0 : decide (r < 0) = false := by simp; omega
  by_cases h : c < 0
  · have h1 : decide (c < 0) = true := by simp; omega
    go_enter Try.func33, Try.ntmps33
    go_wp2_with (go_at_call 34; refine (ilFault_any _ _ _).mono ?_; rintro e w' ⟨rfl, rfl⟩)
    exact bodyPost_ret (v := .agg #[.int .i64 4, .int .i64 (-2)]) (by simp [results, Try.results33, go_sem]) rfl ⟨rfl, below_new2 _ _ _⟩
  · have h1 : decide (c < 0) = false := by simp; omega
    have h2 : 24 ≤ c := by omega
    go_enter Try.func33, Try.ntmps33
    go_wp2_with (go_at_call 34; refine (ilFault_any _ _ _).mono ?_; rintro e w' ⟨rfl, rfl⟩)
    exact bodyPost_ret (v := .agg #[.int .i64 4, .int .i64 (-2)]) (by simp [results, Try.results33, go_sem]) rfl ⟨rfl, below_new2 _ _ _⟩

theorem tmod16 (n : Int) : (n.tmod 16 + 16).tmod 16 = n % 16 := by
  rcases Int.lt_or_le n 0 with h | h
  · have h1 : n.tmod 16 = -((-n) % 16) := by rw [show n = -(-n) from by omega, Int.neg_tmod, Int.tmod_eq_emod_of_nonneg (by omega)]; simp
    rw [h1, Int.tmod_eq_emod_of_nonneg (by omega)]
    omega
  · rw [Int.tmod_eq_emod_of_nonneg h, Int.tmod_eq_emod_of_nonneg (by omega)]
    omega
set_option maxHeartbeats 400000 in
theorem ilRow_any (l c : Int) (w : World) (hl : 0 ≤ l ∧ l < 64) (hc : 0 ≤ c ∧ c < 64) :
    Calls Try.prog 35 #[.int .i64 l, .int .i64 c] w fun e w' => e = .returned (.int .i64 ((l + 5 * c) % 16)) ∧ w = w' := by
  go_enter Try.func35, Try.ntmps35
  go_wp2
  go_ret
  exact ⟨rfl, rfl⟩

theorem ilCheck_bad (r c i : Int) (w : World) (h : (¬ (0 ≤ r ∧ r < 16) ∧ i = -1) ∨ ((0 ≤ r ∧ r < 16) ∧ ¬ (0 ≤ c ∧ c < 24) ∧ i = -2)) :
    Calls Try.prog 33 #[.int .i64 r, .int .i64 c] w fun e w' => e = .returned (.agg #[.int .i64 4, .int .i64 i]) ∧ Below w.heap.size w w' := by
  rcases h with ⟨h, rfl⟩ | ⟨h1, h2, rfl⟩
  · exact ilCheck_row r c _ h
  · exact ilCheck_col r c _ h1 h2
end Go.Proofs.Ytnajdmkdkpmdgaa
