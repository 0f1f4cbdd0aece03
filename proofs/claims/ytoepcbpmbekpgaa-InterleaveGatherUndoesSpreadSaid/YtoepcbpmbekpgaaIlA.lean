/- Walks of the package interleave and of its reference: what Place, Source and Meets compute. -/
import Derived.Test.YtoepcbpmbekpgaaBytes
import Derived.Test.YtoepcbpmbekpgaaIl
import Derived.Handy
import Derived.RegionTactic
import Derived.Deep.LoopGhost
namespace Go.Proofs.Ytoepcbpmbekpgaa
open Go.RowKit
set_option linter.unusedVariables false

theorem Has.drew {w : World} {b : Nat} {c i : Int} (h : Has w b c i) : Has w.drew b c i := h
set_option maxHeartbeats 400000 in
theorem ilFault_any (c i : Int) (w : World) :
    Calls Try.prog 45 #[.int .i64 c, .int .i64 i] w fun e w' => e = .returned (.agg #[.int .i64 c, .int .i64 i]) ∧ w.alloc (.cells #[.int .i64 c, .int .i64 i] 27) = w' := by
  go_enter Try.func45, Try.ntmps45
  go_wp2
  exact bodyPost_ret (v := .agg #[.int .i64 c, .int .i64 i]) (by simp [results, Try.results45, go_sem]) rfl ⟨rfl, rfl⟩
set_option maxHeartbeats 400000 in
theorem ilCheck_ok (r c : Int) (w : World) (hr : 0 ≤ r ∧ r < 16) (hc : 0 ≤ c ∧ c < 24) :
    Calls Try.prog 44 #[.int .i64 r, .int .i64 c] w fun e w' => e = .returned (.agg #[.int .i64 0, .int .i64 0]) ∧ Below w.heap.size w w' := by
  have h1 : decide (r < 0) = false := by simp; omega
  have h2 : decide (c < 0) = false := by simp; omega
  go_enter Try.func44, Try.ntmps44
  go_wp2
  exact bodyPost_ret (v := .agg #[.int .i64 0, .int .i64 0]) (by simp [results, Try.results44, go_sem]) rfl ⟨rfl, below_new _ _⟩
set_option maxHeartbeats 400000 in
theorem ilCheck_row (r c : Int) (w : World) (hr : ¬ (0 ≤ r ∧ r < 16)) :
    Calls Try.prog 44 #[.int .i64 r, .int .i64 c] w fun e w' => e = .returned (.agg #[.int .i64 4, .int .i64 (-1)]) ∧ Below w.heap.size w w' := by
  by_cases h : r < 0
  · have h1 : decide (r < 0) = true := by simp; omega
    go_enter Try.func44, Try.ntmps44
    go_wp2_with (go_at_call 45; refine (ilFault_any _ _ _).mono ?_; rintro e w' ⟨rfl, rfl⟩)
    exact bodyPost_ret (v := .agg #[.int .i64 4, .int .i64 (-1)]) (by simp [results, Try.results44, go_sem]) rfl ⟨rfl, below_new2 _ _ _⟩
  · have h1 : decide (r < 0) = false := by simp; omega
    have h2 : 16 ≤ r := by omega
    go_enter Try.func44, Try.ntmps44
    go_wp2_with (go_at_call 45; refine (ilFault_any _ _ _).mono ?_; rintro e w' ⟨rfl, rfl⟩)
    exact bodyPost_ret (v := .agg #[.int .i64 4, .int .i64 (-1)]) (by simp [results, Try.results44, go_sem]) rfl ⟨rfl, below_new2 _ _ _⟩
set_option maxHeartbeats 400000 in
theorem ilCheck_col (r c : Int) (w : World) (hr : 0 ≤ r ∧ r < 16) (hc : ¬ (0 ≤ c ∧ c < 24)) :
    Calls Try.prog 44 #[.int .i64 r, .int .i64 c] w fun e w' => e = .returned (.agg #[.int .i64 4, .int .i64 (-2)]) ∧ Below w.heap.size w w' := by
  have h0 : decide (r < 0) = false := by simp; omega
  by_cases h : c < 0
  · have h1 : decide (c < 0) = true := by simp; omega
    go_enter Try.func44, Try.ntmps44
    go_wp2_with (go_at_call 45; refine (ilFault_any _ _ _).mono ?_; rintro e w' ⟨rfl, rfl⟩)
    exact bodyPost_ret (v := .agg #[.int .i64 4, .int .i64 (-2)]) (by simp [results, Try.results44, go_sem]) rfl ⟨rfl, below_new2 _ _ _⟩
  · have h1 : decide (c < 0) = false := by simp; omega
    have h2 : 24 ≤ c := by omega
    go_enter Try.func44, Try.ntmps44
    go_wp2_with (go_at_call 45; refine (ilFault_any _ _ _).mono ?_; rintro e w' ⟨rfl, rfl⟩)
    exact bodyPost_ret (v := .agg #[.int .i64 4, .int .i64 (-2)]) (by simp [results, Try.results44, go_sem]) rfl ⟨rfl, below_new2 _ _ _⟩

theorem tmod16 (n : Int) : (n.tmod 16 + 16).tmod 16 = n % 16 := by
  rcases Int.lt_or_le n 0 with h | h
  · have h1 : n.tmod 16 = -((-n) % 16) := by rw [show n = -(-n) from by omega, Int.neg_tmod, Int.tmod_eq_emod_of_nonneg (by omega)]; simp
    rw [h1, Int.tmod_eq_emod_of_nonneg (by omega)]
    omega
  · rw [Int.tmod_eq_emod_of_nonneg h, Int.tmod_eq_emod_of_nonneg (by omega)]
    omega
set_option maxHeartbeats 400000 in
theorem ilLine_any (r c : Int) (w : World) (hr : 0 ≤ r ∧ r < 16) (hc : 0 ≤ c ∧ c < 24) :
    Calls Try.prog 48 #[.int .i64 r, .int .i64 c] w fun e w' => e = .returned (.int .i64 (ilL r c)) ∧ w = w' := by
  have hb : -16 < (r - 5 * c).tmod 16 ∧ (r - 5 * c).tmod 16 < 16 := ⟨Int.lt_tmod_of_pos _ (by omega), Int.tmod_lt_of_pos _ (by omega)⟩
  have H := Lib.hid (show ((r - 5 * c).tmod 16 + 16) % 16 = ilL r c by
    rw [← Int.tmod_eq_emod_of_nonneg (by omega)]; exact tmod16 (r - 5 * c))
  go_enter Try.func48, Try.ntmps48
  go_wp2
  go_ret
  exact ⟨by rw [← H.out]; rfl, rfl⟩
set_option maxHeartbeats 400000 in
theorem ilRow_any (l c : Int) (w : World) (hl : 0 ≤ l ∧ l < 64) (hc : 0 ≤ c ∧ c < 64) :
    Calls Try.prog 46 #[.int .i64 l, .int .i64 c] w fun e w' => e = .returned (.int .i64 ((l + 5 * c) % 16)) ∧ w = w' := by
  go_enter Try.func46, Try.ntmps46
  go_wp2
  go_ret
  exact ⟨rfl, rfl⟩

theorem ilCheck_bad (r c i : Int) (w : World) (h : (¬ (0 ≤ r ∧ r < 16) ∧ i = -1) ∨ ((0 ≤ r ∧ r < 16) ∧ ¬ (0 ≤ c ∧ c < 24) ∧ i = -2)) :
    Calls Try.prog 44 #[.int .i64 r, .int .i64 c] w fun e w' => e = .returned (.agg #[.int .i64 4, .int .i64 i]) ∧ Below w.heap.size w w' := by
  rcases h with ⟨h, rfl⟩ | ⟨h1, h2, rfl⟩
  · exact ilCheck_row r c _ h
  · exact ilCheck_col r c _ h1 h2
set_option maxHeartbeats 400000 in
theorem ilPlace_ok (r c : Int) (w : World) (hr : 0 ≤ r ∧ r < 16) (hc : 0 ≤ c ∧ c < 24) :
    Calls Try.prog 29 #[.int .i64 r, .int .i64 c] w fun e w' => e = .returned (.tuple #[.int .i64 (ilL r c), .int .i64 c, .agg #[.int .i64 0, .int .i64 0]]) ∧ Below w.heap.size w w' := by
  go_enter Try.func29, Try.ntmps29
  go_wp2_with fail
  refine (ilCheck_ok _ _ _ hr hc).mono ?_; rintro e w1 ⟨rfl, hb1⟩
  have F0 := (Has.new w 0 0 _).below hb1
  obtain ⟨l0, c00, c01, f00, f01⟩ := id F0
  go_wp2_with (go_at_call 48; refine (ilLine_any _ _ _ hr hc).mono ?_; rintro e w' ⟨rfl, rfl⟩)
  exact bodyPost_ret (resF3 rfl rfl ((F0.set2 0 0).al _)) rfl ⟨rfl, Bw.al (Bw.set (Bw.set (Bw.step (below_new _ _) hb1) (Nat.le_refl _) _) (Nat.le_refl _) _) _⟩
set_option maxHeartbeats 400000 in
theorem ilPlace_bad (r c i : Int) (w : World) (h : (¬ (0 ≤ r ∧ r < 16) ∧ i = -1) ∨ ((0 ≤ r ∧ r < 16) ∧ ¬ (0 ≤ c ∧ c < 24) ∧ i = -2)) :
    Calls Try.prog 29 #[.int .i64 r, .int .i64 c] w fun e w' => e = .returned (.tuple #[.int .i64 0, .int .i64 0, .agg #[.int .i64 4, .int .i64 i]]) ∧ Below w.heap.size w w' := by
  go_enter Try.func29, Try.ntmps29
  go_wp2_with fail
  refine (ilCheck_bad _ _ _ _ h).mono ?_; rintro e w1 ⟨rfl, hb1⟩
  have F0 := (Has.new w 0 0 _).below hb1
  obtain ⟨l0, c00, c01, f00, f01⟩ := id F0
  go_wp2
  go_region
  go_wp2
  exact bodyPost_ret (resF3 rfl rfl (Has.drew ((F0.set2 4 i).al _))) rfl ⟨rfl, Bw.drew (Bw.al (Bw.set (Bw.set (Bw.step (below_new _ _) hb1) (Nat.le_refl _) _) (Nat.le_refl _) _) _)⟩
set_option maxHeartbeats 400000 in
theorem ilSource_ok (r c : Int) (w : World) (hr : 0 ≤ r ∧ r < 16) (hc : 0 ≤ c ∧ c < 24) :
    Calls Try.prog 30 #[.int .i64 r, .int .i64 c] w fun e w' => e = .returned (.tuple #[.int .i64 ((r + 5 * c) % 16), .int .i64 c, .agg #[.int .i64 0, .int .i64 0]]) ∧ Below w.heap.size w w' := by
  go_enter Try.func30, Try.ntmps30
  go_wp2_with fail
  refine (ilCheck_ok _ _ _ hr hc).mono ?_; rintro e w1 ⟨rfl, hb1⟩
  have F0 := (Has.new w 0 0 _).below hb1
  obtain ⟨l0, c00, c01, f00, f01⟩ := id F0
  go_wp2_with (go_at_call 46; refine (ilRow_any _ _ _ (by omega) (by omega)).mono ?_; rintro e w' ⟨rfl, rfl⟩)
  exact bodyPost_ret (resF3 rfl rfl ((F0.set2 0 0).al _)) rfl ⟨rfl, Bw.al (Bw.set (Bw.set (Bw.step (below_new _ _) hb1) (Nat.le_refl _) _) (Nat.le_refl _) _) _⟩
set_option maxHeartbeats 400000 in
theorem ilSource_bad (r c i : Int) (w : World) (h : (¬ (0 ≤ r ∧ r < 16) ∧ i = -1) ∨ ((0 ≤ r ∧ r < 16) ∧ ¬ (0 ≤ c ∧ c < 24) ∧ i = -2)) :
    Calls Try.prog 30 #[.int .i64 r, .int .i64 c] w fun e w' => e = .returned (.tuple #[.int .i64 0, .int .i64 0, .agg #[.int .i64 4, .int .i64 i]]) ∧ Below w.heap.size w w' := by
  go_enter Try.func30, Try.ntmps30
  go_wp2_with fail
  refine (ilCheck_bad _ _ _ _ h).mono ?_; rintro e w1 ⟨rfl, hb1⟩
  have F0 := (Has.new w 0 0 _).below hb1
  obtain ⟨l0, c00, c01, f00, f01⟩ := id F0
  go_wp2
  go_region
  go_wp2
  exact bodyPost_ret (resF3 rfl rfl (Has.drew ((F0.set2 4 i).al _))) rfl ⟨rfl, Bw.drew (Bw.al (Bw.set (Bw.set (Bw.step (below_new _ _) hb1) (Nat.le_refl _) _) (Nat.le_refl _) _) _)⟩

set_option maxHeartbeats 400000 in
theorem refLine_any (r c : Int) (w : World) (hr : 0 ≤ r ∧ r < 16) (hc : 0 ≤ c ∧ c < 1000) :
    Calls Try.prog 32 #[.int .i64 r, .int .i64 c] w fun e w' => e = .returned (.int .i64 (ilL r c)) ∧ w = w' := by
  have hb := ilL_bd r c
  go_enter Try.func32, Try.ntmps32
  go_wp2
  go_loop [5] (fun i => ∃ k : Nat, (k : Int) ≤ ilL r c ∧ i = .int .i64 k) (fun i => 16 - (intOf i).toNat)
  case atStart => exact ⟨0, by omega, rfl⟩
  case round =>
    obtain ⟨k, hk, rfl⟩ := hrel
    by_cases h : (k : Int) = ilL r c
    · have h1 : (((k : Int) + 5 * c) % 16 == r) = true := by rw [beq_iff_eq]; exact (ilL_iff hr (by omega)).2 h.symm
      have H := Lib.hid h
      clear h
      go_wp2
      go_ret
      exact ⟨by rw [← H.out]; rfl, rfl⟩
    · have h1 : (((k : Int) + 5 * c) % 16 == r) = false := by rw [beq_eq_false_iff_ne]; exact fun e => h ((ilL_iff hr (by omega)).1 e).symm
      have h2 : (k : Int) < ilL r c := by omega
      clear h
      go_wp2
      go_round
      case rel => exact ⟨k + 1, by omega, by go_num⟩
      case measure => simp [intOf]; omega
end Go.Proofs.Ytoepcbpmbekpgaa
