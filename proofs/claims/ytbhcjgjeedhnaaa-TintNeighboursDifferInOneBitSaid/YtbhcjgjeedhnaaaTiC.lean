/- Walks of the package tint: Shade, Level; of the reference: Bits, Shades, Joined, CellsOf, Nearest. -/
import Derived.Test.YtbhcjgjeedhnaaaTiB
namespace Go.Proofs.Ytbhcjgjeedhnaaa
open Go.RowKit
set_option linter.unusedVariables false

theorem retI {k : IntKind} {a b : Int} (h : a = b) : Ending.returned (.int k a) = .returned (.int k b) := by rw [h]
theorem shN_le (k lv : Nat) : shN k lv ≤ 255 := by
  unfold shN
  rcases Nat.lt_or_ge 1 lv with h | h
  · apply Nat.div_le_of_le_mul
    rw [Nat.mul_comm (lv - 1)]
    exact Nat.mul_le_mul_left _ (by omega)
  · simp [show lv - 1 = 0 by omega]
theorem dist_le {s k : Nat} (hs : s ≤ k) : dist s k = k - s := by unfold dist; rw [if_pos hs]
theorem dist_gt {s k : Nat} (hs : ¬ s ≤ k) : dist s k = s - k := by unfold dist; rw [if_neg hs]
set_option maxHeartbeats 1000000 in
theorem tiShadeI2 (k : Nat) (w : World) (hk : k < 2) :
    Calls Try.prog 22 #[.int .i64 k, .int .i64 2] w fun e w' => e = .returned (.int .i64 (shN k 2 : Nat)) ∧ w = w' := by
  have key : 255 * ((2 - 1 : Int) - k) / (2 - 1) = ((shN k 2 : Nat) : Int) := by unfold shN; omega
  have K := Lib.hid key
  clear key
  go_enter Try.func22, Try.ntmps22
  go_wp2
  go_ret
  exact ⟨retI (by have := K.out; omega), rfl⟩
set_option maxHeartbeats 1000000 in
theorem tiLevel2 (s : Nat) (w : World) (hs : s < 256) :
    Calls Try.prog 9 #[.int .i64 s, .int .i64 2] w fun e w' => e = .returned (.tuple #[.int .i64 ((near s 2 2).1 : Nat), .int .i64 ((near s 2 2).2 : Nat), .agg #[.int .i64 0, .int .i64 0]]) ∧ Below w.heap.size w w' := by
  go_enter Try.func9, Try.ntmps9
  go_wp2_with fail
  refine (tiCheck_ok 2 _ (by omega)).mono ?_
  rintro e w1 ⟨rfl, hb1⟩
  have F0 := ((Has.new w 0 0 23).below hb1).al (.cells #[.int .i64 0, .int .i64 0] 23)
  have B1 := Bw.al (Bw.step (below_new w (.cells #[.int .i64 0, .int .i64 0] 23)) hb1) (.cells #[.int .i64 0, .int .i64 0] 23)
  go_wp2
  generalize w1.alloc (.cells #[.int .i64 0, .int .i64 0] 23) = W at *
  generalize w1.heap.size = s1 at *
  go_loop [8, 9, 26] (fun b d i => ∃ k : Nat, k ≤ 2 ∧ i = .int .i64 k ∧ b = .int .i64 ((near s 2 k).1 : Nat) ∧ d = .int .i64 ((near s 2 k).2 : Nat)) (fun _ _ i => 2 - (intOf i).toNat)
  case atStart => exact ⟨0, by omega, rfl, rfl, rfl⟩
  case round =>
    obtain ⟨k, hk, rfl, rfl, rfl⟩ := hrel
    by_cases hlt : k < 2
    · have hn := near_le s 2 k
      have HN := Lib.hid (show near s 2 (k + 1) = if dist s (shN k 2) < (near s 2 k).2 then (k, dist s (shN k 2)) else near s 2 k from rfl)
      have hsh := shN_le k 2
      have HC := Lib.hid (fun w => tiShadeI2 k w hlt)
      generalize near s 2 k = nr at *
      obtain ⟨n1, n2⟩ := nr
      dsimp only at hn HN ⊢
      by_cases h1 : s ≤ shN k 2
      all_goals
        first | rw [dist_le h1] at HN | rw [dist_gt h1] at HN
        generalize shN k 2 = t at *
        by_cases h2 : (if s ≤ t then t - s else s - t) < n2
        all_goals
          first | rw [if_pos h1] at h2 | rw [if_neg h1] at h2
          first | rw [if_pos h2] at HN | rw [if_neg h2] at HN
          go_wp2_with (go_at_call 22; refine (HC.out _).mono ?_; rintro e w' ⟨rfl, rfl⟩)
          go_round
          case rel => exact ⟨k + 1, by omega, by go_num, by rw [HN.out], by (rw [HN.out]) <;> (congr 1; omega)⟩
          case measure => simp [intOf]; omega
    · obtain rfl : k = 2 := by omega
      obtain ⟨l0, c00, c01, f00, f01⟩ := id F0
      go_wp2
      exact bodyPost_ret (resF3 rfl rfl (F0.set2 0 0)) rfl ⟨rfl, Bw.set (Bw.set B1 (Nat.le_refl _) _) (Nat.le_refl _) _⟩
set_option maxHeartbeats 1000000 in
theorem tiShadeI4 (k : Nat) (w : World) (hk : k < 4) :
    Calls Try.prog 22 #[.int .i64 k, .int .i64 4] w fun e w' => e = .returned (.int .i64 (shN k 4 : Nat)) ∧ w = w' := by
  have key : 255 * ((4 - 1 : Int) - k) / (4 - 1) = ((shN k 4 : Nat) : Int) := by unfold shN; omega
  have K := Lib.hid key
  clear key
  go_enter Try.func22, Try.ntmps22
  go_wp2
  go_ret
  exact ⟨retI (by have := K.out; omega), rfl⟩
set_option maxHeartbeats 1000000 in
theorem tiLevel4 (s : Nat) (w : World) (hs : s < 256) :
    Calls Try.prog 9 #[.int .i64 s, .int .i64 4] w fun e w' => e = .returned (.tuple #[.int .i64 ((near s 4 4).1 : Nat), .int .i64 ((near s 4 4).2 : Nat), .agg #[.int .i64 0, .int .i64 0]]) ∧ Below w.heap.size w w' := by
  go_enter Try.func9, Try.ntmps9
  go_wp2_with fail
  refine (tiCheck_ok 4 _ (by omega)).mono ?_
  rintro e w1 ⟨rfl, hb1⟩
  have F0 := ((Has.new w 0 0 23).below hb1).al (.cells #[.int .i64 0, .int .i64 0] 23)
  have B1 := Bw.al (Bw.step (below_new w (.cells #[.int .i64 0, .int .i64 0] 23)) hb1) (.cells #[.int .i64 0, .int .i64 0] 23)
  go_wp2
  generalize w1.alloc (.cells #[.int .i64 0, .int .i64 0] 23) = W at *
  generalize w1.heap.size = s1 at *
  go_loop [8, 9, 26] (fun b d i => ∃ k : Nat, k ≤ 4 ∧ i = .int .i64 k ∧ b = .int .i64 ((near s 4 k).1 : Nat) ∧ d = .int .i64 ((near s 4 k).2 : Nat)) (fun _ _ i => 4 - (intOf i).toNat)
  case atStart => exact ⟨0, by omega, rfl, rfl, rfl⟩
  case round =>
    obtain ⟨k, hk, rfl, rfl, rfl⟩ := hrel
    by_cases hlt : k < 4
    · have hn := near_le s 4 k
      have HN := Lib.hid (show near s 4 (k + 1) = if dist s (shN k 4) < (near s 4 k).2 then (k, dist s (shN k 4)) else near s 4 k from rfl)
      have hsh := shN_le k 4
      have HC := Lib.hid (fun w => tiShadeI4 k w hlt)
      generalize near s 4 k = nr at *
      obtain ⟨n1, n2⟩ := nr
      dsimp only at hn HN ⊢
      by_cases h1 : s ≤ shN k 4
      all_goals
        first | rw [dist_le h1] at HN | rw [dist_gt h1] at HN
        generalize shN k 4 = t at *
        by_cases h2 : (if s ≤ t then t - s else s - t) < n2
        all_goals
          first | rw [if_pos h1] at h2 | rw [if_neg h1] at h2
          first | rw [if_pos h2] at HN | rw [if_neg h2] at HN
          go_wp2_with (go_at_call 22; refine (HC.out _).mono ?_; rintro e w' ⟨rfl, rfl⟩)
          go_round
          case rel => exact ⟨k + 1, by omega, by go_num, by rw [HN.out], by (rw [HN.out]) <;> (congr 1; omega)⟩
          case measure => simp [intOf]; omega
    · obtain rfl : k = 4 := by omega
      obtain ⟨l0, c00, c01, f00, f01⟩ := id F0
      go_wp2
      exact bodyPost_ret (resF3 rfl rfl (F0.set2 0 0)) rfl ⟨rfl, Bw.set (Bw.set B1 (Nat.le_refl _) _) (Nat.le_refl _) _⟩
end Go.Proofs.Ytbhcjgjeedhnaaa
