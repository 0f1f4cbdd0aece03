/- Walks: the reference's faults of plans and losses; shapes and payloads. -/
import Derived.Test.YtnajdmkdkpmdgaaLpC
namespace Go.Proofs.Ytnajdmkdkpmdgaa
open Go.RowKit
set_option linter.unusedVariables false

theorem wi_ok {t : Tri} {ts : List Tri} {k : Nat} (h : triOk t) : wiR (t :: ts) k = wiR ts (k + 1) := by rw [wiR, if_pos h]
theorem wi_bad {t : Tri} {ts : List Tri} {k : Nat} (h : ¬ triOk t) : wiR (t :: ts) k = (4, (k : Int)) := by rw [wiR, if_neg h]
theorem in_ok {n lo hi : Int} (h : triOk (n, lo, hi)) : inB n lo hi = true := inB_true h
theorem in_bad {n lo hi : Int} (h : ¬ triOk (n, lo, hi)) : inB n lo hi = false := inB_false h
set_option maxHeartbeats 2000000 in
theorem rPlanFault_any (r c d p : Int) (w : World) :
    Calls Try.prog 9 #[plV r c d p] w fun e w' => e = .returned (.agg #[.int .i64 (plF r c d p).1, .int .i64 (plF r c d p).2]) ∧ Below w.heap.size w w' := by
  unfold plF wiF planT
  by_cases h0 : triOk (r, 0, 16)
  · rw [wi_ok h0]
    have i0 := in_ok h0
    by_cases h1 : triOk (c, 0, 12)
    · rw [wi_ok h1]
      have i1 := in_ok h1
      by_cases h2 : triOk (d, 1, 48)
      · rw [wi_ok h2]
        have i2 := in_ok h2
        by_cases h3 : triOk (p, 0, 16)
        · rw [wi_ok h3]
          have i3 := in_ok h3
          clear h0 h1 h2 h3
          go_enter Try.func9, Try.ntmps9
          go_wp2_with (first | (go_at_call 24; refine (refIn_any _ _ _ _).mono ?_; rintro e w' ⟨rfl, rfl⟩) | (go_at_call 11; refine (refAt_any _ _ _).mono ?_; rintro e w' ⟨rfl, rfl⟩))
          exact bodyPost_ret (v := .agg #[.int .i64 0, .int .i64 0]) (by simp [results, Try.results9, go_sem]) rfl ⟨rfl, by (repeat (first | exact Below.refl _ _ | assumption | refine Bw.al ?_ _ | refine Bw.step ?_ (by assumption) | refine Bw.drew ?_))⟩
        · rw [wi_bad h3]
          have i3 := in_bad h3
          clear h0 h1 h2 h3
          go_enter Try.func9, Try.ntmps9
          go_wp2_with (first | (go_at_call 24; refine (refIn_any _ _ _ _).mono ?_; rintro e w' ⟨rfl, rfl⟩) | (go_at_call 11; refine (refAt_any _ _ _).mono ?_; rintro e w' ⟨rfl, rfl⟩))
          exact bodyPost_ret (v := .agg #[.int .i64 4, .int .i64 3]) (by simp [results, Try.results9, go_sem]) rfl ⟨rfl, by (repeat (first | exact Below.refl _ _ | assumption | refine Bw.al ?_ _ | refine Bw.step ?_ (by assumption) | refine Bw.drew ?_))⟩
      · rw [wi_bad h2]
        have i2 := in_bad h2
        clear h0 h1 h2
        go_enter Try.func9, Try.ntmps9
        go_wp2_with (first | (go_at_call 24; refine (refIn_any _ _ _ _).mono ?_; rintro e w' ⟨rfl, rfl⟩) | (go_at_call 11; refine (refAt_any _ _ _).mono ?_; rintro e w' ⟨rfl, rfl⟩))
        exact bodyPost_ret (v := .agg #[.int .i64 4, .int .i64 2]) (by simp [results, Try.results9, go_sem]) rfl ⟨rfl, by (repeat (first | exact Below.refl _ _ | assumption | refine Bw.al ?_ _ | refine Bw.step ?_ (by assumption) | refine Bw.drew ?_))⟩
    · rw [wi_bad h1]
      have i1 := in_bad h1
      clear h0 h1
      go_enter Try.func9, Try.ntmps9
      go_wp2_with (first | (go_at_call 24; refine (refIn_any _ _ _ _).mono ?_; rintro e w' ⟨rfl, rfl⟩) | (go_at_call 11; refine (refAt_any _ _ _).mono ?_; rintro e w' ⟨rfl, rfl⟩))
      exact bodyPost_ret (v := .agg #[.int .i64 4, .int .i64 1]) (by simp [results, Try.results9, go_sem]) rfl ⟨rfl, by (repeat (first | exact Below.refl _ _ | assumption | refine Bw.al ?_ _ | refine Bw.step ?_ (by assumption) | refine Bw.drew ?_))⟩
  · rw [wi_bad h0]
    have i0 := in_bad h0
    clear h0
    go_enter Try.func9, Try.ntmps9
    go_wp2_with (first | (go_at_call 24; refine (refIn_any _ _ _ _).mono ?_; rintro e w' ⟨rfl, rfl⟩) | (go_at_call 11; refine (refAt_any _ _ _).mono ?_; rintro e w' ⟨rfl, rfl⟩))
    exact bodyPost_ret (v := .agg #[.int .i64 4, .int .i64 0]) (by simp [results, Try.results9, go_sem]) rfl ⟨rfl, by (repeat (first | exact Below.refl _ _ | assumption | refine Bw.al ?_ _ | refine Bw.step ?_ (by assumption) | refine Bw.drew ?_))⟩
set_option maxHeartbeats 2000000 in
theorem rLossesFault_any (m x h v s : Int) (w : World) :
    Calls Try.prog 10 #[loV m x h v s] w fun e w' => e = .returned (.agg #[.int .i64 (loF m x h v s).1, .int .i64 (loF m x h v s).2]) ∧ Below w.heap.size w w' := by
  unfold loF wiF lossT
  by_cases h0 : triOk (m, 0, 16)
  · rw [wi_ok h0]
    have i0 := in_ok h0
    by_cases h1 : triOk (x, 0, 8)
    · rw [wi_ok h1]
      have i1 := in_ok h1
      by_cases h2 : triOk (h, 0, 16)
      · rw [wi_ok h2]
        have i2 := in_ok h2
        by_cases h3 : triOk (v, 0, 24)
        · rw [wi_ok h3]
          have i3 := in_ok h3
          by_cases h4 : triOk (s, 0, 384)
          · rw [wi_ok h4]
            have i4 := in_ok h4
            clear h0 h1 h2 h3 h4
            go_enter Try.func10, Try.ntmps10
            go_wp2_with (first | (go_at_call 24; refine (refIn_any _ _ _ _).mono ?_; rintro e w' ⟨rfl, rfl⟩) | (go_at_call 11; refine (refAt_any _ _ _).mono ?_; rintro e w' ⟨rfl, rfl⟩))
            exact bodyPost_ret (v := .agg #[.int .i64 0, .int .i64 0]) (by simp [results, Try.results10, go_sem]) rfl ⟨rfl, by (repeat (first | exact Below.refl _ _ | assumption | refine Bw.al ?_ _ | refine Bw.step ?_ (by assumption) | refine Bw.drew ?_))⟩
          · rw [wi_bad h4]
            have i4 := in_bad h4
            clear h0 h1 h2 h3 h4
            go_enter Try.func10, Try.ntmps10
            go_wp2_with (first | (go_at_call 24; refine (refIn_any _ _ _ _).mono ?_; rintro e w' ⟨rfl, rfl⟩) | (go_at_call 11; refine (refAt_any _ _ _).mono ?_; rintro e w' ⟨rfl, rfl⟩))
            exact bodyPost_ret (v := .agg #[.int .i64 4, .int .i64 4]) (by simp [results, Try.results10, go_sem]) rfl ⟨rfl, by (repeat (first | exact Below.refl _ _ | assumption | refine Bw.al ?_ _ | refine Bw.step ?_ (by assumption) | refine Bw.drew ?_))⟩
        · rw [wi_bad h3]
          have i3 := in_bad h3
          clear h0 h1 h2 h3
          go_enter Try.func10, Try.ntmps10
          go_wp2_with (first | (go_at_call 24; refine (refIn_any _ _ _ _).mono ?_; rintro e w' ⟨rfl, rfl⟩) | (go_at_call 11; refine (refAt_any _ _ _).mono ?_; rintro e w' ⟨rfl, rfl⟩))
          exact bodyPost_ret (v := .agg #[.int .i64 4, .int .i64 3]) (by simp [results, Try.results10, go_sem]) rfl ⟨rfl, by (repeat (first | exact Below.refl _ _ | assumption | refine Bw.al ?_ _ | refine Bw.step ?_ (by assumption) | refine Bw.drew ?_))⟩
      · rw [wi_bad h2]
        have i2 := in_bad h2
        clear h0 h1 h2
        go_enter Try.func10, Try.ntmps10
        go_wp2_with (first | (go_at_call 24; refine (refIn_any _ _ _ _).mono ?_; rintro e w' ⟨rfl, rfl⟩) | (go_at_call 11; refine (refAt_any _ _ _).mono ?_; rintro e w' ⟨rfl, rfl⟩))
        exact bodyPost_ret (v := .agg #[.int .i64 4, .int .i64 2]) (by simp [results, Try.results10, go_sem]) rfl ⟨rfl, by (repeat (first | exact Below.refl _ _ | assumption | refine Bw.al ?_ _ | refine Bw.step ?_ (by assumption) | refine Bw.drew ?_))⟩
    · rw [wi_bad h1]
      have i1 := in_bad h1
      clear h0 h1
      go_enter Try.func10, Try.ntmps10
      go_wp2_with (first | (go_at_call 24; refine (refIn_any _ _ _ _).mono ?_; rintro e w' ⟨rfl, rfl⟩) | (go_at_call 11; refine (refAt_any _ _ _).mono ?_; rintro e w' ⟨rfl, rfl⟩))
      exact bodyPost_ret (v := .agg #[.int .i64 4, .int .i64 1]) (by simp [results, Try.results10, go_sem]) rfl ⟨rfl, by (repeat (first | exact Below.refl _ _ | assumption | refine Bw.al ?_ _ | refine Bw.step ?_ (by assumption) | refine Bw.drew ?_))⟩
  · rw [wi_bad h0]
    have i0 := in_bad h0
    clear h0
    go_enter Try.func10, Try.ntmps10
    go_wp2_with (first | (go_at_call 24; refine (refIn_any _ _ _ _).mono ?_; rintro e w' ⟨rfl, rfl⟩) | (go_at_call 11; refine (refAt_any _ _ _).mono ?_; rintro e w' ⟨rfl, rfl⟩))
    exact bodyPost_ret (v := .agg #[.int .i64 4, .int .i64 0]) (by simp [results, Try.results10, go_sem]) rfl ⟨rfl, by (repeat (first | exact Below.refl _ _ | assumption | refine Bw.al ?_ _ | refine Bw.step ?_ (by assumption) | refine Bw.drew ?_))⟩

/-! ### Shapes and payloads -/
abbrev shV (a b c d : Int) : Value := .agg #[.int .i64 a, .int .i64 b, .int .i64 c, .int .i64 d]
theorem pay_bd {r c : Int} (hr : 0 ≤ r ∧ r ≤ 16) (hc : 0 ≤ c ∧ c ≤ 12) : 32 ≤ (24 - r) * (16 - c) ∧ (24 - r) * (16 - c) ≤ 384 :=
  ⟨Int.le_trans (show (32 : Int) ≤ 8 * 4 by decide) (Int.mul_le_mul (by omega) (by omega) (by decide) (by omega)), Int.le_trans (Int.mul_le_mul (show 24 - r ≤ 24 by omega) (show 16 - c ≤ 16 by omega) (by omega) (by decide)) (by decide)⟩
set_option maxHeartbeats 400000 in
theorem lpPay_any (r c d p : Int) (w : World) (hr : 0 ≤ r ∧ r ≤ 16) (hc : 0 ≤ c ∧ c ≤ 12) :
    Calls Try.prog 27 #[plV r c d p] w fun e w' => e = .returned (.int .i64 ((24 - r) * (16 - c))) ∧ Below w.heap.size w w' := by
  have hb := pay_bd hr hc
  go_enter Try.func27, Try.ntmps27
  go_wp2
  go_ret
  exact ⟨rfl, by (repeat (first | exact Below.refl _ _ | assumption | refine Bw.al ?_ _ | refine Bw.step ?_ (by assumption) | refine Bw.drew ?_))⟩
set_option maxHeartbeats 400000 in
theorem rDataSize_any (a b c d : Int) (w : World) (ha : 0 ≤ a ∧ a ≤ 32) (hb : 0 ≤ b ∧ b ≤ 32) (hc : 0 ≤ c ∧ c ≤ b) (hd : 0 ≤ d ∧ d ≤ a) :
    Calls Try.prog 29 #[shV a b c d] w fun e w' => e = .returned (.int .i64 ((a - d) * (b - c))) ∧ Below w.heap.size w w' := by
  have h1 : 0 ≤ (a - d) * (b - c) := Int.mul_nonneg (by omega) (by omega)
  have h2 : (a - d) * (b - c) ≤ 32 * 32 := Int.mul_le_mul (by omega) (by omega) (by omega) (by omega)
  go_enter Try.func29, Try.ntmps29
  go_wp2
  go_ret
  exact ⟨rfl, by (repeat (first | exact Below.refl _ _ | assumption | refine Bw.al ?_ _ | refine Bw.step ?_ (by assumption) | refine Bw.drew ?_))⟩
set_option maxHeartbeats 400000 in
theorem rShapeOf_any (r c d p : Int) (w : World) :
    Calls Try.prog 20 #[plV r c d p] w fun e w' => e = .returned (shV 16 24 r c) ∧ Below w.heap.size w w' := by
  go_enter Try.func20, Try.ntmps20
  go_wp2
  exact bodyPost_ret (v := shV 16 24 r c) (by simp [results, Try.results20, go_sem]) rfl ⟨rfl, by (repeat (first | exact Below.refl _ _ | assumption | refine Bw.al ?_ _ | refine Bw.step ?_ (by assumption) | refine Bw.drew ?_))⟩
set_option maxHeartbeats 400000 in
theorem rPayloadOf_any (r c d p : Int) (w : World) (hr : 0 ≤ r ∧ r ≤ 16) (hc : 0 ≤ c ∧ c ≤ 12) :
    Calls Try.prog 21 #[plV r c d p] w fun e w' => e = .returned (.int .i64 ((24 - r) * (16 - c))) ∧ Below w.heap.size w w' := by
  rw [Int.mul_comm]
  go_enter Try.func21, Try.ntmps21
  go_wp2_with (first
    | (go_at_call 20; refine (rShapeOf_any _ _ _ _ _).mono ?_; rintro e w1 ⟨rfl, hb1⟩)
    | (go_at_call 29; refine (rDataSize_any _ _ _ _ _ (by omega) (by omega) (by omega) (by omega)).mono ?_; rintro e w2 ⟨rfl, hb2⟩))
  go_ret
  exact ⟨rfl, Bw.step (Bw.step (below_new _ _) hb1) hb2⟩
end Go.Proofs.Ytnajdmkdkpmdgaa
