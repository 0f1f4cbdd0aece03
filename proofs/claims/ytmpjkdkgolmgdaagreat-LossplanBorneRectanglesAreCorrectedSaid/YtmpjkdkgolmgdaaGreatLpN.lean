/- The example that each law on plans looks at ('planned'). -/
import Derived.Test.YtmpjkdkgolmgdaaGreatLpM
namespace Go.Proofs.YtmpjkdkgolmgdaaGreat
open Go.RowKit
set_option linter.unusedVariables false

theorem pageB_zero (t u : Int) (W : Nat) (S : Int) (hW : W ≤ 24) : pageB t u 0 W S = decide ((badC (List.replicate 16 0) t S : Int) ≤ u) := by
  by_cases h : (badC (List.replicate 16 0) t S : Int) ≤ u
  · rw [decide_eq_true h, pageB_iff]
    intro top _ left _
    have := ilMeets_h0 (top : Nat) (left : Nat) W
    rw [show ((0 : Nat) : Int) = 0 from rfl, this]; exact h
  · rw [decide_eq_false h]
    cases hb : pageB t u 0 W S with
    | false => rfl
    | true =>
      have := pageB_iff.1 hb 0 (by omega) 0 (by omega)
      rw [show ((0 : Nat) : Int) = 0 from rfl, ilMeets_h0] at this
      exact absurd this h
theorem pb5 : pageB 2 1 0 0 5 = true := by rw [pageB_zero _ _ _ _ (by decide)]; decide +kernel
theorem pb6 : pageB 2 1 0 0 6 = false := by rw [pageB_zero _ _ _ _ (by decide)]; decide +kernel
theorem bk1 (k : Nat) : BK 0 0 1 k = decide ((badC (List.replicate 16 0) ((k / 7 : Nat) : Int) 1 : Int) ≤ ((k % 7 : Nat) : Int)) := by unfold BK; exact pageB_zero _ _ _ _ (by decide)
theorem best1 : BestN (BK 0 0 1) 63 (some 7) := by
  refine ⟨by decide, by rw [bk1]; decide +kernel, fun k hk hb => ?_, fun k hk hb => ?_⟩
  · have : ∀ k, k < 7 → decide ((badC (List.replicate 16 0) ((k / 7 : Nat) : Int) 1 : Int) ≤ ((k % 7 : Nat) : Int)) = true → payK k < payK 7 := by decide +kernel
    exact this k hk (by rw [← bk1]; exact hb)
  · have : ∀ k, k < 63 → decide ((badC (List.replicate 16 0) ((k / 7 : Nat) : Int) 1 : Int) ≤ ((k % 7 : Nat) : Int)) = true → payK k ≤ payK 7 := by decide +kernel
    exact this k hk (by rw [← bk1]; exact hb)
theorem chosen1 {r c d p C I : Int} (h : ChRes 0 0 1 0 353 r c d p C I) : (r = 2 ∧ c = 0 ∧ d = 2 ∧ p = 0) ∧ C = 0 ∧ I = 0 := by
  refine h.unique ⟨some 7, best1, fun hh => ?_, fun k hk _ => ?_⟩
  · rcases hh with h | h
    · cases h
    · exact absurd h (by decide)
  · injection hk with hk
    subst hk
    refine ⟨2, ⟨by decide, by decide, fun n h1 h2 => ?_⟩, fun h => absurd h (by decide), fun _ => ⟨⟨by decide, by decide, rfl, rfl⟩, rfl, rfl⟩⟩
    obtain rfl : n = 1 := by omega
    decide
theorem bear5 : bearB 0 0 0 2 1 0 0 5 = true := by unfold bearB; rw [pb5]; rfl
theorem bear6 : bearB 0 0 0 2 1 0 0 6 = false := by unfold bearB; rw [pb6]; rfl
set_option maxRecDepth 100000 in
set_option maxHeartbeats 4000000 in
theorem planned_any (w : World) : Calls Tryz.prog 8 #[] w fun e w' => e = .returned (.bool true) ∧ Below w.heap.size w w' := by
  have H1 := Lib.hid (fun w => lpPayload_ok 4 2 1 0 w (by decide))
  have H2 := Lib.hid (fun w => lpBears_ok 4 2 1 0 0 0 5 2 1 0 0 w (by decide) (by decide) (by decide) (by decide))
  have H3 := Lib.hid (fun w => lpBears_ok 4 2 1 0 0 0 6 2 1 0 0 w (by decide) (by decide) (by decide) (by decide))
  have H4' := Lib.hid (fun w => lpChoose_ok 0 0 1 353 0 0 w (by decide) (by decide))
  rw [bear5] at H2
  rw [bear6] at H3
  simp only [Int.natCast_zero, show ((24 : Int) - 4) * (16 - 2) = 280 from rfl, show (0 : Int) + 2 * 0 = 0 from rfl] at H1 H2 H3 H4'
  have P0 := H4.new w 4 2 1 0 23
  have B0 := below_new w (.cells #[.int .i64 4, .int .i64 2, .int .i64 1, .int .i64 0] 23)
  go_enter Tryz.func8, Tryz.ntmps8
  go_wp2_with fail
  refine (H1.out _).mono ?_
  rintro e w1 ⟨rfl, hb1⟩
  have P0 := (P0.below hb1).al (.cells #[.int .i64 0, .int .i64 0] 27)
  have B0 := Bw.al (Bw.step B0 hb1) (.cells #[.int .i64 0, .int .i64 0] 27)
  have F1 := Has.new w1 0 0 27
  obtain ⟨lp, ⟨p0, p1, p2, p3⟩, q0, q1, q2, q3⟩ := id P0
  go_wp2_with fail
  refine (H2.out _).mono ?_
  rintro e w2 ⟨rfl, hb2⟩
  have P0 := (P0.below hb2).al (.cells #[.int .i64 0, .int .i64 0] 27)
  have B0 := Bw.al (Bw.step B0 hb2) (.cells #[.int .i64 0, .int .i64 0] 27)
  have F1 := (F1.below hb2).al (.cells #[.int .i64 0, .int .i64 0] 27)
  have F2 := Has.new w2 0 0 27
  clear lp p0 p1 p2 p3 q0 q1 q2 q3
  obtain ⟨lp, ⟨p0, p1, p2, p3⟩, q0, q1, q2, q3⟩ := id P0
  go_wp2_with fail
  refine (H3.out _).mono ?_
  rintro e w3 ⟨rfl, hb3⟩
  have B0 := Bw.al (Bw.step B0 hb3) (.cells #[.int .i64 0, .int .i64 0] 27)
  have F1 := (F1.below hb3).al (.cells #[.int .i64 0, .int .i64 0] 27)
  have F2 := (F2.below hb3).al (.cells #[.int .i64 0, .int .i64 0] 27)
  have F3 := Has.new w3 0 0 27
  clear lp p0 p1 p2 p3 q0 q1 q2 q3
  go_wp2_with fail
  refine (H4'.out _).mono ?_
  rintro e w4 ⟨r, c, d, p, C, I, rfl, hres, hb4⟩
  obtain ⟨⟨rfl, rfl, rfl, rfl⟩, rfl, rfl⟩ := chosen1 hres
  have B0 := Bw.al (Bw.al (Bw.step B0 hb4) (.cells #[.int .i64 2, .int .i64 0, .int .i64 2, .int .i64 0] 23)) (.cells #[.int .i64 0, .int .i64 0] 27)
  have F1 := ((F1.below hb4).al (.cells #[.int .i64 2, .int .i64 0, .int .i64 2, .int .i64 0] 23)).al (.cells #[.int .i64 0, .int .i64 0] 27)
  have F2 := ((F2.below hb4).al (.cells #[.int .i64 2, .int .i64 0, .int .i64 2, .int .i64 0] 23)).al (.cells #[.int .i64 0, .int .i64 0] 27)
  have F3 := ((F3.below hb4).al (.cells #[.int .i64 2, .int .i64 0, .int .i64 2, .int .i64 0] 23)).al (.cells #[.int .i64 0, .int .i64 0] 27)
  have P4 := (H4.new w4 2 0 2 0 23).al (.cells #[.int .i64 0, .int .i64 0] 27)
  have F4 := Has.new (w4.alloc (.cells #[.int .i64 2, .int .i64 0, .int .i64 2, .int .i64 0] 23)) 0 0 27
  rw [World.size_alloc] at F4
  obtain ⟨l1, c10, c11, f10, f11⟩ := id F1
  obtain ⟨l2, c20, c21, f20, f21⟩ := id F2
  obtain ⟨l3, c30, c31, f30, f31⟩ := id F3
  obtain ⟨l4, c40, c41, f40, f41⟩ := id F4
  obtain ⟨lp, ⟨p0, p1, p2, p3⟩, q0, q1, q2, q3⟩ := id P4
  go_wp2
  go_ret
  exact ⟨rfl, B0⟩
end Go.Proofs.YtmpjkdkgolmgdaaGreat
