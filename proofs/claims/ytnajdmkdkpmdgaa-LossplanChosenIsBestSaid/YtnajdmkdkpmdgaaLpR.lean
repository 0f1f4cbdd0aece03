/- Walks of lossplan.Choose where it fails at once. -/
import Derived.Test.YtnajdmkdkpmdgaaLpQ
namespace Go.Proofs.Ytnajdmkdkpmdgaa
open Go.RowKit
set_option linter.unusedVariables false

set_option maxHeartbeats 2000000 in
theorem lpChoose_bad (m x h v s len : Int) (w : World) (h1 : loF m x h v s ≠ (0, 0)) :
    Calls Try.prog 14 #[loV m x h v s, .int .i64 len] w fun e w' => e = .returned (.tuple #[plV 0 0 0 0, .agg #[.int .i64 (loF m x h v s).1, .int .i64 (loF m x h v s).2]]) ∧ Below w.heap.size w w' := by
  have HC := Lib.hid (fun w => lpCheck_any m x h v s w)
  have hc := (loF_code m x h v s).resolve_left h1
  generalize (loF m x h v s).1 = C at *
  generalize (loF m x h v s).2 = I at *
  have xC : (C == 0) = false := by rw [beq_eq_false_iff_ne]; omega
  clear h1 hc
  have Q0 := (H4.new (w.alloc (loC m x h v s)) 0 0 0 0 23).al (.cells #[.int .i64 0, .int .i64 0] 27)
  have F0 := Has.new ((w.alloc (loC m x h v s)).alloc (.cells #[.int .i64 0, .int .i64 0, .int .i64 0, .int .i64 0] 23)) 0 0 27
  have B0 : Below w.heap.size w (((w.alloc (loC m x h v s)).alloc (.cells #[.int .i64 0, .int .i64 0, .int .i64 0, .int .i64 0] 23)).alloc (.cells #[.int .i64 0, .int .i64 0] 27)) := by (repeat (first | exact Below.refl _ _ | assumption | refine Bw.al ?_ _ | refine Bw.step ?_ (by assumption) | refine Bw.drew ?_))
  simp only [World.size_alloc] at Q0 F0
  go_enter Try.func14, Try.ntmps14
  go_wp2_with fail
  generalize ((w.alloc (loC m x h v s)).alloc (.cells #[.int .i64 0, .int .i64 0, .int .i64 0, .int .i64 0] 23)).alloc (.cells #[.int .i64 0, .int .i64 0] 27) = WA at *
  refine (HC.out _).mono ?_
  rintro e w1 ⟨rfl, hb1⟩
  have Q0 := Q0.below hb1
  have hs1 := Q0.1
  have Q0 := Q0.al (.cells #[.int .i64 C, .int .i64 I] 27)
  have F0 := (F0.below hb1).al (.cells #[.int .i64 C, .int .i64 I] 27)
  have B0 := Bw.al (Bw.step B0 hb1) (.cells #[.int .i64 C, .int .i64 I] 27)
  have F1 := Has.new w1 C I 27
  obtain ⟨lfA, f0A, f1A, g0A, g1A⟩ := F1.far4 (g := w.heap.size + 1) (by omega) (.int .i64 0) (.int .i64 0) (.int .i64 0) (.int .i64 0)
  clear hs1
  obtain ⟨lf, f0, f1, g0, g1⟩ := id F1
  obtain ⟨ls, ⟨s0, s1, s2, s3⟩, t0, t1, t2, t3⟩ := id Q0
  obtain ⟨l0, x0, x1, y0, y1⟩ := id F0
  go_wp2
  go_region
  go_wp2
  exact bodyPost_ret (resS rfl (.inr rfl) rfl rfl (H4.drew ((Q0.set 0 0 0 0).far2 (by omega) _ _)) (Has.drew ((F0.far4 (by omega) _ _ _ _).set2 C I))) rfl ⟨rfl, Bw.drew (Bw.set2 (Bw.set4 B0 (by omega) _ _ _ _) (by omega) _ _)⟩
set_option maxHeartbeats 2000000 in
theorem lpChoose_neg (m x h v s len : Int) (w : World) (h1 : loF m x h v s = (0, 0)) (hl : len < 0) :
    Calls Try.prog 14 #[loV m x h v s, .int .i64 len] w fun e w' => e = .returned (.tuple #[plV 0 0 0 0, .agg #[.int .i64 4, .int .i64 (-2)]]) ∧ Below w.heap.size w w' := by
  have HC := Lib.hid (fun w => lpCheck_any m x h v s w)
  rw [h1] at HC
  have dq : decide (len < 0) = true := by simp only [decide_eq_true_eq]; exact hl
  clear h1 hl
  have Q0 := (H4.new (w.alloc (loC m x h v s)) 0 0 0 0 23).al (.cells #[.int .i64 0, .int .i64 0] 27)
  have F0 := Has.new ((w.alloc (loC m x h v s)).alloc (.cells #[.int .i64 0, .int .i64 0, .int .i64 0, .int .i64 0] 23)) 0 0 27
  have B0 : Below w.heap.size w (((w.alloc (loC m x h v s)).alloc (.cells #[.int .i64 0, .int .i64 0, .int .i64 0, .int .i64 0] 23)).alloc (.cells #[.int .i64 0, .int .i64 0] 27)) := by (repeat (first | exact Below.refl _ _ | assumption | refine Bw.al ?_ _ | refine Bw.step ?_ (by assumption) | refine Bw.drew ?_))
  simp only [World.size_alloc] at Q0 F0
  go_enter Try.func14, Try.ntmps14
  go_wp2_with fail
  generalize ((w.alloc (loC m x h v s)).alloc (.cells #[.int .i64 0, .int .i64 0, .int .i64 0, .int .i64 0] 23)).alloc (.cells #[.int .i64 0, .int .i64 0] 27) = WA at *
  refine (HC.out _).mono ?_
  rintro e w1 ⟨rfl, hb1⟩
  have Q0 := (Q0.below hb1).al (.cells #[.int .i64 0, .int .i64 0] 27)
  have F0 := (F0.below hb1).al (.cells #[.int .i64 0, .int .i64 0] 27)
  have B0 := Bw.al (Bw.step B0 hb1) (.cells #[.int .i64 0, .int .i64 0] 27)
  obtain ⟨lf, f0, f1, g0, g1⟩ := Has.new w1 0 0 27
  go_wp2_with fail
  refine (lpFault_any _ _ _).mono ?_
  rintro e w2 ⟨rfl, hb2⟩
  have Q0 := Q0.below hb2
  have F0 := F0.below hb2
  have B0 := Bw.step B0 hb2
  clear lf f0 f1 g0 g1
  obtain ⟨ls, ⟨s0, s1, s2, s3⟩, t0, t1, t2, t3⟩ := id Q0
  obtain ⟨l0, x0, x1, y0, y1⟩ := id F0
  go_wp2
  exact bodyPost_ret (resS rfl (.inr rfl) rfl rfl ((Q0.set 0 0 0 0).far2 (by omega) _ _) ((F0.far4 (by omega) _ _ _ _).set2 4 (-2))) rfl ⟨rfl, Bw.set2 (Bw.set4 B0 (by omega) _ _ _ _) (by omega) _ _⟩
end Go.Proofs.Ytnajdmkdkpmdgaa
