/- Walks of lossplan.Bears where it fails; of the law LossplanBearsMatchesSpec. -/
import Derived.Test.YtmpjkdkgolmgdaaGreatLpP
namespace Go.Proofs.YtmpjkdkgolmgdaaGreat
open Go.RowKit
set_option linter.unusedVariables false

set_option maxHeartbeats 2000000 in
theorem lpBears_badP (r c d p m x h v s : Int) (w : World) (h1 : plF r c d p ≠ (0, 0)) :
    Calls Tryz.prog 4 #[plV r c d p, loV m x h v s] w fun e w' => e = .returned (.tuple #[.bool false, .agg #[.int .i64 (plF r c d p).1, .int .i64 (plF r c d p).2]]) ∧ Below w.heap.size w w' := by
  have HV := Lib.hid (fun w => lpValidate_any r c d p w)
  have hc := (plF_code r c d p).resolve_left h1
  generalize (plF r c d p).1 = C at *
  generalize (plF r c d p).2 = I at *
  have xC : (C == 0) = false := by rw [beq_eq_false_iff_ne]; omega
  have F0 := Has.new ((w.alloc (plC r c d p)).alloc (loC m x h v s)) 0 0 27
  have B0 : Below w.heap.size w (((w.alloc (plC r c d p)).alloc (loC m x h v s)).alloc (.cells #[.int .i64 0, .int .i64 0] 27)) := by (repeat (first | exact Below.refl _ _ | assumption | refine Bw.al ?_ _ | refine Bw.step ?_ (by assumption) | refine Bw.drew ?_))
  simp only [World.size_alloc] at F0
  clear h1 hc
  go_enter Tryz.func4, Tryz.ntmps4
  go_wp2_with fail
  generalize ((w.alloc (plC r c d p)).alloc (loC m x h v s)).alloc (.cells #[.int .i64 0, .int .i64 0] 27) = WA at *
  refine (HV.out _).mono ?_
  rintro e w1 ⟨rfl, hb1⟩
  have F0 := (F0.below hb1).al (.cells #[.int .i64 C, .int .i64 I] 27)
  have B0 := Bw.al (Bw.step B0 hb1) (.cells #[.int .i64 C, .int .i64 I] 27)
  obtain ⟨lf, f0, f1, g0, g1⟩ := Has.new w1 C I 27
  obtain ⟨lx, x0, x1, y0, y1⟩ := id F0
  go_wp2
  go_region
  go_wp2
  exact bodyPost_ret (resF2 rfl rfl (Has.drew (F0.set2 C I))) rfl ⟨rfl, Bw.drew (Bw.set2 B0 (by omega) _ _)⟩
set_option maxHeartbeats 2000000 in
theorem lpBears_badL (r c d p m x h v s : Int) (w : World) (h1 : plF r c d p = (0, 0)) (h2 : loF m x h v s ≠ (0, 0)) :
    Calls Tryz.prog 4 #[plV r c d p, loV m x h v s] w fun e w' => e = .returned (.tuple #[.bool false, .agg #[.int .i64 (loF m x h v s).1, .int .i64 ((loF m x h v s).2 + 10)]]) ∧ Below w.heap.size w w' := by
  have HV := Lib.hid (fun w => lpValidate_any r c d p w)
  rw [h1] at HV
  have HC := Lib.hid (fun w => lpCheck_any m x h v s w)
  have hc := (loF_code m x h v s).resolve_left h2
  generalize (loF m x h v s).1 = C at *
  generalize (loF m x h v s).2 = I at *
  have xC : (C == 0) = false := by rw [beq_eq_false_iff_ne]; omega
  have hI := hc.2
  clear hc
  have L0 := (H5.new (w.alloc (plC r c d p)) m x h v s 31).al (.cells #[.int .i64 0, .int .i64 0] 27)
  have F0 := Has.new ((w.alloc (plC r c d p)).alloc (loC m x h v s)) 0 0 27
  have B0 : Below w.heap.size w (((w.alloc (plC r c d p)).alloc (loC m x h v s)).alloc (.cells #[.int .i64 0, .int .i64 0] 27)) := by (repeat (first | exact Below.refl _ _ | assumption | refine Bw.al ?_ _ | refine Bw.step ?_ (by assumption) | refine Bw.drew ?_))
  simp only [World.size_alloc] at F0 L0
  clear h1 h2
  go_enter Tryz.func4, Tryz.ntmps4
  go_wp2_with fail
  generalize ((w.alloc (plC r c d p)).alloc (loC m x h v s)).alloc (.cells #[.int .i64 0, .int .i64 0] 27) = WA at *
  refine (HV.out _).mono ?_
  rintro e w1 ⟨rfl, hb1⟩
  have L0 := (L0.below hb1).al (.cells #[.int .i64 0, .int .i64 0] 27)
  have F0 := (F0.below hb1).al (.cells #[.int .i64 0, .int .i64 0] 27)
  have B0 := Bw.al (Bw.step B0 hb1) (.cells #[.int .i64 0, .int .i64 0] 27)
  obtain ⟨lf, f0, f1, g0, g1⟩ := Has.new w1 0 0 27
  obtain ⟨ll, l0, l1, l2, l3, l4⟩ := id L0
  go_wp2_with fail
  clear lf f0 f1 g0 g1 ll l0 l1 l2 l3 l4
  refine (HC.out _).mono ?_
  rintro e w2 ⟨rfl, hb2⟩
  have F0 := (F0.below hb2).al (.cells #[.int .i64 C, .int .i64 I] 27)
  have B0 := Bw.al (Bw.step B0 hb2) (.cells #[.int .i64 C, .int .i64 I] 27)
  obtain ⟨lf, f0, f1, g0, g1⟩ := Has.new w2 C I 27
  go_wp2_with fail
  refine (lpFault_any _ _ _).mono ?_
  rintro e w3 ⟨rfl, hb3⟩
  have F0 := F0.below hb3
  have B0 := Bw.step B0 hb3
  clear lf f0 f1 g0 g1
  obtain ⟨lx, x0, x1, y0, y1⟩ := id F0
  go_wp2
  exact bodyPost_ret (resF2 rfl rfl (F0.set2 C (I + 10))) rfl ⟨rfl, Bw.set2 B0 (by omega) _ _⟩
end Go.Proofs.YtmpjkdkgolmgdaaGreat
