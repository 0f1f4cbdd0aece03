/- Walks of lossplan.Bears where it fails; of the law LossplanBearsMatchesSpec. -/
import Derived.Test.YtnajdmkdkpmdgaaLpP
namespace Go.Proofs.Ytnajdmkdkpmdgaa
open Go.RowKit
set_option linter.unusedVariables false

set_option maxHeartbeats 2000000 in
theorem lpBears_badP (r c d p m x h v s : Int) (w : World) (h1 : plF r c d p ≠ (0, 0)) :
    Calls Try.prog 8 #[plV r c d p, loV m x h v s] w fun e w' => e = .returned (.tuple #[.bool false, .agg #[.int .i64 (plF r c d p).1, .int .i64 (plF r c d p).2]]) ∧ Below w.heap.size w w' := by
  have HV := Lib.hid (fun w => lpValidate_any r c d p w)
  have hc := (plF_code r c d p).resolve_left h1
  generalize (plF r c d p).1 = C at *
  generalize (plF r c d p).2 = I at *
  have xC : (C == 0) = false := by rw [beq_eq_false_iff_ne]; omega
  have F0 := Has.new ((w.alloc (plC r c d p)).alloc (loC m x h v s)) 0 0 27
  have B0 : Below w.heap.size w (((w.alloc (plC r c d p)).alloc (loC m x h v s)).alloc (.cells #[.int .i64 0, .int .i64 0] 27)) := by (repeat (first | exact Below.refl _ _ | assumption | refine Bw.al ?_ _ | refine Bw.step ?_ (by assumption) | refine Bw.drew ?_))
  simp only [World.size_alloc] at F0
  clear h1 hc
  go_enter Try.func8, Try.ntmps8
  go_wp2_with fail
  generalize ((w.alloc (plC r c d p)).alloc (loC m x h v s)).alloc (.cells #[.int .i64 0, .int .i64 0] 27) = WA at *
  refine (HV.out _).mono ?_
  rintro e w1 ⟨rfl, hb1⟩
  have F0 := (F0.below hb1).al (.cells #[.int .i64 C, .int .i64 I] 27)
  have B0 := Bw.al (Bw.step B0 hb1) (.cells #[.int .i64 C, .int .i64 I] 27)
  obtain ⟨lf, f0, f1, g0, g1⟩ := Has.new w1 C I 27
  obtain ⟨lx, x0, x1, y0, y1⟩ := id F0
  go_wp2
  go_region
  go_wp2
  exact bodyPost_ret (resF2 rfl rfl (Has.drew (F0.set2 C I))) rfl ⟨rfl, Bw.drew (Bw.set2 B0 (by omega) _ _)⟩
set_option maxHeartbeats 2000000 in
theorem lpBears_badL (r c d p m x h v s : Int) (w : World) (h1 : plF r c d p = (0, 0)) (h2 : loF m x h v s ≠ (0, 0)) :
    Calls Try.prog 8 #[plV r c d p, loV m x h v s] w fun e w' => e = .returned (.tuple #[.bool false, .agg #[.int .i64 (loF m x h v s).1, .int .i64 ((loF m x h v s).2 + 10)]]) ∧ Below w.heap.size w w' := by
  have HV := Lib.hid (fun w => lpValidate_any r c d p w)
  rw [h1] at HV
  have HC := Lib.hid (fun w => lpCheck_any m x h v s w)
  have hc := (loF_code m x h v s).resolve_left h2
  generalize (loF m x h v s).1 = C at *
  generalize (loF m x h v s).2 = I at *
  have xC : (C == 0) = false := by rw [beq_eq_false_iff_ne]; omega
  have hI := hc.2
  clear hc
  have L0 := (H5.new (w.alloc (plC r c d p)) m x h v s 25).al (.cells #[.int .i64 0, .int .i64 0] 27)
  have F0 := Has.new ((w.alloc (plC r c d p)).alloc (loC m x h v s)) 0 0 27
  have B0 : Below w.heap.size w (((w.alloc (plC r c d p)).alloc (loC m x h v s)).alloc (.cells #[.int .i64 0, .int .i64 0] 27)) := by (repeat (first | exact Below.refl _ _ | assumption | refine Bw.al ?_ _ | refine Bw.step ?_ (by assumption) | refine Bw.drew ?_))
  simp only [World.size_alloc] at F0 L0
  clear h1 h2
  go_enter Try.func8, Try.ntmps8
  go_wp2_with fail
  generalize ((w.alloc (plC r c d p)).alloc (loC m x h v s)).alloc (.cells #[.int .i64 0, .int .i64 0] 27) = WA at *
  refine (HV.out _).mono ?_
  rintro e w1 ⟨rfl, hb1⟩
  have L0 := (L0.below hb1).al (.cells #[.int .i64 0, .int .i64 0] 27)
  have F0 := (F0.below hb1).al (.cells #[.int .i64 0, .int .i64 0] 27)
  have B0 := Bw.al (Bw.step B0 hb1) (.cells #[.int .i64 0, .int .i64 0] 27)
  obtain ⟨lf, f0, f1, g0, g1⟩ := Has.new w1 0 0 27
  obtain ⟨ll, l0, l1, l2, l3, l4⟩ := id L0
  go_wp2_with fail
  clear lf f0 f1 g0 g1 ll l0 l1 l2 l3 l4
  refine (HC.out _).mono ?_
  rintro e w2 ⟨rfl, hb2⟩
  have F0 := (F0.below hb2).al (.cells #[.int .i64 C, .int .i64 I] 27)
  have B0 := Bw.al (Bw.step B0 hb2) (.cells #[.int .i64 C, .int .i64 I] 27)
  obtain ⟨lf, f0, f1, g0, g1⟩ := Has.new w2 C I 27
  go_wp2_with fail
  refine (lpFault_any _ _ _).mono ?_
  rintro e w3 ⟨rfl, hb3⟩
  have F0 := F0.below hb3
  have B0 := Bw.step B0 hb3
  clear lf f0 f1 g0 g1
  obtain ⟨lx, x0, x1, y0, y1⟩ := id F0
  go_wp2
  exact bodyPost_ret (resF2 rfl rfl (F0.set2 C (I + 10))) rfl ⟨rfl, Bw.set2 B0 (by omega) _ _⟩
set_option maxRecDepth 100000 in
set_option maxHeartbeats 8000000 in
theorem walkLossplanBearsMatchesSpec (r c d p m x h v s : Int) (w : World) (w0 : (Lit.int .i64 r).wf = true ∧ (Lit.int .i64 c).wf = true ∧ (Lit.int .i64 d).wf = true ∧ (Lit.int .i64 p).wf = true) (w1 : (Lit.int .i64 m).wf = true ∧ (Lit.int .i64 x).wf = true ∧ (Lit.int .i64 h).wf = true ∧ (Lit.int .i64 v).wf = true ∧ (Lit.int .i64 s).wf = true) :
    Calls Try.prog 3 #[plV r c d p, loV m x h v s] w fun e w' => e = .returned (.bool true) ∧ Below w.heap.size w w' := by
  clear w0 w1
  have HPF := Lib.hid (fun w => rPlanFault_any r c d p w)
  have HLF := Lib.hid (fun w => rLossesFault_any m x h v s w)
  by_cases h1 : plF r c d p = (0, 0)
  · rw [h1] at HPF
    by_cases h2 : loF m x h v s = (0, 0)
    · rw [h2] at HLF
      obtain ⟨_, _, g3, g4, _⟩ := loF_ok h2
      obtain ⟨H, rfl⟩ := Int.eq_ofNat_of_zero_le g3.1
      obtain ⟨V, rfl⟩ := Int.eq_ofNat_of_zero_le g4.1
      have HB := Lib.hid (fun w => lpBears_ok r c d p m x s _ _ H V w h1 h2 rfl rfl)
      have HR := Lib.hid (fun w => rBears_ok r c d p m x s _ _ H V w h1 h2 rfl rfl)
      generalize bearB p m x (r.tdiv 2) (c.tdiv 2) H V s = bb at *
      clear h1 h2 g3 g4
      have P0 := (H4.new w r c d p 23).al (loC m x H V s)
      have L0 := H5.new (w.alloc (plC r c d p)) m x H V s 25
      have B0 : Below w.heap.size w ((w.alloc (plC r c d p)).alloc (loC m x H V s)) := by (repeat (first | exact Below.refl _ _ | assumption | refine Bw.al ?_ _ | refine Bw.step ?_ (by assumption) | refine Bw.drew ?_))
      simp only [World.size_alloc] at L0
      obtain ⟨lp, ⟨p0, p1, p2, p3⟩, _⟩ := id P0
      obtain ⟨ll, l0, l1, l2, l3, l4⟩ := id L0
      go_enter Try.func3, Try.ntmps3
      go_wp2_with fail
      refine (HB.out _).mono ?_
      rintro e w1 ⟨rfl, hb1⟩
      have P0 := (P0.below hb1).al (.cells #[.int .i64 0, .int .i64 0] 27)
      have L0 := (L0.below hb1).al (.cells #[.int .i64 0, .int .i64 0] 27)
      have B0 := Bw.al (Bw.step B0 hb1) (.cells #[.int .i64 0, .int .i64 0] 27)
      have F1 := Has.new w1 (0) (0) 27
      clear lp p0 p1 p2 p3 ll l0 l1 l2 l3 l4
      obtain ⟨lp, ⟨p0, p1, p2, p3⟩, _⟩ := id P0
      go_wp2_with fail
      refine (HPF.out _).mono ?_
      rintro e w2 ⟨rfl, hb2⟩
      have hlt : w1.heap.size < w2.heap.size := (F1.below hb2).1
      have hw2 : w.heap.size ≤ w2.heap.size := (Bw.step B0 hb2).size
      have hPl := (P0.below hb2).1
      have hLl := (L0.below hb2).1
      have P0 := (P0.below hb2).al (.cells #[.int .i64 0, .int .i64 0] 27)
      have L0 := (L0.below hb2).al (.cells #[.int .i64 0, .int .i64 0] 27)
      have B0 := Bw.al (Bw.step B0 hb2) (.cells #[.int .i64 0, .int .i64 0] 27)
      have F1 := (F1.below hb2).al (.cells #[.int .i64 0, .int .i64 0] 27)
      have F2 := Has.new w2 (0) (0) 27
      clear lp p0 p1 p2 p3
      obtain ⟨l1, c10, c11, f10, f11⟩ := id F1
      obtain ⟨l2, c20, c21, f20, f21⟩ := id F2
      obtain ⟨ll, e0, e1, e2, e3, e4⟩ := id L0
      go_wp2_with fail
      refine (HLF.out _).mono ?_
      rintro e w3 ⟨rfl, hb3⟩
      have P0 := P0.below hb3
      have L0 := L0.below hb3
      have B0 := Bw.step B0 hb3
      have F1 := F1.below hb3
      have F2 := F2.below hb3
      clear l1 c10 c11 f10 f11 l2 c20 c21 f20 f21 ll e0 e1 e2 e3 e4
      obtain ⟨l2, c20, c21, f20, f21⟩ := id F2
      have P0 := P0.far2 (g := w2.heap.size) (by omega) (.int .i64 0) (.int .i64 0)
      have L0 := (L0.far (p := ⟨w2.heap.size, 0, none⟩) (by show w2.heap.size ≠ _; omega) (.int .i64 0)).far (p := ⟨w2.heap.size, 1, none⟩) (by show w2.heap.size ≠ _; omega) (.int .i64 0)
      have F1 := HasFar (HasFar F1 (p := ⟨w2.heap.size, 0, none⟩) (by show w2.heap.size ≠ _; omega) (.int .i64 0)) (p := ⟨w2.heap.size, 1, none⟩) (by show w2.heap.size ≠ _; omega) (.int .i64 0)
      have F2 := F2.set2 0 0
      have B0 := Bw.set2 B0 (g := w2.heap.size) hw2 (.int .i64 0) (.int .i64 0)
      obtain ⟨l1, c10, c11, f10, f11⟩ := id F1
      obtain ⟨lz, z0, z1, y0, y1⟩ := id F2
      obtain ⟨lp, ⟨p0, p1, p2, p3⟩, _⟩ := id P0
      obtain ⟨ll, e0, e1, e2, e3, e4⟩ := id L0
      cases bb
      all_goals
        go_wp2_with (first | (go_at_call 13; refine (HR.out _).mono ?_; rintro e w4 ⟨rfl, hb4⟩) | (go_at_call 12; refine (planned_any _).mono ?_; rintro e w' ⟨rfl, hb9⟩))
        go_ret
        exact ⟨rfl, Bw.step (Bw.step B0 hb4) hb9⟩
    · have HB := Lib.hid (fun w => lpBears_badL r c d p m x h v s w h1 h2)
      have hc := (loF_code m x h v s).resolve_left h2
      generalize (loF m x h v s).1 = C at *
      generalize (loF m x h v s).2 = I at *
      have xC : (C == 0) = false := by rw [beq_eq_false_iff_ne]; omega
      have xC2 : (C != 0) = true := by rw [bne_iff_ne]; omega
      have hI := hc.2
      clear h1 h2 hc
      have hcm : 10 + I = I + 10 := by omega
      have P0 := (H4.new w r c d p 23).al (loC m x h v s)
      have L0 := H5.new (w.alloc (plC r c d p)) m x h v s 25
      have B0 : Below w.heap.size w ((w.alloc (plC r c d p)).alloc (loC m x h v s)) := by (repeat (first | exact Below.refl _ _ | assumption | refine Bw.al ?_ _ | refine Bw.step ?_ (by assumption) | refine Bw.drew ?_))
      simp only [World.size_alloc] at L0
      obtain ⟨lp, ⟨p0, p1, p2, p3⟩, _⟩ := id P0
      obtain ⟨ll, l0, l1, l2, l3, l4⟩ := id L0
      go_enter Try.func3, Try.ntmps3
      go_wp2_with fail
      refine (HB.out _).mono ?_
      rintro e w1 ⟨rfl, hb1⟩
      have P0 := (P0.below hb1).al (.cells #[.int .i64 C, .int .i64 (I + 10)] 27)
      have L0 := (L0.below hb1).al (.cells #[.int .i64 C, .int .i64 (I + 10)] 27)
      have B0 := Bw.al (Bw.step B0 hb1) (.cells #[.int .i64 C, .int .i64 (I + 10)] 27)
      have F1 := Has.new w1 (C) ((I + 10)) 27
      clear lp p0 p1 p2 p3 ll l0 l1 l2 l3 l4
      obtain ⟨lp, ⟨p0, p1, p2, p3⟩, _⟩ := id P0
      go_wp2_with fail
      refine (HPF.out _).mono ?_
      rintro e w2 ⟨rfl, hb2⟩
      have hlt : w1.heap.size < w2.heap.size := (F1.below hb2).1
      have hw2 : w.heap.size ≤ w2.heap.size := (Bw.step B0 hb2).size
      have hPl := (P0.below hb2).1
      have hLl := (L0.below hb2).1
      have P0 := (P0.below hb2).al (.cells #[.int .i64 0, .int .i64 0] 27)
      have L0 := (L0.below hb2).al (.cells #[.int .i64 0, .int .i64 0] 27)
      have B0 := Bw.al (Bw.step B0 hb2) (.cells #[.int .i64 0, .int .i64 0] 27)
      have F1 := (F1.below hb2).al (.cells #[.int .i64 0, .int .i64 0] 27)
      have F2 := Has.new w2 (0) (0) 27
      clear lp p0 p1 p2 p3
      obtain ⟨l1, c10, c11, f10, f11⟩ := id F1
      obtain ⟨l2, c20, c21, f20, f21⟩ := id F2
      obtain ⟨ll, e0, e1, e2, e3, e4⟩ := id L0
      go_wp2_with fail
      refine (HLF.out _).mono ?_
      rintro e w3 ⟨rfl, hb3⟩
      have P0 := P0.below hb3
      have L0 := L0.below hb3
      have B0 := Bw.step B0 hb3
      have F1 := F1.below hb3
      have F2 := F2.below hb3
      clear l1 c10 c11 f10 f11 l2 c20 c21 f20 f21 ll e0 e1 e2 e3 e4
      obtain ⟨l2, c20, c21, f20, f21⟩ := id F2
      have P0 := P0.far2 (g := w2.heap.size) (by omega) (.int .i64 C) (.int .i64 I)
      have L0 := (L0.far (p := ⟨w2.heap.size, 0, none⟩) (by show w2.heap.size ≠ _; omega) (.int .i64 C)).far (p := ⟨w2.heap.size, 1, none⟩) (by show w2.heap.size ≠ _; omega) (.int .i64 I)
      have F1 := HasFar (HasFar F1 (p := ⟨w2.heap.size, 0, none⟩) (by show w2.heap.size ≠ _; omega) (.int .i64 C)) (p := ⟨w2.heap.size, 1, none⟩) (by show w2.heap.size ≠ _; omega) (.int .i64 I)
      have F2 := F2.set2 C I
      have B0 := Bw.set2 B0 (g := w2.heap.size) hw2 (.int .i64 C) (.int .i64 I)
      obtain ⟨l1, c10, c11, f10, f11⟩ := id F1
      obtain ⟨lz, z0, z1, y0, y1⟩ := id F2
      go_wp2_with fail
      refine (refAt_any _ _ _).mono ?_
      rintro e w4 ⟨rfl, rfl⟩
      have F1 := F1.al (.cells #[.int .i64 C, .int .i64 (I + 10)] 27)
      have F2 := F2.al (.cells #[.int .i64 C, .int .i64 (I + 10)] 27)
      have B0 := Bw.al B0 (.cells #[.int .i64 C, .int .i64 (I + 10)] 27)
      clear l1 c10 c11 f10 f11 lz z0 z1 y0 y1 l2 c20 c21 f20 f21
      obtain ⟨l2, c20, c21, f20, f21⟩ := id F2
      have F1 := HasFar (HasFar F1 (p := ⟨w2.heap.size, 0, none⟩) (by show w2.heap.size ≠ _; omega) (.int .i64 C)) (p := ⟨w2.heap.size, 1, none⟩) (by show w2.heap.size ≠ _; omega) (.int .i64 (I + 10))
      have F2 := F2.set2 C (I + 10)
      have B0 := Bw.set2 B0 (g := w2.heap.size) hw2 (.int .i64 C) (.int .i64 (I + 10))
      obtain ⟨l1, c10, c11, f10, f11⟩ := id F1
      obtain ⟨lz, z0, z1, y0, y1⟩ := id F2
      go_wp2_with (go_at_call 12; refine (planned_any _).mono ?_; rintro e w' ⟨rfl, hb9⟩)
      go_ret
      exact ⟨rfl, Bw.step B0 hb9⟩
  · have HB := Lib.hid (fun w => lpBears_badP r c d p m x h v s w h1)
    have hc := (plF_code r c d p).resolve_left h1
    generalize (plF r c d p).1 = C at *
    generalize (plF r c d p).2 = I at *
    have xC : (C == 0) = false := by rw [beq_eq_false_iff_ne]; omega
    have xC2 : (C != 0) = true := by rw [bne_iff_ne]; omega
    clear h1 hc
    have P0 := (H4.new w r c d p 23).al (loC m x h v s)
    have L0 := H5.new (w.alloc (plC r c d p)) m x h v s 25
    have B0 : Below w.heap.size w ((w.alloc (plC r c d p)).alloc (loC m x h v s)) := by (repeat (first | exact Below.refl _ _ | assumption | refine Bw.al ?_ _ | refine Bw.step ?_ (by assumption) | refine Bw.drew ?_))
    simp only [World.size_alloc] at L0
    obtain ⟨lp, ⟨p0, p1, p2, p3⟩, _⟩ := id P0
    obtain ⟨ll, l0, l1, l2, l3, l4⟩ := id L0
    go_enter Try.func3, Try.ntmps3
    go_wp2_with fail
    refine (HB.out _).mono ?_
    rintro e w1 ⟨rfl, hb1⟩
    have P0 := (P0.below hb1).al (.cells #[.int .i64 C, .int .i64 I] 27)
    have L0 := (L0.below hb1).al (.cells #[.int .i64 C, .int .i64 I] 27)
    have B0 := Bw.al (Bw.step B0 hb1) (.cells #[.int .i64 C, .int .i64 I] 27)
    have F1 := Has.new w1 C I 27
    clear lp p0 p1 p2 p3 ll l0 l1 l2 l3 l4
    obtain ⟨lp, ⟨p0, p1, p2, p3⟩, _⟩ := id P0
    go_wp2_with fail
    refine (HPF.out _).mono ?_
    rintro e w2 ⟨rfl, hb2⟩
    have hlt : w1.heap.size < w2.heap.size := (F1.below hb2).1
    have hw2 : w.heap.size ≤ w2.heap.size := (Bw.step B0 hb2).size
    have hPl := (P0.below hb2).1
    have hLl := (L0.below hb2).1
    have P0 := (P0.below hb2).al (.cells #[.int .i64 C, .int .i64 I] 27)
    have L0 := (L0.below hb2).al (.cells #[.int .i64 C, .int .i64 I] 27)
    have B0 := Bw.al (Bw.step B0 hb2) (.cells #[.int .i64 C, .int .i64 I] 27)
    have F1 := (F1.below hb2).al (.cells #[.int .i64 C, .int .i64 I] 27)
    have F2 := Has.new w2 C I 27
    clear lp p0 p1 p2 p3
    obtain ⟨l1, c10, c11, f10, f11⟩ := id F1
    obtain ⟨l2, c20, c21, f20, f21⟩ := id F2
    go_wp2_with (go_at_call 12; refine (planned_any _).mono ?_; rintro e w' ⟨rfl, hb9⟩)
    go_ret
    exact ⟨rfl, Bw.step B0 hb9⟩
end Go.Proofs.Ytnajdmkdkpmdgaa
