/- The walk of the law LossplanMatchesSpec. -/
import Derived.Test.YtnajdmkdkpmdgaaLpO
namespace Go.Proofs.Ytnajdmkdkpmdgaa
open Go.RowKit
set_option linter.unusedVariables false

set_option maxRecDepth 100000 in
set_option maxHeartbeats 8000000 in
theorem walkLossplanMatchesSpec (r c d p m x h v s : Int) (w : World) (w0 : (Lit.int .i64 r).wf = true ∧ (Lit.int .i64 c).wf = true ∧ (Lit.int .i64 d).wf = true ∧ (Lit.int .i64 p).wf = true) (w1 : (Lit.int .i64 m).wf = true ∧ (Lit.int .i64 x).wf = true ∧ (Lit.int .i64 h).wf = true ∧ (Lit.int .i64 v).wf = true ∧ (Lit.int .i64 s).wf = true) :
    Calls Try.prog 7 #[plV r c d p, loV m x h v s] w fun e w' => e = .returned (.bool true) ∧ Below w.heap.size w w' := by
  clear w0 w1
  have HPF := Lib.hid (fun w => rPlanFault_any r c d p w)
  have HVA := Lib.hid (fun w => lpValidate_any r c d p w)
  have HCK := Lib.hid (fun w => lpCheck_any m x h v s w)
  have HLF := Lib.hid (fun w => rLossesFault_any m x h v s w)
  generalize (loF m x h v s).1 = LC at *
  generalize (loF m x h v s).2 = LI at *
  by_cases h1 : plF r c d p = (0, 0)
  · have HSH := Lib.hid (fun w => lpShape_ok r c d p w h1)
    have HPY := Lib.hid (fun w => lpPayload_ok r c d p w h1)
    obtain ⟨hr, hc, _, _⟩ := plF_ok h1
    have HRP := Lib.hid (fun w => rPayloadOf_any r c d p w hr hc)
    rw [h1] at HPF HVA
    generalize (24 - r) * (16 - c) = n at *
    clear h1 hr hc
    have P0 := (H4.new w r c d p 23).al (loC m x h v s)
    have L0 := H5.new (w.alloc (plC r c d p)) m x h v s 25
    have B0 : Below w.heap.size w ((w.alloc (plC r c d p)).alloc (loC m x h v s)) := by (repeat (first | exact Below.refl _ _ | assumption | refine Bw.al ?_ _ | refine Bw.step ?_ (by assumption) | refine Bw.drew ?_))
    simp only [World.size_alloc] at L0
    obtain ⟨lp, ⟨p0, p1, p2, p3⟩, _⟩ := id P0
    go_enter Try.func7, Try.ntmps7
    go_wp2_with fail
    refine (HPF.out _).mono ?_
    rintro e w1 ⟨rfl, hb1⟩
    have P0 := (P0.below hb1).al (.cells #[.int .i64 0, .int .i64 0] 27)
    have L0 := (L0.below hb1).al (.cells #[.int .i64 0, .int .i64 0] 27)
    have B0 := Bw.al (Bw.step B0 hb1) (.cells #[.int .i64 0, .int .i64 0] 27)
    have F1 := Has.new w1 0 0 27
    clear lp p0 p1 p2 p3
    obtain ⟨lp, ⟨p0, p1, p2, p3⟩, _⟩ := id P0
    go_wp2_with fail
    refine (HSH.out _).mono ?_
    rintro e w2 ⟨rfl, hb2⟩
    have P0 := ((P0.below hb2).al (.cells #[.int .i64 16, .int .i64 24, .int .i64 r, .int .i64 c] 43)).al (.cells #[.int .i64 0, .int .i64 0] 27)
    have L0 := ((L0.below hb2).al (.cells #[.int .i64 16, .int .i64 24, .int .i64 r, .int .i64 c] 43)).al (.cells #[.int .i64 0, .int .i64 0] 27)
    have B0 := Bw.al (Bw.al (Bw.step B0 hb2) (.cells #[.int .i64 16, .int .i64 24, .int .i64 r, .int .i64 c] 43)) (.cells #[.int .i64 0, .int .i64 0] 27)
    have F1 := ((F1.below hb2).al (.cells #[.int .i64 16, .int .i64 24, .int .i64 r, .int .i64 c] 43)).al (.cells #[.int .i64 0, .int .i64 0] 27)
    have S2 := (H4.new w2 16 24 r c 43).al (.cells #[.int .i64 0, .int .i64 0] 27)
    have F2 := Has.new (w2.alloc (.cells #[.int .i64 16, .int .i64 24, .int .i64 r, .int .i64 c] 43)) 0 0 27
    rw [World.size_alloc] at F2
    clear lp p0 p1 p2 p3
    obtain ⟨lp, ⟨p0, p1, p2, p3⟩, _⟩ := id P0
    go_wp2_with fail
    refine (HPY.out _).mono ?_
    rintro e w3 ⟨rfl, hb3⟩
    have P0 := (P0.below hb3).al (.cells #[.int .i64 0, .int .i64 0] 27)
    have L0 := (L0.below hb3).al (.cells #[.int .i64 0, .int .i64 0] 27)
    have F1 := (F1.below hb3).al (.cells #[.int .i64 0, .int .i64 0] 27)
    have S2 := (S2.below hb3).al (.cells #[.int .i64 0, .int .i64 0] 27)
    have F2 := (F2.below hb3).al (.cells #[.int .i64 0, .int .i64 0] 27)
    have B0 := Bw.al (Bw.step B0 hb3) (.cells #[.int .i64 0, .int .i64 0] 27)
    have F3 := Has.new w3 0 0 27
    clear lp p0 p1 p2 p3
    go_wp2
    generalize w3.alloc (.cells #[.int .i64 0, .int .i64 0] 27) = W3 at *
    have hx0 := fun (x : Ext W3) => (P0.below x.below).2.1.1
    have hx1 := fun (x : Ext W3) => (P0.below x.below).2.1.2.1
    have hx2 := fun (x : Ext W3) => (P0.below x.below).2.1.2.2.1
    have hx3 := fun (x : Ext W3) => (P0.below x.below).2.1.2.2.2
    have hx4 := fun (x : Ext W3) => (L0.below x.below).2.1
    have hx5 := fun (x : Ext W3) => (L0.below x.below).2.2.1
    have hx6 := fun (x : Ext W3) => (L0.below x.below).2.2.2.1
    have hx7 := fun (x : Ext W3) => (L0.below x.below).2.2.2.2.1
    have hx8 := fun (x : Ext W3) => (L0.below x.below).2.2.2.2.2
    have hx9 := fun (x : Ext W3) => (F1.ext x).1
    have hx10 := fun (x : Ext W3) => (F1.ext x).2
    have hx11 := fun (x : Ext W3) => (F2.ext x).1
    have hx12 := fun (x : Ext W3) => (F2.ext x).2
    have hx13 := fun (x : Ext W3) => (F3.ext x).1
    have hx14 := fun (x : Ext W3) => (F3.ext x).2
    (refine wp_region_ext (by kernel_rfl) (by kernel_rfl) ?_; (repeat (go_big_quiet_step ((first | (go_at_call 18; exact ext_call (HVA.out _)) | (go_at_call 19; exact ext_call (HCK.out _)) | (go_at_call 10; exact ext_call (HLF.out _)))))); refine wpQuiet_nil ?_; intro W5 hw'; have hW5 := ext_below hw'; clear hw')
    clear hx0 hx1 hx2 hx3 hx4 hx5 hx6 hx7 hx8 hx9 hx10 hx11 hx12 hx13 hx14
    have P0 := P0.below hW5
    have S2 := S2.below hW5
    have F1 := F1.below hW5
    have B0 := Bw.step B0 hW5
    obtain ⟨l1, c10, c11, f10, f11⟩ := id F1
    obtain ⟨ls, ⟨s0, s1, s2, s3⟩, _⟩ := id S2
    go_wp2
    have hx0 := fun (x : Ext W5) => (P0.below x.below).2.1.1
    have hx1 := fun (x : Ext W5) => (P0.below x.below).2.1.2.1
    have hx2 := fun (x : Ext W5) => (P0.below x.below).2.1.2.2.1
    have hx3 := fun (x : Ext W5) => (P0.below x.below).2.1.2.2.2
    have hy0 := fun (x : Ext W5) => (S2.below x.below).2.1.1
    have hy1 := fun (x : Ext W5) => (S2.below x.below).2.1.2.1
    have hy2 := fun (x : Ext W5) => (S2.below x.below).2.1.2.2.1
    have hy3 := fun (x : Ext W5) => (S2.below x.below).2.1.2.2.2
    (refine wp_region_ext (by kernel_rfl) (by kernel_rfl) ?_; (repeat (go_big_quiet_step ((first | (go_at_call 20; exact ext_call (rShapeOf_any _ _ _ _ _)) | (go_at_call 21; exact ext_call (HRP.out _)) | (go_at_call 12; exact ext_call (planned_any _)))))); refine wpQuiet_nil ?_; intro W6 hw'; have hW6 := ext_below hw'; clear hw')
    go_wp2
    go_ret
    exact ⟨rfl, Bw.step B0 hW6⟩
  · have HSH := Lib.hid (fun w => lpShape_bad r c d p w h1)
    have HPY := Lib.hid (fun w => lpPayload_bad r c d p w h1)
    have hc := (plF_code r c d p).resolve_left h1
    generalize (plF r c d p).1 = C at *
    generalize (plF r c d p).2 = I at *
    have xC : (C == 0) = false := by rw [beq_eq_false_iff_ne]; omega
    have xC2 : (C != 0) = true := by rw [bne_iff_ne]; omega
    clear h1 hc
    have P0 := (H4.new w r c d p 23).al (loC m x h v s)
    have L0 := H5.new (w.alloc (plC r c d p)) m x h v s 25
    have B0 : Below w.heap.size w ((w.alloc (plC r c d p)).alloc (loC m x h v s)) := by (repeat (first | exact Below.refl _ _ | assumption | refine Bw.al ?_ _ | refine Bw.step ?_ (by assumption) | refine Bw.drew ?_))
    simp only [World.size_alloc] at L0
    obtain ⟨lp, ⟨p0, p1, p2, p3⟩, _⟩ := id P0
    go_enter Try.func7, Try.ntmps7
    go_wp2_with fail
    refine (HPF.out _).mono ?_
    rintro e w1 ⟨rfl, hb1⟩
    have P0 := (P0.below hb1).al (.cells #[.int .i64 C, .int .i64 I] 27)
    have L0 := (L0.below hb1).al (.cells #[.int .i64 C, .int .i64 I] 27)
    have B0 := Bw.al (Bw.step B0 hb1) (.cells #[.int .i64 C, .int .i64 I] 27)
    have F1 := Has.new w1 C I 27
    clear lp p0 p1 p2 p3
    obtain ⟨lp, ⟨p0, p1, p2, p3⟩, _⟩ := id P0
    go_wp2_with fail
    refine (HSH.out _).mono ?_
    rintro e w2 ⟨rfl, hb2⟩
    have P0 := ((P0.below hb2).al (.cells #[.int .i64 0, .int .i64 0, .int .i64 0, .int .i64 0] 43)).al (.cells #[.int .i64 C, .int .i64 I] 27)
    have L0 := ((L0.below hb2).al (.cells #[.int .i64 0, .int .i64 0, .int .i64 0, .int .i64 0] 43)).al (.cells #[.int .i64 C, .int .i64 I] 27)
    have B0 := Bw.al (Bw.al (Bw.step B0 hb2) (.cells #[.int .i64 0, .int .i64 0, .int .i64 0, .int .i64 0] 43)) (.cells #[.int .i64 C, .int .i64 I] 27)
    have F1 := ((F1.below hb2).al (.cells #[.int .i64 0, .int .i64 0, .int .i64 0, .int .i64 0] 43)).al (.cells #[.int .i64 C, .int .i64 I] 27)
    have S2 := (H4.new w2 0 0 0 0 43).al (.cells #[.int .i64 C, .int .i64 I] 27)
    have F2 := Has.new (w2.alloc (.cells #[.int .i64 0, .int .i64 0, .int .i64 0, .int .i64 0] 43)) C I 27
    rw [World.size_alloc] at F2
    clear lp p0 p1 p2 p3
    obtain ⟨lp, ⟨p0, p1, p2, p3⟩, _⟩ := id P0
    go_wp2_with fail
    refine (HPY.out _).mono ?_
    rintro e w3 ⟨rfl, hb3⟩
    have P0 := (P0.below hb3).al (.cells #[.int .i64 C, .int .i64 I] 27)
    have L0 := (L0.below hb3).al (.cells #[.int .i64 C, .int .i64 I] 27)
    have F1 := (F1.below hb3).al (.cells #[.int .i64 C, .int .i64 I] 27)
    have S2 := (S2.below hb3).al (.cells #[.int .i64 C, .int .i64 I] 27)
    have F2 := (F2.below hb3).al (.cells #[.int .i64 C, .int .i64 I] 27)
    have B0 := Bw.al (Bw.step B0 hb3) (.cells #[.int .i64 C, .int .i64 I] 27)
    have F3 := Has.new w3 C I 27
    clear lp p0 p1 p2 p3
    go_wp2
    generalize w3.alloc (.cells #[.int .i64 C, .int .i64 I] 27) = W3 at *
    have hx0 := fun (x : Ext W3) => (P0.below x.below).2.1.1
    have hx1 := fun (x : Ext W3) => (P0.below x.below).2.1.2.1
    have hx2 := fun (x : Ext W3) => (P0.below x.below).2.1.2.2.1
    have hx3 := fun (x : Ext W3) => (P0.below x.below).2.1.2.2.2
    have hx4 := fun (x : Ext W3) => (L0.below x.below).2.1
    have hx5 := fun (x : Ext W3) => (L0.below x.below).2.2.1
    have hx6 := fun (x : Ext W3) => (L0.below x.below).2.2.2.1
    have hx7 := fun (x : Ext W3) => (L0.below x.below).2.2.2.2.1
    have hx8 := fun (x : Ext W3) => (L0.below x.below).2.2.2.2.2
    have hx9 := fun (x : Ext W3) => (F1.ext x).1
    have hx10 := fun (x : Ext W3) => (F1.ext x).2
    have hx11 := fun (x : Ext W3) => (F2.ext x).1
    have hx12 := fun (x : Ext W3) => (F2.ext x).2
    have hx13 := fun (x : Ext W3) => (F3.ext x).1
    have hx14 := fun (x : Ext W3) => (F3.ext x).2
    (refine wp_region_ext (by kernel_rfl) (by kernel_rfl) ?_; (repeat (go_big_quiet_step ((first | (go_at_call 18; exact ext_call (HVA.out _)) | (go_at_call 19; exact ext_call (HCK.out _)) | (go_at_call 10; exact ext_call (HLF.out _)))))); refine wpQuiet_nil ?_; intro W5 hw'; have hW5 := ext_below hw'; clear hw')
    clear hx0 hx1 hx2 hx3 hx4 hx5 hx6 hx7 hx8 hx9 hx10 hx11 hx12 hx13 hx14
    have P0 := P0.below hW5
    have S2 := S2.below hW5
    have F1 := F1.below hW5
    have B0 := Bw.step B0 hW5
    obtain ⟨l1, c10, c11, f10, f11⟩ := id F1
    obtain ⟨ls, ⟨s0, s1, s2, s3⟩, _⟩ := id S2
    go_wp2_with (go_at_call 12; refine (planned_any _).mono ?_; rintro e w' ⟨rfl, hb9⟩)
    go_ret
    exact ⟨rfl, Bw.step B0 hb9⟩
end Go.Proofs.Ytnajdmkdkpmdgaa
