/- Walks of lossplan.Shape, lossplan.Payload. -/
import Derived.Test.YtnajdmkdkpmdgaaLpE
namespace Go.Proofs.Ytnajdmkdkpmdgaa
open Go.RowKit
set_option linter.unusedVariables false

set_option maxHeartbeats 1000000 in
theorem lpShape_ok (r c d p : Int) (w : World) (h : plF r c d p = (0, 0)) :
    Calls Try.prog 17 #[plV r c d p] w fun e w' => e = .returned (.tuple #[shV 16 24 r c, .agg #[.int .i64 0, .int .i64 0]]) ∧ Below w.heap.size w w' := by
  have HV := Lib.hid (fun w => lpValidate_any r c d p w)
  rw [h] at HV
  have P0 := H4.new w r c d p 23
  have S0 := H4.new (w.alloc (.cells #[.int .i64 r, .int .i64 c, .int .i64 d, .int .i64 p] 23)) 0 0 0 0 43
  have F0 := Has.new ((w.alloc (.cells #[.int .i64 r, .int .i64 c, .int .i64 d, .int .i64 p] 23)).alloc (.cells #[.int .i64 0, .int .i64 0, .int .i64 0, .int .i64 0] 43)) 0 0 27
  have P0 := (P0.al (.cells #[.int .i64 0, .int .i64 0, .int .i64 0, .int .i64 0] 43)).al (.cells #[.int .i64 0, .int .i64 0] 27)
  have S0 := S0.al (.cells #[.int .i64 0, .int .i64 0] 27)
  have B0 : Below w.heap.size w (((w.alloc (.cells #[.int .i64 r, .int .i64 c, .int .i64 d, .int .i64 p] 23)).alloc (.cells #[.int .i64 0, .int .i64 0, .int .i64 0, .int .i64 0] 43)).alloc (.cells #[.int .i64 0, .int .i64 0] 27)) := by (repeat (first | exact Below.refl _ _ | assumption | refine Bw.al ?_ _ | refine Bw.step ?_ (by assumption) | refine Bw.drew ?_))
  simp only [World.size_alloc] at S0 F0
  clear h
  go_enter Try.func17, Try.ntmps17
  go_wp2_with fail
  generalize ((w.alloc (.cells #[.int .i64 r, .int .i64 c, .int .i64 d, .int .i64 p] 23)).alloc (.cells #[.int .i64 0, .int .i64 0, .int .i64 0, .int .i64 0] 43)).alloc (.cells #[.int .i64 0, .int .i64 0] 27) = W at *
  refine (HV.out _).mono ?_
  rintro e w1 ⟨rfl, hb1⟩
  have P0 := P0.below hb1
  have S0 := S0.below hb1
  have F0 := F0.below hb1
  have B0 := Bw.step B0 hb1
  have F1 := Has.new w1 0 0 27
  have P0 := P0.al (.cells #[.int .i64 0, .int .i64 0] 27)
  have S0 := S0.al (.cells #[.int .i64 0, .int .i64 0] 27)
  have F0 := F0.al (.cells #[.int .i64 0, .int .i64 0] 27)
  have B0 := Bw.al B0 (.cells #[.int .i64 0, .int .i64 0] 27)
  obtain ⟨lf, f0, f1, g0, g1⟩ := id F1
  obtain ⟨lp, ⟨p0, p1, p2, p3⟩, q0, q1, q2, q3⟩ := id P0
  obtain ⟨ls, ⟨s0, s1, s2, s3⟩, t0, t1, t2, t3⟩ := id S0
  obtain ⟨l0, x0, x1, y0, y1⟩ := id F0
  go_wp2
  exact bodyPost_ret (resS rfl (.inl rfl) rfl rfl ((S0.set 16 24 r c).far2 (by omega) _ _) ((F0.far4 (by omega) _ _ _ _).set2 0 0)) rfl ⟨rfl, Bw.set2 (Bw.set4 B0 (by omega) _ _ _ _) (by omega) _ _⟩
set_option maxHeartbeats 1000000 in
theorem lpShape_bad (r c d p : Int) (w : World) (h : plF r c d p ≠ (0, 0)) :
    Calls Try.prog 17 #[plV r c d p] w fun e w' => e = .returned (.tuple #[shV 0 0 0 0, .agg #[.int .i64 (plF r c d p).1, .int .i64 (plF r c d p).2]]) ∧ Below w.heap.size w w' := by
  have HV := Lib.hid (fun w => lpValidate_any r c d p w)
  have hc := (plF_code r c d p).resolve_left h
  generalize (plF r c d p).1 = C at *
  generalize (plF r c d p).2 = F at *
  have xC : (C == 0) = false := by rw [beq_eq_false_iff_ne]; omega
  clear hc
  have P0 := H4.new w r c d p 23
  have S0 := H4.new (w.alloc (.cells #[.int .i64 r, .int .i64 c, .int .i64 d, .int .i64 p] 23)) 0 0 0 0 43
  have F0 := Has.new ((w.alloc (.cells #[.int .i64 r, .int .i64 c, .int .i64 d, .int .i64 p] 23)).alloc (.cells #[.int .i64 0, .int .i64 0, .int .i64 0, .int .i64 0] 43)) 0 0 27
  have P0 := (P0.al (.cells #[.int .i64 0, .int .i64 0, .int .i64 0, .int .i64 0] 43)).al (.cells #[.int .i64 0, .int .i64 0] 27)
  have S0 := S0.al (.cells #[.int .i64 0, .int .i64 0] 27)
  have B0 : Below w.heap.size w (((w.alloc (.cells #[.int .i64 r, .int .i64 c, .int .i64 d, .int .i64 p] 23)).alloc (.cells #[.int .i64 0, .int .i64 0, .int .i64 0, .int .i64 0] 43)).alloc (.cells #[.int .i64 0, .int .i64 0] 27)) := by (repeat (first | exact Below.refl _ _ | assumption | refine Bw.al ?_ _ | refine Bw.step ?_ (by assumption) | refine Bw.drew ?_))
  simp only [World.size_alloc] at S0 F0
  clear h
  go_enter Try.func17, Try.ntmps17
  go_wp2_with fail
  generalize ((w.alloc (.cells #[.int .i64 r, .int .i64 c, .int .i64 d, .int .i64 p] 23)).alloc (.cells #[.int .i64 0, .int .i64 0, .int .i64 0, .int .i64 0] 43)).alloc (.cells #[.int .i64 0, .int .i64 0] 27) = W at *
  refine (HV.out _).mono ?_
  rintro e w1 ⟨rfl, hb1⟩
  have P0 := P0.below hb1
  have S0 := S0.below hb1
  have hs1 := S0.1
  have F0 := F0.below hb1
  have B0 := Bw.step B0 hb1
  have F1 := Has.new w1 C F 27
  have P0 := P0.al (.cells #[.int .i64 C, .int .i64 F] 27)
  have S0 := S0.al (.cells #[.int .i64 C, .int .i64 F] 27)
  have F0 := F0.al (.cells #[.int .i64 C, .int .i64 F] 27)
  have B0 := Bw.al B0 (.cells #[.int .i64 C, .int .i64 F] 27)
  obtain ⟨lfA, f0A, f1A, g0A, g1A⟩ := F1.far4 (g := w.heap.size + 1) (by omega) (.int .i64 0) (.int .i64 0) (.int .i64 0) (.int .i64 0)
  clear hs1
  obtain ⟨lf, f0, f1, g0, g1⟩ := id F1
  obtain ⟨lp, ⟨p0, p1, p2, p3⟩, q0, q1, q2, q3⟩ := id P0
  obtain ⟨ls, ⟨s0, s1, s2, s3⟩, t0, t1, t2, t3⟩ := id S0
  obtain ⟨l0, x0, x1, y0, y1⟩ := id F0
  go_wp2
  go_region
  go_wp2
  exact bodyPost_ret (resS rfl (.inl rfl) rfl rfl (H4.drew ((S0.set 0 0 0 0).far2 (by omega) _ _)) (Has.drew ((F0.far4 (by omega) _ _ _ _).set2 C F))) rfl ⟨rfl, Bw.drew (Bw.set2 (Bw.set4 B0 (by omega) _ _ _ _) (by omega) _ _)⟩
set_option maxHeartbeats 1000000 in
theorem lpPayload_ok (r c d p : Int) (w : World) (h : plF r c d p = (0, 0)) :
    Calls Try.prog 16 #[plV r c d p] w fun e w' => e = .returned (.tuple #[.int .i64 ((24 - r) * (16 - c)), .agg #[.int .i64 0, .int .i64 0]]) ∧ Below w.heap.size w w' := by
  have HV := Lib.hid (fun w => lpValidate_any r c d p w)
  rw [h] at HV
  obtain ⟨hr, hc, _, _⟩ := plF_ok h
  have HP := Lib.hid (fun w => lpPay_any r c d p w hr hc)
  generalize (24 - r) * (16 - c) = sz at *
  have P0 := H4.new w r c d p 23
  have F0 := Has.new (w.alloc (.cells #[.int .i64 r, .int .i64 c, .int .i64 d, .int .i64 p] 23)) 0 0 27
  have P0 := P0.al (.cells #[.int .i64 0, .int .i64 0] 27)
  have B0 : Below w.heap.size w ((w.alloc (.cells #[.int .i64 r, .int .i64 c, .int .i64 d, .int .i64 p] 23)).alloc (.cells #[.int .i64 0, .int .i64 0] 27)) := by (repeat (first | exact Below.refl _ _ | assumption | refine Bw.al ?_ _ | refine Bw.step ?_ (by assumption) | refine Bw.drew ?_))
  simp only [World.size_alloc] at F0
  clear h hr hc
  go_enter Try.func16, Try.ntmps16
  go_wp2_with fail
  generalize (w.alloc (.cells #[.int .i64 r, .int .i64 c, .int .i64 d, .int .i64 p] 23)).alloc (.cells #[.int .i64 0, .int .i64 0] 27) = W at *
  refine (HV.out _).mono ?_
  rintro e w1 ⟨rfl, hb1⟩
  have P0 := (P0.below hb1).al (.cells #[.int .i64 0, .int .i64 0] 27)
  have F0 := (F0.below hb1).al (.cells #[.int .i64 0, .int .i64 0] 27)
  have B0 := Bw.al (Bw.step B0 hb1) (.cells #[.int .i64 0, .int .i64 0] 27)
  have F1 := Has.new w1 0 0 27
  obtain ⟨lf, f0, f1, g0, g1⟩ := id F1
  obtain ⟨lp, ⟨p0, p1, p2, p3⟩, q0, q1, q2, q3⟩ := id P0
  go_wp2_with fail
  refine (HP.out _).mono ?_
  rintro e w2 ⟨rfl, hb2⟩
  have F0 := F0.below hb2
  have B0 := Bw.step B0 hb2
  obtain ⟨l0, x0, x1, y0, y1⟩ := id F0
  go_wp2
  exact bodyPost_ret (resF2 rfl rfl (F0.set2 0 0)) rfl ⟨rfl, Bw.set2 B0 (by omega) _ _⟩
set_option maxHeartbeats 1000000 in
theorem lpPayload_bad (r c d p : Int) (w : World) (h : plF r c d p ≠ (0, 0)) :
    Calls Try.prog 16 #[plV r c d p] w fun e w' => e = .returned (.tuple #[.int .i64 0, .agg #[.int .i64 (plF r c d p).1, .int .i64 (plF r c d p).2]]) ∧ Below w.heap.size w w' := by
  have HV := Lib.hid (fun w => lpValidate_any r c d p w)
  have hc := (plF_code r c d p).resolve_left h
  generalize (plF r c d p).1 = C at *
  generalize (plF r c d p).2 = F at *
  have xC : (C == 0) = false := by rw [beq_eq_false_iff_ne]; omega
  have F0 := Has.new (w.alloc (.cells #[.int .i64 r, .int .i64 c, .int .i64 d, .int .i64 p] 23)) 0 0 27
  have B0 : Below w.heap.size w ((w.alloc (.cells #[.int .i64 r, .int .i64 c, .int .i64 d, .int .i64 p] 23)).alloc (.cells #[.int .i64 0, .int .i64 0] 27)) := by (repeat (first | exact Below.refl _ _ | assumption | refine Bw.al ?_ _ | refine Bw.step ?_ (by assumption) | refine Bw.drew ?_))
  simp only [World.size_alloc] at F0
  clear h hc
  go_enter Try.func16, Try.ntmps16
  go_wp2_with fail
  generalize (w.alloc (.cells #[.int .i64 r, .int .i64 c, .int .i64 d, .int .i64 p] 23)).alloc (.cells #[.int .i64 0, .int .i64 0] 27) = W at *
  refine (HV.out _).mono ?_
  rintro e w1 ⟨rfl, hb1⟩
  have F0 := (F0.below hb1).al (.cells #[.int .i64 C, .int .i64 F] 27)
  have B0 := Bw.al (Bw.step B0 hb1) (.cells #[.int .i64 C, .int .i64 F] 27)
  have F1 := Has.new w1 C F 27
  obtain ⟨lf, f0, f1, g0, g1⟩ := id F1
  obtain ⟨l0, x0, x1, y0, y1⟩ := id F0
  go_wp2
  go_region
  go_wp2
  exact bodyPost_ret (resF2 rfl rfl (Has.drew (F0.set2 C F))) rfl ⟨rfl, Bw.drew (Bw.set2 B0 (by omega) _ _)⟩
end Go.Proofs.Ytnajdmkdkpmdgaa
