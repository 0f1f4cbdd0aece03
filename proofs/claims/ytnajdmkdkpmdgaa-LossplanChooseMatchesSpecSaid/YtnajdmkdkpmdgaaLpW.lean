/- The reference's Choose where it fails; the walk of the law LossplanChooseMatchesSpec. -/
import Derived.Test.YtnajdmkdkpmdgaaLpV
namespace Go.Proofs.Ytnajdmkdkpmdgaa
open Go.RowKit
set_option linter.unusedVariables false

set_option maxHeartbeats 2000000 in
theorem rChoose_bad (m x h v s len : Int) (w : World) (h1 : loF m x h v s ≠ (0, 0)) :
    Calls Try.prog 15 #[loV m x h v s, .int .i64 len] w fun e w' => e = .returned (.tuple #[plV 0 0 0 0, .agg #[.int .i64 (loF m x h v s).1, .int .i64 (loF m x h v s).2]]) ∧ Below w.heap.size w w' := by
  have HC := Lib.hid (fun w => rLossesFault_any m x h v s w)
  have hc := (loF_code m x h v s).resolve_left h1
  generalize (loF m x h v s).1 = C at *
  generalize (loF m x h v s).2 = I at *
  have xC : (C == 0) = false := by rw [beq_eq_false_iff_ne]; omega
  have xC2 : (C != 0) = true := by rw [bne_iff_ne]; omega
  clear h1 hc
  have Q0 := (H4.new (w.alloc (loC m x h v s)) 0 0 0 0 23).al (.cells #[.int .i64 0, .int .i64 0] 27)
  have F0 := Has.new ((w.alloc (loC m x h v s)).alloc (.cells #[.int .i64 0, .int .i64 0, .int .i64 0, .int .i64 0] 23)) 0 0 27
  have B0 : Below w.heap.size w (((w.alloc (loC m x h v s)).alloc (.cells #[.int .i64 0, .int .i64 0, .int .i64 0, .int .i64 0] 23)).alloc (.cells #[.int .i64 0, .int .i64 0] 27)) := by (repeat (first | exact Below.refl _ _ | assumption | refine Bw.al ?_ _ | refine Bw.step ?_ (by assumption) | refine Bw.drew ?_))
  simp only [World.size_alloc] at Q0 F0
  go_enter Try.func15, Try.ntmps15
  go_wp2_with fail
  generalize ((w.alloc (loC m x h v s)).alloc (.cells #[.int .i64 0, .int .i64 0, .int .i64 0, .int .i64 0] 23)).alloc (.cells #[.int .i64 0, .int .i64 0] 27) = WA at *
  refine (HC.out _).mono ?_
  rintro e w1 ⟨rfl, hb1⟩
  have Q0 := Q0.below hb1
  have hs1 := Q0.1
  have Q0 := Q0.al (.cells #[.int .i64 C, .int .i64 I] 27)
  have F0 := (F0.below hb1).al (.cells #[.int .i64 C, .int .i64 I] 27)
  have B0 := Bw.al (Bw.step B0 hb1) (.cells #[.int .i64 C, .int .i64 I] 27)
  have F1 := Has.new w1 C I 27
  obtain ⟨lfA, f0A, f1A, g0A, g1A⟩ := F1.far4 (g := w.heap.size + 1) (by omega) (.int .i64 0) (.int .i64 0) (.int .i64 0) (.int .i64 0)
  clear hs1
  obtain ⟨lf, f0, f1, g0, g1⟩ := id F1
  obtain ⟨ls, ⟨s0, s1, s2, s3⟩, t0, t1, t2, t3⟩ := id Q0
  obtain ⟨l0, x0, x1, y0, y1⟩ := id F0
  go_wp2
  go_region
  go_wp2
  exact bodyPost_ret (resS rfl (.inr rfl) rfl rfl (H4.drew ((Q0.set 0 0 0 0).far2 (by omega) _ _)) (Has.drew ((F0.far4 (by omega) _ _ _ _).set2 C I))) rfl ⟨rfl, Bw.drew (Bw.set2 (Bw.set4 B0 (by omega) _ _ _ _) (by omega) _ _)⟩
set_option maxHeartbeats 2000000 in
theorem rChoose_neg (m x h v s len : Int) (w : World) (h1 : loF m x h v s = (0, 0)) (hl : len < 0) :
    Calls Try.prog 15 #[loV m x h v s, .int .i64 len] w fun e w' => e = .returned (.tuple #[plV 0 0 0 0, .agg #[.int .i64 4, .int .i64 (-2)]]) ∧ Below w.heap.size w w' := by
  have HC := Lib.hid (fun w => rLossesFault_any m x h v s w)
  rw [h1] at HC
  have dq : decide (len < 0) = true := by simp only [decide_eq_true_eq]; exact hl
  clear h1 hl
  have Q0 := (H4.new (w.alloc (loC m x h v s)) 0 0 0 0 23).al (.cells #[.int .i64 0, .int .i64 0] 27)
  have F0 := Has.new ((w.alloc (loC m x h v s)).alloc (.cells #[.int .i64 0, .int .i64 0, .int .i64 0, .int .i64 0] 23)) 0 0 27
  have B0 : Below w.heap.size w (((w.alloc (loC m x h v s)).alloc (.cells #[.int .i64 0, .int .i64 0, .int .i64 0, .int .i64 0] 23)).alloc (.cells #[.int .i64 0, .int .i64 0] 27)) := by (repeat (first | exact Below.refl _ _ | assumption | refine Bw.al ?_ _ | refine Bw.step ?_ (by assumption) | refine Bw.drew ?_))
  simp only [World.size_alloc] at Q0 F0
  go_enter Try.func15, Try.ntmps15
  go_wp2_with fail
  generalize ((w.alloc (loC m x h v s)).alloc (.cells #[.int .i64 0, .int .i64 0, .int .i64 0, .int .i64 0] 23)).alloc (.cells #[.int .i64 0, .int .i64 0] 27) = WA at *
  refine (HC.out _).mono ?_
  rintro e w1 ⟨rfl, hb1⟩
  have Q0 := (Q0.below hb1).al (.cells #[.int .i64 0, .int .i64 0] 27)
  have F0 := (F0.below hb1).al (.cells #[.int .i64 0, .int .i64 0] 27)
  have B0 := Bw.al (Bw.step B0 hb1) (.cells #[.int .i64 0, .int .i64 0] 27)
  obtain ⟨lf, f0, f1, g0, g1⟩ := Has.new w1 0 0 27
  go_wp2_with fail
  refine (rAtB _ _ _).mono ?_
  rintro e w2 ⟨rfl, hb2⟩
  have Q0 := Q0.below hb2
  have F0 := F0.below hb2
  have B0 := Bw.step B0 hb2
  clear lf f0 f1 g0 g1
  obtain ⟨ls, ⟨s0, s1, s2, s3⟩, t0, t1, t2, t3⟩ := id Q0
  obtain ⟨l0, x0, x1, y0, y1⟩ := id F0
  go_wp2
  exact bodyPost_ret (resS rfl (.inr rfl) rfl rfl ((Q0.set 0 0 0 0).far2 (by omega) _ _) ((F0.far4 (by omega) _ _ _ _).set2 4 (-2))) rfl ⟨rfl, Bw.set2 (Bw.set4 B0 (by omega) _ _ _ _) (by omega) _ _⟩
set_option maxRecDepth 100000 in
set_option maxHeartbeats 4000000 in
/-- Both choose the same. -/
theorem choose_law (m x h v s len : Int) (w : World) (Qx : Int → Int → Int → Int → Int → Int → Prop) (hu : ∀ r c d p C I r' c' d' p' C' I', Qx r c d p C I → Qx r' c' d' p' C' I' → (r = r' ∧ c = c' ∧ d = d' ∧ p = p') ∧ C = C' ∧ I = I')
    (HA : ∀ w, Calls Try.prog 14 #[loV m x h v s, .int .i64 len] w fun e w' => ∃ r c d p C I, e = .returned (.tuple #[plV r c d p, .agg #[.int .i64 C, .int .i64 I]]) ∧ Qx r c d p C I ∧ Below w.heap.size w w')
    (HB : ∀ w, Calls Try.prog 15 #[loV m x h v s, .int .i64 len] w fun e w' => ∃ r c d p C I, e = .returned (.tuple #[plV r c d p, .agg #[.int .i64 C, .int .i64 I]]) ∧ Qx r c d p C I ∧ Below w.heap.size w w') :
    Calls Try.prog 4 #[loV m x h v s, .int .i64 len] w fun e w' => e = .returned (.bool true) ∧ Below w.heap.size w w' := by
  have HU := Lib.hid hu
  have HA' := Lib.hid HA
  have HB' := Lib.hid HB
  clear HA HB hu
  have L0 := H5.new w m x h v s 25
  have B0 := below_new w (loC m x h v s)
  go_enter Try.func4, Try.ntmps4
  go_wp2_with fail
  refine (HA'.out _).mono ?_
  rintro e w1 ⟨r, c, d, p, C, I, rfl, hq, hb1⟩
  have HQ := Lib.hid hq
  have F1 := Has.new (w1.alloc (plC r c d p)) C I 27
  have P1 := (H4.new w1 r c d p 23).al (.cells #[.int .i64 C, .int .i64 I] 27)
  rw [World.size_alloc] at F1
  have L0 := ((L0.below hb1).al (plC r c d p)).al (.cells #[.int .i64 C, .int .i64 I] 27)
  have B0 := Bw.al (Bw.al (Bw.step B0 hb1) (plC r c d p)) (.cells #[.int .i64 C, .int .i64 I] 27)
  obtain ⟨ll, l0, l1, l2, l3, l4⟩ := id L0
  clear hq
  go_wp2_with fail
  generalize (w1.alloc (plC r c d p)).alloc (.cells #[.int .i64 C, .int .i64 I] 27) = W1 at *
  refine (HB'.out _).mono ?_
  rintro e w2 ⟨r', c', d', p', C', I', rfl, hq, hb2⟩
  obtain ⟨⟨rfl, rfl, rfl, rfl⟩, rfl, rfl⟩ := HU.out _ _ _ _ _ _ _ _ _ _ _ _ HQ.out hq
  have F1 := ((F1.below hb2).al (plC r c d p)).al (.cells #[.int .i64 C, .int .i64 I] 27)
  have P1 := ((P1.below hb2).al (plC r c d p)).al (.cells #[.int .i64 C, .int .i64 I] 27)
  have F2 := Has.new (w2.alloc (plC r c d p)) C I 27
  have P2 := (H4.new w2 r c d p 23).al (.cells #[.int .i64 C, .int .i64 I] 27)
  rw [World.size_alloc] at F2
  have B0 := Bw.al (Bw.al (Bw.step B0 hb2) (plC r c d p)) (.cells #[.int .i64 C, .int .i64 I] 27)
  clear hq HQ HU HA' HB' ll l0 l1 l2 l3 l4
  obtain ⟨lf1, f10, f11, g10, g11⟩ := id F1
  obtain ⟨lf2, f20, f21, g20, g21⟩ := id F2
  obtain ⟨lp1, ⟨p10, p11, p12, p13⟩, _⟩ := id P1
  obtain ⟨lp2, ⟨p20, p21, p22, p23⟩, _⟩ := id P2
  go_wp2_with fail
  refine (planned_any _).mono ?_
  rintro e w3 ⟨rfl, hb3⟩
  go_wp2
  go_ret
  exact ⟨rfl, Bw.step B0 hb3⟩
theorem walkLossplanChooseMatchesSpec (m x h v s len : Int) (w : World) (w0 : (Lit.int .i64 m).wf = true ∧ (Lit.int .i64 x).wf = true ∧ (Lit.int .i64 h).wf = true ∧ (Lit.int .i64 v).wf = true ∧ (Lit.int .i64 s).wf = true) (w1 : (Lit.int .i64 len).wf = true) :
    Calls Try.prog 4 #[loV m x h v s, .int .i64 len] w fun e w' => e = .returned (.bool true) ∧ Below w.heap.size w w' := by
  have hlen := wf64' w1
  by_cases h1 : loF m x h v s = (0, 0)
  · by_cases hl : len < 0
    · exact choose_law m x h v s len w (fun r c d p C I => (r = 0 ∧ c = 0 ∧ d = 0 ∧ p = 0) ∧ C = 4 ∧ I = -2)
        (fun r c d p C I r' c' d' p' C' I' ⟨⟨a1, a2, a3, a4⟩, a5, a6⟩ ⟨⟨b1, b2, b3, b4⟩, b5, b6⟩ => ⟨⟨by omega, by omega, by omega, by omega⟩, by omega, by omega⟩)
        (fun w => (lpChoose_neg m x h v s len w h1 hl).mono fun e w' ⟨he, hb⟩ => ⟨0, 0, 0, 0, 4, -2, he, ⟨⟨rfl, rfl, rfl, rfl⟩, rfl, rfl⟩, hb⟩)
        (fun w => (rChoose_neg m x h v s len w h1 hl).mono fun e w' ⟨he, hb⟩ => ⟨0, 0, 0, 0, 4, -2, he, ⟨⟨rfl, rfl, rfl, rfl⟩, rfl, rfl⟩, hb⟩)
    · obtain ⟨_, _, g3, g4, _⟩ := loF_ok h1
      obtain ⟨H, rfl⟩ := Int.eq_ofNat_of_zero_le g3.1
      obtain ⟨V, rfl⟩ := Int.eq_ofNat_of_zero_le g4.1
      exact choose_law m x H V s len w (ChRes H V s (m + 2 * x) len) (fun r c d p C I r' c' d' p' C' I' h h' => h.unique h')
        (fun w => lpChoose_ok m x s len H V w h1 ⟨by omega, hlen.2⟩) (fun w => rChoose_ok m x s len H V w h1 ⟨by omega, hlen.2⟩)
  · exact choose_law m x h v s len w (fun r c d p C I => (r = 0 ∧ c = 0 ∧ d = 0 ∧ p = 0) ∧ C = (loF m x h v s).1 ∧ I = (loF m x h v s).2)
        (fun r c d p C I r' c' d' p' C' I' ⟨⟨a1, a2, a3, a4⟩, a5, a6⟩ ⟨⟨b1, b2, b3, b4⟩, b5, b6⟩ => ⟨⟨by omega, by omega, by omega, by omega⟩, by rw [a5, b5], by rw [a6, b6]⟩)
        (fun w => (lpChoose_bad m x h v s len w h1).mono fun e w' ⟨he, hb⟩ => ⟨0, 0, 0, 0, _, _, he, ⟨⟨rfl, rfl, rfl, rfl⟩, rfl, rfl⟩, hb⟩)
        (fun w => (rChoose_bad m x h v s len w h1).mono fun e w' ⟨he, hb⟩ => ⟨0, 0, 0, 0, _, _, he, ⟨⟨rfl, rfl, rfl, rfl⟩, rfl, rfl⟩, hb⟩)
end Go.Proofs.Ytnajdmkdkpmdgaa
