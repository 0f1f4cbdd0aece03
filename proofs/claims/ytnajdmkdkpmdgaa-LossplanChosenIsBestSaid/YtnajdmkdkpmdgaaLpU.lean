/- The walk of the law LossplanChosenIsBest. -/
import Derived.Test.YtnajdmkdkpmdgaaLpT
namespace Go.Proofs.Ytnajdmkdkpmdgaa
open Go.RowKit
set_option linter.unusedVariables false

set_option maxRecDepth 100000 in
set_option maxHeartbeats 8000000 in
theorem walkLossplanChosenIsBest (m x h v s len rp cp : Int) (w : World) (w0 : (Lit.int .i64 m).wf = true ∧ (Lit.int .i64 x).wf = true ∧ (Lit.int .i64 h).wf = true ∧ (Lit.int .i64 v).wf = true ∧ (Lit.int .i64 s).wf = true) (w1 : (Lit.int .i64 len).wf = true) (w2 : (Lit.int .i64 rp).wf = true) (w3 : (Lit.int .i64 cp).wf = true) :
    Calls Try.prog 6 #[loV m x h v s, .int .i64 len, .int .i64 rp, .int .i64 cp] w fun e w' => e = .returned (.bool true) ∧ Below w.heap.size w w' := by
  have hlen := wf64' w1
  have hrp := wf64' w2
  have hcp := wf64' w3
  clear w0 w1 w2 w3
  by_cases h1 : loF m x h v s = (0, 0)
  · by_cases hl : len < 0
    · exact chosen_fail m x h v s len rp cp 4 (-2) w (by decide) (fun w => lpChoose_neg m x h v s len w h1 hl)
    · obtain ⟨⟨hm0, hm1⟩, ⟨hx0, hx1⟩, g3, g4, hs⟩ := loF_ok h1
      obtain ⟨H, rfl⟩ := Int.eq_ofNat_of_zero_le g3.1
      obtain ⟨V, rfl⟩ := Int.eq_ofNat_of_zero_le g4.1
      have HC := Lib.hid (fun w => lpChoose_ok m x s len H V w h1 ⟨by omega, hlen.2⟩)
      have L0 := H5.new w m x H V s 25
      have B0 := below_new w (loC m x H V s)
      obtain ⟨ll, l0, l1, l2, l3, l4⟩ := id L0
      go_enter Try.func6, Try.ntmps6
      go_wp2_with fail
      refine (HC.out _).mono ?_
      rintro e W1 ⟨r, c, d, p, C, I, rfl, hres, hb1⟩
      have hch : Cho w ((W1.alloc (plC r c d p)).alloc (.cells #[.int .i64 C, .int .i64 I] 27)) W1.heap.size m x H V s r c d p := ⟨((L0.below hb1).al _).al _, (H4.new W1 r c d p 23).al _, Bw.al (Bw.al (Bw.step B0 hb1) _) _⟩
      have F1 := Has.new (W1.alloc (plC r c d p)) C I 27
      rw [World.size_alloc] at F1
      clear ll l0 l1 l2 l3 l4
      by_cases hC : C = 0
      · obtain ⟨k, hk, hr, hcc, hp, hI, hpl, hbe, hd, hpay, hall⟩ := hres.good hC hm0 hx0
        subst hC hI
        have HPY := Lib.hid (fun w => lpPayload_ok r c d p w hpl)
        have HBE := Lib.hid (fun w => lpBears_ok r c d p m x s _ _ H V w hpl h1 rfl rfl)
        rw [hbe] at HBE
        rw [← hpay] at HPY
        obtain ⟨hr16, hc12, hd48, hp16⟩ := plF_ok hpl
        have hszb := payK_bd k hk
        have HPAYB := Lib.hid (fun (r' c' : Int) (h1 : 0 ≤ r' ∧ r' ≤ 16) (h2 : 0 ≤ c' ∧ c' ≤ 12) er ec (hb : bearB p m x (r'.tdiv 2) (c'.tdiv 2) H V s = true) => best_pay hall h1 h2 er ec hb)
        have hq1 : 0 ≤ d * ((payK k : Nat) : Int) ∧ d * ((payK k : Nat) : Int) ≤ 48 * 384 := ⟨Int.mul_nonneg (by omega) (by omega), Int.mul_le_mul (by omega) (by omega) (by omega) (by omega)⟩
        have hq2 : 0 ≤ (d - 1) * ((payK k : Nat) : Int) ∧ (d - 1) * ((payK k : Nat) : Int) ≤ 48 * 384 := ⟨Int.mul_nonneg (by omega) (by omega), Int.mul_le_mul (by omega) (by omega) (by omega) (by omega)⟩
        have d1 : decide (d * ((payK k : Nat) : Int) < len) = false := by simp only [decide_eq_false_iff_not]; have := hd.2.1; omega
        have hd2 : 1 < d → decide (len ≤ (d - 1) * ((payK k : Nat) : Int)) = false := fun h => by simp only [decide_eq_false_iff_not]; have := hd.2.2 (d - 1) (by omega) (by omega); omega
        generalize ((payK k : Nat) : Int) = sz at *
        clear hres hall hd hpay hr hcc hbe hpl
        subst hp
        obtain ⟨l1, c10, c11, f10, f11⟩ := id F1
        obtain ⟨lp, ⟨p0, p1, p2, p3⟩, _⟩ := id hch.p
        go_wp2_with fail
        refine (HPY.out _).mono ?_
        rintro e w2 ⟨rfl, hb2⟩
        have K2 := (hch.below hb2).al (.cells #[.int .i64 0, .int .i64 0] 27)
        have G1 := Has.new w2 0 0 27
        clear l1 c10 c11 f10 f11 lp p0 p1 p2 p3
        obtain ⟨lp, ⟨p0, p1, p2, p3⟩, _⟩ := id K2.p
        obtain ⟨ll, l0, l1, l2, l3, l4⟩ := id K2.l
        go_wp2_with fail
        refine (HBE.out _).mono ?_
        rintro e w3 ⟨rfl, hb3⟩
        have K3 := (K2.below hb3).al (.cells #[.int .i64 0, .int .i64 0] 27)
        have G1 := (G1.below hb3).al (.cells #[.int .i64 0, .int .i64 0] 27)
        have G2 := Has.new w3 0 0 27
        clear lp p0 p1 p2 p3 ll l0 l1 l2 l3 l4 HPY HBE
        have HPQ := Lib.hid (fun w => rPlanFault_any rp cp d (m + 2 * x) w)
        have K4 := K3.al (plC rp cp d (m + 2 * x))
        have Q4 := H4.new (w3.alloc (.cells #[.int .i64 0, .int .i64 0] 27)) rp cp d (m + 2 * x) 23
        rw [World.size_alloc] at Q4
        obtain ⟨lg, g10, g11, k10, k11⟩ := id G1
        obtain ⟨lh, g20, g21, k20, k21⟩ := id G2
        obtain ⟨lp, ⟨p0, p1, p2, p3⟩, _⟩ := id K3.p
        obtain ⟨ll, l0, l1, l2, l3, l4⟩ := id K3.l
        have hcase : decide (1 < d) = false ∨ (decide (1 < d) = true ∧ decide (len ≤ (d - 1) * sz) = false) := by
          by_cases h : 1 < d
          · exact .inr ⟨decide_eq_true h, hd2 h⟩
          · exact .inl (decide_eq_false h)
        clear hd2
        rcases hcase with x1 | ⟨x1, x2⟩
        all_goals
          go_wp2_with fail
          refine (HPQ.out _).mono ?_
          rintro e w4 ⟨rfl, hb4⟩
          have K5 := K4.below hb4
          have Q5 := Q4.below hb4
          clear lg g10 g11 k10 k11 lh g20 g21 k20 k21 lp p0 p1 p2 p3 ll l0 l1 l2 l3 l4
          by_cases hq : plF rp cp d (m + 2 * x) = (0, 0)
          · rw [hq]
            obtain ⟨hr2, hc2, _, _⟩ := plF_ok hq
            have HPY := Lib.hid (fun w => lpPayload_ok rp cp d (m + 2 * x) w hq)
            have HBE := Lib.hid (fun w => lpBears_ok rp cp d (m + 2 * x) m x s _ _ H V w hq h1 rfl rfl)
            have hpb := pay_bd hr2 hc2
            have hmr : rp.tmod 2 = rp % 2 := Int.tmod_eq_emod_of_nonneg hr2.1
            have hmc : cp.tmod 2 = cp % 2 := Int.tmod_eq_emod_of_nonneg hc2.1
            by_cases er : rp % 2 = 1
            · have xr : rp.tmod 2 = 1 := by omega
              clear hmr hmc
              go_wp2_with (go_at_call 12; refine (planned_any _).mono ?_; rintro e w' ⟨rfl, hb9⟩)
              go_ret
              exact ⟨rfl, Bw.step K5.bw hb9⟩
            · by_cases ec : cp % 2 = 1
              · have xr : rp.tmod 2 = 0 := by omega
                have xc : cp.tmod 2 = 1 := by omega
                clear hmr hmc
                go_wp2_with (go_at_call 12; refine (planned_any _).mono ?_; rintro e w' ⟨rfl, hb9⟩)
                go_ret
                exact ⟨rfl, Bw.step K5.bw hb9⟩
              · have xr : rp.tmod 2 = 0 := by omega
                have xc : cp.tmod 2 = 0 := by omega
                have HLE := Lib.hid (HPAYB.out rp cp hr2 hc2 (by omega) (by omega))
                generalize bearB (m + 2 * x) m x (rp.tdiv 2) (cp.tdiv 2) H V s = may at *
                generalize (24 - rp) * (16 - cp) = mm at *
                clear hmr hmc hq HPAYB
                obtain ⟨lq, ⟨q0, q1, q2, q3⟩, _⟩ := id Q5
                go_wp2_with fail
                refine (HPY.out _).mono ?_
                rintro e w5 ⟨rfl, hb5⟩
                have K6 := (K5.below hb5).al (.cells #[.int .i64 0, .int .i64 0] 27)
                have Q6 := (Q5.below hb5).al (.cells #[.int .i64 0, .int .i64 0] 27)
                have G5 := Has.new w5 0 0 27
                clear lq q0 q1 q2 q3
                obtain ⟨lq, ⟨q0, q1, q2, q3⟩, _⟩ := id Q6
                obtain ⟨ll, l0, l1, l2, l3, l4⟩ := id K6.l
                go_wp2_with fail
                refine (HBE.out _).mono ?_
                rintro e w6 ⟨rfl, hb6⟩
                have K7 := (K6.below hb6).al (.cells #[.int .i64 0, .int .i64 0] 27)
                have G5 := (G5.below hb6).al (.cells #[.int .i64 0, .int .i64 0] 27)
                have G6 := Has.new w6 0 0 27
                clear lq q0 q1 q2 q3 ll l0 l1 l2 l3 l4
                obtain ⟨lg, g10, g11, k10, k11⟩ := id G5
                obtain ⟨lh, g20, g21, k20, k21⟩ := id G6
                cases may with
                | false =>
                  go_wp2_with (go_at_call 12; refine (planned_any _).mono ?_; rintro e w' ⟨rfl, hb9⟩)
                  go_ret
                  exact ⟨rfl, Bw.step K7.bw hb9⟩
                | true =>
                  have xm : decide (mm ≤ sz) = true := by simp only [decide_eq_true_eq]; exact HLE.out rfl
                  clear HLE
                  go_wp2_with (go_at_call 12; refine (planned_any _).mono ?_; rintro e w' ⟨rfl, hb9⟩)
                  go_ret
                  exact ⟨rfl, Bw.step K7.bw hb9⟩
          · have hcd := (plF_code rp cp d (m + 2 * x)).resolve_left hq
            generalize (plF rp cp d (m + 2 * x)).1 = C at *
            generalize (plF rp cp d (m + 2 * x)).2 = I at *
            have xC : (C == 0) = false := by rw [beq_eq_false_iff_ne]; omega
            have xC2 : (C != 0) = true := by rw [bne_iff_ne]; omega
            clear hq hcd
            go_wp2_with (go_at_call 12; refine (planned_any _).mono ?_; rintro e w' ⟨rfl, hb9⟩)
            go_ret
            exact ⟨rfl, Bw.step K5.bw hb9⟩
      · have xC : (C == 0) = false := by rw [beq_eq_false_iff_ne]; exact hC
        have xC2 : (C != 0) = true := by rw [bne_iff_ne]; exact hC
        obtain ⟨l1, c10, c11, f10, f11⟩ := id F1
        clear hC hres
        go_wp2_with (go_at_call 12; refine (planned_any _).mono ?_; rintro e w' ⟨rfl, hb9⟩)
        go_ret
        exact ⟨rfl, Bw.step hch.bw hb9⟩
  · have hc := (loF_code m x h v s).resolve_left h1
    exact chosen_fail m x h v s len rp cp _ _ w (by omega) (fun w => lpChoose_bad m x h v s len w h1)
end Go.Proofs.Ytnajdmkdkpmdgaa
