/- The walk of the reference's PageBears. -/
import Derived.Test.YtnajdmkdkpmdgaaLpI
namespace Go.Proofs.Ytnajdmkdkpmdgaa
open Go.RowKit
set_option linter.unusedVariables false

set_option maxRecDepth 100000 in
set_option maxHeartbeats 4000000 in
theorem rPageBears_any (r c d p m x S t u : Int) (H W : Nat) (w : World) (ht : r.tdiv 2 = t) (hu : c.tdiv 2 = u) (ht0 : 0 ≤ t ∧ t ≤ 16) (hu0 : 0 ≤ u ∧ u ≤ 16) (hH : H ≤ 16) (hW : W ≤ 24) (hS : 0 ≤ S ∧ S ≤ 384) :
    Calls Try.prog 25 #[plV r c d p, loV m x H W S] w fun e w' => e = .returned (.bool (pageB t u H W S)) ∧ Below w.heap.size w w' := by
  have HPB := Lib.hid (@pageB_iff t u H W S)
  generalize pageB t u H W S = bb at *
  have P0 := (H4.new w r c d p 23).al (.cells #[.int .i64 m, .int .i64 x, .int .i64 H, .int .i64 W, .int .i64 S] 25)
  have L0 := H5.new (w.alloc (.cells #[.int .i64 r, .int .i64 c, .int .i64 d, .int .i64 p] 23)) m x H W S 25
  have B0 : Below w.heap.size w ((w.alloc (.cells #[.int .i64 r, .int .i64 c, .int .i64 d, .int .i64 p] 23)).alloc (.cells #[.int .i64 m, .int .i64 x, .int .i64 H, .int .i64 W, .int .i64 S] 25)) := by (repeat (first | exact Below.refl _ _ | assumption | refine Bw.al ?_ _ | refine Bw.step ?_ (by assumption) | refine Bw.drew ?_))
  simp only [World.size_alloc] at L0
  go_enter Try.func25, Try.ntmps25
  go_wp2
  generalize (w.alloc (.cells #[.int .i64 r, .int .i64 c, .int .i64 d, .int .i64 p] 23)).alloc (.cells #[.int .i64 m, .int .i64 x, .int .i64 H, .int .i64 W, .int .i64 S] 25) = W0 at *
  have HP := Lib.hid P0
  have HL := Lib.hid L0
  clear P0 L0
  go_loopw [5] (fun i wr => ∃ k : Nat, k ≤ 17 - H ∧ i = .int .i64 k ∧ (∀ top, top < k → ∀ left, left < 25 - W → (badC (ilMeets (top : Nat) (left : Nat) H W) t S : Int) ≤ u) ∧ Below W0.heap.size W0 wr) (fun i _ => 17 - H - (intOf i).toNat)
  case atStart => exact ⟨0, Nat.zero_le _, rfl, fun _ h => absurd h (Nat.not_lt_zero _), Below.refl _ _⟩
  case round =>
    obtain ⟨k, hk, rfl, hall, hbw⟩ := hrel
    have HA := Lib.hid hall
    clear hall
    have L1 := HL.out.below hbw
    obtain ⟨ll, l0, l1, l2, l3, l4⟩ := id L1
    by_cases hlt : k < 17 - H
    · have dq1 : decide ((k : Int) + (H : Int) ≤ 16) = true := by simp only [decide_eq_true_eq]; omega
      go_wp2
      obtain ⟨wo, rfl⟩ : ∃ wo : World, wo = wr := ⟨_, rfl⟩
      go_loopw [6] (fun i wr => ∃ j : Nat, j ≤ 25 - W ∧ i = .int .i64 j ∧ (∀ left, left < j → (badC (ilMeets (k : Nat) (left : Nat) H W) t S : Int) ≤ u) ∧ Below W0.heap.size W0 wr) (fun i _ => 25 - W - (intOf i).toNat)
      case atStart => exact ⟨0, Nat.zero_le _, rfl, fun _ h => absurd h (Nat.not_lt_zero _), hbw⟩
      case round =>
        obtain ⟨j, hj, rfl, hin, hb2⟩ := hrel
        have HN := Lib.hid hin
        clear hin ll l0 l1 l2 l3 l4 L1
        have L1 := HL.out.below hb2
        obtain ⟨ll, l0, l1, l2, l3, l4⟩ := id L1
        by_cases hlj : j < 25 - W
        · have HFIN : Hid ((badC (ilMeets (k : Nat) (j : Nat) H W) t S : Int) ≤ u → ∀ left, left < j + 1 → (badC (ilMeets (k : Nat) (left : Nat) H W) t S : Int) ≤ u) := Lib.hid fun h left hl => by
            by_cases e : left = j
            · subst e; exact h
            · exact HN.out left (by omega)
          have HBAD : Hid (¬ ((badC (ilMeets (k : Nat) (j : Nat) H W) t S : Int) ≤ u) → bb = false) := Lib.hid fun h => by
            cases hb : bb with
            | false => rfl
            | true => exact absurd (HPB.out.1 hb k hlt j hlj) h
          have dq2 : decide ((j : Int) + (W : Int) ≤ 24) = true := by simp only [decide_eq_true_eq]; omega
          have HRG := Lib.hid (ilMeets_range k j H W hW)
          have hmk : ∀ w : World, (Instr.makeSlice 53 (.int .i64 16) (.int .i64 16)).run Try.prog w = .ok (.slice (some ⟨w.heap.size, 0, none⟩) 16 16) (w.alloc (.cells (zerosI 16) 3)) := run_makeI 16 (by omega)
          have HO0 := Lib.hid (OwI.new wr W0.heap.size 16 hb2.size (by decide))
          rw [← ilMid_zero (k : Int) (j : Int) W] at HO0
          have hb3 : Below W0.heap.size W0 (wr.alloc (.cells (zerosI 16) 3)) := Bw.al hb2 _
          clear HN
          go_wp2
          generalize wr.alloc (.cells (zerosI 16) 3) = WA at *
          generalize wr.heap.size = g at *
          clear hmk
          go_loopw [8] (fun i wr' => ∃ rr : Nat, rr ≤ H ∧ i = .int .i64 ((k + rr : Nat) : Int) ∧ OwI wr' W0.heap.size (.slice (some ⟨g, 0, none⟩) 16 16) (ilMid (k : Int) (j : Int) (rr : Int) W 0) ∧ Below W0.heap.size W0 wr') (fun i _ => k + H - (intOf i).toNat)
          case atStart => exact ⟨0, Nat.zero_le _, rfl, HO0.out, hb3⟩
          case round =>
            obtain ⟨rr, hrr, rfl, ho, hb4⟩ := hrel
            clear ll l0 l1 l2 l3 l4 L1
            have L1 := HL.out.below hb4
            obtain ⟨ll, l0, l1, l2, l3, l4⟩ := id L1
            by_cases hlr : rr < H
            · have HO := Lib.hid ho
              clear ho
              have HKR : Hid ((k + (rr + 1) : Nat) = (k + rr) + 1) := Lib.hid rfl
              have HRI : Hid ((k : Int) + (rr : Int) = ((k + rr : Nat) : Int)) := Lib.hid (by omega)
              have hkr : k + rr < 16 := by omega
              have dq3 : decide (((k + rr : Nat) : Int) < (k : Int) + (H : Int)) = true := by simp only [decide_eq_true_eq]; omega
              generalize hLN : k + rr = ln at *
              go_wp2
              go_loopw [9] (fun i wr' => ∃ cc : Nat, cc ≤ W ∧ i = .int .i64 ((j + cc : Nat) : Int) ∧ OwI wr' W0.heap.size (.slice (some ⟨g, 0, none⟩) 16 16) (ilMid (k : Int) (j : Int) (rr : Int) W cc) ∧ Below W0.heap.size W0 wr') (fun i _ => j + W - (intOf i).toNat)
              case atStart => exact ⟨0, Nat.zero_le _, rfl, HO.out, hb4⟩
              case round =>
                obtain ⟨cc, hcc, rfl, ho, hb5⟩ := hrel
                clear ll l0 l1 l2 l3 l4 L1
                have L1 := HL.out.below hb5
                obtain ⟨ll, l0, l1, l2, l3, l4⟩ := id L1
                by_cases hlc : cc < W
                · obtain ⟨i, hi⟩ : ∃ i : Nat, i = (ln + 5 * (j + cc)) % 16 := ⟨_, rfl⟩
                  have hi16 : i < 16 := by omega
                  have hst := ho.set i ((ilMid (k : Int) (j : Int) (rr : Int) W cc).getD i 0 + 1)
                  rw [ilMid_step (k : Int) (j : Int) (rr : Int) W cc (by omega) (by omega) (by omega) i (by omega)] at hst
                  have hcl := ho.cellAt hi16
                  have hfz := ho.frozenAt i
                  have hg := ho.lt
                  rw [ilMid_get _ _ _ _ _ hi16] at hcl hst
                  have b1 := ilCnt_bd (k : Int) ((k : Int) + rr) i (j : Int) W
                  have b2 := ilCnt_bd ((k : Int) + rr) ((k : Int) + rr + 1) i (j : Int) cc
                  generalize ilCnt (k : Int) ((k : Int) + rr) i (j : Int) W = x1 at *
                  generalize ilCnt ((k : Int) + rr) ((k : Int) + rr + 1) i (j : Int) cc = x2 at *
                  have HST := Lib.hid hst
                  have dq4 : decide (((j + cc : Nat) : Int) < (j : Int) + (W : Int)) = true := by simp only [decide_eq_true_eq]; omega
                  have htm : ((ln : Int) + 5 * ((j + cc : Nat) : Int)).tmod 16 = (i : Int) := by
                    rw [Int.tmod_eq_emod_of_nonneg (by omega)]; omega
                  have hbd5 : j + cc < 64 := by omega
                  have hjc : j + cc < j + W := by omega
                  have HB6 := Lib.hid (hb5.setCell (p := ⟨g, i, none⟩) hg.1 (.int .i64 (x1 + x2 + 1)))
                  have HJC : Hid ((j + (cc + 1) : Nat) = (j + cc) + 1) := Lib.hid rfl
                  clear hst ho hi
                  generalize j + cc = jc at *
                  go_wp2
                  go_roundw
                  case rel => first | exact ⟨cc + 1, by omega, by (rw [HJC.out]; go_num), HST.out, HB6.out⟩ | ((repeat apply Exists.intro); exact ⟨⟨cc + 1, by omega, by (rw [HJC.out]; go_num), HST.out, HB6.out⟩, rfl⟩)
                  case measure => simp [intOf]; omega
                · obtain rfl : cc = W := by omega
                  rw [ilMid_row _ _ _ _ (by omega)] at ho
                  have dq4 : decide (((j + cc : Nat) : Int) < (j : Int) + (cc : Int)) = false := by simp only [decide_eq_false_iff_not]; omega
                  have HO2 := Lib.hid (show OwI _ W0.heap.size (.slice (some ⟨g, 0, none⟩) 16 16) (ilMid (k : Int) (j : Int) ((rr + 1 : Nat) : Int) cc 0) from by simpa using ho)
                  clear ho
                  go_wp2
                  go_roundw
                  case rel => first | exact ⟨rr + 1, by omega, by (rw [HKR.out]; go_num), HO2.out, hb5⟩ | ((repeat apply Exists.intro); exact ⟨⟨rr + 1, by omega, by (rw [HKR.out]; go_num), HO2.out, hb5⟩, rfl⟩)
                  case measure => simp [intOf]; omega
            · obtain rfl : rr = H := by omega
              rw [ilMid_end] at ho
              have P1 := HP.out.below hb4
              have HR2 := Lib.hid ho.rd.1
              have dq3 : decide (((k + rr : Nat) : Int) < (k : Int) + (rr : Int)) = false := by simp only [decide_eq_false_iff_not]; omega
              have HBW := Lib.hid hb4
              clear ho
              go_wp2
              clear ll l0 l1 l2 l3 l4
              generalize ilMeets (k : Nat) (j : Nat) rr W = h at *
              generalize hBC : badC h t S = bc at *
              have HBC := Lib.hid hBC
              clear hBC
              have hx1 := fun x => (P1.below (Ext.below x)).2.1.1
              have hx2 := fun x => (P1.below (Ext.below x)).2.1.2.1
              have hx3 := fun x => (L1.below (Ext.below x)).2.2.2.2.2
              have HBR := Lib.hid (fun x => rBeyond_any (some ⟨g, 0, none⟩) 16 16 h t S (Ext.w x) (HR2.out.below (Ext.below x)) (by decide) HRG.out (by omega) (by omega))
              rw [HBC.out] at HBR
              (refine wp_region_ext (by kernel_rfl) (by kernel_rfl) ?_; (repeat (go_big_quiet_step ((go_at_call 32; exact ext_call (HBR.out _))))); refine wpQuiet_nil ?_; intro W5 hw'; have hW5 := ext_below hw'; clear hw')
              clear hx1 hx2 hx3 HBR
              by_cases hle : (bc : Int) ≤ u
              · have d3 : decide (u < (bc : Int)) = false := by simp only [decide_eq_false_iff_not]; omega
                have HF := Lib.hid (HFIN.out hle)
                clear HFIN HBAD
                go_wp2
                go_roundw
                case rel => first | exact ⟨j + 1, by omega, by go_num, HF.out, HBW.out.trans (hW5.mono HBW.out.size)⟩ | ((repeat apply Exists.intro); exact ⟨⟨j + 1, by omega, by go_num, HF.out, HBW.out.trans (hW5.mono HBW.out.size)⟩, rfl⟩)
                case measure => simp [intOf]; omega
              · have d3 : decide (u < (bc : Int)) = true := by simp only [decide_eq_true_eq]; omega
                have HF := Lib.hid (HBAD.out (by omega))
                clear HFIN HBAD
                go_wp2
                go_ret
                exact ⟨by rw [HF.out]; rfl, Bw.step B0 (HBW.out.trans (hW5.mono HBW.out.size))⟩
        · obtain rfl : j = 25 - W := by omega
          have HN2 : Hid (∀ top, top < k + 1 → ∀ left, left < 25 - W → (badC (ilMeets (top : Nat) (left : Nat) H W) t S : Int) ≤ u) := Lib.hid fun top h => by
            by_cases e : top = k
            · subst e; exact HN.out
            · exact HA.out top (by omega)
          have dq2 : decide (((25 - W : Nat) : Int) + (W : Int) ≤ 24) = false := by simp only [decide_eq_false_iff_not]; omega
          clear HN
          go_wp2
          go_roundw
          case rel => first | exact ⟨k + 1, by omega, by go_num, HN2.out, hb2⟩ | ((repeat apply Exists.intro); exact ⟨⟨k + 1, by omega, by go_num, HN2.out, hb2⟩, rfl⟩)
          case measure => simp [intOf]; omega
    · obtain rfl : k = 17 - H := by omega
      have HT := Lib.hid (HPB.out.2 HA.out)
      have dq1 : decide (((17 - H : Nat) : Int) + (H : Int) ≤ 16) = false := by simp only [decide_eq_false_iff_not]; omega
      clear HA HPB
      go_wp2
      go_ret
      exact ⟨by rw [HT.out]; rfl, Bw.step B0 hbw⟩
end Go.Proofs.Ytnajdmkdkpmdgaa
