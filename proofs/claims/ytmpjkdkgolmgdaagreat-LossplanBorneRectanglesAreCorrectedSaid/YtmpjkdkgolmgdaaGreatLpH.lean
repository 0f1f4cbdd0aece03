/- The walk of lossplan.bears. -/
import Derived.Test.YtmpjkdkgolmgdaaGreatLpG
import Derived.Test.YtmpjkdkgolmgdaaGreatMa
namespace Go.Proofs.YtmpjkdkgolmgdaaGreat
open Go.RowKit
set_option linter.unusedVariables false

theorem ilMeets_range (top left : Nat) (H W : Nat) (hW : W ≤ 24) : ∀ i, i < 16 → 0 ≤ (ilMeets top left H W).getD i 0 ∧ (ilMeets top left H W).getD i 0 ≤ 1000 := by
  intro i hi
  rw [ilMeets_get _ _ _ _ hi]
  have := ilCnt_bd top (top + H) i left W
  unfold ilM
  omega
set_option maxRecDepth 100000 in
set_option maxHeartbeats 4000000 in
theorem bears_any (r c d p m x S t u : Int) (H W : Nat) (w : World) (ht : r.tdiv 2 = t) (hu : c.tdiv 2 = u) (ht0 : 0 ≤ t ∧ t ≤ 16) (hu0 : 0 ≤ u ∧ u ≤ 16) (hH : H ≤ 16) (hW : W ≤ 24) (hS : 0 ≤ S ∧ S ≤ 384) :
    Calls Tryz.prog 18 #[plV r c d p, loV m x H W S] w fun e w' => e = .returned (.bool (pageB t u H W S)) ∧ Below w.heap.size w w' := by
  have HPB := Lib.hid (@pageB_iff t u H W S)
  generalize pageB t u H W S = bb at *
  have P0 := (H4.new w r c d p 23).al (.cells #[.int .i64 m, .int .i64 x, .int .i64 H, .int .i64 W, .int .i64 S] 31)
  have L0 := H5.new (w.alloc (.cells #[.int .i64 r, .int .i64 c, .int .i64 d, .int .i64 p] 23)) m x H W S 31
  have B0 : Below w.heap.size w ((w.alloc (.cells #[.int .i64 r, .int .i64 c, .int .i64 d, .int .i64 p] 23)).alloc (.cells #[.int .i64 m, .int .i64 x, .int .i64 H, .int .i64 W, .int .i64 S] 31)) := by (repeat (first | exact Below.refl _ _ | assumption | refine Bw.al ?_ _ | refine Bw.step ?_ (by assumption) | refine Bw.drew ?_))
  simp only [World.size_alloc] at L0
  go_enter Tryz.func18, Tryz.ntmps18
  go_wp2
  generalize (w.alloc (.cells #[.int .i64 r, .int .i64 c, .int .i64 d, .int .i64 p] 23)).alloc (.cells #[.int .i64 m, .int .i64 x, .int .i64 H, .int .i64 W, .int .i64 S] 31) = W0 at *
  have HP := Lib.hid P0
  have HL := Lib.hid L0
  clear P0 L0
  go_loopw [13] (fun i wr => ∃ k : Nat, k ≤ 17 - H ∧ i = .int .i64 k ∧ (∀ top, top < k → ∀ left, left < 25 - W → (badC (ilMeets (top : Nat) (left : Nat) H W) t S : Int) ≤ u) ∧ Below W0.heap.size W0 wr) (fun i _ => 17 - H - (intOf i).toNat)
  case atStart => exact ⟨0, Nat.zero_le _, rfl, fun _ h => absurd h (Nat.not_lt_zero _), Below.refl _ _⟩
  case round =>
    obtain ⟨k, hk, rfl, hall, hbw⟩ := hrel
    have HA := Lib.hid hall
    clear hall
    by_cases hlt : k < 17 - H
    · have L1 := HL.out.below hbw
      obtain ⟨ll, l0, l1, l2, l3, l4⟩ := id L1
      have dq1 : decide ((k : Int) < 16 - (H : Int) + 1) = true := by simp only [decide_eq_true_eq]; omega
      go_wp2
      obtain ⟨wo, rfl⟩ : ∃ wo : World, wo = wr := ⟨_, rfl⟩
      go_loopw [20] (fun i wr => ∃ j : Nat, j ≤ 25 - W ∧ i = .int .i64 j ∧ (∀ left, left < j → (badC (ilMeets (k : Nat) (left : Nat) H W) t S : Int) ≤ u) ∧ Below W0.heap.size W0 wr) (fun i _ => 25 - W - (intOf i).toNat)
      case atStart => exact ⟨0, Nat.zero_le _, rfl, fun _ h => absurd h (Nat.not_lt_zero _), hbw⟩
      case round =>
        obtain ⟨j, hj, rfl, hin, hb2⟩ := hrel
        have HN := Lib.hid hin
        clear hin ll l0 l1 l2 l3 l4 L1
        by_cases hlj : j < 25 - W
        · have L1 := HL.out.below hb2
          have P1 := HP.out.below hb2
          have HFIN : Hid ((badC (ilMeets (k : Nat) (j : Nat) H W) t S : Int) ≤ u → ∀ left, left < j + 1 → (badC (ilMeets (k : Nat) (left : Nat) H W) t S : Int) ≤ u) := Lib.hid fun h left hl => by
            by_cases e : left = j
            · subst e; exact h
            · exact HN.out left (by omega)
          have HBAD : Hid (¬ ((badC (ilMeets (k : Nat) (j : Nat) H W) t S : Int) ≤ u) → bb = false) := Lib.hid fun h => by
            cases hb : bb with
            | false => rfl
            | true => exact absurd (HPB.out.1 hb k hlt j hlj) h
          obtain ⟨ll, l0, l1, l2, l3, l4⟩ := id L1
          have dq2 : decide ((j : Int) < 24 - (W : Int) + 1) = true := by simp only [decide_eq_true_eq]; omega
          have HRG := Lib.hid (ilMeets_range k j H W hW)
          by_cases hin : k < 16 ∧ j < 24
          · have HM := Lib.hid (fun w => ilMeets_ok (k : Int) (j : Int) H W w (by omega) (by omega) (by omega) (by omega))
            generalize ilMeets (k : Nat) (j : Nat) H W = h at *
            clear hin
            go_wp2_with fail
            refine (HM.out _).mono ?_
            rintro e w1 ⟨g, rfl, ho1, hb3⟩
            have HR2 := Lib.hid (ho1.rd.1.below (below_new w1 (.cells #[.int .i64 0, .int .i64 0] 27)))
            have P2 := (P1.below hb3).al (.cells #[.int .i64 0, .int .i64 0] 27)
            have L2 := (L1.below hb3).al (.cells #[.int .i64 0, .int .i64 0] 27)
            obtain ⟨lf, f0, f1, g0, g1⟩ := Has.new w1 0 0 27
            have HBW : Hid (Below W0.heap.size W0 (w1.alloc (.cells #[.int .i64 0, .int .i64 0] 27))) := Lib.hid (Bw.al (Bw.step hb2 hb3) _)
            clear ho1 ll l0 l1 l2 l3 l4
            go_wp2
            clear lf f0 f1 g0 g1
            generalize w1.alloc (.cells #[.int .i64 0, .int .i64 0] 27) = WW at *
            generalize hBC : badC h t S = bc at *
            have HBC := Lib.hid hBC
            clear hBC
            have hx1 := fun (x : Ext WW) => (P2.below x.below).2.1.1
            have hx2 := fun (x : Ext WW) => (P2.below x.below).2.1.2.1
            have hx3 := fun (x : Ext WW) => (L2.below x.below).2.2.2.2.2
            have HBR := Lib.hid (fun (x : Ext WW) => badRows_any (some ⟨g, 0, none⟩) 16 16 h t S x.w (HR2.out.below x.below) (by decide) (by decide) HRG.out (by omega) (by omega))
            rw [HBC.out] at HBR
            (refine wp_region_ext (by kernel_rfl) (by kernel_rfl) ?_; (repeat (go_big_quiet_step ((go_at_call 43; exact ext_call (HBR.out _))))); refine wpQuiet_nil ?_; intro W5 hw'; have hW5 := ext_below hw'; clear hw')
            clear hx1 hx2 hx3 HBR
            by_cases hle : (bc : Int) ≤ u
            · have d3 : decide (u < (bc : Int)) = false := by simp only [decide_eq_false_iff_not]; omega
              have HF := Lib.hid (HFIN.out hle)
              clear HFIN HBAD
              go_wp2
              go_roundw
              case rel => first | exact ⟨j + 1, by omega, by go_num, HF.out, HBW.out.trans (hW5.mono HBW.out.size)⟩ | ((repeat apply Exists.intro); exact ⟨⟨j + 1, by omega, by go_num, HF.out, HBW.out.trans (hW5.mono HBW.out.size)⟩, rfl⟩)
              case measure => simp [intOf]; omega
            · have d3 : decide (u < (bc : Int)) = true := by simp only [decide_eq_true_eq]; omega
              have HF := Lib.hid (HBAD.out (by omega))
              clear HFIN HBAD
              go_wp2
              go_ret
              exact ⟨by rw [HF.out]; rfl, Bw.step B0 (HBW.out.trans (hW5.mono HBW.out.size))⟩
          · have HZ : Hid (ilMeets (k : Nat) (j : Nat) H W = List.replicate 16 0) := Lib.hid (by
              by_cases h1 : k < 16
              · have h2 : W = 0 := by omega
                rw [h2]; exact ilMeets_w0 _ _ _
              · have h2 : H = 0 := by omega
                rw [h2]; exact ilMeets_h0 _ _ _)
            have HM := Lib.hid (fun w => ilMeets_bad (k : Int) (j : Int) H W w (by omega))
            generalize mfI (k : Int) (j : Int) H W = mi at *
            rw [HZ.out] at HRG HFIN HBAD
            clear hin HZ
            go_wp2_with fail
            refine (HM.out _).mono ?_
            rintro e w1 ⟨rfl, hb3⟩
            have HO := Lib.hid (OwI.new (w1.alloc (.cells #[.int .i64 4, .int .i64 mi] 27)) (w1.alloc (.cells #[.int .i64 4, .int .i64 mi] 27)).heap.size 16 (Nat.le_refl _) (by decide))
            have HR2 := Lib.hid HO.out.rd.1
            have P2 := ((P1.below hb3).al (.cells #[.int .i64 4, .int .i64 mi] 27)).al (.cells (zerosI 16) 3)
            have L2 := ((L1.below hb3).al (.cells #[.int .i64 4, .int .i64 mi] 27)).al (.cells (zerosI 16) 3)
            obtain ⟨lf, f0, f1, g0, g1⟩ := Has.new w1 4 mi 27
            have hmk := run_makeI 16 (by omega)
            simp only [Int.cast_ofNat_Int] at hmk
            have HBW : Hid (Below W0.heap.size W0 ((w1.alloc (.cells #[.int .i64 4, .int .i64 mi] 27)).alloc (.cells (zerosI 16) 3))) := Lib.hid (Bw.al (Bw.al (Bw.step hb2 hb3) _) _)
            have hgz : (w1.alloc (.cells #[.int .i64 4, .int .i64 mi] 27)).heap.size = w1.heap.size + 1 := by simp
            rw [hgz] at HR2
            clear ll l0 l1 l2 l3 l4 HO hgz
            go_wp2
            clear lf f0 f1 g0 g1 hmk
            generalize (w1.alloc (.cells #[.int .i64 4, .int .i64 mi] 27)).alloc (.cells (zerosI 16) 3) = WW at *
            generalize hg : w1.heap.size + 1 = g at *
            clear hg
            generalize List.replicate 16 (0 : Int) = h at *
            generalize hBC : badC h t S = bc at *
            have HBC := Lib.hid hBC
            clear hBC
            have hx1 := fun (x : Ext WW) => (P2.below x.below).2.1.1
            have hx2 := fun (x : Ext WW) => (P2.below x.below).2.1.2.1
            have hx3 := fun (x : Ext WW) => (L2.below x.below).2.2.2.2.2
            have HBR := Lib.hid (fun (x : Ext WW) => badRows_any (some ⟨g, 0, none⟩) 16 16 h t S x.w (HR2.out.below x.below) (by decide) (by decide) HRG.out (by omega) (by omega))
            rw [HBC.out] at HBR
            (refine wp_region_ext (by kernel_rfl) (by kernel_rfl) ?_; (repeat (go_big_quiet_step ((go_at_call 43; exact ext_call (HBR.out _))))); refine wpQuiet_nil ?_; intro W5 hw'; have hW5 := ext_below hw'; clear hw')
            clear hx1 hx2 hx3 HBR
            by_cases hle : (bc : Int) ≤ u
            · have d3 : decide (u < (bc : Int)) = false := by simp only [decide_eq_false_iff_not]; omega
              have HF := Lib.hid (HFIN.out hle)
              clear HFIN HBAD
              go_wp2
              go_roundw
              case rel => first | exact ⟨j + 1, by omega, by go_num, HF.out, HBW.out.trans (hW5.mono HBW.out.size)⟩ | ((repeat apply Exists.intro); exact ⟨⟨j + 1, by omega, by go_num, HF.out, HBW.out.trans (hW5.mono HBW.out.size)⟩, rfl⟩)
              case measure => simp [intOf]; omega
            · have d3 : decide (u < (bc : Int)) = true := by simp only [decide_eq_true_eq]; omega
              have HF := Lib.hid (HBAD.out (by omega))
              clear HFIN HBAD
              go_wp2
              go_ret
              exact ⟨by rw [HF.out]; rfl, Bw.step B0 (HBW.out.trans (hW5.mono HBW.out.size))⟩
        · obtain rfl : j = 25 - W := by omega
          have HN2 : Hid (∀ top, top < k + 1 → ∀ left, left < 25 - W → (badC (ilMeets (top : Nat) (left : Nat) H W) t S : Int) ≤ u) := Lib.hid fun top h => by
            by_cases e : top = k
            · subst e; exact HN.out
            · exact HA.out top (by omega)
          have dq2 : decide (((25 - W : Nat) : Int) < 24 - (W : Int) + 1) = false := by simp only [decide_eq_false_iff_not]; omega
          clear HN
          go_wp2
          go_roundw
          case rel => first | exact ⟨k + 1, by omega, by go_num, HN2.out, hb2⟩ | ((repeat apply Exists.intro); exact ⟨⟨k + 1, by omega, by go_num, HN2.out, hb2⟩, rfl⟩)
          case measure => simp [intOf]; omega
    · obtain rfl : k = 17 - H := by omega
      have HT := Lib.hid (HPB.out.2 HA.out)
      have dq1 : decide (((17 - H : Nat) : Int) < 16 - (H : Int) + 1) = false := by simp only [decide_eq_false_iff_not]; omega
      clear HA HPB
      go_wp2
      go_ret
      exact ⟨by rw [HT.out]; rfl, Bw.step B0 hbw⟩
end Go.Proofs.YtmpjkdkgolmgdaaGreat
