/- Product codes: the walk of the reference's Wrong. -/
import Derived.Test.YtmpjkdkgolmgdaaPdP
namespace Go.Proofs.Ytmpjkdkgolmgdaa
open Go.RowKit
set_option linter.unusedVariables false

theorem sumN_le (b x : List GF) (es : List Nat) (C r k : Nat) : sumN b x es C r k ≤ 2 * k := by
  induction k with
  | zero => exact Nat.le_refl _
  | succ k ih => unfold sumN; split <;> first | omega | (split <;> omega)
theorem sumN_has {b x : List GF} {es : List Nat} {C r k : Nat} (h : r * C + k ∈ es) : sumN b x es C r (k + 1) = sumN b x es C r k + 1 := by rw [sumN, if_pos h]
theorem sumN_diff {b x : List GF} {es : List Nat} {C r k : Nat} (h : r * C + k ∉ es) (h2 : b.getD (r * C + k) 0 ≠ x.getD (r * C + k) 0) : sumN b x es C r (k + 1) = sumN b x es C r k + 2 := by rw [sumN, if_neg h, if_pos h2]
theorem sumN_same {b x : List GF} {es : List Nat} {C r k : Nat} (h : r * C + k ∉ es) (h2 : b.getD (r * C + k) 0 = x.getD (r * C + k) 0) : sumN b x es C r (k + 1) = sumN b x es C r k := by rw [sumN, if_neg h, if_neg (fun e => e h2), Nat.add_zero]
theorem wrongN_le (b x : List GF) (es : List Nat) (C p R : Nat) : wrongN b x es C p R ≤ R := by
  induction R with
  | zero => exact Nat.le_refl _
  | succ k ih => unfold wrongN; split <;> omega
theorem wrongN_yes {b x : List GF} {es : List Nat} {C p r : Nat} (h : p < sumN b x es C r C) : wrongN b x es C p (r + 1) = wrongN b x es C p r + 1 := by rw [wrongN, if_pos h]
theorem wrongN_no {b x : List GF} {es : List Nat} {C p r : Nat} (h : ¬ p < sumN b x es C r C) : wrongN b x es C p (r + 1) = wrongN b x es C p r := by rw [wrongN, if_neg h, Nat.add_zero]
set_option maxRecDepth 100000 in
set_option maxHeartbeats 4000000 in
theorem rWrong_any (A B I : Option Addr) (n ca cb me ci R C p q : Nat) (b x : List GF) (es : List Nat) (w : World) (hb : RdB w A n b) (hx : RdB w B n x) (hi : RdI w I me (toI es)) (hn : n = R * C) (h2 : R ≤ 32) (h4 : C ≤ 32) (h5 : p < C) (he : me ≤ 9223372036854775807) :
    Calls Try.prog 28 #[.slice A n ca, .slice B n cb, shpV R C p q, .slice I me ci] w fun e w' => e = .returned (.int .i64 ((wrongN b x es C p R : Nat) : Int)) ∧ Below w.heap.size w w' := by
  have hN : R * C ≤ 1024 := by have := (mul32 h2 h4).2; rw [← Int.natCast_mul] at this; omega
  have HA := Lib.hid hb
  have HB := Lib.hid hx
  have HI := Lib.hid hi
  have HN := Lib.hid hn
  have S0 := S4.new w R C p q
  have B0 := below_new w (shpC R C p q)
  clear hb hx hi hn
  go_enter Try.func28, Try.ntmps28
  go_wp2
  generalize w.alloc (shpC R C p q) = W0 at *
  go_loopw [9, 10] (fun d i wr => ∃ r : Nat, r ≤ R ∧ i = .int .i64 r ∧ d = .int .i64 (wrongN b x es C p r : Nat) ∧ S4 wr w.heap.size R C p q ∧ Below w.heap.size w wr) (fun _ i _ => R - (intOf i).toNat)
  case atStart => exact ⟨0, Nat.zero_le _, rfl, by unfold wrongN; rfl, S0, B0⟩
  case round =>
    obtain ⟨r, hr, rfl, rfl, hs, hbw⟩ := hrel
    clear S0 B0
    have hwl := wrongN_le b x es C p r
    by_cases hlr : r < R
    · have HS := Lib.hid hs
      have HBW := Lib.hid hbw
      have HWY := Lib.hid (fun h => wrongN_yes (b := b) (x := x) (es := es) (C := C) (p := p) (r := r) h)
      have HWN := Lib.hid (fun h => wrongN_no (b := b) (x := x) (es := es) (C := C) (p := p) (r := r) h)
      obtain ⟨ls, s0, s1, s2, s3⟩ := id hs
      generalize wrongN b x es C p r = wn at *
      clear hs hbw
      go_wp2
      clear ls s0 s1 s2 s3
      go_loopw [11, 12] (fun d i wr => ∃ c : Nat, c ≤ C ∧ i = .int .i64 c ∧ d = .int .i64 (sumN b x es C r c : Nat) ∧ S4 wr w.heap.size R C p q ∧ Below w.heap.size w wr) (fun _ i _ => C - (intOf i).toNat)
      case atStart => exact ⟨0, Nat.zero_le _, rfl, by unfold sumN; rfl, HS.out, HBW.out⟩
      case round =>
        obtain ⟨c, hc, rfl, rfl, hs, hbw⟩ := hrel
        clear HS HBW
        have hsl := sumN_le b x es C r c
        obtain ⟨ls, s0, s1, s2, s3⟩ := id hs
        by_cases hlc : c < C
        · have HS := Lib.hid hs
          have HBW := Lib.hid hbw
          have hpl := place_lt hlr hlc
          obtain ⟨pb, pe⟩ := place_int (R := R) (C := C) h2 h4 hlr hlc
          have hix : r * C + c < n := by rw [HN.out]; exact hpl
          have pe2 : (r : Int) * (C : Int) + (c : Int) = ((r * C + c : Nat) : Int) := pe.symm
          have pe3 : IntKind.i64.wrap ((r : Int) * (C : Int) + (c : Int)) = ((r * C + c : Nat) : Int) := by rw [IntWalk.i64_in _ (by omega)]; exact pe2
          obtain ⟨b3, o3, rfl, hl3, hc3⟩ := rd_cell (HA.out.below hbw) (i := r * C + c) hix
          obtain ⟨b4, o4, rfl, hl4, hc4⟩ := rd_cell (HB.out.below hbw) (i := r * C + c) hix
          have HI2 := Lib.hid (HI.out.below hbw)
          have HH := Lib.hid (fun w (h : RdI w I me (toI es)) => rHas_any I me ci (toI es) ((r * C + c : Nat) : Int) w h (by omega))
          have HSH := Lib.hid (fun h => sumN_has (b := b) (x := x) (es := es) (C := C) (r := r) (k := c) h)
          have HSD := Lib.hid (fun h h' => sumN_diff (b := b) (x := x) (es := es) (C := C) (r := r) (k := c) h h')
          have HSS := Lib.hid (fun h h' => sumN_same (b := b) (x := x) (es := es) (C := C) (r := r) (k := c) h h')
          generalize sumN b x es C r c = sn at *
          clear hs hbw pe
          by_cases hm : r * C + c ∈ es
          · rw [hasI_yes hm] at HH
            have HD := Lib.hid (HSH.out hm)
            generalize r * C + c = ix at *
            clear hm HSH HSD HSS hc3 hc4
            go_wp2_with (go_at_call 53; refine (HH.out _ HI2.out).mono ?_; rintro e w2 ⟨rfl, rfl⟩)
            go_roundw
            case rel => first | exact ⟨c + 1, by omega, by go_num, by (rw [HD.out]; go_num), HS.out, HBW.out⟩ | ((repeat apply Exists.intro); exact ⟨⟨c + 1, by omega, by go_num, by (rw [HD.out]; go_num), HS.out, HBW.out⟩, rfl⟩)
            case measure => simp [intOf]; omega
          · rw [hasI_no hm] at HH
            have hx3 := fun x => cell_ext hl3 hc3 x
            have hx4 := fun x => cell_ext hl4 hc4 x
            by_cases hq : b.getD (r * C + c) 0 = x.getD (r * C + c) 0
            · have z0 := z_eq hq
              have z1 : (((b.getD (r * C + c) 0).z) != ((x.getD (r * C + c) 0).z)) = false := by unfold bne; rw [z0]; rfl
              have HD := Lib.hid (HSS.out hm hq)
              generalize r * C + c = ix at *
              clear hm HSH HSD HSS hq
              unfold cf at *
              generalize b.getD ix 0 = y at *
              generalize x.getD ix 0 = z at *
              go_wp2_with (go_at_call 53; refine (HH.out _ HI2.out).mono ?_; rintro e w2 ⟨rfl, rfl⟩)
              (refine wp_region_ext (by kernel_rfl) (by kernel_rfl) ?_; (repeat (go_big_quiet_step ((fail)))); refine wpQuiet_nil ?_; intro W5 hw'; have hW5 := ext_below hw'; clear hw')
              have HS5 := Lib.hid (HS.out.below hW5)
              have HB5 := Lib.hid (Bw.step HBW.out hW5)
              clear HS HBW hW5 hc3 hc4 hx3 hx4
              go_wp2
              go_roundw
              case rel => first | exact ⟨c + 1, by omega, by go_num, by (rw [HD.out]), HS5.out, HB5.out⟩ | ((repeat apply Exists.intro); exact ⟨⟨c + 1, by omega, by go_num, by (rw [HD.out]), HS5.out, HB5.out⟩, rfl⟩)
              case measure => simp [intOf]; omega
            · have z0 := z_ne hq
              have z1 : (((b.getD (r * C + c) 0).z) != ((x.getD (r * C + c) 0).z)) = true := by unfold bne; rw [z0]; rfl
              have HD := Lib.hid (HSD.out hm hq)
              generalize r * C + c = ix at *
              clear hm HSH HSD HSS hq
              unfold cf at *
              generalize b.getD ix 0 = y at *
              generalize x.getD ix 0 = z at *
              go_wp2_with (go_at_call 53; refine (HH.out _ HI2.out).mono ?_; rintro e w2 ⟨rfl, rfl⟩)
              (refine wp_region_ext (by kernel_rfl) (by kernel_rfl) ?_; (repeat (go_big_quiet_step ((fail)))); refine wpQuiet_nil ?_; intro W5 hw'; have hW5 := ext_below hw'; clear hw')
              have HS5 := Lib.hid (HS.out.below hW5)
              have HB5 := Lib.hid (Bw.step HBW.out hW5)
              clear HS HBW hW5 hc3 hc4 hx3 hx4
              go_wp2
              go_roundw
              case rel => first | exact ⟨c + 1, by omega, by go_num, by (rw [HD.out]; go_num), HS5.out, HB5.out⟩ | ((repeat apply Exists.intro); exact ⟨⟨c + 1, by omega, by go_num, by (rw [HD.out]; go_num), HS5.out, HB5.out⟩, rfl⟩)
              case measure => simp [intOf]; omega
        · obtain rfl : c = C := by omega
          by_cases hps : p < sumN b x es c r c
          · have HW := Lib.hid (HWY.out hps)
            generalize sumN b x es c r c = sn at *
            clear HWY HWN
            go_wp2
            go_roundw
            case rel => first | exact ⟨r + 1, by omega, by go_num, by (rw [HW.out]; go_num), hs, hbw⟩ | ((repeat apply Exists.intro); exact ⟨⟨r + 1, by omega, by go_num, by (rw [HW.out]; go_num), hs, hbw⟩, rfl⟩)
            case measure => simp [intOf]; omega
          · have HW := Lib.hid (HWN.out hps)
            generalize sumN b x es c r c = sn at *
            clear HWY HWN
            go_wp2
            go_roundw
            case rel => first | exact ⟨r + 1, by omega, by go_num, by (rw [HW.out]), hs, hbw⟩ | ((repeat apply Exists.intro); exact ⟨⟨r + 1, by omega, by go_num, by (rw [HW.out]), hs, hbw⟩, rfl⟩)
            case measure => simp [intOf]; omega
    · obtain rfl : r = R := by omega
      obtain ⟨ls, s0, s1, s2, s3⟩ := id hs
      go_wp2
      go_ret
      exact ⟨rfl, hbw⟩
end Go.Proofs.Ytmpjkdkgolmgdaa
