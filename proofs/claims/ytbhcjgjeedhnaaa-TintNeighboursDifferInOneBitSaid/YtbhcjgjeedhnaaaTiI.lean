/- The walk of the statement TintJoinUndoesSplit. -/
import Derived.Test.YtbhcjgjeedhnaaaTiH
namespace Go.Proofs.Ytbhcjgjeedhnaaa
open Go.RowKit
set_option linter.unusedVariables false

set_option maxRecDepth 100000 in
set_option maxHeartbeats 2000000 in
theorem walkUndoesBad (b : GF) (A : Option Addr) (n c : Nat) (l : List GF) (lv : Int) (w : World) (RA : RdB w A n l) (C I : Int) (hC : C ≠ 0)
    (hJ : ∀ w : World, RdB w A n l → Calls Try.prog 16 #[.slice A n c, .int .i64 lv] w fun e w' => e = .returned (.tuple #[.int .u8 0, .agg #[.int .i64 C, .int .i64 I]]) ∧ Below w.heap.size w w') :
    Calls Try.prog 5 #[.int .u8 b.z, .slice A n c, .int .i64 lv] w fun e w' => e = .returned (.bool true) ∧ Below w.heap.size w w' := by
  have HJ := Lib.hid hJ
  clear hJ
  have xC : (C != 0) = true := by simpa using hC
  have B2 := Lib.hid (join_cells (lv := 2) (by omega) b)
  have B4 := Lib.hid (join_cells (lv := 4) (by omega) b)
  have L2 := Lib.hid (cells_lt (lv := 2) (by omega) b)
  have L4 := Lib.hid (cells_lt (lv := 4) (by omega) b)
  have ez : b.z = ((b.v : Nat) : Int) := rfl
  have HRA := Lib.hid RA
  clear RA
  go_enter Try.func5, Try.ntmps5
  go_wp2_with fail
  refine (tiSplit2 b _).mono ?_; rintro e w1 ⟨A1, c1, rfl, ho1, hb1⟩
  have F1 := Has.new w1 0 0 23
  have R1 := ho1.rd.1.al (.cells #[.int .i64 0, .int .i64 0] 23)
  have BW := Bw.al hb1 (.cells #[.int .i64 0, .int .i64 0] 23)
  clear ho1 hb1
  go_wp2_with fail
  refine (tiSplit4 b _).mono ?_; rintro e w2 ⟨A2, c2, rfl, ho2, hb2⟩
  replace F1 := (F1.below hb2).al (.cells #[.int .i64 0, .int .i64 0] 23)
  replace R1 := (R1.below hb2).al (.cells #[.int .i64 0, .int .i64 0] 23)
  have R2 := ho2.rd.1.al (.cells #[.int .i64 0, .int .i64 0] 23)
  have F2 := Has.new w2 0 0 23
  replace BW := Bw.al (Bw.step BW hb2) (.cells #[.int .i64 0, .int .i64 0] 23)
  clear ho2 hb2
  go_wp2_with fail
  refine (tiJoin2 _ _ _ _ R1 L2.out).mono ?_
  rw [B2.out, ← ez]
  rintro e w3 ⟨rfl, hb3⟩
  replace F1 := (F1.below hb3).al (.cells #[.int .i64 0, .int .i64 0] 23)
  replace F2 := (F2.below hb3).al (.cells #[.int .i64 0, .int .i64 0] 23)
  replace R2 := (R2.below hb3).al (.cells #[.int .i64 0, .int .i64 0] 23)
  have F3 := Has.new w3 0 0 23
  replace BW := Bw.al (Bw.step BW hb3) (.cells #[.int .i64 0, .int .i64 0] 23)
  clear hb3 R1
  go_wp2_with fail
  refine (tiJoin4 _ _ _ _ R2 L4.out).mono ?_
  rw [B4.out, ← ez]
  rintro e w4 ⟨rfl, hb4⟩
  replace F1 := (F1.below hb4).al (.cells #[.int .i64 0, .int .i64 0] 23)
  replace F2 := (F2.below hb4).al (.cells #[.int .i64 0, .int .i64 0] 23)
  replace F3 := (F3.below hb4).al (.cells #[.int .i64 0, .int .i64 0] 23)
  have F4 := Has.new w4 0 0 23
  replace BW := Bw.al (Bw.step BW hb4) (.cells #[.int .i64 0, .int .i64 0] 23)
  clear hb4 R2 ez
  obtain ⟨l1, c10, c11, f10, f11⟩ := id F1
  obtain ⟨l2, c20, c21, f20, f21⟩ := id F2
  obtain ⟨l3, c30, c31, f30, f31⟩ := id F3
  obtain ⟨l4, c40, c41, f40, f41⟩ := id F4
  go_wp2_with fail
  refine (HJ.out _ (HRA.out.below BW)).mono ?_; rintro e w5 ⟨rfl, hb5⟩
  clear l1 c10 c11 f10 f11 l2 c20 c21 f20 f21 l3 c30 c31 f30 f31 l4 c40 c41 f40 f41
  replace BW := Bw.al (Bw.step BW hb5) (.cells #[.int .i64 C, .int .i64 I] 23)
  go_wp2_with (go_at_call 11; refine (tinted_any _).mono ?_; rintro e w' ⟨rfl, hb6⟩)
  go_ret
  exact ⟨rfl, Bw.step BW hb6⟩
set_option maxRecDepth 100000 in
set_option maxHeartbeats 2000000 in
theorem walkUndoes2 (b : GF) (A : Option Addr) (c : Nat) (l : List GF) (w : World) (RA : RdB w A 8 l) (hall : ∀ i, i < l.length → (l.getD i 0).v < 2) :
    Calls Try.prog 5 #[.int .u8 b.z, .slice A 8 c, .int .i64 2] w fun e w' => e = .returned (.bool true) ∧ Below w.heap.size w w' := by
  have hj : joinN 2 l < 256 := by
    have := joinN_bd (lv := 2) (by omega) l hall (by rw [RA.1]) l.length (Nat.le_refl _)
    rwa [List.take_of_length_le (Nat.le_refl _)] at this
  have HCJ := Lib.hid (cells_join (lv := 2) (by omega) l hall (by rw [RA.1]) hj)
  have eq : ((joinN 2 l : Nat) : Int) = (GF.mk (joinN 2 l) hj).z := rfl
  have HJ := Lib.hid fun (w : World) (h : RdB w A 8 l) => tiJoin2 A c l w h hall
  rw [eq] at HJ
  have s1 := Lib.hid (sameB_self l)
  clear hall eq
  generalize GF.mk (joinN 2 l) hj = y at *
  have B2 := Lib.hid (join_cells (lv := 2) (by omega) b)
  have B4 := Lib.hid (join_cells (lv := 4) (by omega) b)
  have L2 := Lib.hid (cells_lt (lv := 2) (by omega) b)
  have L4 := Lib.hid (cells_lt (lv := 4) (by omega) b)
  have ez : b.z = ((b.v : Nat) : Int) := rfl
  have HRA := Lib.hid RA
  clear RA
  go_enter Try.func5, Try.ntmps5
  go_wp2_with fail
  refine (tiSplit2 b _).mono ?_; rintro e w1 ⟨A1, c1, rfl, ho1, hb1⟩
  have F1 := Has.new w1 0 0 23
  have R1 := ho1.rd.1.al (.cells #[.int .i64 0, .int .i64 0] 23)
  have BW := Bw.al hb1 (.cells #[.int .i64 0, .int .i64 0] 23)
  clear ho1 hb1
  go_wp2_with fail
  refine (tiSplit4 b _).mono ?_; rintro e w2 ⟨A2, c2, rfl, ho2, hb2⟩
  replace F1 := (F1.below hb2).al (.cells #[.int .i64 0, .int .i64 0] 23)
  replace R1 := (R1.below hb2).al (.cells #[.int .i64 0, .int .i64 0] 23)
  have R2 := ho2.rd.1.al (.cells #[.int .i64 0, .int .i64 0] 23)
  have F2 := Has.new w2 0 0 23
  replace BW := Bw.al (Bw.step BW hb2) (.cells #[.int .i64 0, .int .i64 0] 23)
  clear ho2 hb2
  go_wp2_with fail
  refine (tiJoin2 _ _ _ _ R1 L2.out).mono ?_
  rw [B2.out, ← ez]
  rintro e w3 ⟨rfl, hb3⟩
  replace F1 := (F1.below hb3).al (.cells #[.int .i64 0, .int .i64 0] 23)
  replace F2 := (F2.below hb3).al (.cells #[.int .i64 0, .int .i64 0] 23)
  replace R2 := (R2.below hb3).al (.cells #[.int .i64 0, .int .i64 0] 23)
  have F3 := Has.new w3 0 0 23
  replace BW := Bw.al (Bw.step BW hb3) (.cells #[.int .i64 0, .int .i64 0] 23)
  clear hb3 R1
  go_wp2_with fail
  refine (tiJoin4 _ _ _ _ R2 L4.out).mono ?_
  rw [B4.out, ← ez]
  rintro e w4 ⟨rfl, hb4⟩
  replace F1 := (F1.below hb4).al (.cells #[.int .i64 0, .int .i64 0] 23)
  replace F2 := (F2.below hb4).al (.cells #[.int .i64 0, .int .i64 0] 23)
  replace F3 := (F3.below hb4).al (.cells #[.int .i64 0, .int .i64 0] 23)
  have F4 := Has.new w4 0 0 23
  replace BW := Bw.al (Bw.step BW hb4) (.cells #[.int .i64 0, .int .i64 0] 23)
  clear hb4 R2 ez
  obtain ⟨l1, c10, c11, f10, f11⟩ := id F1
  obtain ⟨l2, c20, c21, f20, f21⟩ := id F2
  obtain ⟨l3, c30, c31, f30, f31⟩ := id F3
  obtain ⟨l4, c40, c41, f40, f41⟩ := id F4
  go_wp2_with fail
  refine (HJ.out _ (HRA.out.below BW)).mono ?_; rintro e w5 ⟨rfl, hb5⟩
  clear l1 c10 c11 f10 f11 l2 c20 c21 f20 f21 l3 c30 c31 f30 f31 l4 c40 c41 f40 f41
  replace BW := Bw.al (Bw.step BW hb5) (.cells #[.int .i64 0, .int .i64 0] 23)
  go_wp2_with fail
  refine (tiSplit2 y _).mono ?_
  rw [HCJ.out]
  rintro e w6 ⟨A6, c6, rfl, ho6, hb6⟩
  replace BW := Bw.al (Bw.step BW hb6) (.cells #[.int .i64 0, .int .i64 0] 23)
  have R6 := ho6.rd.1.al (.cells #[.int .i64 0, .int .i64 0] 23)
  clear ho6
  go_wp2_with fail
  refine (refSame_any _ _ _ _ _ _ _ _ _ R6 (HRA.out.below BW)).mono ?_
  rw [s1.out]
  rintro e w7 ⟨rfl, rfl⟩
  go_wp2_with (go_at_call 11; refine (tinted_any _).mono ?_; rintro e w' ⟨rfl, hb7⟩)
  go_ret
  exact ⟨rfl, Bw.step BW hb7⟩
set_option maxRecDepth 100000 in
set_option maxHeartbeats 2000000 in
theorem walkUndoes4 (b : GF) (A : Option Addr) (c : Nat) (l : List GF) (w : World) (RA : RdB w A 4 l) (hall : ∀ i, i < l.length → (l.getD i 0).v < 4) :
    Calls Try.prog 5 #[.int .u8 b.z, .slice A 4 c, .int .i64 4] w fun e w' => e = .returned (.bool true) ∧ Below w.heap.size w w' := by
  have hj : joinN 4 l < 256 := by
    have := joinN_bd (lv := 4) (by omega) l hall (by rw [RA.1]) l.length (Nat.le_refl _)
    rwa [List.take_of_length_le (Nat.le_refl _)] at this
  have HCJ := Lib.hid (cells_join (lv := 4) (by omega) l hall (by rw [RA.1]) hj)
  have eq : ((joinN 4 l : Nat) : Int) = (GF.mk (joinN 4 l) hj).z := rfl
  have HJ := Lib.hid fun (w : World) (h : RdB w A 4 l) => tiJoin4 A c l w h hall
  rw [eq] at HJ
  have s1 := Lib.hid (sameB_self l)
  clear hall eq
  generalize GF.mk (joinN 4 l) hj = y at *
  have B2 := Lib.hid (join_cells (lv := 2) (by omega) b)
  have B4 := Lib.hid (join_cells (lv := 4) (by omega) b)
  have L2 := Lib.hid (cells_lt (lv := 2) (by omega) b)
  have L4 := Lib.hid (cells_lt (lv := 4) (by omega) b)
  have ez : b.z = ((b.v : Nat) : Int) := rfl
  have HRA := Lib.hid RA
  clear RA
  go_enter Try.func5, Try.ntmps5
  go_wp2_with fail
  refine (tiSplit2 b _).mono ?_; rintro e w1 ⟨A1, c1, rfl, ho1, hb1⟩
  have F1 := Has.new w1 0 0 23
  have R1 := ho1.rd.1.al (.cells #[.int .i64 0, .int .i64 0] 23)
  have BW := Bw.al hb1 (.cells #[.int .i64 0, .int .i64 0] 23)
  clear ho1 hb1
  go_wp2_with fail
  refine (tiSplit4 b _).mono ?_; rintro e w2 ⟨A2, c2, rfl, ho2, hb2⟩
  replace F1 := (F1.below hb2).al (.cells #[.int .i64 0, .int .i64 0] 23)
  replace R1 := (R1.below hb2).al (.cells #[.int .i64 0, .int .i64 0] 23)
  have R2 := ho2.rd.1.al (.cells #[.int .i64 0, .int .i64 0] 23)
  have F2 := Has.new w2 0 0 23
  replace BW := Bw.al (Bw.step BW hb2) (.cells #[.int .i64 0, .int .i64 0] 23)
  clear ho2 hb2
  go_wp2_with fail
  refine (tiJoin2 _ _ _ _ R1 L2.out).mono ?_
  rw [B2.out, ← ez]
  rintro e w3 ⟨rfl, hb3⟩
  replace F1 := (F1.below hb3).al (.cells #[.int .i64 0, .int .i64 0] 23)
  replace F2 := (F2.below hb3).al (.cells #[.int .i64 0, .int .i64 0] 23)
  replace R2 := (R2.below hb3).al (.cells #[.int .i64 0, .int .i64 0] 23)
  have F3 := Has.new w3 0 0 23
  replace BW := Bw.al (Bw.step BW hb3) (.cells #[.int .i64 0, .int .i64 0] 23)
  clear hb3 R1
  go_wp2_with fail
  refine (tiJoin4 _ _ _ _ R2 L4.out).mono ?_
  rw [B4.out, ← ez]
  rintro e w4 ⟨rfl, hb4⟩
  replace F1 := (F1.below hb4).al (.cells #[.int .i64 0, .int .i64 0] 23)
  replace F2 := (F2.below hb4).al (.cells #[.int .i64 0, .int .i64 0] 23)
  replace F3 := (F3.below hb4).al (.cells #[.int .i64 0, .int .i64 0] 23)
  have F4 := Has.new w4 0 0 23
  replace BW := Bw.al (Bw.step BW hb4) (.cells #[.int .i64 0, .int .i64 0] 23)
  clear hb4 R2 ez
  obtain ⟨l1, c10, c11, f10, f11⟩ := id F1
  obtain ⟨l2, c20, c21, f20, f21⟩ := id F2
  obtain ⟨l3, c30, c31, f30, f31⟩ := id F3
  obtain ⟨l4, c40, c41, f40, f41⟩ := id F4
  go_wp2_with fail
  refine (HJ.out _ (HRA.out.below BW)).mono ?_; rintro e w5 ⟨rfl, hb5⟩
  clear l1 c10 c11 f10 f11 l2 c20 c21 f20 f21 l3 c30 c31 f30 f31 l4 c40 c41 f40 f41
  replace BW := Bw.al (Bw.step BW hb5) (.cells #[.int .i64 0, .int .i64 0] 23)
  go_wp2_with fail
  refine (tiSplit4 y _).mono ?_
  rw [HCJ.out]
  rintro e w6 ⟨A6, c6, rfl, ho6, hb6⟩
  replace BW := Bw.al (Bw.step BW hb6) (.cells #[.int .i64 0, .int .i64 0] 23)
  have R6 := ho6.rd.1.al (.cells #[.int .i64 0, .int .i64 0] 23)
  clear ho6
  go_wp2_with fail
  refine (refSame_any _ _ _ _ _ _ _ _ _ R6 (HRA.out.below BW)).mono ?_
  rw [s1.out]
  rintro e w7 ⟨rfl, rfl⟩
  go_wp2_with (go_at_call 11; refine (tinted_any _).mono ?_; rintro e w' ⟨rfl, hb7⟩)
  go_ret
  exact ⟨rfl, Bw.step BW hb7⟩
theorem walkTintJoinUndoesSplit (b : Int) (A : Option Addr) (n c : Nat) (zs : List Int) (lv : Int) (w : World) (w0 : (Lit.int .u8 b).wf = true) (w1 : IsRow .u8 w A n c zs) (w2 : (Lit.int .i64 lv).wf = true) :
    Calls Try.prog 5 #[.int .u8 b, .slice A n c, .int .i64 lv] w fun e w' => e = .returned (.bool true) ∧ Below w.heap.size w w' := by
  obtain ⟨b, rfl⟩ := GF.of_z (wfu8 w0)
  obtain ⟨l, hR, hn, hc⟩ := w1.bytes3
  by_cases h2 : lv = 2
  · subst h2
    by_cases h : n = 8
    · subst h
      obtain ⟨x, hJ, hcase⟩ := joinC2 A c l hR.1
      rcases hcase with ⟨e1, e2, rfl, hall⟩ | ⟨e1, rfl⟩
      · exact walkUndoes2 b A c l w hR hall
      · exact walkUndoesBad b A 8 c l 2 w hR _ _ (by rw [e1]; omega) hJ
    · exact walkUndoesBad b A n c l 2 w hR 9 (-1) (by omega) (fun w _ => tiJoinLen2 A n c w h hn)
  · by_cases h4 : lv = 4
    · subst h4
      by_cases h : n = 4
      · subst h
        obtain ⟨x, hJ, hcase⟩ := joinC4 A c l hR.1
        rcases hcase with ⟨e1, e2, rfl, hall⟩ | ⟨e1, rfl⟩
        · exact walkUndoes4 b A c l w hR hall
        · exact walkUndoesBad b A 4 c l 4 w hR _ _ (by rw [e1]; omega) hJ
      · exact walkUndoesBad b A n c l 4 w hR 9 (-1) (by omega) (fun w _ => tiJoinLen4 A n c w h hn)
    · exact walkUndoesBad b A n c l lv w hR 4 (-2) (by omega) (fun w _ => tiJoin_bad A n c lv w h2 h4)
end Go.Proofs.Ytbhcjgjeedhnaaa
