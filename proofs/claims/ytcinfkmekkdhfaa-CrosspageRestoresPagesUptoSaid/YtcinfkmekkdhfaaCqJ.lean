/- Cross pages: the walk of the law on Extend. -/
import Derived.Test.YtcinfkmekkdhfaaCqI
namespace Go.Proofs.Ytcinfkmekkdhfaa
open Go.RowKit Go.Shelf
set_option linter.unusedVariables false
attribute [local go_sem] Oper.semAt_some

theorem ExtOK.unique {P : List (List GF)} {p k : Nat} {L L' : List (List GF)} (h : ExtOK P p k L) (h' : ExtOK P p k L') : L = L' := by
  refine eq_of_getDn (d := []) (by rw [h.1, h'.1]) fun i hi => ?_
  rw [h.1] at hi
  obtain ⟨a1, a2⟩ := h.2 i hi
  obtain ⟨b1, b2⟩ := h'.2 i hi
  refine eq_of_getDn (d := 0) (by rw [a1, b1]) fun t ht => ?_
  rw [a1] at ht
  obtain ⟨wd, hw⟩ := enc_ex (wordP P t) p
  rw [a2 t ht wd hw, b2 t ht wd hw]
set_option maxRecDepth 100000 in
set_option maxHeartbeats 4000000 in
theorem walkCrosspageExtendMatchesSpec (a0 : Option Addr) (len0 cap0 : Nat) (A0 : Nat → Option Addr) (L0 C0 : Nat → Nat) (Z0 : Nat → List Int) (a1 : Int) (w : World) (h0 : IsMat .u8 w a0 len0 cap0 A0 L0 C0 Z0) (h1 : (Lit.int .i64 a1).wf = true) :
    Calls Try.prog 3 #[.slice a0 len0 cap0, .int .i64 a1] w fun e w' => e = .returned (.bool true) ∧ Below w.heap.size w w' := by
  obtain ⟨P, hP, -, -⟩ := h0.bytes
  clear h0 h1
  have HP := Lib.hid hP
  clear hP
  rcases ext_split len0 a1 P with ⟨C, I, hC, hS⟩ | ⟨q, n, rfl, hG, hS⟩
  · have HS := Lib.hid hS
    have xC : (C == 0) = false := by rw [beq_eq_false_iff_ne]; exact hC
    clear hS hC
    go_enter Try.func3, Try.ntmps3
    go_wp2_with fail
    refine (HS.out _ _ _ HP.out).1.mono ?_
    rintro e w1 ⟨rfl, hb1⟩
    have F1 := Has.new w1 C I 24
    have B1 := Bw.al hb1 (.cells #[.int .i64 C, .int .i64 I] 24)
    clear hb1
    go_wp2_with fail
    refine (HS.out _ _ _ (HP.out.below B1)).2.mono ?_
    rintro e w2 ⟨rfl, hb2⟩
    have F1 := (F1.below hb2).al (.cells #[.int .i64 C, .int .i64 I] 24)
    have F2 := Has.new w2 C I 24
    have B2 := Bw.al (Bw.step B1 hb2) (.cells #[.int .i64 C, .int .i64 I] 24)
    clear hb2 B1
    obtain ⟨l1, c10, c11, f10, f11⟩ := id F1
    obtain ⟨l2, c20, c21, f20, f21⟩ := id F2
    go_wp2_with (go_at_call 11; refine (extended_any _).mono ?_; rintro e w3 ⟨rfl, hb3⟩)
    go_ret
    exact ⟨rfl, Bw.step B2 hb3⟩
  · have HS := Lib.hid hS
    obtain ⟨g1, g2, g3, g4, g5, g6⟩ := hG
    have HL := Lib.hid g6
    clear hS g6
    go_enter Try.func3, Try.ntmps3
    go_wp2_with fail
    refine (extend_ok _ len0 cap0 q n P w HP.out g1 g2 g3 g4 g5 HL.out).mono ?_
    rintro e w1 ⟨A1, c1, hv1, L1, rfl, hM1, hE1, hb1⟩
    have F1 := Has.new w1 0 0 24
    have B1 := Bw.al hb1 (.cells #[.int .i64 0, .int .i64 0] 24)
    have R1 := hM1.rd.1.below (below_new w1 (.cells #[.int .i64 0, .int .i64 0] 24))
    have HE1 := Lib.hid hE1
    clear hb1 hM1 hE1
    go_wp2_with fail
    refine (HS.out _ _ _ (HP.out.below B1)).mono ?_
    rintro e w2 ⟨rfl, hb2⟩
    have F1 := (F1.below hb2).al (.cells #[.int .i64 0, .int .i64 0] 24)
    have F2 := Has.new w2 0 0 24
    have B2 := Bw.al (Bw.step B1 hb2) (.cells #[.int .i64 0, .int .i64 0] 24)
    have R2 := (R1.below hb2).below (below_new w2 (.cells #[.int .i64 0, .int .i64 0] 24))
    clear hb2 B1 R1
    obtain ⟨l1, c10, c11, f10, f11⟩ := id F1
    obtain ⟨l2, c20, c21, f20, f21⟩ := id F2
    have HB2 := Lib.hid B2
    have HR2 := Lib.hid R2
    clear B2 R2 F1 F2
    go_wp2_with fail
    refine (rExtended_ok _ len0 cap0 q n P _ (HP.out.below HB2.out) g1 g2 g3 g4 g5 HL.out).mono ?_
    rintro e w3 ⟨A3, c3, hv3, L3, rfl, hM3, hE3, hb3⟩
    obtain rfl := hE3.unique HE1.out
    have R3 := hM3.rd.1
    have R2 := HR2.out.below hb3
    have B3 := Bw.step HB2.out hb3
    clear hM3 hb3
    go_wp2_with fail
    refine (samePages_eq A1 A3 q c1 c3 L3 w3 R2 R3 (by omega)).mono ?_
    rintro e w4 ⟨rfl, hb4⟩
    have B4 := Lib.hid (Bw.step B3 hb4)
    clear hb4 B3 R2 R3
    go_wp2_with (go_at_call 11; refine (extended_any _).mono ?_; rintro e w5 ⟨rfl, hb5⟩)
    go_ret
    exact ⟨rfl, Bw.step B4.out hb5⟩
end Go.Proofs.Ytcinfkmekkdhfaa
