/- Cross pages: the walk of the law on Restore. -/
import Derived.Test.YtcinfkmekkdhfaaCqJ
namespace Go.Proofs.Ytcinfkmekkdhfaa
open Go.RowKit Go.Shelf
set_option linter.unusedVariables false
attribute [local go_sem] Oper.semAt_some

set_option maxRecDepth 100000 in
set_option maxHeartbeats 4000000 in
theorem walkCrosspageRestoreMatchesSpec (a0 : Option Addr) (len0 cap0 : Nat) (A0 : Nat → Option Addr) (L0 C0 : Nat → Nat) (Z0 : Nat → List Int) (a1 : Option Addr) (len1 cap1 : Nat) (A1 : Nat → Option Addr) (L1 C1 : Nat → Nat) (Z1 : Nat → List Int) (a2 : Int) (w : World)
    (h0 : IsMat .u8 w a0 len0 cap0 A0 L0 C0 Z0) (h1 : IsMat .i64 w a1 len1 cap1 A1 L1 C1 Z1) (h2 : (Lit.int .i64 a2).wf = true) :
    Calls Try.prog 4 #[.slice a0 len0 cap0, .slice a1 len1 cap1, .int .i64 a2] w fun e w' => e = .returned (.bool true) ∧ Below w.heap.size w w' := by
  obtain ⟨P, hP, -, hPl⟩ := h0.bytes
  obtain ⟨Z, hZ, -, hZl⟩ := h1.ints
  have hpl : ∀ i, i < len0 → (P.getD i []).length ≤ 9223372036854775807 := fun i hi => by rw [hPl i hi]; exact h0.len i hi
  have hzl : ∀ i, i < len1 → (Z.getD i []).length ≤ 9223372036854775807 := fun i hi => by rw [hZl i hi]; exact h1.len i hi
  have hsp := res_split len0 len1 a2 P Z hpl hzl
  clear h0 h1 h2 hPl hZl hpl hzl
  have HP := Lib.hid hP
  have HZ := Lib.hid hZ
  clear hP hZ
  rcases hsp with ⟨C, I, hC, hS⟩ | ⟨q, n, f, rfl, rfl, hG, hI, hS⟩
  · have HS := Lib.hid hS
    have xC : (C == 0) = false := by rw [beq_eq_false_iff_ne]; exact hC
    clear hS hC
    go_enter Try.func4, Try.ntmps4
    go_wp2_with fail
    refine (HS.out _ _ _ _ _ HP.out HZ.out).1.mono ?_
    rintro e w1 ⟨rfl, hb1⟩
    have F1 := Has.new w1 C I 24
    have B1 := Bw.al hb1 (.cells #[.int .i64 C, .int .i64 I] 24)
    clear hb1
    go_wp2_with fail
    refine (HS.out _ _ _ _ _ (HP.out.below B1) (HZ.out.below B1)).2.mono ?_
    rintro e w2 ⟨rfl, hb2⟩
    have F1 := (F1.below hb2).al (.cells #[.int .i64 C, .int .i64 I] 24)
    have F2 := Has.new w2 C I 24
    have B2 := Bw.al (Bw.step B1 hb2) (.cells #[.int .i64 C, .int .i64 I] 24)
    clear hb2 B1
    obtain ⟨l1, c10, c11, f10, f11⟩ := id F1
    obtain ⟨l2, c20, c21, f20, f21⟩ := id F2
    go_wp2_with (go_at_call 11; refine (extended_any _).mono ?_; rintro e w3 ⟨rfl, hb3⟩)
    go_ret
    exact ⟨rfl, Bw.step B2 hb3⟩
  · have HS := Lib.hid hS
    have HG := Lib.hid hG
    have HI := Lib.hid hI
    have hd1 : len1 - q ≤ 64 := by have := hG.h2; omega
    have hn2 := hG.hn2
    have hlz : ∀ i, i < len1 → (Z.getD i []).length ≤ 100000 := fun i hi => incOk_len (hI i hi) (by rcases hG.hl i hi with h | h <;> omega)
    have HLZ := Lib.hid hlz
    clear hS hG hI hlz
    obtain ⟨d, hd⟩ : ∃ d, len1 - q = d := ⟨_, rfl⟩
    have HD := Lib.hid hd
    rw [hd] at hd1
    clear hd
    go_enter Try.func4, Try.ntmps4
    go_wp2_with fail
    refine (restore_ok _ _ len1 cap0 cap1 q n f d HD.out P Z w HP.out HZ.out HG.out HI.out).mono ?_
    rintro e w1 ⟨o1, o2, L, G, rfl, hR1, hR2, hE, hb1⟩
    have F1 := Has.new w1 0 0 24
    have B1 := Bw.al hb1 (.cells #[.int .i64 0, .int .i64 0] 24)
    have R1 := hR1.below (below_new w1 (.cells #[.int .i64 0, .int .i64 0] 24))
    have R2 := hR2.below (below_new w1 (.cells #[.int .i64 0, .int .i64 0] 24))
    have HE := Lib.hid hE
    clear hb1 hR1 hR2 hE
    go_wp2_with fail
    refine (HS.out _ _ _ _ _ (HP.out.below B1) (HZ.out.below B1)).mono ?_
    rintro e w2 ⟨rfl, hb2⟩
    have F1 := (F1.below hb2).al (.cells #[.int .i64 0, .int .i64 0] 24)
    have F2 := Has.new w2 0 0 24
    have HB2 := Lib.hid (Bw.al (Bw.step B1 hb2) (.cells #[.int .i64 0, .int .i64 0] 24))
    have HR1 := Lib.hid ((R1.below hb2).below (below_new w2 (.cells #[.int .i64 0, .int .i64 0] 24)))
    have HR2 := Lib.hid ((R2.below hb2).below (below_new w2 (.cells #[.int .i64 0, .int .i64 0] 24)))
    clear hb2 B1 R1 R2
    have HF1 := Lib.hid F1
    obtain ⟨l2, c20, c21, f20, f21⟩ := id F2
    clear F1
    go_wp2_with fail
    refine (rRestored_ok _ _ len1 cap0 cap1 q n f d HD.out P Z _ (HP.out.below HB2.out) (HZ.out.below HB2.out) HG.out HLZ.out).mono ?_
    rintro e w3 ⟨p1, p2, L', G', rfl, hR3, hR4, hE', hb3⟩
    obtain ⟨rfl, rfl⟩ := hE'.unique HE.out
    have R1 := HR1.out.below hb3
    have R2 := HR2.out.below hb3
    have B3 := Bw.step HB2.out hb3
    obtain ⟨l1, c10, c11, f10, f11⟩ := HF1.out.below hb3
    have hgl : ∀ i, i < d → (G'.getD i []).length ≤ 1099511627776 := fun i hi => by
      have := (hE'.2.2 i (by rw [HD.out]; exact hi)).2.2.len
      omega
    have HGL := Lib.hid hgl
    clear hb3 hE' hgl l2 c20 c21 f20 f21 F2
    go_wp2_with fail
    refine (samePages_eq _ _ d d d L' w3 R1 hR3 (by omega)).mono ?_
    rintro e w4 ⟨rfl, hb4⟩
    have R2 := R2.below hb4
    have hR4 := hR4.below hb4
    have B4 := Lib.hid (Bw.step B3 hb4)
    clear hb4 B3 R1 hR3
    go_wp2_with fail
    refine (sameLists_eq _ _ d d d G' w4 R2 hR4 (by omega) HGL.out).mono ?_
    rintro e w5 ⟨rfl, hb5⟩
    have B5 := Lib.hid (Bw.step B4.out hb5)
    clear hb5 R2 hR4
    go_wp2_with (go_at_call 11; refine (extended_any _).mono ?_; rintro e w6 ⟨rfl, hb6⟩)
    go_ret
    exact ⟨rfl, Bw.step B5.out hb6⟩
end Go.Proofs.Ytcinfkmekkdhfaa
