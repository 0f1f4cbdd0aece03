/- Cross pages: the walk of the law on no parity. -/
import Derived.Test.YtcinfkmekkdhfaaCqL
namespace Go.Proofs.Ytcinfkmekkdhfaa
open Go.RowKit Go.Shelf
set_option linter.unusedVariables false
attribute [local go_sem] Oper.semAt_some

set_option maxRecDepth 100000 in
set_option maxHeartbeats 4000000 in
theorem walkCrosspageWithoutParity (a0 : Option Addr) (len0 cap0 : Nat) (A0 : Nat → Option Addr) (L0 C0 : Nat → Nat) (Z0 : Nat → List Int) (a1 : Option Addr) (len1 cap1 : Nat) (A1 : Nat → Option Addr) (L1 C1 : Nat → Nat) (Z1 : Nat → List Int) (w : World)
    (h0 : IsMat .u8 w a0 len0 cap0 A0 L0 C0 Z0) (h1 : IsMat .i64 w a1 len1 cap1 A1 L1 C1 Z1) :
    Calls Try.prog 8 #[.slice a0 len0 cap0, .slice a1 len1 cap1] w fun e w' => e = .returned (.bool true) ∧ Below w.heap.size w w' := by
  obtain ⟨P, hP, -, hPl⟩ := h0.bytes
  obtain ⟨Z, hZ, -, hZl⟩ := h1.ints
  have hpl : ∀ i, i < len0 → (P.getD i []).length ≤ 9223372036854775807 := fun i hi => by rw [hPl i hi]; exact h0.len i hi
  have hzl : ∀ i, i < len1 → (Z.getD i []).length ≤ 9223372036854775807 := fun i hi => by rw [hZl i hi]; exact h1.len i hi
  have hsp := res_split len0 len1 0 P Z hpl hzl
  clear h0 h1 hPl hZl hpl hzl
  have HP := Lib.hid hP
  have HZ := Lib.hid hZ
  clear hP hZ
  rcases hsp with ⟨C, I, hC, hS⟩ | ⟨q, n, f, hq, rfl, hG, hI, hS⟩
  · have HS := Lib.hid hS
    have xC : (C == 0) = false := by rw [beq_eq_false_iff_ne]; exact hC
    clear hS hC
    go_enter Try.func8, Try.ntmps8
    go_wp2_with fail
    refine (HS.out _ _ _ _ _ HP.out HZ.out).1.mono ?_
    rintro e w1 ⟨rfl, hb1⟩
    have F1 := Has.new w1 C I 24
    have B1 := Bw.al hb1 (.cells #[.int .i64 C, .int .i64 I] 24)
    clear hb1
    go_wp2_with fail
    refine (HS.out _ _ _ _ _ (HP.out.below B1) (HZ.out.below B1)).2.mono ?_
    rintro e w2 ⟨rfl, hb2⟩
    have F1 := F1.below hb2
    have B2 := Bw.step B1 hb2
    clear hb2 B1
    obtain ⟨l1, c10, c11, f10, f11⟩ := id F1
    go_wp2_with (go_at_call 11; refine (extended_any _).mono ?_; rintro e w3 ⟨rfl, hb3⟩)
    go_ret
    exact ⟨rfl, Bw.step B2 hb3⟩
  · obtain rfl : q = 0 := by omega
    have HS := Lib.hid hS
    have HG := Lib.hid hG
    have HI := Lib.hid hI
    have hd1 : len1 ≤ 64 := by have := hG.h2; omega
    have hm1 : 1 ≤ len1 := by have := hG.h1; omega
    have hn1 := hG.hn1
    have hn2 := hG.hn2
    have hlz : ∀ i, i < len1 → (Z.getD i []).length ≤ 100000 := fun i hi => incOk_len (hI i hi) (by rcases hG.hl i hi with h | h <;> omega)
    have HLZ := Lib.hid hlz
    have HPL := Lib.hid hG.hl
    have HPS := Lib.hid (fun W (hW : RdM W a0 len1 P) => (show Calls Try.prog 21 #[.slice a0 len1 cap0] W fun e w' => e = .returned (.int .i64 (n : Int)) ∧ Below W.heap.size W w' from by
      have := pageSize_hit a0 len1 cap0 f P W hW (by omega) hG.hb (by rw [hG.hn]; exact hG.hn1) hG.hbad
      rw [hG.hn] at this
      exact this))
    have HRS := Lib.hid (show Calls Try.prog 14 #[.slice a0 len1 cap0, .slice a1 len1 cap1, .int .i64 0] w _ from restore_ok a0 a1 len1 cap0 cap1 0 n f len1 rfl P Z w HP.out HZ.out hG hI)
    clear hS hG hI hlz hq
    go_enter Try.func8, Try.ntmps8
    go_wp2_with fail
    refine HRS.out.mono ?_
    rintro e w1 ⟨o1, o2, L, G, rfl, hR1, hR2, hE, hb1⟩
    have F1 := Has.new w1 0 0 24
    have B1 := Bw.al hb1 (.cells #[.int .i64 0, .int .i64 0] 24)
    have R1 := hR1.below (below_new w1 (.cells #[.int .i64 0, .int .i64 0] 24))
    have R2 := hR2.below (below_new w1 (.cells #[.int .i64 0, .int .i64 0] 24))
    have HROW := Lib.hid (fun k (hk : k < len1) => no_rows HP.out.1 HG.out HI.out hE hk)
    clear hb1 hR1 hR2 hE HRS
    go_wp2_with fail
    refine (HS.out _ _ _ _ _ (HP.out.below B1) (HZ.out.below B1)).mono ?_
    rintro e w2 ⟨rfl, hb2⟩
    have F1 := F1.below hb2
    have HB2 := Lib.hid (Bw.step B1 hb2)
    have HR1 := Lib.hid (R1.below hb2)
    have HR2 := Lib.hid (R2.below hb2)
    have HP2 := Lib.hid (HP.out.below HB2.out)
    have HZ2 := Lib.hid (HZ.out.below HB2.out)
    clear hb2 B1 R1 R2
    obtain ⟨l1, c10, c11, f10, f11⟩ := id F1
    clear F1
    go_wp2
    clear l1 c10 c11 f10 f11
    obtain ⟨W2, rfl⟩ : ∃ W : World, W = w2 := ⟨_, rfl⟩
    go_loopw [8] (fun i wr => ∃ k : Nat, k ≤ len1 ∧ i = .int .i64 k ∧ Below W2.heap.size W2 wr) (fun i _ => len1 - (intOf i).toNat)
    case atStart => exact ⟨0, Nat.zero_le _, rfl, Below.refl _ _⟩
    case round =>
      obtain ⟨k, hk, rfl, hbr⟩ := hrel
      have HBR := Lib.hid hbr
      by_cases hlt : k < len1
      · obtain ⟨b1, q1, rfl, hb1, hc1⟩ := (HP2.out.below hbr).2 (by omega)
        obtain ⟨b2, q2, rfl, hb2, hc2⟩ := (HZ2.out.below hbr).2 (by omega)
        obtain ⟨b3, q3, e0, hb3, hc3⟩ := (HR1.out.below hbr).2 (by omega)
        injection e0 with e0
        injection e0 with e1 e2
        subst e1 e2
        obtain ⟨b4, q4, e0, hb4, hc4⟩ := (HR2.out.below hbr).2 (by omega)
        injection e0 with e0
        injection e0 with e1 e2
        subst e1 e2
        obtain ⟨A1, c1, e1, r1⟩ := hc1 k hlt
        obtain ⟨A2, c2, e2, r2⟩ := hc2 k hlt
        obtain ⟨A3, c3, e3, r3⟩ := hc3 k hlt
        obtain ⟨A4, c4, e4, r4⟩ := hc4 k hlt
        obtain ⟨g1, g2, g3, g4⟩ := HROW.out k hlt
        have hlzk := HLZ.out k hlt
        have hplk := HPL.out k hlt
        have HPW := Lib.hid (HP2.out.below hbr)
        rw [Nat.zero_add] at e3 e4
        have RR1 := Lib.hid r1
        have RR2 := Lib.hid r2
        have RR3 := Lib.hid r3
        have RR4 := Lib.hid r4
        have HG4 := Lib.hid g4
        rw [g3] at e3 RR3
        clear hc1 hc2 hc3 hc4 r1 r2 r3 r4 hbr g4 g3
        rcases hplk with h0 | h0
        · skip
          rw [h0] at e1
          rw [g1 h0] at e4
          clear g1 g2 h0
          generalize (Z.getD k []).length = lz at *
          go_wp2
          have hx1 := fun x : Ext wr => (x.below.cell (p := ⟨b1, q1 + k, none⟩) hb1).trans e1
          have hx4 := fun x : Ext wr => (x.below.cell (p := ⟨o2, k, none⟩) hb4).trans e4
          have hx2 := fun x : Ext wr => (x.below.cell (p := ⟨b2, q2 + k, none⟩) hb2).trans e2
          (refine wp_region_ext (by kernel_rfl) (by kernel_rfl) ?_; (repeat (go_big_quiet_step ((go_at_call 21; exact ext_call (HPS.out _ (HPW.out.below (Ext.below _))))))); refine wpQuiet_nil ?_; intro W5 hw'; have hW5 := ext_below hw'; clear hw')
          clear hx1 hx2 hx4
          have e1' := (hW5.cell (p := ⟨b1, q1 + k, none⟩) hb1).trans e1
          have HB5 := Lib.hid (HBR.out.trans (hW5.mono HBR.out.size))
          clear hW5 e1 e2 e3 e4
          go_wp2
          obtain ⟨wo, rfl⟩ : ∃ W : World, W = W5 := ⟨_, rfl⟩
          go_loopw [9] (fun i wr => i = .int .i64 0 ∧ wr = wo) (fun i _ => 0)
          case atStart => exact ⟨rfl, rfl⟩
          case round =>
            obtain ⟨rfl, rfl⟩ := hrel
            go_wp2
            go_roundw
            case rel => first | exact ⟨k + 1, by omega, by go_num, HB5.out⟩ | ((repeat apply Exists.intro); exact ⟨⟨k + 1, by omega, by go_num, HB5.out⟩, rfl⟩)
            case measure => simp [intOf]; omega
        · skip
          have g2' := g2 (by omega)
          rw [g2'] at e4 RR4
          clear g1 g2 g2'
          have HGG := Lib.hid (fun t (ht : t < n) => HG4.out t (by rw [h0]; exact ht))
          rw [h0] at e1 RR1
          clear HG4 h0
          have hq1 : decide (0 < (n : Int)) = true := by simp only [decide_eq_true_eq]; omega
          have hq3 : decide (0 < n) = true := by simp only [decide_eq_true_eq]; omega
          have hq2 : ((n : Int) == 0) = false := by rw [beq_eq_false_iff_ne]; omega
          generalize Z.getD k [] = z at *
          go_wp2
          have hx1 := fun x : Ext wr => (x.below.cell (p := ⟨b1, q1 + k, none⟩) hb1).trans e1
          have hx4 := fun x : Ext wr => (x.below.cell (p := ⟨o2, k, none⟩) hb4).trans e4
          have hx2 := fun x : Ext wr => (x.below.cell (p := ⟨b2, q2 + k, none⟩) hb2).trans e2
          (refine wp_region_ext (by kernel_rfl) (by kernel_rfl) ?_; (repeat (go_big_quiet_step ((go_at_call 22; exact ext_call (ints_self _ _ _ _ _ _ z _ (RR4.out.below (Ext.below _)) (RR2.out.below (Ext.below _)) (by omega)))))); refine wpQuiet_nil ?_; intro W5 hw'; have hW5 := ext_below hw'; clear hw')
          clear hx1 hx2 hx4
          have e1' := (hW5.cell (p := ⟨b1, q1 + k, none⟩) hb1).trans e1
          have e2' := (hW5.cell (p := ⟨b2, q2 + k, none⟩) hb2).trans e2
          have e3' := (hW5.cell (p := ⟨o1, k, none⟩) hb3).trans e3
          have S1 := Lib.hid (RR1.out.below hW5)
          have S2 := Lib.hid (RR2.out.below hW5)
          have S3 := Lib.hid (RR3.out.below hW5)
          have HB5 := Lib.hid (HBR.out.trans (hW5.mono HBR.out.size))
          clear hW5 e1 e2 e3 e4
          go_wp2
          obtain ⟨wo, rfl⟩ : ∃ W : World, W = W5 := ⟨_, rfl⟩
          go_loopw [9] (fun i wr => ∃ t : Nat, t ≤ n ∧ i = .int .i64 t ∧ wr = wo) (fun i _ => n - (intOf i).toNat)
          case atStart => exact ⟨0, Nat.zero_le _, rfl, rfl⟩
          case round =>
            obtain ⟨t, ht, rfl, rfl⟩ := hrel
            by_cases htn : t < n
            · obtain ⟨bp, op, rfl, hbp, hcp⟩ := S1.out.2 (by omega)
              obtain ⟨bo, oo, rfl, hbo, hco⟩ := S3.out.2 (by omega)
              have y1 := hcp t htn
              have y3 := hco t htn
              rw [(HGG.out t htn).2] at y3
              have HHA := Lib.hid (rHas_any A2 z.length c2 z (t : Int) wr S2.out (by omega))
              have hdt : decide ((n : Int) ≤ (t : Int)) = false := by simp only [decide_eq_false_iff_not]; omega
              have hdt2 : decide (n ≤ t) = false := by simp only [decide_eq_false_iff_not]; omega
              clear hcp hco
              generalize (P.getD k []).getD t 0 = y at *
              by_cases hu : (t : Int) ∈ z
              · rw [if_pos hu] at y3
                rw [show hasI z (t : Int) = true from decide_eq_true hu] at HHA
                replace y3 : wr.cell? ⟨bo, oo + t, none⟩ = some (.int .u8 0) := y3
                clear hu
                go_wp2_with (go_at_call 18; refine HHA.out.mono ?_; rintro e w' ⟨rfl, rfl⟩)
                go_roundw
                case rel => exact ⟨t + 1, by omega, by go_num, by first | trivial | rfl⟩
                case measure => simp [intOf]; omega
              · rw [if_neg hu] at y3
                rw [show hasI z (t : Int) = false from decide_eq_false hu] at HHA
                clear hu
                go_wp2_with (go_at_call 18; refine HHA.out.mono ?_; rintro e w' ⟨rfl, rfl⟩)
                go_roundw
                case rel => exact ⟨t + 1, by omega, by go_num, by first | trivial | rfl⟩
                case measure => simp [intOf]; omega
            · obtain rfl : n = t := by omega
              go_wp2
              go_roundw
              case rel => first | exact ⟨k + 1, by omega, by go_num, HB5.out⟩ | ((repeat apply Exists.intro); exact ⟨⟨k + 1, by omega, by go_num, HB5.out⟩, rfl⟩)
              case measure => simp [intOf]; omega
      · obtain rfl : len1 = k := by omega
        clear hbr
        go_wp2_with (go_at_call 11; refine (extended_any _).mono ?_; rintro e w3 ⟨rfl, hb3⟩)
        go_ret
        exact ⟨rfl, Bw.step (HB2.out.trans (HBR.out.mono HB2.out.size)) hb3⟩
end Go.Proofs.Ytcinfkmekkdhfaa
