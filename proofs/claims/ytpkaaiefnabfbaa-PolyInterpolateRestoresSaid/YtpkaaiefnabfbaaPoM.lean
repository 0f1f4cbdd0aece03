/- Walks of Gcd, of the package poly and of the reference, and of the statements PolyGcdMatchesSpec and PolyGcdKeepsFactors. -/
import Derived.Test.YtpkaaiefnabfbaaPoL
namespace Go.Proofs.Ytpkaaiefnabfbaa
open Go.RowKit
set_option linter.unusedVariables false

def GInv (a0 b0 : PS) (a b : List GF) : Prop := Tr a ∧ Tr b ∧ ∀ d, (Dv d (cf a) ∧ Dv d (cf b)) ↔ (Dv d a0 ∧ Dv d b0)
theorem GInv.start (a b : List GF) : GInv (cf a) (cf b) (trimL a) (trimL b) := ⟨Tr_trim a, Tr_trim b, fun d => by rw [cf_trim, cf_trim]⟩
theorem GInv.step {a0 b0 : PS} {a b q r : List GF} (h : GInv a0 b0 a b) (hd : Div a b q r) : GInv a0 b0 b r :=
  ⟨h.2.1, hd.2.1, fun d => (gcd_step (degB_cf q) hd.2.2.2 d).trans (h.2.2 d)⟩
theorem GInv.symm {a0 b0 : PS} {a b : List GF} (h : GInv a0 b0 a b) : GInv a0 b0 b a := ⟨h.2.1, h.1, fun d => And.comm.trans (h.2.2 d)⟩
theorem GInv.done {a0 b0 : PS} {a : List GF} (h : GInv a0 b0 a []) : ∀ d, Dv d (cf a) ↔ (Dv d a0 ∧ Dv d b0) := fun d => by
  rw [← h.2.2 d, cf_nil]; exact ⟨fun x => ⟨x, Dv.zero d⟩, fun x => x.1⟩
theorem GInv.endE {a0 b0 : PS} (h : GInv a0 b0 [] []) : IsGcd a0 b0 [] := gcd_nil h.done
theorem GInv.endN {a0 b0 : PS} {a : List GF} (h : GInv a0 b0 a []) (hne : a ≠ []) : IsGcd a0 b0 (prodP a [(cf a (a.length - 1)).inv]) := gcd_end h.1 h.done hne
theorem sumP_nil {a : List GF} (h : Tr a) : sumP a [] = a := by
  refine Tr_ext (Tr_ofF _ _) h ?_
  rw [cf_sumP, cf_nil]; funext i; exact GF.add_zero _
theorem nil_sumP {a : List GF} (h : Tr a) : sumP [] a = a := by rw [sumP_comm]; exact sumP_nil h
def GcdRel (a0 b0 : PS) (wr : World) (A B : Option Addr) (a b : List GF) : Prop := RdB wr A a.length a ∧ RdB wr B b.length b ∧ GInv a0 b0 a b
theorem OwB.wide {w : World} {B B' : Nat} {v : Value} {l : List GF} (h : OwB w B v l) (hB : B' ≤ B) : OwB w B' v l := own_base h hB
set_option maxRecDepth 100000 in
set_option maxHeartbeats 2000000 in
theorem poGcdP_ok (A B : Option Addr) (n m c d : Nat) (a b : List GF) (w : World) (ha : RdB w A n a) (hb : RdB w B m b) (hn : n ≤ 512) (hm : m ≤ 512) (hc : n ≤ c) (hd : m ≤ d) :
    Calls Try.prog 22 #[.slice A n c, .slice B m d] w fun e w' => ∃ A' c' g, e = .returned (.tuple #[.slice A' (List.length g) c', .agg #[.int .i64 0, .int .i64 0]]) ∧ OwB w' w.heap.size (.slice A' (List.length g) c') g ∧ IsGcd (cf a) (cf b) g ∧ Below w.heap.size w w' := by
  have HA := Lib.hid ha
  have HB := Lib.hid hb
  have la := trim_len_le a
  have lb := trim_len_le b
  rw [ha.1] at la
  rw [hb.1] at lb
  clear ha hb
  have G0 := Lib.hid (GInv.start a b)
  go_enter Try.func22, Try.ntmps22
  go_wp2_with fail
  refine (chk2 (w.alloc _) _ A B n m c d _ (by simp) (by omega) (by omega)).mono ?_
  rw [(lC_ok hn hm).1, (lC_ok hn hm).2]
  rintro e w1 ⟨rfl, hb1⟩
  have F0 := (Has.new w 0 0 24).below hb1
  have B1 := Bw.step (below_new w (.cells #[.int .i64 0, .int .i64 0] 24)) hb1
  have RA := HA.out.below B1
  have RB := HB.out.below B1
  go_wp2_with fail
  refine (poTrim_any _ _ _ _ _ (RA.al _) hc (by omega)).mono ?_; rintro e w2 ⟨A2, c2, rfl, ho2, hb2⟩
  have F2 := (F0.al _).below hb2
  have B2 := Bw.step (Bw.al B1 _) hb2
  have RB2 := (RB.al _).below hb2
  go_wp2_with fail
  refine (poTrim_any _ _ _ _ _ RB2 hd (by omega)).mono ?_; rintro e w3 ⟨A3, c3, rfl, ho3, hb3⟩
  have F3 := F2.below hb3
  have B3 := Bw.step B2 hb3
  have R2 := ho2.rd.1.below hb3
  have R3 := ho3.rd.1
  have C2 := ho2.cap.1
  have C3 := ho3.cap.1
  have HS := Lib.hid (show GcdRel (cf a) (cf b) w3 A2 A3 (trimL a) (trimL b) from ⟨R2, R3, G0.out⟩)
  clear ho2 ho3 hb1 hb2 hb3 R2 R3 RB2 RA RB F0 F2 B1 B2
  generalize trimL a = ta at *
  generalize trimL b = tb at *
  have hw1 : w.heap.size < w3.heap.size := F3.1
  go_wp2
  go_loopw [0, 1] (fun u v wr => ∃ A c a' B d b', u = .slice A (List.length a') c ∧ v = .slice B (List.length b') d ∧ List.length a' ≤ c ∧ List.length a' ≤ 512 ∧ List.length b' ≤ d ∧ List.length b' ≤ 512 ∧ GcdRel (cf a) (cf b) wr A B a' b' ∧ Has wr w.heap.size 0 0 ∧ Below w.heap.size w wr) (fun _ v _ => match v with | .slice _ n _ => n | _ => 0)
  case atStart => exact ⟨A2, c2, ta, A3, c3, tb, rfl, rfl, C2, by omega, C3, by omega, HS.out, F3, B3⟩
  case round =>
    obtain ⟨A4, c4, a4, A5, c5, b4, rfl, rfl, h1, h2, h3, h4, hG, hF, hbw⟩ := hrel
    have HG := Lib.hid hG
    clear hG
    by_cases hz : b4 = []
    · subst hz
      by_cases hy : a4 = []
      · subst hy
        obtain ⟨l0, c00, c01, f00, f01⟩ := id hF
        rw [show ([] : List GF).length = 0 from rfl]
        go_wp2
        exact bodyPost_ret (resF2 rfl rfl (hF.set2 0 0)) rfl ⟨none, 0, [], rfl, OwB.nil _ _, HG.out.2.2.endE, Bw.set (Bw.set hbw (Nat.le_refl _) _) (Nat.le_refl _) _⟩
      · have hpos : 0 < a4.length := List.length_pos_iff.2 hy
        have HGE := Lib.hid (HG.out.2.2.endN hy)
        obtain ⟨na, hna, htop, hda⟩ := Tr_top HG.out.2.2.1 hy
        obtain ⟨b9, o9, rfl, hl9, hc9⟩ := rd_cell HG.out.1 (i := a4.length - 1) (by omega)
        rw [show a4.length - 1 = na by omega] at HGE hc9
        have e1 : (a4.length : Int) - 1 = (na : Int) := by omega
        have HTOP := Lib.hid htop
        have x0 : ((a4.length : Int) == 0) = false := by rw [beq_eq_false_iff_ne]; omega
        have hna2 : na < a4.length := by omega
        have HR := Lib.hid HG.out.1
        generalize hx : cf a4 na = x at *
        clear hx hy htop hda hna
        rw [show ([] : List GF).length = 0 from rfl]
        go_wp2_with fail
        refine (gInvZ _ _ HTOP.out).mono ?_; rintro e w6 ⟨rfl, hb6⟩
        have F6 := (hF.below hb6).al (.cells #[.int .i64 0, .int .i64 0] 24)
        have B6 := Bw.al (Bw.step hbw hb6) (.cells #[.int .i64 0, .int .i64 0] 24)
        have R6 := (HR.out.below hb6).al (.cells #[.int .i64 0, .int .i64 0] 24)
        generalize x.inv = y at *
        go_wp2_with fail
        refine (poMul_any _ _ _ _ _ _ a4 [y] _ (R6.al _) (RdB.l1 _ _ y.z y _ (by simp) rfl) (by omega) (by omega)).mono ?_; rintro e w7 ⟨A7, c7, rfl, ho7, hb7⟩
        have F7 := (F6.al _).below hb7
        have B7 := Bw.step (Bw.al B6 _) hb7
        have hl := F6.1
        generalize prodP a4 [y] = g at *
        obtain ⟨l0, c00, c01, f00, f01⟩ := id F7
        go_wp2
        have hlt : w.heap.size < ((w6.alloc (.cells #[.int .i64 0, .int .i64 0] 24)).alloc (.cells #[.int .u8 y.z] 5)).heap.size := by rw [World.size_alloc]; omega
        exact bodyPost_ret (resF2 rfl rfl (F7.set2 0 0)) rfl ⟨A7, c7, g, rfl, own_base ((ho7.low (p := ⟨w.heap.size, 0, none⟩) hlt _).low (p := ⟨w.heap.size, 1, none⟩) hlt _) (Nat.le_of_lt hlt), HGE.out, Bw.set (Bw.set B7 (Nat.le_refl _) _) (Nat.le_refl _) _⟩
    · have hpos : 0 < b4.length := List.length_pos_iff.2 hz
      have HDV := Lib.hid (poDiv_any A4 A5 a4.length b4.length c4 c5 a4 b4 wr HG.out.1 HG.out.2.1 (by omega) (by omega) h1 HG.out.2.2.2.1 hz)
      clear hz
      go_wp2_with fail
      refine HDV.out.mono ?_
      rintro e w6 ⟨A6, c6, A7, c7, q, r, rfl, ho6, ho7, hdv, hb6⟩
      have hr := hdv.2.2.1
      have HS := Lib.hid (show GcdRel (cf a) (cf b) w6 A5 A7 b4 r from ⟨HG.out.2.1.below hb6, ho7.rd.1, HG.out.2.2.step hdv⟩)
      have C7 := ho7.cap.1
      have F6 := hF.below hb6
      have B6 := Bw.step hbw hb6
      clear ho6 ho7 hdv
      go_wp2
      go_roundw
      case rel => exact ⟨A5, c5, b4, A7, c7, r, rfl, rfl, h3, h4, C7, by omega, HS.out, F6, B6⟩
      case measure => exact hr
set_option maxHeartbeats 1000000 in
theorem poGcdP_bad (A B : Option Addr) (n m c d : Nat) (w : World) (hn : n ≤ 9223372036854775807) (hm : m ≤ 9223372036854775807) (hbad : ¬ (n ≤ 512 ∧ m ≤ 512)) :
    Calls Try.prog 22 #[.slice A n c, .slice B m d] w fun e w' => e = .returned (.tuple #[.slice none 0 0, .agg #[.int .i64 3, .int .i64 (lI n m)]]) ∧ Below w.heap.size w w' := by
  have HC := Lib.hid (lC_bad hbad)
  clear hbad
  generalize hx : lI n m = x
  have HX := Lib.hid hx
  clear hx
  go_enter Try.func22, Try.ntmps22
  go_wp2_with fail
  refine (chk2 (w.alloc _) _ A B n m c d _ (by simp) hn hm).mono ?_
  rw [HC.out, HX.out]
  rintro e w1 ⟨rfl, hb1⟩
  have F0 := (Has.new w 0 0 24).below hb1
  have B1 := Bw.step (below_new w (.cells #[.int .i64 0, .int .i64 0] 24)) hb1
  have F1 := F0.al (.cells #[.int .i64 3, .int .i64 x] 24)
  have F6 := Has.new w1 3 x 24
  have B2 := Bw.al B1 (.cells #[.int .i64 3, .int .i64 x] 24)
  obtain ⟨l0, c00, c01, f00, f01⟩ := id F1
  obtain ⟨l6, c60, c61, f60, f61⟩ := id F6
  go_wp2
  go_region
  all_goals
    go_wp2
    exact bodyPost_ret (resF2 rfl rfl (F1.set2 3 x)) rfl ⟨rfl, Bw.drew (Bw.set (Bw.set B2 (Nat.le_refl _) _) (Nat.le_refl _) _)⟩
set_option maxRecDepth 100000 in
set_option maxHeartbeats 2000000 in
theorem rGcd_any (A B : Option Addr) (n m c d : Nat) (a b : List GF) (w : World) (ha : RdB w A n a) (hb : RdB w B m b) (hn : n ≤ 512) (hm : m ≤ 512) (hc : n ≤ c) (hd : m ≤ d) :
    Calls Try.prog 23 #[.slice A n c, .slice B m d] w fun e w' => ∃ A' c' g, e = .returned (.slice A' (List.length g) c') ∧ RdB w' A' (List.length g) g ∧ IsGcd (cf a) (cf b) g ∧ Below w.heap.size w w' := by
  have HA := Lib.hid ha
  have HB := Lib.hid hb
  have la := trim_len_le a
  have lb := trim_len_le b
  rw [ha.1] at la
  rw [hb.1] at lb
  clear ha hb
  have G0 := Lib.hid (GInv.start a b)
  go_enter Try.func23, Try.ntmps23
  go_wp2_with fail
  refine (rTrim_any _ _ _ _ _ HA.out hc (by omega)).mono ?_; rintro e w2 ⟨A2, c2, rfl, ho2, hb2⟩
  go_wp2_with fail
  refine (rTrim_any _ _ _ _ _ (HB.out.below hb2) hd (by omega)).mono ?_; rintro e w3 ⟨A3, c3, rfl, ho3, hb3⟩
  have B3 := Bw.step hb2 hb3
  have R2 := ho2.rd.1.below hb3
  have R3 := ho3.rd.1
  have C2 := ho2.cap.1
  have C3 := ho3.cap.1
  have HS := Lib.hid (show GcdRel (cf a) (cf b) w3 A2 A3 (trimL a) (trimL b) from ⟨R2, R3, G0.out⟩)
  clear ho2 ho3 hb2 hb3 R2 R3
  generalize trimL a = ta at *
  generalize trimL b = tb at *
  go_wp2
  go_loopw [0, 1] (fun u v wr => ∃ A c a' B d b', u = .slice A (List.length a') c ∧ v = .slice B (List.length b') d ∧ List.length a' ≤ c ∧ List.length a' ≤ 512 ∧ List.length b' ≤ d ∧ List.length b' ≤ 512 ∧ GcdRel (cf a) (cf b) wr A B a' b' ∧ Below w.heap.size w wr) (fun u v _ => (match u with | .slice _ n _ => n | _ => 0) + (match v with | .slice _ n _ => n | _ => 0))
  case atStart => exact ⟨A2, c2, ta, A3, c3, tb, rfl, rfl, C2, by omega, C3, by omega, HS.out, B3⟩
  case round =>
    obtain ⟨A4, c4, a4, A5, c5, b4, rfl, rfl, h1, h2, h3, h4, hG, hbw⟩ := hrel
    have HG := Lib.hid hG
    clear hG
    by_cases hex : a4 = [] ∨ b4 = []
    · obtain ⟨g, hg⟩ : ∃ g, g = sumP a4 b4 := ⟨_, rfl⟩
      have hgi : GInv (cf a) (cf b) g [] := by
        rcases hex with rfl | rfl
        · rw [hg, nil_sumP HG.out.2.2.2.1]; exact HG.out.2.2.symm
        · rw [hg, sumP_nil HG.out.2.2.1]; exact HG.out.2.2
      have hgl : g.length ≤ 512 := by have := sumP_len a4 b4; rw [hg]; omega
      have HGI := Lib.hid hgi
      have HSUM := Lib.hid (rSum_any A4 A5 a4.length b4.length c4 c5 a4 b4 wr HG.out.1 HG.out.2.1 (by omega) (by omega))
      rw [← hg] at HSUM
      have hlen : a4.length = 0 ∨ b4.length = 0 := by
        rcases hex with rfl | rfl
        · exact .inl rfl
        · exact .inr rfl
      clear hgi hg hex
      have key : (a4.length ≤ 0) ∨ (0 < a4.length ∧ b4.length ≤ 0) := by omega
      clear hlen
      rcases key with k1 | ⟨k1, k2⟩
      all_goals
        first
          | (have d1 : decide (0 < (a4.length : Int)) = true := by simp only [decide_eq_true_eq]; omega)
          | (have d1 : decide (0 < (a4.length : Int)) = false := by simp only [decide_eq_false_iff_not]; omega)
        go_wp2_with fail
        refine HSUM.out.mono ?_
        rintro e w6 ⟨A6, c6, rfl, ho6, hb6⟩
        have R6 := ho6.rd.1
        have C6 := ho6.cap.1
        have B6 := Bw.step hbw hb6
        clear ho6
        by_cases hy : g = []
        · subst hy
          rw [show ([] : List GF).length = 0 from rfl] at R6 ⊢
          go_wp2
          go_ret
          exact ⟨A6, c6, [], rfl, R6, HGI.out.endE, B6⟩
        · have hpos : 0 < g.length := List.length_pos_iff.2 hy
          have HGE := Lib.hid (HGI.out.endN hy)
          obtain ⟨na, hna, htop, hda⟩ := Tr_top HGI.out.1 hy
          have HRR := Lib.hid R6
          obtain ⟨b9, o9, rfl, hl9, hc9⟩ := rd_cell R6 (i := g.length - 1) (by omega)
          rw [show g.length - 1 = na by omega] at HGE hc9
          have e1 : (g.length : Int) - 1 = (na : Int) := by omega
          have HTOP := Lib.hid htop
          have x0 : ((g.length : Int) == 0) = false := by rw [beq_eq_false_iff_ne]; omega
          have hna2 : na < g.length := by omega
          generalize hx : cf g na = x at *
          clear hx hy htop hda hna R6
          go_wp2_with fail
          refine (rInvZ _ _ HTOP.out).mono ?_; rintro e w7 ⟨rfl, rfl⟩
          generalize x.inv = y at *
          go_wp2_with fail
          refine (rProd_any _ _ _ _ _ _ g [y] _ (HRR.out.al _) (RdB.l1 _ _ y.z y _ rfl rfl) (by omega) (by omega)).mono ?_; rintro e w8 ⟨A8, c8, rfl, ho8, hb8⟩
          have R8 := ho8.rd.1
          clear ho8
          generalize prodP g [y] = g2 at *
          go_wp2
          go_ret
          exact ⟨A8, c8, g2, rfl, R8, HGE.out, Bw.step (Bw.al B6 _) hb8⟩
    · have ha4 : a4 ≠ [] := fun h => hex (.inl h)
      have hb4 : b4 ≠ [] := fun h => hex (.inr h)
      have hpa : 0 < a4.length := List.length_pos_iff.2 ha4
      have hpb : 0 < b4.length := List.length_pos_iff.2 hb4
      have HR1 := Lib.hid (rRest_any A4 A5 a4.length b4.length c4 c5 a4 b4 wr HG.out.1 HG.out.2.1 h1 h3 (by omega) (by omega) (by rw [Tr_trim_eq HG.out.2.2.2.1]; exact hb4))
      have HR2 := Lib.hid (rRest_any A5 A4 b4.length a4.length c5 c4 b4 a4 wr HG.out.2.1 HG.out.1 h3 h1 (by omega) (by omega) (by rw [Tr_trim_eq HG.out.2.2.1]; exact ha4))
      rw [Tr_trim_eq HG.out.2.2.2.1] at HR1
      rw [Tr_trim_eq HG.out.2.2.1] at HR2
      have d1 : decide (0 < (a4.length : Int)) = true := by simp only [decide_eq_true_eq]; omega
      clear hex ha4 hb4
      by_cases hge : b4.length ≤ a4.length
      · go_wp2_with fail
        refine HR1.out.mono ?_
        rintro e w6 ⟨A6, c6, q, r, rfl, R6, C6, hdv, hb6⟩
        have hr := hdv.2.2.1
        have HS := Lib.hid (show GcdRel (cf a) (cf b) w6 A6 A5 r b4 from ⟨R6, HG.out.2.1.below hb6, (HG.out.2.2.step hdv).symm⟩)
        have B6 := Bw.step hbw hb6
        clear hdv R6
        go_wp2
        go_roundw
        case rel => exact ⟨A6, c6, r, A5, c5, b4, rfl, rfl, C6, by omega, h3, h4, HS.out, B6⟩
        case measure => dsimp only; omega
      · go_wp2_with fail
        refine HR2.out.mono ?_
        rintro e w6 ⟨A6, c6, q, r, rfl, R6, C6, hdv, hb6⟩
        have hr := hdv.2.2.1
        have HS := Lib.hid (show GcdRel (cf a) (cf b) w6 A4 A6 a4 r from ⟨HG.out.1.below hb6, R6, (HG.out.2.2.symm.step hdv)⟩)
        have B6 := Bw.step hbw hb6
        clear hdv R6
        go_wp2
        go_roundw
        case rel => exact ⟨A4, c4, a4, A6, c6, r, rfl, rfl, h1, h2, C6, by omega, HS.out, B6⟩
        case measure => dsimp only; omega
end Go.Proofs.Ytpkaaiefnabfbaa
