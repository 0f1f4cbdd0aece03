/- Product codes: the walk of the reference's Block. -/
import Derived.Test.YtmpjkdkgolmgdaaPdP
import Derived.Test.YtmpjkdkgolmgdaaMf
namespace Go.Proofs.Ytmpjkdkgolmgdaa
open Go.RowKit
set_option linter.unusedVariables false

/-- A column of the data, and a row of the extended columns. -/
def colD (d : List GF) (H W c : Nat) : List GF := lineF H fun r => d.getD (r * W + c) 0
def rowM (L : List (List GF)) (W r : Nat) : List GF := lineF W fun c => (L.getD c []).getD r 0
def LongOK (d : List GF) (H W q k : Nat) (L : List (List GF)) : Prop := L.length = k ∧ ∀ c, c < k → IsEnc (colD d H W c) q (L.getD c [])
theorem LongOK.step {d : List GF} {H W q k : Nat} {L : List (List GF)} {wd : List GF} (h : LongOK d H W q k L) (hw : IsEnc (colD d H W k) q wd) : LongOK d H W q (k + 1) (L ++ [wd]) := by
  refine ⟨by rw [List.length_append, h.1]; rfl, fun c hc => ?_⟩
  by_cases e : c < k
  · rw [getD_app_l (by rw [h.1]; exact e)]; exact h.2 c e
  · obtain rfl : c = k := by omega
    rw [show (L ++ [wd]).getD c [] = wd by rw [← h.1]; exact getD_app_r]; exact hw
def OutOK (L : List (List GF)) (C W p k : Nat) (b : List GF) : Prop := b.length = k * C ∧ ∀ r, r < k → IsEnc (rowM L W r) p (rowW C b r)
theorem app_getL {a b : List GF} {i : Nat} (h : i < a.length) : (a ++ b).getD i 0 = a.getD i 0 := getD_app_l h
theorem app_getR {a b : List GF} (i : Nat) : (a ++ b).getD (a.length + i) 0 = b.getD i 0 := by simp [List.getD, List.getElem?_append_right]
theorem OutOK.step {L : List (List GF)} {C W p k : Nat} {b wd : List GF} (h : OutOK L C W p k b) (hw : IsEnc (rowM L W k) p wd) (hl : wd.length = C) : OutOK L C W p (k + 1) (b ++ wd) := by
  refine ⟨by rw [List.length_append, h.1, hl, Nat.add_mul, Nat.one_mul], fun r hr => ?_⟩
  by_cases e : r < k
  · have : rowW C (b ++ wd) r = rowW C b r := lineF_congr fun c hc => by
      unfold at2
      exact app_getL (by rw [h.1]; exact place_lt e hc)
    rw [this]; exact h.2 r e
  · obtain rfl : r = k := by omega
    have : rowW C (b ++ wd) r = wd := by
      unfold rowW
      refine lineF_eq hl fun c hc => ?_
      unfold at2
      rw [← h.1]; exact app_getR c
    rw [this]; exact hw
theorem enc_get {l wd : List GF} {p i : Nat} (h : IsEnc l p wd) (hi : i < l.length) : wd.getD i 0 = l.getD i 0 := by
  have h1 := h.1
  conv => rhs; rw [← h.2.1]
  simp [List.getD, hi]
theorem out_block {d b : List GF} {R C p q : Nat} {L : List (List GF)} (hC : C ≤ 255) (hp : p ≤ C) (hq : q ≤ R) (hL : LongOK d (R - q) (C - p) q (C - p) L) (hb : OutOK L C (C - p) p R b) : IsBlock d R C p q b := by
  have hat : ∀ r, r < R → ∀ c, c < C - p → at2 b C r c = (L.getD c []).getD r 0 := fun r hr c hc => by
    have h1 := enc_get (hb.2 r hr) (i := c) (by unfold rowM; rw [lineF_len]; exact hc)
    unfold rowM rowW at h1
    rw [lineF_get hc, lineF_get (by omega)] at h1
    exact h1
  refine block_of' hC hp hb.1 (fun c hc => ?_) (fun r hr => (hb.2 r hr).2.2)
  have hE := hL.2 c hc
  have hlen : (L.getD c []).length = R := by rw [hE.1]; unfold colD; rw [lineF_len]; omega
  constructor
  · have : colW R C b c = L.getD c [] := by
      unfold colW
      exact lineF_eq hlen fun r hr => hat r hr c hc
    rw [this]; exact hE.2.2
  · intro r hr
    rw [hat r (by omega) c hc, enc_get hE (by unfold colD; rw [lineF_len]; exact hr)]
    unfold colD
    rw [lineF_get hr]
set_option maxRecDepth 100000 in
set_option maxHeartbeats 8000000 in
theorem rBlock_any (A : Option Addr) (n c R C p q : Nat) (d : List GF) (w : World) (hd : RdB w A n d) (hn : n = (R - q) * (C - p)) (h1 : 1 ≤ R) (h2 : R ≤ 32) (h3 : 1 ≤ C) (h4 : C ≤ 32) (h5 : p < C) (h6 : q < R) :
    Calls Try.prog 18 #[.slice A n c, shpV R C p q] w fun e w' => ∃ A' c' b, e = .returned (.slice A' (R * C) c') ∧ OwB w' w.heap.size (.slice A' (R * C) c') b ∧ IsBlock d R C p q b ∧ Below w.heap.size w w' := by
  have HBL := Lib.hid (fun (L : List (List GF)) (b : List GF) (hL : LongOK d (R - q) (C - p) q (C - p) L) (hb : OutOK L C (C - p) p R b) => out_block (d := d) (b := b) (R := R) (C := C) (p := p) (q := q) (L := L) (by omega) (by omega) (by omega) hL hb)
  have hRC := mul32 h2 h4
  have hN : R * C ≤ 1024 := by have := hRC.2; rw [← Int.natCast_mul] at this; omega
  have HD := Lib.hid hd
  have HN := Lib.hid hn
  have ws1 : (C : Int) - p = ((C - p : Nat) : Int) := by omega
  have ws2 : IntKind.i64.wrap ((C : Int) - p) = ((C - p : Nat) : Int) := by rw [IntWalk.i64_in _ (by omega)]; exact ws1
  have wt1 : (R : Int) - q = ((R - q : Nat) : Int) := by omega
  have wt2 : IntKind.i64.wrap ((R : Int) - q) = ((R - q : Nat) : Int) := by rw [IntWalk.i64_in _ (by omega)]; exact wt1
  have hWp : C - p + p = C ∧ 1 ≤ C - p := by omega
  have hHq : R - q + q = R ∧ 1 ≤ R - q := by omega
  have S0 := S4.new w R C p q
  have B0 := below_new w (shpC R C p q)
  obtain ⟨Wd, hWd⟩ : ∃ Wd, C - p = Wd := ⟨_, rfl⟩
  obtain ⟨Hd, hHd⟩ : ∃ Hd, R - q = Hd := ⟨_, rfl⟩
  rw [hWd] at ws1 ws2 hWp HN HBL
  rw [hHd] at wt1 wt2 hHq HN HBL
  clear hd hn hWd hHd
  go_enter Try.func18, Try.ntmps18
  go_wp2
  generalize w.alloc (shpC R C p q) = W0 at *
  clear ws1 ws2 wt1 wt2
  go_loopw [7, 8] (fun v i wr => ∃ (k : Nat) (hv : List Value) (L : List (List GF)), k ≤ Wd ∧ i = .int .i64 k ∧ OwM wr (w.heap.size + 1) v hv L ∧ LongOK d Hd Wd q k L ∧ S4 wr w.heap.size R C p q ∧ Below w.heap.size w wr) (fun _ i _ => Wd - (intOf i).toNat)
  case atStart => exact ⟨0, [], [], Nat.zero_le _, rfl, OwM.nil _ _, ⟨rfl, fun c hc => absurd hc (Nat.not_lt_zero _)⟩, S0, B0⟩
  case round =>
    obtain ⟨k, hv, L, hk, rfl, hM, hL, hs, hbw⟩ := hrel
    clear S0 B0
    by_cases hlt : k < Wd
    · --[[L1
      have HM := Lib.hid hM
      have HL := Lib.hid hL
      have HS := Lib.hid hs
      have hLl : L.length ≤ 32 := by rw [hL.1]; omega
      have RD := Lib.hid (HD.out.below hbw)
      have hsz : w.heap.size + 1 ≤ wr.heap.size := hs.1
      have hcl : (colD d Hd Wd k).length = Hd := by unfold colD; rw [lineF_len]
      have HTC := Lib.hid (show (colD d Hd Wd k).take Hd = colD d Hd Wd k from List.take_of_length_le (by rw [hcl]; exact Nat.le_refl _))
      have HTL : Hid (∀ r, r < Hd → (colD d Hd Wd k).take (r + 1) = (colD d Hd Wd k).take r ++ [d.getD (r * Wd + k) 0]) := Lib.hid fun r hr => by
        have hlt : r < (colD d Hd Wd k).length := by rw [hcl]; exact hr
        rw [List.take_succ_eq_append_getElem hlt]
        congr 2
        have : (colD d Hd Wd k).getD r 0 = d.getD (r * Wd + k) 0 := by unfold colD; rw [lineF_get hr]
        rw [← this]; simp [List.getD, hlt]
      clear hM hL hs
      go_wp2
      obtain ⟨wo, rfl⟩ : ∃ wo : World, wo = wr := ⟨_, rfl⟩
      go_loopw [9, 10] (fun v i wr' => ∃ r : Nat, r ≤ Hd ∧ i = .int .i64 r ∧ OwB wr' wo.heap.size v ((colD d Hd Wd k).take r) ∧ Below wo.heap.size wo wr') (fun _ i _ => Hd - (intOf i).toNat)
      case atStart => exact ⟨0, Nat.zero_le _, rfl, OwB.nil _ _, Below.refl _ _⟩
      case round =>
        obtain ⟨r, hr, rfl, ho, hb1⟩ := hrel
        by_cases hlr : r < Hd
        · have HO1 := Lib.hid ho
          have HT := Lib.hid (HTL.out r hlr)
          have hpl := place_lt hlr hlt
          obtain ⟨pb, pe⟩ := place_int (R := Hd) (C := Wd) (by omega) (by omega) hlr hlt
          have hn0 : 0 < n := by have := HN.out; omega
          obtain ⟨bb, ob, rfl, hbb, hcb⟩ := (RD.out.below hb1).2 hn0
          have hcell := hcb (r * Wd + k) (by rw [HN.out]; exact hpl)
          have hix : r * Wd + k < n := by rw [HN.out]; exact hpl
          have hl2 : ((colD d Hd Wd k).take r).length ≤ 1024 := by rw [List.length_take, hcl]; omega
          have hsz2 := hb1.size
          have pe2 : (r : Int) * (Wd : Int) + (k : Int) = ((r * Wd + k : Nat) : Int) := pe.symm
          have pe3 : IntKind.i64.wrap ((r : Int) * (Wd : Int) + (k : Int)) = ((r * Wd + k : Nat) : Int) := by rw [IntWalk.i64_in _ (by omega)]; exact pe2
          clear ho hcb pe
          generalize (colD d Hd Wd k).take r = Lr at *
          generalize r * Wd + k = ix at *
          generalize d.getD ix 0 = y at *
          go_wp2_with (at_builtin; refine wpList_app1 wr rfl (.tmp 35) (.tmp 44) rfl wo.heap.size _ Lr HO1.out rfl y _ rfl (by omega) hsz2 ?_; intro v1 w1 ho1 hb2)
          go_roundw
          case rel => first | exact ⟨r + 1, by omega, by go_num, by (rw [HT.out]; exact ho1), hb1.trans hb2⟩ | ((repeat apply Exists.intro); exact ⟨⟨r + 1, by omega, by go_num, by (rw [HT.out]; exact ho1), hb1.trans hb2⟩, rfl⟩)
          case measure => simp [intOf]; omega
        · obtain rfl : r = Hd := by omega
          rw [HTC.out] at ho
          obtain ⟨A2, c2, e2⟩ := ho.form
          rw [hcl] at e2
          subst e2
          have hsz2 := hb1.size
          have HENC := Lib.hid (fun W (h : RdB W A2 r (colD d r Wd k)) => rEncode_any A2 r c2 q _ W h (by omega) (by omega))
          have HO := Lib.hid ho
          have HS1 := Lib.hid (HS.out.below hb1)
          obtain ⟨ls, s0, s1, s2, s3⟩ := id HS1.out
          have e3 : r + q = R := by omega
          rw [e3] at HENC
          clear ho
          generalize hcd : colD d r Wd k = cd at *
          have HCD := Lib.hid hcd
          clear hcd
          go_wp2_with (first
            | (go_at_call 39; refine (HENC.out _ HO.out.rd.1).mono ?_; rintro e w2 ⟨A3, c3, wd, rfl, ho3, hen, hb2⟩; have hz3 := hb2.size)
            | (at_builtin; refine wpList_pushM w2 rfl (.tmp 46) (.tmp 51) rfl (w.heap.size + 1) _ hv L ((HM.out.below hb1).below hb2) (.slice A3 R c3) wd (own_base ho3 (Nat.le_trans hsz hsz2)) (fun i hi => Apt.fresh (((HM.out.below hb1).row i hi)) ho3 (Nat.le_refl _)) (Apt.fresh (HM.out.below hb1).out ho3 (Nat.le_refl _)).symm rfl _ rfl (by omega) (by omega) ?_; intro v3 w3 hM3 hb3))
          have hb13 : Below w.heap.size w w3 := ((hbw.trans (hb1.mono (by omega))).trans (hb2.mono (by omega))).trans (hb3.mono (by omega))
          go_roundw
          case rel => first | exact ⟨k + 1, hv ++ [.slice A3 R c3], L ++ [wd], by omega, by go_num, hM3, HL.out.step (by rw [HCD.out]; exact hen), (HS1.out.below hb2).under hb3 (Nat.lt_succ_self _), hb13⟩ | ((repeat apply Exists.intro); exact ⟨⟨k + 1, hv ++ [.slice A3 R c3], L ++ [wd], by omega, by go_num, hM3, HL.out.step (by rw [HCD.out]; exact hen), (HS1.out.below hb2).under hb3 (Nat.lt_succ_self _), hb13⟩, rfl⟩)
          case measure => simp [intOf]; omega
    · --[[L2
      obtain rfl : k = Wd := by omega
      obtain ⟨A1, c1, e1⟩ := hM.form
      subst e1
      have hbM : Below wr.heap.size wr wr := Below.refl _ _
      have HM := Lib.hid hM.rd.1
      have HL := Lib.hid hL
      have HS := Lib.hid hs
      have HB := Lib.hid hbw
      have hLk := hL.1
      have HRL : Hid (∀ c, c < k → (L.getD c []).length = R) := Lib.hid fun c hc => by rw [(hL.2 c hc).1]; unfold colD; rw [lineF_len]; omega
      have hsz : w.heap.size + 1 ≤ wr.heap.size := hs.1
      rw [hLk] at HM
      rw [hLk]
      clear hM hL hs hbw HD HN hlt
      go_wp2
      obtain ⟨wo, rfl⟩ : ∃ wo : World, wo = wr := ⟨_, rfl⟩
      go_loopw [11, 12] (fun v i wr => ∃ (r : Nat) (b : List GF), r ≤ R ∧ i = .int .i64 r ∧ OwB wr wo.heap.size v b ∧ OutOK L C k p r b ∧ Below wo.heap.size wo wr) (fun _ i _ => R - (intOf i).toNat)
      case atStart => exact ⟨0, [], Nat.zero_le _, rfl, OwB.nil _ _, ⟨by rw [Nat.zero_mul]; rfl, fun c hc => absurd hc (Nat.not_lt_zero _)⟩, Below.refl _ _⟩
      case round =>
        obtain ⟨r, b, hr, rfl, ho, hO, hb1⟩ := hrel
        by_cases hlr : r < R
        · have HOB := Lib.hid ho
          have HOO := Lib.hid hO
          have hbl := hO.1
          have hbl2 : b.length ≤ 1024 := by rw [hbl]; exact Nat.le_trans (Nat.mul_le_mul_right C (by omega : r ≤ R)) hN
          have hS1 := HS.out.below hb1
          have hsz1 := hb1.size
          obtain ⟨ls, s0, s1, s2, s3⟩ := id hS1
          have hrl : (rowM L k r).length = k := by unfold rowM; rw [lineF_len]
          have HTC := Lib.hid (show (rowM L k r).take k = rowM L k r from List.take_of_length_le (by rw [hrl]; exact Nat.le_refl _))
          have HTL : Hid (∀ j, j < k → (rowM L k r).take (j + 1) = (rowM L k r).take j ++ [(L.getD j []).getD r 0]) := Lib.hid fun j hj => by
            have hlt : j < (rowM L k r).length := by rw [hrl]; exact hj
            rw [List.take_succ_eq_append_getElem hlt]
            congr 2
            have : (rowM L k r).getD j 0 = (L.getD j []).getD r 0 := by unfold rowM; rw [lineF_get hj]
            rw [← this]; simp [List.getD, hlt]
          clear ho hO
          go_wp2
          clear ls s0 s1 s2 s3
          obtain ⟨wp, rfl⟩ : ∃ wp : World, wp = wr := ⟨_, rfl⟩
          go_loopw [13, 14] (fun v i wr' => ∃ j : Nat, j ≤ k ∧ i = .int .i64 j ∧ OwB wr' wp.heap.size v ((rowM L k r).take j) ∧ Below wp.heap.size wp wr') (fun _ i _ => k - (intOf i).toNat)
          case atStart => exact ⟨0, Nat.zero_le _, rfl, OwB.nil _ _, Below.refl _ _⟩
          case round =>
            obtain ⟨j, hj, rfl, ho, hb2⟩ := hrel
            by_cases hlj : j < k
            · have HO1 := Lib.hid ho
              have HT := Lib.hid (HTL.out j hlj)
              obtain ⟨bm, om, rfl, hbm, hcm⟩ := ((HM.out.below hb1).below hb2).2 (by omega)
              obtain ⟨Ai, ci, hci, hri⟩ := hcm j hlj
              have hrj := HRL.out j hlj
              rw [hrj] at hci hri
              obtain ⟨bi, oi, rfl, hbi, hcc⟩ := hri.2 (by omega)
              have hcell := hcc r hlr
              have hl2 : ((rowM L k r).take j).length ≤ 1024 := by rw [List.length_take, hrl]; omega
              have hsz2 := hb2.size
              clear ho hcm hcc hri
              generalize (rowM L k r).take j = Lr at *
              generalize (L.getD j []).getD r 0 = y at *
              go_wp2_with (at_builtin; refine wpList_app1 wr rfl (.tmp 64) (.tmp 72) rfl wp.heap.size _ Lr HO1.out rfl y _ rfl (by omega) hsz2 ?_; intro v1 w1 ho1 hb3)
              go_roundw
              case rel => first | exact ⟨j + 1, by omega, by go_num, by (rw [HT.out]; exact ho1), hb2.trans hb3⟩ | ((repeat apply Exists.intro); exact ⟨⟨j + 1, by omega, by go_num, by (rw [HT.out]; exact ho1), hb2.trans hb3⟩, rfl⟩)
              case measure => simp [intOf]; omega
            · obtain rfl : j = k := by omega
              rw [HTC.out] at ho
              obtain ⟨A2, c2, e2⟩ := ho.form
              rw [hrl] at e2
              subst e2
              have hsz2 := hb2.size
              have HENC := Lib.hid (fun W (h : RdB W A2 j (rowM L j r)) => rEncode_any A2 j c2 p _ W h (by omega) (by omega))
              have HO := Lib.hid ho
              have HS1 := Lib.hid (hS1.below hb2)
              obtain ⟨ls, s0, s1, s2, s3⟩ := id HS1.out
              have e3 : j + p = C := by omega
              rw [e3] at HENC
              have HRM := Lib.hid hrl
              clear ho
              go_wp2_with (first
                | (go_at_call 39; refine (HENC.out _ HO.out.rd.1).mono ?_; rintro e w2 ⟨A3, c3, wd, rfl, ho3, hen, hb3⟩; have hz3 := hb3.size; have hwl : wd.length = C := by (rw [hen.1, HRM.out]; exact e3))
                | (at_builtin; refine wpList_appB w2 rfl (.tmp 74) (.tmp 78) rfl wo.heap.size _ b rfl ((HOB.out.below hb2).below hb3) A3 C c3 wd rfl ho3.rd.1 (by omega) (by omega) ?_; intro v3 w3 ho4 hg4 hat4))
              have hb4 : Below wo.heap.size w2 w3 := grown_below hg4 ((HOB.out.below hb2).below hb3) (by omega)
              have hb14 : Below wo.heap.size wo w3 := ((hb1.trans (hb2.mono (by omega))).trans (hb3.mono (by omega))).trans hb4
              go_roundw
              case rel => first | exact ⟨r + 1, b ++ wd, by omega, by go_num, ho4, HOO.out.step hen hwl, hb14⟩ | ((repeat apply Exists.intro); exact ⟨⟨r + 1, b ++ wd, by omega, by go_num, ho4, HOO.out.step hen hwl, hb14⟩, rfl⟩)
              case measure => simp [intOf]; omega
        · obtain rfl : r = R := by omega
          obtain ⟨A2, c2, e2⟩ := ho.form
          rw [hO.1] at e2
          subst e2
          have HZ := Lib.hid (HBL.out L b HL.out hO)
          have HO := Lib.hid ho
          have HBW := Lib.hid (HB.out.trans (hb1.mono (by omega)))
          have hS1 := HS.out.below hb1
          obtain ⟨ls, s0, s1, s2, s3⟩ := id hS1
          clear ho hO
          go_wp2
          go_ret
          exact ⟨A2, c2, b, rfl, own_base HO.out (by omega), HZ.out, HBW.out⟩
end Go.Proofs.Ytmpjkdkgolmgdaa
