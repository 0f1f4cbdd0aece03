/- Product codes: the walk of the law that Decode corrects. -/
import Derived.Test.YtmpjkdkgolmgdaaPdX
import Derived.Test.YtmpjkdkgolmgdaaPdK
import Derived.Test.YtmpjkdkgolmgdaaPdR
import Derived.Test.YtmpjkdkgolmgdaaMf
namespace Go.Proofs.Ytmpjkdkgolmgdaa
open Go.RowKit
set_option linter.unusedVariables false

theorem dcnt_le2 (a b : List GF) (er : List Nat) (k : Nat) : dcnt a b er k ≤ k := dcnt_le a b er k
set_option maxRecDepth 100000 in
set_option maxHeartbeats 8000000 in
theorem pcGood (A Pa Va I : Option Addr) (n c mp cp mv cv me ce R C p q : Nat) (d vs : List GF) (ps er : List Int) (w : World) (RL : RdB w A n d) (RP : RdI w Pa mp ps) (RV : RdB w Va mv vs) (RI : RdI w I me er) (hn : n ≤ 9223372036854775807) (hnc : n ≤ c) (hmp : mp ≤ 9223372036854775807) (hmv : mv ≤ 9223372036854775807) (hme : me ≤ 1099511627776000) (hnn : n = (R - q) * (C - p)) (h1 : 1 ≤ R) (h2 : R ≤ 32) (h3 : 1 ≤ C) (h4 : C ≤ 32) (h5 : p < C) (h6 : q < R) :
    Calls Try.prog 7 #[.slice A n c, shpV R C p q, .slice Pa mp cp, .slice Va mv cv, .slice I me ce] w fun e w' => e = .returned (.bool true) ∧ Below w.heap.size w w' := by
  have HDF := Lib.hid (fun w => dataFault_any A n c R C p q w hn (by omega) (by omega))
  have HEN := Lib.hid (fun w (hl : RdB w A n d) => pdEncode_ok A n c R C p q d w hl hnc hnn h1 h2 h3 h4 h5 h6)
  rw [dtF_ok h1 h2 h3 h4 h5 h6 hnn] at HDF
  have HDL : Hid (d.length = (R - q) * (C - p)) := Lib.hid (RL.1.trans hnn)
  have HRL := Lib.hid RL
  have HRP := Lib.hid RP
  have HRV := Lib.hid RV
  have HRI := Lib.hid RI
  have hmul := mul32 h2 h4
  have hN : R * C ≤ 1024 := by have := hmul.2; rw [← Int.natCast_mul] at this; omega
  have hN0 : 0 < R * C := Nat.mul_pos h1 h3
  have em2 : (R : Int) * (C : Int) = ((R * C : Nat) : Int) := (Int.natCast_mul _ _).symm
  have em3 : IntKind.i64.wrap ((R : Int) * (C : Int)) = ((R * C : Nat) : Int) := by rw [IntWalk.i64_in _ (by omega)]; exact em2
  have HIN := Lib.hid (fun w (h : RdI w I me er) => rIncreasing_any I me ce er ((R * C : Nat) : Int) 10 w h (by omega) ⟨by omega, by omega⟩ (by omega))
  have S0 := S4.new w R C p q
  have B0 := below_new w (shpC R C p q)
  have HEM2 := Lib.hid em2
  have HEM3 := Lib.hid em3
  clear RL RP RV RI hnn em2 em3
  go_enter Try.func7, Try.ntmps7
  go_wp2_with fail
  refine (HEN.out _ (HRL.out.below B0)).mono ?_
  rintro e w1 ⟨A1, c1, b, rfl, ho1, hbk, hb1⟩
  ((first | replace B0 := Bw.step B0 hb1 | replace B0 := Bw.step (Bw.al B0 _) hb1 | replace B0 := Bw.step (Bw.al (Bw.al B0 _) _) hb1 | replace B0 := Bw.step (Bw.al (Bw.al (Bw.al B0 _) _) _) hb1 | replace B0 := Bw.step (Bw.al (Bw.al (Bw.al (Bw.al B0 _) _) _) _) hb1 | replace B0 := Bw.step (Bw.al (Bw.al (Bw.al (Bw.al (Bw.al B0 _) _) _) _) _) hb1 | replace B0 := Bw.step (Bw.al (Bw.al (Bw.al (Bw.al (Bw.al (Bw.al B0 _) _) _) _) _) _) hb1); (first | replace S0 := S0.below hb1 | replace S0 := (S0.al _).below hb1 | replace S0 := ((S0.al _).al _).below hb1 | replace S0 := (((S0.al _).al _).al _).below hb1 | replace S0 := ((((S0.al _).al _).al _).al _).below hb1 | replace S0 := (((((S0.al _).al _).al _).al _).al _).below hb1 | replace S0 := ((((((S0.al _).al _).al _).al _).al _).al _).below hb1))
  have HBK := Lib.hid hbk
  have F1 := Has.new w1 0 0 26
  have R1 := ho1.rd.1.al (fltC 0 0)
  clear ho1 hbk
  obtain ⟨ls, s0, s1, s2, s3⟩ := id S0
  go_wp2_with fail
  refine (HDF.out _).mono ?_
  rintro e w2 ⟨rfl, hb2⟩
  clear ls s0 s1 s2 s3
  ((first | replace B0 := Bw.step B0 hb2 | replace B0 := Bw.step (Bw.al B0 _) hb2 | replace B0 := Bw.step (Bw.al (Bw.al B0 _) _) hb2 | replace B0 := Bw.step (Bw.al (Bw.al (Bw.al B0 _) _) _) hb2 | replace B0 := Bw.step (Bw.al (Bw.al (Bw.al (Bw.al B0 _) _) _) _) hb2 | replace B0 := Bw.step (Bw.al (Bw.al (Bw.al (Bw.al (Bw.al B0 _) _) _) _) _) hb2 | replace B0 := Bw.step (Bw.al (Bw.al (Bw.al (Bw.al (Bw.al (Bw.al B0 _) _) _) _) _) _) hb2); (first | replace S0 := S0.below hb2 | replace S0 := (S0.al _).below hb2 | replace S0 := ((S0.al _).al _).below hb2 | replace S0 := (((S0.al _).al _).al _).below hb2 | replace S0 := ((((S0.al _).al _).al _).al _).below hb2 | replace S0 := (((((S0.al _).al _).al _).al _).al _).below hb2 | replace S0 := ((((((S0.al _).al _).al _).al _).al _).al _).below hb2); (first | replace F1 := F1.below hb2 | replace F1 := (F1.al _).below hb2 | replace F1 := ((F1.al _).al _).below hb2 | replace F1 := (((F1.al _).al _).al _).below hb2 | replace F1 := ((((F1.al _).al _).al _).al _).below hb2 | replace F1 := (((((F1.al _).al _).al _).al _).al _).below hb2 | replace F1 := ((((((F1.al _).al _).al _).al _).al _).al _).below hb2); (first | replace R1 := R1.below hb2 | replace R1 := (R1.al _).below hb2 | replace R1 := ((R1.al _).al _).below hb2 | replace R1 := (((R1.al _).al _).al _).below hb2 | replace R1 := ((((R1.al _).al _).al _).al _).below hb2 | replace R1 := (((((R1.al _).al _).al _).al _).al _).below hb2 | replace R1 := ((((((R1.al _).al _).al _).al _).al _).al _).below hb2))
  obtain ⟨ls, s0, s1, s2, s3⟩ := id S0
  have x2 := HEM2.out
  have x3 := HEM3.out
  obtain ⟨NN, hNN⟩ : ∃ NN, R * C = NN := ⟨_, rfl⟩
  have HNN := Lib.hid hNN
  rw [hNN] at x2 x3 HIN R1 hN hN0 ⊢
  clear hNN
  go_wp2_with fail
  refine (HIN.out _ (HRI.out.below B0)).mono ?_
  rintro e w3 ⟨rfl, hb3⟩
  clear ls s0 s1 s2 s3
  ((first | replace B0 := Bw.step B0 hb3 | replace B0 := Bw.step (Bw.al B0 _) hb3 | replace B0 := Bw.step (Bw.al (Bw.al B0 _) _) hb3 | replace B0 := Bw.step (Bw.al (Bw.al (Bw.al B0 _) _) _) hb3 | replace B0 := Bw.step (Bw.al (Bw.al (Bw.al (Bw.al B0 _) _) _) _) hb3 | replace B0 := Bw.step (Bw.al (Bw.al (Bw.al (Bw.al (Bw.al B0 _) _) _) _) _) hb3 | replace B0 := Bw.step (Bw.al (Bw.al (Bw.al (Bw.al (Bw.al (Bw.al B0 _) _) _) _) _) _) hb3); (first | replace S0 := S0.below hb3 | replace S0 := (S0.al _).below hb3 | replace S0 := ((S0.al _).al _).below hb3 | replace S0 := (((S0.al _).al _).al _).below hb3 | replace S0 := ((((S0.al _).al _).al _).al _).below hb3 | replace S0 := (((((S0.al _).al _).al _).al _).al _).below hb3 | replace S0 := ((((((S0.al _).al _).al _).al _).al _).al _).below hb3); (first | replace F1 := F1.below hb3 | replace F1 := (F1.al _).below hb3 | replace F1 := ((F1.al _).al _).below hb3 | replace F1 := (((F1.al _).al _).al _).below hb3 | replace F1 := ((((F1.al _).al _).al _).al _).below hb3 | replace F1 := (((((F1.al _).al _).al _).al _).al _).below hb3 | replace F1 := ((((((F1.al _).al _).al _).al _).al _).al _).below hb3); (first | replace R1 := R1.below hb3 | replace R1 := (R1.al _).below hb3 | replace R1 := ((R1.al _).al _).below hb3 | replace R1 := (((R1.al _).al _).al _).below hb3 | replace R1 := ((((R1.al _).al _).al _).al _).below hb3 | replace R1 := (((((R1.al _).al _).al _).al _).al _).below hb3 | replace R1 := ((((((R1.al _).al _).al _).al _).al _).al _).below hb3))
  by_cases hF : incF er (NN : Nat) 10 = (0, 0)
  · obtain ⟨es, rfl, hnd, hlt, hlen, hP⟩ := incF_nat hF
    rw [hF]
    have HES := Lib.hid hlt
    have HPW := Lib.hid hP
    have hle : es.length = me := by have := HRI.out.1; rw [toI_len] at this; exact this
    clear hF hnd hlt hlen hP
    obtain ⟨ls, s0, s1, s2, s3⟩ := id S0
    obtain ⟨l1, c10, c11, f10, f11⟩ := id F1
    have HLE := Lib.hid hle
    clear hle
    go_wp2_with fail
    refine (changed_any A1 Pa Va NN c1 mp cp mv cv b ps vs _ R1 (HRP.out.below B0) (HRV.out.below B0) (by omega) hmp hmv).mono ?_
    rintro e w4 ⟨A4, c4, rfl, ho4, hb4⟩
    clear ls s0 s1 s2 s3 l1 c10 c11 f10 f11
    ((first | replace B0 := Bw.step B0 hb4 | replace B0 := Bw.step (Bw.al B0 _) hb4 | replace B0 := Bw.step (Bw.al (Bw.al B0 _) _) hb4 | replace B0 := Bw.step (Bw.al (Bw.al (Bw.al B0 _) _) _) hb4 | replace B0 := Bw.step (Bw.al (Bw.al (Bw.al (Bw.al B0 _) _) _) _) hb4 | replace B0 := Bw.step (Bw.al (Bw.al (Bw.al (Bw.al (Bw.al B0 _) _) _) _) _) hb4 | replace B0 := Bw.step (Bw.al (Bw.al (Bw.al (Bw.al (Bw.al (Bw.al B0 _) _) _) _) _) _) hb4); (first | replace S0 := S0.below hb4 | replace S0 := (S0.al _).below hb4 | replace S0 := ((S0.al _).al _).below hb4 | replace S0 := (((S0.al _).al _).al _).below hb4 | replace S0 := ((((S0.al _).al _).al _).al _).below hb4 | replace S0 := (((((S0.al _).al _).al _).al _).al _).below hb4 | replace S0 := ((((((S0.al _).al _).al _).al _).al _).al _).below hb4); (first | replace F1 := F1.below hb4 | replace F1 := (F1.al _).below hb4 | replace F1 := ((F1.al _).al _).below hb4 | replace F1 := (((F1.al _).al _).al _).below hb4 | replace F1 := ((((F1.al _).al _).al _).al _).below hb4 | replace F1 := (((((F1.al _).al _).al _).al _).al _).below hb4 | replace F1 := ((((((F1.al _).al _).al _).al _).al _).al _).below hb4); (first | replace R1 := R1.below hb4 | replace R1 := (R1.al _).below hb4 | replace R1 := ((R1.al _).al _).below hb4 | replace R1 := (((R1.al _).al _).al _).below hb4 | replace R1 := ((((R1.al _).al _).al _).al _).below hb4 | replace R1 := (((((R1.al _).al _).al _).al _).al _).below hb4 | replace R1 := ((((((R1.al _).al _).al _).al _).al _).al _).below hb4))
    have R4 := ho4.rd.1
    have HXL : Hid ((changedL b ps vs).length = NN) := Lib.hid (by rw [changedL_len]; exact R1.1)
    have HIX := Lib.hid (fun w (h : RdB w A4 NN (changedL b ps vs)) (hi : RdI w I me (toI es)) => pdDecode_ok A4 I NN c4 me ce R C p q (changedL b ps vs) (toI es) w h hi (by omega) HNN.out.symm h1 h2 h3 h4 h5 h6)
    have HUR := Lib.hid (fun hw => unblock_right (d := d) (b := b) (x := changedL b ps vs) (es := es) (R := R) (C := C) (p := p) (q := q) h3 (by omega) (by omega) (by omega) (by omega) HDL.out HBK.out (HXL.out.trans HNN.out.symm) (fun i hi => by rw [HNN.out]; exact HES.out i hi) hw)
    have HWR := Lib.hid (fun W (hb : RdB W A1 NN b) (hx : RdB W A4 NN (changedL b ps vs)) (hi : RdI W I me (toI es)) => rWrong_any A1 A4 I NN c1 c4 me ce R C p q b (changedL b ps vs) es W hb hx hi HNN.out.symm h2 h4 h5 (by omega))
    clear ho4
    have hwl := wrongN_le b (changedL b ps vs) es C p R
    generalize wrongN b (changedL b ps vs) es C p R = wn at *
    have kd1 : ((q : Int)).tdiv 2 = ((q / 2 : Nat) : Int) := by rw [Int.tdiv_eq_ediv_of_nonneg (by omega)]; rfl
    have kd2 : ((q : Int)) / 2 = ((q / 2 : Nat) : Int) := rfl
    have hqh : q / 2 ≤ 32 := Nat.le_trans (Nat.div_le_self _ _) (by omega)
    generalize hq2 : q / 2 = qh at *
    have HQ2 := Lib.hid hq2
    clear hq2
    have hx0 := fun (x : Ext w4) => (S0.below x.below).2.1
    have hx1 := fun (x : Ext w4) => (S0.below x.below).2.2.1
    have hx2 := fun (x : Ext w4) => (S0.below x.below).2.2.2.1
    have hx3 := fun (x : Ext w4) => (S0.below x.below).2.2.2.2
    have HB0 := Lib.hid B0
    have HR1 := Lib.hid R1
    have HR4 := Lib.hid R4
    clear B0 R1 R4
    go_wp2
    (refine wp_region_ext (by kernel_rfl) (by kernel_rfl) ?_; (repeat (go_big_quiet_step ((go_at_call 28; exact ext_call (HWR.out _ (HR1.out.below (Ext.below _)) (HR4.out.below (Ext.below _)) (HRI.out.below (Bw.step HB0.out (Ext.below _)))))))); refine wpQuiet_nil ?_; intro W5 hw'; have hW5 := ext_below hw'; clear hw')
    clear hx0 hx1 hx2 hx3
    have S0 := S0.below hW5
    have F1 := F1.below hW5
    have HB5 := Lib.hid (Bw.step HB0.out hW5)
    have HR5 := Lib.hid (HR1.out.below hW5)
    have HX5 := Lib.hid (HR4.out.below hW5)
    clear HB0 HR1 HR4 hW5 HWR HIN
    by_cases hwq : wn ≤ qh
    · have hun := HUR.out hwq
      have HUN := Lib.hid hun
      clear hun HUR
      obtain ⟨ls, s0, s1, s2, s3⟩ := id S0
      go_wp2_with fail
      refine (HIX.out _ HX5.out (HRI.out.below HB5.out)).mono ?_
      rintro e w6 ⟨hb6, hpost⟩
      rcases hpost with ⟨hF, _⟩ | ⟨es', he, hnd, hlt, hP, A6, d6, A7, d7, rfl, ho6, ho7⟩
      · exact absurd (incF_of 10 HES.out HPW.out) hF
      · obtain rfl := toI_inj he
        rw [HUN.out] at ho6 ho7 ⊢
        have R6 := ho6.rd.1
        have B6 := Bw.step HB5.out hb6
        have Q1 := HR5.out.below hb6
        have Q2 := HX5.out.below hb6
        have F6 := Has.new w6 0 0 26
        have hdl := dcnt_le b (changedL b ps vs) [] (R * C)
        have y1 := Lib.hid (sameB_self d)
        have HDI := Lib.hid (fun W (ha : RdB W A1 NN b) (hb : RdB W A4 NN (changedL b ps vs)) => differences_any A1 A4 none NN c1 c4 0 NN 0 b (changedL b ps vs) [] W ha hb (RdI.nil _ _) (Nat.le_refl _) (by omega) (by omega))
        rw [HNN.out] at hdl ⊢
        generalize dcnt b (changedL b ps vs) [] NN = dn at *
        clear ho6 ho7 he hnd hlt hP ls s0 s1 s2 s3
        obtain ⟨l6, c60, c61, f60, f61⟩ := id F6
        go_wp2_with (first | (go_at_call 17; refine (refSame_any _ _ _ _ _ _ _ _ _ (R6.al _) (HRL.out.below (Bw.al B6 _))).mono ?_; rw [y1.out]; rintro e w' ⟨rfl, rfl⟩) | (go_at_call 29; refine (HDI.out _ (Q1.al _) (Q2.al _)).mono ?_; rintro e w' ⟨rfl, hb7⟩) | (go_at_call 16; refine (squared_any _).mono ?_; rintro e w' ⟨rfl, hb9⟩))
        go_ret
        exact ⟨rfl, Bw.step (Bw.step (Bw.al B6 _) hb7) hb9⟩
    · have B5 := HB5.out
      go_wp2_with (go_at_call 16; refine (squared_any _).mono ?_; rintro e w' ⟨rfl, hb9⟩)
      go_ret
      exact ⟨rfl, Bw.step B5 hb9⟩
  · have hc : (incF er (NN : Nat) 10).1 = 4 ∨ (incF er (NN : Nat) 10).1 = 11 := by
      rcases incF_code er (NN : Nat) 10 with h | ⟨k, _, h⟩ | ⟨k, _, h⟩
      · exact absurd h hF
      · rw [h]; exact .inl rfl
      · rw [h]; exact .inr rfl
    generalize (incF er (NN : Nat) 10).1 = fc at *
    generalize (incF er (NN : Nat) 10).2 = fi at *
    have xC : (fc == 0) = false := by rw [beq_eq_false_iff_ne]; omega
    have xC2 : (fc != 0) = true := by rw [bne, xC]; rfl
    clear hF hc
    go_wp2_with (go_at_call 16; refine (squared_any _).mono ?_; rintro e w' ⟨rfl, hb9⟩)
    go_ret
    exact ⟨rfl, Bw.step B0 hb9⟩
set_option maxRecDepth 100000 in
set_option maxHeartbeats 4000000 in
theorem walkProductCorrects (A : Option Addr) (n c : Nat) (zs : List Int) (R C p q : Int) (Pa : Option Addr) (mp cp : Nat) (ys : List Int) (Va : Option Addr) (mv cv : Nat) (xs : List Int) (I : Option Addr) (me ce : Nat) (us : List Int) (w : World) (w0 : IsRow .u8 w A n c zs) (w1 : (Lit.int .i64 R).wf = true ∧ (Lit.int .i64 C).wf = true ∧ (Lit.int .i64 p).wf = true ∧ (Lit.int .i64 q).wf = true) (w2 : IsRow .i64 w Pa mp cp ys) (w3 : IsRow .u8 w Va mv cv xs) (w4 : IsRow .i64 w I me ce us) (room0 : n * 1 ≤ 140737488355328) (room2 : mp * 8 ≤ 140737488355328) (room3 : mv * 1 ≤ 140737488355328) (room4 : me * 8 ≤ 140737488355328) :
    Calls Try.prog 7 #[.slice A n c, shpV R C p q, .slice Pa mp cp, .slice Va mv cv, .slice I me ce] w fun e w' => e = .returned (.bool true) ∧ Below w.heap.size w w' := by
  obtain ⟨l, RL, hn, hnc⟩ := w0.bytes4
  obtain ⟨ps, RP, hmp, _, _⟩ := w2.rdI
  obtain ⟨vs, RV, hmv, _⟩ := w3.bytes4
  obtain ⟨er, RI, hme, _, _⟩ := w4.rdI
  have hR := wf64 w1.1
  have hC := wf64 w1.2.1
  clear w0 w1 w2 w3 w4
  by_cases hbad : dtF n R C p q = (0, 0)
  · rcases dtF_cases n R C p q with ⟨R, C, p, q, rfl, rfl, rfl, rfl, h1, h2, h3, h4, h5, h6, hnn, h⟩ | ⟨hs, h⟩ | ⟨_, _, _, _, _, _, _, _, _, _, _, _, _, _, _, h⟩
    · exact pcGood A Pa Va I n c mp cp mv cv me ce R C p q l vs ps er w RL RP RV RI hn hnc hmp hmv (by omega) hnn h1 h2 h3 h4 h5 h6
    · rw [h] at hbad; exact absurd hbad hs
    · rw [h] at hbad; cases hbad
  · have HEN := Lib.hid (fun w => pdEncode_bad A n c R C p q w hn hbad)
    have HDF := Lib.hid (fun w => dataFault_any A n c R C p q w hn hC hR)
    have hc := (dtF_code n R C p q).resolve_left hbad
    have hc0 : ((dtF n R C p q).1 == 0) = false := by rw [beq_eq_false_iff_ne]; exact hc
    have hc1 : ((dtF n R C p q).1 != 0) = true := by rw [bne, hc0]; rfl
    generalize (dtF n R C p q).1 = fc at *
    generalize (dtF n R C p q).2 = fi at *
    have S0 := S4.new w R C p q
    have B0 := below_new w (shpC R C p q)
    clear hbad RL RP RV RI
    go_enter Try.func7, Try.ntmps7
    go_wp2_with fail
    refine (HEN.out _).mono ?_
    rintro e w1 ⟨rfl, hb1⟩
    ((first | replace B0 := Bw.step B0 hb1 | replace B0 := Bw.step (Bw.al B0 _) hb1 | replace B0 := Bw.step (Bw.al (Bw.al B0 _) _) hb1 | replace B0 := Bw.step (Bw.al (Bw.al (Bw.al B0 _) _) _) hb1 | replace B0 := Bw.step (Bw.al (Bw.al (Bw.al (Bw.al B0 _) _) _) _) hb1 | replace B0 := Bw.step (Bw.al (Bw.al (Bw.al (Bw.al (Bw.al B0 _) _) _) _) _) hb1 | replace B0 := Bw.step (Bw.al (Bw.al (Bw.al (Bw.al (Bw.al (Bw.al B0 _) _) _) _) _) _) hb1); (first | replace S0 := S0.below hb1 | replace S0 := (S0.al _).below hb1 | replace S0 := ((S0.al _).al _).below hb1 | replace S0 := (((S0.al _).al _).al _).below hb1 | replace S0 := ((((S0.al _).al _).al _).al _).below hb1 | replace S0 := (((((S0.al _).al _).al _).al _).al _).below hb1 | replace S0 := ((((((S0.al _).al _).al _).al _).al _).al _).below hb1))
    have F1 := Has.new w1 fc fi 26
    obtain ⟨ls, s0, s1, s2, s3⟩ := id S0
    go_wp2_with fail
    refine (HDF.out _).mono ?_
    rintro e w2 ⟨rfl, hb2⟩
    clear ls s0 s1 s2 s3
    ((first | replace B0 := Bw.step B0 hb2 | replace B0 := Bw.step (Bw.al B0 _) hb2 | replace B0 := Bw.step (Bw.al (Bw.al B0 _) _) hb2 | replace B0 := Bw.step (Bw.al (Bw.al (Bw.al B0 _) _) _) hb2 | replace B0 := Bw.step (Bw.al (Bw.al (Bw.al (Bw.al B0 _) _) _) _) hb2 | replace B0 := Bw.step (Bw.al (Bw.al (Bw.al (Bw.al (Bw.al B0 _) _) _) _) _) hb2 | replace B0 := Bw.step (Bw.al (Bw.al (Bw.al (Bw.al (Bw.al (Bw.al B0 _) _) _) _) _) _) hb2); (first | replace F1 := F1.below hb2 | replace F1 := (F1.al _).below hb2 | replace F1 := ((F1.al _).al _).below hb2 | replace F1 := (((F1.al _).al _).al _).below hb2 | replace F1 := ((((F1.al _).al _).al _).al _).below hb2 | replace F1 := (((((F1.al _).al _).al _).al _).al _).below hb2 | replace F1 := ((((((F1.al _).al _).al _).al _).al _).al _).below hb2))
    obtain ⟨l1, c10, c11, f10, f11⟩ := id F1
    go_wp2_with (go_at_call 16; refine (squared_any _).mono ?_; rintro e w' ⟨rfl, hb9⟩)
    go_ret
    exact ⟨rfl, Bw.step B0 hb9⟩
end Go.Proofs.Ytmpjkdkgolmgdaa
