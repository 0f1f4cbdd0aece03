/- Product codes: the walk of the law that Validate, Size and Encode meet their specification. -/
import Derived.Test.YtmpjkdkgolmgdaaPdU
import Derived.Test.YtmpjkdkgolmgdaaPdQ
namespace Go.Proofs.Ytmpjkdkgolmgdaa
open Go.RowKit
set_option linter.unusedVariables false

theorem OwB.excA {w w' : World} {B : Nat} {v : Value} {l : List GF} {gs : List Nat} (h : OwB w B v l) (hx : Exc gs w w') (hn : ∀ g, v.ownBlock = some g → g ∉ gs) : OwB w' B v l := own_exc h hx hn
set_option maxRecDepth 100000 in
set_option maxHeartbeats 4000000 in
theorem pmGood (A : Option Addr) (n c R C p q : Nat) (d : List GF) (w : World) (RL : RdB w A n d) (hn : n ≤ 9223372036854775807) (hnc : n ≤ c) (hnn : n = (R - q) * (C - p)) (h1 : 1 ≤ R) (h2 : R ≤ 32) (h3 : 1 ≤ C) (h4 : C ≤ 32) (h5 : p < C) (h6 : q < R) :
    Calls Try.prog 3 #[.slice A n c, shpV R C p q] w fun e w' => e = .returned (.bool true) ∧ Below w.heap.size w w' := by
  have HSF := Lib.hid (fun w => rShapeFault_any R C p q w (by omega) (by omega))
  have HVA := Lib.hid (fun w => pdValidate_any R C p q w)
  have HSZ := Lib.hid (fun w => pdSize_ok R C p q w h1 h2 h3 h4 h5 h6)
  have HDS := Lib.hid (fun w => rDataSize_nat R C p q w h2 h4 (by omega) (by omega))
  have HDF := Lib.hid (fun w => dataFault_any A n c R C p q w hn (by omega) (by omega))
  have HEN := Lib.hid (fun w (hl : RdB w A n d) => pdEncode_ok A n c R C p q d w hl hnc hnn h1 h2 h3 h4 h5 h6)
  have HBL := Lib.hid (fun w (hl : RdB w A n d) => rBlock_any A n c R C p q d w hl hnn h1 h2 h3 h4 h5 h6)
  have HUQ := Lib.hid (fun a b (ha : IsBlock d R C p q a) (hb : IsBlock d R C p q b) => block_unique (by omega) (by omega) (by omega) (by omega) ha hb)
  rw [shF_ok h1 h2 h3 h4 h5 h6] at HSF HVA
  rw [dtF_ok h1 h2 h3 h4 h5 h6 hnn] at HDF
  have HRL := Lib.hid RL
  generalize (R - q) * (C - p) = m at *
  have S0 := S4.new w R C p q
  have B0 := below_new w (shpC R C p q)
  clear RL hnn
  go_enter Try.func3, Try.ntmps3
  go_wp2_with fail
  refine (HSF.out _).mono ?_
  rintro e w1 ⟨rfl, hb1⟩
  ((first | replace B0 := Bw.step B0 hb1 | replace B0 := Bw.step (Bw.al B0 _) hb1 | replace B0 := Bw.step (Bw.al (Bw.al B0 _) _) hb1 | replace B0 := Bw.step (Bw.al (Bw.al (Bw.al B0 _) _) _) hb1 | replace B0 := Bw.step (Bw.al (Bw.al (Bw.al (Bw.al B0 _) _) _) _) hb1 | replace B0 := Bw.step (Bw.al (Bw.al (Bw.al (Bw.al (Bw.al B0 _) _) _) _) _) hb1 | replace B0 := Bw.step (Bw.al (Bw.al (Bw.al (Bw.al (Bw.al (Bw.al B0 _) _) _) _) _) _) hb1); (first | replace S0 := S0.below hb1 | replace S0 := (S0.al _).below hb1 | replace S0 := ((S0.al _).al _).below hb1 | replace S0 := (((S0.al _).al _).al _).below hb1 | replace S0 := ((((S0.al _).al _).al _).al _).below hb1 | replace S0 := (((((S0.al _).al _).al _).al _).al _).below hb1 | replace S0 := ((((((S0.al _).al _).al _).al _).al _).al _).below hb1))
  have F1 := Has.new w1 0 0 26
  have hz1 : w.heap.size < w1.heap.size := S0.1
  obtain ⟨ls, s0, s1, s2, s3⟩ := id S0
  go_wp2_with fail
  refine (HSZ.out _).mono ?_
  rintro e w2 ⟨rfl, hb2⟩
  clear ls s0 s1 s2 s3
  ((first | replace B0 := Bw.step B0 hb2 | replace B0 := Bw.step (Bw.al B0 _) hb2 | replace B0 := Bw.step (Bw.al (Bw.al B0 _) _) hb2 | replace B0 := Bw.step (Bw.al (Bw.al (Bw.al B0 _) _) _) hb2 | replace B0 := Bw.step (Bw.al (Bw.al (Bw.al (Bw.al B0 _) _) _) _) hb2 | replace B0 := Bw.step (Bw.al (Bw.al (Bw.al (Bw.al (Bw.al B0 _) _) _) _) _) hb2 | replace B0 := Bw.step (Bw.al (Bw.al (Bw.al (Bw.al (Bw.al (Bw.al B0 _) _) _) _) _) _) hb2); (first | replace S0 := S0.below hb2 | replace S0 := (S0.al _).below hb2 | replace S0 := ((S0.al _).al _).below hb2 | replace S0 := (((S0.al _).al _).al _).below hb2 | replace S0 := ((((S0.al _).al _).al _).al _).below hb2 | replace S0 := (((((S0.al _).al _).al _).al _).al _).below hb2 | replace S0 := ((((((S0.al _).al _).al _).al _).al _).al _).below hb2); (first | replace F1 := F1.below hb2 | replace F1 := (F1.al _).below hb2 | replace F1 := ((F1.al _).al _).below hb2 | replace F1 := (((F1.al _).al _).al _).below hb2 | replace F1 := ((((F1.al _).al _).al _).al _).below hb2 | replace F1 := (((((F1.al _).al _).al _).al _).al _).below hb2 | replace F1 := ((((((F1.al _).al _).al _).al _).al _).al _).below hb2))
  have F2 := Has.new w2 0 0 26
  have hz2 : w1.heap.size < w2.heap.size := F1.1
  obtain ⟨ls, s0, s1, s2, s3⟩ := id S0
  go_wp2_with fail
  refine (HEN.out _ (HRL.out.below (Bw.al B0 (fltC 0 0)))).mono ?_
  rintro e w3 ⟨A3, c3, b, rfl, ho3, hbk, hb3⟩
  clear ls s0 s1 s2 s3
  ((first | replace B0 := Bw.step B0 hb3 | replace B0 := Bw.step (Bw.al B0 _) hb3 | replace B0 := Bw.step (Bw.al (Bw.al B0 _) _) hb3 | replace B0 := Bw.step (Bw.al (Bw.al (Bw.al B0 _) _) _) hb3 | replace B0 := Bw.step (Bw.al (Bw.al (Bw.al (Bw.al B0 _) _) _) _) hb3 | replace B0 := Bw.step (Bw.al (Bw.al (Bw.al (Bw.al (Bw.al B0 _) _) _) _) _) hb3 | replace B0 := Bw.step (Bw.al (Bw.al (Bw.al (Bw.al (Bw.al (Bw.al B0 _) _) _) _) _) _) hb3); (first | replace S0 := S0.below hb3 | replace S0 := (S0.al _).below hb3 | replace S0 := ((S0.al _).al _).below hb3 | replace S0 := (((S0.al _).al _).al _).below hb3 | replace S0 := ((((S0.al _).al _).al _).al _).below hb3 | replace S0 := (((((S0.al _).al _).al _).al _).al _).below hb3 | replace S0 := ((((((S0.al _).al _).al _).al _).al _).al _).below hb3); (first | replace F1 := F1.below hb3 | replace F1 := (F1.al _).below hb3 | replace F1 := ((F1.al _).al _).below hb3 | replace F1 := (((F1.al _).al _).al _).below hb3 | replace F1 := ((((F1.al _).al _).al _).al _).below hb3 | replace F1 := (((((F1.al _).al _).al _).al _).al _).below hb3 | replace F1 := ((((((F1.al _).al _).al _).al _).al _).al _).below hb3); (first | replace F2 := F2.below hb3 | replace F2 := (F2.al _).below hb3 | replace F2 := ((F2.al _).al _).below hb3 | replace F2 := (((F2.al _).al _).al _).below hb3 | replace F2 := ((((F2.al _).al _).al _).al _).below hb3 | replace F2 := (((((F2.al _).al _).al _).al _).al _).below hb3 | replace F2 := ((((((F2.al _).al _).al _).al _).al _).al _).below hb3))
  have hz3 : w2.heap.size < w3.heap.size := F2.1
  have F3 := Has.new w3 0 0 26
  have F1 := F1.al (fltC 0 0)
  have F2 := F2.al (fltC 0 0)
  have S0 := S0.al (fltC 0 0)
  have B0 := Bw.al B0 (fltC 0 0)
  have R3 : OwB (w3.alloc (fltC 0 0)) (w2.alloc (fltC 0 0)).heap.size (.slice A3 (R * C) c3) b := own_below ho3 (below_new w3 _)
  clear ho3
  obtain ⟨l1, c10, c11, f10, f11⟩ := id F1
  obtain ⟨l2, c20, c21, f20, f21⟩ := id F2
  obtain ⟨l3, c30, c31, f30, f31⟩ := id F3
  obtain ⟨ls, s0, s1, s2, s3⟩ := id S0
  go_wp2
  generalize w3.alloc (fltC 0 0) = W3 at *
  clear l1 c10 c11 f10 f11 l2 c20 c21 f20 f21 l3 c30 c31 f30 f31 ls s0 s1 s2 s3
  have hx0 := fun (x : Ext W3) => (S0.below x.below).2.1
  have hx1 := fun (x : Ext W3) => (S0.below x.below).2.2.1
  have hx2 := fun (x : Ext W3) => (S0.below x.below).2.2.2.1
  have hx3 := fun (x : Ext W3) => (S0.below x.below).2.2.2.2
  have hx9 := fun (x : Ext W3) => (F1.ext x).1
  have hx10 := fun (x : Ext W3) => (F1.ext x).2
  have hx11 := fun (x : Ext W3) => (F2.ext x).1
  have hx12 := fun (x : Ext W3) => (F2.ext x).2
  (refine wp_region_ext (by kernel_rfl) (by kernel_rfl) ?_; (repeat (go_big_quiet_step ((go_at_call 13; exact ext_call (HVA.out _))))); refine wpQuiet_nil ?_; intro W5 hw'; have hW5 := ext_below hw'; clear hw')
  clear hx0 hx1 hx2 hx3 hx9 hx10 hx11 hx12
  have S0 := S0.below hW5
  have F1 := F1.below hW5
  have F3 := F3.below hW5
  have R3 := R3.below hW5
  have B0 := Bw.step B0 hW5
  obtain ⟨l1, c10, c11, f10, f11⟩ := id F1
  obtain ⟨ls, s0, s1, s2, s3⟩ := id S0
  clear hW5 F2
  go_wp2_with fail
  refine (HDS.out _).mono ?_
  rintro e w6 ⟨rfl, hb6⟩
  clear ls s0 s1 s2 s3 l1 c10 c11 f10 f11
  ((first | replace B0 := Bw.step B0 hb6 | replace B0 := Bw.step (Bw.al B0 _) hb6 | replace B0 := Bw.step (Bw.al (Bw.al B0 _) _) hb6 | replace B0 := Bw.step (Bw.al (Bw.al (Bw.al B0 _) _) _) hb6 | replace B0 := Bw.step (Bw.al (Bw.al (Bw.al (Bw.al B0 _) _) _) _) hb6 | replace B0 := Bw.step (Bw.al (Bw.al (Bw.al (Bw.al (Bw.al B0 _) _) _) _) _) hb6 | replace B0 := Bw.step (Bw.al (Bw.al (Bw.al (Bw.al (Bw.al (Bw.al B0 _) _) _) _) _) _) hb6); (first | replace S0 := S0.below hb6 | replace S0 := (S0.al _).below hb6 | replace S0 := ((S0.al _).al _).below hb6 | replace S0 := (((S0.al _).al _).al _).below hb6 | replace S0 := ((((S0.al _).al _).al _).al _).below hb6 | replace S0 := (((((S0.al _).al _).al _).al _).al _).below hb6 | replace S0 := ((((((S0.al _).al _).al _).al _).al _).al _).below hb6); (first | replace F1 := F1.below hb6 | replace F1 := (F1.al _).below hb6 | replace F1 := ((F1.al _).al _).below hb6 | replace F1 := (((F1.al _).al _).al _).below hb6 | replace F1 := ((((F1.al _).al _).al _).al _).below hb6 | replace F1 := (((((F1.al _).al _).al _).al _).al _).below hb6 | replace F1 := ((((((F1.al _).al _).al _).al _).al _).al _).below hb6); (first | replace F3 := F3.below hb6 | replace F3 := (F3.al _).below hb6 | replace F3 := ((F3.al _).al _).below hb6 | replace F3 := (((F3.al _).al _).al _).below hb6 | replace F3 := ((((F3.al _).al _).al _).al _).below hb6 | replace F3 := (((((F3.al _).al _).al _).al _).al _).below hb6 | replace F3 := ((((((F3.al _).al _).al _).al _).al _).al _).below hb6); (first | replace R3 := R3.below hb6 | replace R3 := (R3.al _).below hb6 | replace R3 := ((R3.al _).al _).below hb6 | replace R3 := (((R3.al _).al _).al _).below hb6 | replace R3 := ((((R3.al _).al _).al _).al _).below hb6 | replace R3 := (((((R3.al _).al _).al _).al _).al _).below hb6 | replace R3 := ((((((R3.al _).al _).al _).al _).al _).al _).below hb6))
  obtain ⟨l1, c10, c11, f10, f11⟩ := id F1
  obtain ⟨ls, s0, s1, s2, s3⟩ := id S0
  go_wp2_with fail
  refine (HDF.out _).mono ?_
  rintro e w7 ⟨rfl, hb7⟩
  clear ls s0 s1 s2 s3 l1 c10 c11 f10 f11
  ((first | replace B0 := Bw.step B0 hb7 | replace B0 := Bw.step (Bw.al B0 _) hb7 | replace B0 := Bw.step (Bw.al (Bw.al B0 _) _) hb7 | replace B0 := Bw.step (Bw.al (Bw.al (Bw.al B0 _) _) _) hb7 | replace B0 := Bw.step (Bw.al (Bw.al (Bw.al (Bw.al B0 _) _) _) _) hb7 | replace B0 := Bw.step (Bw.al (Bw.al (Bw.al (Bw.al (Bw.al B0 _) _) _) _) _) hb7 | replace B0 := Bw.step (Bw.al (Bw.al (Bw.al (Bw.al (Bw.al (Bw.al B0 _) _) _) _) _) _) hb7); (first | replace S0 := S0.below hb7 | replace S0 := (S0.al _).below hb7 | replace S0 := ((S0.al _).al _).below hb7 | replace S0 := (((S0.al _).al _).al _).below hb7 | replace S0 := ((((S0.al _).al _).al _).al _).below hb7 | replace S0 := (((((S0.al _).al _).al _).al _).al _).below hb7 | replace S0 := ((((((S0.al _).al _).al _).al _).al _).al _).below hb7); (first | replace F1 := F1.below hb7 | replace F1 := (F1.al _).below hb7 | replace F1 := ((F1.al _).al _).below hb7 | replace F1 := (((F1.al _).al _).al _).below hb7 | replace F1 := ((((F1.al _).al _).al _).al _).below hb7 | replace F1 := (((((F1.al _).al _).al _).al _).al _).below hb7 | replace F1 := ((((((F1.al _).al _).al _).al _).al _).al _).below hb7); (first | replace F3 := F3.below hb7 | replace F3 := (F3.al _).below hb7 | replace F3 := ((F3.al _).al _).below hb7 | replace F3 := (((F3.al _).al _).al _).below hb7 | replace F3 := ((((F3.al _).al _).al _).al _).below hb7 | replace F3 := (((((F3.al _).al _).al _).al _).al _).below hb7 | replace F3 := ((((((F3.al _).al _).al _).al _).al _).al _).below hb7); (first | replace R3 := R3.below hb7 | replace R3 := (R3.al _).below hb7 | replace R3 := ((R3.al _).al _).below hb7 | replace R3 := (((R3.al _).al _).al _).below hb7 | replace R3 := ((((R3.al _).al _).al _).al _).below hb7 | replace R3 := (((((R3.al _).al _).al _).al _).al _).below hb7 | replace R3 := ((((((R3.al _).al _).al _).al _).al _).al _).below hb7))
  obtain ⟨l1, c10, c11, f10, f11⟩ := id F1
  have X := ((Exc.refl [w1.heap.size] w7).set (p := ⟨w1.heap.size, 0, none⟩) (by simp) (.int .i64 0)).set (p := ⟨w1.heap.size, 1, none⟩) (by simp) (.int .i64 0)
  have S0 := S0.exc X (by simp; omega)
  have F3 := F3.exc X (by simp; omega)
  have R3 := (R3.excA X (fun g hg hm => by have h5 := (own_lt R3 hg).1; rw [List.mem_singleton] at hm; rw [World.size_alloc] at h5; omega)).rd.1
  have F1 := F1.set2 0 0
  have B0 := Bw.set (Bw.set B0 (p := ⟨w1.heap.size, 0, none⟩) (show w.heap.size ≤ w1.heap.size by omega) (.int .i64 0)) (p := ⟨w1.heap.size, 1, none⟩) (show w.heap.size ≤ w1.heap.size by omega) (.int .i64 0)
  obtain ⟨ls, s0, s1, s2, s3⟩ := id S0
  obtain ⟨l3, c30, c31, f30, f31⟩ := id F3
  obtain ⟨k1, k10, k11, e10, e11⟩ := id F1
  clear X
  go_wp2_with fail
  refine (HBL.out _ (HRL.out.below B0)).mono ?_
  rintro e w8 ⟨A8, c8, b8, rfl, ho8, hbk8, hb8⟩
  obtain rfl := HUQ.out _ _ hbk hbk8
  have s1 := Lib.hid (sameB_self b)
  have R3 := R3.below hb8
  have R8 := ho8.rd.1
  have B8 := Bw.step B0 hb8
  clear hbk hbk8 ho8 HUQ
  go_wp2_with (first | (go_at_call 17; refine (refSame_any _ _ _ _ _ _ _ _ _ R3 R8).mono ?_; rw [s1.out]; rintro e w' ⟨rfl, rfl⟩) | (go_at_call 16; refine (squared_any _).mono ?_; rintro e w' ⟨rfl, hb9⟩))
  go_ret
  exact ⟨rfl, Bw.step B8 hb9⟩
set_option maxRecDepth 100000 in
set_option maxHeartbeats 4000000 in
theorem pmMid (A : Option Addr) (n c R C p q : Nat) (w : World) (hn : n ≤ 9223372036854775807) (h1 : 1 ≤ R) (h2 : R ≤ 32) (h3 : 1 ≤ C) (h4 : C ≤ 32) (h5 : p < C) (h6 : q < R) (hd : dtF n R C p q = (9, -1)) :
    Calls Try.prog 3 #[.slice A n c, shpV R C p q] w fun e w' => e = .returned (.bool true) ∧ Below w.heap.size w w' := by
  have HSF := Lib.hid (fun w => rShapeFault_any R C p q w (by omega) (by omega))
  have HVA := Lib.hid (fun w => pdValidate_any R C p q w)
  have HSZ := Lib.hid (fun w => pdSize_ok R C p q w h1 h2 h3 h4 h5 h6)
  have HDS := Lib.hid (fun w => rDataSize_nat R C p q w h2 h4 (by omega) (by omega))
  have HDF := Lib.hid (fun w => dataFault_any A n c R C p q w hn (by omega) (by omega))
  have HEN := Lib.hid (fun w => pdEncode_bad A n c R C p q w hn (by rw [hd]; decide))
  rw [shF_ok h1 h2 h3 h4 h5 h6] at HSF HVA
  rw [hd] at HDF HEN
  generalize (R - q) * (C - p) = m at *
  have S0 := S4.new w R C p q
  have B0 := below_new w (shpC R C p q)
  clear hd
  go_enter Try.func3, Try.ntmps3
  go_wp2_with fail
  refine (HSF.out _).mono ?_
  rintro e w1 ⟨rfl, hb1⟩
  ((first | replace B0 := Bw.step B0 hb1 | replace B0 := Bw.step (Bw.al B0 _) hb1 | replace B0 := Bw.step (Bw.al (Bw.al B0 _) _) hb1 | replace B0 := Bw.step (Bw.al (Bw.al (Bw.al B0 _) _) _) hb1 | replace B0 := Bw.step (Bw.al (Bw.al (Bw.al (Bw.al B0 _) _) _) _) hb1 | replace B0 := Bw.step (Bw.al (Bw.al (Bw.al (Bw.al (Bw.al B0 _) _) _) _) _) hb1 | replace B0 := Bw.step (Bw.al (Bw.al (Bw.al (Bw.al (Bw.al (Bw.al B0 _) _) _) _) _) _) hb1); (first | replace S0 := S0.below hb1 | replace S0 := (S0.al _).below hb1 | replace S0 := ((S0.al _).al _).below hb1 | replace S0 := (((S0.al _).al _).al _).below hb1 | replace S0 := ((((S0.al _).al _).al _).al _).below hb1 | replace S0 := (((((S0.al _).al _).al _).al _).al _).below hb1 | replace S0 := ((((((S0.al _).al _).al _).al _).al _).al _).below hb1))
  have F1 := Has.new w1 0 0 26
  have hz1 : w.heap.size < w1.heap.size := S0.1
  obtain ⟨ls, s0, s1, s2, s3⟩ := id S0
  go_wp2_with fail
  refine (HSZ.out _).mono ?_
  rintro e w2 ⟨rfl, hb2⟩
  clear ls s0 s1 s2 s3
  ((first | replace B0 := Bw.step B0 hb2 | replace B0 := Bw.step (Bw.al B0 _) hb2 | replace B0 := Bw.step (Bw.al (Bw.al B0 _) _) hb2 | replace B0 := Bw.step (Bw.al (Bw.al (Bw.al B0 _) _) _) hb2 | replace B0 := Bw.step (Bw.al (Bw.al (Bw.al (Bw.al B0 _) _) _) _) hb2 | replace B0 := Bw.step (Bw.al (Bw.al (Bw.al (Bw.al (Bw.al B0 _) _) _) _) _) hb2 | replace B0 := Bw.step (Bw.al (Bw.al (Bw.al (Bw.al (Bw.al (Bw.al B0 _) _) _) _) _) _) hb2); (first | replace S0 := S0.below hb2 | replace S0 := (S0.al _).below hb2 | replace S0 := ((S0.al _).al _).below hb2 | replace S0 := (((S0.al _).al _).al _).below hb2 | replace S0 := ((((S0.al _).al _).al _).al _).below hb2 | replace S0 := (((((S0.al _).al _).al _).al _).al _).below hb2 | replace S0 := ((((((S0.al _).al _).al _).al _).al _).al _).below hb2); (first | replace F1 := F1.below hb2 | replace F1 := (F1.al _).below hb2 | replace F1 := ((F1.al _).al _).below hb2 | replace F1 := (((F1.al _).al _).al _).below hb2 | replace F1 := ((((F1.al _).al _).al _).al _).below hb2 | replace F1 := (((((F1.al _).al _).al _).al _).al _).below hb2 | replace F1 := ((((((F1.al _).al _).al _).al _).al _).al _).below hb2))
  have F2 := Has.new w2 0 0 26
  have hz2 : w1.heap.size < w2.heap.size := F1.1
  obtain ⟨ls, s0, s1, s2, s3⟩ := id S0
  go_wp2_with fail
  refine (HEN.out _).mono ?_
  rintro e w3 ⟨rfl, hb3⟩
  clear ls s0 s1 s2 s3
  ((first | replace B0 := Bw.step B0 hb3 | replace B0 := Bw.step (Bw.al B0 _) hb3 | replace B0 := Bw.step (Bw.al (Bw.al B0 _) _) hb3 | replace B0 := Bw.step (Bw.al (Bw.al (Bw.al B0 _) _) _) hb3 | replace B0 := Bw.step (Bw.al (Bw.al (Bw.al (Bw.al B0 _) _) _) _) hb3 | replace B0 := Bw.step (Bw.al (Bw.al (Bw.al (Bw.al (Bw.al B0 _) _) _) _) _) hb3 | replace B0 := Bw.step (Bw.al (Bw.al (Bw.al (Bw.al (Bw.al (Bw.al B0 _) _) _) _) _) _) hb3); (first | replace S0 := S0.below hb3 | replace S0 := (S0.al _).below hb3 | replace S0 := ((S0.al _).al _).below hb3 | replace S0 := (((S0.al _).al _).al _).below hb3 | replace S0 := ((((S0.al _).al _).al _).al _).below hb3 | replace S0 := (((((S0.al _).al _).al _).al _).al _).below hb3 | replace S0 := ((((((S0.al _).al _).al _).al _).al _).al _).below hb3); (first | replace F1 := F1.below hb3 | replace F1 := (F1.al _).below hb3 | replace F1 := ((F1.al _).al _).below hb3 | replace F1 := (((F1.al _).al _).al _).below hb3 | replace F1 := ((((F1.al _).al _).al _).al _).below hb3 | replace F1 := (((((F1.al _).al _).al _).al _).al _).below hb3 | replace F1 := ((((((F1.al _).al _).al _).al _).al _).al _).below hb3); (first | replace F2 := F2.below hb3 | replace F2 := (F2.al _).below hb3 | replace F2 := ((F2.al _).al _).below hb3 | replace F2 := (((F2.al _).al _).al _).below hb3 | replace F2 := ((((F2.al _).al _).al _).al _).below hb3 | replace F2 := (((((F2.al _).al _).al _).al _).al _).below hb3 | replace F2 := ((((((F2.al _).al _).al _).al _).al _).al _).below hb3))
  have hz3 : w2.heap.size < w3.heap.size := F2.1
  have F3 := Has.new w3 9 (-1) 26
  have F1 := F1.al (fltC 9 (-1))
  have F2 := F2.al (fltC 9 (-1))
  have S0 := S0.al (fltC 9 (-1))
  have B0 := Bw.al B0 (fltC 9 (-1))
  obtain ⟨l1, c10, c11, f10, f11⟩ := id F1
  obtain ⟨l2, c20, c21, f20, f21⟩ := id F2
  obtain ⟨l3, c30, c31, f30, f31⟩ := id F3
  obtain ⟨ls, s0, s1, s2, s3⟩ := id S0
  go_wp2
  generalize w3.alloc (fltC 9 (-1)) = W3 at *
  clear l1 c10 c11 f10 f11 l2 c20 c21 f20 f21 l3 c30 c31 f30 f31 ls s0 s1 s2 s3
  have hx0 := fun (x : Ext W3) => (S0.below x.below).2.1
  have hx1 := fun (x : Ext W3) => (S0.below x.below).2.2.1
  have hx2 := fun (x : Ext W3) => (S0.below x.below).2.2.2.1
  have hx3 := fun (x : Ext W3) => (S0.below x.below).2.2.2.2
  have hx9 := fun (x : Ext W3) => (F1.ext x).1
  have hx10 := fun (x : Ext W3) => (F1.ext x).2
  have hx11 := fun (x : Ext W3) => (F2.ext x).1
  have hx12 := fun (x : Ext W3) => (F2.ext x).2
  (refine wp_region_ext (by kernel_rfl) (by kernel_rfl) ?_; (repeat (go_big_quiet_step ((go_at_call 13; exact ext_call (HVA.out _))))); refine wpQuiet_nil ?_; intro W5 hw'; have hW5 := ext_below hw'; clear hw')
  clear hx0 hx1 hx2 hx3 hx9 hx10 hx11 hx12
  have S0 := S0.below hW5
  have F1 := F1.below hW5
  have F3 := F3.below hW5
  have B0 := Bw.step B0 hW5
  obtain ⟨l1, c10, c11, f10, f11⟩ := id F1
  obtain ⟨ls, s0, s1, s2, s3⟩ := id S0
  clear hW5 F2
  go_wp2_with fail
  refine (HDS.out _).mono ?_
  rintro e w6 ⟨rfl, hb6⟩
  clear ls s0 s1 s2 s3 l1 c10 c11 f10 f11
  ((first | replace B0 := Bw.step B0 hb6 | replace B0 := Bw.step (Bw.al B0 _) hb6 | replace B0 := Bw.step (Bw.al (Bw.al B0 _) _) hb6 | replace B0 := Bw.step (Bw.al (Bw.al (Bw.al B0 _) _) _) hb6 | replace B0 := Bw.step (Bw.al (Bw.al (Bw.al (Bw.al B0 _) _) _) _) hb6 | replace B0 := Bw.step (Bw.al (Bw.al (Bw.al (Bw.al (Bw.al B0 _) _) _) _) _) hb6 | replace B0 := Bw.step (Bw.al (Bw.al (Bw.al (Bw.al (Bw.al (Bw.al B0 _) _) _) _) _) _) hb6); (first | replace S0 := S0.below hb6 | replace S0 := (S0.al _).below hb6 | replace S0 := ((S0.al _).al _).below hb6 | replace S0 := (((S0.al _).al _).al _).below hb6 | replace S0 := ((((S0.al _).al _).al _).al _).below hb6 | replace S0 := (((((S0.al _).al _).al _).al _).al _).below hb6 | replace S0 := ((((((S0.al _).al _).al _).al _).al _).al _).below hb6); (first | replace F1 := F1.below hb6 | replace F1 := (F1.al _).below hb6 | replace F1 := ((F1.al _).al _).below hb6 | replace F1 := (((F1.al _).al _).al _).below hb6 | replace F1 := ((((F1.al _).al _).al _).al _).below hb6 | replace F1 := (((((F1.al _).al _).al _).al _).al _).below hb6 | replace F1 := ((((((F1.al _).al _).al _).al _).al _).al _).below hb6); (first | replace F3 := F3.below hb6 | replace F3 := (F3.al _).below hb6 | replace F3 := ((F3.al _).al _).below hb6 | replace F3 := (((F3.al _).al _).al _).below hb6 | replace F3 := ((((F3.al _).al _).al _).al _).below hb6 | replace F3 := (((((F3.al _).al _).al _).al _).al _).below hb6 | replace F3 := ((((((F3.al _).al _).al _).al _).al _).al _).below hb6))
  obtain ⟨l1, c10, c11, f10, f11⟩ := id F1
  obtain ⟨ls, s0, s1, s2, s3⟩ := id S0
  go_wp2_with fail
  refine (HDF.out _).mono ?_
  rintro e w7 ⟨rfl, hb7⟩
  clear ls s0 s1 s2 s3 l1 c10 c11 f10 f11
  ((first | replace B0 := Bw.step B0 hb7 | replace B0 := Bw.step (Bw.al B0 _) hb7 | replace B0 := Bw.step (Bw.al (Bw.al B0 _) _) hb7 | replace B0 := Bw.step (Bw.al (Bw.al (Bw.al B0 _) _) _) hb7 | replace B0 := Bw.step (Bw.al (Bw.al (Bw.al (Bw.al B0 _) _) _) _) hb7 | replace B0 := Bw.step (Bw.al (Bw.al (Bw.al (Bw.al (Bw.al B0 _) _) _) _) _) hb7 | replace B0 := Bw.step (Bw.al (Bw.al (Bw.al (Bw.al (Bw.al (Bw.al B0 _) _) _) _) _) _) hb7); (first | replace S0 := S0.below hb7 | replace S0 := (S0.al _).below hb7 | replace S0 := ((S0.al _).al _).below hb7 | replace S0 := (((S0.al _).al _).al _).below hb7 | replace S0 := ((((S0.al _).al _).al _).al _).below hb7 | replace S0 := (((((S0.al _).al _).al _).al _).al _).below hb7 | replace S0 := ((((((S0.al _).al _).al _).al _).al _).al _).below hb7); (first | replace F1 := F1.below hb7 | replace F1 := (F1.al _).below hb7 | replace F1 := ((F1.al _).al _).below hb7 | replace F1 := (((F1.al _).al _).al _).below hb7 | replace F1 := ((((F1.al _).al _).al _).al _).below hb7 | replace F1 := (((((F1.al _).al _).al _).al _).al _).below hb7 | replace F1 := ((((((F1.al _).al _).al _).al _).al _).al _).below hb7); (first | replace F3 := F3.below hb7 | replace F3 := (F3.al _).below hb7 | replace F3 := ((F3.al _).al _).below hb7 | replace F3 := (((F3.al _).al _).al _).below hb7 | replace F3 := ((((F3.al _).al _).al _).al _).below hb7 | replace F3 := (((((F3.al _).al _).al _).al _).al _).below hb7 | replace F3 := ((((((F3.al _).al _).al _).al _).al _).al _).below hb7))
  obtain ⟨l1, c10, c11, f10, f11⟩ := id F1
  have X := ((Exc.refl [w1.heap.size] w7).set (p := ⟨w1.heap.size, 0, none⟩) (by simp) (.int .i64 9)).set (p := ⟨w1.heap.size, 1, none⟩) (by simp) (.int .i64 (-1))
  have F3 := F3.exc X (by simp; omega)
  have F1 := F1.set2 9 (-1)
  have B0 := Bw.set (Bw.set B0 (p := ⟨w1.heap.size, 0, none⟩) (show w.heap.size ≤ w1.heap.size by omega) (.int .i64 9)) (p := ⟨w1.heap.size, 1, none⟩) (show w.heap.size ≤ w1.heap.size by omega) (.int .i64 (-1))
  obtain ⟨l3, c30, c31, f30, f31⟩ := id F3
  obtain ⟨k1, k10, k11, e10, e11⟩ := id F1
  clear X
  go_wp2_with (go_at_call 16; refine (squared_any _).mono ?_; rintro e w' ⟨rfl, hb9⟩)
  go_ret
  exact ⟨rfl, Bw.step B0 hb9⟩
set_option maxRecDepth 100000 in
set_option maxHeartbeats 4000000 in
theorem pmBad (A : Option Addr) (n c : Nat) (R C p q : Int) (w : World) (hn : n ≤ 9223372036854775807) (hR : -9223372036854775808 ≤ R ∧ R ≤ 9223372036854775807) (hC : -9223372036854775808 ≤ C ∧ C ≤ 9223372036854775807) (hs : shF R C p q ≠ (0, 0)) (hd : dtF n R C p q = shF R C p q) :
    Calls Try.prog 3 #[.slice A n c, shpV R C p q] w fun e w' => e = .returned (.bool true) ∧ Below w.heap.size w w' := by
  have HSF := Lib.hid (fun w => rShapeFault_any R C p q w hC hR)
  have HVA := Lib.hid (fun w => pdValidate_any R C p q w)
  have HSZ := Lib.hid (fun w => pdSize_bad R C p q w hs)
  have HDF := Lib.hid (fun w => dataFault_any A n c R C p q w hn hC hR)
  have HEN := Lib.hid (fun w => pdEncode_bad A n c R C p q w hn (by rw [hd]; exact hs))
  rw [hd] at HDF HEN
  have hc := (shF_code R C p q).resolve_left hs
  generalize (shF R C p q).1 = fc at *
  generalize (shF R C p q).2 = fi at *
  subst hc
  have S0 := S4.new w R C p q
  have B0 := below_new w (shpC R C p q)
  clear hd hs
  go_enter Try.func3, Try.ntmps3
  go_wp2_with fail
  refine (HSF.out _).mono ?_
  rintro e w1 ⟨rfl, hb1⟩
  ((first | replace B0 := Bw.step B0 hb1 | replace B0 := Bw.step (Bw.al B0 _) hb1 | replace B0 := Bw.step (Bw.al (Bw.al B0 _) _) hb1 | replace B0 := Bw.step (Bw.al (Bw.al (Bw.al B0 _) _) _) hb1 | replace B0 := Bw.step (Bw.al (Bw.al (Bw.al (Bw.al B0 _) _) _) _) hb1 | replace B0 := Bw.step (Bw.al (Bw.al (Bw.al (Bw.al (Bw.al B0 _) _) _) _) _) hb1 | replace B0 := Bw.step (Bw.al (Bw.al (Bw.al (Bw.al (Bw.al (Bw.al B0 _) _) _) _) _) _) hb1); (first | replace S0 := S0.below hb1 | replace S0 := (S0.al _).below hb1 | replace S0 := ((S0.al _).al _).below hb1 | replace S0 := (((S0.al _).al _).al _).below hb1 | replace S0 := ((((S0.al _).al _).al _).al _).below hb1 | replace S0 := (((((S0.al _).al _).al _).al _).al _).below hb1 | replace S0 := ((((((S0.al _).al _).al _).al _).al _).al _).below hb1))
  have F1 := Has.new w1 4 fi 26
  have hz1 : w.heap.size < w1.heap.size := S0.1
  obtain ⟨ls, s0, s1, s2, s3⟩ := id S0
  go_wp2_with fail
  refine (HSZ.out _).mono ?_
  rintro e w2 ⟨rfl, hb2⟩
  clear ls s0 s1 s2 s3
  ((first | replace B0 := Bw.step B0 hb2 | replace B0 := Bw.step (Bw.al B0 _) hb2 | replace B0 := Bw.step (Bw.al (Bw.al B0 _) _) hb2 | replace B0 := Bw.step (Bw.al (Bw.al (Bw.al B0 _) _) _) hb2 | replace B0 := Bw.step (Bw.al (Bw.al (Bw.al (Bw.al B0 _) _) _) _) hb2 | replace B0 := Bw.step (Bw.al (Bw.al (Bw.al (Bw.al (Bw.al B0 _) _) _) _) _) hb2 | replace B0 := Bw.step (Bw.al (Bw.al (Bw.al (Bw.al (Bw.al (Bw.al B0 _) _) _) _) _) _) hb2); (first | replace S0 := S0.below hb2 | replace S0 := (S0.al _).below hb2 | replace S0 := ((S0.al _).al _).below hb2 | replace S0 := (((S0.al _).al _).al _).below hb2 | replace S0 := ((((S0.al _).al _).al _).al _).below hb2 | replace S0 := (((((S0.al _).al _).al _).al _).al _).below hb2 | replace S0 := ((((((S0.al _).al _).al _).al _).al _).al _).below hb2); (first | replace F1 := F1.below hb2 | replace F1 := (F1.al _).below hb2 | replace F1 := ((F1.al _).al _).below hb2 | replace F1 := (((F1.al _).al _).al _).below hb2 | replace F1 := ((((F1.al _).al _).al _).al _).below hb2 | replace F1 := (((((F1.al _).al _).al _).al _).al _).below hb2 | replace F1 := ((((((F1.al _).al _).al _).al _).al _).al _).below hb2))
  have F2 := Has.new w2 4 fi 26
  have hz2 : w1.heap.size < w2.heap.size := F1.1
  obtain ⟨ls, s0, s1, s2, s3⟩ := id S0
  go_wp2_with fail
  refine (HEN.out _).mono ?_
  rintro e w3 ⟨rfl, hb3⟩
  clear ls s0 s1 s2 s3
  ((first | replace B0 := Bw.step B0 hb3 | replace B0 := Bw.step (Bw.al B0 _) hb3 | replace B0 := Bw.step (Bw.al (Bw.al B0 _) _) hb3 | replace B0 := Bw.step (Bw.al (Bw.al (Bw.al B0 _) _) _) hb3 | replace B0 := Bw.step (Bw.al (Bw.al (Bw.al (Bw.al B0 _) _) _) _) hb3 | replace B0 := Bw.step (Bw.al (Bw.al (Bw.al (Bw.al (Bw.al B0 _) _) _) _) _) hb3 | replace B0 := Bw.step (Bw.al (Bw.al (Bw.al (Bw.al (Bw.al (Bw.al B0 _) _) _) _) _) _) hb3); (first | replace S0 := S0.below hb3 | replace S0 := (S0.al _).below hb3 | replace S0 := ((S0.al _).al _).below hb3 | replace S0 := (((S0.al _).al _).al _).below hb3 | replace S0 := ((((S0.al _).al _).al _).al _).below hb3 | replace S0 := (((((S0.al _).al _).al _).al _).al _).below hb3 | replace S0 := ((((((S0.al _).al _).al _).al _).al _).al _).below hb3); (first | replace F1 := F1.below hb3 | replace F1 := (F1.al _).below hb3 | replace F1 := ((F1.al _).al _).below hb3 | replace F1 := (((F1.al _).al _).al _).below hb3 | replace F1 := ((((F1.al _).al _).al _).al _).below hb3 | replace F1 := (((((F1.al _).al _).al _).al _).al _).below hb3 | replace F1 := ((((((F1.al _).al _).al _).al _).al _).al _).below hb3); (first | replace F2 := F2.below hb3 | replace F2 := (F2.al _).below hb3 | replace F2 := ((F2.al _).al _).below hb3 | replace F2 := (((F2.al _).al _).al _).below hb3 | replace F2 := ((((F2.al _).al _).al _).al _).below hb3 | replace F2 := (((((F2.al _).al _).al _).al _).al _).below hb3 | replace F2 := ((((((F2.al _).al _).al _).al _).al _).al _).below hb3))
  have hz3 : w2.heap.size < w3.heap.size := F2.1
  have F3 := Has.new w3 4 fi 26
  have F1 := F1.al (fltC 4 fi)
  have F2 := F2.al (fltC 4 fi)
  have S0 := S0.al (fltC 4 fi)
  have B0 := Bw.al B0 (fltC 4 fi)
  obtain ⟨l1, c10, c11, f10, f11⟩ := id F1
  obtain ⟨l2, c20, c21, f20, f21⟩ := id F2
  obtain ⟨l3, c30, c31, f30, f31⟩ := id F3
  obtain ⟨ls, s0, s1, s2, s3⟩ := id S0
  go_wp2
  generalize w3.alloc (fltC 4 fi) = W3 at *
  clear l1 c10 c11 f10 f11 l2 c20 c21 f20 f21 l3 c30 c31 f30 f31 ls s0 s1 s2 s3
  have hx0 := fun (x : Ext W3) => (S0.below x.below).2.1
  have hx1 := fun (x : Ext W3) => (S0.below x.below).2.2.1
  have hx2 := fun (x : Ext W3) => (S0.below x.below).2.2.2.1
  have hx3 := fun (x : Ext W3) => (S0.below x.below).2.2.2.2
  have hx9 := fun (x : Ext W3) => (F1.ext x).1
  have hx10 := fun (x : Ext W3) => (F1.ext x).2
  have hx11 := fun (x : Ext W3) => (F2.ext x).1
  have hx12 := fun (x : Ext W3) => (F2.ext x).2
  (refine wp_region_ext (by kernel_rfl) (by kernel_rfl) ?_; (repeat (go_big_quiet_step ((go_at_call 13; exact ext_call (HVA.out _))))); refine wpQuiet_nil ?_; intro W5 hw'; have hW5 := ext_below hw'; clear hw')
  clear hx0 hx1 hx2 hx3 hx9 hx10 hx11 hx12
  have S0 := S0.below hW5
  have F1 := F1.below hW5
  have F3 := F3.below hW5
  have B0 := Bw.step B0 hW5
  obtain ⟨l1, c10, c11, f10, f11⟩ := id F1
  obtain ⟨ls, s0, s1, s2, s3⟩ := id S0
  clear hW5 F2
  go_wp2_with fail
  refine (HDF.out _).mono ?_
  rintro e w7 ⟨rfl, hb7⟩
  clear ls s0 s1 s2 s3 l1 c10 c11 f10 f11
  ((first | replace B0 := Bw.step B0 hb7 | replace B0 := Bw.step (Bw.al B0 _) hb7 | replace B0 := Bw.step (Bw.al (Bw.al B0 _) _) hb7 | replace B0 := Bw.step (Bw.al (Bw.al (Bw.al B0 _) _) _) hb7 | replace B0 := Bw.step (Bw.al (Bw.al (Bw.al (Bw.al B0 _) _) _) _) hb7 | replace B0 := Bw.step (Bw.al (Bw.al (Bw.al (Bw.al (Bw.al B0 _) _) _) _) _) hb7 | replace B0 := Bw.step (Bw.al (Bw.al (Bw.al (Bw.al (Bw.al (Bw.al B0 _) _) _) _) _) _) hb7); (first | replace S0 := S0.below hb7 | replace S0 := (S0.al _).below hb7 | replace S0 := ((S0.al _).al _).below hb7 | replace S0 := (((S0.al _).al _).al _).below hb7 | replace S0 := ((((S0.al _).al _).al _).al _).below hb7 | replace S0 := (((((S0.al _).al _).al _).al _).al _).below hb7 | replace S0 := ((((((S0.al _).al _).al _).al _).al _).al _).below hb7); (first | replace F1 := F1.below hb7 | replace F1 := (F1.al _).below hb7 | replace F1 := ((F1.al _).al _).below hb7 | replace F1 := (((F1.al _).al _).al _).below hb7 | replace F1 := ((((F1.al _).al _).al _).al _).below hb7 | replace F1 := (((((F1.al _).al _).al _).al _).al _).below hb7 | replace F1 := ((((((F1.al _).al _).al _).al _).al _).al _).below hb7); (first | replace F3 := F3.below hb7 | replace F3 := (F3.al _).below hb7 | replace F3 := ((F3.al _).al _).below hb7 | replace F3 := (((F3.al _).al _).al _).below hb7 | replace F3 := ((((F3.al _).al _).al _).al _).below hb7 | replace F3 := (((((F3.al _).al _).al _).al _).al _).below hb7 | replace F3 := ((((((F3.al _).al _).al _).al _).al _).al _).below hb7))
  obtain ⟨l1, c10, c11, f10, f11⟩ := id F1
  have X := ((Exc.refl [w1.heap.size] w7).set (p := ⟨w1.heap.size, 0, none⟩) (by simp) (.int .i64 4)).set (p := ⟨w1.heap.size, 1, none⟩) (by simp) (.int .i64 fi)
  have F3 := F3.exc X (by simp; omega)
  have F1 := F1.set2 4 fi
  have B0 := Bw.set (Bw.set B0 (p := ⟨w1.heap.size, 0, none⟩) (show w.heap.size ≤ w1.heap.size by omega) (.int .i64 4)) (p := ⟨w1.heap.size, 1, none⟩) (show w.heap.size ≤ w1.heap.size by omega) (.int .i64 fi)
  obtain ⟨l3, c30, c31, f30, f31⟩ := id F3
  obtain ⟨k1, k10, k11, e10, e11⟩ := id F1
  clear X
  go_wp2_with (go_at_call 16; refine (squared_any _).mono ?_; rintro e w' ⟨rfl, hb9⟩)
  go_ret
  exact ⟨rfl, Bw.step B0 hb9⟩
theorem walkProductMatchesSpec (A : Option Addr) (n c : Nat) (zs : List Int) (R C p q : Int) (w : World) (w0 : IsRow .u8 w A n c zs) (w1 : (Lit.int .i64 R).wf = true ∧ (Lit.int .i64 C).wf = true ∧ (Lit.int .i64 p).wf = true ∧ (Lit.int .i64 q).wf = true) :
    Calls Try.prog 3 #[.slice A n c, shpV R C p q] w fun e w' => e = .returned (.bool true) ∧ Below w.heap.size w w' := by
  obtain ⟨l, RL, hn, hnc⟩ := w0.bytes4
  have hR := wf64 w1.1
  have hC := wf64 w1.2.1
  rcases dtF_cases n R C p q with ⟨R, C, p, q, rfl, rfl, rfl, rfl, h1, h2, h3, h4, h5, h6, hnn, h⟩ | ⟨hs, h⟩ | ⟨R, C, p, q, rfl, rfl, rfl, rfl, h1, h2, h3, h4, h5, h6, hnn, h⟩
  · exact pmGood A n c R C p q l w RL hn hnc hnn h1 h2 h3 h4 h5 h6
  · exact pmBad A n c R C p q w hn hR hC hs h
  · exact pmMid A n c R C p q w hn h1 h2 h3 h4 h5 h6 h
end Go.Proofs.Ytmpjkdkgolmgdaa
