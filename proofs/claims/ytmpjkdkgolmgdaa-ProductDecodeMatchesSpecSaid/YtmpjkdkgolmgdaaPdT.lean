/- Product codes: the walk of the laws' 'squared'. -/
import Derived.Test.YtmpjkdkgolmgdaaMg
import Derived.Test.YtmpjkdkgolmgdaaPdN
import Derived.Test.YtmpjkdkgolmgdaaMa
namespace Go.Proofs.Ytmpjkdkgolmgdaa
open Go.RowKit
set_option linter.unusedVariables false

theorem RdB.l4 (w : World) (g : Nat) (x y z u : Int) (a b c d : GF) (t : TypeId) (hg : g = w.heap.size) (h : x = a.z ∧ y = b.z ∧ z = c.z ∧ u = d.z) : RdB (w.alloc (.cells #[.int .u8 x, .int .u8 y, .int .u8 z, .int .u8 u] t)) (some ⟨g, 0, none⟩) 4 [a, b, c, d] := RdB.lits w g [x, y, z, u] [a, b, c, d] t hg (by rw [h.1, h.2.1, h.2.2.1, h.2.2.2]; rfl)
theorem RdI.l1 (w : World) (g : Nat) (x : Int) (t : TypeId) (hg : g = w.heap.size) : RdI (w.alloc (.cells #[.int .i64 x] t)) (some ⟨g, 0, none⟩) 1 [x] := by
  subst hg
  refine ⟨rfl, fun _ => ⟨_, 0, rfl, by simp, fun i hi => ?_⟩⟩
  obtain rfl : i = 0 := by omega
  simp [go_sem]
theorem PdPost.hit {n R C p q : Nat} {code : List GF} {w0 w : World} {e : Ending} (h : PdPost n R C p q code (toI []) w0 e w) :
    ∃ A1 d1 A2 d2, e = .returned (.tuple #[.slice A1 (unblockL R C p q code []).data.length d1, .slice A2 (unblockL R C p q code []).lost.length d2, .int .i64 ((unblockL R C p q code []).fixed : Nat), .agg #[.int .i64 0, .int .i64 0]]) ∧
       OwB w w0.heap.size (.slice A1 (unblockL R C p q code []).data.length d1) (unblockL R C p q code []).data ∧ OwI w w0.heap.size (.slice A2 (unblockL R C p q code []).lost.length d2) (toI (unblockL R C p q code []).lost) ∧ Below w0.heap.size w0 w := by
  obtain ⟨hb, h⟩ := h
  rcases h with ⟨h, _⟩ | ⟨es, he, hnd, hlt, hP, A1, d1, A2, d2, h1, h2, h3⟩
  · exact absurd (incF_of (er := []) 10 (by simp) List.Pairwise.nil) h
  · obtain rfl := toI_inj he
    exact ⟨A1, d1, A2, d2, h1, h2, h3, hb⟩
set_option maxRecDepth 100000 in
set_option maxHeartbeats 4000000 in
theorem squared_any (w : World) : Calls Try.prog 16 #[] w fun e w' => e = .returned (.bool true) ∧ Below w.heap.size w w' := by
  have s1 := Lib.hid (sameB_self sqB)
  have s2 := Lib.hid (sameB_self [b5])
  have s3 := Lib.hid (sameB_self [(0 : GF)])
  have s4 := Lib.hid (sameI_self [0])
  have S0 := S4.new w 2 2 1 1
  have B0 := below_new w (shpC 2 2 1 1)
  go_enter Try.func16, Try.ntmps16
  go_wp2_with fail
  refine (pdEncode_ok _ _ _ 2 2 1 1 [b5] _ (RdB.l1 (w.alloc (shpC 2 2 1 1)) _ 5 b5 _ (by simp) rfl) (by omega) (by omega) (by omega) (by omega) (by omega) (by omega) (by omega) (by omega)).mono ?_
  rintro e w1 ⟨A1, c1, bb, rfl, ho1, he, hb1⟩
  obtain rfl := sq_is he
  have B1 := Bw.step (Bw.al B0 (.cells #[.int .u8 5] 5)) hb1
  have S1 := (S0.al (.cells #[.int .u8 5] 5)).below hb1
  have F1 := Has.new w1 0 0 26
  have R1 := ho1.rd.1.al (fltC 0 0)
  have B2 := Bw.al B1 (fltC 0 0)
  obtain ⟨ls, s0, t1, t2, t3⟩ := id S1
  clear ho1 he B1 S0 B0 hb1
  go_wp2_with fail
  refine (pdDecode_ok _ none _ _ 0 0 2 2 1 1 sqA (toI []) _ (RdB.l4 (w1.alloc (fltC 0 0)) _ 9 5 5 5 b9 b5 b5 b5 _ (by simp) ⟨rfl, rfl, rfl, rfl⟩) (RdI.nil _ _) (by omega) (by omega) (by omega) (by omega) (by omega) (by omega) (by omega) (by omega)).mono ?_
  rintro e w2 hp
  obtain ⟨A2, c2, I2, d2, rfl, ho2, hi2, hb2⟩ := hp.hit
  rw [unA] at ho2 hi2 ⊢
  have B3 := Bw.step (Bw.al B2 (.cells #[.int .u8 9, .int .u8 5, .int .u8 5, .int .u8 5] 5)) hb2
  have S2 := ((S1.al (fltC 0 0)).al (.cells #[.int .u8 9, .int .u8 5, .int .u8 5, .int .u8 5] 5)).below hb2
  have F1 := (F1.al (.cells #[.int .u8 9, .int .u8 5, .int .u8 5, .int .u8 5] 5)).below hb2
  have F2 := Has.new w2 0 0 26
  have R1 := (R1.al (.cells #[.int .u8 9, .int .u8 5, .int .u8 5, .int .u8 5] 5)).below hb2
  have R2 := ho2.rd.1
  have I2' := hi2.rd.1
  clear hp ho2 hi2 hb2 ls s0 t1 t2 t3 S1
  obtain ⟨ls, s0, t1, t2, t3⟩ := id S2
  go_wp2_with fail
  refine (pdDecode_ok _ none _ _ 0 0 2 2 1 1 sqC (toI []) _ (RdB.l4 (w2.alloc (fltC 0 0)) _ 9 5 5 9 b9 b5 b5 b9 _ (by simp) ⟨rfl, rfl, rfl, rfl⟩) (RdI.nil _ _) (by omega) (by omega) (by omega) (by omega) (by omega) (by omega) (by omega) (by omega)).mono ?_
  rintro e w3 hp
  obtain ⟨A3, c3, I3, d3, rfl, ho3, hi3, hb3⟩ := hp.hit
  rw [unC] at ho3 hi3 ⊢
  have B4 := Bw.al (Bw.step (Bw.al (Bw.al B3 (fltC 0 0)) (.cells #[.int .u8 9, .int .u8 5, .int .u8 5, .int .u8 9] 5)) hb3) (fltC 0 0)
  have F1 := (((F1.al (fltC 0 0)).al (.cells #[.int .u8 9, .int .u8 5, .int .u8 5, .int .u8 9] 5)).below hb3).al (fltC 0 0)
  have F2 := ((F2.al (.cells #[.int .u8 9, .int .u8 5, .int .u8 5, .int .u8 9] 5)).below hb3).al (fltC 0 0)
  have F3 := Has.new w3 0 0 26
  have R1 := (((R1.al (fltC 0 0)).al (.cells #[.int .u8 9, .int .u8 5, .int .u8 5, .int .u8 9] 5)).below hb3).al (fltC 0 0)
  have R2 := (((R2.al (fltC 0 0)).al (.cells #[.int .u8 9, .int .u8 5, .int .u8 5, .int .u8 9] 5)).below hb3).al (fltC 0 0)
  have R3 := ho3.rd.1.al (fltC 0 0)
  have I3' := hi3.rd.1.al (fltC 0 0)
  clear hp ho3 hi3 hb3 ls s0 t1 t2 t3 S2
  obtain ⟨l1, c10, c11, f10, f11⟩ := id F1
  obtain ⟨l2, c20, c21, f20, f21⟩ := id F2
  obtain ⟨l3, c30, c31, f30, f31⟩ := id F3
  clear F1 F2 F3
  go_wp2_with fail
  refine (refSame_any _ _ _ _ _ _ sqB sqB _ (R1.al _) (RdB.l4 (w3.alloc (fltC 0 0)) _ 5 5 5 5 b5 b5 b5 b5 _ (by simp) ⟨rfl, rfl, rfl, rfl⟩)).mono ?_
  rw [s1.out]
  rintro e w4 ⟨rfl, rfl⟩
  generalize hX1 : (w3.alloc (fltC 0 0)).alloc (.cells #[.int .u8 5, .int .u8 5, .int .u8 5, .int .u8 5] 5) = X1 at *
  have B5 : Below w.heap.size w X1 := by rw [← hX1]; exact Bw.al B4 _
  have R2 : RdB X1 A2 1 [b5] := by rw [← hX1]; exact R2.al _
  have R3 : RdB X1 A3 1 [0] := by rw [← hX1]; exact R3.al _
  have I3' : RdI X1 I3 1 [0] := by rw [← hX1]; exact I3'.al _
  clear hX1
  go_wp2_with fail
  refine (refSame_any _ _ _ _ _ _ [b5] [b5] _ (R2.al _) (RdB.l1 X1 _ 5 b5 _ rfl rfl)).mono ?_
  rw [s2.out]
  rintro e w4 ⟨rfl, rfl⟩
  go_wp2_with fail
  refine (refSame_any _ _ _ _ _ _ [(0 : GF)] [(0 : GF)] _ ((R3.al _).al _) (RdB.l1 (X1.alloc (.cells #[.int .u8 5] 5)) _ 0 0 _ (by simp) rfl)).mono ?_
  rw [s3.out]
  rintro e w4 ⟨rfl, rfl⟩
  have B6 := Bw.al (Bw.al B5 (.cells #[.int .u8 5] 5)) (.cells #[.int .u8 0] 5)
  have I4 := (I3'.al (.cells #[.int .u8 5] 5)).al (.cells #[.int .u8 0] 5)
  generalize (X1.alloc (.cells #[.int .u8 5] 5)).alloc (.cells #[.int .u8 0] 5) = X2 at *
  go_wp2_with fail
  refine (refInts_any _ _ _ _ _ _ [0] [0] _ (I4.al _) (RdI.l1 X2 _ 0 _ rfl) (by omega) (by omega)).mono ?_
  rw [s4.out]
  rintro e w4 ⟨rfl, hb4⟩
  have B7 := Bw.step (Bw.al B6 _) hb4
  go_wp2
  go_ret
  exact ⟨rfl, B7⟩
end Go.Proofs.Ytmpjkdkgolmgdaa
