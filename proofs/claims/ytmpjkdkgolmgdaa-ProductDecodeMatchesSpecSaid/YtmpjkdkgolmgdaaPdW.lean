/- Product codes: the walk of the law that a code block can be transposed. -/
import Derived.Test.YtmpjkdkgolmgdaaPdV
import Derived.Test.YtmpjkdkgolmgdaaPdM
namespace Go.Proofs.Ytmpjkdkgolmgdaa
open Go.RowKit
set_option linter.unusedVariables false

set_option maxRecDepth 100000 in
set_option maxHeartbeats 8000000 in
theorem ctGood (A : Option Addr) (n c R C p q : Nat) (d : List GF) (w : World) (RL : RdB w A n d) (hn : n ≤ 9223372036854775807) (hnc : n ≤ c) (hnn : n = (R - q) * (C - p)) (h1 : 1 ≤ R) (h2 : R ≤ 32) (h3 : 1 ≤ C) (h4 : C ≤ 32) (h5 : p < C) (h6 : q < R) :
    Calls Try.prog 5 #[.slice A n c, shpV R C p q] w fun e w' => e = .returned (.bool true) ∧ Below w.heap.size w w' := by
  have HDF := Lib.hid (fun w => dataFault_any A n c R C p q w hn (by omega) (by omega))
  have HEN := Lib.hid (fun w (hl : RdB w A n d) => pdEncode_ok A n c R C p q d w hl hnc hnn h1 h2 h3 h4 h5 h6)
  rw [dtF_ok h1 h2 h3 h4 h5 h6 hnn] at HDF
  have HRL := Lib.hid RL
  have HNN := Lib.hid hnn
  have S0 := S4.new w R C p q
  have B0 := below_new w (shpC R C p q)
  clear RL hnn
  go_enter Try.func5, Try.ntmps5
  go_wp2_with fail
  refine (HEN.out _ (HRL.out.below B0)).mono ?_
  rintro e w1 ⟨A1, c1, b, rfl, ho1, hbk, hb1⟩
  ((first | replace B0 := Bw.step B0 hb1 | replace B0 := Bw.step (Bw.al B0 _) hb1 | replace B0 := Bw.step (Bw.al (Bw.al B0 _) _) hb1 | replace B0 := Bw.step (Bw.al (Bw.al (Bw.al B0 _) _) _) hb1 | replace B0 := Bw.step (Bw.al (Bw.al (Bw.al (Bw.al B0 _) _) _) _) hb1 | replace B0 := Bw.step (Bw.al (Bw.al (Bw.al (Bw.al (Bw.al B0 _) _) _) _) _) hb1 | replace B0 := Bw.step (Bw.al (Bw.al (Bw.al (Bw.al (Bw.al (Bw.al B0 _) _) _) _) _) _) hb1); (first | replace S0 := S0.below hb1 | replace S0 := (S0.al _).below hb1 | replace S0 := ((S0.al _).al _).below hb1 | replace S0 := (((S0.al _).al _).al _).below hb1 | replace S0 := ((((S0.al _).al _).al _).al _).below hb1 | replace S0 := (((((S0.al _).al _).al _).al _).al _).below hb1 | replace S0 := ((((((S0.al _).al _).al _).al _).al _).al _).below hb1))
  have HBK := Lib.hid hbk
  have F1 := Has.new w1 0 0 26
  have R1 : OwB (w1.alloc (fltC 0 0)) w.heap.size (.slice A1 (R * C) c1) b := own_base (own_below ho1 (below_new w1 _)) (by simp)
  clear ho1 hbk
  obtain ⟨ls, s0, s1, s2, s3⟩ := id S0
  go_wp2_with fail
  refine (HDF.out _).mono ?_
  rintro e w2 ⟨rfl, hb2⟩
  clear ls s0 s1 s2 s3
  ((first | replace B0 := Bw.step B0 hb2 | replace B0 := Bw.step (Bw.al B0 _) hb2 | replace B0 := Bw.step (Bw.al (Bw.al B0 _) _) hb2 | replace B0 := Bw.step (Bw.al (Bw.al (Bw.al B0 _) _) _) hb2 | replace B0 := Bw.step (Bw.al (Bw.al (Bw.al (Bw.al B0 _) _) _) _) hb2 | replace B0 := Bw.step (Bw.al (Bw.al (Bw.al (Bw.al (Bw.al B0 _) _) _) _) _) hb2 | replace B0 := Bw.step (Bw.al (Bw.al (Bw.al (Bw.al (Bw.al (Bw.al B0 _) _) _) _) _) _) hb2); (first | replace S0 := S0.below hb2 | replace S0 := (S0.al _).below hb2 | replace S0 := ((S0.al _).al _).below hb2 | replace S0 := (((S0.al _).al _).al _).below hb2 | replace S0 := ((((S0.al _).al _).al _).al _).below hb2 | replace S0 := (((((S0.al _).al _).al _).al _).al _).below hb2 | replace S0 := ((((((S0.al _).al _).al _).al _).al _).al _).below hb2); (first | replace F1 := F1.below hb2 | replace F1 := (F1.al _).below hb2 | replace F1 := ((F1.al _).al _).below hb2 | replace F1 := (((F1.al _).al _).al _).below hb2 | replace F1 := ((((F1.al _).al _).al _).al _).below hb2 | replace F1 := (((((F1.al _).al _).al _).al _).al _).below hb2 | replace F1 := ((((((F1.al _).al _).al _).al _).al _).al _).below hb2))
  replace R1 := R1.below hb2
  have ws1 : (C : Int) - p = ((C - p : Nat) : Int) := by omega
  have ws2 : IntKind.i64.wrap ((C : Int) - p) = ((C - p : Nat) : Int) := by rw [IntWalk.i64_in _ (by omega)]; exact ws1
  have wt1 : (R : Int) - q = ((R - q : Nat) : Int) := by omega
  have wt2 : IntKind.i64.wrap ((R : Int) - q) = ((R - q : Nat) : Int) := by rw [IntWalk.i64_in _ (by omega)]; exact wt1
  have HTR := Lib.hid (fun W (hb : RdB W A n d) => transposed_any A n c (R - q) (C - p) d W hb HNN.out (by omega) (by omega))
  have HE2 : Hid (∀ W A3 c3 B, OwB W B (.slice A3 ((R - q) * (C - p)) c3) (trL (R - q) (C - p) d) → Calls Try.prog 12 #[.slice A3 ((R - q) * (C - p)) c3, shpV C R q p] W fun e w' => ∃ A' c', e = .returned (.tuple #[.slice A' (C * R) c', .agg #[.int .i64 0, .int .i64 0]]) ∧ OwB w' W.heap.size (.slice A' (C * R) c') (trL R C b) ∧ Below W.heap.size W w') := Lib.hid fun W A3 c3 B ho => by
    refine (pdEncode_ok A3 ((R - q) * (C - p)) c3 C R q p _ W ho.rd.1 ho.cap.1 (Nat.mul_comm _ _) h3 h4 h1 h2 h6 h5).mono ?_
    rintro e w' ⟨A', c', b', rfl, ho', hbk', hb'⟩
    obtain rfl := block_unique (by omega) (by omega) (by omega) (by omega) hbk' (block_tr HBK.out)
    exact ⟨A', c', rfl, ho', hb'⟩
  have HT2 := Lib.hid (fun W B (hb : OwB W B (.slice A1 (R * C) c1) b) => transposed_any A1 (R * C) c1 R C b W hb.rd.1 rfl h2 h4)
  have hmul := mul32 h2 h4
  have em : ((R * C : Nat) : Int) = (R : Int) * (C : Int) := Int.natCast_mul _ _
  have em2 : (R : Int) * (C : Int) = ((R * C : Nat) : Int) := em.symm
  have em3 : IntKind.i64.wrap ((R : Int) * (C : Int)) = ((R * C : Nat) : Int) := by rw [IntWalk.i64_in _ (by omega)]; exact em2
  have EM := Lib.hid em
  have EM2 := Lib.hid em2
  have EM3 := Lib.hid em3
  clear em em2 em3
  have hz2 : w.heap.size < w2.heap.size := S0.1
  obtain ⟨ls, s0, s1, s2, s3⟩ := id S0
  go_wp2
  clear ls s0 s1 s2 s3
  have T0 := S4.new w2 C R q p
  have F1 := F1.al (shpC C R q p)
  have S0 := S0.al (shpC C R q p)
  have B0 := Bw.al B0 (shpC C R q p)
  have R1 : OwB (w2.alloc (shpC C R q p)) w.heap.size (.slice A1 (R * C) c1) b := own_below R1 (below_new w2 (shpC C R q p))
  generalize w2.alloc (shpC C R q p) = wr at *
  generalize w2.heap.size = y at *
  have HS0 := Lib.hid S0
  have HT0 := Lib.hid T0
  have HF1 := Lib.hid F1
  have HB0 := Lib.hid B0
  have HR1 := Lib.hid R1
  clear S0 T0 F1 B0 R1
  have HDR : Hid (∀ W, Gr wr W → RdB W A n d) := Lib.hid fun W hG => HRL.out.below (Bw.step HB0.out hG)
  apply wp_region_mid6 (α := Option Addr) (β := Nat) (γ := Option Addr) (δ := Nat) (ε := Nat) (ζ := Unit) (fun A3 c3 A4 c4 z u W => Below wr.heap.size wr W ∧ Has W z 0 0 ∧ OwB W wr.heap.size (.slice A4 (C * R) c4) (trL R C b))
  case h =>
    intro QQ HQ
    obtain ⟨u, _⟩ : ∃ u : Unit, True := ⟨(), trivial⟩
    have hx0 := fun z (hz : Gr wr z) x => cell_extz hz HS0.out.1 HS0.out.2.1 x
    have hx1 := fun z (hz : Gr wr z) x => cell_extz hz HS0.out.1 HS0.out.2.2.1 x
    have hx2 := fun z (hz : Gr wr z) x => cell_extz hz HS0.out.1 HS0.out.2.2.2.1 x
    have hx3 := fun z (hz : Gr wr z) x => cell_extz hz HS0.out.1 HS0.out.2.2.2.2 x
    have hy0 := fun z (hz : Gr wr z) x => cell_extz hz HT0.out.1 HT0.out.2.1 x
    have hy1 := fun z (hz : Gr wr z) x => cell_extz hz HT0.out.1 HT0.out.2.2.1 x
    have hy2 := fun z (hz : Gr wr z) x => cell_extz hz HT0.out.1 HT0.out.2.2.2.1 x
    have hy3 := fun z (hz : Gr wr z) x => cell_extz hz HT0.out.1 HT0.out.2.2.2.2 x
    (refine wp_region_tree [0, 1, 2, 3, 4, 5, 6, 7, 8, 9, 10, 11, 12, 13, 14, 15, 16, 17, 18] [19] 19 (by kernel_rfl) (by kernel_rfl) (by kernel_rfl) ?_; intro V1 g1)
    have n1 : wr.heap.size ≤ V1.heap.size := g1.size
    (apply tree_quiet [0, 1, 2, 3, 4, 5, 6, 7, 8, 9, 10, 12] (r := 7) (by kernel_rfl) (by kernel_rfl) (by kernel_rfl) (by kernel_rfl); (case hq => (intro z hz; simp only [pick, List.getElem?_cons_succ, List.getElem?_cons_zero]; ((have hx0 := hx0 z (g1.trans hz); have hx1 := hx1 z (g1.trans hz); have hx2 := hx2 z (g1.trans hz); have hx3 := hx3 z (g1.trans hz); have hy0 := hy0 z (g1.trans hz); have hy1 := hy1 z (g1.trans hz); have hy2 := hy2 z (g1.trans hz); have hy3 := hy3 z (g1.trans hz))); (repeat (go_big_quiet_step ((fail)))); refine wpQuiet_nil ?_; exact rfl)); (case' h => intro V2 g2))
    have n2 : V1.heap.size ≤ V2.heap.size := g2.size
    (refine tree_two 11 17 rfl rfl (by kernel_rfl) ?_ ?_)
    · skip
      go_wp2_with (go_at_call 24; refine (HTR.out _ (HDR.out _ (g1.trans g2))).mono ?_; rintro e V3 ⟨A3, c3, rfl, ho3, g3⟩)
      refine ⟨g3, fun V4 g4 => ?_⟩
      have n3 : V2.heap.size ≤ V3.heap.size := g3.size
      have n4 : V3.heap.size ≤ V4.heap.size := g4.size
      replace g3 : Gr V2 V3 := g3
      (refine tree_two 13 17 rfl rfl (by kernel_rfl) ?_ ?_)
      · skip
        go_wp2_with (go_at_call 12; refine (HE2.out _ A3 c3 _ (ho3.below g4)).mono ?_; rintro e V5 ⟨A4, c4, rfl, ho4, g5⟩)
        refine ⟨g5, fun V6 g6 => ?_⟩
        have n5 : V4.heap.size ≤ V5.heap.size := g5.size
        have n6 : V5.heap.size ≤ V6.heap.size := g6.size
        replace g5 : Gr V4 V5 := g5
        (apply tree_quiet [14, 15, 16] (r := 2) (by kernel_rfl) (by kernel_rfl) (by kernel_rfl) (by kernel_rfl); (case hq => (intro z hz; simp only [pick, List.getElem?_cons_succ, List.getElem?_cons_zero]; (skip); (repeat (go_big_quiet_step ((fail)))); refine wpQuiet_nil ?_; exact rfl)); (case' h => intro V7 g7))
        have n7 : V6.heap.size ≤ V7.heap.size := g7.size
        (refine tree_one 17 rfl (by kernel_rfl) ?_)
        go_wp2
        refine ⟨below_new _ _, fun V8 hZ => ?_⟩
        have Z := (Has.new V7 0 0 26).below hZ
        have g8 : Gr V7 V8 := Bw.step (below_new _ (fltC 0 0)) hZ
        have nz : V7.heap.size < V8.heap.size := Z.1
        clear hZ
        generalize V7.heap.size = z at *
        (apply tree_quiet [18] (r := 0) (by kernel_rfl) (by kernel_rfl) (by kernel_rfl) (by kernel_rfl); (case hq => (intro z hz; simp only [pick, List.getElem?_cons_succ, List.getElem?_cons_zero]; (skip); (repeat (go_big_quiet_step ((fail)))); refine wpQuiet_nil ?_; exact rfl)); (case' h => intro V9 g9))
        have n9 : V8.heap.size ≤ V9.heap.size := g9.size
        have Z := Z.below g9
        obtain ⟨lz, z0, z1, y0, y1⟩ := id Z
        (refine tree_end (by kernel_rfl) ?_; simp only [pick, List.getElem?_cons_succ, List.getElem?_cons_zero])
        go_wp2
        exact HQ.out A3 c3 A4 c4 z u _ ⟨Bw.set (Bw.set (g1.trans (g2.trans (g3.trans (g4.trans (g5.trans (g6.trans (g7.trans (g8.trans g9)))))))) (p := ⟨z, 0, none⟩) (by show wr.heap.size ≤ z; omega) _) (p := ⟨z, 1, none⟩) (by show wr.heap.size ≤ z; omega) _, Z.set2 0 0, own_set2 (own_base (own_below ho4 (g6.trans (g7.trans (g8.trans g9)))) (by omega)) (fun g hg => by have h5 := own_lt ho4 hg; omega) _ _⟩
      · skip
        go_wp2
        refine ⟨below_new _ _, fun V5 hZ => ?_⟩
        have Z := (Has.new V4 0 0 26).below hZ
        have g5 : Gr V4 V5 := Bw.step (below_new _ (fltC 0 0)) hZ
        have nz : V4.heap.size < V5.heap.size := Z.1
        clear hZ
        generalize V4.heap.size = z at *
        (refine tree_one 13 rfl (by kernel_rfl) ?_)
        go_wp2_with (go_at_call 12; refine (HE2.out _ A3 c3 _ (ho3.below (g4.trans g5))).mono ?_; rintro e V6 ⟨A4, c4, rfl, ho4, g6⟩)
        refine ⟨g6, fun V7 g7 => ?_⟩
        have n6 : V5.heap.size ≤ V6.heap.size := g6.size
        have n7 : V6.heap.size ≤ V7.heap.size := g7.size
        replace g6 : Gr V5 V6 := g6
        (apply tree_quiet [14, 15, 16] (r := 1) (by kernel_rfl) (by kernel_rfl) (by kernel_rfl) (by kernel_rfl); (case hq => (intro z hz; simp only [pick, List.getElem?_cons_succ, List.getElem?_cons_zero]; (skip); (repeat (go_big_quiet_step ((fail)))); refine wpQuiet_nil ?_; exact rfl)); (case' h => intro V8 g8))
        have n8 : V7.heap.size ≤ V8.heap.size := g8.size
        (apply tree_quiet [18] (r := 0) (by kernel_rfl) (by kernel_rfl) (by kernel_rfl) (by kernel_rfl); (case hq => (intro z hz; simp only [pick, List.getElem?_cons_succ, List.getElem?_cons_zero]; (skip); (repeat (go_big_quiet_step ((fail)))); refine wpQuiet_nil ?_; exact rfl)); (case' h => intro V9 g9))
        have n9 : V8.heap.size ≤ V9.heap.size := g9.size
        have Z := Z.below (g6.trans (g7.trans (g8.trans g9)))
        obtain ⟨lz, z0, z1, y0, y1⟩ := id Z
        (refine tree_end (by kernel_rfl) ?_; simp only [pick, List.getElem?_cons_succ, List.getElem?_cons_zero])
        go_wp2
        exact HQ.out A3 c3 A4 c4 z u _ ⟨Bw.set (Bw.set (g1.trans (g2.trans (g3.trans (g4.trans (g5.trans (g6.trans (g7.trans (g8.trans g9)))))))) (p := ⟨z, 0, none⟩) (by show wr.heap.size ≤ z; omega) _) (p := ⟨z, 1, none⟩) (by show wr.heap.size ≤ z; omega) _, Z.set2 0 0, own_set2 (own_base (own_below ho4 (g7.trans (g8.trans g9))) (by omega)) (fun g hg => by have h5 := own_lt ho4 hg; omega) _ _⟩
    · skip
      go_wp2
      refine ⟨below_new _ _, fun V3 hZ => ?_⟩
      have Z := (Has.new V2 0 0 26).below hZ
      have g3 : Gr V2 V3 := Bw.step (below_new _ (fltC 0 0)) hZ
      have nz : V2.heap.size < V3.heap.size := Z.1
      clear hZ
      generalize V2.heap.size = z at *
      (refine tree_one 11 rfl (by kernel_rfl) ?_)
      go_wp2_with (go_at_call 24; refine (HTR.out _ (HDR.out _ (g1.trans (g2.trans g3)))).mono ?_; rintro e V4 ⟨A3, c3, rfl, ho3, g4⟩)
      refine ⟨g4, fun V5 g5 => ?_⟩
      have n4 : V3.heap.size ≤ V4.heap.size := g4.size
      have n5 : V4.heap.size ≤ V5.heap.size := g5.size
      replace g4 : Gr V3 V4 := g4
      (refine tree_one 13 rfl (by kernel_rfl) ?_)
      go_wp2_with (go_at_call 12; refine (HE2.out _ A3 c3 _ (ho3.below g5)).mono ?_; rintro e V6 ⟨A4, c4, rfl, ho4, g6⟩)
      refine ⟨g6, fun V7 g7 => ?_⟩
      have n6 : V5.heap.size ≤ V6.heap.size := g6.size
      have n7 : V6.heap.size ≤ V7.heap.size := g7.size
      replace g6 : Gr V5 V6 := g6
      (apply tree_quiet [14, 15, 16] (r := 1) (by kernel_rfl) (by kernel_rfl) (by kernel_rfl) (by kernel_rfl); (case hq => (intro z hz; simp only [pick, List.getElem?_cons_succ, List.getElem?_cons_zero]; (skip); (repeat (go_big_quiet_step ((fail)))); refine wpQuiet_nil ?_; exact rfl)); (case' h => intro V8 g8))
      have n8 : V7.heap.size ≤ V8.heap.size := g8.size
      (apply tree_quiet [18] (r := 0) (by kernel_rfl) (by kernel_rfl) (by kernel_rfl) (by kernel_rfl); (case hq => (intro z hz; simp only [pick, List.getElem?_cons_succ, List.getElem?_cons_zero]; (skip); (repeat (go_big_quiet_step ((fail)))); refine wpQuiet_nil ?_; exact rfl)); (case' h => intro V9 g9))
      have n9 : V8.heap.size ≤ V9.heap.size := g9.size
      have Z := Z.below (g4.trans (g5.trans (g6.trans (g7.trans (g8.trans g9)))))
      obtain ⟨lz, z0, z1, y0, y1⟩ := id Z
      (refine tree_end (by kernel_rfl) ?_; simp only [pick, List.getElem?_cons_succ, List.getElem?_cons_zero])
      go_wp2
      exact HQ.out A3 c3 A4 c4 z u _ ⟨Bw.set (Bw.set (g1.trans (g2.trans (g3.trans (g4.trans (g5.trans (g6.trans (g7.trans (g8.trans g9)))))))) (p := ⟨z, 0, none⟩) (by show wr.heap.size ≤ z; omega) _) (p := ⟨z, 1, none⟩) (by show wr.heap.size ≤ z; omega) _, Z.set2 0 0, own_set2 (own_base (own_below ho4 (g7.trans (g8.trans g9))) (by omega)) (fun g hg => by have h5 := own_lt ho4 hg; omega) _ _⟩
  case h2 =>
    intro A3 c3 A4 c4 z u W hWO
    obtain ⟨hW, Z, hO⟩ := hWO
    have S5 := HS0.out.below hW
    have F5 := HF1.out.below hW
    have B5 := Bw.step HB0.out hW
    have R5 := HR1.out.below hW
    have R6 := hO.rd.1
    obtain ⟨ls, s0, s1, s2, s3⟩ := id S5
    obtain ⟨l1, c10, c11, f10, f11⟩ := id F5
    obtain ⟨l2, c20, c21, f20, f21⟩ := id Z
    have s9 := Lib.hid (sameB_self (trL R C b))
    have x1 := EM2.out
    have x2 := EM3.out
    clear HE2 HTR HDR hO HS0 HT0 HF1 HB0 HR1 hW EM EM2 EM3 HBK HEN HDF HNN
    generalize R * C = NN at *
    generalize C * R = MM at *
    go_wp2_with (first | (go_at_call 24; refine (HT2.out _ _ R5).mono ?_; rintro e w6 ⟨A6, c6, rfl, ho6, hb6⟩; have R7 := R6.below hb6; have R8 := ho6.rd.1; have B6 := Bw.step B5 hb6) | (go_at_call 17; refine (refSame_any _ _ _ _ _ _ _ _ _ R7 R8).mono ?_; rw [s9.out]; rintro e w' ⟨rfl, rfl⟩) | (go_at_call 16; refine (squared_any _).mono ?_; rintro e w' ⟨rfl, hb9⟩))
    go_ret
    exact ⟨rfl, Bw.step B6 hb9⟩
set_option maxRecDepth 100000 in
set_option maxHeartbeats 4000000 in
theorem walkProductCanBeTransposed (A : Option Addr) (n c : Nat) (zs : List Int) (R C p q : Int) (w : World) (w0 : IsRow .u8 w A n c zs) (w1 : (Lit.int .i64 R).wf = true ∧ (Lit.int .i64 C).wf = true ∧ (Lit.int .i64 p).wf = true ∧ (Lit.int .i64 q).wf = true) :
    Calls Try.prog 5 #[.slice A n c, shpV R C p q] w fun e w' => e = .returned (.bool true) ∧ Below w.heap.size w w' := by
  obtain ⟨l, RL, hn, hnc⟩ := w0.bytes4
  have hR := wf64 w1.1
  have hC := wf64 w1.2.1
  clear w0 w1
  by_cases hbad : dtF n R C p q = (0, 0)
  · rcases dtF_cases n R C p q with ⟨R, C, p, q, rfl, rfl, rfl, rfl, h1, h2, h3, h4, h5, h6, hnn, h⟩ | ⟨hs, h⟩ | ⟨_, _, _, _, _, _, _, _, _, _, _, _, _, _, _, h⟩
    · exact ctGood A n c R C p q l w RL hn hnc hnn h1 h2 h3 h4 h5 h6
    · rw [h] at hbad; exact absurd hbad hs
    · rw [h] at hbad; cases hbad
  · have HEN := Lib.hid (fun w => pdEncode_bad A n c R C p q w hn hbad)
    have HDF := Lib.hid (fun w => dataFault_any A n c R C p q w hn hC hR)
    have hc := (dtF_code n R C p q).resolve_left hbad
    have hc0 : ((dtF n R C p q).1 == 0) = false := by rw [beq_eq_false_iff_ne]; exact hc
    have hc1 : ((dtF n R C p q).1 != 0) = true := by rw [bne, hc0]; rfl
    generalize (dtF n R C p q).1 = fc at *
    generalize (dtF n R C p q).2 = fi at *
    have S0 := S4.new w R C p q
    have B0 := below_new w (shpC R C p q)
    clear hbad RL
    go_enter Try.func5, Try.ntmps5
    go_wp2_with fail
    refine (HEN.out _).mono ?_
    rintro e w1 ⟨rfl, hb1⟩
    ((first | replace B0 := Bw.step B0 hb1 | replace B0 := Bw.step (Bw.al B0 _) hb1 | replace B0 := Bw.step (Bw.al (Bw.al B0 _) _) hb1 | replace B0 := Bw.step (Bw.al (Bw.al (Bw.al B0 _) _) _) hb1 | replace B0 := Bw.step (Bw.al (Bw.al (Bw.al (Bw.al B0 _) _) _) _) hb1 | replace B0 := Bw.step (Bw.al (Bw.al (Bw.al (Bw.al (Bw.al B0 _) _) _) _) _) hb1 | replace B0 := Bw.step (Bw.al (Bw.al (Bw.al (Bw.al (Bw.al (Bw.al B0 _) _) _) _) _) _) hb1); (first | replace S0 := S0.below hb1 | replace S0 := (S0.al _).below hb1 | replace S0 := ((S0.al _).al _).below hb1 | replace S0 := (((S0.al _).al _).al _).below hb1 | replace S0 := ((((S0.al _).al _).al _).al _).below hb1 | replace S0 := (((((S0.al _).al _).al _).al _).al _).below hb1 | replace S0 := ((((((S0.al _).al _).al _).al _).al _).al _).below hb1))
    have F1 := Has.new w1 fc fi 26
    obtain ⟨ls, s0, s1, s2, s3⟩ := id S0
    go_wp2_with fail
    refine (HDF.out _).mono ?_
    rintro e w2 ⟨rfl, hb2⟩
    clear ls s0 s1 s2 s3
    ((first | replace B0 := Bw.step B0 hb2 | replace B0 := Bw.step (Bw.al B0 _) hb2 | replace B0 := Bw.step (Bw.al (Bw.al B0 _) _) hb2 | replace B0 := Bw.step (Bw.al (Bw.al (Bw.al B0 _) _) _) hb2 | replace B0 := Bw.step (Bw.al (Bw.al (Bw.al (Bw.al B0 _) _) _) _) hb2 | replace B0 := Bw.step (Bw.al (Bw.al (Bw.al (Bw.al (Bw.al B0 _) _) _) _) _) hb2 | replace B0 := Bw.step (Bw.al (Bw.al (Bw.al (Bw.al (Bw.al (Bw.al B0 _) _) _) _) _) _) hb2); (first | replace F1 := F1.below hb2 | replace F1 := (F1.al _).below hb2 | replace F1 := ((F1.al _).al _).below hb2 | replace F1 := (((F1.al _).al _).al _).below hb2 | replace F1 := ((((F1.al _).al _).al _).al _).below hb2 | replace F1 := (((((F1.al _).al _).al _).al _).al _).below hb2 | replace F1 := ((((((F1.al _).al _).al _).al _).al _).al _).below hb2))
    obtain ⟨l1, c10, c11, f10, f11⟩ := id F1
    go_wp2_with (go_at_call 16; refine (squared_any _).mono ?_; rintro e w' ⟨rfl, hb9⟩)
    go_ret
    exact ⟨rfl, Bw.step B0 hb9⟩
end Go.Proofs.Ytmpjkdkgolmgdaa
