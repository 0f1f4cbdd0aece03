/- Product codes: the walk of the law that Decode meets its specification. -/
import Derived.Test.YtmpjkdkgolmgdaaPdX
import Derived.Test.YtmpjkdkgolmgdaaPuB
import Derived.Test.YtmpjkdkgolmgdaaPdK
namespace Go.Proofs.Ytmpjkdkgolmgdaa
open Go.RowKit
set_option linter.unusedVariables false

theorem un_lost (R C p q : Nat) (hC : 1 ≤ C) (hp : p < C) (code : List GF) (es : List Nat) (h : R * C ≤ 1024) : (unblockL R C p q code es).lost.length ≤ 1024 := by
  unfold unblockL
  exact Nat.le_trans (lost_len hC (Nat.le_of_lt hp) _ _ _ _ _).1 h
set_option maxRecDepth 100000 in
set_option maxHeartbeats 4000000 in
theorem walkProductDecodeMatchesSpec (A : Option Addr) (n c : Nat) (zs : List Int) (R C p q : Int) (I : Option Addr) (me ce : Nat) (ys : List Int) (w : World) (w0 : IsRow .u8 w A n c zs) (w1 : (Lit.int .i64 R).wf = true ∧ (Lit.int .i64 C).wf = true ∧ (Lit.int .i64 p).wf = true ∧ (Lit.int .i64 q).wf = true) (w2 : IsRow .i64 w I me ce ys) (room0 : n * 1 ≤ 140737488355328) (room2 : me * 8 ≤ 140737488355328) :
    Calls Try.prog 4 #[.slice A n c, shpV R C p q, .slice I me ce] w fun e w' => e = .returned (.bool true) ∧ Below w.heap.size w w' := by
  obtain ⟨l, RL, hn, hnc⟩ := w0.bytes4
  obtain ⟨er, RI, hm, hmd, hbd⟩ := w2.rdI
  have hR := wf64 w1.1
  have hC := wf64 w1.2.1
  clear w0 w1 w2
  have HRI := Lib.hid RI
  have HRL := Lib.hid RL
  have HF := Lib.hid (fun w => codeFault_any A n c R C p q w hn hC hR)
  have HIN := Lib.hid (fun w (h : RdI w I me er) => rIncreasing_any I me ce er (n : Int) 10 w h (by omega) ⟨by omega, by omega⟩ (by omega))
  clear RL RI hbd
  by_cases hbad : cdF n R C p q = (0, 0)
  · rcases cdF_cases n R C p q with ⟨R, C, p, q, rfl, rfl, rfl, rfl, h1, h2, h3, h4, h5, h6, hnn, h⟩ | ⟨hs, h⟩ | ⟨_, _, _, _, _, _, _, _, _, _, _, _, _, _, _, h⟩
    · rw [h] at HF
      have HNN := Lib.hid hnn
      have hN : n ≤ 1024 := by have := (mul32 h2 h4).2; rw [← Int.natCast_mul, ← hnn] at this; omega
      have HDE := Lib.hid (fun w (hl : RdB w A n l) (hi : RdI w I me er) => pdDecode_ok A I n c me ce R C p q l er w hl hi (by omega) hnn h1 h2 h3 h4 h5 h6)
      have S0 := S4.new w R C p q
      have B0 := below_new w (shpC R C p q)
      clear h hbad hnn
      go_enter Try.func4, Try.ntmps4
      go_wp2_with fail
      refine (HDE.out _ (HRL.out.below B0) (HRI.out.below B0)).mono ?_
      rintro e w1 ⟨hb1, hpost⟩
      ((first | replace B0 := Bw.step B0 hb1 | replace B0 := Bw.step (Bw.al B0 _) hb1 | replace B0 := Bw.step (Bw.al (Bw.al B0 _) _) hb1 | replace B0 := Bw.step (Bw.al (Bw.al (Bw.al B0 _) _) _) hb1 | replace B0 := Bw.step (Bw.al (Bw.al (Bw.al (Bw.al B0 _) _) _) _) hb1 | replace B0 := Bw.step (Bw.al (Bw.al (Bw.al (Bw.al (Bw.al B0 _) _) _) _) _) hb1 | replace B0 := Bw.step (Bw.al (Bw.al (Bw.al (Bw.al (Bw.al (Bw.al B0 _) _) _) _) _) _) hb1); (first | replace S0 := S0.below hb1 | replace S0 := (S0.al _).below hb1 | replace S0 := ((S0.al _).al _).below hb1 | replace S0 := (((S0.al _).al _).al _).below hb1 | replace S0 := ((((S0.al _).al _).al _).al _).below hb1 | replace S0 := (((((S0.al _).al _).al _).al _).al _).below hb1 | replace S0 := ((((((S0.al _).al _).al _).al _).al _).al _).below hb1))
      have hz1 : w.heap.size < w1.heap.size := S0.1
      rcases hpost with ⟨hF, rfl⟩ | ⟨es, rfl, hnd, hlt, hP, A1, d1, A2, d2, rfl, ho1, ho2⟩
      · have hc : (incF er (n : Nat) 10).1 = 4 ∨ (incF er (n : Nat) 10).1 = 11 := by
          rcases incF_code er (n : Nat) 10 with h | ⟨k, _, h⟩ | ⟨k, _, h⟩
          · exact absurd h hF
          · rw [h]; exact .inl rfl
          · rw [h]; exact .inr rfl
        generalize (incF er (n : Nat) 10).1 = fc at *
        generalize (incF er (n : Nat) 10).2 = fi at *
        have xC : (fc == 0) = false := by rw [beq_eq_false_iff_ne]; omega
        have xC2 : (fc != 0) = true := by rw [bne, xC]; rfl
        clear hF hc
        have F1 := Has.new w1 fc fi 26
        obtain ⟨ls, s0, s1, s2, s3⟩ := id S0
        go_wp2_with fail
        refine (HF.out _).mono ?_
        rintro e w2 ⟨rfl, hb2⟩
        clear ls s0 s1 s2 s3
        ((first | replace B0 := Bw.step B0 hb2 | replace B0 := Bw.step (Bw.al B0 _) hb2 | replace B0 := Bw.step (Bw.al (Bw.al B0 _) _) hb2 | replace B0 := Bw.step (Bw.al (Bw.al (Bw.al B0 _) _) _) hb2 | replace B0 := Bw.step (Bw.al (Bw.al (Bw.al (Bw.al B0 _) _) _) _) hb2 | replace B0 := Bw.step (Bw.al (Bw.al (Bw.al (Bw.al (Bw.al B0 _) _) _) _) _) hb2 | replace B0 := Bw.step (Bw.al (Bw.al (Bw.al (Bw.al (Bw.al (Bw.al B0 _) _) _) _) _) _) hb2); (first | replace S0 := S0.below hb2 | replace S0 := (S0.al _).below hb2 | replace S0 := ((S0.al _).al _).below hb2 | replace S0 := (((S0.al _).al _).al _).below hb2 | replace S0 := ((((S0.al _).al _).al _).al _).below hb2 | replace S0 := (((((S0.al _).al _).al _).al _).al _).below hb2 | replace S0 := ((((((S0.al _).al _).al _).al _).al _).al _).below hb2); (first | replace F1 := F1.below hb2 | replace F1 := (F1.al _).below hb2 | replace F1 := ((F1.al _).al _).below hb2 | replace F1 := (((F1.al _).al _).al _).below hb2 | replace F1 := ((((F1.al _).al _).al _).al _).below hb2 | replace F1 := (((((F1.al _).al _).al _).al _).al _).below hb2 | replace F1 := ((((((F1.al _).al _).al _).al _).al _).al _).below hb2))
        have hz2 : w1.heap.size < w2.heap.size := F1.1
        have F2 := Has.new w2 0 0 26
        obtain ⟨l2, c20, c21, f20, f21⟩ := id F2
        go_wp2_with fail
        refine (HIN.out _ (HRI.out.below (Bw.al B0 _))).mono ?_
        rintro e w3 ⟨rfl, hb3⟩
        ((first | replace B0 := Bw.step B0 hb3 | replace B0 := Bw.step (Bw.al B0 _) hb3 | replace B0 := Bw.step (Bw.al (Bw.al B0 _) _) hb3 | replace B0 := Bw.step (Bw.al (Bw.al (Bw.al B0 _) _) _) hb3 | replace B0 := Bw.step (Bw.al (Bw.al (Bw.al (Bw.al B0 _) _) _) _) hb3 | replace B0 := Bw.step (Bw.al (Bw.al (Bw.al (Bw.al (Bw.al B0 _) _) _) _) _) hb3 | replace B0 := Bw.step (Bw.al (Bw.al (Bw.al (Bw.al (Bw.al (Bw.al B0 _) _) _) _) _) _) hb3); (first | replace F1 := F1.below hb3 | replace F1 := (F1.al _).below hb3 | replace F1 := ((F1.al _).al _).below hb3 | replace F1 := (((F1.al _).al _).al _).below hb3 | replace F1 := ((((F1.al _).al _).al _).al _).below hb3 | replace F1 := (((((F1.al _).al _).al _).al _).al _).below hb3 | replace F1 := ((((((F1.al _).al _).al _).al _).al _).al _).below hb3); (first | replace F2 := F2.below hb3 | replace F2 := (F2.al _).below hb3 | replace F2 := ((F2.al _).al _).below hb3 | replace F2 := (((F2.al _).al _).al _).below hb3 | replace F2 := ((((F2.al _).al _).al _).al _).below hb3 | replace F2 := (((((F2.al _).al _).al _).al _).al _).below hb3 | replace F2 := ((((((F2.al _).al _).al _).al _).al _).al _).below hb3))
        clear l2 c20 c21 f20 f21
        obtain ⟨l2, c20, c21, f20, f21⟩ := id F2
        have X := ((Exc.refl [w2.heap.size] w3).set (p := ⟨w2.heap.size, 0, none⟩) (by simp) (.int .i64 fc)).set (p := ⟨w2.heap.size, 1, none⟩) (by simp) (.int .i64 fi)
        have F1 := F1.exc X (by simp; omega)
        have F2 := F2.set2 fc fi
        have B0 := Bw.set (Bw.set B0 (p := ⟨w2.heap.size, 0, none⟩) (show w.heap.size ≤ w2.heap.size by omega) (.int .i64 fc)) (p := ⟨w2.heap.size, 1, none⟩) (show w.heap.size ≤ w2.heap.size by omega) (.int .i64 fi)
        clear X
        obtain ⟨l1, c10, c11, f10, f11⟩ := id F1
        obtain ⟨l3, c30, c31, f30, f31⟩ := id F2
        go_wp2_with (go_at_call 16; refine (squared_any _).mono ?_; rintro e w' ⟨rfl, hb9⟩)
        go_ret
        exact ⟨rfl, Bw.step B0 hb9⟩
      · have HUB := Lib.hid (fun w (hl : RdB w A n l) (hi : RdI w I me (toI es)) => rUnblock_any A I n c me ce R C p q l es w hl hi hnc HNN.out h1 h2 h3 h4 h5 h6 hlt (by omega))
        have hint := incF_of 10 hlt hP
        rw [hint] at HIN
        have hll := un_lost R C p q h3 h5 l es (by rw [← HNN.out]; exact hN)
        have F1 := Has.new w1 0 0 26
        have R1 : OwB (w1.alloc (fltC 0 0)) (w.heap.size + 1) (.slice A1 (unblockL R C p q l es).data.length d1) (unblockL R C p q l es).data := own_base (own_below ho1 (below_new w1 _)) (by simp)
        have R2 : OwI (w1.alloc (fltC 0 0)) (w.heap.size + 1) (.slice A2 (unblockL R C p q l es).lost.length d2) (toI (unblockL R C p q l es).lost) := own_base (own_below ho2 (below_new w1 _)) (by simp)
        have Q1 := ho1.rd.1.al (fltC 0 0)
        have Q2 := ho2.rd.1.al (fltC 0 0)
        clear hnd hlt hP hint ho1 ho2 R1 R2
        generalize unblockL R C p q l es = un at *
        obtain ⟨ls, s0, s1, s2, s3⟩ := id S0
        go_wp2_with fail
        refine (HF.out _).mono ?_
        rintro e w2 ⟨rfl, hb2⟩
        clear ls s0 s1 s2 s3
        ((first | replace B0 := Bw.step B0 hb2 | replace B0 := Bw.step (Bw.al B0 _) hb2 | replace B0 := Bw.step (Bw.al (Bw.al B0 _) _) hb2 | replace B0 := Bw.step (Bw.al (Bw.al (Bw.al B0 _) _) _) hb2 | replace B0 := Bw.step (Bw.al (Bw.al (Bw.al (Bw.al B0 _) _) _) _) hb2 | replace B0 := Bw.step (Bw.al (Bw.al (Bw.al (Bw.al (Bw.al B0 _) _) _) _) _) hb2 | replace B0 := Bw.step (Bw.al (Bw.al (Bw.al (Bw.al (Bw.al (Bw.al B0 _) _) _) _) _) _) hb2); (first | replace S0 := S0.below hb2 | replace S0 := (S0.al _).below hb2 | replace S0 := ((S0.al _).al _).below hb2 | replace S0 := (((S0.al _).al _).al _).below hb2 | replace S0 := ((((S0.al _).al _).al _).al _).below hb2 | replace S0 := (((((S0.al _).al _).al _).al _).al _).below hb2 | replace S0 := ((((((S0.al _).al _).al _).al _).al _).al _).below hb2); (first | replace F1 := F1.below hb2 | replace F1 := (F1.al _).below hb2 | replace F1 := ((F1.al _).al _).below hb2 | replace F1 := (((F1.al _).al _).al _).below hb2 | replace F1 := ((((F1.al _).al _).al _).al _).below hb2 | replace F1 := (((((F1.al _).al _).al _).al _).al _).below hb2 | replace F1 := ((((((F1.al _).al _).al _).al _).al _).al _).below hb2))
        replace Q1 := Q1.below hb2
        replace Q2 := Q2.below hb2
        have HQ1 := Lib.hid (fun W (hb : Below w2.heap.size w2 W) => Q1.below hb)
        have HQ2 := Lib.hid (fun W (hb : Below w2.heap.size w2 W) => Q2.below hb)
        have hz2 : w1.heap.size < w2.heap.size := F1.1
        have F2 := Has.new w2 0 0 26
        have S0 := S0.al (fltC 0 0)
        obtain ⟨l2, c20, c21, f20, f21⟩ := id F2
        go_wp2_with fail
        refine (HIN.out _ (HRI.out.below (Bw.al B0 _))).mono ?_
        rintro e w3 ⟨rfl, hb3⟩
        have hb3x : Below w2.heap.size w2 w3 := (below_new w2 _).trans (hb3.mono (by simp))
        have S0 := S0.below hb3
        ((first | replace B0 := Bw.step B0 hb3 | replace B0 := Bw.step (Bw.al B0 _) hb3 | replace B0 := Bw.step (Bw.al (Bw.al B0 _) _) hb3 | replace B0 := Bw.step (Bw.al (Bw.al (Bw.al B0 _) _) _) hb3 | replace B0 := Bw.step (Bw.al (Bw.al (Bw.al (Bw.al B0 _) _) _) _) hb3 | replace B0 := Bw.step (Bw.al (Bw.al (Bw.al (Bw.al (Bw.al B0 _) _) _) _) _) hb3 | replace B0 := Bw.step (Bw.al (Bw.al (Bw.al (Bw.al (Bw.al (Bw.al B0 _) _) _) _) _) _) hb3); (first | replace F1 := F1.below hb3 | replace F1 := (F1.al _).below hb3 | replace F1 := ((F1.al _).al _).below hb3 | replace F1 := (((F1.al _).al _).al _).below hb3 | replace F1 := ((((F1.al _).al _).al _).al _).below hb3 | replace F1 := (((((F1.al _).al _).al _).al _).al _).below hb3 | replace F1 := ((((((F1.al _).al _).al _).al _).al _).al _).below hb3); (first | replace F2 := F2.below hb3 | replace F2 := (F2.al _).below hb3 | replace F2 := ((F2.al _).al _).below hb3 | replace F2 := (((F2.al _).al _).al _).below hb3 | replace F2 := ((((F2.al _).al _).al _).al _).below hb3 | replace F2 := (((((F2.al _).al _).al _).al _).al _).below hb3 | replace F2 := ((((((F2.al _).al _).al _).al _).al _).al _).below hb3))
        clear l2 c20 c21 f20 f21
        obtain ⟨l2, c20, c21, f20, f21⟩ := id F2
        have X := ((Exc.refl [w2.heap.size] w3).set (p := ⟨w2.heap.size, 0, none⟩) (by simp) (.int .i64 0)).set (p := ⟨w2.heap.size, 1, none⟩) (by simp) (.int .i64 0)
        have F1 := F1.exc X (by simp; omega)
        have S0 := S0.exc X (by simp; omega)
        have F2 := F2.set2 0 0
        have B0 := Bw.set (Bw.set B0 (p := ⟨w2.heap.size, 0, none⟩) (show w.heap.size ≤ w2.heap.size by omega) (.int .i64 0)) (p := ⟨w2.heap.size, 1, none⟩) (show w.heap.size ≤ w2.heap.size by omega) (.int .i64 0)
        have hbx := (hb3x.setCell (p := ⟨w2.heap.size, 0, none⟩) (Nat.le_refl _) (.int .i64 0)).setCell (p := ⟨w2.heap.size, 1, none⟩) (Nat.le_refl _) (.int .i64 0)
        have Q1 := HQ1.out _ hbx
        have Q2 := HQ2.out _ hbx
        clear X hbx HQ1 HQ2
        obtain ⟨ls, s0, s1, s2, s3⟩ := id S0
        obtain ⟨l3, c30, c31, f30, f31⟩ := id F2
        go_wp2_with fail
        refine (HUB.out _ (HRL.out.below B0) (HRI.out.below B0)).mono ?_
        rintro e w4 ⟨A4, d4, A5, d5, rfl, ho4, ho5, hb4⟩
        have F1 := F1.below hb4
        have Q1 := Q1.below hb4
        have Q2 := Q2.below hb4
        have P1 := ho4.rd.1
        have P2 := ho5.rd.1
        have B4 := Bw.step B0 hb4
        have y1 := Lib.hid (sameB_self un.data)
        have y2 := Lib.hid (sameI_self (toI un.lost))
        obtain ⟨l1, c10, c11, f10, f11⟩ := id F1
        clear ho4 ho5 l2 c20 c21 f20 f21 l3 c30 c31 f30 f31 ls s0 s1 s2 s3
        go_wp2_with (first | (go_at_call 17; refine (refSame_any _ _ _ _ _ _ _ _ _ Q1 P1).mono ?_; rw [y1.out]; rintro e w' ⟨rfl, rfl⟩) | (go_at_call 23; refine (refInts_any _ _ _ _ _ _ _ _ _ Q2 P2 (by omega) (by omega)).mono ?_; rw [y2.out]; rintro e w' ⟨rfl, hb5⟩) | (go_at_call 16; refine (squared_any _).mono ?_; rintro e w' ⟨rfl, hb9⟩))
        go_ret
        exact ⟨rfl, Bw.step (Bw.step B4 hb5) hb9⟩
    · rw [h] at hbad; exact absurd hbad hs
    · rw [h] at hbad; cases hbad
  · have HDE := Lib.hid (fun w => pdDecode_bad A I n c me ce R C p q w hn hbad)
    have hc := (cdF_code n R C p q).resolve_left hbad
    have hc0 : ((cdF n R C p q).1 == 0) = false := by rw [beq_eq_false_iff_ne]; exact hc
    have hc1 : ((cdF n R C p q).1 != 0) = true := by rw [bne, hc0]; rfl
    generalize (cdF n R C p q).1 = fc at *
    generalize (cdF n R C p q).2 = fi at *
    have S0 := S4.new w R C p q
    have B0 := below_new w (shpC R C p q)
    clear hbad
    go_enter Try.func4, Try.ntmps4
    go_wp2_with fail
    refine (HDE.out _).mono ?_
    rintro e w1 ⟨rfl, hb1⟩
    ((first | replace B0 := Bw.step B0 hb1 | replace B0 := Bw.step (Bw.al B0 _) hb1 | replace B0 := Bw.step (Bw.al (Bw.al B0 _) _) hb1 | replace B0 := Bw.step (Bw.al (Bw.al (Bw.al B0 _) _) _) hb1 | replace B0 := Bw.step (Bw.al (Bw.al (Bw.al (Bw.al B0 _) _) _) _) hb1 | replace B0 := Bw.step (Bw.al (Bw.al (Bw.al (Bw.al (Bw.al B0 _) _) _) _) _) hb1 | replace B0 := Bw.step (Bw.al (Bw.al (Bw.al (Bw.al (Bw.al (Bw.al B0 _) _) _) _) _) _) hb1); (first | replace S0 := S0.below hb1 | replace S0 := (S0.al _).below hb1 | replace S0 := ((S0.al _).al _).below hb1 | replace S0 := (((S0.al _).al _).al _).below hb1 | replace S0 := ((((S0.al _).al _).al _).al _).below hb1 | replace S0 := (((((S0.al _).al _).al _).al _).al _).below hb1 | replace S0 := ((((((S0.al _).al _).al _).al _).al _).al _).below hb1))
    have F1 := Has.new w1 fc fi 26
    obtain ⟨ls, s0, s1, s2, s3⟩ := id S0
    go_wp2_with fail
    refine (HF.out _).mono ?_
    rintro e w2 ⟨rfl, hb2⟩
    clear ls s0 s1 s2 s3
    ((first | replace B0 := Bw.step B0 hb2 | replace B0 := Bw.step (Bw.al B0 _) hb2 | replace B0 := Bw.step (Bw.al (Bw.al B0 _) _) hb2 | replace B0 := Bw.step (Bw.al (Bw.al (Bw.al B0 _) _) _) hb2 | replace B0 := Bw.step (Bw.al (Bw.al (Bw.al (Bw.al B0 _) _) _) _) hb2 | replace B0 := Bw.step (Bw.al (Bw.al (Bw.al (Bw.al (Bw.al B0 _) _) _) _) _) hb2 | replace B0 := Bw.step (Bw.al (Bw.al (Bw.al (Bw.al (Bw.al (Bw.al B0 _) _) _) _) _) _) hb2); (first | replace F1 := F1.below hb2 | replace F1 := (F1.al _).below hb2 | replace F1 := ((F1.al _).al _).below hb2 | replace F1 := (((F1.al _).al _).al _).below hb2 | replace F1 := ((((F1.al _).al _).al _).al _).below hb2 | replace F1 := (((((F1.al _).al _).al _).al _).al _).below hb2 | replace F1 := ((((((F1.al _).al _).al _).al _).al _).al _).below hb2))
    have F2 := Has.new w2 fc fi 26
    have F1 := F1.al (fltC fc fi)
    have B0 := Bw.al B0 (fltC fc fi)
    obtain ⟨l1, c10, c11, f10, f11⟩ := id F1
    obtain ⟨l2, c20, c21, f20, f21⟩ := id F2
    go_wp2_with (go_at_call 16; refine (squared_any _).mono ?_; rintro e w' ⟨rfl, hb9⟩)
    go_ret
    exact ⟨rfl, Bw.step B0 hb9⟩
end Go.Proofs.Ytmpjkdkgolmgdaa
