/- The walk of the law RsDecodeMatchesSpec. -/
import Derived.Test.YtdmpmeaciappjaaSvJ
import Derived.Test.YtdmpmeaciappjaaMf
namespace Go.Proofs.Ytdmpmeaciappjaa
open Go.RowKit
set_option linter.unusedVariables false

theorem nodup_le {es : List Nat} {n : Nat} (hnd : es.Nodup) (hlt : ∀ i ∈ es, i < n) : es.length ≤ n := by
  have := List.Nodup.length_le_of_subset hnd (fun i hi => List.mem_range.2 (hlt i hi))
  rwa [List.length_range] at this
set_option maxRecDepth 100000 in
set_option maxHeartbeats 4000000 in
theorem walkRsDecodeMatchesSpec (A : Option Addr) (n c : Nat) (zs : List Int) (p : Int) (I : Option Addr) (m d : Nat) (ys : List Int) (w : World) (w0 : IsRow .u8 w A n c zs) (w1 : (Lit.int .i64 p).wf = true) (w2 : IsRow .i64 w I m d ys) :
    Calls Try.prog 4 #[.slice A n c, .int .i64 p, .slice I m d] w fun e w' => e = .returned (.bool true) ∧ Below w.heap.size w w' := by
  obtain ⟨l, RL, hn⟩ := w0.rdB
  obtain ⟨er, RI, hm, hmd, hbd⟩ := w2.rdI
  have hp := wf64 w1
  clear w0 w1 w2
  by_cases hbad : wF n p = (0, 0)
  · rcases wF_cases n p with ⟨q, rfl, h1, h2, h3, h⟩ | ⟨_, h⟩ | ⟨_, _, h⟩
    · have HRL := Lib.hid RL
      have HRI := Lib.hid RI
      obtain rfl : n = l.length := RL.1.symm
      have HF := Lib.hid (fun w => rWordFault_any A l.length c q w hn hp)
      rw [h] at HF
      have HIN := Lib.hid (fun w (h : RdI w I m er) => rIncreasing_any I m d er l.length 0 w h (by omega) ⟨by omega, by omega⟩ (Int.le_refl _))
      clear h hbad RL RI hbd
      go_enter Try.func4, Try.ntmps4
      go_wp2_with fail
      refine (Decode_ok _ _ _ _ _ _ _ _ _ _ HRL.out HRI.out hm h1 h2 h3).mono ?_
      rintro e w1 ⟨BW, hpost⟩
      have BWL := BW.size
      rcases hpost with ⟨hF, rfl⟩ | ⟨es, rfl, hnd, hlt, hP, ⟨cw, A1, c1, hw, rfl, ho⟩ | ⟨hw, rfl⟩⟩
      · have hc : (incF er l.length 0).1 = 4 ∨ (incF er l.length 0).1 = 11 := by
          rcases incF_code er l.length 0 with h | ⟨k, _, h⟩ | ⟨k, _, h⟩
          · exact absurd h hF
          · rw [h]; exact .inl rfl
          · rw [h]; exact .inr rfl
        generalize (incF er l.length 0).1 = C at *
        generalize (incF er l.length 0).2 = F at *
        have xC : (C == 0) = false := by rw [beq_eq_false_iff_ne]; omega
        clear hF hc
        have F1 := Has.new w1 C F 24
        go_wp2_with fail
        refine (HF.out _).mono ?_
        rintro e w2 ⟨rfl, hb2⟩
        ((first | replace BW := Bw.step BW hb2 | replace BW := Bw.step (Bw.al BW _) hb2 | replace BW := Bw.step (Bw.al (Bw.al BW _) _) hb2 | replace BW := Bw.step (Bw.al (Bw.al (Bw.al BW _) _) _) hb2 | replace BW := Bw.step (Bw.al (Bw.al (Bw.al (Bw.al BW _) _) _) _) hb2 | replace BW := Bw.step (Bw.al (Bw.al (Bw.al (Bw.al (Bw.al BW _) _) _) _) _) hb2 | replace BW := Bw.step (Bw.al (Bw.al (Bw.al (Bw.al (Bw.al (Bw.al BW _) _) _) _) _) _) hb2); (first | replace F1 := F1.below hb2 | replace F1 := (F1.al _).below hb2 | replace F1 := ((F1.al _).al _).below hb2 | replace F1 := (((F1.al _).al _).al _).below hb2 | replace F1 := ((((F1.al _).al _).al _).al _).below hb2 | replace F1 := (((((F1.al _).al _).al _).al _).al _).below hb2 | replace F1 := ((((((F1.al _).al _).al _).al _).al _).al _).below hb2))
        have hne : w2.heap.size ≠ w1.heap.size := Nat.ne_of_gt F1.1
        have hle12 := Nat.le_of_lt F1.1
        have F2 := Has.new w2 0 0 24
        obtain ⟨l2, c20, c21, f20, f21⟩ := id F2
        clear F2
        have F2 := Has.new w2 0 0 24
        go_wp2_with fail
        refine (HIN.out _ (HRI.out.below (Bw.al BW _))).mono ?_
        rintro e w3 ⟨rfl, hb3⟩
        ((first | replace BW := Bw.step BW hb3 | replace BW := Bw.step (Bw.al BW _) hb3 | replace BW := Bw.step (Bw.al (Bw.al BW _) _) hb3 | replace BW := Bw.step (Bw.al (Bw.al (Bw.al BW _) _) _) hb3 | replace BW := Bw.step (Bw.al (Bw.al (Bw.al (Bw.al BW _) _) _) _) hb3 | replace BW := Bw.step (Bw.al (Bw.al (Bw.al (Bw.al (Bw.al BW _) _) _) _) _) hb3 | replace BW := Bw.step (Bw.al (Bw.al (Bw.al (Bw.al (Bw.al (Bw.al BW _) _) _) _) _) _) hb3); (first | replace F1 := F1.below hb3 | replace F1 := (F1.al _).below hb3 | replace F1 := ((F1.al _).al _).below hb3 | replace F1 := (((F1.al _).al _).al _).below hb3 | replace F1 := ((((F1.al _).al _).al _).al _).below hb3 | replace F1 := (((((F1.al _).al _).al _).al _).al _).below hb3 | replace F1 := ((((((F1.al _).al _).al _).al _).al _).al _).below hb3); (first | replace F2 := F2.below hb3 | replace F2 := (F2.al _).below hb3 | replace F2 := ((F2.al _).al _).below hb3 | replace F2 := (((F2.al _).al _).al _).below hb3 | replace F2 := ((((F2.al _).al _).al _).al _).below hb3 | replace F2 := (((((F2.al _).al _).al _).al _).al _).below hb3 | replace F2 := ((((((F2.al _).al _).al _).al _).al _).al _).below hb3))
        clear l2 c20 c21 f20 f21
        obtain ⟨l2, c20, c21, f20, f21⟩ := id F2
        have F1 := (F1.far (p := ⟨w2.heap.size, 0, none⟩) hne (.int .i64 C)).far (p := ⟨w2.heap.size, 1, none⟩) hne (.int .i64 F)
        have F2 := F2.set2 C F
        have BW := Bw.set (Bw.set BW (p := ⟨w2.heap.size, 0, none⟩) (show w.heap.size ≤ w2.heap.size by omega) (.int .i64 C)) (p := ⟨w2.heap.size, 1, none⟩) (show w.heap.size ≤ w2.heap.size by omega) (.int .i64 F)
        obtain ⟨l1, c10, c11, f10, f11⟩ := id F1
        obtain ⟨l3, c30, c31, f30, f31⟩ := id F2
        go_wp2_with (go_at_call 13; refine (coded_any _).mono ?_; rintro e w' ⟨rfl, hb9⟩)
        go_ret
        exact ⟨rfl, Bw.step BW hb9⟩
      · have R1 := ho.rd.1
        have HW := Lib.hid hw
        have hint := incF_of 0 hlt hP
        rw [hint] at HIN
        have HD := Lib.hid (fun w (h : RdB w A l.length l) (hi : RdI w I m (toI es)) => rDecode_any A I l.length c d m q l es w h hi h1 h3 hlt hP (by have := hi.1; rw [toI_len] at this; have := nodup_le hnd hlt; omega))
        have HU := Lib.hid (fun c (hc : Within q l es c) => within_unique h3 hnd hlt hc hw)
        have F1 := Has.new w1 0 0 24
        clear ho hw hnd hlt hP hint
        go_wp2_with fail
        refine (HF.out _).mono ?_
        rintro e w2 ⟨rfl, hb2⟩
        ((first | replace BW := Bw.step BW hb2 | replace BW := Bw.step (Bw.al BW _) hb2 | replace BW := Bw.step (Bw.al (Bw.al BW _) _) hb2 | replace BW := Bw.step (Bw.al (Bw.al (Bw.al BW _) _) _) hb2 | replace BW := Bw.step (Bw.al (Bw.al (Bw.al (Bw.al BW _) _) _) _) hb2 | replace BW := Bw.step (Bw.al (Bw.al (Bw.al (Bw.al (Bw.al BW _) _) _) _) _) hb2 | replace BW := Bw.step (Bw.al (Bw.al (Bw.al (Bw.al (Bw.al (Bw.al BW _) _) _) _) _) _) hb2); (first | replace F1 := F1.below hb2 | replace F1 := (F1.al _).below hb2 | replace F1 := ((F1.al _).al _).below hb2 | replace F1 := (((F1.al _).al _).al _).below hb2 | replace F1 := ((((F1.al _).al _).al _).al _).below hb2 | replace F1 := (((((F1.al _).al _).al _).al _).al _).below hb2 | replace F1 := ((((((F1.al _).al _).al _).al _).al _).al _).below hb2))
        have HR1 := Lib.hid (fun W (hb : Below w2.heap.size w2 W) => ((R1.al _).below hb2).below hb)
        have hne : w2.heap.size ≠ w1.heap.size := Nat.ne_of_gt F1.1
        have hle12 := Nat.le_of_lt F1.1
        have F2 := Has.new w2 0 0 24
        obtain ⟨l2, c20, c21, f20, f21⟩ := id F2
        clear F2
        have F2 := Has.new w2 0 0 24
        go_wp2_with fail
        refine (HIN.out _ (HRI.out.below (Bw.al BW _))).mono ?_
        rintro e w3 ⟨rfl, hb3⟩
        have hb3x : Below w2.heap.size w2 w3 := (below_new w2 _).trans (hb3.mono (by simp))
        ((first | replace BW := Bw.step BW hb3 | replace BW := Bw.step (Bw.al BW _) hb3 | replace BW := Bw.step (Bw.al (Bw.al BW _) _) hb3 | replace BW := Bw.step (Bw.al (Bw.al (Bw.al BW _) _) _) hb3 | replace BW := Bw.step (Bw.al (Bw.al (Bw.al (Bw.al BW _) _) _) _) hb3 | replace BW := Bw.step (Bw.al (Bw.al (Bw.al (Bw.al (Bw.al BW _) _) _) _) _) hb3 | replace BW := Bw.step (Bw.al (Bw.al (Bw.al (Bw.al (Bw.al (Bw.al BW _) _) _) _) _) _) hb3); (first | replace F1 := F1.below hb3 | replace F1 := (F1.al _).below hb3 | replace F1 := ((F1.al _).al _).below hb3 | replace F1 := (((F1.al _).al _).al _).below hb3 | replace F1 := ((((F1.al _).al _).al _).al _).below hb3 | replace F1 := (((((F1.al _).al _).al _).al _).al _).below hb3 | replace F1 := ((((((F1.al _).al _).al _).al _).al _).al _).below hb3); (first | replace F2 := F2.below hb3 | replace F2 := (F2.al _).below hb3 | replace F2 := ((F2.al _).al _).below hb3 | replace F2 := (((F2.al _).al _).al _).below hb3 | replace F2 := ((((F2.al _).al _).al _).al _).below hb3 | replace F2 := (((((F2.al _).al _).al _).al _).al _).below hb3 | replace F2 := ((((((F2.al _).al _).al _).al _).al _).al _).below hb3))
        clear l2 c20 c21 f20 f21
        obtain ⟨l2, c20, c21, f20, f21⟩ := id F2
        have F1 := (F1.far (p := ⟨w2.heap.size, 0, none⟩) hne (.int .i64 0)).far (p := ⟨w2.heap.size, 1, none⟩) hne (.int .i64 0)
        have F2 := F2.set2 0 0
        have BW := Bw.set (Bw.set BW (p := ⟨w2.heap.size, 0, none⟩) (show w.heap.size ≤ w2.heap.size by omega) (.int .i64 0)) (p := ⟨w2.heap.size, 1, none⟩) (show w.heap.size ≤ w2.heap.size by omega) (.int .i64 0)
        obtain ⟨l3, c30, c31, f30, f31⟩ := id F2
        have R1 : Hid (RdB ((w3.setCell ⟨w2.heap.size, 0, none⟩ (.int .i64 0)).setCell ⟨w2.heap.size, 1, none⟩ (.int .i64 0)) A1 l.length cw) := Lib.hid (HR1.out _ ((hb3x.setCell (p := ⟨w2.heap.size, 0, none⟩) (Nat.le_refl _) _).setCell (p := ⟨w2.heap.size, 1, none⟩) (Nat.le_refl _) _))
        go_wp2_with fail
        refine (HD.out _ (HRL.out.below BW) (HRI.out.below BW)).mono ?_
        rintro e w4 ⟨hb4, hpost⟩
        rcases hpost with ⟨c4, A4, d4, hw4, rfl, ho4⟩ | ⟨hno, _⟩
        · obtain rfl := HU.out c4 hw4
          have R4 := ho4.rd.1
          have R1 := R1.out.below hb4
          have s1 := Lib.hid (sameB_self c4)
          have F1 := F1.below hb4
          obtain ⟨l1, c10, c11, f10, f11⟩ := id F1
          have BW := Bw.step BW hb4
          have hd1 := dcnt_le l c4 [] l.length
          generalize dcnt l c4 [] l.length = dn at *
          have dq : decide ((dn : Int) < 0) = false := by simp only [decide_eq_false_iff_not]; omega
          clear ho4 hw4 HU HD HW HR1 hb3x l3 c30 c31 f30 f31
          go_wp2_with (first | (go_at_call 14; refine (refSame_any _ _ _ _ _ _ _ _ _ R1 R4).mono ?_; rw [s1.out]; rintro e w' ⟨rfl, rfl⟩) | (go_at_call 13; refine (coded_any _).mono ?_; rintro e w' ⟨rfl, hb9⟩))
          go_ret
          exact ⟨rfl, Bw.step BW hb9⟩
        · exact absurd HW.out (hno _)
      · have HW := Lib.hid hw
        have hint := incF_of 0 hlt hP
        rw [hint] at HIN
        have HD := Lib.hid (fun w (h : RdB w A l.length l) (hi : RdI w I m (toI es)) => rDecode_any A I l.length c d m q l es w h hi h1 h3 hlt hP (by have := hi.1; rw [toI_len] at this; have := nodup_le hnd hlt; omega))
        have F1 := Has.new w1 16 (-1) 24
        clear hw hnd hlt hP hint
        go_wp2_with fail
        refine (HF.out _).mono ?_
        rintro e w2 ⟨rfl, hb2⟩
        ((first | replace BW := Bw.step BW hb2 | replace BW := Bw.step (Bw.al BW _) hb2 | replace BW := Bw.step (Bw.al (Bw.al BW _) _) hb2 | replace BW := Bw.step (Bw.al (Bw.al (Bw.al BW _) _) _) hb2 | replace BW := Bw.step (Bw.al (Bw.al (Bw.al (Bw.al BW _) _) _) _) hb2 | replace BW := Bw.step (Bw.al (Bw.al (Bw.al (Bw.al (Bw.al BW _) _) _) _) _) hb2 | replace BW := Bw.step (Bw.al (Bw.al (Bw.al (Bw.al (Bw.al (Bw.al BW _) _) _) _) _) _) hb2); (first | replace F1 := F1.below hb2 | replace F1 := (F1.al _).below hb2 | replace F1 := ((F1.al _).al _).below hb2 | replace F1 := (((F1.al _).al _).al _).below hb2 | replace F1 := ((((F1.al _).al _).al _).al _).below hb2 | replace F1 := (((((F1.al _).al _).al _).al _).al _).below hb2 | replace F1 := ((((((F1.al _).al _).al _).al _).al _).al _).below hb2))
        have hne : w2.heap.size ≠ w1.heap.size := Nat.ne_of_gt F1.1
        have hle12 := Nat.le_of_lt F1.1
        have F2 := Has.new w2 0 0 24
        obtain ⟨l2, c20, c21, f20, f21⟩ := id F2
        clear F2
        have F2 := Has.new w2 0 0 24
        go_wp2_with fail
        refine (HIN.out _ (HRI.out.below (Bw.al BW _))).mono ?_
        rintro e w3 ⟨rfl, hb3⟩
        ((first | replace BW := Bw.step BW hb3 | replace BW := Bw.step (Bw.al BW _) hb3 | replace BW := Bw.step (Bw.al (Bw.al BW _) _) hb3 | replace BW := Bw.step (Bw.al (Bw.al (Bw.al BW _) _) _) hb3 | replace BW := Bw.step (Bw.al (Bw.al (Bw.al (Bw.al BW _) _) _) _) hb3 | replace BW := Bw.step (Bw.al (Bw.al (Bw.al (Bw.al (Bw.al BW _) _) _) _) _) hb3 | replace BW := Bw.step (Bw.al (Bw.al (Bw.al (Bw.al (Bw.al (Bw.al BW _) _) _) _) _) _) hb3); (first | replace F1 := F1.below hb3 | replace F1 := (F1.al _).below hb3 | replace F1 := ((F1.al _).al _).below hb3 | replace F1 := (((F1.al _).al _).al _).below hb3 | replace F1 := ((((F1.al _).al _).al _).al _).below hb3 | replace F1 := (((((F1.al _).al _).al _).al _).al _).below hb3 | replace F1 := ((((((F1.al _).al _).al _).al _).al _).al _).below hb3); (first | replace F2 := F2.below hb3 | replace F2 := (F2.al _).below hb3 | replace F2 := ((F2.al _).al _).below hb3 | replace F2 := (((F2.al _).al _).al _).below hb3 | replace F2 := ((((F2.al _).al _).al _).al _).below hb3 | replace F2 := (((((F2.al _).al _).al _).al _).al _).below hb3 | replace F2 := ((((((F2.al _).al _).al _).al _).al _).al _).below hb3))
        clear l2 c20 c21 f20 f21
        obtain ⟨l2, c20, c21, f20, f21⟩ := id F2
        have F1 := (F1.far (p := ⟨w2.heap.size, 0, none⟩) hne (.int .i64 0)).far (p := ⟨w2.heap.size, 1, none⟩) hne (.int .i64 0)
        have F2 := F2.set2 0 0
        have BW := Bw.set (Bw.set BW (p := ⟨w2.heap.size, 0, none⟩) (show w.heap.size ≤ w2.heap.size by omega) (.int .i64 0)) (p := ⟨w2.heap.size, 1, none⟩) (show w.heap.size ≤ w2.heap.size by omega) (.int .i64 0)
        obtain ⟨l3, c30, c31, f30, f31⟩ := id F2
        go_wp2_with fail
        refine (HD.out _ (HRL.out.below BW) (HRI.out.below BW)).mono ?_
        rintro e w4 ⟨hb4, hpost⟩
        rcases hpost with ⟨c4, A4, d4, hw4, _, _⟩ | ⟨hno, rfl⟩
        · exact absurd hw4 (HW.out _)
        · have F1 := F1.below hb4
          have BW := Bw.step BW hb4
          clear hno HD HW l3 c30 c31 f30 f31
          go_wp2
          have X1 := F1.ext
          (refine wp_region_ext (by kernel_rfl) (by kernel_rfl) ?_; (repeat (go_big_quiet_step ((first | (go_at_call 20; exact ext_alloc (refAt_any _ _ _)) | (go_at_call 13; exact ext_call (coded_any _)))))); refine wpQuiet_nil ?_; intro W5 hw'; have hW5 := ext_below hw'; clear hw')
          clear X1
          go_wp2
          go_ret
          exact ⟨rfl, Bw.step BW hW5⟩
    · rw [h] at hbad; cases hbad
    · rw [h] at hbad; cases hbad
  · have HS := Lib.hid (fun w => Decode_bad A I n c m d p w hn hp hbad)
    have HF := Lib.hid (fun w => rWordFault_any A n c p w hn hp)
    have hc := wF_code hbad
    generalize (wF n p).1 = C at *
    generalize (wF n p).2 = F at *
    have xC : (C == 0) = false := by rw [beq_eq_false_iff_ne]; omega
    clear hbad hc
    go_enter Try.func4, Try.ntmps4
    go_wp2_with fail
    refine (HS.out _).mono ?_
    rintro e w1 ⟨rfl, BW⟩
    have F1 := Has.new w1 C F 24
    go_wp2_with fail
    refine (HF.out _).mono ?_
    rintro e w3 ⟨rfl, hb3⟩
    ((first | replace BW := Bw.step BW hb3 | replace BW := Bw.step (Bw.al BW _) hb3 | replace BW := Bw.step (Bw.al (Bw.al BW _) _) hb3 | replace BW := Bw.step (Bw.al (Bw.al (Bw.al BW _) _) _) hb3 | replace BW := Bw.step (Bw.al (Bw.al (Bw.al (Bw.al BW _) _) _) _) hb3 | replace BW := Bw.step (Bw.al (Bw.al (Bw.al (Bw.al (Bw.al BW _) _) _) _) _) hb3 | replace BW := Bw.step (Bw.al (Bw.al (Bw.al (Bw.al (Bw.al (Bw.al BW _) _) _) _) _) _) hb3); (first | replace F1 := F1.below hb3 | replace F1 := (F1.al _).below hb3 | replace F1 := ((F1.al _).al _).below hb3 | replace F1 := (((F1.al _).al _).al _).below hb3 | replace F1 := ((((F1.al _).al _).al _).al _).below hb3 | replace F1 := (((((F1.al _).al _).al _).al _).al _).below hb3 | replace F1 := ((((((F1.al _).al _).al _).al _).al _).al _).below hb3))
    have F3 := Has.new w3 C F 24
    have F1 := F1.al (.cells #[.int .i64 C, .int .i64 F] 24)
    obtain ⟨l1, c10, c11, f10, f11⟩ := id F1
    obtain ⟨l3, c30, c31, f30, f31⟩ := id F3
    go_wp2_with (go_at_call 13; refine (coded_any _).mono ?_; rintro e w' ⟨rfl, hb9⟩)
    go_ret
    exact ⟨rfl, Bw.step (Bw.al BW _) hb9⟩
end Go.Proofs.Ytdmpmeaciappjaa
