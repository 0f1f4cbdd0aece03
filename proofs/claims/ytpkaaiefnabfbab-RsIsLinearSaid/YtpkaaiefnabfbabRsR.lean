/- The walk of the law RsSyndromesAreValues. -/
import Derived.Test.YtpkaaiefnabfbabRsQ
namespace Go.Proofs.Ytpkaaiefnabfbab
open Go.RowKit
set_option linter.unusedVariables false

theorem rev_take_succ (l : List GF) {t : Nat} (ht : t < l.length) : l.reverse.take (t + 1) = l.reverse.take t ++ [l.getD (l.length - 1 - t) 0] := by
  rw [List.take_add_one, List.getElem?_reverse ht]
  simp [List.getD, show l.length - 1 - t < l.length by omega]
set_option maxRecDepth 100000 in
set_option maxHeartbeats 4000000 in
theorem walkRsSyndromesAreValues (A : Option Addr) (n c : Nat) (zs : List Int) (p j : Int) (w : World) (w0 : IsRow .u8 w A n c zs) (w1 : (Lit.int .i64 p).wf = true) (w2 : (Lit.int .i64 j).wf = true) :
    Calls Try.prog 8 #[.slice A n c, .int .i64 p, .int .i64 j] w fun e w' => e = .returned (.bool true) ∧ Below w.heap.size w w' := by
  obtain ⟨l, RL, hn⟩ := w0.rdB
  have hp := wf64 w1
  have hj := wf64 w2
  have HF := Lib.hid (fun w => rWordFault_any A n c p w hn hp)
  clear w0 w1 w2
  by_cases hbad : wF n p = (0, 0)
  · rcases wF_cases n p with ⟨q, rfl, h1, h2, h3, h⟩ | ⟨_, h⟩ | ⟨_, _, h⟩
    · have HRL := Lib.hid RL
      rw [h] at HF
      obtain rfl : n = l.length := RL.1.symm
      clear h hbad RL
      go_enter Try.func8, Try.ntmps8
      go_wp2_with fail
      refine (Syndromes_ok _ _ _ _ _ _ HRL.out h1 h2 h3).mono ?_
      rintro e w1 ⟨A1, c1, rfl, ho1, BW⟩
      have R1 := ho1.rd.1
      have F1 := Has.new w1 0 0 24
      clear ho1
      go_wp2_with fail
      refine (HF.out _).mono ?_
      rintro e w2 ⟨rfl, hb2⟩
      ((first | replace BW := Bw.step BW hb2 | replace BW := Bw.step (Bw.al BW _) hb2 | replace BW := Bw.step (Bw.al (Bw.al BW _) _) hb2 | replace BW := Bw.step (Bw.al (Bw.al (Bw.al BW _) _) _) hb2 | replace BW := Bw.step (Bw.al (Bw.al (Bw.al (Bw.al BW _) _) _) _) hb2 | replace BW := Bw.step (Bw.al (Bw.al (Bw.al (Bw.al (Bw.al BW _) _) _) _) _) hb2 | replace BW := Bw.step (Bw.al (Bw.al (Bw.al (Bw.al (Bw.al (Bw.al BW _) _) _) _) _) _) hb2); (first | replace F1 := F1.below hb2 | replace F1 := (F1.al _).below hb2 | replace F1 := ((F1.al _).al _).below hb2 | replace F1 := (((F1.al _).al _).al _).below hb2 | replace F1 := ((((F1.al _).al _).al _).al _).below hb2 | replace F1 := (((((F1.al _).al _).al _).al _).al _).below hb2 | replace F1 := ((((((F1.al _).al _).al _).al _).al _).al _).below hb2); (first | replace R1 := R1.below hb2 | replace R1 := (R1.al _).below hb2 | replace R1 := ((R1.al _).al _).below hb2 | replace R1 := (((R1.al _).al _).al _).below hb2 | replace R1 := ((((R1.al _).al _).al _).al _).below hb2 | replace R1 := (((((R1.al _).al _).al _).al _).al _).below hb2 | replace R1 := ((((((R1.al _).al _).al _).al _).al _).al _).below hb2))
      have HBW := Lib.hid BW
      have HR1 := Lib.hid R1
      have HF1 := Lib.hid F1
      by_cases hin : 0 ≤ j ∧ j < q
      · obtain ⟨t, rfl⟩ := Int.eq_ofNat_of_zero_le hin.1
        have htq : t < q := by omega
        have dq : decide (q ≤ t) = false := by simp only [decide_eq_false_iff_not]; omega
        have dt : decide ((t : Int) < 0) = false := by simp only [decide_eq_false_iff_not]; omega
        clear hin hb2 BW R1 F1
        go_wp2
        go_loopw [9, 10] (fun v i wr => ∃ (k : Nat) (m : Int), k ≤ l.length ∧ m = (l.length : Int) - 1 - k ∧ i = .int .i64 m ∧ OwB wr w2.heap.size v (l.reverse.take k) ∧ Below w2.heap.size w2 wr) (fun _ i _ => (intOf i + 1).toNat)
        case atStart => exact ⟨0, (l.length : Int) - 1, Nat.zero_le _, by simp, rfl, OwB.nil _ _, Below.refl _ _⟩
        case round =>
          obtain ⟨k, m, hk, hm, rfl, ho, hbw⟩ := hrel
          by_cases hlt : k < l.length
          · obtain ⟨b, off, rfl, hlb, hcc⟩ := rd_cell ((HRL.out.below HBW.out).below hbw) (i := l.length - 1 - k) (by omega)
            have HS := Lib.hid (rev_take_succ l hlt)
            have hcf : cf l (l.length - 1 - k) = l.getD (l.length - 1 - k) 0 := rfl
            rw [hcf] at hcc
            obtain rfl : m = ((l.length - 1 - k : Nat) : Int) := by omega
            have hjl : l.length - 1 - k < l.length := by omega
            have HO := Lib.hid ho
            have hL : (l.reverse.take k).length ≤ 1000 := by rw [List.length_take, List.length_reverse]; omega
            have hsz := hbw.size
            generalize hjj : l.length - 1 - k = jj at *
            clear hcf ho hm
            generalize l.getD jj 0 = y at *
            generalize l.reverse.take k = Lp at *
            go_wp2_with (at_builtin; refine wpList_app1 wr rfl (.tmp 41) (.tmp 46) rfl w2.heap.size _ Lp HO.out rfl y _ rfl (by omega) hsz ?_; intro v6 w6 ho6 hc6)
            go_wp2
            go_roundw
            case rel => first | exact ⟨k + 1, (jj : Int) - 1, by omega, by omega, rfl, by rw [HS.out]; exact ho6, hbw.trans hc6⟩ | ((repeat apply Exists.intro); exact ⟨⟨k + 1, (jj : Int) - 1, by omega, by omega, rfl, by rw [HS.out]; exact ho6, hbw.trans hc6⟩, rfl⟩)
            case measure => simp [intOf] <;> omega
          · obtain rfl : k = l.length := by omega
            rw [List.take_of_length_le (by rw [List.length_reverse]; exact Nat.le_refl _)] at ho
            obtain ⟨A3, c3, rfl⟩ := ho.form
            have HO := Lib.hid ho.rd.1
            rw [List.length_reverse] at HO
            rw [List.length_reverse]
            have BW3 := Bw.step HBW.out hbw
            have R1 := HR1.out.below hbw
            have F1 := HF1.out.below hbw
            have HV := Lib.hid (fun w (h : RdB w A3 l.length l.reverse) => poValueP_ok A3 l.length c3 l.reverse (GF.exp (t : Int)) w h (by omega))
            rw [show valL l.reverse (GF.exp (t : Int)) = synd l t from rfl] at HV
            obtain rfl : m = -1 := by omega
            clear hm
            have HE := Lib.hid (fun w => gExpZ (t : Int) w)
            have HSY := Lib.hid (syndL_get l htq)
            generalize GF.exp (t : Int) = xx at *
            clear ho
            go_wp2_with (go_at_call 29; refine (HE.out _).mono ?_; rintro e w' ⟨rfl, rfl⟩)
            go_wp2_with fail
            refine (HV.out _ HO.out).mono ?_
            rintro e w4 ⟨rfl, hb4⟩
            ((first | replace BW3 := Bw.step BW3 hb4 | replace BW3 := Bw.step (Bw.al BW3 _) hb4 | replace BW3 := Bw.step (Bw.al (Bw.al BW3 _) _) hb4 | replace BW3 := Bw.step (Bw.al (Bw.al (Bw.al BW3 _) _) _) hb4 | replace BW3 := Bw.step (Bw.al (Bw.al (Bw.al (Bw.al BW3 _) _) _) _) hb4 | replace BW3 := Bw.step (Bw.al (Bw.al (Bw.al (Bw.al (Bw.al BW3 _) _) _) _) _) hb4 | replace BW3 := Bw.step (Bw.al (Bw.al (Bw.al (Bw.al (Bw.al (Bw.al BW3 _) _) _) _) _) _) hb4); (first | replace F1 := F1.below hb4 | replace F1 := (F1.al _).below hb4 | replace F1 := ((F1.al _).al _).below hb4 | replace F1 := (((F1.al _).al _).al _).below hb4 | replace F1 := ((((F1.al _).al _).al _).al _).below hb4 | replace F1 := (((((F1.al _).al _).al _).al _).al _).below hb4 | replace F1 := ((((((F1.al _).al _).al _).al _).al _).al _).below hb4); (first | replace R1 := R1.below hb4 | replace R1 := (R1.al _).below hb4 | replace R1 := ((R1.al _).al _).below hb4 | replace R1 := (((R1.al _).al _).al _).below hb4 | replace R1 := ((((R1.al _).al _).al _).al _).below hb4 | replace R1 := (((((R1.al _).al _).al _).al _).al _).below hb4 | replace R1 := ((((((R1.al _).al _).al _).al _).al _).al _).below hb4))
            have F4 := Has.new w4 0 0 24
            have F1 := F1.al (.cells #[.int .i64 0, .int .i64 0] 24)
            have R1 := R1.al (.cells #[.int .i64 0, .int .i64 0] 24)
            obtain ⟨l1, c10, c11, f10, f11⟩ := id F1
            obtain ⟨l4, c40, c41, f40, f41⟩ := id F4
            obtain ⟨b5, o5, rfl, hlb5, hc5⟩ := rd_cell R1 (i := t) htq
            rw [show cf (syndL l q) t = synd l t from HSY.out] at hc5
            generalize synd l t = sy at *
            go_wp2_with (go_at_call 15; refine (coded_any _).mono ?_; rintro e w' ⟨rfl, hb9⟩)
            go_ret
            exact ⟨rfl, Bw.step (Bw.al BW3 _) hb9⟩
      · clear hb2
        by_cases hj0 : j < 0
        · go_wp2_with (go_at_call 15; refine (coded_any _).mono ?_; rintro e w' ⟨rfl, hb9⟩)
          go_ret
          exact ⟨rfl, Bw.step BW hb9⟩
        · have hj1 : (q : Int) ≤ j := by omega
          clear hin
          go_wp2_with (go_at_call 15; refine (coded_any _).mono ?_; rintro e w' ⟨rfl, hb9⟩)
          go_ret
          exact ⟨rfl, Bw.step BW hb9⟩
    · rw [h] at hbad; cases hbad
    · rw [h] at hbad; cases hbad
  · have HS := Lib.hid (fun w => Syndromes_bad A n c p w hn hp hbad)
    have hc := wF_code hbad
    generalize (wF n p).1 = C at *
    generalize (wF n p).2 = F at *
    have xC : (C == 0) = false := by rw [beq_eq_false_iff_ne]; omega
    have xC2 : (C != 0) = true := by rw [bne_iff_ne]; omega
    clear hbad hc
    go_enter Try.func8, Try.ntmps8
    go_wp2_with fail
    refine (HS.out _).mono ?_
    rintro e w1 ⟨rfl, BW⟩
    go_wp2_with fail
    refine (HF.out _).mono ?_
    rintro e w2 ⟨rfl, hb2⟩
    go_wp2_with (go_at_call 15; refine (coded_any _).mono ?_; rintro e w' ⟨rfl, hb9⟩)
    go_ret
    exact ⟨rfl, Bw.step (Bw.step (Bw.al BW _) hb2) hb9⟩
end Go.Proofs.Ytpkaaiefnabfbab
