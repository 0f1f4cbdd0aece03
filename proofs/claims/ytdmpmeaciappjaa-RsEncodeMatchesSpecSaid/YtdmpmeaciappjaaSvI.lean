/- The walk of the law RsEncodeMatchesSpec. -/
import Derived.Test.YtdmpmeaciappjaaMf
namespace Go.Proofs.Ytdmpmeaciappjaa
open Go.RowKit
set_option linter.unusedVariables false

set_option maxRecDepth 100000 in
set_option maxHeartbeats 2000000 in
theorem walkRsEncodeMatchesSpec (A : Option Addr) (n c : Nat) (zs : List Int) (p : Int) (w : World) (w0 : IsRow .u8 w A n c zs) (w1 : (Lit.int .i64 p).wf = true) :
    Calls Try.prog 3 #[.slice A n c, .int .i64 p] w fun e w' => e = .returned (.bool true) ∧ Below w.heap.size w w' := by
  obtain ⟨l, RL, hn⟩ := w0.rdB
  have hp := wf64 w1
  clear w0 w1
  by_cases hbad : dF n p = (0, 0)
  · rcases dF_cases n p with ⟨q, rfl, h1, h2, h3, h⟩ | ⟨_, h⟩ | ⟨_, _, h⟩
    · have HRL := Lib.hid RL
      have HF := Lib.hid (fun w => rDataFault_any A n c q w hn hp)
      rw [h] at HF
      have hln := RL.1
      have HU := Lib.hid (fun a b (ha : IsEnc l q a) (hb : IsEnc l q b) => IsEnc_unique (by omega) ha hb)
      clear h hbad RL
      go_enter Try.func3, Try.ntmps3
      go_wp2_with fail
      refine (Encode_ok _ _ _ _ _ _ HRL.out h1 h2 h3).mono ?_
      rintro e w1 ⟨A1, c1, wd, rfl, ho1, he1, BW⟩
      have R1 := ho1.rd.1
      have F1 := Has.new w1 0 0 24
      clear ho1
      go_wp2_with fail
      refine (HF.out _).mono ?_
      rintro e w3 ⟨rfl, hb3⟩
      ((first | replace BW := Bw.step BW hb3 | replace BW := Bw.step (Bw.al BW _) hb3 | replace BW := Bw.step (Bw.al (Bw.al BW _) _) hb3 | replace BW := Bw.step (Bw.al (Bw.al (Bw.al BW _) _) _) hb3 | replace BW := Bw.step (Bw.al (Bw.al (Bw.al (Bw.al BW _) _) _) _) hb3 | replace BW := Bw.step (Bw.al (Bw.al (Bw.al (Bw.al (Bw.al BW _) _) _) _) _) hb3 | replace BW := Bw.step (Bw.al (Bw.al (Bw.al (Bw.al (Bw.al (Bw.al BW _) _) _) _) _) _) hb3); (first | replace F1 := F1.below hb3 | replace F1 := (F1.al _).below hb3 | replace F1 := ((F1.al _).al _).below hb3 | replace F1 := (((F1.al _).al _).al _).below hb3 | replace F1 := ((((F1.al _).al _).al _).al _).below hb3 | replace F1 := (((((F1.al _).al _).al _).al _).al _).below hb3 | replace F1 := ((((((F1.al _).al _).al _).al _).al _).al _).below hb3); (first | replace R1 := R1.below hb3 | replace R1 := (R1.al _).below hb3 | replace R1 := ((R1.al _).al _).below hb3 | replace R1 := (((R1.al _).al _).al _).below hb3 | replace R1 := ((((R1.al _).al _).al _).al _).below hb3 | replace R1 := (((((R1.al _).al _).al _).al _).al _).below hb3 | replace R1 := ((((((R1.al _).al _).al _).al _).al _).al _).below hb3))
      have F3 := Has.new w3 0 0 24
      obtain ⟨l3, c30, c31, f30, f31⟩ := id F3
      have F1 := F1.al (.cells #[.int .i64 0, .int .i64 0] 24)
      obtain ⟨l1, c10, c11, f10, f11⟩ := id F1
      go_wp2_with fail
      refine (rEncode_any _ _ _ _ l _ ((HRL.out.below BW).al _) h1 h3).mono ?_
      rintro e w4 ⟨A4, c4, wd4, rfl, ho4, he4, hb4⟩
      ((first | replace BW := Bw.step BW hb4 | replace BW := Bw.step (Bw.al BW _) hb4 | replace BW := Bw.step (Bw.al (Bw.al BW _) _) hb4 | replace BW := Bw.step (Bw.al (Bw.al (Bw.al BW _) _) _) hb4 | replace BW := Bw.step (Bw.al (Bw.al (Bw.al (Bw.al BW _) _) _) _) hb4 | replace BW := Bw.step (Bw.al (Bw.al (Bw.al (Bw.al (Bw.al BW _) _) _) _) _) hb4 | replace BW := Bw.step (Bw.al (Bw.al (Bw.al (Bw.al (Bw.al (Bw.al BW _) _) _) _) _) _) hb4); (first | replace R1 := R1.below hb4 | replace R1 := (R1.al _).below hb4 | replace R1 := ((R1.al _).al _).below hb4 | replace R1 := (((R1.al _).al _).al _).below hb4 | replace R1 := ((((R1.al _).al _).al _).al _).below hb4 | replace R1 := (((((R1.al _).al _).al _).al _).al _).below hb4 | replace R1 := ((((((R1.al _).al _).al _).al _).al _).al _).below hb4))
      have R4 := ho4.rd.1
      obtain rfl := HU.out _ _ he1 he4
      have s1 := Lib.hid (sameB_self wd)
      clear ho4 l3 c30 c31 f30 f31 F3 F1 l1 c10 c11 f10 f11 he1 he4 HU
      go_wp2_with (first | (go_at_call 14; refine (refSame_any _ _ _ _ _ _ _ _ _ R1 R4).mono ?_; rw [s1.out]; rintro e w' ⟨rfl, rfl⟩) | (go_at_call 13; refine (coded_any _).mono ?_; rintro e w' ⟨rfl, hb9⟩))
      go_ret
      exact ⟨rfl, Bw.step BW hb9⟩
    · rw [h] at hbad; cases hbad
    · rw [h] at hbad; cases hbad
  · have HS := Lib.hid (fun w => Encode_bad A n c p w hn hp hbad)
    have HF := Lib.hid (fun w => rDataFault_any A n c p w hn hp)
    have hc := dF_code hbad
    generalize (dF n p).1 = C at *
    generalize (dF n p).2 = F at *
    have xC : (C == 0) = false := by rw [beq_eq_false_iff_ne]; omega
    clear hbad hc
    go_enter Try.func3, Try.ntmps3
    go_wp2_with fail
    refine (HS.out _).mono ?_
    rintro e w1 ⟨rfl, BW⟩
    have F1 := Has.new w1 C F 24
    go_wp2_with fail
    refine (HF.out _).mono ?_
    rintro e w3 ⟨rfl, hb3⟩
    ((first | replace BW := Bw.step BW hb3 | replace BW := Bw.step (Bw.al BW _) hb3 | replace BW := Bw.step (Bw.al (Bw.al BW _) _) hb3 | replace BW := Bw.step (Bw.al (Bw.al (Bw.al BW _) _) _) hb3 | replace BW := Bw.step (Bw.al (Bw.al (Bw.al (Bw.al BW _) _) _) _) hb3 | replace BW := Bw.step (Bw.al (Bw.al (Bw.al (Bw.al (Bw.al BW _) _) _) _) _) hb3 | replace BW := Bw.step (Bw.al (Bw.al (Bw.al (Bw.al (Bw.al (Bw.al BW _) _) _) _) _) _) hb3); (first | replace F1 := F1.below hb3 | replace F1 := (F1.al _).below hb3 | replace F1 := ((F1.al _).al _).below hb3 | replace F1 := (((F1.al _).al _).al _).below hb3 | replace F1 := ((((F1.al _).al _).al _).al _).below hb3 | replace F1 := (((((F1.al _).al _).al _).al _).al _).below hb3 | replace F1 := ((((((F1.al _).al _).al _).al _).al _).al _).below hb3))
    have F3 := Has.new w3 C F 24
    have F1 := F1.al (.cells #[.int .i64 C, .int .i64 F] 24)
    obtain ⟨l1, c10, c11, f10, f11⟩ := id F1
    obtain ⟨l3, c30, c31, f30, f31⟩ := id F3
    go_wp2_with (go_at_call 13; refine (coded_any _).mono ?_; rintro e w' ⟨rfl, hb9⟩)
    go_ret
    exact ⟨rfl, Bw.step (Bw.al BW _) hb9⟩
end Go.Proofs.Ytdmpmeaciappjaa
