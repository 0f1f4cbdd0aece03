/- The walks of the laws RsSyndromesMatchSpec, RsDecodeIsSound, RsFewerParities. -/
import Derived.Test.YtpkaaiefnabfbabRsO
namespace Go.Proofs.Ytpkaaiefnabfbab
open Go.RowKit
set_option linter.unusedVariables false

theorem wf64 {a : Int} (h : (Lit.int .i64 a).wf = true) : -9223372036854775808 ≤ a ∧ a ≤ 9223372036854775807 := by
  simp [Lit.wf, IntKind.min, IntKind.max, IntKind.signed, IntKind.bits] at h
  omega
theorem IsRow.rdI {w : World} {a : Option Addr} {len cap : Nat} {zs : List Int} (h : IsRow .i64 w a len cap zs) : ∃ l : List Int, RdI w a len l ∧ len ≤ 9223372036854775807 ∧ len ≤ cap ∧ ∀ n ∈ l, -9223372036854775808 ≤ n ∧ n ≤ 9223372036854775807 := by
  rcases h with ⟨rfl, rfl, rfl, rfl⟩ | ⟨x, rfl, hl, hm, hz, hcell, hwz⟩
  · exact ⟨[], ⟨rfl, fun h => by omega⟩, by omega, Nat.le_refl _, by simp⟩
  · refine ⟨zs.take len, ⟨by rw [List.length_take]; omega, fun hn => ?_⟩, by unfold maxLen at hm; omega, hl, fun n hn => wf64 (hwz n (List.mem_of_mem_take hn))⟩
    obtain ⟨b, off, spot⟩ := x
    have hc0 := hcell 0 (by omega)
    have hspot : spot = none := by simpa [Addr.add] using World.cell?_spot hc0
    subst hspot
    have hlt : b < w.heap.size := by
      have h0 := hcell 0 (by omega)
      rw [addr_add] at h0
      rcases Nat.lt_or_ge b w.heap.size with h | h
      · exact h
      · simp [World.cell?, Array.getElem?_eq_none h] at h0
    refine ⟨b, off, rfl, hlt, fun i hi => ?_⟩
    have hi2 : i < zs.length := by omega
    rw [← addr_add, hcell i hi2]
    simp [List.getD, hi]
theorem IsRow.rdB {w : World} {a : Option Addr} {len cap : Nat} {zs : List Int} (h : IsRow .u8 w a len cap zs) : ∃ l : List GF, RdB w a len l ∧ len ≤ 9223372036854775807 := by
  obtain ⟨l, h1, h2⟩ := h.bytes
  exact ⟨l, h1, by unfold maxLen at h2; omega⟩
theorem wF_code {n : Nat} {p : Int} (h : wF n p ≠ (0, 0)) : (wF n p).1 = 4 ∨ (wF n p).1 = 9 := by
  rcases wF_cases n p with ⟨q, _, _, _, _, h'⟩ | ⟨_, h'⟩ | ⟨_, _, h'⟩
  · exact absurd h' h
  · rw [h']; exact .inl rfl
  · rw [h']; exact .inr rfl
theorem dF_code {n : Nat} {p : Int} (h : dF n p ≠ (0, 0)) : (dF n p).1 = 4 ∨ (dF n p).1 = 9 := by
  rcases dF_cases n p with ⟨q, _, _, _, _, h'⟩ | ⟨_, h'⟩ | ⟨_, _, h'⟩
  · exact absurd h' h
  · rw [h']; exact .inl rfl
  · rw [h']; exact .inr rfl
set_option maxRecDepth 100000 in
set_option maxHeartbeats 2000000 in
theorem walkRsSyndromesMatchSpec (A : Option Addr) (n c : Nat) (zs : List Int) (p : Int) (w : World) (w0 : IsRow .u8 w A n c zs) (w1 : (Lit.int .i64 p).wf = true) :
    Calls Try.prog 10 #[.slice A n c, .int .i64 p] w fun e w' => e = .returned (.bool true) ∧ Below w.heap.size w w' := by
  obtain ⟨l, RL, hn⟩ := w0.rdB
  have hp := wf64 w1
  clear w0 w1
  by_cases hbad : wF n p = (0, 0)
  · rcases wF_cases n p with ⟨q, rfl, h1, h2, h3, h⟩ | ⟨_, h⟩ | ⟨_, _, h⟩
    · have HRL := Lib.hid RL
      have HF := Lib.hid (fun w => rWordFault_any A n c q w hn hp)
      rw [h] at HF
      have HCW : Hid (cwB q l = zeroB (syndL l q)) := Lib.hid rfl
      have s1 := Lib.hid (sameB_self (syndL l q))
      clear h hbad RL
      go_enter Try.func10, Try.ntmps10
      go_wp2_with fail
      refine (Syndromes_ok _ _ _ _ _ _ HRL.out h1 h2 h3).mono ?_
      rintro e w1 ⟨A1, c1, rfl, ho1, BW⟩
      have R1 := ho1.rd.1
      have F1 := Has.new w1 0 0 24
      clear ho1
      go_wp2_with fail
      refine (Check_ok _ _ _ _ _ _ ((HRL.out.below BW).al _) h1 h2 h3).mono ?_
      rintro e w2 ⟨rfl, hb2⟩
      ((first | replace BW := Bw.step BW hb2 | replace BW := Bw.step (Bw.al BW _) hb2 | replace BW := Bw.step (Bw.al (Bw.al BW _) _) hb2 | replace BW := Bw.step (Bw.al (Bw.al (Bw.al BW _) _) _) hb2 | replace BW := Bw.step (Bw.al (Bw.al (Bw.al (Bw.al BW _) _) _) _) hb2 | replace BW := Bw.step (Bw.al (Bw.al (Bw.al (Bw.al (Bw.al BW _) _) _) _) _) hb2 | replace BW := Bw.step (Bw.al (Bw.al (Bw.al (Bw.al (Bw.al (Bw.al BW _) _) _) _) _) _) hb2); (first | replace F1 := F1.below hb2 | replace F1 := (F1.al _).below hb2 | replace F1 := ((F1.al _).al _).below hb2 | replace F1 := (((F1.al _).al _).al _).below hb2 | replace F1 := ((((F1.al _).al _).al _).al _).below hb2 | replace F1 := (((((F1.al _).al _).al _).al _).al _).below hb2 | replace F1 := ((((((F1.al _).al _).al _).al _).al _).al _).below hb2); (first | replace R1 := R1.below hb2 | replace R1 := (R1.al _).below hb2 | replace R1 := ((R1.al _).al _).below hb2 | replace R1 := (((R1.al _).al _).al _).below hb2 | replace R1 := ((((R1.al _).al _).al _).al _).below hb2 | replace R1 := (((((R1.al _).al _).al _).al _).al _).below hb2 | replace R1 := ((((((R1.al _).al _).al _).al _).al _).al _).below hb2))
      have F2 := Has.new w2 0 0 24
      go_wp2_with fail
      refine (HF.out _).mono ?_
      rintro e w3 ⟨rfl, hb3⟩
      ((first | replace BW := Bw.step BW hb3 | replace BW := Bw.step (Bw.al BW _) hb3 | replace BW := Bw.step (Bw.al (Bw.al BW _) _) hb3 | replace BW := Bw.step (Bw.al (Bw.al (Bw.al BW _) _) _) hb3 | replace BW := Bw.step (Bw.al (Bw.al (Bw.al (Bw.al BW _) _) _) _) hb3 | replace BW := Bw.step (Bw.al (Bw.al (Bw.al (Bw.al (Bw.al BW _) _) _) _) _) hb3 | replace BW := Bw.step (Bw.al (Bw.al (Bw.al (Bw.al (Bw.al (Bw.al BW _) _) _) _) _) _) hb3); (first | replace F1 := F1.below hb3 | replace F1 := (F1.al _).below hb3 | replace F1 := ((F1.al _).al _).below hb3 | replace F1 := (((F1.al _).al _).al _).below hb3 | replace F1 := ((((F1.al _).al _).al _).al _).below hb3 | replace F1 := (((((F1.al _).al _).al _).al _).al _).below hb3 | replace F1 := ((((((F1.al _).al _).al _).al _).al _).al _).below hb3); (first | replace F2 := F2.below hb3 | replace F2 := (F2.al _).below hb3 | replace F2 := ((F2.al _).al _).below hb3 | replace F2 := (((F2.al _).al _).al _).below hb3 | replace F2 := ((((F2.al _).al _).al _).al _).below hb3 | replace F2 := (((((F2.al _).al _).al _).al _).al _).below hb3 | replace F2 := ((((((F2.al _).al _).al _).al _).al _).al _).below hb3); (first | replace R1 := R1.below hb3 | replace R1 := (R1.al _).below hb3 | replace R1 := ((R1.al _).al _).below hb3 | replace R1 := (((R1.al _).al _).al _).below hb3 | replace R1 := ((((R1.al _).al _).al _).al _).below hb3 | replace R1 := (((((R1.al _).al _).al _).al _).al _).below hb3 | replace R1 := ((((((R1.al _).al _).al _).al _).al _).al _).below hb3))
      have F3 := Has.new w3 0 0 24
      obtain ⟨l3, c30, c31, f30, f31⟩ := id F3
      go_wp2_with fail
      refine (rSyndromes_any _ _ _ _ l _ ((HRL.out.below BW).al _) (by omega) (by omega)).mono ?_
      rintro e w4 ⟨A4, c4, rfl, ho4, hb4⟩
      ((first | replace BW := Bw.step BW hb4 | replace BW := Bw.step (Bw.al BW _) hb4 | replace BW := Bw.step (Bw.al (Bw.al BW _) _) hb4 | replace BW := Bw.step (Bw.al (Bw.al (Bw.al BW _) _) _) hb4 | replace BW := Bw.step (Bw.al (Bw.al (Bw.al (Bw.al BW _) _) _) _) hb4 | replace BW := Bw.step (Bw.al (Bw.al (Bw.al (Bw.al (Bw.al BW _) _) _) _) _) hb4 | replace BW := Bw.step (Bw.al (Bw.al (Bw.al (Bw.al (Bw.al (Bw.al BW _) _) _) _) _) _) hb4); (first | replace F1 := F1.below hb4 | replace F1 := (F1.al _).below hb4 | replace F1 := ((F1.al _).al _).below hb4 | replace F1 := (((F1.al _).al _).al _).below hb4 | replace F1 := ((((F1.al _).al _).al _).al _).below hb4 | replace F1 := (((((F1.al _).al _).al _).al _).al _).below hb4 | replace F1 := ((((((F1.al _).al _).al _).al _).al _).al _).below hb4); (first | replace F2 := F2.below hb4 | replace F2 := (F2.al _).below hb4 | replace F2 := ((F2.al _).al _).below hb4 | replace F2 := (((F2.al _).al _).al _).below hb4 | replace F2 := ((((F2.al _).al _).al _).al _).below hb4 | replace F2 := (((((F2.al _).al _).al _).al _).al _).below hb4 | replace F2 := ((((((F2.al _).al _).al _).al _).al _).al _).below hb4); (first | replace R1 := R1.below hb4 | replace R1 := (R1.al _).below hb4 | replace R1 := ((R1.al _).al _).below hb4 | replace R1 := (((R1.al _).al _).al _).below hb4 | replace R1 := ((((R1.al _).al _).al _).al _).below hb4 | replace R1 := (((((R1.al _).al _).al _).al _).al _).below hb4 | replace R1 := ((((((R1.al _).al _).al _).al _).al _).al _).below hb4))
      have R4 := ho4.rd.1
      clear ho4 l3 c30 c31 f30 f31 F3
      obtain ⟨l1, c10, c11, f10, f11⟩ := id F1
      obtain ⟨l2, c20, c21, f20, f21⟩ := id F2
      have HZ := Lib.hid (rZero_any A4 q c4 _ _ R4 (by omega))
      rw [← HCW.out] at HZ
      generalize cwB q l = bb at *
      cases bb
      all_goals
        go_wp2_with (first | (go_at_call 16; refine (refSame_any _ _ _ _ _ _ _ _ _ R1 R4).mono ?_; rw [s1.out]; rintro e w' ⟨rfl, rfl⟩) | (go_at_call 32; refine HZ.out.mono ?_; rintro e w' ⟨rfl, rfl⟩) | (go_at_call 15; refine (coded_any _).mono ?_; rintro e w' ⟨rfl, hb9⟩))
        go_ret
        exact ⟨rfl, Bw.step BW hb9⟩
    · rw [h] at hbad; cases hbad
    · rw [h] at hbad; cases hbad
  · have HS := Lib.hid (fun w => Syndromes_bad A n c p w hn hp hbad)
    have HC := Lib.hid (fun w => Check_bad A n c p w hn hp hbad)
    have HF := Lib.hid (fun w => rWordFault_any A n c p w hn hp)
    have hc := wF_code hbad
    generalize (wF n p).1 = C at *
    generalize (wF n p).2 = F at *
    have xC : (C == 0) = false := by rw [beq_eq_false_iff_ne]; omega
    clear hbad hc
    go_enter Try.func10, Try.ntmps10
    go_wp2_with fail
    refine (HS.out _).mono ?_
    rintro e w1 ⟨rfl, BW⟩
    have F1 := Has.new w1 C F 24
    go_wp2_with fail
    refine (HC.out _).mono ?_
    rintro e w2 ⟨rfl, hb2⟩
    ((first | replace BW := Bw.step BW hb2 | replace BW := Bw.step (Bw.al BW _) hb2 | replace BW := Bw.step (Bw.al (Bw.al BW _) _) hb2 | replace BW := Bw.step (Bw.al (Bw.al (Bw.al BW _) _) _) hb2 | replace BW := Bw.step (Bw.al (Bw.al (Bw.al (Bw.al BW _) _) _) _) hb2 | replace BW := Bw.step (Bw.al (Bw.al (Bw.al (Bw.al (Bw.al BW _) _) _) _) _) hb2 | replace BW := Bw.step (Bw.al (Bw.al (Bw.al (Bw.al (Bw.al (Bw.al BW _) _) _) _) _) _) hb2); (first | replace F1 := F1.below hb2 | replace F1 := (F1.al _).below hb2 | replace F1 := ((F1.al _).al _).below hb2 | replace F1 := (((F1.al _).al _).al _).below hb2 | replace F1 := ((((F1.al _).al _).al _).al _).below hb2 | replace F1 := (((((F1.al _).al _).al _).al _).al _).below hb2 | replace F1 := ((((((F1.al _).al _).al _).al _).al _).al _).below hb2))
    have F2 := Has.new w2 C F 24
    go_wp2_with fail
    refine (HF.out _).mono ?_
    rintro e w3 ⟨rfl, hb3⟩
    ((first | replace BW := Bw.step BW hb3 | replace BW := Bw.step (Bw.al BW _) hb3 | replace BW := Bw.step (Bw.al (Bw.al BW _) _) hb3 | replace BW := Bw.step (Bw.al (Bw.al (Bw.al BW _) _) _) hb3 | replace BW := Bw.step (Bw.al (Bw.al (Bw.al (Bw.al BW _) _) _) _) hb3 | replace BW := Bw.step (Bw.al (Bw.al (Bw.al (Bw.al (Bw.al BW _) _) _) _) _) hb3 | replace BW := Bw.step (Bw.al (Bw.al (Bw.al (Bw.al (Bw.al (Bw.al BW _) _) _) _) _) _) hb3); (first | replace F1 := F1.below hb3 | replace F1 := (F1.al _).below hb3 | replace F1 := ((F1.al _).al _).below hb3 | replace F1 := (((F1.al _).al _).al _).below hb3 | replace F1 := ((((F1.al _).al _).al _).al _).below hb3 | replace F1 := (((((F1.al _).al _).al _).al _).al _).below hb3 | replace F1 := ((((((F1.al _).al _).al _).al _).al _).al _).below hb3); (first | replace F2 := F2.below hb3 | replace F2 := (F2.al _).below hb3 | replace F2 := ((F2.al _).al _).below hb3 | replace F2 := (((F2.al _).al _).al _).below hb3 | replace F2 := ((((F2.al _).al _).al _).al _).below hb3 | replace F2 := (((((F2.al _).al _).al _).al _).al _).below hb3 | replace F2 := ((((((F2.al _).al _).al _).al _).al _).al _).below hb3))
    have F3 := Has.new w3 C F 24
    have F1 := F1.al (.cells #[.int .i64 C, .int .i64 F] 24)
    have F2 := F2.al (.cells #[.int .i64 C, .int .i64 F] 24)
    obtain ⟨l1, c10, c11, f10, f11⟩ := id F1
    obtain ⟨l2, c20, c21, f20, f21⟩ := id F2
    obtain ⟨l3, c30, c31, f30, f31⟩ := id F3
    go_wp2_with (go_at_call 15; refine (coded_any _).mono ?_; rintro e w' ⟨rfl, hb9⟩)
    go_ret
    exact ⟨rfl, Bw.step (Bw.al BW _) hb9⟩
set_option maxRecDepth 100000 in
set_option maxHeartbeats 4000000 in
theorem walkRsDecodeIsSound (A : Option Addr) (n c : Nat) (zs : List Int) (p : Int) (I : Option Addr) (m d : Nat) (ys : List Int) (w : World) (w0 : IsRow .u8 w A n c zs) (w1 : (Lit.int .i64 p).wf = true) (w2 : IsRow .i64 w I m d ys) :
    Calls Try.prog 11 #[.slice A n c, .int .i64 p, .slice I m d] w fun e w' => e = .returned (.bool true) ∧ Below w.heap.size w w' := by
  obtain ⟨l, RL, hn⟩ := w0.rdB
  obtain ⟨er, RI, hm, hmd, hbd⟩ := w2.rdI
  have hp := wf64 w1
  clear w0 w1 w2
  by_cases hbad : wF n p = (0, 0)
  · rcases wF_cases n p with ⟨q, rfl, h1, h2, h3, h⟩ | ⟨_, h⟩ | ⟨_, _, h⟩
    · have HRL := Lib.hid RL
      have HRI := Lib.hid RI
      obtain rfl : n = l.length := RL.1.symm
      clear h hbad RL RI hbd
      go_enter Try.func11, Try.ntmps11
      go_wp2_with fail
      refine (Decode_ok _ _ _ _ _ _ _ _ _ _ HRL.out HRI.out hm h1 h2 h3).mono ?_
      rintro e w1 ⟨BW, hpost⟩
      rcases hpost with ⟨hF, rfl⟩ | ⟨es, rfl, hnd, hlt, hP, ⟨cw, A1, c1, hw, rfl, ho⟩ | ⟨hw, rfl⟩⟩
      · have hc : (incF er l.length 0).1 = 4 ∨ (incF er l.length 0).1 = 11 := by
          rcases incF_code er l.length 0 with h | ⟨k, _, h⟩ | ⟨k, _, h⟩
          · exact absurd h hF
          · rw [h]; exact .inl rfl
          · rw [h]; exact .inr rfl
        generalize (incF er l.length 0).1 = C at *
        generalize (incF er l.length 0).2 = F at *
        have xC : (C == 0) = false := by rw [beq_eq_false_iff_ne]; omega
        clear hF hc
        obtain ⟨l1, c10, c11, f10, f11⟩ := Has.new w1 C F 24
        go_wp2_with (go_at_call 15; refine (coded_any _).mono ?_; rintro e w' ⟨rfl, hb9⟩)
        go_ret
        exact ⟨rfl, Bw.step (Bw.al BW _) hb9⟩
      · have hcw : cwB q cw = true := cwB_iff.2 hw.2.1
        have hcl : cw.length = l.length := hw.1
        have HW := Lib.hid hw.2.2
        have R1 := ho.rd.1
        have HCH := Lib.hid (fun w (h : RdB w A1 l.length cw) => Check_ok A1 l.length c1 q cw w h h1 h2 h3)
        rw [hcw] at HCH
        have hd1 := dcnt_le l cw es l.length
        have HD1 := Lib.hid (dcnt_full l cw es)
        obtain ⟨l1, c10, c11, f10, f11⟩ := Has.new w1 0 0 24
        clear hw ho hcw hnd hlt hP hcl
        go_wp2_with fail
        refine (HCH.out _ (R1.al _)).mono ?_
        rintro e w2 ⟨rfl, hb2⟩
        have BW := Bw.al (Bw.step (Bw.al BW (.cells #[.int .i64 0, .int .i64 0] 24)) hb2) (.cells #[.int .i64 0, .int .i64 0] 24)
        have R2 := ((R1.al _).below hb2).al (.cells #[.int .i64 0, .int .i64 0] 24)
        obtain ⟨l2, c20, c21, f20, f21⟩ := Has.new w2 0 0 24
        have hle : 2 * ((dcnt l cw es l.length : Nat) : Int) + (m : Int) ≤ q := by have := HW.out; rw [← HD1.out] at this; have := HRI.out.1; rw [toI_len] at this; omega
        have hdd : dcnt l cw es l.length ≤ 255 := by omega
        clear l1 c10 c11 f10 f11
        go_wp2_with fail
        refine (differences_any _ _ _ _ _ _ _ _ _ _ _ _ _ (HRL.out.below BW) R2 (HRI.out.below BW) (Nat.le_refl _) (by omega) (by omega)).mono ?_
        rintro e w3 ⟨rfl, hb3⟩
        have BW := Bw.step BW hb3
        have R3 := R2.below hb3
        go_wp2_with fail
        refine (differences_any _ _ none _ _ _ 0 _ 0 _ _ [] _ (HRL.out.below BW) R3 (RdI.nil _ _) (Nat.le_refl _) (by omega) (by omega)).mono ?_
        rintro e w4 ⟨rfl, hb4⟩
        go_wp2_with (go_at_call 15; refine (coded_any _).mono ?_; rintro e w' ⟨rfl, hb9⟩)
        go_ret
        exact ⟨rfl, Bw.step (Bw.step BW hb4) hb9⟩
      · obtain ⟨l1, c10, c11, f10, f11⟩ := Has.new w1 16 (-1) 24
        clear hw
        go_wp2_with (go_at_call 15; refine (coded_any _).mono ?_; rintro e w' ⟨rfl, hb9⟩)
        go_ret
        exact ⟨rfl, Bw.step (Bw.al BW _) hb9⟩
    · rw [h] at hbad; cases hbad
    · rw [h] at hbad; cases hbad
  · have HS := Lib.hid (fun w => Decode_bad A I n c m d p w hn hp hbad)
    have hc := wF_code hbad
    generalize (wF n p).1 = C at *
    generalize (wF n p).2 = F at *
    have xC : (C == 0) = false := by rw [beq_eq_false_iff_ne]; omega
    clear hbad hc
    go_enter Try.func11, Try.ntmps11
    go_wp2_with fail
    refine (HS.out _).mono ?_
    rintro e w1 ⟨rfl, BW⟩
    obtain ⟨l1, c10, c11, f10, f11⟩ := Has.new w1 C F 24
    go_wp2_with (go_at_call 15; refine (coded_any _).mono ?_; rintro e w' ⟨rfl, hb9⟩)
    go_ret
    exact ⟨rfl, Bw.step (Bw.al BW _) hb9⟩
end Go.Proofs.Ytpkaaiefnabfbab
