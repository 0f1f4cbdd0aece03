/- The walks of the laws RsFewerParities, RsCorrects, RsSyndromesAreValues. -/
import Derived.Test.YtpkaaiefnabfbabRsP
namespace Go.Proofs.Ytpkaaiefnabfbab
open Go.RowKit
set_option linter.unusedVariables false

theorem IsEnc_less {data wd : List GF} {p q : Nat} (h : IsEnc data p wd) (hq : q ≤ p) : IsEnc (wd.take (wd.length - q)) q wd := by
  have hl := h.1
  refine ⟨by rw [List.length_take]; omega, by rw [List.length_take, Nat.min_eq_left (Nat.sub_le _ _)], isCW_less h.2.2 hq⟩
set_option maxRecDepth 100000 in
set_option maxHeartbeats 4000000 in
theorem walkRsFewerParities (A : Option Addr) (n c : Nat) (zs : List Int) (p q : Int) (w : World) (w0 : IsRow .u8 w A n c zs) (w1 : (Lit.int .i64 p).wf = true) (w2 : (Lit.int .i64 q).wf = true) :
    Calls Try.prog 12 #[.slice A n c, .int .i64 p, .int .i64 q] w fun e w' => e = .returned (.bool true) ∧ Below w.heap.size w w' := by
  obtain ⟨l, RL, hn⟩ := w0.rdB
  have hp := wf64 w1
  have hq := wf64 w2
  have HF := Lib.hid (fun w => rDataFault_any A n c p w hn hp)
  clear w0 w1 w2
  by_cases hbad : dF n p = (0, 0)
  · rcases dF_cases n p with ⟨r, rfl, h1, h2, h3, h⟩ | ⟨_, h⟩ | ⟨_, _, h⟩
    · have HRL := Lib.hid RL
      rw [h] at HF
      have ll := RL.1
      clear h hbad RL
      go_enter Try.func12, Try.ntmps12
      go_wp2_with fail
      refine (Encode_ok _ _ _ _ _ _ HRL.out h1 h2 h3).mono ?_
      rintro e w1 ⟨A1, c1, wd, rfl, ho1, hE, BW⟩
      have R1 := ho1.rd.1
      have hwl : wd.length = n + r := by rw [hE.1, ll]
      have hcap := ho1.cap.1
      have HE := Lib.hid hE
      obtain ⟨g1, rfl⟩ := ho1.head (by omega)
      have F1 := Has.new w1 0 0 24
      clear ho1 hE ll
      by_cases hin : 0 ≤ q ∧ q ≤ r
      · obtain ⟨s, rfl⟩ := Int.eq_ofNat_of_zero_le hin.1
        have hsr : s ≤ r := by omega
        have i1 := inT' hin
        have HCW := Lib.hid (cwB_iff.2 (isCW_less HE.out.2.2 hsr))
        have HCH := Lib.hid (fun w (h : RdB w (some ⟨g1, 0, none⟩) wd.length wd) => Check_ok (some ⟨g1, 0, none⟩) wd.length c1 s wd w h (by omega) (by omega) (by omega))
        rw [HCW.out] at HCH
        have HEU := Lib.hid (fun x (h : IsEnc (wd.take (wd.length - s)) s x) => IsEnc_unique (by rw [List.length_take]; omega) h (IsEnc_less HE.out hsr))
        have HEN : Hid (∀ w : World, RdB w (some ⟨g1, 0, none⟩) wd.length wd → Calls Try.prog 13 #[.slice (some ⟨g1, 0, none⟩) (wd.length - s) c1, .int .i64 s] w fun e w' => ∃ A' c', e = .returned (.tuple #[.slice A' wd.length c', .agg #[.int .i64 0, .int .i64 0]]) ∧ RdB w' A' wd.length wd ∧ Below w.heap.size w w') := Lib.hid fun w h => by
          refine (Encode_ok (some ⟨g1, 0, none⟩) (wd.length - s) c1 s _ w (h.take (Nat.sub_le _ _)) (by omega) (by omega) (by omega)).mono ?_
          rintro e w' ⟨A', c', wx, he, ho, hE, hb⟩
          obtain rfl := HEU.out _ hE
          exact ⟨A', c', he, ho.rd.1, hb⟩
        have s1 := Lib.hid (sameB_self wd)
        obtain ⟨N, hNN⟩ : ∃ N, N = wd.length := ⟨_, rfl⟩
        rw [← hNN] at R1 HCH HEN hcap hwl
        rw [← hNN]
        have hN : N ≤ 255 := by omega
        have ws : (N : Int) - s = ((N - s : Nat) : Int) := by omega
        have ws2 : IntKind.i64.wrap ((N : Int) - s) = ((N - s : Nat) : Int) := by rw [IntWalk.i64_in _ (by omega)]; exact ws
        have hNs : N - s ≤ c1 := by omega
        have hNe : ((N : Int) == (n : Int) + r) = true := by rw [beq_iff_eq]; omega
        have HNr := Lib.hid hwl
        clear hin hwl hNN HEU HCW HE
        go_wp2_with fail
        refine (HF.out _).mono ?_
        rintro e w2 ⟨rfl, hb2⟩
        ((first | replace BW := Bw.step BW hb2 | replace BW := Bw.step (Bw.al BW _) hb2 | replace BW := Bw.step (Bw.al (Bw.al BW _) _) hb2 | replace BW := Bw.step (Bw.al (Bw.al (Bw.al BW _) _) _) hb2 | replace BW := Bw.step (Bw.al (Bw.al (Bw.al (Bw.al BW _) _) _) _) hb2 | replace BW := Bw.step (Bw.al (Bw.al (Bw.al (Bw.al (Bw.al BW _) _) _) _) _) hb2 | replace BW := Bw.step (Bw.al (Bw.al (Bw.al (Bw.al (Bw.al (Bw.al BW _) _) _) _) _) _) hb2); (first | replace F1 := F1.below hb2 | replace F1 := (F1.al _).below hb2 | replace F1 := ((F1.al _).al _).below hb2 | replace F1 := (((F1.al _).al _).al _).below hb2 | replace F1 := ((((F1.al _).al _).al _).al _).below hb2 | replace F1 := (((((F1.al _).al _).al _).al _).al _).below hb2 | replace F1 := ((((((F1.al _).al _).al _).al _).al _).al _).below hb2); (first | replace R1 := R1.below hb2 | replace R1 := (R1.al _).below hb2 | replace R1 := ((R1.al _).al _).below hb2 | replace R1 := (((R1.al _).al _).al _).below hb2 | replace R1 := ((((R1.al _).al _).al _).al _).below hb2 | replace R1 := (((((R1.al _).al _).al _).al _).al _).below hb2 | replace R1 := ((((((R1.al _).al _).al _).al _).al _).al _).below hb2))
        go_wp2_with fail
        refine (refIn_any _ _ _ _).mono ?_
        rintro e w' ⟨rfl, rfl⟩
        go_wp2_with fail
        refine (HCH.out _ R1).mono ?_
        rintro e w3 ⟨rfl, hb3⟩
        ((first | replace BW := Bw.step BW hb3 | replace BW := Bw.step (Bw.al BW _) hb3 | replace BW := Bw.step (Bw.al (Bw.al BW _) _) hb3 | replace BW := Bw.step (Bw.al (Bw.al (Bw.al BW _) _) _) hb3 | replace BW := Bw.step (Bw.al (Bw.al (Bw.al (Bw.al BW _) _) _) _) hb3 | replace BW := Bw.step (Bw.al (Bw.al (Bw.al (Bw.al (Bw.al BW _) _) _) _) _) hb3 | replace BW := Bw.step (Bw.al (Bw.al (Bw.al (Bw.al (Bw.al (Bw.al BW _) _) _) _) _) _) hb3); (first | replace F1 := F1.below hb3 | replace F1 := (F1.al _).below hb3 | replace F1 := ((F1.al _).al _).below hb3 | replace F1 := (((F1.al _).al _).al _).below hb3 | replace F1 := ((((F1.al _).al _).al _).al _).below hb3 | replace F1 := (((((F1.al _).al _).al _).al _).al _).below hb3 | replace F1 := ((((((F1.al _).al _).al _).al _).al _).al _).below hb3); (first | replace R1 := R1.below hb3 | replace R1 := (R1.al _).below hb3 | replace R1 := ((R1.al _).al _).below hb3 | replace R1 := (((R1.al _).al _).al _).below hb3 | replace R1 := ((((R1.al _).al _).al _).al _).below hb3 | replace R1 := (((((R1.al _).al _).al _).al _).al _).below hb3 | replace R1 := ((((((R1.al _).al _).al _).al _).al _).al _).below hb3))
        have F3 := Has.new w3 0 0 24
        have F1 := F1.al (.cells #[.int .i64 0, .int .i64 0] 24)
        obtain ⟨l1, c10, c11, f10, f11⟩ := id F1
        obtain ⟨l3, c30, c31, f30, f31⟩ := id F3
        go_wp2_with fail
        refine (HEN.out _ (R1.al _)).mono ?_
        rintro e w4 ⟨A4, c4, rfl, R4, hb4⟩
        ((first | replace BW := Bw.step BW hb4 | replace BW := Bw.step (Bw.al BW _) hb4 | replace BW := Bw.step (Bw.al (Bw.al BW _) _) hb4 | replace BW := Bw.step (Bw.al (Bw.al (Bw.al BW _) _) _) hb4 | replace BW := Bw.step (Bw.al (Bw.al (Bw.al (Bw.al BW _) _) _) _) hb4 | replace BW := Bw.step (Bw.al (Bw.al (Bw.al (Bw.al (Bw.al BW _) _) _) _) _) hb4 | replace BW := Bw.step (Bw.al (Bw.al (Bw.al (Bw.al (Bw.al (Bw.al BW _) _) _) _) _) _) hb4); (first | replace R1 := R1.below hb4 | replace R1 := (R1.al _).below hb4 | replace R1 := ((R1.al _).al _).below hb4 | replace R1 := (((R1.al _).al _).al _).below hb4 | replace R1 := ((((R1.al _).al _).al _).al _).below hb4 | replace R1 := (((((R1.al _).al _).al _).al _).al _).below hb4 | replace R1 := ((((((R1.al _).al _).al _).al _).al _).al _).below hb4))
        obtain ⟨l4, c40, c41, f40, f41⟩ := Has.new w4 0 0 24
        clear l1 c10 c11 f10 f11 l3 c30 c31 f30 f31
        go_wp2_with fail
        refine (refSame_any _ _ _ _ _ _ _ _ _ (R4.al _) (R1.al _)).mono ?_
        rw [s1.out]
        rintro e w' ⟨rfl, rfl⟩
        go_wp2_with (go_at_call 15; refine (coded_any _).mono ?_; rintro e w' ⟨rfl, hb9⟩)
        go_ret
        exact ⟨rfl, Bw.step (Bw.al BW _) hb9⟩
      · have i1 := inF' hin
        clear hin
        go_wp2_with (first | (go_at_call 14; refine (HF.out _).mono ?_; rintro e w2 ⟨rfl, hb2⟩) | (go_at_call 33; refine (refIn_any _ _ _ _).mono ?_; rintro e w' ⟨rfl, rfl⟩) | (go_at_call 15; refine (coded_any _).mono ?_; rintro e w' ⟨rfl, hb9⟩))
        go_ret
        exact ⟨rfl, Bw.step (Bw.step (Bw.al BW _) hb2) hb9⟩
    · rw [h] at hbad; cases hbad
    · rw [h] at hbad; cases hbad
  · have HS := Lib.hid (fun w => Encode_bad A n c p w hn hp hbad)
    have hc := dF_code hbad
    generalize (dF n p).1 = C at *
    generalize (dF n p).2 = F at *
    have xC : (C == 0) = false := by rw [beq_eq_false_iff_ne]; omega
    have xC2 : (C != 0) = true := by rw [bne_iff_ne]; omega
    clear hbad hc
    go_enter Try.func12, Try.ntmps12
    go_wp2_with fail
    refine (HS.out _).mono ?_
    rintro e w1 ⟨rfl, BW⟩
    go_wp2_with fail
    refine (HF.out _).mono ?_
    rintro e w2 ⟨rfl, hb2⟩
    go_wp2_with (go_at_call 15; refine (coded_any _).mono ?_; rintro e w' ⟨rfl, hb9⟩)
    go_ret
    exact ⟨rfl, Bw.step (Bw.step (Bw.al BW _) hb2) hb9⟩
theorem dcnt_symm (a b : List GF) (er : List Nat) (k : Nat) : dcnt a b er k = dcnt b a er k := by
  unfold dcnt
  congr 1
  apply List.filter_congr
  intro i _
  congr 1
  rw [decide_eq_decide]
  exact ⟨Ne.symm, Ne.symm⟩
theorem incF_code' {er : List Int} {n : Nat} (hF : incF er n 0 ≠ (0, 0)) : (incF er n 0).1 = 4 ∨ (incF er n 0).1 = 11 := by
  rcases incF_code er n 0 with h | ⟨k, _, h⟩ | ⟨k, _, h⟩
  · exact absurd h hF
  · rw [h]; exact .inl rfl
  · rw [h]; exact .inr rfl
set_option maxRecDepth 100000 in
set_option maxHeartbeats 4000000 in
theorem walkRsCorrects (A : Option Addr) (n c : Nat) (zs : List Int) (p : Int) (I : Option Addr) (mi di : Nat) (is : List Int) (V : Option Addr) (mv dv : Nat) (vz : List Int) (E : Option Addr) (me de : Nat) (ez : List Int) (w : World)
    (w0 : IsRow .u8 w A n c zs) (w1 : (Lit.int .i64 p).wf = true) (w2 : IsRow .i64 w I mi di is) (w3 : IsRow .u8 w V mv dv vz) (w4 : IsRow .i64 w E me de ez) :
    Calls Try.prog 5 #[.slice A n c, .int .i64 p, .slice I mi di, .slice V mv dv, .slice E me de] w fun e w' => e = .returned (.bool true) ∧ Below w.heap.size w w' := by
  obtain ⟨l, RL, hn⟩ := w0.rdB
  obtain ⟨ps, RI, hmi, _, hbi⟩ := w2.rdI
  obtain ⟨vs, RV, hmv⟩ := w3.rdB
  obtain ⟨er, RE, hme, _, hbe⟩ := w4.rdI
  have hp := wf64 w1
  have HF := Lib.hid (fun w => rDataFault_any A n c p w hn hp)
  clear w0 w1 w2 w3 w4 hbi hbe
  by_cases hbad : dF n p = (0, 0)
  · rcases dF_cases n p with ⟨r, rfl, h1, h2, h3, h⟩ | ⟨_, h⟩ | ⟨_, _, h⟩
    · have HRL := Lib.hid RL
      have HRI := Lib.hid RI
      have HRV := Lib.hid RV
      have HRE := Lib.hid RE
      rw [h] at HF
      have ll := RL.1
      clear h hbad RL RI RV RE
      go_enter Try.func5, Try.ntmps5
      go_wp2_with fail
      refine (Encode_ok _ _ _ _ _ _ HRL.out h1 h2 h3).mono ?_
      rintro e w1 ⟨A1, c1, wd, rfl, ho1, hE, BW⟩
      have R1 := ho1.rd.1
      have hwl : wd.length = n + r := by rw [hE.1, ll]
      have HE := Lib.hid hE
      have F1 := Has.new w1 0 0 24
      have HXL := Lib.hid (changedL_len wd ps vs)
      have s1 := Lib.hid (sameB_self wd)
      clear ho1 hE ll
      obtain ⟨N, hNN⟩ : ∃ N, N = wd.length := ⟨_, rfl⟩
      have HNN := Lib.hid hNN
      rw [← hNN] at R1 hwl HXL
      rw [← hNN]
      have hN : N ≤ 255 := by omega
      have hrN : r + 1 ≤ N := by omega
      have hNe : ((N : Int) == (n : Int) + r) = true := by rw [beq_iff_eq]; omega
      have HNr := Lib.hid hwl
      clear hNN hwl
      go_wp2_with fail
      refine (HF.out _).mono ?_
      rintro e w2 ⟨rfl, hb2⟩
      ((first | replace BW := Bw.step BW hb2 | replace BW := Bw.step (Bw.al BW _) hb2 | replace BW := Bw.step (Bw.al (Bw.al BW _) _) hb2 | replace BW := Bw.step (Bw.al (Bw.al (Bw.al BW _) _) _) hb2 | replace BW := Bw.step (Bw.al (Bw.al (Bw.al (Bw.al BW _) _) _) _) hb2 | replace BW := Bw.step (Bw.al (Bw.al (Bw.al (Bw.al (Bw.al BW _) _) _) _) _) hb2 | replace BW := Bw.step (Bw.al (Bw.al (Bw.al (Bw.al (Bw.al (Bw.al BW _) _) _) _) _) _) hb2); (first | replace F1 := F1.below hb2 | replace F1 := (F1.al _).below hb2 | replace F1 := ((F1.al _).al _).below hb2 | replace F1 := (((F1.al _).al _).al _).below hb2 | replace F1 := ((((F1.al _).al _).al _).al _).below hb2 | replace F1 := (((((F1.al _).al _).al _).al _).al _).below hb2 | replace F1 := ((((((F1.al _).al _).al _).al _).al _).al _).below hb2); (first | replace R1 := R1.below hb2 | replace R1 := (R1.al _).below hb2 | replace R1 := ((R1.al _).al _).below hb2 | replace R1 := (((R1.al _).al _).al _).below hb2 | replace R1 := ((((R1.al _).al _).al _).al _).below hb2 | replace R1 := (((((R1.al _).al _).al _).al _).al _).below hb2 | replace R1 := ((((((R1.al _).al _).al _).al _).al _).al _).below hb2))
      obtain ⟨l1, c10, c11, f10, f11⟩ := id F1
      go_wp2_with fail
      refine (changed_any _ _ _ _ _ _ _ _ _ _ ps vs _ R1 (HRI.out.below BW) (HRV.out.below BW) (by omega) hmi hmv).mono ?_
      rintro e w3 ⟨A3, c3, rfl, ho3, hb3⟩
      ((first | replace BW := Bw.step BW hb3 | replace BW := Bw.step (Bw.al BW _) hb3 | replace BW := Bw.step (Bw.al (Bw.al BW _) _) hb3 | replace BW := Bw.step (Bw.al (Bw.al (Bw.al BW _) _) _) hb3 | replace BW := Bw.step (Bw.al (Bw.al (Bw.al (Bw.al BW _) _) _) _) hb3 | replace BW := Bw.step (Bw.al (Bw.al (Bw.al (Bw.al (Bw.al BW _) _) _) _) _) hb3 | replace BW := Bw.step (Bw.al (Bw.al (Bw.al (Bw.al (Bw.al (Bw.al BW _) _) _) _) _) _) hb3); (first | replace R1 := R1.below hb3 | replace R1 := (R1.al _).below hb3 | replace R1 := ((R1.al _).al _).below hb3 | replace R1 := (((R1.al _).al _).al _).below hb3 | replace R1 := ((((R1.al _).al _).al _).al _).below hb3 | replace R1 := (((((R1.al _).al _).al _).al _).al _).below hb3 | replace R1 := ((((((R1.al _).al _).al _).al _).al _).al _).below hb3))
      have R3 := ho3.rd.1
      clear ho3 l1 c10 c11 f10 f11 F1
      generalize hxx : changedL wd ps vs = x at *
      clear hxx
      have HINC := Lib.hid (fun w (h : RdI w E me er) => rIncreasing_any E me de er N 0 w h (by omega) (by omega) (by omega))
      by_cases hF0 : incF er N 0 = (0, 0)
      · rw [hF0] at HINC
        obtain ⟨es, rfl, hnd, hlt, hel, hP⟩ := incF_nat hF0
        have HLT := Lib.hid hlt
        have HP := Lib.hid hP
        have hml : me = es.length := by rw [← HRE.out.1, toI_len]
        have HML := Lib.hid hml
        have hme2 : me ≤ N := by omega
        clear hF0 hnd hlt hP hml
        go_wp2_with fail
        refine (HINC.out _ (HRE.out.below BW)).mono ?_
        rintro e w4 ⟨rfl, hb4⟩
        ((first | replace BW := Bw.step BW hb4 | replace BW := Bw.step (Bw.al BW _) hb4 | replace BW := Bw.step (Bw.al (Bw.al BW _) _) hb4 | replace BW := Bw.step (Bw.al (Bw.al (Bw.al BW _) _) _) hb4 | replace BW := Bw.step (Bw.al (Bw.al (Bw.al (Bw.al BW _) _) _) _) hb4 | replace BW := Bw.step (Bw.al (Bw.al (Bw.al (Bw.al (Bw.al BW _) _) _) _) _) hb4 | replace BW := Bw.step (Bw.al (Bw.al (Bw.al (Bw.al (Bw.al (Bw.al BW _) _) _) _) _) _) hb4); (first | replace R1 := R1.below hb4 | replace R1 := (R1.al _).below hb4 | replace R1 := ((R1.al _).al _).below hb4 | replace R1 := (((R1.al _).al _).al _).below hb4 | replace R1 := ((((R1.al _).al _).al _).al _).below hb4 | replace R1 := (((((R1.al _).al _).al _).al _).al _).below hb4 | replace R1 := ((((((R1.al _).al _).al _).al _).al _).al _).below hb4); (first | replace R3 := R3.below hb4 | replace R3 := (R3.al _).below hb4 | replace R3 := ((R3.al _).al _).below hb4 | replace R3 := (((R3.al _).al _).al _).below hb4 | replace R3 := ((((R3.al _).al _).al _).al _).below hb4 | replace R3 := (((((R3.al _).al _).al _).al _).al _).below hb4 | replace R3 := ((((((R3.al _).al _).al _).al _).al _).al _).below hb4))
        go_wp2_with fail
        refine (differences_any _ _ _ _ _ _ _ _ _ _ _ _ _ R1 R3 (HRE.out.below BW) (Nat.le_refl _) (by omega) hme).mono ?_
        rintro e w5 ⟨rfl, hb5⟩
        ((first | replace BW := Bw.step BW hb5 | replace BW := Bw.step (Bw.al BW _) hb5 | replace BW := Bw.step (Bw.al (Bw.al BW _) _) hb5 | replace BW := Bw.step (Bw.al (Bw.al (Bw.al BW _) _) _) hb5 | replace BW := Bw.step (Bw.al (Bw.al (Bw.al (Bw.al BW _) _) _) _) hb5 | replace BW := Bw.step (Bw.al (Bw.al (Bw.al (Bw.al (Bw.al BW _) _) _) _) _) hb5 | replace BW := Bw.step (Bw.al (Bw.al (Bw.al (Bw.al (Bw.al (Bw.al BW _) _) _) _) _) _) hb5); (first | replace R1 := R1.below hb5 | replace R1 := (R1.al _).below hb5 | replace R1 := ((R1.al _).al _).below hb5 | replace R1 := (((R1.al _).al _).al _).below hb5 | replace R1 := ((((R1.al _).al _).al _).al _).below hb5 | replace R1 := (((((R1.al _).al _).al _).al _).al _).below hb5 | replace R1 := ((((((R1.al _).al _).al _).al _).al _).al _).below hb5); (first | replace R3 := R3.below hb5 | replace R3 := (R3.al _).below hb5 | replace R3 := ((R3.al _).al _).below hb5 | replace R3 := (((R3.al _).al _).al _).below hb5 | replace R3 := ((((R3.al _).al _).al _).al _).below hb5 | replace R3 := (((((R3.al _).al _).al _).al _).al _).below hb5 | replace R3 := ((((((R3.al _).al _).al _).al _).al _).al _).below hb5))
        have hdl := dcnt_le wd x es N
        by_cases hle : 2 * dcnt wd x es N + me ≤ r
        · have hW : Within r x es wd := ⟨by rw [HXL.out, HNN.out], HE.out.2.2, by rw [← dcnt_full, dcnt_symm, HXL.out, ← HML.out]; exact hle⟩
          have hd : ¬ (r : Int) < 2 * ((dcnt wd x es N : Nat) : Int) + me := by omega
          have HW := Lib.hid hW
          have HSY : Hid (dcnt x wd [] N = dcnt wd x [] N) := Lib.hid (dcnt_symm _ _ _ _)
          generalize dcnt wd x es N = dd at *
          clear hW
          go_wp2_with fail
          refine (Decode_ok _ _ _ _ _ _ _ _ _ _ R3 (HRE.out.below BW) hme h1 hrN hN).mono ?_
          rintro e w6 hpost
          obtain ⟨A6, c6, rfl, ho6, hb6⟩ := hpost.hit (by rw [HXL.out]; exact hN) (by rw [HXL.out]; exact HLT.out) HP.out HW.out
          rw [HXL.out, HSY.out]
          rw [HXL.out] at ho6
          ((first | replace BW := Bw.step BW hb6 | replace BW := Bw.step (Bw.al BW _) hb6 | replace BW := Bw.step (Bw.al (Bw.al BW _) _) hb6 | replace BW := Bw.step (Bw.al (Bw.al (Bw.al BW _) _) _) hb6 | replace BW := Bw.step (Bw.al (Bw.al (Bw.al (Bw.al BW _) _) _) _) hb6 | replace BW := Bw.step (Bw.al (Bw.al (Bw.al (Bw.al (Bw.al BW _) _) _) _) _) hb6 | replace BW := Bw.step (Bw.al (Bw.al (Bw.al (Bw.al (Bw.al (Bw.al BW _) _) _) _) _) _) hb6); (first | replace R1 := R1.below hb6 | replace R1 := (R1.al _).below hb6 | replace R1 := ((R1.al _).al _).below hb6 | replace R1 := (((R1.al _).al _).al _).below hb6 | replace R1 := ((((R1.al _).al _).al _).al _).below hb6 | replace R1 := (((((R1.al _).al _).al _).al _).al _).below hb6 | replace R1 := ((((((R1.al _).al _).al _).al _).al _).al _).below hb6); (first | replace R3 := R3.below hb6 | replace R3 := (R3.al _).below hb6 | replace R3 := ((R3.al _).al _).below hb6 | replace R3 := (((R3.al _).al _).al _).below hb6 | replace R3 := ((((R3.al _).al _).al _).al _).below hb6 | replace R3 := (((((R3.al _).al _).al _).al _).al _).below hb6 | replace R3 := ((((((R3.al _).al _).al _).al _).al _).al _).below hb6))
          have R6 := ho6.rd.1
          obtain ⟨l1, c10, c11, f10, f11⟩ := Has.new w6 0 0 24
          clear ho6 hpost
          go_wp2_with fail
          refine (refSame_any _ _ _ _ _ _ _ _ _ (R6.al _) (R1.al _)).mono ?_
          rw [s1.out]
          rintro e w' ⟨rfl, rfl⟩
          go_wp2_with fail
          refine (differences_any _ _ none _ _ _ 0 _ 0 _ _ [] _ (R1.al _) (R3.al _) (RdI.nil _ _) (Nat.le_refl _) (by omega) (by omega)).mono ?_
          rintro e w7 ⟨rfl, hb7⟩
          go_wp2_with (go_at_call 15; refine (coded_any _).mono ?_; rintro e w' ⟨rfl, hb9⟩)
          go_ret
          exact ⟨rfl, Bw.step (Bw.step (Bw.al BW _) hb7) hb9⟩
        · have hd : (r : Int) < 2 * ((dcnt wd x es N : Nat) : Int) + me := by omega
          generalize dcnt wd x es N = dd at *
          go_wp2_with (go_at_call 15; refine (coded_any _).mono ?_; rintro e w' ⟨rfl, hb9⟩)
          go_ret
          exact ⟨rfl, Bw.step BW hb9⟩
      · have hc := incF_code' hF0
        generalize (incF er N 0).1 = C at *
        generalize (incF er N 0).2 = F at *
        have xC : (C == 0) = false := by rw [beq_eq_false_iff_ne]; omega
        have xC2 : (C != 0) = true := by rw [bne_iff_ne]; omega
        clear hF0 hc
        go_wp2_with fail
        refine (HINC.out _ (HRE.out.below BW)).mono ?_
        rintro e w4 ⟨rfl, hb4⟩
        ((first | replace BW := Bw.step BW hb4 | replace BW := Bw.step (Bw.al BW _) hb4 | replace BW := Bw.step (Bw.al (Bw.al BW _) _) hb4 | replace BW := Bw.step (Bw.al (Bw.al (Bw.al BW _) _) _) hb4 | replace BW := Bw.step (Bw.al (Bw.al (Bw.al (Bw.al BW _) _) _) _) hb4 | replace BW := Bw.step (Bw.al (Bw.al (Bw.al (Bw.al (Bw.al BW _) _) _) _) _) hb4 | replace BW := Bw.step (Bw.al (Bw.al (Bw.al (Bw.al (Bw.al (Bw.al BW _) _) _) _) _) _) hb4); (first | replace R1 := R1.below hb4 | replace R1 := (R1.al _).below hb4 | replace R1 := ((R1.al _).al _).below hb4 | replace R1 := (((R1.al _).al _).al _).below hb4 | replace R1 := ((((R1.al _).al _).al _).al _).below hb4 | replace R1 := (((((R1.al _).al _).al _).al _).al _).below hb4 | replace R1 := ((((((R1.al _).al _).al _).al _).al _).al _).below hb4))
        go_wp2_with (go_at_call 15; refine (coded_any _).mono ?_; rintro e w' ⟨rfl, hb9⟩)
        go_ret
        exact ⟨rfl, Bw.step BW hb9⟩
    · rw [h] at hbad; cases hbad
    · rw [h] at hbad; cases hbad
  · have HS := Lib.hid (fun w => Encode_bad A n c p w hn hp hbad)
    have hc := dF_code hbad
    generalize (dF n p).1 = C at *
    generalize (dF n p).2 = F at *
    have xC : (C == 0) = false := by rw [beq_eq_false_iff_ne]; omega
    have xC2 : (C != 0) = true := by rw [bne_iff_ne]; omega
    clear hbad hc
    go_enter Try.func5, Try.ntmps5
    go_wp2_with fail
    refine (HS.out _).mono ?_
    rintro e w1 ⟨rfl, BW⟩
    have F1 := Has.new w1 C F 24
    go_wp2_with fail
    refine (HF.out _).mono ?_
    rintro e w2 ⟨rfl, hb2⟩
    ((first | replace BW := Bw.step BW hb2 | replace BW := Bw.step (Bw.al BW _) hb2 | replace BW := Bw.step (Bw.al (Bw.al BW _) _) hb2 | replace BW := Bw.step (Bw.al (Bw.al (Bw.al BW _) _) _) hb2 | replace BW := Bw.step (Bw.al (Bw.al (Bw.al (Bw.al BW _) _) _) _) hb2 | replace BW := Bw.step (Bw.al (Bw.al (Bw.al (Bw.al (Bw.al BW _) _) _) _) _) hb2 | replace BW := Bw.step (Bw.al (Bw.al (Bw.al (Bw.al (Bw.al (Bw.al BW _) _) _) _) _) _) hb2); (first | replace F1 := F1.below hb2 | replace F1 := (F1.al _).below hb2 | replace F1 := ((F1.al _).al _).below hb2 | replace F1 := (((F1.al _).al _).al _).below hb2 | replace F1 := ((((F1.al _).al _).al _).al _).below hb2 | replace F1 := (((((F1.al _).al _).al _).al _).al _).below hb2 | replace F1 := ((((((F1.al _).al _).al _).al _).al _).al _).below hb2))
    obtain ⟨l1, c10, c11, f10, f11⟩ := id F1
    go_wp2_with (go_at_call 15; refine (coded_any _).mono ?_; rintro e w' ⟨rfl, hb9⟩)
    go_ret
    exact ⟨rfl, Bw.step BW hb9⟩
end Go.Proofs.Ytpkaaiefnabfbab
