/- The walks of the statements PolyValuesMatchSpec and PolyRootsAreFactors. -/
import Derived.Test.YtpkaaiefnabfbaaPoJ
namespace Go.Proofs.Ytpkaaiefnabfbaa
open Go.RowKit
set_option linter.unusedVariables false

theorem rootsUp_pre (a : List GF) (k j : Nat) : ∃ t, rootsUp a (k + j) = rootsUp a k ++ t := by
  induction j with
  | zero => exact ⟨[], by simp⟩
  | succ j ih =>
    obtain ⟨t, ht⟩ := ih
    rw [show k + (j + 1) = (k + j) + 1 by omega, rootsUp_succ, ht]
    split
    · exact ⟨t ++ [mkG (k + j)], by rw [List.append_assoc]⟩
    · exact ⟨t, rfl⟩
theorem rootsL_at (a : List GF) {k : Nat} (hk : k < 256) (h : valL a (mkG k) = 0) : (rootsUp a k).length < (rootsL a).length ∧ (rootsL a).getD (rootsUp a k).length 0 = mkG k := by
  obtain ⟨t, ht⟩ := rootsUp_pre a (k + 1) (256 - (k + 1))
  rw [show k + 1 + (256 - (k + 1)) = 256 by omega, rootsUp_full, rootsUp_succ, if_pos h, List.append_assoc] at ht
  rw [ht]
  constructor
  · simp
  · simp [List.getD]
theorem Tr_len_eq {t : List GF} {N : Nat} (ht : Tr t) (h : cf t N ≠ 0) (hd : degB (N + 1) (cf t)) : t.length = N + 1 := by
  have h1 := Tr_len ht hd
  rcases Nat.lt_or_ge N t.length with h2 | h2
  · omega
  · exact absurd (degB_cf t N h2) h
theorem quo_len_eq {a b q : List GF} (hb : Tr b) (hne : b ≠ []) (h0 : trimL a ≠ []) (h : Div a b q []) : q.length + b.length = (trimL a).length + 1 := by
  obtain ⟨hq, _, _, e⟩ := h
  have e' : cf (trimL a) = cv (cf q) (cf b) := by
    rw [cf_trim]; funext i; rw [e i, cf_nil]; exact GF.add_zero _
  have hqn : q ≠ [] := by
    rintro rfl
    apply ne_pz (Tr_trim a) h0
    rw [e', cf_nil]; exact funext fun i => cv_pz _ i
  obtain ⟨m, hm, tm, dm⟩ := Tr_top hq hqn
  obtain ⟨n, hn, tn, dn⟩ := Tr_top hb hne
  have h1 := cv_top dm dn
  have h2 : cf (trimL a) (m + n) ≠ 0 := by
    rw [e', h1]; intro h; rcases GF.mul_eq_zero h with h | h
    · exact tm h
    · exact tn h
  have h3 := Tr_len_eq (Tr_trim a) h2 (by rw [e']; exact degB_cv dm dn)
  omega
theorem Tr_lin (r : GF) : Tr [r, 1] := .inr GF.one_ne
theorem trim_lin (r : GF) : trimL [r, 1] = [r, 1] := Tr_ext (Tr_trim _) (Tr_lin r) (cf_trim _)
theorem root_div {a q s : List GF} {r : GF} (h : valL a r = 0) (hd : Div a [r, 1] q s) : s = [] :=
  Div_dvd (Tr_lin r) (by simp) hd ⟨_, _, degB_cf _, root_fac h⟩
set_option maxRecDepth 100000 in
set_option maxHeartbeats 2000000 in
theorem walkPolyValuesMatchSpec (A : Option Addr) (n c : Nat) (zs : List Int) (x : Int) (w : World) (w0 : IsRow .u8 w A n c zs) (w1 : (Lit.int .u8 x).wf = true) :
    Calls Try.prog 9 #[.slice A n c, .int .u8 x] w fun e w' => e = .returned (.bool true) ∧ Below w.heap.size w w' := by
  obtain ⟨x, rfl⟩ := GF.of_z (wfu8 w1)
  obtain ⟨a, RA, hn, hc⟩ := w0.bytes2
  clear w0 w1
  have la := RA.1
  subst la
  by_cases h1 : a.length ≤ 512
  · have s1 := Lib.hid (sameB_self (derP a))
    have BW := Below.refl w.heap.size w
    have RC : ∃ C I L, (∀ w : World, RdB w A a.length a → Calls Try.prog 29 #[.slice A a.length c] w fun e w' => ∃ A' c', e = .returned (.tuple #[.slice A' (List.length L) c', .agg #[.int .i64 C, .int .i64 I]]) ∧ OwB w' w.heap.size (.slice A' (List.length L) c') L ∧ Below w.heap.size w w') ∧ ((C = 26 ∧ I = -1 ∧ L = [] ∧ trimL a = []) ∨ (C = 0 ∧ I = 0 ∧ L = rootsL a ∧ trimL a ≠ [])) := by
      by_cases h0 : trimL a = []
      · exact ⟨26, -1, [], fun w h => (poRootsP_zero A a.length c a w h h1 hc h0).mono fun e w' ⟨he, hb⟩ => ⟨none, 0, he, OwB.nil _ _, hb⟩, .inl ⟨rfl, rfl, rfl, h0⟩⟩
      · exact ⟨0, 0, rootsL a, fun w h => poRootsP_ok A a.length c a w h h1 hc h0, .inr ⟨rfl, rfl, rfl, h0⟩⟩
    obtain ⟨C, I, L, hR, hcase⟩ := RC
    have HR := Lib.hid hR
    have HCASE := Lib.hid hcase
    clear hR hcase
    go_enter Try.func9, Try.ntmps9
    go_wp2_with fail
    refine (poDeriveP_ok _ _ _ _ _ RA h1).mono ?_; rintro e w1 ⟨A1, c1, rfl, ho1, hb1⟩
    have R1 := ho1.rd.1
    clear ho1
    ((first | replace BW := Bw.step BW hb1 | replace BW := Bw.step (Bw.al BW _) hb1 | replace BW := Bw.step (Bw.al (Bw.al BW _) _) hb1 | replace BW := Bw.step (Bw.al (Bw.al (Bw.al BW _) _) _) hb1 | replace BW := Bw.step (Bw.al (Bw.al (Bw.al (Bw.al BW _) _) _) _) hb1 | replace BW := Bw.step (Bw.al (Bw.al (Bw.al (Bw.al (Bw.al BW _) _) _) _) _) hb1 | replace BW := Bw.step (Bw.al (Bw.al (Bw.al (Bw.al (Bw.al (Bw.al BW _) _) _) _) _) _) hb1); (first | replace RA := RA.below hb1 | replace RA := (RA.al _).below hb1 | replace RA := ((RA.al _).al _).below hb1 | replace RA := (((RA.al _).al _).al _).below hb1 | replace RA := ((((RA.al _).al _).al _).al _).below hb1 | replace RA := (((((RA.al _).al _).al _).al _).al _).below hb1 | replace RA := ((((((RA.al _).al _).al _).al _).al _).al _).below hb1))
    have F1 := Has.new w1 0 0 24
    go_wp2_with fail
    refine (poValueP_ok _ _ _ _ _ _ (RA.al _) h1).mono ?_; rintro e w2 ⟨rfl, hb2⟩
    ((first | replace BW := Bw.step BW hb2 | replace BW := Bw.step (Bw.al BW _) hb2 | replace BW := Bw.step (Bw.al (Bw.al BW _) _) hb2 | replace BW := Bw.step (Bw.al (Bw.al (Bw.al BW _) _) _) hb2 | replace BW := Bw.step (Bw.al (Bw.al (Bw.al (Bw.al BW _) _) _) _) hb2 | replace BW := Bw.step (Bw.al (Bw.al (Bw.al (Bw.al (Bw.al BW _) _) _) _) _) hb2 | replace BW := Bw.step (Bw.al (Bw.al (Bw.al (Bw.al (Bw.al (Bw.al BW _) _) _) _) _) _) hb2); (first | replace RA := RA.below hb2 | replace RA := (RA.al _).below hb2 | replace RA := ((RA.al _).al _).below hb2 | replace RA := (((RA.al _).al _).al _).below hb2 | replace RA := ((((RA.al _).al _).al _).al _).below hb2 | replace RA := (((((RA.al _).al _).al _).al _).al _).below hb2 | replace RA := ((((((RA.al _).al _).al _).al _).al _).al _).below hb2); (first | replace R1 := R1.below hb2 | replace R1 := (R1.al _).below hb2 | replace R1 := ((R1.al _).al _).below hb2 | replace R1 := (((R1.al _).al _).al _).below hb2 | replace R1 := ((((R1.al _).al _).al _).al _).below hb2 | replace R1 := (((((R1.al _).al _).al _).al _).al _).below hb2 | replace R1 := ((((((R1.al _).al _).al _).al _).al _).al _).below hb2); (first | replace F1 := F1.below hb2 | replace F1 := (F1.al _).below hb2 | replace F1 := ((F1.al _).al _).below hb2 | replace F1 := (((F1.al _).al _).al _).below hb2 | replace F1 := ((((F1.al _).al _).al _).al _).below hb2 | replace F1 := (((((F1.al _).al _).al _).al _).al _).below hb2 | replace F1 := ((((((F1.al _).al _).al _).al _).al _).al _).below hb2))
    have F2 := Has.new w2 0 0 24
    go_wp2_with fail
    refine (HR.out _ (RA.al _)).mono ?_; rintro e w3 ⟨A3, c3, rfl, ho3, hb3⟩
    have R3 := ho3.rd.1
    clear ho3
    ((first | replace BW := Bw.step BW hb3 | replace BW := Bw.step (Bw.al BW _) hb3 | replace BW := Bw.step (Bw.al (Bw.al BW _) _) hb3 | replace BW := Bw.step (Bw.al (Bw.al (Bw.al BW _) _) _) hb3 | replace BW := Bw.step (Bw.al (Bw.al (Bw.al (Bw.al BW _) _) _) _) hb3 | replace BW := Bw.step (Bw.al (Bw.al (Bw.al (Bw.al (Bw.al BW _) _) _) _) _) hb3 | replace BW := Bw.step (Bw.al (Bw.al (Bw.al (Bw.al (Bw.al (Bw.al BW _) _) _) _) _) _) hb3); (first | replace RA := RA.below hb3 | replace RA := (RA.al _).below hb3 | replace RA := ((RA.al _).al _).below hb3 | replace RA := (((RA.al _).al _).al _).below hb3 | replace RA := ((((RA.al _).al _).al _).al _).below hb3 | replace RA := (((((RA.al _).al _).al _).al _).al _).below hb3 | replace RA := ((((((RA.al _).al _).al _).al _).al _).al _).below hb3); (first | replace R1 := R1.below hb3 | replace R1 := (R1.al _).below hb3 | replace R1 := ((R1.al _).al _).below hb3 | replace R1 := (((R1.al _).al _).al _).below hb3 | replace R1 := ((((R1.al _).al _).al _).al _).below hb3 | replace R1 := (((((R1.al _).al _).al _).al _).al _).below hb3 | replace R1 := ((((((R1.al _).al _).al _).al _).al _).al _).below hb3); (first | replace F1 := F1.below hb3 | replace F1 := (F1.al _).below hb3 | replace F1 := ((F1.al _).al _).below hb3 | replace F1 := (((F1.al _).al _).al _).below hb3 | replace F1 := ((((F1.al _).al _).al _).al _).below hb3 | replace F1 := (((((F1.al _).al _).al _).al _).al _).below hb3 | replace F1 := ((((((F1.al _).al _).al _).al _).al _).al _).below hb3); (first | replace F2 := F2.below hb3 | replace F2 := (F2.al _).below hb3 | replace F2 := ((F2.al _).al _).below hb3 | replace F2 := (((F2.al _).al _).al _).below hb3 | replace F2 := ((((F2.al _).al _).al _).al _).below hb3 | replace F2 := (((((F2.al _).al _).al _).al _).al _).below hb3 | replace F2 := ((((((F2.al _).al _).al _).al _).al _).al _).below hb3))
    have F3 := Has.new w3 C I 24
    go_wp2_with fail
    refine (long_any _ _ _ _ _ _ _ hn (by omega)).mono ?_
    rw [(lC_ok h1 (Nat.zero_le _)).1, (lC_ok h1 (Nat.zero_le _)).2]
    rintro e w4 ⟨rfl, hb4⟩
    ((first | replace BW := Bw.step BW hb4 | replace BW := Bw.step (Bw.al BW _) hb4 | replace BW := Bw.step (Bw.al (Bw.al BW _) _) hb4 | replace BW := Bw.step (Bw.al (Bw.al (Bw.al BW _) _) _) hb4 | replace BW := Bw.step (Bw.al (Bw.al (Bw.al (Bw.al BW _) _) _) _) hb4 | replace BW := Bw.step (Bw.al (Bw.al (Bw.al (Bw.al (Bw.al BW _) _) _) _) _) hb4 | replace BW := Bw.step (Bw.al (Bw.al (Bw.al (Bw.al (Bw.al (Bw.al BW _) _) _) _) _) _) hb4); (first | replace RA := RA.below hb4 | replace RA := (RA.al _).below hb4 | replace RA := ((RA.al _).al _).below hb4 | replace RA := (((RA.al _).al _).al _).below hb4 | replace RA := ((((RA.al _).al _).al _).al _).below hb4 | replace RA := (((((RA.al _).al _).al _).al _).al _).below hb4 | replace RA := ((((((RA.al _).al _).al _).al _).al _).al _).below hb4); (first | replace R1 := R1.below hb4 | replace R1 := (R1.al _).below hb4 | replace R1 := ((R1.al _).al _).below hb4 | replace R1 := (((R1.al _).al _).al _).below hb4 | replace R1 := ((((R1.al _).al _).al _).al _).below hb4 | replace R1 := (((((R1.al _).al _).al _).al _).al _).below hb4 | replace R1 := ((((((R1.al _).al _).al _).al _).al _).al _).below hb4); (first | replace R3 := R3.below hb4 | replace R3 := (R3.al _).below hb4 | replace R3 := ((R3.al _).al _).below hb4 | replace R3 := (((R3.al _).al _).al _).below hb4 | replace R3 := ((((R3.al _).al _).al _).al _).below hb4 | replace R3 := (((((R3.al _).al _).al _).al _).al _).below hb4 | replace R3 := ((((((R3.al _).al _).al _).al _).al _).al _).below hb4); (first | replace F1 := F1.below hb4 | replace F1 := (F1.al _).below hb4 | replace F1 := ((F1.al _).al _).below hb4 | replace F1 := (((F1.al _).al _).al _).below hb4 | replace F1 := ((((F1.al _).al _).al _).al _).below hb4 | replace F1 := (((((F1.al _).al _).al _).al _).al _).below hb4 | replace F1 := ((((((F1.al _).al _).al _).al _).al _).al _).below hb4); (first | replace F2 := F2.below hb4 | replace F2 := (F2.al _).below hb4 | replace F2 := ((F2.al _).al _).below hb4 | replace F2 := (((F2.al _).al _).al _).below hb4 | replace F2 := ((((F2.al _).al _).al _).al _).below hb4 | replace F2 := (((((F2.al _).al _).al _).al _).al _).below hb4 | replace F2 := ((((((F2.al _).al _).al _).al _).al _).al _).below hb4); (first | replace F3 := F3.below hb4 | replace F3 := (F3.al _).below hb4 | replace F3 := ((F3.al _).al _).below hb4 | replace F3 := (((F3.al _).al _).al _).below hb4 | replace F3 := ((((F3.al _).al _).al _).al _).below hb4 | replace F3 := (((((F3.al _).al _).al _).al _).al _).below hb4 | replace F3 := ((((((F3.al _).al _).al _).al _).al _).al _).below hb4))
    have F1 := F1.al (.cells #[.int .i64 0, .int .i64 0] 24)
    have F2 := F2.al (.cells #[.int .i64 0, .int .i64 0] 24)
    obtain ⟨l1, c10, c11, f10, f11⟩ := id F1
    obtain ⟨l2, c20, c21, f20, f21⟩ := id F2
    go_wp2_with fail
    refine (rDerive_any _ _ _ _ _ (RA.al _) (by omega)).mono ?_; rintro e w5 ⟨A5, c5, rfl, ho5, hb5⟩
    ((first | replace BW := Bw.step BW hb5 | replace BW := Bw.step (Bw.al BW _) hb5 | replace BW := Bw.step (Bw.al (Bw.al BW _) _) hb5 | replace BW := Bw.step (Bw.al (Bw.al (Bw.al BW _) _) _) hb5 | replace BW := Bw.step (Bw.al (Bw.al (Bw.al (Bw.al BW _) _) _) _) hb5 | replace BW := Bw.step (Bw.al (Bw.al (Bw.al (Bw.al (Bw.al BW _) _) _) _) _) hb5 | replace BW := Bw.step (Bw.al (Bw.al (Bw.al (Bw.al (Bw.al (Bw.al BW _) _) _) _) _) _) hb5); (first | replace RA := RA.below hb5 | replace RA := (RA.al _).below hb5 | replace RA := ((RA.al _).al _).below hb5 | replace RA := (((RA.al _).al _).al _).below hb5 | replace RA := ((((RA.al _).al _).al _).al _).below hb5 | replace RA := (((((RA.al _).al _).al _).al _).al _).below hb5 | replace RA := ((((((RA.al _).al _).al _).al _).al _).al _).below hb5); (first | replace R1 := R1.below hb5 | replace R1 := (R1.al _).below hb5 | replace R1 := ((R1.al _).al _).below hb5 | replace R1 := (((R1.al _).al _).al _).below hb5 | replace R1 := ((((R1.al _).al _).al _).al _).below hb5 | replace R1 := (((((R1.al _).al _).al _).al _).al _).below hb5 | replace R1 := ((((((R1.al _).al _).al _).al _).al _).al _).below hb5); (first | replace R3 := R3.below hb5 | replace R3 := (R3.al _).below hb5 | replace R3 := ((R3.al _).al _).below hb5 | replace R3 := (((R3.al _).al _).al _).below hb5 | replace R3 := ((((R3.al _).al _).al _).al _).below hb5 | replace R3 := (((((R3.al _).al _).al _).al _).al _).below hb5 | replace R3 := ((((((R3.al _).al _).al _).al _).al _).al _).below hb5); (first | replace F3 := F3.below hb5 | replace F3 := (F3.al _).below hb5 | replace F3 := ((F3.al _).al _).below hb5 | replace F3 := (((F3.al _).al _).al _).below hb5 | replace F3 := ((((F3.al _).al _).al _).al _).below hb5 | replace F3 := (((((F3.al _).al _).al _).al _).al _).below hb5 | replace F3 := ((((((F3.al _).al _).al _).al _).al _).al _).below hb5))
    clear l1 c10 c11 f10 f11 l2 c20 c21 f20 f21
    go_wp2_with fail
    refine (refSame_any _ _ _ _ _ _ _ _ _ R1 ho5.rd.1).mono ?_
    rw [s1.out]
    rintro e w6 ⟨rfl, rfl⟩
    clear ho5
    go_wp2_with fail
    refine (rValue_any _ _ _ _ _ _ RA (by omega)).mono ?_; rintro e w6 ⟨rfl, rfl⟩
    go_wp2_with fail
    refine (rTrim_any _ _ _ _ _ RA hc (by omega)).mono ?_; rintro e w7 ⟨A7, c7, rfl, ho7, hb7⟩
    ((first | replace BW := Bw.step BW hb7 | replace BW := Bw.step (Bw.al BW _) hb7 | replace BW := Bw.step (Bw.al (Bw.al BW _) _) hb7 | replace BW := Bw.step (Bw.al (Bw.al (Bw.al BW _) _) _) hb7 | replace BW := Bw.step (Bw.al (Bw.al (Bw.al (Bw.al BW _) _) _) _) hb7 | replace BW := Bw.step (Bw.al (Bw.al (Bw.al (Bw.al (Bw.al BW _) _) _) _) _) hb7 | replace BW := Bw.step (Bw.al (Bw.al (Bw.al (Bw.al (Bw.al (Bw.al BW _) _) _) _) _) _) hb7); (first | replace RA := RA.below hb7 | replace RA := (RA.al _).below hb7 | replace RA := ((RA.al _).al _).below hb7 | replace RA := (((RA.al _).al _).al _).below hb7 | replace RA := ((((RA.al _).al _).al _).al _).below hb7 | replace RA := (((((RA.al _).al _).al _).al _).al _).below hb7 | replace RA := ((((((RA.al _).al _).al _).al _).al _).al _).below hb7); (first | replace R3 := R3.below hb7 | replace R3 := (R3.al _).below hb7 | replace R3 := ((R3.al _).al _).below hb7 | replace R3 := (((R3.al _).al _).al _).below hb7 | replace R3 := ((((R3.al _).al _).al _).al _).below hb7 | replace R3 := (((((R3.al _).al _).al _).al _).al _).below hb7 | replace R3 := ((((((R3.al _).al _).al _).al _).al _).al _).below hb7); (first | replace F3 := F3.below hb7 | replace F3 := (F3.al _).below hb7 | replace F3 := ((F3.al _).al _).below hb7 | replace F3 := (((F3.al _).al _).al _).below hb7 | replace F3 := ((((F3.al _).al _).al _).al _).below hb7 | replace F3 := (((((F3.al _).al _).al _).al _).al _).below hb7 | replace F3 := ((((((F3.al _).al _).al _).al _).al _).al _).below hb7))
    clear ho7
    rcases HCASE.out with ⟨rfl, rfl, rfl, h0⟩ | ⟨rfl, rfl, rfl, h0⟩
    · rw [h0]
      clear h0
      go_wp2
      have X3 := F3.ext
      (refine wp_region_ext (by kernel_rfl) (by kernel_rfl) ?_; (repeat (go_big_quiet_step ((first | (go_at_call 16; exact ext_alloc (refAt_any _ _ _)) | (go_at_call 17; exact ext_call (expanded_any _)))))); refine wpQuiet_nil ?_; intro W8 hw'; have hW8 := ext_below hw'; clear hw')
      go_wp2
      go_ret
      exact ⟨rfl, Bw.step BW hW8⟩
    · have hpos : 0 < (trimL a).length := List.length_pos_iff.2 h0
      have x0 : (((trimL a).length : Int) == 0) = false := by rw [beq_eq_false_iff_ne]; omega
      obtain ⟨l3, c30, c31, f30, f31⟩ := id F3
      have HRF := Lib.hid (rootsUp_full a)
      have hrl := rootsUp_len a 256
      rw [rootsUp_full] at hrl
      clear h0 hpos
      go_wp2
      clear x0
      go_loop [12, 13] (fun v i => ∃ k : Nat, k ≤ 256 ∧ i = .int .i64 k ∧ v = .int .i64 ((rootsUp a k).length : Nat)) (fun _ i => 256 - (intOf i).toNat)
      case atStart => exact ⟨0, Nat.zero_le _, rfl, rfl⟩
      case round =>
        obtain ⟨k, hk, rfl, rfl⟩ := hrel
        by_cases hlt : k < 256
        · have hy := mkG_z hlt
          have HV := Lib.hid (rValue_any A a.length c a (mkG k) w7 RA (by omega))
          rw [hy] at HV
          have HS := Lib.hid (rootsUp_succ a k)
          have hle := rootsUp_len a k
          by_cases hr : valL a (mkG k) = 0
          · obtain ⟨q1, q2⟩ := rootsL_at a hlt hr
            have hat := rd_cell R3 q1
            rw [show cf (rootsL a) (rootsUp a k).length = mkG k from q2, hy] at hat
            obtain ⟨b3, o3, rfl, hl3, hc3⟩ := hat
            rw [if_pos hr] at HS
            rw [hr] at HV
            have HSL := Lib.hid (show (rootsUp a (k + 1)).length = (rootsUp a k).length + 1 by rw [HS.out, List.length_append]; rfl)
            clear q2 hr hy HS
            generalize (rootsUp a k).length = q at *
            have dq : decide (((rootsL a).length : Int) ≤ q) = false := by simp only [decide_eq_false_iff_not]; omega
            go_wp2_with (go_at_call 32; refine HV.out.mono ?_; rintro e w' ⟨rfl, rfl⟩)
            go_round
            case rel => exact ⟨k + 1, by omega, by go_num, by rw [HSL.out]; go_num⟩
            case measure => simp [intOf]; omega
          · rw [if_neg hr] at HS
            have z0 : ((valL a (mkG k)).z != 0) = true := by simp only [bne_iff_ne, ne_eq]; exact fun e => hr (GF.z_inj.1 e)
            clear hr hy
            generalize valL a (mkG k) = y at *
            go_wp2_with (go_at_call 32; refine HV.out.mono ?_; rintro e w' ⟨rfl, rfl⟩)
            go_round
            case rel => exact ⟨k + 1, by omega, by go_num, by rw [HS.out]⟩
            case measure => simp [intOf]; omega
        · obtain rfl : k = 256 := by omega
          rw [HRF.out]
          go_wp2_with (go_at_call 17; refine (expanded_any _).mono ?_; rintro e w' ⟨rfl, hb9⟩)
          go_ret
          exact ⟨rfl, Bw.step BW hb9⟩
  · have hne := Lib.hid (lC_bad (n := a.length) (m := 0) (fun h => h1 h.1))
    have BW := Below.refl w.heap.size w
    go_enter Try.func9, Try.ntmps9
    go_wp2_with fail
    refine (poDeriveP_bad _ _ _ _ hn h1).mono ?_; rintro e w1 ⟨rfl, hb1⟩
    ((first | replace BW := Bw.step BW hb1 | replace BW := Bw.step (Bw.al BW _) hb1 | replace BW := Bw.step (Bw.al (Bw.al BW _) _) hb1 | replace BW := Bw.step (Bw.al (Bw.al (Bw.al BW _) _) _) hb1 | replace BW := Bw.step (Bw.al (Bw.al (Bw.al (Bw.al BW _) _) _) _) hb1 | replace BW := Bw.step (Bw.al (Bw.al (Bw.al (Bw.al (Bw.al BW _) _) _) _) _) hb1 | replace BW := Bw.step (Bw.al (Bw.al (Bw.al (Bw.al (Bw.al (Bw.al BW _) _) _) _) _) _) hb1))
    have F1 := Has.new w1 3 (lI a.length 0) 24
    go_wp2_with fail
    refine (poValueP_bad _ _ _ _ _ hn h1).mono ?_; rintro e w2 ⟨rfl, hb2⟩
    ((first | replace BW := Bw.step BW hb2 | replace BW := Bw.step (Bw.al BW _) hb2 | replace BW := Bw.step (Bw.al (Bw.al BW _) _) hb2 | replace BW := Bw.step (Bw.al (Bw.al (Bw.al BW _) _) _) hb2 | replace BW := Bw.step (Bw.al (Bw.al (Bw.al (Bw.al BW _) _) _) _) hb2 | replace BW := Bw.step (Bw.al (Bw.al (Bw.al (Bw.al (Bw.al BW _) _) _) _) _) hb2 | replace BW := Bw.step (Bw.al (Bw.al (Bw.al (Bw.al (Bw.al (Bw.al BW _) _) _) _) _) _) hb2); (first | replace F1 := F1.below hb2 | replace F1 := (F1.al _).below hb2 | replace F1 := ((F1.al _).al _).below hb2 | replace F1 := (((F1.al _).al _).al _).below hb2 | replace F1 := ((((F1.al _).al _).al _).al _).below hb2 | replace F1 := (((((F1.al _).al _).al _).al _).al _).below hb2 | replace F1 := ((((((F1.al _).al _).al _).al _).al _).al _).below hb2))
    have F2 := Has.new w2 3 (lI a.length 0) 24
    go_wp2_with fail
    refine (poRootsP_bad _ _ _ _ hn h1).mono ?_; rintro e w3 ⟨rfl, hb3⟩
    ((first | replace BW := Bw.step BW hb3 | replace BW := Bw.step (Bw.al BW _) hb3 | replace BW := Bw.step (Bw.al (Bw.al BW _) _) hb3 | replace BW := Bw.step (Bw.al (Bw.al (Bw.al BW _) _) _) hb3 | replace BW := Bw.step (Bw.al (Bw.al (Bw.al (Bw.al BW _) _) _) _) hb3 | replace BW := Bw.step (Bw.al (Bw.al (Bw.al (Bw.al (Bw.al BW _) _) _) _) _) hb3 | replace BW := Bw.step (Bw.al (Bw.al (Bw.al (Bw.al (Bw.al (Bw.al BW _) _) _) _) _) _) hb3); (first | replace F1 := F1.below hb3 | replace F1 := (F1.al _).below hb3 | replace F1 := ((F1.al _).al _).below hb3 | replace F1 := (((F1.al _).al _).al _).below hb3 | replace F1 := ((((F1.al _).al _).al _).al _).below hb3 | replace F1 := (((((F1.al _).al _).al _).al _).al _).below hb3 | replace F1 := ((((((F1.al _).al _).al _).al _).al _).al _).below hb3); (first | replace F2 := F2.below hb3 | replace F2 := (F2.al _).below hb3 | replace F2 := ((F2.al _).al _).below hb3 | replace F2 := (((F2.al _).al _).al _).below hb3 | replace F2 := ((((F2.al _).al _).al _).al _).below hb3 | replace F2 := (((((F2.al _).al _).al _).al _).al _).below hb3 | replace F2 := ((((((F2.al _).al _).al _).al _).al _).al _).below hb3))
    have F3 := Has.new w3 3 (lI a.length 0) 24
    go_wp2_with fail
    refine (long_any _ _ _ _ _ _ _ hn (by omega)).mono ?_
    rw [hne.out]
    rintro e w4 ⟨rfl, hb4⟩
    ((first | replace BW := Bw.step BW hb4 | replace BW := Bw.step (Bw.al BW _) hb4 | replace BW := Bw.step (Bw.al (Bw.al BW _) _) hb4 | replace BW := Bw.step (Bw.al (Bw.al (Bw.al BW _) _) _) hb4 | replace BW := Bw.step (Bw.al (Bw.al (Bw.al (Bw.al BW _) _) _) _) hb4 | replace BW := Bw.step (Bw.al (Bw.al (Bw.al (Bw.al (Bw.al BW _) _) _) _) _) hb4 | replace BW := Bw.step (Bw.al (Bw.al (Bw.al (Bw.al (Bw.al (Bw.al BW _) _) _) _) _) _) hb4); (first | replace F1 := F1.below hb4 | replace F1 := (F1.al _).below hb4 | replace F1 := ((F1.al _).al _).below hb4 | replace F1 := (((F1.al _).al _).al _).below hb4 | replace F1 := ((((F1.al _).al _).al _).al _).below hb4 | replace F1 := (((((F1.al _).al _).al _).al _).al _).below hb4 | replace F1 := ((((((F1.al _).al _).al _).al _).al _).al _).below hb4); (first | replace F2 := F2.below hb4 | replace F2 := (F2.al _).below hb4 | replace F2 := ((F2.al _).al _).below hb4 | replace F2 := (((F2.al _).al _).al _).below hb4 | replace F2 := ((((F2.al _).al _).al _).al _).below hb4 | replace F2 := (((((F2.al _).al _).al _).al _).al _).below hb4 | replace F2 := ((((((F2.al _).al _).al _).al _).al _).al _).below hb4); (first | replace F3 := F3.below hb4 | replace F3 := (F3.al _).below hb4 | replace F3 := ((F3.al _).al _).below hb4 | replace F3 := (((F3.al _).al _).al _).below hb4 | replace F3 := ((((F3.al _).al _).al _).al _).below hb4 | replace F3 := (((((F3.al _).al _).al _).al _).al _).below hb4 | replace F3 := ((((((F3.al _).al _).al _).al _).al _).al _).below hb4))
    have F4 := Has.new w4 3 (lI a.length 0) 24
    have F1 := F1.al (.cells #[.int .i64 3, .int .i64 (lI a.length 0)] 24)
    have F2 := F2.al (.cells #[.int .i64 3, .int .i64 (lI a.length 0)] 24)
    have F3 := F3.al (.cells #[.int .i64 3, .int .i64 (lI a.length 0)] 24)
    generalize lI a.length 0 = I at *
    obtain ⟨l1, c10, c11, f10, f11⟩ := id F1
    obtain ⟨l2, c20, c21, f20, f21⟩ := id F2
    obtain ⟨l3, c30, c31, f30, f31⟩ := id F3
    obtain ⟨l4, c40, c41, f40, f41⟩ := id F4
    go_wp2_with (go_at_call 17; refine (expanded_any _).mono ?_; rintro e w' ⟨rfl, hb8⟩)
    go_ret
    exact ⟨rfl, Bw.step (Bw.al BW _) hb8⟩
set_option maxRecDepth 100000 in
set_option maxHeartbeats 2000000 in
theorem walkPolyRootsAreFactors (A : Option Addr) (n c : Nat) (zs : List Int) (k : Int) (w : World) (w0 : IsRow .u8 w A n c zs) (w1 : (Lit.int .i64 k).wf = true) :
    Calls Try.prog 8 #[.slice A n c, .int .i64 k] w fun e w' => e = .returned (.bool true) ∧ Below w.heap.size w w' := by
  obtain ⟨a, RA, hn, hc⟩ := w0.bytes2
  clear w0 w1
  have la := RA.1
  subst la
  have BW := Below.refl w.heap.size w
  by_cases h1 : a.length ≤ 512
  · by_cases h0 : trimL a = []
    · go_enter Try.func8, Try.ntmps8
      go_wp2_with fail
      refine (poRootsP_zero _ _ _ _ _ RA h1 hc h0).mono ?_; rintro e w1 ⟨rfl, hb1⟩
      ((first | replace BW := Bw.step BW hb1 | replace BW := Bw.step (Bw.al BW _) hb1 | replace BW := Bw.step (Bw.al (Bw.al BW _) _) hb1 | replace BW := Bw.step (Bw.al (Bw.al (Bw.al BW _) _) _) hb1 | replace BW := Bw.step (Bw.al (Bw.al (Bw.al (Bw.al BW _) _) _) _) hb1 | replace BW := Bw.step (Bw.al (Bw.al (Bw.al (Bw.al (Bw.al BW _) _) _) _) _) hb1 | replace BW := Bw.step (Bw.al (Bw.al (Bw.al (Bw.al (Bw.al (Bw.al BW _) _) _) _) _) _) hb1); (first | replace RA := RA.below hb1 | replace RA := (RA.al _).below hb1 | replace RA := ((RA.al _).al _).below hb1 | replace RA := (((RA.al _).al _).al _).below hb1 | replace RA := ((((RA.al _).al _).al _).al _).below hb1 | replace RA := (((((RA.al _).al _).al _).al _).al _).below hb1 | replace RA := ((((((RA.al _).al _).al _).al _).al _).al _).below hb1))
      have F1 := Has.new w1 26 (-1) 24
      go_wp2_with fail
      refine (rTrim_any _ _ _ _ _ (RA.al _) hc (by omega)).mono ?_
      rw [h0]
      rintro e w2 ⟨A2, c2, rfl, ho2, hb2⟩
      ((first | replace BW := Bw.step BW hb2 | replace BW := Bw.step (Bw.al BW _) hb2 | replace BW := Bw.step (Bw.al (Bw.al BW _) _) hb2 | replace BW := Bw.step (Bw.al (Bw.al (Bw.al BW _) _) _) hb2 | replace BW := Bw.step (Bw.al (Bw.al (Bw.al (Bw.al BW _) _) _) _) hb2 | replace BW := Bw.step (Bw.al (Bw.al (Bw.al (Bw.al (Bw.al BW _) _) _) _) _) hb2 | replace BW := Bw.step (Bw.al (Bw.al (Bw.al (Bw.al (Bw.al (Bw.al BW _) _) _) _) _) _) hb2); (first | replace F1 := F1.below hb2 | replace F1 := (F1.al _).below hb2 | replace F1 := ((F1.al _).al _).below hb2 | replace F1 := (((F1.al _).al _).al _).below hb2 | replace F1 := ((((F1.al _).al _).al _).al _).below hb2 | replace F1 := (((((F1.al _).al _).al _).al _).al _).below hb2 | replace F1 := ((((((F1.al _).al _).al _).al _).al _).al _).below hb2))
      obtain ⟨l1, c10, c11, f10, f11⟩ := id F1
      clear h0
      go_wp2_with (go_at_call 17; refine (expanded_any _).mono ?_; rintro e w' ⟨rfl, hb8⟩)
      go_ret
      exact ⟨rfl, Bw.step BW hb8⟩
    · have hpos : 0 < (trimL a).length := List.length_pos_iff.2 h0
      have hlt := rootsL_lt h0
      have hta := trim_len_le a
      have H0 := Lib.hid h0
      have x0 : (((trimL a).length : Int) == 0) = false := by rw [beq_eq_false_iff_ne]; omega
      have BWC := BW
      have HT := Lib.hid (fun w (h : RdB w A a.length a) => rTrim_any A a.length c a w h hc (by omega))
      have HRT := Lib.hid (fun w (h : RdB w A a.length a) => poRootsP_ok A a.length c a w h h1 hc h0)
      have HQ := Lib.hid (fun (r : GF) q s (hd : Div a [r, 1] q s) (hs : s = []) => quo_len_eq (Tr_lin r) (by simp) h0 (by rw [hs] at hd; exact hd))
      clear h0 BWC
      generalize hTA : (trimL a).length = T at *
      generalize hRL : (rootsL a).length = L at *
      have HTA := Lib.hid hTA
      have HRL := Lib.hid hRL
      clear hTA hRL
      by_cases hk : 0 ≤ k ∧ k < L
      · obtain ⟨k, rfl⟩ := Int.eq_ofNat_of_zero_le hk.1
        have hkl : k < L := by omega
        obtain ⟨r, hr⟩ : ∃ r, r = (rootsL a).getD k 0 := ⟨_, rfl⟩
        have hroot : valL a r = 0 := by
          rw [← mem_rootsL, hr]
          have : k < (rootsL a).length := by rw [HRL.out]; exact hkl
          simp [List.getD, List.getElem?_eq_getElem this]
        have HROOT := Lib.hid hroot
        have HR := Lib.hid hr
        clear hroot hr
        go_enter Try.func8, Try.ntmps8
        go_wp2_with fail
        refine (HRT.out _ RA).mono ?_; rintro e w1 ⟨A1, c1, rfl, ho1, hb1⟩
        have R1 := ho1.rd.1
        clear ho1
        ((first | replace BW := Bw.step BW hb1 | replace BW := Bw.step (Bw.al BW _) hb1 | replace BW := Bw.step (Bw.al (Bw.al BW _) _) hb1 | replace BW := Bw.step (Bw.al (Bw.al (Bw.al BW _) _) _) hb1 | replace BW := Bw.step (Bw.al (Bw.al (Bw.al (Bw.al BW _) _) _) _) hb1 | replace BW := Bw.step (Bw.al (Bw.al (Bw.al (Bw.al (Bw.al BW _) _) _) _) _) hb1 | replace BW := Bw.step (Bw.al (Bw.al (Bw.al (Bw.al (Bw.al (Bw.al BW _) _) _) _) _) _) hb1); (first | replace RA := RA.below hb1 | replace RA := (RA.al _).below hb1 | replace RA := ((RA.al _).al _).below hb1 | replace RA := (((RA.al _).al _).al _).below hb1 | replace RA := ((((RA.al _).al _).al _).al _).below hb1 | replace RA := (((((RA.al _).al _).al _).al _).al _).below hb1 | replace RA := ((((((RA.al _).al _).al _).al _).al _).al _).below hb1))
        have F1 := Has.new w1 0 0 24
        go_wp2_with fail
        refine (HT.out _ (RA.al _)).mono ?_; rintro e w2 ⟨A2, c2, rfl, ho2, hb2⟩
        clear ho2
        ((first | replace BW := Bw.step BW hb2 | replace BW := Bw.step (Bw.al BW _) hb2 | replace BW := Bw.step (Bw.al (Bw.al BW _) _) hb2 | replace BW := Bw.step (Bw.al (Bw.al (Bw.al BW _) _) _) hb2 | replace BW := Bw.step (Bw.al (Bw.al (Bw.al (Bw.al BW _) _) _) _) hb2 | replace BW := Bw.step (Bw.al (Bw.al (Bw.al (Bw.al (Bw.al BW _) _) _) _) _) hb2 | replace BW := Bw.step (Bw.al (Bw.al (Bw.al (Bw.al (Bw.al (Bw.al BW _) _) _) _) _) _) hb2); (first | replace RA := RA.below hb2 | replace RA := (RA.al _).below hb2 | replace RA := ((RA.al _).al _).below hb2 | replace RA := (((RA.al _).al _).al _).below hb2 | replace RA := ((((RA.al _).al _).al _).al _).below hb2 | replace RA := (((((RA.al _).al _).al _).al _).al _).below hb2 | replace RA := ((((((RA.al _).al _).al _).al _).al _).al _).below hb2); (first | replace R1 := R1.below hb2 | replace R1 := (R1.al _).below hb2 | replace R1 := ((R1.al _).al _).below hb2 | replace R1 := (((R1.al _).al _).al _).below hb2 | replace R1 := ((((R1.al _).al _).al _).al _).below hb2 | replace R1 := (((((R1.al _).al _).al _).al _).al _).below hb2 | replace R1 := ((((((R1.al _).al _).al _).al _).al _).al _).below hb2); (first | replace F1 := F1.below hb2 | replace F1 := (F1.al _).below hb2 | replace F1 := ((F1.al _).al _).below hb2 | replace F1 := (((F1.al _).al _).al _).below hb2 | replace F1 := ((((F1.al _).al _).al _).al _).below hb2 | replace F1 := (((((F1.al _).al _).al _).al _).al _).below hb2 | replace F1 := ((((((F1.al _).al _).al _).al _).al _).al _).below hb2))
        obtain ⟨l1, c10, c11, f10, f11⟩ := id F1
        go_wp2_with fail
        refine (HT.out _ RA).mono ?_; rintro e w3 ⟨A3, c3, rfl, ho3, hb3⟩
        clear ho3
        ((first | replace BW := Bw.step BW hb3 | replace BW := Bw.step (Bw.al BW _) hb3 | replace BW := Bw.step (Bw.al (Bw.al BW _) _) hb3 | replace BW := Bw.step (Bw.al (Bw.al (Bw.al BW _) _) _) hb3 | replace BW := Bw.step (Bw.al (Bw.al (Bw.al (Bw.al BW _) _) _) _) hb3 | replace BW := Bw.step (Bw.al (Bw.al (Bw.al (Bw.al (Bw.al BW _) _) _) _) _) hb3 | replace BW := Bw.step (Bw.al (Bw.al (Bw.al (Bw.al (Bw.al (Bw.al BW _) _) _) _) _) _) hb3); (first | replace RA := RA.below hb3 | replace RA := (RA.al _).below hb3 | replace RA := ((RA.al _).al _).below hb3 | replace RA := (((RA.al _).al _).al _).below hb3 | replace RA := ((((RA.al _).al _).al _).al _).below hb3 | replace RA := (((((RA.al _).al _).al _).al _).al _).below hb3 | replace RA := ((((((RA.al _).al _).al _).al _).al _).al _).below hb3); (first | replace R1 := R1.below hb3 | replace R1 := (R1.al _).below hb3 | replace R1 := ((R1.al _).al _).below hb3 | replace R1 := (((R1.al _).al _).al _).below hb3 | replace R1 := ((((R1.al _).al _).al _).al _).below hb3 | replace R1 := (((((R1.al _).al _).al _).al _).al _).below hb3 | replace R1 := ((((((R1.al _).al _).al _).al _).al _).al _).below hb3))
        clear l1 c10 c11 f10 f11
        obtain ⟨b4, o4, rfl, hl4, hc4⟩ := rd_cell R1 (i := k) hkl
        rw [show cf (rootsL a) k = r from HR.out.symm] at hc4
        go_wp2_with fail
        refine (poDivideP_ok _ _ _ _ _ _ a [r, 1] _ (RA.al _) (RdB.l2 _ _ r.z 1 r 1 _ rfl ⟨rfl, rfl⟩) h1 (by omega) hc (by omega) (by rw [trim_lin]; simp)).mono ?_
        rw [trim_lin]
        rintro e w4 ⟨A4, c4, A5, c5, q, s, rfl, ho4, ho5, hdv, hb4⟩
        have hs := root_div HROOT.out hdv
        have hql := HQ.out r q s hdv hs
        subst hs
        have hql2 : (q.length : Int) = (T : Int) - 1 := by simp at hql; omega
        have HQL := Lib.hid hql2
        have xq : ((q.length : Int) == (T : Int) - 1) = true := by simp only [beq_iff_eq]; exact hql2
        clear ho4 ho5 hdv hql hql2
        ((first | replace BW := Bw.step BW hb4 | replace BW := Bw.step (Bw.al BW _) hb4 | replace BW := Bw.step (Bw.al (Bw.al BW _) _) hb4 | replace BW := Bw.step (Bw.al (Bw.al (Bw.al BW _) _) _) hb4 | replace BW := Bw.step (Bw.al (Bw.al (Bw.al (Bw.al BW _) _) _) _) hb4 | replace BW := Bw.step (Bw.al (Bw.al (Bw.al (Bw.al (Bw.al BW _) _) _) _) _) hb4 | replace BW := Bw.step (Bw.al (Bw.al (Bw.al (Bw.al (Bw.al (Bw.al BW _) _) _) _) _) _) hb4); (first | replace RA := RA.below hb4 | replace RA := (RA.al _).below hb4 | replace RA := ((RA.al _).al _).below hb4 | replace RA := (((RA.al _).al _).al _).below hb4 | replace RA := ((((RA.al _).al _).al _).al _).below hb4 | replace RA := (((((RA.al _).al _).al _).al _).al _).below hb4 | replace RA := ((((((RA.al _).al _).al _).al _).al _).al _).below hb4))
        have F4 := Has.new w4 0 0 24
        obtain ⟨l4, c40, c41, f40, f41⟩ := id F4
        go_wp2_with fail
        refine (HT.out _ (RA.al _)).mono ?_; rintro e w5 ⟨A6, c6, rfl, ho6, hb5⟩
        clear ho6
        ((first | replace BW := Bw.step BW hb5 | replace BW := Bw.step (Bw.al BW _) hb5 | replace BW := Bw.step (Bw.al (Bw.al BW _) _) hb5 | replace BW := Bw.step (Bw.al (Bw.al (Bw.al BW _) _) _) hb5 | replace BW := Bw.step (Bw.al (Bw.al (Bw.al (Bw.al BW _) _) _) _) hb5 | replace BW := Bw.step (Bw.al (Bw.al (Bw.al (Bw.al (Bw.al BW _) _) _) _) _) hb5 | replace BW := Bw.step (Bw.al (Bw.al (Bw.al (Bw.al (Bw.al (Bw.al BW _) _) _) _) _) _) hb5))
        go_wp2_with (go_at_call 17; refine (expanded_any _).mono ?_; rintro e w' ⟨rfl, hb8⟩)
        go_ret
        exact ⟨rfl, Bw.step BW hb8⟩
      · rcases Int.lt_or_le k 0 with hk0 | hk0
        all_goals
          first
            | (have d1 : decide (k < 0) = true := by simp only [decide_eq_true_eq]; omega)
            | (have d2 : (L : Int) ≤ k := by omega
               have d1 : decide (k < 0) = false := by simp only [decide_eq_false_iff_not]; omega)
          go_enter Try.func8, Try.ntmps8
          go_wp2_with fail
          refine (HRT.out _ RA).mono ?_; rintro e w1 ⟨A1, c1, rfl, ho1, hb1⟩
          clear ho1
          ((first | replace BW := Bw.step BW hb1 | replace BW := Bw.step (Bw.al BW _) hb1 | replace BW := Bw.step (Bw.al (Bw.al BW _) _) hb1 | replace BW := Bw.step (Bw.al (Bw.al (Bw.al BW _) _) _) hb1 | replace BW := Bw.step (Bw.al (Bw.al (Bw.al (Bw.al BW _) _) _) _) hb1 | replace BW := Bw.step (Bw.al (Bw.al (Bw.al (Bw.al (Bw.al BW _) _) _) _) _) hb1 | replace BW := Bw.step (Bw.al (Bw.al (Bw.al (Bw.al (Bw.al (Bw.al BW _) _) _) _) _) _) hb1); (first | replace RA := RA.below hb1 | replace RA := (RA.al _).below hb1 | replace RA := ((RA.al _).al _).below hb1 | replace RA := (((RA.al _).al _).al _).below hb1 | replace RA := ((((RA.al _).al _).al _).al _).below hb1 | replace RA := (((((RA.al _).al _).al _).al _).al _).below hb1 | replace RA := ((((((RA.al _).al _).al _).al _).al _).al _).below hb1))
          have F1 := Has.new w1 0 0 24
          go_wp2_with fail
          refine (HT.out _ (RA.al _)).mono ?_; rintro e w2 ⟨A2, c2, rfl, ho2, hb2⟩
          clear ho2
          ((first | replace BW := Bw.step BW hb2 | replace BW := Bw.step (Bw.al BW _) hb2 | replace BW := Bw.step (Bw.al (Bw.al BW _) _) hb2 | replace BW := Bw.step (Bw.al (Bw.al (Bw.al BW _) _) _) hb2 | replace BW := Bw.step (Bw.al (Bw.al (Bw.al (Bw.al BW _) _) _) _) hb2 | replace BW := Bw.step (Bw.al (Bw.al (Bw.al (Bw.al (Bw.al BW _) _) _) _) _) hb2 | replace BW := Bw.step (Bw.al (Bw.al (Bw.al (Bw.al (Bw.al (Bw.al BW _) _) _) _) _) _) hb2); (first | replace RA := RA.below hb2 | replace RA := (RA.al _).below hb2 | replace RA := ((RA.al _).al _).below hb2 | replace RA := (((RA.al _).al _).al _).below hb2 | replace RA := ((((RA.al _).al _).al _).al _).below hb2 | replace RA := (((((RA.al _).al _).al _).al _).al _).below hb2 | replace RA := ((((((RA.al _).al _).al _).al _).al _).al _).below hb2); (first | replace F1 := F1.below hb2 | replace F1 := (F1.al _).below hb2 | replace F1 := ((F1.al _).al _).below hb2 | replace F1 := (((F1.al _).al _).al _).below hb2 | replace F1 := ((((F1.al _).al _).al _).al _).below hb2 | replace F1 := (((((F1.al _).al _).al _).al _).al _).below hb2 | replace F1 := ((((((F1.al _).al _).al _).al _).al _).al _).below hb2))
          obtain ⟨l1, c10, c11, f10, f11⟩ := id F1
          go_wp2_with fail
          refine (HT.out _ RA).mono ?_; rintro e w3 ⟨A3, c3, rfl, ho3, hb3⟩
          clear ho3
          ((first | replace BW := Bw.step BW hb3 | replace BW := Bw.step (Bw.al BW _) hb3 | replace BW := Bw.step (Bw.al (Bw.al BW _) _) hb3 | replace BW := Bw.step (Bw.al (Bw.al (Bw.al BW _) _) _) hb3 | replace BW := Bw.step (Bw.al (Bw.al (Bw.al (Bw.al BW _) _) _) _) hb3 | replace BW := Bw.step (Bw.al (Bw.al (Bw.al (Bw.al (Bw.al BW _) _) _) _) _) hb3 | replace BW := Bw.step (Bw.al (Bw.al (Bw.al (Bw.al (Bw.al (Bw.al BW _) _) _) _) _) _) hb3); (first | replace RA := RA.below hb3 | replace RA := (RA.al _).below hb3 | replace RA := ((RA.al _).al _).below hb3 | replace RA := (((RA.al _).al _).al _).below hb3 | replace RA := ((((RA.al _).al _).al _).al _).below hb3 | replace RA := (((((RA.al _).al _).al _).al _).al _).below hb3 | replace RA := ((((((RA.al _).al _).al _).al _).al _).al _).below hb3))
          clear l1 c10 c11 f10 f11
          go_wp2_with (go_at_call 17; refine (expanded_any _).mono ?_; rintro e w' ⟨rfl, hb8⟩)
          go_ret
          exact ⟨rfl, Bw.step BW hb8⟩
  · have d1 : decide (512 < (a.length : Int)) = true := by simp only [decide_eq_true_eq]; omega
    go_enter Try.func8, Try.ntmps8
    go_wp2_with fail
    refine (poRootsP_bad _ _ _ _ hn h1).mono ?_; rintro e w1 ⟨rfl, hb1⟩
    ((first | replace BW := Bw.step BW hb1 | replace BW := Bw.step (Bw.al BW _) hb1 | replace BW := Bw.step (Bw.al (Bw.al BW _) _) hb1 | replace BW := Bw.step (Bw.al (Bw.al (Bw.al BW _) _) _) hb1 | replace BW := Bw.step (Bw.al (Bw.al (Bw.al (Bw.al BW _) _) _) _) hb1 | replace BW := Bw.step (Bw.al (Bw.al (Bw.al (Bw.al (Bw.al BW _) _) _) _) _) hb1 | replace BW := Bw.step (Bw.al (Bw.al (Bw.al (Bw.al (Bw.al (Bw.al BW _) _) _) _) _) _) hb1))
    have F1 := Has.new w1 3 (lI a.length 0) 24
    obtain ⟨l1, c10, c11, f10, f11⟩ := id F1
    go_wp2_with (go_at_call 17; refine (expanded_any _).mono ?_; rintro e w' ⟨rfl, hb8⟩)
    go_ret
    exact ⟨rfl, Bw.step (Bw.al BW _) hb8⟩
end Go.Proofs.Ytpkaaiefnabfbaa
