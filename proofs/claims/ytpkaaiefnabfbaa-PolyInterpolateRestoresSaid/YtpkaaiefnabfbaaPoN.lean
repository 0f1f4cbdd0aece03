/- The walks of the statements PolyGcdMatchesSpec and PolyGcdKeepsFactors. -/
import Derived.Test.YtpkaaiefnabfbaaPoM
namespace Go.Proofs.Ytpkaaiefnabfbaa
open Go.RowKit
set_option linter.unusedVariables false

set_option maxRecDepth 100000 in
set_option maxHeartbeats 2000000 in
theorem walkPolyGcdMatchesSpec (A : Option Addr) (n c : Nat) (zs : List Int) (B : Option Addr) (m d : Nat) (ys : List Int) (w : World) (w0 : IsRow .u8 w A n c zs) (w1 : IsRow .u8 w B m d ys) :
    Calls Try.prog 4 #[.slice A n c, .slice B m d] w fun e w' => e = .returned (.bool true) ∧ Below w.heap.size w w' := by
  obtain ⟨a, RA, hn, hc⟩ := w0.bytes2
  obtain ⟨b, RB, hm, hd⟩ := w1.bytes2
  clear w0 w1
  have BW := Below.refl w.heap.size w
  by_cases hok : n ≤ 512 ∧ m ≤ 512
  · obtain ⟨h1, h2⟩ := hok
    go_enter Try.func4, Try.ntmps4
    go_wp2_with fail
    refine (poGcdP_ok _ _ _ _ _ _ _ _ _ RA RB h1 h2 hc hd).mono ?_; rintro e w1 ⟨A1, c1, g, rfl, ho1, hg, hb1⟩
    have R1 := ho1.rd.1
    have HG := Lib.hid hg
    have sG := Lib.hid (sameB_self g)
    clear ho1 hg
    ((first | replace BW := Bw.step BW hb1 | replace BW := Bw.step (Bw.al BW _) hb1 | replace BW := Bw.step (Bw.al (Bw.al BW _) _) hb1 | replace BW := Bw.step (Bw.al (Bw.al (Bw.al BW _) _) _) hb1 | replace BW := Bw.step (Bw.al (Bw.al (Bw.al (Bw.al BW _) _) _) _) hb1 | replace BW := Bw.step (Bw.al (Bw.al (Bw.al (Bw.al (Bw.al BW _) _) _) _) _) hb1 | replace BW := Bw.step (Bw.al (Bw.al (Bw.al (Bw.al (Bw.al (Bw.al BW _) _) _) _) _) _) hb1); (first | replace RA := RA.below hb1 | replace RA := (RA.al _).below hb1 | replace RA := ((RA.al _).al _).below hb1 | replace RA := (((RA.al _).al _).al _).below hb1 | replace RA := ((((RA.al _).al _).al _).al _).below hb1 | replace RA := (((((RA.al _).al _).al _).al _).al _).below hb1 | replace RA := ((((((RA.al _).al _).al _).al _).al _).al _).below hb1); (first | replace RB := RB.below hb1 | replace RB := (RB.al _).below hb1 | replace RB := ((RB.al _).al _).below hb1 | replace RB := (((RB.al _).al _).al _).below hb1 | replace RB := ((((RB.al _).al _).al _).al _).below hb1 | replace RB := (((((RB.al _).al _).al _).al _).al _).below hb1 | replace RB := ((((((RB.al _).al _).al _).al _).al _).al _).below hb1))
    have F1 := Has.new w1 0 0 24
    go_wp2_with fail
    refine (long_any _ _ _ _ _ _ _ hn hm).mono ?_
    rw [(lC_ok h1 h2).1, (lC_ok h1 h2).2]
    rintro e w2 ⟨rfl, hb2⟩
    ((first | replace BW := Bw.step BW hb2 | replace BW := Bw.step (Bw.al BW _) hb2 | replace BW := Bw.step (Bw.al (Bw.al BW _) _) hb2 | replace BW := Bw.step (Bw.al (Bw.al (Bw.al BW _) _) _) hb2 | replace BW := Bw.step (Bw.al (Bw.al (Bw.al (Bw.al BW _) _) _) _) hb2 | replace BW := Bw.step (Bw.al (Bw.al (Bw.al (Bw.al (Bw.al BW _) _) _) _) _) hb2 | replace BW := Bw.step (Bw.al (Bw.al (Bw.al (Bw.al (Bw.al (Bw.al BW _) _) _) _) _) _) hb2); (first | replace RA := RA.below hb2 | replace RA := (RA.al _).below hb2 | replace RA := ((RA.al _).al _).below hb2 | replace RA := (((RA.al _).al _).al _).below hb2 | replace RA := ((((RA.al _).al _).al _).al _).below hb2 | replace RA := (((((RA.al _).al _).al _).al _).al _).below hb2 | replace RA := ((((((RA.al _).al _).al _).al _).al _).al _).below hb2); (first | replace RB := RB.below hb2 | replace RB := (RB.al _).below hb2 | replace RB := ((RB.al _).al _).below hb2 | replace RB := (((RB.al _).al _).al _).below hb2 | replace RB := ((((RB.al _).al _).al _).al _).below hb2 | replace RB := (((((RB.al _).al _).al _).al _).al _).below hb2 | replace RB := ((((((RB.al _).al _).al _).al _).al _).al _).below hb2); (first | replace R1 := R1.below hb2 | replace R1 := (R1.al _).below hb2 | replace R1 := ((R1.al _).al _).below hb2 | replace R1 := (((R1.al _).al _).al _).below hb2 | replace R1 := ((((R1.al _).al _).al _).al _).below hb2 | replace R1 := (((((R1.al _).al _).al _).al _).al _).below hb2 | replace R1 := ((((((R1.al _).al _).al _).al _).al _).al _).below hb2); (first | replace F1 := F1.below hb2 | replace F1 := (F1.al _).below hb2 | replace F1 := ((F1.al _).al _).below hb2 | replace F1 := (((F1.al _).al _).al _).below hb2 | replace F1 := ((((F1.al _).al _).al _).al _).below hb2 | replace F1 := (((((F1.al _).al _).al _).al _).al _).below hb2 | replace F1 := ((((((F1.al _).al _).al _).al _).al _).al _).below hb2))
    have F1 := F1.al (.cells #[.int .i64 0, .int .i64 0] 24)
    obtain ⟨l1, c10, c11, f10, f11⟩ := id F1
    go_wp2_with fail
    refine (rGcd_any _ _ _ _ _ _ _ _ _ (RA.al _) (RB.al _) h1 h2 hc hd).mono ?_; rintro e w3 ⟨A3, c3, g3, rfl, R3, hg3, hb3⟩
    obtain rfl := IsGcd_unique HG.out hg3
    clear hg3 l1 c10 c11 f10 f11
    ((first | replace BW := Bw.step BW hb3 | replace BW := Bw.step (Bw.al BW _) hb3 | replace BW := Bw.step (Bw.al (Bw.al BW _) _) hb3 | replace BW := Bw.step (Bw.al (Bw.al (Bw.al BW _) _) _) hb3 | replace BW := Bw.step (Bw.al (Bw.al (Bw.al (Bw.al BW _) _) _) _) hb3 | replace BW := Bw.step (Bw.al (Bw.al (Bw.al (Bw.al (Bw.al BW _) _) _) _) _) hb3 | replace BW := Bw.step (Bw.al (Bw.al (Bw.al (Bw.al (Bw.al (Bw.al BW _) _) _) _) _) _) hb3); (first | replace R1 := R1.below hb3 | replace R1 := (R1.al _).below hb3 | replace R1 := ((R1.al _).al _).below hb3 | replace R1 := (((R1.al _).al _).al _).below hb3 | replace R1 := ((((R1.al _).al _).al _).al _).below hb3 | replace R1 := (((((R1.al _).al _).al _).al _).al _).below hb3 | replace R1 := ((((((R1.al _).al _).al _).al _).al _).al _).below hb3))
    go_wp2_with fail
    refine (refSame_any _ _ _ _ _ _ _ _ _ R1 R3).mono ?_
    rw [sG.out]
    rintro e w4 ⟨rfl, rfl⟩
    go_wp2_with (go_at_call 17; refine (expanded_any _).mono ?_; rintro e w' ⟨rfl, hb8⟩)
    go_ret
    exact ⟨rfl, Bw.step BW hb8⟩
  · have hne := Lib.hid (lC_bad hok)
    go_enter Try.func4, Try.ntmps4
    go_wp2_with fail
    refine (poGcdP_bad _ _ _ _ _ _ _ hn hm hok).mono ?_; rintro e w1 ⟨rfl, hb1⟩
    ((first | replace BW := Bw.step BW hb1 | replace BW := Bw.step (Bw.al BW _) hb1 | replace BW := Bw.step (Bw.al (Bw.al BW _) _) hb1 | replace BW := Bw.step (Bw.al (Bw.al (Bw.al BW _) _) _) hb1 | replace BW := Bw.step (Bw.al (Bw.al (Bw.al (Bw.al BW _) _) _) _) hb1 | replace BW := Bw.step (Bw.al (Bw.al (Bw.al (Bw.al (Bw.al BW _) _) _) _) _) hb1 | replace BW := Bw.step (Bw.al (Bw.al (Bw.al (Bw.al (Bw.al (Bw.al BW _) _) _) _) _) _) hb1))
    have F1 := Has.new w1 3 (lI n m) 24
    go_wp2_with fail
    refine (long_any _ _ _ _ _ _ _ hn hm).mono ?_
    rw [hne.out]
    rintro e w3 ⟨rfl, hb3⟩
    ((first | replace BW := Bw.step BW hb3 | replace BW := Bw.step (Bw.al BW _) hb3 | replace BW := Bw.step (Bw.al (Bw.al BW _) _) hb3 | replace BW := Bw.step (Bw.al (Bw.al (Bw.al BW _) _) _) hb3 | replace BW := Bw.step (Bw.al (Bw.al (Bw.al (Bw.al BW _) _) _) _) hb3 | replace BW := Bw.step (Bw.al (Bw.al (Bw.al (Bw.al (Bw.al BW _) _) _) _) _) hb3 | replace BW := Bw.step (Bw.al (Bw.al (Bw.al (Bw.al (Bw.al (Bw.al BW _) _) _) _) _) _) hb3); (first | replace F1 := F1.below hb3 | replace F1 := (F1.al _).below hb3 | replace F1 := ((F1.al _).al _).below hb3 | replace F1 := (((F1.al _).al _).al _).below hb3 | replace F1 := ((((F1.al _).al _).al _).al _).below hb3 | replace F1 := (((((F1.al _).al _).al _).al _).al _).below hb3 | replace F1 := ((((((F1.al _).al _).al _).al _).al _).al _).below hb3))
    have F3 := Has.new w3 3 (lI n m) 24
    have F1 := F1.al (.cells #[.int .i64 3, .int .i64 (lI n m)] 24)
    generalize lI n m = I at *
    obtain ⟨l1, c10, c11, f10, f11⟩ := id F1
    obtain ⟨l3, c30, c31, f30, f31⟩ := id F3
    go_wp2_with fail
    refine (expanded_any _).mono ?_; rintro e w8 ⟨rfl, hb8⟩
    go_wp2
    go_ret
    exact ⟨rfl, Bw.step (Bw.al BW _) hb8⟩
theorem prodP_ne {a b : List GF} (ha : trimL a ≠ []) (hb : trimL b ≠ []) : prodP a b ≠ [] := by
  obtain ⟨m, hm, tm, dm⟩ := Tr_top (Tr_trim a) ha
  obtain ⟨n, hn, tn, dn⟩ := Tr_top (Tr_trim b) hb
  intro h
  have h1 := cv_top dm dn
  have h2 : cf (prodP a b) (m + n) = 0 := by rw [h, cf_nil]; rfl
  rw [cf_prodP, ← cf_trim a, ← cf_trim b, h1] at h2
  rcases GF.mul_eq_zero h2 with h | h
  · exact tm h
  · exact tn h
set_option maxRecDepth 100000 in
set_option maxHeartbeats 4000000 in
theorem walkPolyGcdKeepsFactors (A : Option Addr) (n c : Nat) (zs : List Int) (B : Option Addr) (m d : Nat) (ys : List Int) (C : Option Addr) (o s : Nat) (xs : List Int) (w : World) (w0 : IsRow .u8 w A n c zs) (w1 : IsRow .u8 w B m d ys) (w2 : IsRow .u8 w C o s xs) :
    Calls Try.prog 5 #[.slice A n c, .slice B m d, .slice C o s] w fun e w' => e = .returned (.bool true) ∧ Below w.heap.size w w' := by
  obtain ⟨a, RA, hn, hc⟩ := w0.bytes2
  obtain ⟨b, RB, hm, hd⟩ := w1.bytes2
  obtain ⟨k, RK, hk, hs⟩ := w2.bytes2
  clear w0 w1 w2
  have BW := Below.refl w.heap.size w
  have la := RA.1
  have lb := RB.1
  have lk := RK.1
  subst la lb lk
  rcases Nat.lt_or_ge 60 a.length with h1 | h1
  · have d1 : decide (60 < (a.length : Int)) = true := by simp only [decide_eq_true_eq]; omega
    go_enter Try.func5, Try.ntmps5
    go_wp2_with (go_at_call 17; refine (expanded_any _).mono ?_; rintro e w' ⟨rfl, hb8⟩)
    go_ret
    exact ⟨rfl, hb8⟩
  · have d1 : decide (60 < (a.length : Int)) = false := by simp only [decide_eq_false_iff_not]; omega
    rcases Nat.lt_or_ge 60 b.length with h2 | h2
    · have d2 : decide (60 < (b.length : Int)) = true := by simp only [decide_eq_true_eq]; omega
      go_enter Try.func5, Try.ntmps5
      go_wp2_with (go_at_call 17; refine (expanded_any _).mono ?_; rintro e w' ⟨rfl, hb8⟩)
      go_ret
      exact ⟨rfl, hb8⟩
    · have d2 : decide (60 < (b.length : Int)) = false := by simp only [decide_eq_false_iff_not]; omega
      rcases Nat.lt_or_ge 60 k.length with h3 | h3
      · have d3 : decide (60 < (k.length : Int)) = true := by simp only [decide_eq_true_eq]; omega
        go_enter Try.func5, Try.ntmps5
        go_wp2_with (go_at_call 17; refine (expanded_any _).mono ?_; rintro e w' ⟨rfl, hb8⟩)
        go_ret
        exact ⟨rfl, hb8⟩
      · have d3 : decide (60 < (k.length : Int)) = false := by simp only [decide_eq_false_iff_not]; omega
        by_cases h4 : trimL k = []
        · go_enter Try.func5, Try.ntmps5
          go_wp2_with fail
          refine (rTrim_any _ _ _ _ _ RK hs (by omega)).mono ?_
          rw [h4]
          rintro e w1 ⟨A1, c1, rfl, ho1, hb1⟩
          clear h4 ho1
          go_wp2_with (go_at_call 17; refine (expanded_any _).mono ?_; rintro e w' ⟨rfl, hb8⟩)
          go_ret
          exact ⟨rfl, Bw.step hb1 hb8⟩
        · have hpk : 0 < (trimL k).length := List.length_pos_iff.2 h4
          have x4 : (((trimL k).length : Int) == 0) = false := by rw [beq_eq_false_iff_ne]; omega
          by_cases h5 : trimL a = []
          · clear h4
            go_enter Try.func5, Try.ntmps5
            go_wp2_with fail
            refine (rTrim_any _ _ _ _ _ RK hs (by omega)).mono ?_; rintro e w1 ⟨A1, c1, rfl, ho1, hb1⟩
            go_wp2_with fail
            refine (rTrim_any _ _ _ _ _ (RA.below hb1) hc (by omega)).mono ?_
            rw [h5]
            rintro e w2 ⟨A2, c2, rfl, ho2, hb2⟩
            clear h5 ho1 ho2
            go_wp2_with (go_at_call 17; refine (expanded_any _).mono ?_; rintro e w' ⟨rfl, hb8⟩)
            go_ret
            exact ⟨rfl, Bw.step (Bw.step hb1 hb2) hb8⟩
          · have hpa : 0 < (trimL a).length := List.length_pos_iff.2 h5
            have x5 : (((trimL a).length : Int) == 0) = false := by rw [beq_eq_false_iff_ne]; omega
            have hxn := prodP_ne h5 h4
            have xl := prodP_len a k
            have yl := prodP_len b k
            have HTK := Lib.hid (show Tr (trimL k) from Tr_trim k)
            have HX := Lib.hid (cf_prodP a k)
            have HY := Lib.hid (cf_prodP b k)
            have H4 := Lib.hid h4
            have H5 := Lib.hid h5
            have HXN := Lib.hid hxn
            have HTX := Lib.hid (show Tr (prodP a k) from Tr_ofF _ _)
            have KX : Hid (Dv (cf k) (cf (prodP a k))) := Lib.hid ⟨cf a, _, degB_cf a, cf_prodP a k⟩
            have KY : Hid (Dv (cf k) (cf (prodP b k))) := Lib.hid ⟨cf b, _, degB_cf b, cf_prodP b k⟩
            clear h4 h5 hxn
            go_enter Try.func5, Try.ntmps5
            go_wp2_with fail
            refine (rTrim_any _ _ _ _ _ RK hs (by omega)).mono ?_; rintro e w1 ⟨A1, c1, rfl, ho1, hb1⟩
            clear ho1
            ((first | replace BW := Bw.step BW hb1 | replace BW := Bw.step (Bw.al BW _) hb1 | replace BW := Bw.step (Bw.al (Bw.al BW _) _) hb1 | replace BW := Bw.step (Bw.al (Bw.al (Bw.al BW _) _) _) hb1 | replace BW := Bw.step (Bw.al (Bw.al (Bw.al (Bw.al BW _) _) _) _) hb1 | replace BW := Bw.step (Bw.al (Bw.al (Bw.al (Bw.al (Bw.al BW _) _) _) _) _) hb1 | replace BW := Bw.step (Bw.al (Bw.al (Bw.al (Bw.al (Bw.al (Bw.al BW _) _) _) _) _) _) hb1); (first | replace RA := RA.below hb1 | replace RA := (RA.al _).below hb1 | replace RA := ((RA.al _).al _).below hb1 | replace RA := (((RA.al _).al _).al _).below hb1 | replace RA := ((((RA.al _).al _).al _).al _).below hb1 | replace RA := (((((RA.al _).al _).al _).al _).al _).below hb1 | replace RA := ((((((RA.al _).al _).al _).al _).al _).al _).below hb1); (first | replace RB := RB.below hb1 | replace RB := (RB.al _).below hb1 | replace RB := ((RB.al _).al _).below hb1 | replace RB := (((RB.al _).al _).al _).below hb1 | replace RB := ((((RB.al _).al _).al _).al _).below hb1 | replace RB := (((((RB.al _).al _).al _).al _).al _).below hb1 | replace RB := ((((((RB.al _).al _).al _).al _).al _).al _).below hb1); (first | replace RK := RK.below hb1 | replace RK := (RK.al _).below hb1 | replace RK := ((RK.al _).al _).below hb1 | replace RK := (((RK.al _).al _).al _).below hb1 | replace RK := ((((RK.al _).al _).al _).al _).below hb1 | replace RK := (((((RK.al _).al _).al _).al _).al _).below hb1 | replace RK := ((((((RK.al _).al _).al _).al _).al _).al _).below hb1))
            go_wp2_with fail
            refine (rTrim_any _ _ _ _ _ RA hc (by omega)).mono ?_; rintro e w2 ⟨A2, c2, rfl, ho2, hb2⟩
            clear ho2
            ((first | replace BW := Bw.step BW hb2 | replace BW := Bw.step (Bw.al BW _) hb2 | replace BW := Bw.step (Bw.al (Bw.al BW _) _) hb2 | replace BW := Bw.step (Bw.al (Bw.al (Bw.al BW _) _) _) hb2 | replace BW := Bw.step (Bw.al (Bw.al (Bw.al (Bw.al BW _) _) _) _) hb2 | replace BW := Bw.step (Bw.al (Bw.al (Bw.al (Bw.al (Bw.al BW _) _) _) _) _) hb2 | replace BW := Bw.step (Bw.al (Bw.al (Bw.al (Bw.al (Bw.al (Bw.al BW _) _) _) _) _) _) hb2); (first | replace RA := RA.below hb2 | replace RA := (RA.al _).below hb2 | replace RA := ((RA.al _).al _).below hb2 | replace RA := (((RA.al _).al _).al _).below hb2 | replace RA := ((((RA.al _).al _).al _).al _).below hb2 | replace RA := (((((RA.al _).al _).al _).al _).al _).below hb2 | replace RA := ((((((RA.al _).al _).al _).al _).al _).al _).below hb2); (first | replace RB := RB.below hb2 | replace RB := (RB.al _).below hb2 | replace RB := ((RB.al _).al _).below hb2 | replace RB := (((RB.al _).al _).al _).below hb2 | replace RB := ((((RB.al _).al _).al _).al _).below hb2 | replace RB := (((((RB.al _).al _).al _).al _).al _).below hb2 | replace RB := ((((((RB.al _).al _).al _).al _).al _).al _).below hb2); (first | replace RK := RK.below hb2 | replace RK := (RK.al _).below hb2 | replace RK := ((RK.al _).al _).below hb2 | replace RK := (((RK.al _).al _).al _).below hb2 | replace RK := ((((RK.al _).al _).al _).al _).below hb2 | replace RK := (((((RK.al _).al _).al _).al _).al _).below hb2 | replace RK := ((((((RK.al _).al _).al _).al _).al _).al _).below hb2))
            go_wp2_with fail
            refine (poMulP_ok _ _ _ _ _ _ _ _ _ RA RK (by omega) (by omega)).mono ?_; rintro e w3 ⟨A3, c3, rfl, ho3, hb3⟩
            have R3 := ho3.rd.1
            have C3 := ho3.cap.1
            clear ho3
            ((first | replace BW := Bw.step BW hb3 | replace BW := Bw.step (Bw.al BW _) hb3 | replace BW := Bw.step (Bw.al (Bw.al BW _) _) hb3 | replace BW := Bw.step (Bw.al (Bw.al (Bw.al BW _) _) _) hb3 | replace BW := Bw.step (Bw.al (Bw.al (Bw.al (Bw.al BW _) _) _) _) hb3 | replace BW := Bw.step (Bw.al (Bw.al (Bw.al (Bw.al (Bw.al BW _) _) _) _) _) hb3 | replace BW := Bw.step (Bw.al (Bw.al (Bw.al (Bw.al (Bw.al (Bw.al BW _) _) _) _) _) _) hb3); (first | replace RB := RB.below hb3 | replace RB := (RB.al _).below hb3 | replace RB := ((RB.al _).al _).below hb3 | replace RB := (((RB.al _).al _).al _).below hb3 | replace RB := ((((RB.al _).al _).al _).al _).below hb3 | replace RB := (((((RB.al _).al _).al _).al _).al _).below hb3 | replace RB := ((((((RB.al _).al _).al _).al _).al _).al _).below hb3); (first | replace RK := RK.below hb3 | replace RK := (RK.al _).below hb3 | replace RK := ((RK.al _).al _).below hb3 | replace RK := (((RK.al _).al _).al _).below hb3 | replace RK := ((((RK.al _).al _).al _).al _).below hb3 | replace RK := (((((RK.al _).al _).al _).al _).al _).below hb3 | replace RK := ((((((RK.al _).al _).al _).al _).al _).al _).below hb3))
            have F3 := Has.new w3 0 0 24
            generalize prodP a k = x at *
            go_wp2_with fail
            refine (poMulP_ok _ _ _ _ _ _ _ _ _ (RB.al _) (RK.al _) (by omega) (by omega)).mono ?_; rintro e w4 ⟨A4, c4, rfl, ho4, hb4⟩
            have R4 := ho4.rd.1
            have C4 := ho4.cap.1
            clear ho4
            ((first | replace BW := Bw.step BW hb4 | replace BW := Bw.step (Bw.al BW _) hb4 | replace BW := Bw.step (Bw.al (Bw.al BW _) _) hb4 | replace BW := Bw.step (Bw.al (Bw.al (Bw.al BW _) _) _) hb4 | replace BW := Bw.step (Bw.al (Bw.al (Bw.al (Bw.al BW _) _) _) _) hb4 | replace BW := Bw.step (Bw.al (Bw.al (Bw.al (Bw.al (Bw.al BW _) _) _) _) _) hb4 | replace BW := Bw.step (Bw.al (Bw.al (Bw.al (Bw.al (Bw.al (Bw.al BW _) _) _) _) _) _) hb4); (first | replace RK := RK.below hb4 | replace RK := (RK.al _).below hb4 | replace RK := ((RK.al _).al _).below hb4 | replace RK := (((RK.al _).al _).al _).below hb4 | replace RK := ((((RK.al _).al _).al _).al _).below hb4 | replace RK := (((((RK.al _).al _).al _).al _).al _).below hb4 | replace RK := ((((((RK.al _).al _).al _).al _).al _).al _).below hb4); (first | replace R3 := R3.below hb4 | replace R3 := (R3.al _).below hb4 | replace R3 := ((R3.al _).al _).below hb4 | replace R3 := (((R3.al _).al _).al _).below hb4 | replace R3 := ((((R3.al _).al _).al _).al _).below hb4 | replace R3 := (((((R3.al _).al _).al _).al _).al _).below hb4 | replace R3 := ((((((R3.al _).al _).al _).al _).al _).al _).below hb4); (first | replace F3 := F3.below hb4 | replace F3 := (F3.al _).below hb4 | replace F3 := ((F3.al _).al _).below hb4 | replace F3 := (((F3.al _).al _).al _).below hb4 | replace F3 := ((((F3.al _).al _).al _).al _).below hb4 | replace F3 := (((((F3.al _).al _).al _).al _).al _).below hb4 | replace F3 := ((((((F3.al _).al _).al _).al _).al _).al _).below hb4))
            have F4 := Has.new w4 0 0 24
            generalize prodP b k = y at *
            go_wp2_with fail
            refine (poGcdP_ok _ _ _ _ _ _ _ _ _ (R3.al _) (R4.al _) (by omega) (by omega) C3 C4).mono ?_; rintro e w5 ⟨A5, c5, g, rfl, ho5, hg, hb5⟩
            have R5 := ho5.rd.1
            have C5 := ho5.cap.1
            have D1 := (hg.2.2 (cf k)).2 ⟨KX.out, KY.out⟩
            have D2 := (hg.2.2 (cf g)).1 (Dv.refl _)
            obtain ⟨gn, gl⟩ := Dv_len hg.1 HTX.out HXN.out D2.1
            have hgpos : 0 < g.length := List.length_pos_iff.2 gn
            have htg := Tr_trim_eq hg.1
            have HLAST := Lib.hid (show cf g (g.length - 1) = 1 from hg.2.1.resolve_left gn)
            have HG1 := Lib.hid hg.1
            have HGN := Lib.hid gn
            have HTG := Lib.hid htg
            have HD1 := Lib.hid D1
            have HD2 := Lib.hid D2
            clear ho5 hg D1 D2 gn htg
            ((first | replace BW := Bw.step BW hb5 | replace BW := Bw.step (Bw.al BW _) hb5 | replace BW := Bw.step (Bw.al (Bw.al BW _) _) hb5 | replace BW := Bw.step (Bw.al (Bw.al (Bw.al BW _) _) _) hb5 | replace BW := Bw.step (Bw.al (Bw.al (Bw.al (Bw.al BW _) _) _) _) hb5 | replace BW := Bw.step (Bw.al (Bw.al (Bw.al (Bw.al (Bw.al BW _) _) _) _) _) hb5 | replace BW := Bw.step (Bw.al (Bw.al (Bw.al (Bw.al (Bw.al (Bw.al BW _) _) _) _) _) _) hb5); (first | replace RK := RK.below hb5 | replace RK := (RK.al _).below hb5 | replace RK := ((RK.al _).al _).below hb5 | replace RK := (((RK.al _).al _).al _).below hb5 | replace RK := ((((RK.al _).al _).al _).al _).below hb5 | replace RK := (((((RK.al _).al _).al _).al _).al _).below hb5 | replace RK := ((((((RK.al _).al _).al _).al _).al _).al _).below hb5); (first | replace R3 := R3.below hb5 | replace R3 := (R3.al _).below hb5 | replace R3 := ((R3.al _).al _).below hb5 | replace R3 := (((R3.al _).al _).al _).below hb5 | replace R3 := ((((R3.al _).al _).al _).al _).below hb5 | replace R3 := (((((R3.al _).al _).al _).al _).al _).below hb5 | replace R3 := ((((((R3.al _).al _).al _).al _).al _).al _).below hb5); (first | replace R4 := R4.below hb5 | replace R4 := (R4.al _).below hb5 | replace R4 := ((R4.al _).al _).below hb5 | replace R4 := (((R4.al _).al _).al _).below hb5 | replace R4 := ((((R4.al _).al _).al _).al _).below hb5 | replace R4 := (((((R4.al _).al _).al _).al _).al _).below hb5 | replace R4 := ((((((R4.al _).al _).al _).al _).al _).al _).below hb5); (first | replace F3 := F3.below hb5 | replace F3 := (F3.al _).below hb5 | replace F3 := ((F3.al _).al _).below hb5 | replace F3 := (((F3.al _).al _).al _).below hb5 | replace F3 := ((((F3.al _).al _).al _).al _).below hb5 | replace F3 := (((((F3.al _).al _).al _).al _).al _).below hb5 | replace F3 := ((((((F3.al _).al _).al _).al _).al _).al _).below hb5); (first | replace F4 := F4.below hb5 | replace F4 := (F4.al _).below hb5 | replace F4 := ((F4.al _).al _).below hb5 | replace F4 := (((F4.al _).al _).al _).below hb5 | replace F4 := ((((F4.al _).al _).al _).al _).below hb5 | replace F4 := (((((F4.al _).al _).al _).al _).al _).below hb5 | replace F4 := ((((((F4.al _).al _).al _).al _).al _).al _).below hb5))
            have F5 := Has.new w5 0 0 24
            go_wp2_with fail
            refine (poDivideP_ok _ _ _ _ _ _ _ _ _ (R5.al _) (RK.al _) (by omega) (by omega) C5 hs H4.out).mono ?_; rintro e w6 ⟨A6, c6, A7, c7, q6, r6, rfl, ho6, ho7, hdv6, hb6⟩
            obtain rfl := Div_dvd HTK.out H4.out hdv6 (by rw [cf_trim]; exact HD1.out)
            clear ho6 ho7 hdv6
            ((first | replace BW := Bw.step BW hb6 | replace BW := Bw.step (Bw.al BW _) hb6 | replace BW := Bw.step (Bw.al (Bw.al BW _) _) hb6 | replace BW := Bw.step (Bw.al (Bw.al (Bw.al BW _) _) _) hb6 | replace BW := Bw.step (Bw.al (Bw.al (Bw.al (Bw.al BW _) _) _) _) hb6 | replace BW := Bw.step (Bw.al (Bw.al (Bw.al (Bw.al (Bw.al BW _) _) _) _) _) hb6 | replace BW := Bw.step (Bw.al (Bw.al (Bw.al (Bw.al (Bw.al (Bw.al BW _) _) _) _) _) _) hb6); (first | replace R3 := R3.below hb6 | replace R3 := (R3.al _).below hb6 | replace R3 := ((R3.al _).al _).below hb6 | replace R3 := (((R3.al _).al _).al _).below hb6 | replace R3 := ((((R3.al _).al _).al _).al _).below hb6 | replace R3 := (((((R3.al _).al _).al _).al _).al _).below hb6 | replace R3 := ((((((R3.al _).al _).al _).al _).al _).al _).below hb6); (first | replace R4 := R4.below hb6 | replace R4 := (R4.al _).below hb6 | replace R4 := ((R4.al _).al _).below hb6 | replace R4 := (((R4.al _).al _).al _).below hb6 | replace R4 := ((((R4.al _).al _).al _).al _).below hb6 | replace R4 := (((((R4.al _).al _).al _).al _).al _).below hb6 | replace R4 := ((((((R4.al _).al _).al _).al _).al _).al _).below hb6); (first | replace R5 := R5.below hb6 | replace R5 := (R5.al _).below hb6 | replace R5 := ((R5.al _).al _).below hb6 | replace R5 := (((R5.al _).al _).al _).below hb6 | replace R5 := ((((R5.al _).al _).al _).al _).below hb6 | replace R5 := (((((R5.al _).al _).al _).al _).al _).below hb6 | replace R5 := ((((((R5.al _).al _).al _).al _).al _).al _).below hb6); (first | replace F3 := F3.below hb6 | replace F3 := (F3.al _).below hb6 | replace F3 := ((F3.al _).al _).below hb6 | replace F3 := (((F3.al _).al _).al _).below hb6 | replace F3 := ((((F3.al _).al _).al _).al _).below hb6 | replace F3 := (((((F3.al _).al _).al _).al _).al _).below hb6 | replace F3 := ((((((F3.al _).al _).al _).al _).al _).al _).below hb6); (first | replace F4 := F4.below hb6 | replace F4 := (F4.al _).below hb6 | replace F4 := ((F4.al _).al _).below hb6 | replace F4 := (((F4.al _).al _).al _).below hb6 | replace F4 := ((((F4.al _).al _).al _).al _).below hb6 | replace F4 := (((((F4.al _).al _).al _).al _).al _).below hb6 | replace F4 := ((((((F4.al _).al _).al _).al _).al _).al _).below hb6); (first | replace F5 := F5.below hb6 | replace F5 := (F5.al _).below hb6 | replace F5 := ((F5.al _).al _).below hb6 | replace F5 := (((F5.al _).al _).al _).below hb6 | replace F5 := ((((F5.al _).al _).al _).al _).below hb6 | replace F5 := (((((F5.al _).al _).al _).al _).al _).below hb6 | replace F5 := ((((((F5.al _).al _).al _).al _).al _).al _).below hb6))
            have F6 := Has.new w6 0 0 24
            go_wp2_with fail
            refine (poDivideP_ok _ _ _ _ _ _ _ _ _ (R3.al _) (R5.al _) (by omega) (by omega) C3 C5 (by rw [HTG.out]; exact HGN.out)).mono ?_
            rw [HTG.out]
            rintro e w7 ⟨A8, c8, A9, c9, q7, r7, rfl, ho8, ho9, hdv7, hb7⟩
            obtain rfl := Div_dvd HG1.out HGN.out hdv7 HD2.out.1
            clear ho8 ho9 hdv7
            ((first | replace BW := Bw.step BW hb7 | replace BW := Bw.step (Bw.al BW _) hb7 | replace BW := Bw.step (Bw.al (Bw.al BW _) _) hb7 | replace BW := Bw.step (Bw.al (Bw.al (Bw.al BW _) _) _) hb7 | replace BW := Bw.step (Bw.al (Bw.al (Bw.al (Bw.al BW _) _) _) _) hb7 | replace BW := Bw.step (Bw.al (Bw.al (Bw.al (Bw.al (Bw.al BW _) _) _) _) _) hb7 | replace BW := Bw.step (Bw.al (Bw.al (Bw.al (Bw.al (Bw.al (Bw.al BW _) _) _) _) _) _) hb7); (first | replace R4 := R4.below hb7 | replace R4 := (R4.al _).below hb7 | replace R4 := ((R4.al _).al _).below hb7 | replace R4 := (((R4.al _).al _).al _).below hb7 | replace R4 := ((((R4.al _).al _).al _).al _).below hb7 | replace R4 := (((((R4.al _).al _).al _).al _).al _).below hb7 | replace R4 := ((((((R4.al _).al _).al _).al _).al _).al _).below hb7); (first | replace R5 := R5.below hb7 | replace R5 := (R5.al _).below hb7 | replace R5 := ((R5.al _).al _).below hb7 | replace R5 := (((R5.al _).al _).al _).below hb7 | replace R5 := ((((R5.al _).al _).al _).al _).below hb7 | replace R5 := (((((R5.al _).al _).al _).al _).al _).below hb7 | replace R5 := ((((((R5.al _).al _).al _).al _).al _).al _).below hb7); (first | replace F3 := F3.below hb7 | replace F3 := (F3.al _).below hb7 | replace F3 := ((F3.al _).al _).below hb7 | replace F3 := (((F3.al _).al _).al _).below hb7 | replace F3 := ((((F3.al _).al _).al _).al _).below hb7 | replace F3 := (((((F3.al _).al _).al _).al _).al _).below hb7 | replace F3 := ((((((F3.al _).al _).al _).al _).al _).al _).below hb7); (first | replace F4 := F4.below hb7 | replace F4 := (F4.al _).below hb7 | replace F4 := ((F4.al _).al _).below hb7 | replace F4 := (((F4.al _).al _).al _).below hb7 | replace F4 := ((((F4.al _).al _).al _).al _).below hb7 | replace F4 := (((((F4.al _).al _).al _).al _).al _).below hb7 | replace F4 := ((((((F4.al _).al _).al _).al _).al _).al _).below hb7); (first | replace F5 := F5.below hb7 | replace F5 := (F5.al _).below hb7 | replace F5 := ((F5.al _).al _).below hb7 | replace F5 := (((F5.al _).al _).al _).below hb7 | replace F5 := ((((F5.al _).al _).al _).al _).below hb7 | replace F5 := (((((F5.al _).al _).al _).al _).al _).below hb7 | replace F5 := ((((((F5.al _).al _).al _).al _).al _).al _).below hb7); (first | replace F6 := F6.below hb7 | replace F6 := (F6.al _).below hb7 | replace F6 := ((F6.al _).al _).below hb7 | replace F6 := (((F6.al _).al _).al _).below hb7 | replace F6 := ((((F6.al _).al _).al _).al _).below hb7 | replace F6 := (((((F6.al _).al _).al _).al _).al _).below hb7 | replace F6 := ((((((F6.al _).al _).al _).al _).al _).al _).below hb7))
            have F7 := Has.new w7 0 0 24
            go_wp2_with fail
            refine (poDivideP_ok _ _ _ _ _ _ _ _ _ (R4.al _) (R5.al _) (by omega) (by omega) C4 C5 (by rw [HTG.out]; exact HGN.out)).mono ?_
            rw [HTG.out]
            rintro e w8 ⟨A10, c10', A11, c11', q8, r8, rfl, ho10, ho11, hdv8, hb8⟩
            obtain rfl := Div_dvd HG1.out HGN.out hdv8 HD2.out.2
            clear ho10 ho11 hdv8
            ((first | replace BW := Bw.step BW hb8 | replace BW := Bw.step (Bw.al BW _) hb8 | replace BW := Bw.step (Bw.al (Bw.al BW _) _) hb8 | replace BW := Bw.step (Bw.al (Bw.al (Bw.al BW _) _) _) hb8 | replace BW := Bw.step (Bw.al (Bw.al (Bw.al (Bw.al BW _) _) _) _) hb8 | replace BW := Bw.step (Bw.al (Bw.al (Bw.al (Bw.al (Bw.al BW _) _) _) _) _) hb8 | replace BW := Bw.step (Bw.al (Bw.al (Bw.al (Bw.al (Bw.al (Bw.al BW _) _) _) _) _) _) hb8); (first | replace R5 := R5.below hb8 | replace R5 := (R5.al _).below hb8 | replace R5 := ((R5.al _).al _).below hb8 | replace R5 := (((R5.al _).al _).al _).below hb8 | replace R5 := ((((R5.al _).al _).al _).al _).below hb8 | replace R5 := (((((R5.al _).al _).al _).al _).al _).below hb8 | replace R5 := ((((((R5.al _).al _).al _).al _).al _).al _).below hb8); (first | replace F3 := F3.below hb8 | replace F3 := (F3.al _).below hb8 | replace F3 := ((F3.al _).al _).below hb8 | replace F3 := (((F3.al _).al _).al _).below hb8 | replace F3 := ((((F3.al _).al _).al _).al _).below hb8 | replace F3 := (((((F3.al _).al _).al _).al _).al _).below hb8 | replace F3 := ((((((F3.al _).al _).al _).al _).al _).al _).below hb8); (first | replace F4 := F4.below hb8 | replace F4 := (F4.al _).below hb8 | replace F4 := ((F4.al _).al _).below hb8 | replace F4 := (((F4.al _).al _).al _).below hb8 | replace F4 := ((((F4.al _).al _).al _).al _).below hb8 | replace F4 := (((((F4.al _).al _).al _).al _).al _).below hb8 | replace F4 := ((((((F4.al _).al _).al _).al _).al _).al _).below hb8); (first | replace F5 := F5.below hb8 | replace F5 := (F5.al _).below hb8 | replace F5 := ((F5.al _).al _).below hb8 | replace F5 := (((F5.al _).al _).al _).below hb8 | replace F5 := ((((F5.al _).al _).al _).al _).below hb8 | replace F5 := (((((F5.al _).al _).al _).al _).al _).below hb8 | replace F5 := ((((((F5.al _).al _).al _).al _).al _).al _).below hb8); (first | replace F6 := F6.below hb8 | replace F6 := (F6.al _).below hb8 | replace F6 := ((F6.al _).al _).below hb8 | replace F6 := (((F6.al _).al _).al _).below hb8 | replace F6 := ((((F6.al _).al _).al _).al _).below hb8 | replace F6 := (((((F6.al _).al _).al _).al _).al _).below hb8 | replace F6 := ((((((F6.al _).al _).al _).al _).al _).al _).below hb8); (first | replace F7 := F7.below hb8 | replace F7 := (F7.al _).below hb8 | replace F7 := ((F7.al _).al _).below hb8 | replace F7 := (((F7.al _).al _).al _).below hb8 | replace F7 := ((((F7.al _).al _).al _).al _).below hb8 | replace F7 := (((((F7.al _).al _).al _).al _).al _).below hb8 | replace F7 := ((((((F7.al _).al _).al _).al _).al _).al _).below hb8))
            have F8 := Has.new w8 0 0 24
            have R5 := R5.al (.cells #[.int .i64 0, .int .i64 0] 24)
            have F3 := F3.al (.cells #[.int .i64 0, .int .i64 0] 24)
            have F4 := F4.al (.cells #[.int .i64 0, .int .i64 0] 24)
            have F5 := F5.al (.cells #[.int .i64 0, .int .i64 0] 24)
            have F6 := F6.al (.cells #[.int .i64 0, .int .i64 0] 24)
            have F7 := F7.al (.cells #[.int .i64 0, .int .i64 0] 24)
            obtain ⟨l3, c30, c31, f30, f31⟩ := id F3
            obtain ⟨l4, c40, c41, f40, f41⟩ := id F4
            obtain ⟨l5, c50, c51, f50, f51⟩ := id F5
            obtain ⟨l6, c60, c61, f60, f61⟩ := id F6
            obtain ⟨l7, c70, c71, f70, f71⟩ := id F7
            obtain ⟨l8, c80, c81, f80, f81⟩ := id F8
            obtain ⟨b9, o9, rfl, hl9, hc9⟩ := rd_cell R5 (i := g.length - 1) (by omega)
            rw [HLAST.out] at hc9
            have e1 : (g.length : Int) - 1 = ((g.length - 1 : Nat) : Int) := by omega
            have hlt9 : g.length - 1 < g.length := by omega
            have z1 := GF.z_one
            clear F3 F4 F5 F6 F7 F8
            rw [show ([] : List GF).length = 0 from rfl]
            go_wp2_with (go_at_call 17; refine (expanded_any _).mono ?_; rintro e w' ⟨rfl, hb9⟩)
            go_ret
            exact ⟨rfl, Bw.step (Bw.al BW _) hb9⟩
end Go.Proofs.Ytpkaaiefnabfbaa
