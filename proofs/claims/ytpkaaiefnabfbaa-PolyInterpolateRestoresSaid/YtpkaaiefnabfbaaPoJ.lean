/- The walks of the statements PolyValuesMultiply and PolyProductRule. -/
import Derived.Test.YtpkaaiefnabfbaaPoI
namespace Go.Proofs.Ytpkaaiefnabfbaa
open Go.RowKit
set_option linter.unusedVariables false

theorem ofF_len (n : Nat) (f : PS) : (ofF n f).length ≤ n := by
  have := trim_len_le ((List.range n).map f)
  rw [List.length_map, List.length_range] at this
  exact this
theorem sumP_len (a b : List GF) : (sumP a b).length ≤ max a.length b.length := ofF_len _ _
theorem prodP_len (a b : List GF) : (prodP a b).length ≤ a.length + b.length := ofF_len _ _
theorem derP_len (a : List GF) : (derP a).length ≤ a.length := Nat.le_trans (ofF_len _ _) (Nat.sub_le _ _)
set_option maxRecDepth 100000 in
set_option maxHeartbeats 2000000 in
theorem walkPolyValuesMultiply (A : Option Addr) (n c : Nat) (zs : List Int) (B : Option Addr) (m d : Nat) (ys : List Int) (x : Int) (w : World) (w0 : IsRow .u8 w A n c zs) (w1 : IsRow .u8 w B m d ys) (w2 : (Lit.int .u8 x).wf = true) :
    Calls Try.prog 7 #[.slice A n c, .slice B m d, .int .u8 x] w fun e w' => e = .returned (.bool true) ∧ Below w.heap.size w w' := by
  obtain ⟨x, rfl⟩ := GF.of_z (wfu8 w2)
  obtain ⟨a, RA, hn, hc⟩ := w0.bytes2
  obtain ⟨b, RB, hm, hd⟩ := w1.bytes2
  clear w0 w1 w2
  have la := RA.1
  have lb := RB.1
  subst la lb
  by_cases hok : a.length ≤ 250 ∧ b.length ≤ 250
  · obtain ⟨h1, h2⟩ := hok
    have pl := prodP_len a b
    have sl := sumP_len a b
    have VP := Lib.hid (valL_prod a b x)
    have VS := Lib.hid (valL_sum a b x)
    have BW := Below.refl w.heap.size w
    go_enter Try.func7, Try.ntmps7
    go_wp2_with fail
    refine (poMulP_ok _ _ _ _ _ _ _ _ _ RA RB (by omega) (by omega)).mono ?_; rintro e w1 ⟨A1, c1, rfl, ho1, hb1⟩
    have R1 := ho1.rd.1
    clear ho1
    ((first | replace BW := Bw.step BW hb1 | replace BW := Bw.step (Bw.al BW _) hb1 | replace BW := Bw.step (Bw.al (Bw.al BW _) _) hb1 | replace BW := Bw.step (Bw.al (Bw.al (Bw.al BW _) _) _) hb1 | replace BW := Bw.step (Bw.al (Bw.al (Bw.al (Bw.al BW _) _) _) _) hb1 | replace BW := Bw.step (Bw.al (Bw.al (Bw.al (Bw.al (Bw.al BW _) _) _) _) _) hb1 | replace BW := Bw.step (Bw.al (Bw.al (Bw.al (Bw.al (Bw.al (Bw.al BW _) _) _) _) _) _) hb1); (first | replace RA := RA.below hb1 | replace RA := (RA.al _).below hb1 | replace RA := ((RA.al _).al _).below hb1 | replace RA := (((RA.al _).al _).al _).below hb1 | replace RA := ((((RA.al _).al _).al _).al _).below hb1 | replace RA := (((((RA.al _).al _).al _).al _).al _).below hb1 | replace RA := ((((((RA.al _).al _).al _).al _).al _).al _).below hb1); (first | replace RB := RB.below hb1 | replace RB := (RB.al _).below hb1 | replace RB := ((RB.al _).al _).below hb1 | replace RB := (((RB.al _).al _).al _).below hb1 | replace RB := ((((RB.al _).al _).al _).al _).below hb1 | replace RB := (((((RB.al _).al _).al _).al _).al _).below hb1 | replace RB := ((((((RB.al _).al _).al _).al _).al _).al _).below hb1))
    have F1 := Has.new w1 0 0 24
    go_wp2_with fail
    refine (poAddP_ok _ _ _ _ _ _ _ _ _ (RA.al _) (RB.al _) (by omega) (by omega)).mono ?_; rintro e w2 ⟨A2, c2, rfl, ho2, hb2⟩
    have R2 := ho2.rd.1
    clear ho2
    ((first | replace BW := Bw.step BW hb2 | replace BW := Bw.step (Bw.al BW _) hb2 | replace BW := Bw.step (Bw.al (Bw.al BW _) _) hb2 | replace BW := Bw.step (Bw.al (Bw.al (Bw.al BW _) _) _) hb2 | replace BW := Bw.step (Bw.al (Bw.al (Bw.al (Bw.al BW _) _) _) _) hb2 | replace BW := Bw.step (Bw.al (Bw.al (Bw.al (Bw.al (Bw.al BW _) _) _) _) _) hb2 | replace BW := Bw.step (Bw.al (Bw.al (Bw.al (Bw.al (Bw.al (Bw.al BW _) _) _) _) _) _) hb2); (first | replace RA := RA.below hb2 | replace RA := (RA.al _).below hb2 | replace RA := ((RA.al _).al _).below hb2 | replace RA := (((RA.al _).al _).al _).below hb2 | replace RA := ((((RA.al _).al _).al _).al _).below hb2 | replace RA := (((((RA.al _).al _).al _).al _).al _).below hb2 | replace RA := ((((((RA.al _).al _).al _).al _).al _).al _).below hb2); (first | replace RB := RB.below hb2 | replace RB := (RB.al _).below hb2 | replace RB := ((RB.al _).al _).below hb2 | replace RB := (((RB.al _).al _).al _).below hb2 | replace RB := ((((RB.al _).al _).al _).al _).below hb2 | replace RB := (((((RB.al _).al _).al _).al _).al _).below hb2 | replace RB := ((((((RB.al _).al _).al _).al _).al _).al _).below hb2); (first | replace R1 := R1.below hb2 | replace R1 := (R1.al _).below hb2 | replace R1 := ((R1.al _).al _).below hb2 | replace R1 := (((R1.al _).al _).al _).below hb2 | replace R1 := ((((R1.al _).al _).al _).al _).below hb2 | replace R1 := (((((R1.al _).al _).al _).al _).al _).below hb2 | replace R1 := ((((((R1.al _).al _).al _).al _).al _).al _).below hb2); (first | replace F1 := F1.below hb2 | replace F1 := (F1.al _).below hb2 | replace F1 := ((F1.al _).al _).below hb2 | replace F1 := (((F1.al _).al _).al _).below hb2 | replace F1 := ((((F1.al _).al _).al _).al _).below hb2 | replace F1 := (((((F1.al _).al _).al _).al _).al _).below hb2 | replace F1 := ((((((F1.al _).al _).al _).al _).al _).al _).below hb2))
    have F2 := Has.new w2 0 0 24
    go_wp2_with fail
    refine (poValueP_ok _ _ _ _ _ _ (RA.al _) (by omega)).mono ?_; rintro e w3 ⟨rfl, hb3⟩
    ((first | replace BW := Bw.step BW hb3 | replace BW := Bw.step (Bw.al BW _) hb3 | replace BW := Bw.step (Bw.al (Bw.al BW _) _) hb3 | replace BW := Bw.step (Bw.al (Bw.al (Bw.al BW _) _) _) hb3 | replace BW := Bw.step (Bw.al (Bw.al (Bw.al (Bw.al BW _) _) _) _) hb3 | replace BW := Bw.step (Bw.al (Bw.al (Bw.al (Bw.al (Bw.al BW _) _) _) _) _) hb3 | replace BW := Bw.step (Bw.al (Bw.al (Bw.al (Bw.al (Bw.al (Bw.al BW _) _) _) _) _) _) hb3); (first | replace RB := RB.below hb3 | replace RB := (RB.al _).below hb3 | replace RB := ((RB.al _).al _).below hb3 | replace RB := (((RB.al _).al _).al _).below hb3 | replace RB := ((((RB.al _).al _).al _).al _).below hb3 | replace RB := (((((RB.al _).al _).al _).al _).al _).below hb3 | replace RB := ((((((RB.al _).al _).al _).al _).al _).al _).below hb3); (first | replace R1 := R1.below hb3 | replace R1 := (R1.al _).below hb3 | replace R1 := ((R1.al _).al _).below hb3 | replace R1 := (((R1.al _).al _).al _).below hb3 | replace R1 := ((((R1.al _).al _).al _).al _).below hb3 | replace R1 := (((((R1.al _).al _).al _).al _).al _).below hb3 | replace R1 := ((((((R1.al _).al _).al _).al _).al _).al _).below hb3); (first | replace R2 := R2.below hb3 | replace R2 := (R2.al _).below hb3 | replace R2 := ((R2.al _).al _).below hb3 | replace R2 := (((R2.al _).al _).al _).below hb3 | replace R2 := ((((R2.al _).al _).al _).al _).below hb3 | replace R2 := (((((R2.al _).al _).al _).al _).al _).below hb3 | replace R2 := ((((((R2.al _).al _).al _).al _).al _).al _).below hb3); (first | replace F1 := F1.below hb3 | replace F1 := (F1.al _).below hb3 | replace F1 := ((F1.al _).al _).below hb3 | replace F1 := (((F1.al _).al _).al _).below hb3 | replace F1 := ((((F1.al _).al _).al _).al _).below hb3 | replace F1 := (((((F1.al _).al _).al _).al _).al _).below hb3 | replace F1 := ((((((F1.al _).al _).al _).al _).al _).al _).below hb3); (first | replace F2 := F2.below hb3 | replace F2 := (F2.al _).below hb3 | replace F2 := ((F2.al _).al _).below hb3 | replace F2 := (((F2.al _).al _).al _).below hb3 | replace F2 := ((((F2.al _).al _).al _).al _).below hb3 | replace F2 := (((((F2.al _).al _).al _).al _).al _).below hb3 | replace F2 := ((((((F2.al _).al _).al _).al _).al _).al _).below hb3))
    have F3 := Has.new w3 0 0 24
    go_wp2_with fail
    refine (poValueP_ok _ _ _ _ _ _ (RB.al _) (by omega)).mono ?_; rintro e w4 ⟨rfl, hb4⟩
    ((first | replace BW := Bw.step BW hb4 | replace BW := Bw.step (Bw.al BW _) hb4 | replace BW := Bw.step (Bw.al (Bw.al BW _) _) hb4 | replace BW := Bw.step (Bw.al (Bw.al (Bw.al BW _) _) _) hb4 | replace BW := Bw.step (Bw.al (Bw.al (Bw.al (Bw.al BW _) _) _) _) hb4 | replace BW := Bw.step (Bw.al (Bw.al (Bw.al (Bw.al (Bw.al BW _) _) _) _) _) hb4 | replace BW := Bw.step (Bw.al (Bw.al (Bw.al (Bw.al (Bw.al (Bw.al BW _) _) _) _) _) _) hb4); (first | replace R1 := R1.below hb4 | replace R1 := (R1.al _).below hb4 | replace R1 := ((R1.al _).al _).below hb4 | replace R1 := (((R1.al _).al _).al _).below hb4 | replace R1 := ((((R1.al _).al _).al _).al _).below hb4 | replace R1 := (((((R1.al _).al _).al _).al _).al _).below hb4 | replace R1 := ((((((R1.al _).al _).al _).al _).al _).al _).below hb4); (first | replace R2 := R2.below hb4 | replace R2 := (R2.al _).below hb4 | replace R2 := ((R2.al _).al _).below hb4 | replace R2 := (((R2.al _).al _).al _).below hb4 | replace R2 := ((((R2.al _).al _).al _).al _).below hb4 | replace R2 := (((((R2.al _).al _).al _).al _).al _).below hb4 | replace R2 := ((((((R2.al _).al _).al _).al _).al _).al _).below hb4); (first | replace F1 := F1.below hb4 | replace F1 := (F1.al _).below hb4 | replace F1 := ((F1.al _).al _).below hb4 | replace F1 := (((F1.al _).al _).al _).below hb4 | replace F1 := ((((F1.al _).al _).al _).al _).below hb4 | replace F1 := (((((F1.al _).al _).al _).al _).al _).below hb4 | replace F1 := ((((((F1.al _).al _).al _).al _).al _).al _).below hb4); (first | replace F2 := F2.below hb4 | replace F2 := (F2.al _).below hb4 | replace F2 := ((F2.al _).al _).below hb4 | replace F2 := (((F2.al _).al _).al _).below hb4 | replace F2 := ((((F2.al _).al _).al _).al _).below hb4 | replace F2 := (((((F2.al _).al _).al _).al _).al _).below hb4 | replace F2 := ((((((F2.al _).al _).al _).al _).al _).al _).below hb4); (first | replace F3 := F3.below hb4 | replace F3 := (F3.al _).below hb4 | replace F3 := ((F3.al _).al _).below hb4 | replace F3 := (((F3.al _).al _).al _).below hb4 | replace F3 := ((((F3.al _).al _).al _).al _).below hb4 | replace F3 := (((((F3.al _).al _).al _).al _).al _).below hb4 | replace F3 := ((((((F3.al _).al _).al _).al _).al _).al _).below hb4))
    have F4 := Has.new w4 0 0 24
    go_wp2_with fail
    refine (poValueP_ok _ _ _ _ _ _ (R1.al _) (by omega)).mono ?_
    rw [VP.out]
    rintro e w5 ⟨rfl, hb5⟩
    ((first | replace BW := Bw.step BW hb5 | replace BW := Bw.step (Bw.al BW _) hb5 | replace BW := Bw.step (Bw.al (Bw.al BW _) _) hb5 | replace BW := Bw.step (Bw.al (Bw.al (Bw.al BW _) _) _) hb5 | replace BW := Bw.step (Bw.al (Bw.al (Bw.al (Bw.al BW _) _) _) _) hb5 | replace BW := Bw.step (Bw.al (Bw.al (Bw.al (Bw.al (Bw.al BW _) _) _) _) _) hb5 | replace BW := Bw.step (Bw.al (Bw.al (Bw.al (Bw.al (Bw.al (Bw.al BW _) _) _) _) _) _) hb5); (first | replace R2 := R2.below hb5 | replace R2 := (R2.al _).below hb5 | replace R2 := ((R2.al _).al _).below hb5 | replace R2 := (((R2.al _).al _).al _).below hb5 | replace R2 := ((((R2.al _).al _).al _).al _).below hb5 | replace R2 := (((((R2.al _).al _).al _).al _).al _).below hb5 | replace R2 := ((((((R2.al _).al _).al _).al _).al _).al _).below hb5); (first | replace F1 := F1.below hb5 | replace F1 := (F1.al _).below hb5 | replace F1 := ((F1.al _).al _).below hb5 | replace F1 := (((F1.al _).al _).al _).below hb5 | replace F1 := ((((F1.al _).al _).al _).al _).below hb5 | replace F1 := (((((F1.al _).al _).al _).al _).al _).below hb5 | replace F1 := ((((((F1.al _).al _).al _).al _).al _).al _).below hb5); (first | replace F2 := F2.below hb5 | replace F2 := (F2.al _).below hb5 | replace F2 := ((F2.al _).al _).below hb5 | replace F2 := (((F2.al _).al _).al _).below hb5 | replace F2 := ((((F2.al _).al _).al _).al _).below hb5 | replace F2 := (((((F2.al _).al _).al _).al _).al _).below hb5 | replace F2 := ((((((F2.al _).al _).al _).al _).al _).al _).below hb5); (first | replace F3 := F3.below hb5 | replace F3 := (F3.al _).below hb5 | replace F3 := ((F3.al _).al _).below hb5 | replace F3 := (((F3.al _).al _).al _).below hb5 | replace F3 := ((((F3.al _).al _).al _).al _).below hb5 | replace F3 := (((((F3.al _).al _).al _).al _).al _).below hb5 | replace F3 := ((((((F3.al _).al _).al _).al _).al _).al _).below hb5); (first | replace F4 := F4.below hb5 | replace F4 := (F4.al _).below hb5 | replace F4 := ((F4.al _).al _).below hb5 | replace F4 := (((F4.al _).al _).al _).below hb5 | replace F4 := ((((F4.al _).al _).al _).al _).below hb5 | replace F4 := (((((F4.al _).al _).al _).al _).al _).below hb5 | replace F4 := ((((((F4.al _).al _).al _).al _).al _).al _).below hb5))
    have F5 := Has.new w5 0 0 24
    go_wp2_with fail
    refine (poValueP_ok _ _ _ _ _ _ (R2.al _) (by omega)).mono ?_
    rw [VS.out]
    rintro e w6 ⟨rfl, hb6⟩
    ((first | replace BW := Bw.step BW hb6 | replace BW := Bw.step (Bw.al BW _) hb6 | replace BW := Bw.step (Bw.al (Bw.al BW _) _) hb6 | replace BW := Bw.step (Bw.al (Bw.al (Bw.al BW _) _) _) hb6 | replace BW := Bw.step (Bw.al (Bw.al (Bw.al (Bw.al BW _) _) _) _) hb6 | replace BW := Bw.step (Bw.al (Bw.al (Bw.al (Bw.al (Bw.al BW _) _) _) _) _) hb6 | replace BW := Bw.step (Bw.al (Bw.al (Bw.al (Bw.al (Bw.al (Bw.al BW _) _) _) _) _) _) hb6); (first | replace F1 := F1.below hb6 | replace F1 := (F1.al _).below hb6 | replace F1 := ((F1.al _).al _).below hb6 | replace F1 := (((F1.al _).al _).al _).below hb6 | replace F1 := ((((F1.al _).al _).al _).al _).below hb6 | replace F1 := (((((F1.al _).al _).al _).al _).al _).below hb6 | replace F1 := ((((((F1.al _).al _).al _).al _).al _).al _).below hb6); (first | replace F2 := F2.below hb6 | replace F2 := (F2.al _).below hb6 | replace F2 := ((F2.al _).al _).below hb6 | replace F2 := (((F2.al _).al _).al _).below hb6 | replace F2 := ((((F2.al _).al _).al _).al _).below hb6 | replace F2 := (((((F2.al _).al _).al _).al _).al _).below hb6 | replace F2 := ((((((F2.al _).al _).al _).al _).al _).al _).below hb6); (first | replace F3 := F3.below hb6 | replace F3 := (F3.al _).below hb6 | replace F3 := ((F3.al _).al _).below hb6 | replace F3 := (((F3.al _).al _).al _).below hb6 | replace F3 := ((((F3.al _).al _).al _).al _).below hb6 | replace F3 := (((((F3.al _).al _).al _).al _).al _).below hb6 | replace F3 := ((((((F3.al _).al _).al _).al _).al _).al _).below hb6); (first | replace F4 := F4.below hb6 | replace F4 := (F4.al _).below hb6 | replace F4 := ((F4.al _).al _).below hb6 | replace F4 := (((F4.al _).al _).al _).below hb6 | replace F4 := ((((F4.al _).al _).al _).al _).below hb6 | replace F4 := (((((F4.al _).al _).al _).al _).al _).below hb6 | replace F4 := ((((((F4.al _).al _).al _).al _).al _).al _).below hb6); (first | replace F5 := F5.below hb6 | replace F5 := (F5.al _).below hb6 | replace F5 := ((F5.al _).al _).below hb6 | replace F5 := (((F5.al _).al _).al _).below hb6 | replace F5 := ((((F5.al _).al _).al _).al _).below hb6 | replace F5 := (((((F5.al _).al _).al _).al _).al _).below hb6 | replace F5 := ((((((F5.al _).al _).al _).al _).al _).al _).below hb6))
    have F6 := Has.new w6 0 0 24
    have F1 := F1.al (.cells #[.int .i64 0, .int .i64 0] 24)
    have F2 := F2.al (.cells #[.int .i64 0, .int .i64 0] 24)
    have F3 := F3.al (.cells #[.int .i64 0, .int .i64 0] 24)
    have F4 := F4.al (.cells #[.int .i64 0, .int .i64 0] 24)
    have F5 := F5.al (.cells #[.int .i64 0, .int .i64 0] 24)
    obtain ⟨l1, c10, c11, f10, f11⟩ := id F1
    obtain ⟨l2, c20, c21, f20, f21⟩ := id F2
    obtain ⟨l3, c30, c31, f30, f31⟩ := id F3
    obtain ⟨l4, c40, c41, f40, f41⟩ := id F4
    obtain ⟨l5, c50, c51, f50, f51⟩ := id F5
    obtain ⟨l6, c60, c61, f60, f61⟩ := id F6
    generalize valL a x = va at *
    generalize valL b x = vb at *
    go_wp2_with (first
      | (go_at_call 27; refine (gMulZ _ _ _).mono ?_; rintro e w' ⟨rfl, rfl⟩)
      | (go_at_call 28; refine (gAddZ _ _ _).mono ?_; rintro e w' ⟨rfl, rfl⟩)
      | (go_at_call 17; refine (expanded_any _).mono ?_; rintro e w8 ⟨rfl, hb8⟩))
    go_ret
    exact ⟨rfl, Bw.step (Bw.al BW _) hb8⟩
  · rcases Nat.lt_or_ge 250 a.length with h | h
    all_goals
      have h2 : 250 < a.length ∨ 250 < b.length := by omega
      first | (have d1 : decide (250 < (a.length : Int)) = true := by simp only [decide_eq_true_eq]; omega) | (have d2 : 250 < b.length := by omega
                                                                                                               have d1 : decide (250 < (a.length : Int)) = false := by simp only [decide_eq_false_iff_not]; omega)
      clear h2 hok
      go_enter Try.func7, Try.ntmps7
      go_wp2_with (go_at_call 17; refine (expanded_any _).mono ?_; rintro e w' ⟨rfl, hb8⟩)
      go_ret
      exact ⟨rfl, hb8⟩
set_option maxRecDepth 100000 in
set_option maxHeartbeats 2000000 in
theorem walkPolyProductRule (A : Option Addr) (n c : Nat) (zs : List Int) (B : Option Addr) (m d : Nat) (ys : List Int) (w : World) (w0 : IsRow .u8 w A n c zs) (w1 : IsRow .u8 w B m d ys) :
    Calls Try.prog 10 #[.slice A n c, .slice B m d] w fun e w' => e = .returned (.bool true) ∧ Below w.heap.size w w' := by
  obtain ⟨a, RA, hn, hc⟩ := w0.bytes2
  obtain ⟨b, RB, hm, hd⟩ := w1.bytes2
  clear w0 w1
  have la := RA.1
  have lb := RB.1
  subst la lb
  by_cases hok : a.length ≤ 200 ∧ b.length ≤ 200
  · obtain ⟨h1, h2⟩ := hok
    have pl := prodP_len a b
    have al := derP_len a
    have bl := derP_len b
    have p1 := prodP_len (derP a) b
    have p2 := prodP_len a (derP b)
    have S1 := Lib.hid (show sameB (derP (prodP a b)) (sumP (prodP (derP a) b) (prodP a (derP b))) = true by rw [der_prod]; exact sameB_self _)
    have BW := Below.refl w.heap.size w
    go_enter Try.func10, Try.ntmps10
    go_wp2_with fail
    refine (poMulP_ok _ _ _ _ _ _ _ _ _ RA RB (by omega) (by omega)).mono ?_; rintro e w1 ⟨A1, c1, rfl, ho1, hb1⟩
    have R1 := ho1.rd.1
    clear ho1
    ((first | replace BW := Bw.step BW hb1 | replace BW := Bw.step (Bw.al BW _) hb1 | replace BW := Bw.step (Bw.al (Bw.al BW _) _) hb1 | replace BW := Bw.step (Bw.al (Bw.al (Bw.al BW _) _) _) hb1 | replace BW := Bw.step (Bw.al (Bw.al (Bw.al (Bw.al BW _) _) _) _) hb1 | replace BW := Bw.step (Bw.al (Bw.al (Bw.al (Bw.al (Bw.al BW _) _) _) _) _) hb1 | replace BW := Bw.step (Bw.al (Bw.al (Bw.al (Bw.al (Bw.al (Bw.al BW _) _) _) _) _) _) hb1); (first | replace RA := RA.below hb1 | replace RA := (RA.al _).below hb1 | replace RA := ((RA.al _).al _).below hb1 | replace RA := (((RA.al _).al _).al _).below hb1 | replace RA := ((((RA.al _).al _).al _).al _).below hb1 | replace RA := (((((RA.al _).al _).al _).al _).al _).below hb1 | replace RA := ((((((RA.al _).al _).al _).al _).al _).al _).below hb1); (first | replace RB := RB.below hb1 | replace RB := (RB.al _).below hb1 | replace RB := ((RB.al _).al _).below hb1 | replace RB := (((RB.al _).al _).al _).below hb1 | replace RB := ((((RB.al _).al _).al _).al _).below hb1 | replace RB := (((((RB.al _).al _).al _).al _).al _).below hb1 | replace RB := ((((((RB.al _).al _).al _).al _).al _).al _).below hb1))
    have F1 := Has.new w1 0 0 24
    go_wp2_with fail
    refine (poDeriveP_ok _ _ _ _ _ (R1.al _) (by omega)).mono ?_; rintro e w2 ⟨A2, c2, rfl, ho2, hb2⟩
    have R2 := ho2.rd.1
    clear ho2
    ((first | replace BW := Bw.step BW hb2 | replace BW := Bw.step (Bw.al BW _) hb2 | replace BW := Bw.step (Bw.al (Bw.al BW _) _) hb2 | replace BW := Bw.step (Bw.al (Bw.al (Bw.al BW _) _) _) hb2 | replace BW := Bw.step (Bw.al (Bw.al (Bw.al (Bw.al BW _) _) _) _) hb2 | replace BW := Bw.step (Bw.al (Bw.al (Bw.al (Bw.al (Bw.al BW _) _) _) _) _) hb2 | replace BW := Bw.step (Bw.al (Bw.al (Bw.al (Bw.al (Bw.al (Bw.al BW _) _) _) _) _) _) hb2); (first | replace RA := RA.below hb2 | replace RA := (RA.al _).below hb2 | replace RA := ((RA.al _).al _).below hb2 | replace RA := (((RA.al _).al _).al _).below hb2 | replace RA := ((((RA.al _).al _).al _).al _).below hb2 | replace RA := (((((RA.al _).al _).al _).al _).al _).below hb2 | replace RA := ((((((RA.al _).al _).al _).al _).al _).al _).below hb2); (first | replace RB := RB.below hb2 | replace RB := (RB.al _).below hb2 | replace RB := ((RB.al _).al _).below hb2 | replace RB := (((RB.al _).al _).al _).below hb2 | replace RB := ((((RB.al _).al _).al _).al _).below hb2 | replace RB := (((((RB.al _).al _).al _).al _).al _).below hb2 | replace RB := ((((((RB.al _).al _).al _).al _).al _).al _).below hb2); (first | replace F1 := F1.below hb2 | replace F1 := (F1.al _).below hb2 | replace F1 := ((F1.al _).al _).below hb2 | replace F1 := (((F1.al _).al _).al _).below hb2 | replace F1 := ((((F1.al _).al _).al _).al _).below hb2 | replace F1 := (((((F1.al _).al _).al _).al _).al _).below hb2 | replace F1 := ((((((F1.al _).al _).al _).al _).al _).al _).below hb2))
    have F2 := Has.new w2 0 0 24
    go_wp2_with fail
    refine (poDeriveP_ok _ _ _ _ _ (RA.al _) (by omega)).mono ?_; rintro e w3 ⟨A3, c3, rfl, ho3, hb3⟩
    have R3 := ho3.rd.1
    clear ho3
    ((first | replace BW := Bw.step BW hb3 | replace BW := Bw.step (Bw.al BW _) hb3 | replace BW := Bw.step (Bw.al (Bw.al BW _) _) hb3 | replace BW := Bw.step (Bw.al (Bw.al (Bw.al BW _) _) _) hb3 | replace BW := Bw.step (Bw.al (Bw.al (Bw.al (Bw.al BW _) _) _) _) hb3 | replace BW := Bw.step (Bw.al (Bw.al (Bw.al (Bw.al (Bw.al BW _) _) _) _) _) hb3 | replace BW := Bw.step (Bw.al (Bw.al (Bw.al (Bw.al (Bw.al (Bw.al BW _) _) _) _) _) _) hb3); (first | replace RA := RA.below hb3 | replace RA := (RA.al _).below hb3 | replace RA := ((RA.al _).al _).below hb3 | replace RA := (((RA.al _).al _).al _).below hb3 | replace RA := ((((RA.al _).al _).al _).al _).below hb3 | replace RA := (((((RA.al _).al _).al _).al _).al _).below hb3 | replace RA := ((((((RA.al _).al _).al _).al _).al _).al _).below hb3); (first | replace RB := RB.below hb3 | replace RB := (RB.al _).below hb3 | replace RB := ((RB.al _).al _).below hb3 | replace RB := (((RB.al _).al _).al _).below hb3 | replace RB := ((((RB.al _).al _).al _).al _).below hb3 | replace RB := (((((RB.al _).al _).al _).al _).al _).below hb3 | replace RB := ((((((RB.al _).al _).al _).al _).al _).al _).below hb3); (first | replace R2 := R2.below hb3 | replace R2 := (R2.al _).below hb3 | replace R2 := ((R2.al _).al _).below hb3 | replace R2 := (((R2.al _).al _).al _).below hb3 | replace R2 := ((((R2.al _).al _).al _).al _).below hb3 | replace R2 := (((((R2.al _).al _).al _).al _).al _).below hb3 | replace R2 := ((((((R2.al _).al _).al _).al _).al _).al _).below hb3); (first | replace F1 := F1.below hb3 | replace F1 := (F1.al _).below hb3 | replace F1 := ((F1.al _).al _).below hb3 | replace F1 := (((F1.al _).al _).al _).below hb3 | replace F1 := ((((F1.al _).al _).al _).al _).below hb3 | replace F1 := (((((F1.al _).al _).al _).al _).al _).below hb3 | replace F1 := ((((((F1.al _).al _).al _).al _).al _).al _).below hb3); (first | replace F2 := F2.below hb3 | replace F2 := (F2.al _).below hb3 | replace F2 := ((F2.al _).al _).below hb3 | replace F2 := (((F2.al _).al _).al _).below hb3 | replace F2 := ((((F2.al _).al _).al _).al _).below hb3 | replace F2 := (((((F2.al _).al _).al _).al _).al _).below hb3 | replace F2 := ((((((F2.al _).al _).al _).al _).al _).al _).below hb3))
    have F3 := Has.new w3 0 0 24
    go_wp2_with fail
    refine (poDeriveP_ok _ _ _ _ _ (RB.al _) (by omega)).mono ?_; rintro e w4 ⟨A4, c4, rfl, ho4, hb4⟩
    have R4 := ho4.rd.1
    clear ho4
    ((first | replace BW := Bw.step BW hb4 | replace BW := Bw.step (Bw.al BW _) hb4 | replace BW := Bw.step (Bw.al (Bw.al BW _) _) hb4 | replace BW := Bw.step (Bw.al (Bw.al (Bw.al BW _) _) _) hb4 | replace BW := Bw.step (Bw.al (Bw.al (Bw.al (Bw.al BW _) _) _) _) hb4 | replace BW := Bw.step (Bw.al (Bw.al (Bw.al (Bw.al (Bw.al BW _) _) _) _) _) hb4 | replace BW := Bw.step (Bw.al (Bw.al (Bw.al (Bw.al (Bw.al (Bw.al BW _) _) _) _) _) _) hb4); (first | replace RA := RA.below hb4 | replace RA := (RA.al _).below hb4 | replace RA := ((RA.al _).al _).below hb4 | replace RA := (((RA.al _).al _).al _).below hb4 | replace RA := ((((RA.al _).al _).al _).al _).below hb4 | replace RA := (((((RA.al _).al _).al _).al _).al _).below hb4 | replace RA := ((((((RA.al _).al _).al _).al _).al _).al _).below hb4); (first | replace RB := RB.below hb4 | replace RB := (RB.al _).below hb4 | replace RB := ((RB.al _).al _).below hb4 | replace RB := (((RB.al _).al _).al _).below hb4 | replace RB := ((((RB.al _).al _).al _).al _).below hb4 | replace RB := (((((RB.al _).al _).al _).al _).al _).below hb4 | replace RB := ((((((RB.al _).al _).al _).al _).al _).al _).below hb4); (first | replace R2 := R2.below hb4 | replace R2 := (R2.al _).below hb4 | replace R2 := ((R2.al _).al _).below hb4 | replace R2 := (((R2.al _).al _).al _).below hb4 | replace R2 := ((((R2.al _).al _).al _).al _).below hb4 | replace R2 := (((((R2.al _).al _).al _).al _).al _).below hb4 | replace R2 := ((((((R2.al _).al _).al _).al _).al _).al _).below hb4); (first | replace R3 := R3.below hb4 | replace R3 := (R3.al _).below hb4 | replace R3 := ((R3.al _).al _).below hb4 | replace R3 := (((R3.al _).al _).al _).below hb4 | replace R3 := ((((R3.al _).al _).al _).al _).below hb4 | replace R3 := (((((R3.al _).al _).al _).al _).al _).below hb4 | replace R3 := ((((((R3.al _).al _).al _).al _).al _).al _).below hb4); (first | replace F1 := F1.below hb4 | replace F1 := (F1.al _).below hb4 | replace F1 := ((F1.al _).al _).below hb4 | replace F1 := (((F1.al _).al _).al _).below hb4 | replace F1 := ((((F1.al _).al _).al _).al _).below hb4 | replace F1 := (((((F1.al _).al _).al _).al _).al _).below hb4 | replace F1 := ((((((F1.al _).al _).al _).al _).al _).al _).below hb4); (first | replace F2 := F2.below hb4 | replace F2 := (F2.al _).below hb4 | replace F2 := ((F2.al _).al _).below hb4 | replace F2 := (((F2.al _).al _).al _).below hb4 | replace F2 := ((((F2.al _).al _).al _).al _).below hb4 | replace F2 := (((((F2.al _).al _).al _).al _).al _).below hb4 | replace F2 := ((((((F2.al _).al _).al _).al _).al _).al _).below hb4); (first | replace F3 := F3.below hb4 | replace F3 := (F3.al _).below hb4 | replace F3 := ((F3.al _).al _).below hb4 | replace F3 := (((F3.al _).al _).al _).below hb4 | replace F3 := ((((F3.al _).al _).al _).al _).below hb4 | replace F3 := (((((F3.al _).al _).al _).al _).al _).below hb4 | replace F3 := ((((((F3.al _).al _).al _).al _).al _).al _).below hb4))
    have F4 := Has.new w4 0 0 24
    go_wp2_with fail
    refine (poMulP_ok _ _ _ _ _ _ _ _ _ (R3.al _) (RB.al _) (by omega) (by omega)).mono ?_; rintro e w5 ⟨A5, c5, rfl, ho5, hb5⟩
    have R5 := ho5.rd.1
    clear ho5
    ((first | replace BW := Bw.step BW hb5 | replace BW := Bw.step (Bw.al BW _) hb5 | replace BW := Bw.step (Bw.al (Bw.al BW _) _) hb5 | replace BW := Bw.step (Bw.al (Bw.al (Bw.al BW _) _) _) hb5 | replace BW := Bw.step (Bw.al (Bw.al (Bw.al (Bw.al BW _) _) _) _) hb5 | replace BW := Bw.step (Bw.al (Bw.al (Bw.al (Bw.al (Bw.al BW _) _) _) _) _) hb5 | replace BW := Bw.step (Bw.al (Bw.al (Bw.al (Bw.al (Bw.al (Bw.al BW _) _) _) _) _) _) hb5); (first | replace RA := RA.below hb5 | replace RA := (RA.al _).below hb5 | replace RA := ((RA.al _).al _).below hb5 | replace RA := (((RA.al _).al _).al _).below hb5 | replace RA := ((((RA.al _).al _).al _).al _).below hb5 | replace RA := (((((RA.al _).al _).al _).al _).al _).below hb5 | replace RA := ((((((RA.al _).al _).al _).al _).al _).al _).below hb5); (first | replace R2 := R2.below hb5 | replace R2 := (R2.al _).below hb5 | replace R2 := ((R2.al _).al _).below hb5 | replace R2 := (((R2.al _).al _).al _).below hb5 | replace R2 := ((((R2.al _).al _).al _).al _).below hb5 | replace R2 := (((((R2.al _).al _).al _).al _).al _).below hb5 | replace R2 := ((((((R2.al _).al _).al _).al _).al _).al _).below hb5); (first | replace R4 := R4.below hb5 | replace R4 := (R4.al _).below hb5 | replace R4 := ((R4.al _).al _).below hb5 | replace R4 := (((R4.al _).al _).al _).below hb5 | replace R4 := ((((R4.al _).al _).al _).al _).below hb5 | replace R4 := (((((R4.al _).al _).al _).al _).al _).below hb5 | replace R4 := ((((((R4.al _).al _).al _).al _).al _).al _).below hb5); (first | replace F1 := F1.below hb5 | replace F1 := (F1.al _).below hb5 | replace F1 := ((F1.al _).al _).below hb5 | replace F1 := (((F1.al _).al _).al _).below hb5 | replace F1 := ((((F1.al _).al _).al _).al _).below hb5 | replace F1 := (((((F1.al _).al _).al _).al _).al _).below hb5 | replace F1 := ((((((F1.al _).al _).al _).al _).al _).al _).below hb5); (first | replace F2 := F2.below hb5 | replace F2 := (F2.al _).below hb5 | replace F2 := ((F2.al _).al _).below hb5 | replace F2 := (((F2.al _).al _).al _).below hb5 | replace F2 := ((((F2.al _).al _).al _).al _).below hb5 | replace F2 := (((((F2.al _).al _).al _).al _).al _).below hb5 | replace F2 := ((((((F2.al _).al _).al _).al _).al _).al _).below hb5); (first | replace F3 := F3.below hb5 | replace F3 := (F3.al _).below hb5 | replace F3 := ((F3.al _).al _).below hb5 | replace F3 := (((F3.al _).al _).al _).below hb5 | replace F3 := ((((F3.al _).al _).al _).al _).below hb5 | replace F3 := (((((F3.al _).al _).al _).al _).al _).below hb5 | replace F3 := ((((((F3.al _).al _).al _).al _).al _).al _).below hb5); (first | replace F4 := F4.below hb5 | replace F4 := (F4.al _).below hb5 | replace F4 := ((F4.al _).al _).below hb5 | replace F4 := (((F4.al _).al _).al _).below hb5 | replace F4 := ((((F4.al _).al _).al _).al _).below hb5 | replace F4 := (((((F4.al _).al _).al _).al _).al _).below hb5 | replace F4 := ((((((F4.al _).al _).al _).al _).al _).al _).below hb5))
    have F5 := Has.new w5 0 0 24
    go_wp2_with fail
    refine (poMulP_ok _ _ _ _ _ _ _ _ _ (RA.al _) (R4.al _) (by omega) (by omega)).mono ?_; rintro e w6 ⟨A6, c6, rfl, ho6, hb6⟩
    have R6 := ho6.rd.1
    clear ho6
    ((first | replace BW := Bw.step BW hb6 | replace BW := Bw.step (Bw.al BW _) hb6 | replace BW := Bw.step (Bw.al (Bw.al BW _) _) hb6 | replace BW := Bw.step (Bw.al (Bw.al (Bw.al BW _) _) _) hb6 | replace BW := Bw.step (Bw.al (Bw.al (Bw.al (Bw.al BW _) _) _) _) hb6 | replace BW := Bw.step (Bw.al (Bw.al (Bw.al (Bw.al (Bw.al BW _) _) _) _) _) hb6 | replace BW := Bw.step (Bw.al (Bw.al (Bw.al (Bw.al (Bw.al (Bw.al BW _) _) _) _) _) _) hb6); (first | replace R2 := R2.below hb6 | replace R2 := (R2.al _).below hb6 | replace R2 := ((R2.al _).al _).below hb6 | replace R2 := (((R2.al _).al _).al _).below hb6 | replace R2 := ((((R2.al _).al _).al _).al _).below hb6 | replace R2 := (((((R2.al _).al _).al _).al _).al _).below hb6 | replace R2 := ((((((R2.al _).al _).al _).al _).al _).al _).below hb6); (first | replace R5 := R5.below hb6 | replace R5 := (R5.al _).below hb6 | replace R5 := ((R5.al _).al _).below hb6 | replace R5 := (((R5.al _).al _).al _).below hb6 | replace R5 := ((((R5.al _).al _).al _).al _).below hb6 | replace R5 := (((((R5.al _).al _).al _).al _).al _).below hb6 | replace R5 := ((((((R5.al _).al _).al _).al _).al _).al _).below hb6); (first | replace F1 := F1.below hb6 | replace F1 := (F1.al _).below hb6 | replace F1 := ((F1.al _).al _).below hb6 | replace F1 := (((F1.al _).al _).al _).below hb6 | replace F1 := ((((F1.al _).al _).al _).al _).below hb6 | replace F1 := (((((F1.al _).al _).al _).al _).al _).below hb6 | replace F1 := ((((((F1.al _).al _).al _).al _).al _).al _).below hb6); (first | replace F2 := F2.below hb6 | replace F2 := (F2.al _).below hb6 | replace F2 := ((F2.al _).al _).below hb6 | replace F2 := (((F2.al _).al _).al _).below hb6 | replace F2 := ((((F2.al _).al _).al _).al _).below hb6 | replace F2 := (((((F2.al _).al _).al _).al _).al _).below hb6 | replace F2 := ((((((F2.al _).al _).al _).al _).al _).al _).below hb6); (first | replace F3 := F3.below hb6 | replace F3 := (F3.al _).below hb6 | replace F3 := ((F3.al _).al _).below hb6 | replace F3 := (((F3.al _).al _).al _).below hb6 | replace F3 := ((((F3.al _).al _).al _).al _).below hb6 | replace F3 := (((((F3.al _).al _).al _).al _).al _).below hb6 | replace F3 := ((((((F3.al _).al _).al _).al _).al _).al _).below hb6); (first | replace F4 := F4.below hb6 | replace F4 := (F4.al _).below hb6 | replace F4 := ((F4.al _).al _).below hb6 | replace F4 := (((F4.al _).al _).al _).below hb6 | replace F4 := ((((F4.al _).al _).al _).al _).below hb6 | replace F4 := (((((F4.al _).al _).al _).al _).al _).below hb6 | replace F4 := ((((((F4.al _).al _).al _).al _).al _).al _).below hb6); (first | replace F5 := F5.below hb6 | replace F5 := (F5.al _).below hb6 | replace F5 := ((F5.al _).al _).below hb6 | replace F5 := (((F5.al _).al _).al _).below hb6 | replace F5 := ((((F5.al _).al _).al _).al _).below hb6 | replace F5 := (((((F5.al _).al _).al _).al _).al _).below hb6 | replace F5 := ((((((F5.al _).al _).al _).al _).al _).al _).below hb6))
    have F6 := Has.new w6 0 0 24
    go_wp2_with fail
    refine (poAddP_ok _ _ _ _ _ _ _ _ _ (R5.al _) (R6.al _) (by omega) (by omega)).mono ?_; rintro e w7 ⟨A7, c7, rfl, ho7, hb7⟩
    have R7 := ho7.rd.1.al (.cells #[.int .i64 0, .int .i64 0] 24)
    clear ho7
    ((first | replace BW := Bw.step BW hb7 | replace BW := Bw.step (Bw.al BW _) hb7 | replace BW := Bw.step (Bw.al (Bw.al BW _) _) hb7 | replace BW := Bw.step (Bw.al (Bw.al (Bw.al BW _) _) _) hb7 | replace BW := Bw.step (Bw.al (Bw.al (Bw.al (Bw.al BW _) _) _) _) hb7 | replace BW := Bw.step (Bw.al (Bw.al (Bw.al (Bw.al (Bw.al BW _) _) _) _) _) hb7 | replace BW := Bw.step (Bw.al (Bw.al (Bw.al (Bw.al (Bw.al (Bw.al BW _) _) _) _) _) _) hb7); (first | replace R2 := R2.below hb7 | replace R2 := (R2.al _).below hb7 | replace R2 := ((R2.al _).al _).below hb7 | replace R2 := (((R2.al _).al _).al _).below hb7 | replace R2 := ((((R2.al _).al _).al _).al _).below hb7 | replace R2 := (((((R2.al _).al _).al _).al _).al _).below hb7 | replace R2 := ((((((R2.al _).al _).al _).al _).al _).al _).below hb7); (first | replace F1 := F1.below hb7 | replace F1 := (F1.al _).below hb7 | replace F1 := ((F1.al _).al _).below hb7 | replace F1 := (((F1.al _).al _).al _).below hb7 | replace F1 := ((((F1.al _).al _).al _).al _).below hb7 | replace F1 := (((((F1.al _).al _).al _).al _).al _).below hb7 | replace F1 := ((((((F1.al _).al _).al _).al _).al _).al _).below hb7); (first | replace F2 := F2.below hb7 | replace F2 := (F2.al _).below hb7 | replace F2 := ((F2.al _).al _).below hb7 | replace F2 := (((F2.al _).al _).al _).below hb7 | replace F2 := ((((F2.al _).al _).al _).al _).below hb7 | replace F2 := (((((F2.al _).al _).al _).al _).al _).below hb7 | replace F2 := ((((((F2.al _).al _).al _).al _).al _).al _).below hb7); (first | replace F3 := F3.below hb7 | replace F3 := (F3.al _).below hb7 | replace F3 := ((F3.al _).al _).below hb7 | replace F3 := (((F3.al _).al _).al _).below hb7 | replace F3 := ((((F3.al _).al _).al _).al _).below hb7 | replace F3 := (((((F3.al _).al _).al _).al _).al _).below hb7 | replace F3 := ((((((F3.al _).al _).al _).al _).al _).al _).below hb7); (first | replace F4 := F4.below hb7 | replace F4 := (F4.al _).below hb7 | replace F4 := ((F4.al _).al _).below hb7 | replace F4 := (((F4.al _).al _).al _).below hb7 | replace F4 := ((((F4.al _).al _).al _).al _).below hb7 | replace F4 := (((((F4.al _).al _).al _).al _).al _).below hb7 | replace F4 := ((((((F4.al _).al _).al _).al _).al _).al _).below hb7); (first | replace F5 := F5.below hb7 | replace F5 := (F5.al _).below hb7 | replace F5 := ((F5.al _).al _).below hb7 | replace F5 := (((F5.al _).al _).al _).below hb7 | replace F5 := ((((F5.al _).al _).al _).al _).below hb7 | replace F5 := (((((F5.al _).al _).al _).al _).al _).below hb7 | replace F5 := ((((((F5.al _).al _).al _).al _).al _).al _).below hb7); (first | replace F6 := F6.below hb7 | replace F6 := (F6.al _).below hb7 | replace F6 := ((F6.al _).al _).below hb7 | replace F6 := (((F6.al _).al _).al _).below hb7 | replace F6 := ((((F6.al _).al _).al _).al _).below hb7 | replace F6 := (((((F6.al _).al _).al _).al _).al _).below hb7 | replace F6 := ((((((F6.al _).al _).al _).al _).al _).al _).below hb7))
    have F7 := Has.new w7 0 0 24
    have R2 := R2.al (.cells #[.int .i64 0, .int .i64 0] 24)
    have F1 := F1.al (.cells #[.int .i64 0, .int .i64 0] 24)
    have F2 := F2.al (.cells #[.int .i64 0, .int .i64 0] 24)
    have F3 := F3.al (.cells #[.int .i64 0, .int .i64 0] 24)
    have F4 := F4.al (.cells #[.int .i64 0, .int .i64 0] 24)
    have F5 := F5.al (.cells #[.int .i64 0, .int .i64 0] 24)
    have F6 := F6.al (.cells #[.int .i64 0, .int .i64 0] 24)
    obtain ⟨l1, c10, c11, f10, f11⟩ := id F1
    obtain ⟨l2, c20, c21, f20, f21⟩ := id F2
    obtain ⟨l3, c30, c31, f30, f31⟩ := id F3
    obtain ⟨l4, c40, c41, f40, f41⟩ := id F4
    obtain ⟨l5, c50, c51, f50, f51⟩ := id F5
    obtain ⟨l6, c60, c61, f60, f61⟩ := id F6
    obtain ⟨l7, c70, c71, f70, f71⟩ := id F7
    go_wp2_with fail
    refine (refSame_any _ _ _ _ _ _ _ _ _ R2 R7).mono ?_
    rw [S1.out]
    rintro e w8 ⟨rfl, rfl⟩
    go_wp2_with (go_at_call 17; refine (expanded_any _).mono ?_; rintro e w' ⟨rfl, hb9⟩)
    go_ret
    exact ⟨rfl, Bw.step (Bw.al BW _) hb9⟩
  · rcases Nat.lt_or_ge 200 a.length with h | h
    all_goals
      have h2 : 200 < a.length ∨ 200 < b.length := by omega
      first | (have d1 : decide (200 < (a.length : Int)) = true := by simp only [decide_eq_true_eq]; omega) | (have d2 : 200 < b.length := by omega
                                                                                                               have d1 : decide (200 < (a.length : Int)) = false := by simp only [decide_eq_false_iff_not]; omega)
      clear h2 hok
      go_enter Try.func10, Try.ntmps10
      go_wp2_with (go_at_call 17; refine (expanded_any _).mono ?_; rintro e w' ⟨rfl, hb8⟩)
      go_ret
      exact ⟨rfl, hb8⟩
end Go.Proofs.Ytpkaaiefnabfbaa
