/- The walks of the statements PolyMatchesSpec and PolyValuesMultiply. -/
import Derived.Test.YtpkaaiefnabfbaaPoF
import Derived.Test.YtpkaaiefnabfbaaRfB
namespace Go.Proofs.Ytpkaaiefnabfbaa
open Go.RowKit
set_option linter.unusedVariables false

theorem IsRow.bytes2 {w : World} {a : Option Addr} {len cap : Nat} {zs : List Int} (h : IsRow .u8 w a len cap zs) : ∃ l : List GF, RdB w a len l ∧ len ≤ 9223372036854775807 ∧ len ≤ cap := by
  obtain ⟨l, h1, h2⟩ := h.bytes
  refine ⟨l, h1, h2, ?_⟩
  rcases h with ⟨_, h3, h4, _⟩ | ⟨_, _, h3, _⟩ <;> omega
theorem lC_ne {n m : Nat} (h : ¬ (n ≤ 512 ∧ m ≤ 512)) : (lC n m != 0) = true := by rw [lC_bad h]; rfl
set_option maxRecDepth 100000 in
set_option maxHeartbeats 2000000 in
theorem walkPolyMatchesSpec (A : Option Addr) (n c : Nat) (zs : List Int) (B : Option Addr) (m d : Nat) (ys : List Int) (w : World) (w0 : IsRow .u8 w A n c zs) (w1 : IsRow .u8 w B m d ys) :
    Calls Try.prog 6 #[.slice A n c, .slice B m d] w fun e w' => e = .returned (.bool true) ∧ Below w.heap.size w w' := by
  obtain ⟨a, RA, hn, hc⟩ := w0.bytes2
  obtain ⟨b, RB, hm, hd⟩ := w1.bytes2
  clear w0 w1
  by_cases hok : n ≤ 512 ∧ m ≤ 512
  · obtain ⟨h1, h2⟩ := hok
    have s1 := Lib.hid (sameB_self (sumP a b))
    have s2 := Lib.hid (sameB_self (prodP a b))
    have BW := Below.refl w.heap.size w
    go_enter Try.func6, Try.ntmps6
    go_wp2_with fail
    refine (poAddP_ok _ _ _ _ _ _ _ _ _ RA RB h1 h2).mono ?_; rintro e w1 ⟨A1, c1, rfl, ho1, hb1⟩
    have R1 := ho1.rd.1
    clear ho1
    ((first | replace BW := Bw.step BW hb1 | replace BW := Bw.step (Bw.al BW _) hb1 | replace BW := Bw.step (Bw.al (Bw.al BW _) _) hb1 | replace BW := Bw.step (Bw.al (Bw.al (Bw.al BW _) _) _) hb1 | replace BW := Bw.step (Bw.al (Bw.al (Bw.al (Bw.al BW _) _) _) _) hb1 | replace BW := Bw.step (Bw.al (Bw.al (Bw.al (Bw.al (Bw.al BW _) _) _) _) _) hb1 | replace BW := Bw.step (Bw.al (Bw.al (Bw.al (Bw.al (Bw.al (Bw.al BW _) _) _) _) _) _) hb1); (first | replace RA := RA.below hb1 | replace RA := (RA.al _).below hb1 | replace RA := ((RA.al _).al _).below hb1 | replace RA := (((RA.al _).al _).al _).below hb1 | replace RA := ((((RA.al _).al _).al _).al _).below hb1 | replace RA := (((((RA.al _).al _).al _).al _).al _).below hb1 | replace RA := ((((((RA.al _).al _).al _).al _).al _).al _).below hb1); (first | replace RB := RB.below hb1 | replace RB := (RB.al _).below hb1 | replace RB := ((RB.al _).al _).below hb1 | replace RB := (((RB.al _).al _).al _).below hb1 | replace RB := ((((RB.al _).al _).al _).al _).below hb1 | replace RB := (((((RB.al _).al _).al _).al _).al _).below hb1 | replace RB := ((((((RB.al _).al _).al _).al _).al _).al _).below hb1))
    have F1 := Has.new w1 0 0 24
    go_wp2_with fail
    refine (poMulP_ok _ _ _ _ _ _ _ _ _ (RA.al _) (RB.al _) h1 h2).mono ?_; rintro e w2 ⟨A2, c2, rfl, ho2, hb2⟩
    have R2 := ho2.rd.1
    clear ho2
    ((first | replace BW := Bw.step BW hb2 | replace BW := Bw.step (Bw.al BW _) hb2 | replace BW := Bw.step (Bw.al (Bw.al BW _) _) hb2 | replace BW := Bw.step (Bw.al (Bw.al (Bw.al BW _) _) _) hb2 | replace BW := Bw.step (Bw.al (Bw.al (Bw.al (Bw.al BW _) _) _) _) hb2 | replace BW := Bw.step (Bw.al (Bw.al (Bw.al (Bw.al (Bw.al BW _) _) _) _) _) hb2 | replace BW := Bw.step (Bw.al (Bw.al (Bw.al (Bw.al (Bw.al (Bw.al BW _) _) _) _) _) _) hb2); (first | replace RA := RA.below hb2 | replace RA := (RA.al _).below hb2 | replace RA := ((RA.al _).al _).below hb2 | replace RA := (((RA.al _).al _).al _).below hb2 | replace RA := ((((RA.al _).al _).al _).al _).below hb2 | replace RA := (((((RA.al _).al _).al _).al _).al _).below hb2 | replace RA := ((((((RA.al _).al _).al _).al _).al _).al _).below hb2); (first | replace RB := RB.below hb2 | replace RB := (RB.al _).below hb2 | replace RB := ((RB.al _).al _).below hb2 | replace RB := (((RB.al _).al _).al _).below hb2 | replace RB := ((((RB.al _).al _).al _).al _).below hb2 | replace RB := (((((RB.al _).al _).al _).al _).al _).below hb2 | replace RB := ((((((RB.al _).al _).al _).al _).al _).al _).below hb2); (first | replace R1 := R1.below hb2 | replace R1 := (R1.al _).below hb2 | replace R1 := ((R1.al _).al _).below hb2 | replace R1 := (((R1.al _).al _).al _).below hb2 | replace R1 := ((((R1.al _).al _).al _).al _).below hb2 | replace R1 := (((((R1.al _).al _).al _).al _).al _).below hb2 | replace R1 := ((((((R1.al _).al _).al _).al _).al _).al _).below hb2); (first | replace F1 := F1.below hb2 | replace F1 := (F1.al _).below hb2 | replace F1 := ((F1.al _).al _).below hb2 | replace F1 := (((F1.al _).al _).al _).below hb2 | replace F1 := ((((F1.al _).al _).al _).al _).below hb2 | replace F1 := (((((F1.al _).al _).al _).al _).al _).below hb2 | replace F1 := ((((((F1.al _).al _).al _).al _).al _).al _).below hb2))
    have F2 := Has.new w2 0 0 24
    go_wp2_with fail
    refine (long_any _ _ _ _ _ _ _ hn hm).mono ?_
    rw [(lC_ok h1 h2).1, (lC_ok h1 h2).2]
    rintro e w3 ⟨rfl, hb3⟩
    ((first | replace BW := Bw.step BW hb3 | replace BW := Bw.step (Bw.al BW _) hb3 | replace BW := Bw.step (Bw.al (Bw.al BW _) _) hb3 | replace BW := Bw.step (Bw.al (Bw.al (Bw.al BW _) _) _) hb3 | replace BW := Bw.step (Bw.al (Bw.al (Bw.al (Bw.al BW _) _) _) _) hb3 | replace BW := Bw.step (Bw.al (Bw.al (Bw.al (Bw.al (Bw.al BW _) _) _) _) _) hb3 | replace BW := Bw.step (Bw.al (Bw.al (Bw.al (Bw.al (Bw.al (Bw.al BW _) _) _) _) _) _) hb3); (first | replace RA := RA.below hb3 | replace RA := (RA.al _).below hb3 | replace RA := ((RA.al _).al _).below hb3 | replace RA := (((RA.al _).al _).al _).below hb3 | replace RA := ((((RA.al _).al _).al _).al _).below hb3 | replace RA := (((((RA.al _).al _).al _).al _).al _).below hb3 | replace RA := ((((((RA.al _).al _).al _).al _).al _).al _).below hb3); (first | replace RB := RB.below hb3 | replace RB := (RB.al _).below hb3 | replace RB := ((RB.al _).al _).below hb3 | replace RB := (((RB.al _).al _).al _).below hb3 | replace RB := ((((RB.al _).al _).al _).al _).below hb3 | replace RB := (((((RB.al _).al _).al _).al _).al _).below hb3 | replace RB := ((((((RB.al _).al _).al _).al _).al _).al _).below hb3); (first | replace R1 := R1.below hb3 | replace R1 := (R1.al _).below hb3 | replace R1 := ((R1.al _).al _).below hb3 | replace R1 := (((R1.al _).al _).al _).below hb3 | replace R1 := ((((R1.al _).al _).al _).al _).below hb3 | replace R1 := (((((R1.al _).al _).al _).al _).al _).below hb3 | replace R1 := ((((((R1.al _).al _).al _).al _).al _).al _).below hb3); (first | replace R2 := R2.below hb3 | replace R2 := (R2.al _).below hb3 | replace R2 := ((R2.al _).al _).below hb3 | replace R2 := (((R2.al _).al _).al _).below hb3 | replace R2 := ((((R2.al _).al _).al _).al _).below hb3 | replace R2 := (((((R2.al _).al _).al _).al _).al _).below hb3 | replace R2 := ((((((R2.al _).al _).al _).al _).al _).al _).below hb3); (first | replace F1 := F1.below hb3 | replace F1 := (F1.al _).below hb3 | replace F1 := ((F1.al _).al _).below hb3 | replace F1 := (((F1.al _).al _).al _).below hb3 | replace F1 := ((((F1.al _).al _).al _).al _).below hb3 | replace F1 := (((((F1.al _).al _).al _).al _).al _).below hb3 | replace F1 := ((((((F1.al _).al _).al _).al _).al _).al _).below hb3); (first | replace F2 := F2.below hb3 | replace F2 := (F2.al _).below hb3 | replace F2 := ((F2.al _).al _).below hb3 | replace F2 := (((F2.al _).al _).al _).below hb3 | replace F2 := ((((F2.al _).al _).al _).al _).below hb3 | replace F2 := (((((F2.al _).al _).al _).al _).al _).below hb3 | replace F2 := ((((((F2.al _).al _).al _).al _).al _).al _).below hb3))
    have F3 := Has.new w3 0 0 24
    have F1 := F1.al (.cells #[.int .i64 0, .int .i64 0] 24)
    have F2 := F2.al (.cells #[.int .i64 0, .int .i64 0] 24)
    obtain ⟨l1, c10, c11, f10, f11⟩ := id F1
    obtain ⟨l2, c20, c21, f20, f21⟩ := id F2
    obtain ⟨l3, c30, c31, f30, f31⟩ := id F3
    go_wp2_with fail
    refine (rSum_any _ _ _ _ _ _ _ _ _ (RA.al _) (RB.al _) (by omega) (by omega)).mono ?_; rintro e w4 ⟨A4, c4, rfl, ho4, hb4⟩
    ((first | replace BW := Bw.step BW hb4 | replace BW := Bw.step (Bw.al BW _) hb4 | replace BW := Bw.step (Bw.al (Bw.al BW _) _) hb4 | replace BW := Bw.step (Bw.al (Bw.al (Bw.al BW _) _) _) hb4 | replace BW := Bw.step (Bw.al (Bw.al (Bw.al (Bw.al BW _) _) _) _) hb4 | replace BW := Bw.step (Bw.al (Bw.al (Bw.al (Bw.al (Bw.al BW _) _) _) _) _) hb4 | replace BW := Bw.step (Bw.al (Bw.al (Bw.al (Bw.al (Bw.al (Bw.al BW _) _) _) _) _) _) hb4); (first | replace RA := RA.below hb4 | replace RA := (RA.al _).below hb4 | replace RA := ((RA.al _).al _).below hb4 | replace RA := (((RA.al _).al _).al _).below hb4 | replace RA := ((((RA.al _).al _).al _).al _).below hb4 | replace RA := (((((RA.al _).al _).al _).al _).al _).below hb4 | replace RA := ((((((RA.al _).al _).al _).al _).al _).al _).below hb4); (first | replace RB := RB.below hb4 | replace RB := (RB.al _).below hb4 | replace RB := ((RB.al _).al _).below hb4 | replace RB := (((RB.al _).al _).al _).below hb4 | replace RB := ((((RB.al _).al _).al _).al _).below hb4 | replace RB := (((((RB.al _).al _).al _).al _).al _).below hb4 | replace RB := ((((((RB.al _).al _).al _).al _).al _).al _).below hb4); (first | replace R1 := R1.below hb4 | replace R1 := (R1.al _).below hb4 | replace R1 := ((R1.al _).al _).below hb4 | replace R1 := (((R1.al _).al _).al _).below hb4 | replace R1 := ((((R1.al _).al _).al _).al _).below hb4 | replace R1 := (((((R1.al _).al _).al _).al _).al _).below hb4 | replace R1 := ((((((R1.al _).al _).al _).al _).al _).al _).below hb4); (first | replace R2 := R2.below hb4 | replace R2 := (R2.al _).below hb4 | replace R2 := ((R2.al _).al _).below hb4 | replace R2 := (((R2.al _).al _).al _).below hb4 | replace R2 := ((((R2.al _).al _).al _).al _).below hb4 | replace R2 := (((((R2.al _).al _).al _).al _).al _).below hb4 | replace R2 := ((((((R2.al _).al _).al _).al _).al _).al _).below hb4))
    go_wp2_with fail
    refine (refSame_any _ _ _ _ _ _ _ _ _ R1 ho4.rd.1).mono ?_
    rw [s1.out]
    rintro e w5 ⟨rfl, rfl⟩
    clear ho4
    go_wp2_with fail
    refine (rProd_any _ _ _ _ _ _ _ _ _ RA RB (by omega) (by omega)).mono ?_; rintro e w6 ⟨A6, c6, rfl, ho6, hb6⟩
    ((first | replace BW := Bw.step BW hb6 | replace BW := Bw.step (Bw.al BW _) hb6 | replace BW := Bw.step (Bw.al (Bw.al BW _) _) hb6 | replace BW := Bw.step (Bw.al (Bw.al (Bw.al BW _) _) _) hb6 | replace BW := Bw.step (Bw.al (Bw.al (Bw.al (Bw.al BW _) _) _) _) hb6 | replace BW := Bw.step (Bw.al (Bw.al (Bw.al (Bw.al (Bw.al BW _) _) _) _) _) hb6 | replace BW := Bw.step (Bw.al (Bw.al (Bw.al (Bw.al (Bw.al (Bw.al BW _) _) _) _) _) _) hb6); (first | replace R2 := R2.below hb6 | replace R2 := (R2.al _).below hb6 | replace R2 := ((R2.al _).al _).below hb6 | replace R2 := (((R2.al _).al _).al _).below hb6 | replace R2 := ((((R2.al _).al _).al _).al _).below hb6 | replace R2 := (((((R2.al _).al _).al _).al _).al _).below hb6 | replace R2 := ((((((R2.al _).al _).al _).al _).al _).al _).below hb6))
    go_wp2_with fail
    refine (refSame_any _ _ _ _ _ _ _ _ _ R2 ho6.rd.1).mono ?_
    rw [s2.out]
    rintro e w7 ⟨rfl, rfl⟩
    clear ho6
    go_wp2_with fail
    refine (expanded_any _).mono ?_; rintro e w8 ⟨rfl, hb8⟩
    ((first | replace BW := Bw.step BW hb8 | replace BW := Bw.step (Bw.al BW _) hb8 | replace BW := Bw.step (Bw.al (Bw.al BW _) _) hb8 | replace BW := Bw.step (Bw.al (Bw.al (Bw.al BW _) _) _) hb8 | replace BW := Bw.step (Bw.al (Bw.al (Bw.al (Bw.al BW _) _) _) _) hb8 | replace BW := Bw.step (Bw.al (Bw.al (Bw.al (Bw.al (Bw.al BW _) _) _) _) _) hb8 | replace BW := Bw.step (Bw.al (Bw.al (Bw.al (Bw.al (Bw.al (Bw.al BW _) _) _) _) _) _) hb8))
    go_wp2
    go_ret
    exact ⟨rfl, BW⟩
  · have hne := Lib.hid (lC_bad hok)
    have BW := Below.refl w.heap.size w
    go_enter Try.func6, Try.ntmps6
    go_wp2_with fail
    refine (poAddP_bad _ _ _ _ _ _ _ hn hm hok).mono ?_; rintro e w1 ⟨rfl, hb1⟩
    ((first | replace BW := Bw.step BW hb1 | replace BW := Bw.step (Bw.al BW _) hb1 | replace BW := Bw.step (Bw.al (Bw.al BW _) _) hb1 | replace BW := Bw.step (Bw.al (Bw.al (Bw.al BW _) _) _) hb1 | replace BW := Bw.step (Bw.al (Bw.al (Bw.al (Bw.al BW _) _) _) _) hb1 | replace BW := Bw.step (Bw.al (Bw.al (Bw.al (Bw.al (Bw.al BW _) _) _) _) _) hb1 | replace BW := Bw.step (Bw.al (Bw.al (Bw.al (Bw.al (Bw.al (Bw.al BW _) _) _) _) _) _) hb1))
    have F1 := Has.new w1 3 (lI n m) 24
    go_wp2_with fail
    refine (poMulP_bad _ _ _ _ _ _ _ hn hm hok).mono ?_; rintro e w2 ⟨rfl, hb2⟩
    ((first | replace BW := Bw.step BW hb2 | replace BW := Bw.step (Bw.al BW _) hb2 | replace BW := Bw.step (Bw.al (Bw.al BW _) _) hb2 | replace BW := Bw.step (Bw.al (Bw.al (Bw.al BW _) _) _) hb2 | replace BW := Bw.step (Bw.al (Bw.al (Bw.al (Bw.al BW _) _) _) _) hb2 | replace BW := Bw.step (Bw.al (Bw.al (Bw.al (Bw.al (Bw.al BW _) _) _) _) _) hb2 | replace BW := Bw.step (Bw.al (Bw.al (Bw.al (Bw.al (Bw.al (Bw.al BW _) _) _) _) _) _) hb2); (first | replace F1 := F1.below hb2 | replace F1 := (F1.al _).below hb2 | replace F1 := ((F1.al _).al _).below hb2 | replace F1 := (((F1.al _).al _).al _).below hb2 | replace F1 := ((((F1.al _).al _).al _).al _).below hb2 | replace F1 := (((((F1.al _).al _).al _).al _).al _).below hb2 | replace F1 := ((((((F1.al _).al _).al _).al _).al _).al _).below hb2))
    have F2 := Has.new w2 3 (lI n m) 24
    go_wp2_with fail
    refine (long_any _ _ _ _ _ _ _ hn hm).mono ?_
    rw [hne.out]
    rintro e w3 ⟨rfl, hb3⟩
    ((first | replace BW := Bw.step BW hb3 | replace BW := Bw.step (Bw.al BW _) hb3 | replace BW := Bw.step (Bw.al (Bw.al BW _) _) hb3 | replace BW := Bw.step (Bw.al (Bw.al (Bw.al BW _) _) _) hb3 | replace BW := Bw.step (Bw.al (Bw.al (Bw.al (Bw.al BW _) _) _) _) hb3 | replace BW := Bw.step (Bw.al (Bw.al (Bw.al (Bw.al (Bw.al BW _) _) _) _) _) hb3 | replace BW := Bw.step (Bw.al (Bw.al (Bw.al (Bw.al (Bw.al (Bw.al BW _) _) _) _) _) _) hb3); (first | replace F1 := F1.below hb3 | replace F1 := (F1.al _).below hb3 | replace F1 := ((F1.al _).al _).below hb3 | replace F1 := (((F1.al _).al _).al _).below hb3 | replace F1 := ((((F1.al _).al _).al _).al _).below hb3 | replace F1 := (((((F1.al _).al _).al _).al _).al _).below hb3 | replace F1 := ((((((F1.al _).al _).al _).al _).al _).al _).below hb3); (first | replace F2 := F2.below hb3 | replace F2 := (F2.al _).below hb3 | replace F2 := ((F2.al _).al _).below hb3 | replace F2 := (((F2.al _).al _).al _).below hb3 | replace F2 := ((((F2.al _).al _).al _).al _).below hb3 | replace F2 := (((((F2.al _).al _).al _).al _).al _).below hb3 | replace F2 := ((((((F2.al _).al _).al _).al _).al _).al _).below hb3))
    have F3 := Has.new w3 3 (lI n m) 24
    have F1 := F1.al (.cells #[.int .i64 3, .int .i64 (lI n m)] 24)
    have F2 := F2.al (.cells #[.int .i64 3, .int .i64 (lI n m)] 24)
    generalize lI n m = I at *
    obtain ⟨l1, c10, c11, f10, f11⟩ := id F1
    obtain ⟨l2, c20, c21, f20, f21⟩ := id F2
    obtain ⟨l3, c30, c31, f30, f31⟩ := id F3
    go_wp2_with fail
    refine (expanded_any _).mono ?_; rintro e w8 ⟨rfl, hb8⟩
    ((first | replace BW := Bw.step BW hb8 | replace BW := Bw.step (Bw.al BW _) hb8 | replace BW := Bw.step (Bw.al (Bw.al BW _) _) hb8 | replace BW := Bw.step (Bw.al (Bw.al (Bw.al BW _) _) _) hb8 | replace BW := Bw.step (Bw.al (Bw.al (Bw.al (Bw.al BW _) _) _) _) hb8 | replace BW := Bw.step (Bw.al (Bw.al (Bw.al (Bw.al (Bw.al BW _) _) _) _) _) hb8 | replace BW := Bw.step (Bw.al (Bw.al (Bw.al (Bw.al (Bw.al (Bw.al BW _) _) _) _) _) _) hb8))
    go_wp2
    go_ret
    exact ⟨rfl, BW⟩
end Go.Proofs.Ytpkaaiefnabfbaa
