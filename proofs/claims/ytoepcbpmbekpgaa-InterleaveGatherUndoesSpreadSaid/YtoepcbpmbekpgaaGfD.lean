/- The walks of the six statements on the package gf. -/
import Derived.Test.YtoepcbpmbekpgaaGfC
namespace Go.Proofs.Ytoepcbpmbekpgaa
open Go.RowKit

theorem wf_u8 {a : Int} (h : (Lit.int .u8 a).wf = true) : 0 ≤ a ∧ a < 256 := by
  simp [Lit.wf, IntKind.min, IntKind.max, IntKind.signed, IntKind.bits] at h
  omega
theorem wf_i64 {a : Int} (h : (Lit.int .i64 a).wf = true) : -9223372036854775808 ≤ a ∧ a ≤ 9223372036854775807 := by
  simp [Lit.wf, IntKind.min, IntKind.max, IntKind.signed, IntKind.bits] at h
  omega
set_option maxHeartbeats 400000 in
theorem walkGfMatchesSpec (a b n : Int) (w : World) (w0 : (Lit.int .u8 a).wf = true) (w1 : (Lit.int .u8 b).wf = true) (_w2 : (Lit.int .i64 n).wf = true) :
    Calls Try.prog 3 #[.int .u8 a, .int .u8 b, .int .i64 n] w fun e w' => e = .returned (.bool true) ∧ Below w.heap.size w w' := by
  have ha := wf_u8 w0
  have hb := wf_u8 w1
  clear w0 w1
  have hx : bits .xor .u8 a b = gA a b := u8_xor a b ha.1 ha.2 hb.1 hb.2
  go_enter Try.func3, Try.ntmps3
  go_wp2_with (first
    | (go_at_call 17; refine (refMul_any _ _ _ (by omega) (by omega)).mono ?_; rintro e w' ⟨rfl, rfl⟩)
    | (go_at_call 19; refine (refExp_any _ _).mono ?_; rintro e w' ⟨rfl, rfl⟩)
    | (go_at_call 16; refine (gfMul_any _ _ _ (by omega) (by omega)).mono ?_; rintro e w' ⟨rfl, rfl⟩)
    | (go_at_call 18; refine (gfExp_any _ _).mono ?_; rintro e w' ⟨rfl, rfl⟩)
    | (go_at_call 15; refine (gfAdd_any _ _ _ (by omega) (by omega)).mono ?_; rintro e w' ⟨rfl, rfl⟩)
    | (go_at_call 20; refine (multiplied_any _).mono ?_; rintro e w' ⟨rfl, hb1⟩))
  go_ret
  exact ⟨rfl, hb1⟩

theorem gA_comm (a b : Int) : gA a b = gA b a := by unfold gA; rw [Nat.xor_comm]
theorem gA_assoc (a b c : Int) : gA (gA a b) c = gA a (gA b c) := by unfold gA; simp [Nat.xor_assoc]
theorem gA_self (a : Int) : gA a a = 0 := by unfold gA; simp
theorem gM_comm {a b : Int} (ha : 0 ≤ a ∧ a < 256) (hb : 0 ≤ b ∧ b < 256) : gM a b = gM b a := by unfold gM; rw [gm_comm (by omega) (by omega)]
theorem gM_assoc {a b c : Int} (ha : 0 ≤ a ∧ a < 256) (hb : 0 ≤ b ∧ b < 256) (hc : 0 ≤ c ∧ c < 256) : gM (gM a b) c = gM a (gM b c) := by
  unfold gM; simp only [Int.toNat_natCast]; rw [gm_assoc (by omega) (by omega) (by omega)]
theorem gM_one {a : Int} (ha : 0 ≤ a ∧ a < 256) : gM a 1 = a := by
  unfold gM; rw [show (1 : Int).toNat = 1 from rfl, gm_one_right]; omega
theorem gM_dist (a b c : Int) : gM a (gA b c) = gA (gM a b) (gM a c) := by
  unfold gM gA; simp only [Int.toNat_natCast]; rw [gm_xor_right]
theorem gM_inv {a : Int} (ha : 0 < a ∧ a < 256) : gM a (gI a) = 1 := (gM_one_iff ha (gI_bd (by omega))).2 rfl
theorem gM_zero_left (b : Int) : gM 0 b = 0 := by unfold gM; rw [show (0 : Int).toNat = 0 from rfl, gm_zero_left]; rfl
theorem gM_zero_right (b : Int) : gM b 0 = 0 := by unfold gM; rw [show (0 : Int).toNat = 0 from rfl, gm_zero_right]; rfl
theorem gM_ne {a b : Int} (ha : 0 < a ∧ a < 256) (hb : 0 < b ∧ b < 256) : 0 < gM a b := by
  unfold gM
  rcases Nat.eq_zero_or_pos (gm a.toNat b.toNat) with h | h
  · rcases gm_eq_zero (by omega) (by omega) h with h | h <;> omega
  · omega
theorem gE_gL {a : Int} (ha : 0 < a ∧ a < 256) : gE (gL a) = a := by
  unfold gL; rw [gE_nat, (gl_lt (a := a.toNat) (by omega) (by omega)).2]; omega
theorem gL_gM {a b : Int} (ha : 0 < a ∧ a < 256) (hb : 0 < b ∧ b < 256) : gL (gM a b) = (gL a + gL b) % 255 := by
  unfold gL gM; rw [Int.toNat_natCast, gl_gm (by omega) (by omega) (by omega) (by omega)]; omega

set_option maxHeartbeats 400000 in
theorem walkGfLogarithmsAdd (a b : Int) (w : World) (w0 : (Lit.int .u8 a).wf = true) (w1 : (Lit.int .u8 b).wf = true) :
    Calls Try.prog 4 #[.int .u8 a, .int .u8 b] w fun e w' => e = .returned (.bool true) ∧ Below w.heap.size w w' := by
  have ha := wf_u8 w0
  have hb := wf_u8 w1
  clear w0 w1
  by_cases ha0 : a = 0
  · have m0 : (gM a b == 0) = true := by rw [ha0, gM_zero_left]; rfl
    have a0 : (a == 0) = true := by simp [ha0]
    have A0 := Lib.hid ha0
    clear ha0
    by_cases hb0 : b = 0
    all_goals
      have B0 := Lib.hid hb0
      clear hb0
      go_enter Try.func4, Try.ntmps4
      go_wp2_with (first
        | (go_at_call 21; first | (refine (gfLog_any _ _ (by have := A0.out; have := B0.out; omega)).mono ?_; rintro e w1 ⟨rfl, hb1⟩; (obtain ⟨hcB, hfB⟩ := bcell hb1; try (have hzB := bsz hb1); try (have hzC := bsz2 hb1))) | (refine (gfLog_zero _ _ (by have := A0.out; have := B0.out; omega)).mono ?_; rintro e w1 ⟨rfl, hb1⟩; (obtain ⟨hcB, hfB⟩ := bcell hb1; try (have hzB := bsz hb1); try (have hzC := bsz2 hb1))))
        | (go_at_call 16; refine (gfMul_any _ _ _ (by omega) (by omega)).mono ?_; rintro e w' ⟨rfl, rfl⟩)
        | (go_at_call 20; refine (multiplied_any _).mono ?_; rintro e w' ⟨rfl, hb2⟩))
      go_ret
      exact ⟨rfl, by (repeat (first | exact Below.refl _ _ | assumption | refine Bw.al ?_ _ | refine Bw.step ?_ (by assumption) | refine Bw.drew ?_))⟩
  · by_cases hb0 : b = 0
    · have m0 : (gM a b == 0) = true := by rw [hb0, gM_zero_right]; rfl
      have a0 : (a == 0) = false := by simp [ha0]
      have b0 : (b == 0) = true := by simp [hb0]
      have A0 := Lib.hid ha0
      have B0 := Lib.hid hb0
      clear ha0 hb0
      go_enter Try.func4, Try.ntmps4
      go_wp2_with (first
        | (go_at_call 21; first | (refine (gfLog_any _ _ (by have := A0.out; have := B0.out; omega)).mono ?_; rintro e w1 ⟨rfl, hb1⟩; (obtain ⟨hcB, hfB⟩ := bcell hb1; try (have hzB := bsz hb1); try (have hzC := bsz2 hb1))) | (refine (gfLog_zero _ _ (by have := A0.out; have := B0.out; omega)).mono ?_; rintro e w1 ⟨rfl, hb1⟩; (obtain ⟨hcB, hfB⟩ := bcell hb1; try (have hzB := bsz hb1); try (have hzC := bsz2 hb1))))
        | (go_at_call 16; refine (gfMul_any _ _ _ (by omega) (by omega)).mono ?_; rintro e w' ⟨rfl, rfl⟩)
        | (go_at_call 20; refine (multiplied_any _).mono ?_; rintro e w' ⟨rfl, hb2⟩))
      go_ret
      exact ⟨rfl, by (repeat (first | exact Below.refl _ _ | assumption | refine Bw.al ?_ _ | refine Bw.step ?_ (by assumption) | refine Bw.drew ?_))⟩
    · have ha1 : 0 < a ∧ a < 256 := by omega
      have hb1 : 0 < b ∧ b < 256 := by omega
      have hm := gM_ne ha1 hb1
      have hm2 := gM_bd (b := b) ha
      have l1 := gL_bd ha1
      have l2 := gL_bd hb1
      have e1 : (gL (gM a b) == (gL a + gL b) % 255) = true := by rw [gL_gM ha1 hb1]; simp
      have e2 : (gE (gL a) == a) = true := by rw [gE_gL ha1]; simp
      have e3 : (gE (gL b) == b) = true := by rw [gE_gL hb1]; simp
      clear ha0 hb0
      go_enter Try.func4, Try.ntmps4
      go_wp2_with (first
        | (go_at_call 21; refine (gfLog_any _ _ (by omega)).mono ?_; rintro e w1 ⟨rfl, hb1⟩; (obtain ⟨hcB, hfB⟩ := bcell hb1; try (have hzB := bsz hb1); try (have hzC := bsz2 hb1)))
        | (go_at_call 16; refine (gfMul_any _ _ _ (by omega) (by omega)).mono ?_; rintro e w' ⟨rfl, rfl⟩)
        | (go_at_call 18; refine (gfExp_any _ _).mono ?_; rintro e w' ⟨rfl, rfl⟩)
        | (go_at_call 20; refine (multiplied_any _).mono ?_; rintro e w' ⟨rfl, hb2⟩))
      go_ret
      exact ⟨rfl, by (repeat (first | exact Below.refl _ _ | assumption | refine Bw.al ?_ _ | refine Bw.step ?_ (by assumption) | refine Bw.drew ?_))⟩


set_option maxHeartbeats 1000000 in
theorem walkGfIsAField (a b c : Int) (w : World) (w0 : (Lit.int .u8 a).wf = true) (w1 : (Lit.int .u8 b).wf = true) (w2 : (Lit.int .u8 c).wf = true) :
    Calls Try.prog 8 #[.int .u8 a, .int .u8 b, .int .u8 c] w fun e w' => e = .returned (.bool true) ∧ Below w.heap.size w w' := by
  have ha := wf_u8 w0
  have hb := wf_u8 w1
  have hc := wf_u8 w2
  clear w0 w1 w2
  have e1 : (gA (gA a b) c != gA a (gA b c)) = false := by rw [gA_assoc]; simp
  have e2 : (gM (gM a b) c != gM a (gM b c)) = false := by rw [gM_assoc ha hb hc]; simp
  have e3 : (gA a b != gA b a) = false := by rw [gA_comm]; simp
  have e4 : (gM a b != gM b a) = false := by rw [gM_comm ha hb]; simp
  have e5 : (gA a a != 0) = false := by rw [gA_self]; simp
  have e6 : (gM a 1 != a) = false := by rw [gM_one ha]; simp
  have e7 : (gM a (gA b c) == gA (gM a b) (gM a c)) = true := by rw [gM_dist]; simp
  have b1 := gA_bd ha hb
  have b2 := gA_bd hb hc
  have b3 := gM_bd (b := b) ha
  have b4 := gM_bd (b := c) hb
  have b5 := gM_bd (b := c) ha
  by_cases h0 : a = 0
  · have n0 : (a != 0) = false := by simp [h0]
    have H0 := Lib.hid h0
    clear h0
    go_enter Try.func8, Try.ntmps8
    go_wp2_with (first
      | (go_at_call 28; refine (gfInverse_zero _ _ H0.out).mono ?_; rintro e w1 ⟨rfl, hb1⟩; (obtain ⟨hcB, hfB⟩ := bcell hb1; try (have hzB := bsz hb1); try (have hzC := bsz2 hb1)))
      | (go_at_call 16; refine (gfMul_any _ _ _ (by omega) (by omega)).mono ?_; rintro e w' ⟨rfl, rfl⟩)
      | (go_at_call 15; refine (gfAdd_any _ _ _ (by omega) (by omega)).mono ?_; rintro e w' ⟨rfl, rfl⟩)
      | (go_at_call 20; refine (multiplied_any _).mono ?_; rintro e w' ⟨rfl, hb2⟩))
    go_ret
    exact ⟨rfl, by (repeat (first | exact Below.refl _ _ | assumption | refine Bw.al ?_ _ | refine Bw.step ?_ (by assumption) | refine Bw.drew ?_))⟩
  · have n0 : (a != 0) = true := by simp [h0]
    have i0 : 0 < a ∧ a < 256 := by omega
    have i1 : (gM a (gI a) != 1) = false := by rw [gM_inv i0]; rfl
    have b6 := gI_bd ha
    clear h0
    go_enter Try.func8, Try.ntmps8
    go_wp2_with (first
      | (go_at_call 28; refine (gfInverse_any _ _ (by omega)).mono ?_; rintro e w1 ⟨rfl, hb1⟩; (obtain ⟨hcB, hfB⟩ := bcell hb1; try (have hzB := bsz hb1); try (have hzC := bsz2 hb1)))
      | (go_at_call 16; refine (gfMul_any _ _ _ (by omega) (by omega)).mono ?_; rintro e w' ⟨rfl, rfl⟩)
      | (go_at_call 15; refine (gfAdd_any _ _ _ (by omega) (by omega)).mono ?_; rintro e w' ⟨rfl, rfl⟩)
      | (go_at_call 20; refine (multiplied_any _).mono ?_; rintro e w' ⟨rfl, hb2⟩))
    go_ret
    exact ⟨rfl, by (repeat (first | exact Below.refl _ _ | assumption | refine Bw.al ?_ _ | refine Bw.step ?_ (by assumption) | refine Bw.drew ?_))⟩

theorem tmod_mod (n : Int) : (n.tmod 255) % 255 = n % 255 := by
  have hr := tmod_red n
  have hb : -255 < n.tmod 255 := Int.lt_tmod_of_pos n (by omega)
  rw [Int.tmod_eq_emod_of_nonneg (by omega)] at hr
  omega
theorem tmod_bd (n : Int) : -255 < n.tmod 255 ∧ n.tmod 255 < 255 :=
  ⟨Int.lt_tmod_of_pos n (by omega), Int.tmod_lt_of_pos n (by omega)⟩
theorem gE_pos (n : Int) : 0 < gE n := by
  unfold gE
  have := ge_ne (n % 255).toNat
  omega
theorem gE_add (m n : Int) : gM (gE m) (gE n) = gE (m + n) := by
  unfold gE gM
  simp only [Int.toNat_natCast]
  rw [← ge_add, ← ge_mod]
  congr 3
  omega
theorem gE_neg (n : Int) : gI (gE n) = gE (-n) := by
  have h : gM (gE n) (gE (-n)) = 1 := by
    rw [gE_add, Int.add_right_neg]; decide +kernel
  exact ((gM_one_iff ⟨gE_pos n, (gE_bd n).2⟩ (gE_bd (-n))).1 h).symm

set_option maxHeartbeats 1000000 in
theorem walkGfExponentsAdd (m n : Int) (w : World) (_w0 : (Lit.int .i64 m).wf = true) (_w1 : (Lit.int .i64 n).wf = true) :
    Calls Try.prog 9 #[.int .i64 m, .int .i64 n] w fun e w' => e = .returned (.bool true) ∧ Below w.heap.size w w' := by
  have e1 : (gI (gE (m.tmod 255)) != gE (-m.tmod 255)) = false := by rw [gE_neg]; simp
  have e2 : (gM (gE m) (gE n) == gE (m.tmod 255 + n.tmod 255)) = true := by
    rw [gE_add, beq_iff_eq]
    refine gE_mod ?_
    have h1 := tmod_mod m
    have h2 := tmod_mod n
    omega
  have p1 := gE_pos (m.tmod 255)
  have b1 := gE_bd (m.tmod 255)
  have b2 := gE_bd m
  have b3 := gE_bd n
  have t1 := tmod_bd m
  have t2 := tmod_bd n
  go_enter Try.func9, Try.ntmps9
  go_wp2_with (first
    | (go_at_call 18; refine (gfExp_any _ _).mono ?_; rintro e w' ⟨rfl, rfl⟩)
    | (go_at_call 28; refine (gfInverse_any _ _ (by omega)).mono ?_; rintro e w1 ⟨rfl, hb1⟩; (obtain ⟨hcB, hfB⟩ := bcell hb1; try (have hzB := bsz hb1); try (have hzC := bsz2 hb1)))
    | (go_at_call 16; refine (gfMul_any _ _ _ (by omega) (by omega)).mono ?_; rintro e w' ⟨rfl, rfl⟩)
    | (go_at_call 20; refine (multiplied_any _).mono ?_; rintro e w' ⟨rfl, hb2⟩))
  go_ret
  exact ⟨rfl, by (repeat (first | exact Below.refl _ _ | assumption | refine Bw.al ?_ _ | refine Bw.step ?_ (by assumption) | refine Bw.drew ?_))⟩


/-- A power, where it does not fail. -/
def gW (a n : Int) : Int := if n = 0 then 1 else if a = 0 then 0 else gQ a n
theorem gfPow_ok (a n : Int) (w : World) (ha : 0 ≤ a ∧ a < 256) (h : ¬ (a = 0 ∧ n < 0)) :
    Calls Try.prog 33 #[.int .u8 a, .int .i64 n] w fun e w' => e = .returned (.tuple #[.int .u8 (gW a n), .agg #[.int .i64 0, .int .i64 0]]) ∧ Below w.heap.size w w' := by
  by_cases hn : n = 0
  · rw [show gW a n = 1 by simp [gW, hn]]; exact gfPow_zero a n w hn
  · by_cases h0 : a = 0
    · rw [show gW a n = 0 by simp [gW, hn, h0]]; exact gfPow_of_zero a n w h0 (by omega)
    · rw [show gW a n = gQ a n by simp [gW, hn, h0]]; exact gfPow_any a n w (by omega) hn
theorem refPow_ok (a n : Int) (w : World) (ha : 0 ≤ a ∧ a < 256) :
    Calls Try.prog 40 #[.int .u8 a, .int .i64 n] w fun e w' => e = .returned (.int .u8 (gW a n)) ∧ w = w' := by
  by_cases hn : n = 0
  · rw [show gW a n = 1 by simp [gW, hn]]; exact refPower_zero a n w hn
  · by_cases h0 : a = 0
    · rw [show gW a n = 0 by simp [gW, hn, h0]]; exact refPower_of_zero a n w h0 hn
    · rw [show gW a n = gQ a n by simp [gW, hn, h0]]; exact refPower_any a n w (by omega) hn
theorem gQ_bd {a n : Int} (ha : 0 ≤ a ∧ a < 256) : 0 ≤ gQ a n ∧ gQ a n < 256 := gP_bd ha
theorem gW_bd {a n : Int} (ha : 0 ≤ a ∧ a < 256) : 0 ≤ gW a n ∧ gW a n < 256 := by
  unfold gW
  have := gQ_bd (n := n) ha
  split
  · omega
  · split <;> omega
end Go.Proofs.Ytoepcbpmbekpgaa
