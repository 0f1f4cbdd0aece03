/- The walks of the six statements on the package gf. -/
import Derived.Test.YtnajdmkdkpmdgaaGfC
namespace Go.Proofs.Ytnajdmkdkpmdgaa
open Go.RowKit

theorem wf_u8 {a : Int} (h : (Lit.int .u8 a).wf = true) : 0 ≤ a ∧ a < 256 := by
  simp [Lit.wf, IntKind.min, IntKind.max, IntKind.signed, IntKind.bits] at h
  omega
theorem wf_i64 {a : Int} (h : (Lit.int .i64 a).wf = true) : -9223372036854775808 ≤ a ∧ a ≤ 9223372036854775807 := by
  simp [Lit.wf, IntKind.min, IntKind.max, IntKind.signed, IntKind.bits] at h
  omega
theorem gA_comm (a b : Int) : gA a b = gA b a := by unfold gA; rw [Nat.xor_comm]
theorem gA_assoc (a b c : Int) : gA (gA a b) c = gA a (gA b c) := by unfold gA; simp [Nat.xor_assoc]
theorem gA_self (a : Int) : gA a a = 0 := by unfold gA; simp
theorem gM_comm {a b : Int} (ha : 0 ≤ a ∧ a < 256) (hb : 0 ≤ b ∧ b < 256) : gM a b = gM b a := by unfold gM; rw [gm_comm (by omega) (by omega)]
theorem gM_assoc {a b c : Int} (ha : 0 ≤ a ∧ a < 256) (hb : 0 ≤ b ∧ b < 256) (hc : 0 ≤ c ∧ c < 256) : gM (gM a b) c = gM a (gM b c) := by
  unfold gM; simp only [Int.toNat_natCast]; rw [gm_assoc (by omega) (by omega) (by omega)]
theorem gM_one {a : Int} (ha : 0 ≤ a ∧ a < 256) : gM a 1 = a := by
  unfold gM; rw [show (1 : Int).toNat = 1 from rfl, gm_one_right]; omega
theorem gM_dist (a b c : Int) : gM a (gA b c) = gA (gM a b) (gM a c) := by
  unfold gM gA; simp only [Int.toNat_natCast]; rw [gm_xor_right]
theorem gM_inv {a : Int} (ha : 0 < a ∧ a < 256) : gM a (gI a) = 1 := (gM_one_iff ha (gI_bd (by omega))).2 rfl
theorem gM_zero_left (b : Int) : gM 0 b = 0 := by unfold gM; rw [show (0 : Int).toNat = 0 from rfl, gm_zero_left]; rfl
theorem gM_zero_right (b : Int) : gM b 0 = 0 := by unfold gM; rw [show (0 : Int).toNat = 0 from rfl, gm_zero_right]; rfl
theorem gM_ne {a b : Int} (ha : 0 < a ∧ a < 256) (hb : 0 < b ∧ b < 256) : 0 < gM a b := by
  unfold gM
  rcases Nat.eq_zero_or_pos (gm a.toNat b.toNat) with h | h
  · rcases gm_eq_zero (by omega) (by omega) h with h | h <;> omega
  · omega
theorem gE_gL {a : Int} (ha : 0 < a ∧ a < 256) : gE (gL a) = a := by
  unfold gL; rw [gE_nat, (gl_lt (a := a.toNat) (by omega) (by omega)).2]; omega
theorem gL_gM {a b : Int} (ha : 0 < a ∧ a < 256) (hb : 0 < b ∧ b < 256) : gL (gM a b) = (gL a + gL b) % 255 := by
  unfold gL gM; rw [Int.toNat_natCast, gl_gm (by omega) (by omega) (by omega) (by omega)]; omega

theorem tmod_mod (n : Int) : (n.tmod 255) % 255 = n % 255 := by
  have hr := tmod_red n
  have hb : -255 < n.tmod 255 := Int.lt_tmod_of_pos n (by omega)
  rw [Int.tmod_eq_emod_of_nonneg (by omega)] at hr
  omega
theorem tmod_bd (n : Int) : -255 < n.tmod 255 ∧ n.tmod 255 < 255 :=
  ⟨Int.lt_tmod_of_pos n (by omega), Int.tmod_lt_of_pos n (by omega)⟩
theorem gE_pos (n : Int) : 0 < gE n := by
  unfold gE
  have := ge_ne (n % 255).toNat
  omega
theorem gE_add (m n : Int) : gM (gE m) (gE n) = gE (m + n) := by
  unfold gE gM
  simp only [Int.toNat_natCast]
  rw [← ge_add, ← ge_mod]
  congr 3
  omega
theorem gE_neg (n : Int) : gI (gE n) = gE (-n) := by
  have h : gM (gE n) (gE (-n)) = 1 := by
    rw [gE_add, Int.add_right_neg]; decide +kernel
  exact ((gM_one_iff ⟨gE_pos n, (gE_bd n).2⟩ (gE_bd (-n))).1 h).symm

/-- A power, where it does not fail. -/
def gW (a n : Int) : Int := if n = 0 then 1 else if a = 0 then 0 else gQ a n
theorem gQ_bd {a n : Int} (ha : 0 ≤ a ∧ a < 256) : 0 ≤ gQ a n ∧ gQ a n < 256 := gP_bd ha
theorem gW_bd {a n : Int} (ha : 0 ≤ a ∧ a < 256) : 0 ≤ gW a n ∧ gW a n < 256 := by
  unfold gW
  have := gQ_bd (n := n) ha
  split
  · omega
  · split <;> omega
end Go.Proofs.Ytnajdmkdkpmdgaa
