/- Walks of the reference's arithmetic of the field: they compute the same products, powers of the generator, logarithms and inverses. -/
import Derived.Test.YtnajdmkdkpmdgaaGfA
namespace Go.Proofs.Ytnajdmkdkpmdgaa
open Go.RowKit

/-- The product of the polynomials of the bits: k bits of b. -/
def clm (a b : Nat) : Nat → Nat
  | 0 => 0
  | k + 1 => if b / 2 ^ k % 2 = 1 then clm a b k ^^^ (a * 2 ^ k) else clm a b k
/-- One step of the reduction, and j of them. -/
def rstep (i p : Nat) : Nat := if p / 2 ^ i % 2 = 1 then p ^^^ (285 * 2 ^ (i - 8)) else p
def redFrom : Nat → Nat → Nat
  | 0, p => p
  | j + 1, p => redFrom j (rstep (8 + j) p)
theorem xor_div_pow (a b i : Nat) : (a ^^^ b) / 2 ^ i = a / 2 ^ i ^^^ b / 2 ^ i := by
  have := Nat.shiftRight_xor_distrib (i := i) (a := a) (b := b)
  simpa [Nat.shiftRight_eq_div_pow] using this
theorem rstep_xor (i p q : Nat) : rstep i (p ^^^ q) = rstep i p ^^^ rstep i q := by
  unfold rstep
  rw [xor_div_pow, xor_mod2]
  rcases Nat.mod_two_eq_zero_or_one (p / 2 ^ i) with h1 | h1 <;> rcases Nat.mod_two_eq_zero_or_one (q / 2 ^ i) with h2 | h2 <;> simp [h1, h2]
  · rw [Nat.xor_assoc]
  · rw [Nat.xor_assoc, Nat.xor_assoc, Nat.xor_comm q]
  · rw [xor_swap, Nat.xor_self, Nat.xor_zero]
theorem redFrom_xor (j : Nat) : ∀ p q, redFrom j (p ^^^ q) = redFrom j p ^^^ redFrom j q := by
  induction j with
  | zero => intros; rfl
  | succ j ih => intro p q; simp only [redFrom]; rw [rstep_xor, ih]
theorem clm_lt (a b : Nat) (ha : a < 256) : ∀ k, k ≤ 8 → clm a b k < 2 ^ 16 := by
  intro k
  induction k with
  | zero => intro _; show 0 < 2 ^ 16; decide
  | succ k ih =>
    intro hk
    unfold clm
    have h1 := ih (by omega)
    split
    · refine Nat.xor_lt_two_pow h1 ?_
      have h2 : 2 ^ k ≤ 2 ^ 7 := Nat.pow_le_pow_right (by decide) (by omega)
      calc a * 2 ^ k ≤ 255 * 2 ^ 7 := Nat.mul_le_mul (by omega) h2
        _ < 2 ^ 16 := by decide
    · exact h1
theorem rstep_lt (i p : Nat) (hi : i ≤ 15) (hp : p < 2 ^ 16) : rstep i p < 2 ^ 16 := by
  unfold rstep
  split
  · refine Nat.xor_lt_two_pow hp ?_
    have h2 : 2 ^ (i - 8) ≤ 2 ^ 7 := Nat.pow_le_pow_right (by decide) (by omega)
    calc 285 * 2 ^ (i - 8) ≤ 285 * 2 ^ 7 := Nat.mul_le_mul (Nat.le_refl _) h2
      _ < 2 ^ 16 := by decide
  · exact hp
def xts (a : Nat) : Nat → Nat
  | 0 => a
  | k + 1 => xts (xt a) k
theorem red_shift {a k : Nat} (ha : a < 256) (hk : k < 8) : redFrom 7 (a * 2 ^ k) = xts a k := by
  have h : allB 256 (fun a => allB 8 fun k => redFrom 7 (a * 2 ^ k) == xts a k) = true := by decide +kernel
  simpa using allB_of (allB_of h a ha) k hk
theorem redFrom_zero (j : Nat) : redFrom j 0 = 0 := by
  induction j with
  | zero => rfl
  | succ j ih => show redFrom j (rstep (8 + j) 0) = 0; simp [rstep, ih]
theorem xts_xt (a k : Nat) : xts (xt a) k = xt (xts a k) := by
  induction k generalizing a with
  | zero => rfl
  | succ k ih => exact ih (xt a)
theorem mulLoop_clm {a : Nat} (ha : a < 256) (b : Nat) : ∀ k, k ≤ 8 → redFrom 7 (clm a b k) = mulLoop k a b 0 := by
  have hs : ∀ n x c s t, mulLoop n x c (s ^^^ t) = mulLoop n x c s ^^^ t := fun n x c s t => by
    have := mulLoop_xor_right n x c 0 s t
    rw [mulLoop_zero, Nat.xor_zero] at this
    exact this
  have hl : ∀ k a c s, mulLoop (k + 1) a c s = if c / 2 ^ k % 2 = 1 then mulLoop k a c s ^^^ xts a k else mulLoop k a c s := by
    intro k
    induction k with
    | zero => intro a c s; simp [mulLoop, xts]
    | succ k ih =>
      intro a c s
      show mulLoop (k + 1) (xt a) (c / 2) _ = if c / 2 ^ (k + 1) % 2 = 1 then mulLoop k (xt a) (c / 2) _ ^^^ xts (xt a) k else mulLoop k (xt a) (c / 2) _
      rw [ih, Nat.pow_succ, Nat.mul_comm (2 ^ k) 2, Nat.div_div_eq_div_mul]
  intro k
  induction k with
  | zero => intro _; exact redFrom_zero 7
  | succ k ih =>
    intro hk
    have h1 := ih (by omega)
    rw [hl]
    unfold clm
    split
    · rw [redFrom_xor, h1, red_shift ha (by omega)]
    · exact h1
theorem ref_gm {a : Nat} (ha : a < 256) (b : Nat) : redFrom 7 (clm a b 8) = gm a b := by
  rw [mulLoop_clm ha b 8 (by omega)]; unfold gm; rfl

theorem cast_pow2 (k : Nat) : (2 : Int) ^ k = ((2 ^ k : Nat) : Int) := by simp
theorem bit_test (b k : Nat) : (((b : Int) / 2 ^ k).tmod 2 == 1) = decide (b / 2 ^ k % 2 = 1) := by
  rw [cast_pow2, ← Int.natCast_ediv, show (2 : Int) = ((2 : Nat) : Int) from rfl, ← Int.ofNat_tmod, Bool.eq_iff_iff]
  simp only [beq_iff_eq, decide_eq_true_eq]
  omega
theorem shl_small (a k : Nat) (h : a * 2 ^ k < 65536) : wrap64 ((a : Int) * 2 ^ k) = (a : Int) * 2 ^ k := by
  rw [cast_pow2, ← Int.natCast_mul, IntWalk.wrap64_in _ ⟨by omega, by omega⟩]
theorem xor_shl (p a k : Nat) (hp : p < 2 ^ 16) (h : a * 2 ^ k < 65536) : bits .xor .i64 (p : Int) ((a : Int) * 2 ^ k) = ((p ^^^ a * 2 ^ k : Nat) : Int) := by
  rw [cast_pow2, ← Int.natCast_mul, xor_i64 _ _ (by omega) (by omega)]

theorem xt_walk (n : Nat) (h : n < 256) : (127 < n → bits .xor .i64 (2 * (n : Int)) 285 = ((xt n : Nat) : Int)) ∧ (¬ 127 < n → 2 * (n : Int) = ((xt n : Nat) : Int)) := by
  unfold xt
  constructor
  · intro hq
    rw [if_pos hq, show 2 * (n : Int) = ((2 * n : Nat) : Int) from by omega, show (285 : Int) = ((285 : Nat) : Int) from rfl, xor_i64 _ _ (by omega) (by omega)]
  · intro hq
    rw [if_neg hq]; omega
theorem gM_one_iff {a b : Int} (ha : 0 < a ∧ a < 256) (hb : 0 ≤ b ∧ b < 256) : gM a b = 1 ↔ b = gI a := by
  unfold gM gI
  constructor
  · intro h
    have := gi_unique (a := a.toNat) (b := b.toNat) (by omega) (by omega) (by omega)
    omega
  · intro h
    have h1 := gm_gi (a := a.toNat) (by omega) (by omega)
    have h2 : b.toNat = gi a.toNat := by omega
    rw [h2]; omega
theorem gE_mod {m n : Int} (h : m % 255 = n % 255) : gE m = gE n := by unfold gE; rw [h]
theorem gE_nat (n : Nat) : gE n = ((ge n : Nat) : Int) := by
  unfold gE
  rw [show (n : Int) % 255 = ((n % 255 : Nat) : Int) from by omega, Int.toNat_natCast, ge_mod]
theorem gE_log (a n : Int) (ha : 0 < a ∧ a < 256) : gE (gL a * n.tmod 255) = gQ a n := by
  have e1 : (gL a * n.tmod 255) % 255 = (gL a * (n % 255)) % 255 := by
    have e : (n.tmod 255) % 255 = n % 255 := by
      have hr := tmod_red n
      have hb : -255 < n.tmod 255 := Int.lt_tmod_of_pos n (by omega)
      rw [Int.tmod_eq_emod_of_nonneg (by omega)] at hr
      omega
    rw [Int.mul_emod, e, Int.mul_emod (gL a) (n % 255)]
    simp
  rw [gE_mod e1]
  obtain ⟨m, hm⟩ := Int.eq_ofNat_of_zero_le (show 0 ≤ n % 255 by omega)
  unfold gQ red gL
  rw [hm, ← Int.natCast_mul, gE_nat, ge_mul]
  unfold gP
  rw [(gl_lt (a := a.toNat) (by omega) (by omega)).2, Int.toNat_natCast]
theorem gL_bd {a : Int} (ha : 0 < a ∧ a < 256) : 0 ≤ gL a ∧ gL a < 255 := by
  have := (gl_lt (a := a.toNat) (by omega) (by omega)).1
  unfold gL; omega
end Go.Proofs.Ytnajdmkdkpmdgaa
