/- Neighbouring levels differ in one bit: plain laws. -/
import Derived.Test.YtbhcjgjeedhnaaaTiI
namespace Go.Proofs.Ytbhcjgjeedhnaaa
open Go.RowKit
set_option linter.unusedVariables false

/-- The number of bits that are 1, with fuel. -/
def popF : Nat → Nat → Nat
  | 0, _ => 0
  | f + 1, n => popF f (n / 2) + n % 2
def pop (n : Nat) : Nat := popF 8 n
theorem popF_zero (f : Nat) : popF f 0 = 0 := by
  induction f with
  | zero => rfl
  | succ f ih => show popF f (0 / 2) + 0 % 2 = 0; rw [Nat.zero_div, ih]
theorem popF_fuel : ∀ (f g n : Nat), n < 2 ^ f → f ≤ g → popF g n = popF f n := by
  intro f
  induction f with
  | zero => intro g n h _; have : n = 0 := by omega
            subst this; rw [popF_zero, popF_zero]
  | succ f ih =>
    intro g n h hg
    obtain ⟨g, rfl⟩ : ∃ k, g = k + 1 := ⟨g - 1, by omega⟩
    show popF g (n / 2) + n % 2 = popF f (n / 2) + n % 2
    rw [ih g (n / 2) (by rw [Nat.pow_succ] at h; omega) (by omega)]
theorem xor_low (a b c d k : Nat) (hc : c < 2 ^ k) (hd : d < 2 ^ k) : (a * 2 ^ k + c) ^^^ (b * 2 ^ k + d) = (a ^^^ b) * 2 ^ k + (c ^^^ d) := by
  have hx : c ^^^ d < 2 ^ k := Nat.xor_lt_two_pow hc hd
  apply Nat.eq_of_testBit_eq
  intro i
  rw [Nat.testBit_xor]
  have key : ∀ x y : Nat, y < 2 ^ k → (x * 2 ^ k + y).testBit i = if i < k then y.testBit i else x.testBit (i - k) := by
    intro x y hy
    rw [Nat.mul_comm, Nat.testBit_two_pow_mul_add _ hy]
  rw [key a c hc, key b d hd, key _ _ hx]
  by_cases h : i < k
  · simp only [if_pos h, Nat.testBit_xor]
  · simp only [if_neg h, Nat.testBit_xor]
theorem popF_add1 (f x y : Nat) (hy : y < 2) : popF (f + 1) (x * 2 + y) = popF f x + y := by
  show popF f ((x * 2 + y) / 2) + (x * 2 + y) % 2 = _
  rw [show (x * 2 + y) / 2 = x by omega, show (x * 2 + y) % 2 = y by omega]
theorem popF_add2 (f x y : Nat) (hy : y < 4) : popF (f + 2) (x * 4 + y) = popF f x + popF 2 y := by
  show popF f ((x * 4 + y) / 2 / 2) + (x * 4 + y) / 2 % 2 + (x * 4 + y) % 2 = popF f x + (0 + y / 2 % 2 + y % 2)
  rw [show (x * 4 + y) / 2 / 2 = x by omega]
  omega
/-- Two levels are neighbours. -/
def nb (lv p q : Nat) : Bool := (decide (p + 1 = q) || decide (q + 1 = p)) && decide (p < lv) && decide (q < lv)
theorem nb_pop4 {p q : Nat} (h : nb 4 p q = true) : popF 2 (grayN p 4 ^^^ grayN q 4) = 1 := by
  simp only [nb, Bool.and_eq_true, Bool.or_eq_true, decide_eq_true_eq] at h
  have key : allN 4 (fun p => allN 4 fun q => !(nb 4 p q) || decide (popF 2 (grayN p 4 ^^^ grayN q 4) = 1)) = true := by decide +kernel
  have := allN_of (allN_of key (show p < 4 by omega)) (show q < 4 by omega)
  have h2 : nb 4 p q = true := by simp only [nb, Bool.and_eq_true, Bool.or_eq_true, decide_eq_true_eq]; exact h
  rw [h2] at this
  simpa using this
theorem nb_pop2 {p q : Nat} (h : nb 2 p q = true) : grayN p 2 ^^^ grayN q 2 = 1 := by
  simp only [nb, Bool.and_eq_true, Bool.or_eq_true, decide_eq_true_eq] at h
  rcases h with ⟨⟨h | h, h1⟩, h2⟩
  · obtain rfl : p = 0 := by omega
    obtain rfl : q = 1 := by omega
    rfl
  · obtain rfl : q = 0 := by omega
    obtain rfl : p = 1 := by omega
    rfl
/-- How many of the first k cells differ. -/
def difU (l m : List GF) : Nat → Nat
  | 0 => 0
  | k + 1 => difU l m k + if l.getD k 0 = m.getD k 0 then 0 else 1
theorem pop_join2 {l m : List GF} (hl : ∀ i, i < l.length → (l.getD i 0).v < 2) (hm : ∀ i, i < m.length → (m.getD i 0).v < 2) (hn : l.length = m.length) (hnb : ∀ i, i < l.length → l.getD i 0 = m.getD i 0 ∨ nb 2 (l.getD i 0).v (m.getD i 0).v = true) :
    ∀ k, k ≤ l.length → popF k (joinN 2 (l.take k) ^^^ joinN 2 (m.take k)) = difU l m k := by
  intro k
  induction k with
  | zero => intro _; rfl
  | succ k ih =>
    intro hk
    have hg1 := gray_lt (lv := 2) (by omega) (hl k (by omega))
    have hg2 := gray_lt (lv := 2) (by omega) (hm k (by omega))
    rw [joinN_take 2 (by omega), joinN_take 2 (by omega)]
    have hx := xor_low (joinN 2 (l.take k)) (joinN 2 (m.take k)) _ _ 1 hg1 hg2
    rw [show 2 ^ 1 = 2 from rfl] at hx
    rw [hx]
    have hlt : grayN (l.getD k 0).v 2 ^^^ grayN (m.getD k 0).v 2 < 2 ^ 1 := Nat.xor_lt_two_pow hg1 hg2
    rw [popF_add1 k _ _ hlt, ih (by omega)]
    show _ = difU l m k + if l.getD k 0 = m.getD k 0 then 0 else 1
    rcases hnb k (by omega) with h | h
    · rw [if_pos h, h, Nat.xor_self]
    · have hne : ¬ l.getD k 0 = m.getD k 0 := by
        intro e; rw [e] at h; simp [nb] at h
      rw [if_neg hne, nb_pop2 h]
theorem pop_join4 {l m : List GF} (hl : ∀ i, i < l.length → (l.getD i 0).v < 4) (hm : ∀ i, i < m.length → (m.getD i 0).v < 4) (hn : l.length = m.length) (hnb : ∀ i, i < l.length → l.getD i 0 = m.getD i 0 ∨ nb 4 (l.getD i 0).v (m.getD i 0).v = true) :
    ∀ k, k ≤ l.length → popF (2 * k) (joinN 4 (l.take k) ^^^ joinN 4 (m.take k)) = difU l m k := by
  intro k
  induction k with
  | zero => intro _; rfl
  | succ k ih =>
    intro hk
    have hg1 := gray_lt (lv := 4) (by omega) (hl k (by omega))
    have hg2 := gray_lt (lv := 4) (by omega) (hm k (by omega))
    rw [joinN_take 4 (by omega), joinN_take 4 (by omega)]
    have hx := xor_low (joinN 4 (l.take k)) (joinN 4 (m.take k)) _ _ 2 hg1 hg2
    rw [show 2 ^ 2 = 4 from rfl] at hx
    rw [hx]
    have hlt : grayN (l.getD k 0).v 4 ^^^ grayN (m.getD k 0).v 4 < 2 ^ 2 := Nat.xor_lt_two_pow hg1 hg2
    rw [show 2 * (k + 1) = 2 * k + 2 by omega, popF_add2 _ _ _ hlt, ih (by omega)]
    show _ = difU l m k + if l.getD k 0 = m.getD k 0 then 0 else 1
    rcases hnb k (by omega) with h | h
    · rw [if_pos h, h, Nat.xor_self]; rfl
    · have hne : ¬ l.getD k 0 = m.getD k 0 := by
        intro e; rw [e] at h; simp [nb] at h
      rw [if_neg hne, nb_pop4 h]
end Go.Proofs.Ytbhcjgjeedhnaaa
