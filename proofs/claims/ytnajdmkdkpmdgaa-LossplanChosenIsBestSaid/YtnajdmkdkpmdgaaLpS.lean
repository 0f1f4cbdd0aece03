/- What a chosen plan is good for, plain. -/
import Derived.Test.YtnajdmkdkpmdgaaLpR
namespace Go.Proofs.Ytnajdmkdkpmdgaa
open Go.RowKit
set_option linter.unusedVariables false

/-- A plan that was chosen. -/
theorem ChRes.good {H W : Nat} {S m x len r c d p C I : Int} (h : ChRes H W S (m + 2 * x) len r c d p C I) (hC : C = 0) (hm : 0 ≤ m) (hx : 0 ≤ x) :
    ∃ k, k < 63 ∧ r = (candR k : Nat) ∧ c = (candC k : Nat) ∧ p = m + 2 * x ∧ I = 0 ∧ plF r c d p = (0, 0) ∧ bearB p m x (r.tdiv 2) (c.tdiv 2) H W S = true ∧ IsData len (payK k) d ∧ ((payK k : Nat) : Int) = (24 - r) * (16 - c) ∧
      ∀ j, j < 63 → BK H W S j = true → payK j ≤ payK k := by
  obtain ⟨o, ho, h1, h2⟩ := h
  by_cases hc : o = none ∨ 16 < m + 2 * x
  · have := (h1 hc).2.1; omega
  · cases o with
    | none => exact absurd (.inl rfl) hc
    | some k =>
      have hp : m + 2 * x ≤ 16 := by
        rcases Int.lt_or_le 16 (m + 2 * x) with h | h
        · exact absurd (.inr h) hc
        · exact h
      obtain ⟨dd, hd, h3, h4⟩ := h2 k rfl hp
      rcases Int.lt_or_le 48 dd with h | h
      · have := (h3 h).2.1; omega
      · obtain ⟨⟨e1, e2, e3, e4⟩, _, e6⟩ := h4 h
        subst e1 e2 e3 e4
        have hk := ho.1
        have hr16 : candR k ≤ 16 := by unfold candR; omega
        have hc12 : candC k ≤ 12 := by unfold candC; omega
        refine ⟨k, hk, rfl, rfl, rfl, e6, plF_of (by omega) (by omega) ⟨hd.1, h⟩ (by omega), ?_, hd, payK_int k hk, fun j hj hb => ho.2.2.2 j hj hb⟩
        unfold bearB
        rw [decide_eq_true (Int.le_refl _), Bool.true_and]
        have hB := ho.2.1
        unfold BK at hB
        rw [Int.tdiv_eq_ediv_of_nonneg (by omega), Int.tdiv_eq_ediv_of_nonneg (by omega)]
        have e1 : ((candR k : Nat) : Int) / 2 = ((k / 7 : Nat) : Int) := by unfold candR; omega
        have e2 : ((candC k : Nat) : Int) / 2 = ((k % 7 : Nat) : Int) := by unfold candC; omega
        rw [e1, e2]; exact hB
/-- An even pair of parities is a candidate. -/
theorem even_cand {r c : Int} (hr : 0 ≤ r ∧ r ≤ 16) (hc : 0 ≤ c ∧ c ≤ 12) (er : r % 2 = 0) (ec : c % 2 = 0) : ∃ k, k < 63 ∧ r = (candR k : Nat) ∧ c = (candC k : Nat) := by
  obtain ⟨a, ha⟩ := Int.eq_ofNat_of_zero_le hr.1
  obtain ⟨b, hb⟩ := Int.eq_ofNat_of_zero_le hc.1
  subst ha hb
  refine ⟨7 * (a / 2) + b / 2, by omega, ?_, ?_⟩
  · unfold candR; omega
  · unfold candC; omega
theorem best_pay {H W : Nat} {S p m x r c : Int} {k : Nat} (hall : ∀ j, j < 63 → BK H W S j = true → payK j ≤ payK k) (hr : 0 ≤ r ∧ r ≤ 16) (hc : 0 ≤ c ∧ c ≤ 12) (er : r % 2 = 0) (ec : c % 2 = 0)
    (hb : bearB p m x (r.tdiv 2) (c.tdiv 2) H W S = true) : (24 - r) * (16 - c) ≤ ((payK k : Nat) : Int) := by
  obtain ⟨j, hj, rfl, rfl⟩ := even_cand hr hc er ec
  rw [← payK_int j hj]
  have := hall j hj (by
    unfold bearB at hb
    rw [Bool.and_eq_true] at hb
    have h2 := hb.2
    rw [Int.tdiv_eq_ediv_of_nonneg (by omega), Int.tdiv_eq_ediv_of_nonneg (by omega)] at h2
    unfold BK
    have e1 : ((candR j : Nat) : Int) / 2 = ((j / 7 : Nat) : Int) := by unfold candR; omega
    have e2 : ((candC j : Nat) : Int) / 2 = ((j % 7 : Nat) : Int) := by unfold candC; omega
    rw [e1, e2] at h2; exact h2)
  omega
end Go.Proofs.Ytnajdmkdkpmdgaa
