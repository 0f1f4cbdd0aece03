/- Reed-Solomon codes: plain laws of encoding. -/
import Derived.Test.YtpkaaiefnabfbabRsF
namespace Go.Proofs.Ytpkaaiefnabfbab
open Go.RowKit
set_option linter.unusedVariables false

/-- The polynomial with the first powers of the generator as its roots. -/
def genP : Nat → List GF
  | 0 => [1]
  | p + 1 => prodP (genP p) [GF.exp p, 1]
theorem Tr_genP (p : Nat) : Tr (genP p) := by
  cases p with
  | zero => exact .inr GF.one_ne
  | succ p => exact Tr_ofF _ _
theorem genP_top (p : Nat) : (genP p).length = p + 1 ∧ cf (genP p) p = 1 := by
  induction p with
  | zero => exact ⟨rfl, rfl⟩
  | succ p ih =>
    have hd := degB_cf (genP p)
    rw [ih.1] at hd
    have h1 := cv_top (m := p) (n := 1) hd (degB_cf [GF.exp p, 1])
    rw [ih.2, show cf [GF.exp p, 1] 1 = 1 from rfl, GF.mul_one] at h1
    have h2 : cf (genP (p + 1)) (p + 1) = 1 := by show cf (prodP _ _) (p + 1) = 1; rw [cf_prodP]; exact h1
    refine ⟨?_, h2⟩
    have h3 : degB (p + 1 + 1) (cf (genP (p + 1))) := by show degB _ (cf (prodP _ _)); rw [cf_prodP]; exact degB_cv (m := p) (n := 1) hd (degB_cf [GF.exp p, 1])
    have h4 := Tr_len (Tr_genP (p + 1)) h3
    rcases Nat.lt_or_ge (p + 1) (genP (p + 1)).length with h5 | h5
    · omega
    · rw [degB_cf (genP (p + 1)) (p + 1) h5] at h2
      exact absurd h2.symm GF.one_ne
theorem genP_root {p j : Nat} (hj : j < p) : valL (genP p) (GF.exp j) = 0 := by
  induction p with
  | zero => omega
  | succ p ih =>
    show valL (prodP _ _) _ = 0
    rw [valL_prod, valL_lin]
    by_cases e : j = p
    · subst e; rw [GF.add_self, GF.mul_zero]
    · rw [ih (by omega), GF.zero_mul]
theorem genP_ne (p : Nat) : genP p ≠ [] := by
  intro h
  have := (genP_top p).1
  rw [h] at this
  simp at this
/-- The word of data. -/
def IsEnc (data : List GF) (p : Nat) (wd : List GF) : Prop := wd.length = data.length + p ∧ wd.take data.length = data ∧ isCW p wd
theorem take_getD {a b : List GF} {n : Nat} (h : a.take n = b) (hb : b.length = n) {i : Nat} (hi : i < n) : a.getD i 0 = b.getD i 0 := by
  subst h
  simp [List.getD, hi]
theorem IsEnc_unique {data a b : List GF} {p : Nat} (hn : data.length + p ≤ 255) (ha : IsEnc data p a) (hb : IsEnc data p b) : a = b := by
  refine cw_unique (ha.1.trans hb.1.symm) (by rw [ha.1]; exact hn) ha.2.2 hb.2.2 ((List.range p).map fun i => data.length + i) ?_ ?_ ?_ ?_
  · unfold List.Nodup
    rw [List.pairwise_map]
    exact List.Pairwise.imp (fun h e => h (by omega)) List.nodup_range
  · intro i hi
    obtain ⟨k, hk, rfl⟩ := List.mem_map.1 hi
    have := List.mem_range.1 hk
    rw [ha.1]; omega
  · simp
  · intro i hi hik
    have hid : i < data.length := by
      rcases Nat.lt_or_ge i data.length with h | h
      · exact h
      · exact absurd (List.mem_map.2 ⟨i - data.length, List.mem_range.2 (by rw [ha.1] at hi; omega), by omega⟩) hik
    rw [take_getD ha.2.1 rfl hid, take_getD hb.2.1 rfl hid]
def encMid (data r : List GF) (p k : Nat) : List GF := data ++ (List.range p).map fun i => if p - 1 - i < k then cf r (p - 1 - i) else 0
def encOf (data r : List GF) (p : Nat) : List GF := data ++ (List.range p).map fun i => cf r (p - 1 - i)
theorem encMid_len (data r : List GF) (p k : Nat) : (encMid data r p k).length = data.length + p := by simp [encMid]
theorem encOf_len (data r : List GF) (p : Nat) : (encOf data r p).length = data.length + p := by simp [encOf]
theorem app_get {data : List GF} {p : Nat} (f : Nat → GF) {i : Nat} (hi : i < data.length + p) : (data ++ (List.range p).map f).getD i 0 = if i < data.length then data.getD i 0 else f (i - data.length) := by
  by_cases h : i < data.length
  · rw [if_pos h]; simp [List.getD, List.getElem?_append, h]
  · rw [if_neg h]
    have h2 : i - data.length < p := by omega
    simp [List.getD, List.getElem?_append, h, h2]
theorem encMid_zero (data r : List GF) (p : Nat) : encMid data r p 0 = data ++ List.replicate p 0 := by
  unfold encMid
  congr 1
  refine list_eq_getD (by simp) fun i hi => ?_
  have hi : i < p := by simpa using hi
  simp [List.getD, hi]
theorem encMid_step (data r : List GF) {p k : Nat} (hk : k < p) : (encMid data r p k).set (data.length + p - 1 - k) (cf r k) = encMid data r p (k + 1) := by
  refine list_eq_getD (by rw [List.length_set, encMid_len, encMid_len]) fun i hi => ?_
  rw [List.length_set, encMid_len] at hi
  unfold encMid
  rw [app_get _ hi]
  by_cases e : i = data.length + p - 1 - k
  · subst e
    rw [getD_set_self (by simp; omega), if_neg (by omega), if_pos (by omega)]
    congr 1; omega
  · rw [getD_set_other (Ne.symm e), app_get _ hi]
    by_cases h : i < data.length
    · rw [if_pos h, if_pos h]
    · rw [if_neg h, if_neg h]
      by_cases h2 : p - 1 - (i - data.length) < k
      · rw [if_pos h2, if_pos (by omega)]
      · rw [if_neg h2, if_neg (by omega)]
theorem encMid_end (data r : List GF) (p : Nat) : encMid data r p r.length = encOf data r p := by
  unfold encMid encOf
  congr 1
  apply List.map_congr_left
  intro i _
  split
  · rfl
  · rename_i h; exact (degB_cf r _ (by omega)).symm
theorem rev_cf_enc (data r : List GF) (p : Nat) (hr : r.length ≤ p) : cf (encOf data r p).reverse = padd (cf (data ++ List.replicate p 0).reverse) (cf r) := by
  funext i
  by_cases hi : i < data.length + p
  · rw [rev_get _ (by rw [encOf_len]; exact hi), encOf_len]
    unfold encOf
    rw [app_get _ (by omega)]
    show _ = cf (data ++ List.replicate p 0).reverse i + cf r i
    rw [rev_get _ (by simp; exact hi)]
    have e : (data ++ List.replicate p (0 : GF)).getD ((data ++ List.replicate p (0 : GF)).length - 1 - i) 0 = if data.length + p - 1 - i < data.length then data.getD (data.length + p - 1 - i) 0 else 0 := by
      rw [List.length_append, List.length_replicate]
      by_cases h : data.length + p - 1 - i < data.length
      · rw [if_pos h]; simp [List.getD, List.getElem?_append, h]
      · rw [if_neg h]
        have h2 : data.length + p - 1 - i - data.length < p := by omega
        simp [List.getD, List.getElem?_append, h, h2]
    rw [e]
    by_cases h : data.length + p - 1 - i < data.length
    · rw [if_pos h, if_pos h, degB_cf r i (by omega), GF.add_zero]
    · rw [if_neg h, if_neg h, GF.zero_add]
      congr 1; omega
  · rw [degB_cf _ i (by rw [List.length_reverse, encOf_len]; omega)]
    show 0 = cf (data ++ List.replicate p 0).reverse i + cf r i
    rw [degB_cf _ i (by simp; omega), degB_cf r i (by omega), GF.add_zero]
theorem encOf_cw {data q r : List GF} {p : Nat} (h : Div (data ++ List.replicate p 0).reverse (genP p) q r) : IsEnc data p (encOf data r p) := by
  obtain ⟨h1, h2, h3, h4⟩ := h
  rw [(genP_top p).1] at h3
  refine ⟨encOf_len _ _ _, by simp [encOf], fun j hj => ?_⟩
  have e : cf (encOf data r p).reverse = cv (cf q) (cf (genP p)) := by
    rw [rev_cf_enc data r p (by omega)]
    funext i
    show cf (data ++ List.replicate p 0).reverse i + cf r i = _
    rw [h4 i, GF.add_assoc, GF.add_self, GF.add_zero]
  unfold synd
  rw [valL_of _ e (degB_cv' (degB_cf q) (degB_cf (genP p))), vH_cv _ (degB_cf q) (degB_cf (genP p)) (Nat.le_refl _), ← valL_vH, ← valL_vH, genP_root hj, GF.mul_zero]
/-- The fault of data. -/
def dF (n : Nat) (p : Int) : Int × Int := if ¬ (0 ≤ p ∧ p ≤ 32) then (4, -2) else if ¬ (1 ≤ (n : Int) ∧ n ≤ 255 - p) then (9, -1) else (0, 0)
theorem dF_cases (n : Nat) (p : Int) : (∃ q : Nat, p = q ∧ q ≤ 32 ∧ 1 ≤ n ∧ n + q ≤ 255 ∧ dF n p = (0, 0)) ∨ (¬ (0 ≤ p ∧ p ≤ 32) ∧ dF n p = (4, -2)) ∨ ((0 ≤ p ∧ p ≤ 32) ∧ ¬ (1 ≤ (n : Int) ∧ n ≤ 255 - p) ∧ dF n p = (9, -1)) := by
  by_cases h1 : 0 ≤ p ∧ p ≤ 32
  · by_cases h2 : 1 ≤ (n : Int) ∧ n ≤ 255 - p
    · obtain ⟨q, rfl⟩ := Int.eq_ofNat_of_zero_le h1.1
      exact .inl ⟨q, rfl, by omega, by omega, by omega, by unfold dF; rw [if_neg (by omega), if_neg (by omega)]⟩
    · exact .inr (.inr ⟨h1, h2, by unfold dF; rw [if_neg (by omega), if_pos h2]⟩)
  · exact .inr (.inl ⟨h1, by unfold dF; rw [if_pos h1]⟩)
end Go.Proofs.Ytpkaaiefnabfbab
