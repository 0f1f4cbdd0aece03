/- Division of polynomials: plain laws. -/
import Derived.Test.YtpkaaiefnabfbaaPoC
namespace Go.Proofs.Ytpkaaiefnabfbaa
set_option linter.unusedVariables false

/-- a = q b + r, all of them trimmed, r shorter than b. -/
def Div (a b q r : List GF) : Prop := Tr q ∧ Tr r ∧ r.length < b.length ∧ ∀ i, cf a i = cv (cf q) (cf b) i + cf r i
/-- The highest coefficient that is not 0. -/
theorem top_of {N : Nat} {f : PS} (hd : degB N f) (h : f ≠ pz) : ∃ m, f m ≠ 0 ∧ degB (m + 1) f := by
  induction N with
  | zero => exact absurd (degB_zero hd) h
  | succ N ih =>
    by_cases h0 : f N = 0
    · refine ih fun i hi => ?_
      by_cases e : i = N
      · rw [e]; exact h0
      · exact hd i (by omega)
    · exact ⟨N, h0, hd⟩
theorem Tr_top {b : List GF} (hb : Tr b) (h : b ≠ []) : ∃ n, b.length = n + 1 ∧ cf b n ≠ 0 ∧ degB (n + 1) (cf b) := by
  have hl : 0 < b.length := by
    rcases b with _ | ⟨x, b⟩
    · exact absurd rfl h
    · simp
  refine ⟨b.length - 1, by omega, ?_, ?_⟩
  · rcases hb with hb | hb
    · exact absurd hb h
    · exact hb
  · have := degB_cf b
    rwa [show b.length = b.length - 1 + 1 by omega] at this
/-- A multiple of b that is shorter than b is 0. -/
theorem short_multiple {f g b : PS} {n N : Nat} (hb : b n ≠ 0) (hdb : degB (n + 1) b) (hf : degB N f) (hg : degB n g) (h : ∀ i, cv f b i = g i) : f = pz := by
  apply Classical.byContradiction
  intro hne
  obtain ⟨m, hm, hdm⟩ := top_of hf hne
  have h1 := cv_top hdm hdb
  rw [h, hg (m + n) (by omega)] at h1
  rcases GF.mul_eq_zero h1.symm with h2 | h2
  · exact hm h2
  · exact hb h2

theorem cv_padd_left (f g h : PS) : cv (padd f g) h = padd (cv f h) (cv g h) := funext fun i => cv_add_left f g h i
theorem padd_self (f : PS) : padd f f = pz := funext fun i => GF.add_self _
theorem eq_of_padd {f g : PS} (h : padd f g = pz) : f = g := funext fun i => GF.eq_of_add (congrFun h i)
theorem Div_unique {a b q r q' r' : List GF} (hb : Tr b) (hne : b ≠ []) (h : Div a b q r) (h' : Div a b q' r') : q = q' ∧ r = r' := by
  obtain ⟨n, hn, htop, hd⟩ := Tr_top hb hne
  obtain ⟨t1, t2, t3, t4⟩ := h
  obtain ⟨u1, u2, u3, u4⟩ := h'
  have hz : padd (cf q) (cf q') = pz := by
    refine short_multiple (n := n) (N := max q.length q'.length) (g := padd (cf r) (cf r')) htop hd (degB_sum q q') (fun i hi => ?_) (fun i => ?_)
    · show cf r i + cf r' i = 0
      rw [degB_cf r i (by omega), degB_cf r' i (by omega), GF.add_zero]
    · rw [cv_add_left]
      show _ = cf r i + cf r' i
      have h1 : cv (cf q) (cf b) i + cf r i = cv (cf q') (cf b) i + cf r' i := by rw [← t4, ← u4]
      have h2 : (cv (cf q) (cf b) i + cv (cf q') (cf b) i) + (cf r i + cf r' i) = 0 := by
        rw [GF.add_swap, h1, GF.add_self]
      exact GF.eq_of_add h2
  have hq : cf q = cf q' := eq_of_padd hz
  have e1 : q = q' := Tr_ext t1 u1 hq
  refine ⟨e1, Tr_ext t2 u2 (funext fun i => ?_)⟩
  have h1 : cv (cf q) (cf b) i + cf r i = cv (cf q) (cf b) i + cf r' i := by rw [← t4, hq, ← u4]
  exact GF.add_cancel h1
/-- The rest of the division of a by b, by any multiple of b. -/
def RestOf (a b r : List GF) : Prop := Tr r ∧ r.length < b.length ∧ ∃ (N : Nat) (s : PS), degB N s ∧ ∀ i, cf a i = cv s (cf b) i + cf r i
theorem Div.rest {a b q r : List GF} (h : Div a b q r) : RestOf a b r := ⟨h.2.1, h.2.2.1, _, cf q, degB_cf q, h.2.2.2⟩
theorem RestOf.div {a b r : List GF} (h : RestOf a b r) : ∃ q, Div a b q r := by
  obtain ⟨h1, h2, N, s, hs, h3⟩ := h
  refine ⟨ofF N s, Tr_ofF _ _, h1, h2, fun i => ?_⟩
  rw [cf_ofF hs]; exact h3 i
theorem RestOf_unique {a b r r' : List GF} (hb : Tr b) (hne : b ≠ []) (h : RestOf a b r) (h' : RestOf a b r') : r = r' := by
  obtain ⟨q, hq⟩ := h.div
  obtain ⟨q', hq'⟩ := h'.div
  exact (Div_unique hb hne hq hq').2

/-- One step of the division: the list of the rest with a multiple of b added, k elements of it done. -/
def dvMid (r b : List GF) (q : GF) (at' k : Nat) : List GF := (List.range r.length).map fun j => if at' ≤ j ∧ j < at' + k then cf r j + q * cf b (j - at') else cf r j
theorem dvMid_len (r b : List GF) (q : GF) (at' k : Nat) : (dvMid r b q at' k).length = r.length := by simp [dvMid]
theorem dvMid_get (r b : List GF) (q : GF) (at' k : Nat) {j : Nat} (hj : j < r.length) : (dvMid r b q at' k).getD j 0 = if at' ≤ j ∧ j < at' + k then cf r j + q * cf b (j - at') else cf r j := by simp [dvMid, List.getD, hj]
theorem dvMid_zero (r b : List GF) (q : GF) (at' : Nat) : dvMid r b q at' 0 = r :=
  list_eq_getD (dvMid_len _ _ _ _ _) fun i hi => by
    rw [dvMid_len] at hi
    rw [dvMid_get _ _ _ _ _ hi, if_neg (by omega)]; rfl
theorem dvMid_step (r b : List GF) (q : GF) {at' k : Nat} (h : at' + k < r.length) : (dvMid r b q at' k).set (at' + k) (cf r (at' + k) + q * cf b k) = dvMid r b q at' (k + 1) := by
  refine list_eq_getD (by rw [List.length_set, dvMid_len, dvMid_len]) fun j hj => ?_
  rw [List.length_set, dvMid_len] at hj
  rw [dvMid_get _ _ _ _ _ hj]
  by_cases e : at' + k = j
  · subst e
    rw [if_pos (by omega), Nat.add_sub_cancel_left]
    simp [List.getD, dvMid_len, h]
  · have h1 : ((dvMid r b q at' k).set (at' + k) (cf r (at' + k) + q * cf b k)).getD j 0 = (dvMid r b q at' k).getD j 0 := by simp [List.getD, e]
    rw [h1, dvMid_get _ _ _ _ _ hj]
    by_cases h2 : at' ≤ j ∧ j < at' + k
    · rw [if_pos h2, if_pos (by omega)]
    · rw [if_neg h2, if_neg (by omega)]
theorem dvMid_cf (r b : List GF) (q : GF) (at' : Nat) (h : at' + b.length = r.length) (j : Nat) : cf (dvMid r b q at' b.length) j = cf r j + if at' ≤ j then q * cf b (j - at') else 0 := by
  by_cases hj : j < r.length
  · show (dvMid r b q at' b.length).getD j 0 = _
    rw [dvMid_get _ _ _ _ _ hj]
    by_cases h2 : at' ≤ j
    · rw [if_pos (by omega), if_pos h2]
    · rw [if_neg (by omega), if_neg h2, GF.add_zero]
  · rw [degB_cf _ j (by rw [dvMid_len]; omega), degB_cf r j (by omega), GF.zero_add]
    rw [if_pos (by omega), degB_cf b _ (by omega), GF.mul_zero]
/-- The quotient so far with one more coefficient. -/
theorem cf_set (l : List GF) {i : Nat} (x : GF) (hi : i < l.length) (j : Nat) : cf (l.set i x) j = if j = i then x else cf l j := by
  unfold cf
  by_cases e : i = j
  · subst e; simp [List.getD, hi]
  · rw [if_neg (fun h => e h.symm)]; simp [List.getD, e]
theorem cv_single (q : GF) (k : Nat) (b : PS) (j : Nat) : cv (fun i => if i = k then q else 0) b j = if k ≤ j then q * b (j - k) else 0 := by
  have e : (fun i => if i = k then q else (0 : GF)) = pxn k (psc q pone) := by
    funext i
    rw [pxn_get]
    by_cases h : i = k
    · subst h; simp [psc, pone, GF.mul_one]
    · rw [if_neg h]
      by_cases h2 : i < k
      · rw [if_pos h2]
      · rw [if_neg h2]; simp only [psc, pone]; rw [if_neg (by omega), GF.mul_zero]
  rw [e, cv_pxn, pxn_get]
  by_cases h : j < k
  · rw [if_pos h, if_neg (by omega)]
  · rw [if_neg h, if_pos (by omega), cv_sc_left, cv_one_left]
theorem div_round {a b r ql : List GF} {q : GF} {at' : Nat} (h : at' + b.length = r.length) (hq : at' < ql.length) (h0 : cf ql at' = 0) (hinv : ∀ i, cf a i = cv (cf ql) (cf b) i + cf r i) :
    ∀ i, cf a i = cv (cf (ql.set at' q)) (cf b) i + cf (trimL (dvMid r b q at' b.length)) i := by
  intro i
  have e : cf (ql.set at' q) = padd (cf ql) (fun j => if j = at' then q else 0) := by
    funext j
    rw [cf_set ql q hq]
    show _ = cf ql j + if j = at' then q else 0
    by_cases hj : j = at'
    · rw [if_pos hj, if_pos hj, hj, h0, GF.zero_add]
    · rw [if_neg hj, if_neg hj, GF.add_zero]
  rw [e, cv_add_left, cv_single, cf_trim, dvMid_cf r b q at' h, hinv i]
  generalize cv (cf ql) (cf b) i = x
  generalize cf r i = y
  generalize (if at' ≤ i then q * cf b (i - at') else 0) = z
  rw [GF.add_comm y z, GF.add_assoc x z, ← GF.add_assoc z z, GF.add_self, GF.zero_add]
theorem div_shorter {b r : List GF} {at' n : Nat} (hn : b.length = n + 1) (h : at' + b.length = r.length) (htop : cf b n ≠ 0) : (trimL (dvMid r b (cf r (r.length - 1) * (cf b n).inv) at' b.length)).length < r.length := by
  have hd : degB (r.length - 1) (cf (trimL (dvMid r b (cf r (r.length - 1) * (cf b n).inv) at' b.length))) := by
    intro j hj
    rw [cf_trim, dvMid_cf r b _ at' h]
    by_cases e : j = r.length - 1
    · subst e
      rw [if_pos (by omega), show r.length - 1 - at' = n by omega, GF.mul_assoc, GF.inv_mul htop, GF.mul_one, GF.add_self]
    · rw [degB_cf r j (by omega), GF.zero_add]
      split
      · rw [degB_cf b (j - at') (by omega), GF.mul_zero]
      · rfl
  have := Tr_len (Tr_trim _) hd
  omega
end Go.Proofs.Ytpkaaiefnabfbaa
