/- Reed-Solomon codes: words, syndromes, code words (plain). -/
import Derived.Test.YtpkaaiefnabfbabRsC
namespace Go.Proofs.Ytpkaaiefnabfbab
set_option linter.unusedVariables false

/-- The syndrome: the value of the word's polynomial at a power of the generator. -/
def synd (l : List GF) (j : Nat) : GF := valL l.reverse (GF.exp j)
def isCW (p : Nat) (l : List GF) : Prop := ∀ j, j < p → synd l j = 0
/-- The locator of a place. -/
def loc (n i : Nat) : GF := GF.exp ((n : Int) - 1 - i)
def prs (l : List GF) (K : List Nat) : List (GF × GF) := K.map fun i => (loc l.length i, l.getD i 0)
theorem loc_ne (n i : Nat) : loc n i ≠ 0 := GF.exp_ne _
theorem loc_inj {n i j : Nat} (hn : n ≤ 255) (hi : i < n) (hj : j < n) (h : loc n i = loc n j) : i = j := by
  unfold loc at h
  rw [show (n : Int) - 1 - i = ((n - 1 - i : Nat) : Int) by omega, show (n : Int) - 1 - j = ((n - 1 - j : Nat) : Int) by omega] at h
  have := GF.exp_inj (by omega) (by omega) h
  omega
theorem ser_cons (q : GF × GF) (t : List (GF × GF)) (j : Nat) : ser (q :: t) j = q.2 * gpow q.1 j + ser t j := rfl
theorem ser_snoc (t : List (GF × GF)) (q : GF × GF) (j : Nat) : ser (t ++ [q]) j = ser t j + q.2 * gpow q.1 j := by
  rw [ser_append]
  show ser t j + (q.2 * gpow q.1 j + 0) = _
  rw [GF.add_zero]
theorem val_ser (c : List GF) (j : Nat) : ∀ k, k ≤ c.length → valL (c.take k) (GF.exp j) = ser ((List.range k).map fun i => (GF.exp (i : Nat), cf c i)) j := by
  intro k
  induction k with
  | zero => intro _; rfl
  | succ k ih =>
    intro hk
    rw [valL_take c _ (by omega), List.range_succ, List.map_append, List.map_singleton, ser_snoc, ih (by omega)]
    show _ + cf c k * gpow (GF.exp j) k = _ + cf c k * gpow (GF.exp k) j
    rw [gpow_swap]
theorem rev_get (l : List GF) {i : Nat} (hi : i < l.length) : cf l.reverse i = l.getD (l.length - 1 - i) 0 := by
  unfold cf
  simp [List.getD, List.getElem?_reverse hi]
theorem synd_ser (l : List GF) (j : Nat) : synd l j = ser (prs l (List.range l.length)) j := by
  unfold synd
  have h := val_ser l.reverse j l.reverse.length (Nat.le_refl _)
  rw [List.take_of_length_le (Nat.le_refl _), List.length_reverse] at h
  rw [h]
  have e : ((List.range l.length).map fun i => (GF.exp (i : Nat), cf l.reverse i)) = (prs l (List.range l.length)).reverse := by
    unfold prs
    rw [← List.map_reverse]
    apply List.ext_getElem
    · simp
    · intro i h1 h2
      have hi : i < l.length := by simpa using h1
      simp only [List.getElem_map, List.getElem_range, List.getElem_reverse, List.length_range]
      rw [rev_get l hi]
      unfold loc
      congr 2
      omega
  rw [e, ser_perm (List.reverse_perm _)]
theorem prs_filter (l : List GF) (K : List Nat) (p : Nat → Bool) (h : ∀ i ∈ K, p i = false → l.getD i 0 = 0) : ser (prs l (K.filter p)) = ser (prs l K) := by
  induction K with
  | nil => rfl
  | cons i K ih =>
    have ih' := ih fun i hi => h i (List.mem_cons_of_mem _ hi)
    rw [List.filter_cons]
    by_cases hp : p i = true
    · rw [if_pos hp]; show padd _ (ser (prs l (K.filter p))) = padd _ (ser (prs l K)); rw [ih']
    · rw [if_neg hp, ih']
      have h0 := h i (List.mem_cons_self ..) (by simpa using hp)
      funext j
      show ser (prs l K) j = l.getD i 0 * geo (loc l.length i) j + ser (prs l K) j
      rw [h0, GF.zero_mul, GF.zero_add]
theorem nodup_filter {α : Type} {l : List α} (p : α → Bool) (h : l.Nodup) : (l.filter p).Nodup := List.Pairwise.filter p h
/-- A word that is 0 outside of some places. -/
theorem synd_places (l : List GF) (K : List Nat) (hnd : K.Nodup) (hK : ∀ i ∈ K, i < l.length) (h0 : ∀ i, i < l.length → i ∉ K → l.getD i 0 = 0) (j : Nat) : synd l j = ser (prs l K) j := by
  rw [synd_ser, ← prs_filter l (List.range l.length) (fun i => decide (i ∈ K)) (fun i hi hp => h0 i (List.mem_range.1 hi) (by simpa using hp))]
  have hperm : ((List.range l.length).filter fun i => decide (i ∈ K)).Perm K := by
    rw [List.perm_ext_iff_of_nodup (nodup_filter _ (List.nodup_range)) hnd]
    intro a
    rw [List.mem_filter, List.mem_range, decide_eq_true_eq]
    exact ⟨fun h => h.2, fun h => ⟨hK a h, h⟩⟩
  rw [show ser (prs l ((List.range l.length).filter fun i => decide (i ∈ K))) = ser (prs l K) from ser_perm (hperm.map _)]
theorem locs_nodup {n : Nat} (hn : n ≤ 255) {K : List Nat} (hnd : K.Nodup) (hK : ∀ i ∈ K, i < n) : (K.map (loc n)).Nodup := by
  unfold List.Nodup
  rw [List.pairwise_map]
  refine List.Pairwise.imp_of_mem ?_ hnd
  intro a b ha hb hab e
  exact hab (loc_inj hn (hK a ha) (hK b hb) e)
theorem prs_fst (l : List GF) (K : List Nat) : (prs l K).map Prod.fst = K.map (loc l.length) := by
  unfold prs; rw [List.map_map]; rfl
theorem prs_len (l : List GF) (K : List Nat) : (prs l K).length = K.length := by unfold prs; exact List.length_map _
/-- The sum of two words of one length. -/
def addW (a b : List GF) : List GF := (List.range a.length).map fun i => a.getD i 0 + b.getD i 0
def scW (c : GF) (a : List GF) : List GF := a.map fun x => c * x
theorem addW_len (a b : List GF) : (addW a b).length = a.length := by simp [addW]
theorem scW_len (c : GF) (a : List GF) : (scW c a).length = a.length := by simp [scW]
theorem addW_get (a b : List GF) {i : Nat} (hi : i < a.length) : (addW a b).getD i 0 = a.getD i 0 + b.getD i 0 := by simp [addW, List.getD, hi]
theorem scW_get (c : GF) (a : List GF) (i : Nat) : (scW c a).getD i 0 = c * a.getD i 0 := by
  unfold scW
  simp only [List.getD, List.getElem?_map]
  cases a[i]? with
  | none => exact (GF.mul_zero c).symm
  | some x => rfl
theorem synd_add (a b : List GF) (h : a.length = b.length) (j : Nat) : synd (addW a b) j = synd a j + synd b j := by
  rw [synd_ser, synd_ser, synd_ser, addW_len, ← h]
  have key : ∀ K : List Nat, (∀ i ∈ K, i < a.length) → ser (prs (addW a b) K) j = ser (prs a K) j + ser (prs b K) j := by
    intro K
    induction K with
    | nil => intro _; exact (GF.add_zero 0).symm
    | cons i K ih =>
      intro hK
      show (addW a b).getD i 0 * gpow (loc (addW a b).length i) j + ser (prs (addW a b) K) j = (a.getD i 0 * gpow (loc a.length i) j + ser (prs a K) j) + (b.getD i 0 * gpow (loc b.length i) j + ser (prs b K) j)
      rw [ih fun i hi => hK i (List.mem_cons_of_mem _ hi), addW_get a b (hK i (List.mem_cons_self ..)), addW_len, ← h, GF.add_mul, GF.add_swap]
  exact key _ fun i hi => List.mem_range.1 hi
theorem synd_sc (c : GF) (a : List GF) (j : Nat) : synd (scW c a) j = c * synd a j := by
  rw [synd_ser, synd_ser, scW_len]
  have key : ∀ K : List Nat, ser (prs (scW c a) K) j = c * ser (prs a K) j := by
    intro K
    induction K with
    | nil => exact (GF.mul_zero c).symm
    | cons i K ih =>
      show (scW c a).getD i 0 * gpow (loc (scW c a).length i) j + ser (prs (scW c a) K) j = c * (a.getD i 0 * gpow (loc a.length i) j + ser (prs a K) j)
      rw [ih, scW_get, scW_len, GF.mul_add, GF.mul_assoc]
  exact key _
theorem isCW_add {p : Nat} {a b : List GF} (h : a.length = b.length) (ha : isCW p a) (hb : isCW p b) : isCW p (addW a b) := fun j hj => by rw [synd_add a b h, ha j hj, hb j hj, GF.add_zero]
theorem isCW_sc {p : Nat} (c : GF) {a : List GF} (ha : isCW p a) : isCW p (scW c a) := fun j hj => by rw [synd_sc, ha j hj, GF.mul_zero]
theorem isCW_less {p q : Nat} {a : List GF} (ha : isCW p a) (h : q ≤ p) : isCW q a := fun j hj => ha j (by omega)
/-- A code word that is 0 outside of at most p places is 0. -/
theorem cw_zero {p : Nat} {l : List GF} (hn : l.length ≤ 255) (hcw : isCW p l) (K : List Nat) (hnd : K.Nodup) (hK : ∀ i ∈ K, i < l.length) (hlen : K.length ≤ p) (h0 : ∀ i, i < l.length → i ∉ K → l.getD i 0 = 0) : ∀ i, i < l.length → l.getD i 0 = 0 := by
  have hs : ∀ j, j < p → ser (prs l K) j = 0 := fun j hj => by rw [← synd_places l K hnd hK h0 j]; exact hcw j hj
  have hz := ser_zero (t := prs l K) (p := p) (by rw [prs_fst]; exact locs_nodup hn hnd hK) (fun q hq => by
    obtain ⟨i, _, rfl⟩ := List.mem_map.1 hq
    exact loc_ne _ _) (by rw [prs_len]; exact hlen) hs
  intro i hi
  by_cases hik : i ∈ K
  · exact hz (loc l.length i, l.getD i 0) (List.mem_map.2 ⟨i, hik, rfl⟩)
  · exact h0 i hi hik
theorem eq_of_getD {a b : List GF} (hl : a.length = b.length) (h : ∀ i, i < a.length → a.getD i 0 = b.getD i 0) : a = b := by
  apply List.ext_getElem hl
  intro i h1 h2
  have := h i h1
  simpa [List.getD, List.getElem?_eq_getElem h1, List.getElem?_eq_getElem h2] using this
theorem cw_unique {p : Nat} {a b : List GF} (hl : a.length = b.length) (hn : a.length ≤ 255) (ha : isCW p a) (hb : isCW p b) (K : List Nat) (hnd : K.Nodup) (hK : ∀ i ∈ K, i < a.length) (hlen : K.length ≤ p) (h0 : ∀ i, i < a.length → i ∉ K → a.getD i 0 = b.getD i 0) : a = b := by
  have hz := cw_zero (l := addW a b) (by rw [addW_len]; exact hn) (isCW_add hl ha hb) K hnd (by rw [addW_len]; exact hK) hlen (fun i hi hik => by
    rw [addW_len] at hi
    rw [addW_get a b hi, h0 i hi hik, GF.add_self])
  refine eq_of_getD hl fun i hi => ?_
  have := hz i (by rw [addW_len]; exact hi)
  rw [addW_get a b hi] at this
  exact GF.eq_of_add this
/-- How many places outside of a list differ. -/
def wrongs (a b : List GF) (er : List Nat) : List Nat := (List.range a.length).filter fun i => decide (a.getD i 0 ≠ b.getD i 0) && decide (i ∉ er)
theorem mem_wrongs {a b : List GF} {er : List Nat} {i : Nat} : i ∈ wrongs a b er ↔ i < a.length ∧ a.getD i 0 ≠ b.getD i 0 ∧ i ∉ er := by
  unfold wrongs; rw [List.mem_filter, List.mem_range]; simp
theorem wrongs_nodup (a b : List GF) (er : List Nat) : (wrongs a b er).Nodup := nodup_filter _ List.nodup_range
/-- c is a code word within the bound of w. -/
def Within (p : Nat) (w : List GF) (er : List Nat) (c : List GF) : Prop := c.length = w.length ∧ isCW p c ∧ 2 * (wrongs w c er).length + er.length ≤ p
theorem within_unique {p : Nat} {w c d : List GF} {er : List Nat} (hn : w.length ≤ 255) (her : er.Nodup) (hK : ∀ i ∈ er, i < w.length) (hc : Within p w er c) (hd : Within p w er d) : c = d := by
  obtain ⟨c1, c2, c3⟩ := hc
  obtain ⟨d1, d2, d3⟩ := hd
  refine cw_unique (c1.trans d1.symm) (by omega) c2 d2 (er ++ (wrongs w c er ++ (wrongs w d er).filter fun i => decide (i ∉ wrongs w c er))) ?_ ?_ ?_ ?_
  · rw [List.nodup_append]
    refine ⟨her, ?_, ?_⟩
    · rw [List.nodup_append]
      refine ⟨wrongs_nodup _ _ _, nodup_filter _ (wrongs_nodup _ _ _), fun a ha b hb e => ?_⟩
      subst e
      have := (List.mem_filter.1 hb).2
      simp at this
      exact this ha
    · intro a ha b hb e
      subst e
      rcases List.mem_append.1 hb with h | h
      · exact (mem_wrongs.1 h).2.2 ha
      · exact (mem_wrongs.1 (List.mem_filter.1 h).1).2.2 ha
  · intro i hi
    rw [c1]
    rcases List.mem_append.1 hi with h | h
    · exact hK i h
    · rcases List.mem_append.1 h with h | h
      · exact (mem_wrongs.1 h).1
      · exact (mem_wrongs.1 (List.mem_filter.1 h).1).1
  · have := List.length_filter_le (fun i => decide (i ∉ wrongs w c er)) (wrongs w d er)
    simp only [List.length_append]
    omega
  · intro i hi hik
    simp only [List.mem_append, not_or] at hik
    obtain ⟨h1, h2, h3⟩ := hik
    rw [c1] at hi
    have e1 : w.getD i 0 = c.getD i 0 := by
      apply Classical.byContradiction
      intro h; exact h2 (mem_wrongs.2 ⟨hi, h, h1⟩)
    have e2 : w.getD i 0 = d.getD i 0 := by
      apply Classical.byContradiction
      intro h; exact h3 (List.mem_filter.2 ⟨mem_wrongs.2 ⟨hi, h, h1⟩, by simpa using h2⟩)
    rw [← e1, e2]
end Go.Proofs.Ytpkaaiefnabfbab
