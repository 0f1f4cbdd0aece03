/- The plain law of rs.correct: what its numbers are if there is a code word within the bound. -/
import Derived.Test.YtpkaaiefnabfbabRsJ
namespace Go.Proofs.Ytpkaaiefnabfbab
set_option linter.unusedVariables false

theorem LF.congr {T T' : PS} {N L : Nat} {C : PS} (h : ∀ i, i < N → T i = T' i) (k : LF T N L C) : LF T' N L C :=
  ⟨k.1, k.2.1, fun n h1 h2 => by rw [← cv_congr n (fun _ _ => rfl) (fun i hi => h i (by omega))]; exact k.2.2 n h1 h2⟩
theorem gpow_add (X : GF) (m k : Nat) : gpow X (m + k) = gpow X m * gpow X k := by
  induction k with
  | zero => show gpow X m = gpow X m * 1; rw [GF.mul_one]
  | succ k ih => show gpow X (m + k) * X = gpow X m * (gpow X k * X); rw [ih, GF.mul_assoc]
theorem cv_geo {X : GF} (hX : X ≠ 0) (k m : Nat) : ∀ f : PS, degB (m + 1) f → cv f (geo X) (m + k) = gpow X m * vH f X.inv (m + 1) * gpow X k := by
  induction m with
  | zero =>
    intro f hf
    rw [Nat.zero_add, vH_succ, vH_zero, GF.zero_mul, GF.zero_add]
    show cv f (geo X) k = 1 * f 0 * gpow X k
    rw [GF.one_mul]
    cases k with
    | zero => rfl
    | succ k =>
      rw [cv_succ, degB_zero (degB_tl hf), cv_pz, GF.add_zero]; rfl
  | succ m ih =>
    intro f hf
    rw [show m + 1 + k = (m + k) + 1 by omega, cv_succ, ih (tl f) (degB_tl hf), vH_succ f]
    show f 0 * gpow X (m + k + 1) + _ = gpow X m * X * _ * _
    have e : gpow X (m + k + 1) = gpow X m * X * gpow X k := by
      rw [show m + k + 1 = m + 1 + k by omega, gpow_add]; rfl
    rw [e]
    generalize vH (tl f) X.inv (m + 1) = v
    generalize gpow X m = a
    generalize gpow X k = b
    have e2 : a * X * (v * X.inv + f 0) = a * v + a * X * f 0 := by
      rw [GF.mul_add]
      congr 1
      rw [GF.mul_assoc, GF.mul_left_comm X, GF.mul_inv hX, GF.mul_one]
    rw [e2, GF.add_mul, GF.add_comm]
    congr 1
    rw [GF.mul_comm (f 0), GF.mul_assoc, GF.mul_assoc, GF.mul_assoc, GF.mul_assoc, GF.mul_comm b]
def wgt (f : PS) (m : Nat) (q : GF × GF) : GF × GF := (q.1, q.2 * (gpow q.1 m * vH f q.1.inv (m + 1)))
theorem cv_ser {f : PS} {m : Nat} (hf : degB (m + 1) f) (k : Nat) (t : List (GF × GF)) (hne : ∀ q ∈ t, q.1 ≠ 0) : cv f (ser t) (m + k) = ser (t.map (wgt f m)) k := by
  induction t with
  | nil => exact cv_pz_right f _
  | cons q t ih =>
    show cv f (padd (psc q.2 (geo q.1)) (ser t)) (m + k) = q.2 * (gpow q.1 m * vH f q.1.inv (m + 1)) * gpow q.1 k + ser (t.map (wgt f m)) k
    rw [cv_add_right, cv_sc_right, cv_geo (hne q (List.mem_cons_self ..)) k m f hf, ih fun q hq => hne q (List.mem_cons_of_mem _ hq)]
    congr 1
    simp only [GF.mul_assoc]
theorem ser_null {t : List (GF × GF)} (h : ∀ q ∈ t, q.2 = 0) (k : Nat) : ser t k = 0 := by
  induction t with
  | nil => rfl
  | cons q t ih =>
    rw [ser_cons, h q (List.mem_cons_self ..), GF.zero_mul, GF.zero_add, ih fun q hq => h q (List.mem_cons_of_mem _ hq)]

/-- What rs.correct has found when it has connected its sequence. -/
structure Dec (w : List GF) (p : Nat) (er : List Nat) (g T C : List GF) (L : Nat) : Prop where
  n : w.length ≤ 255
  nd : er.Nodup
  lt : ∀ i ∈ er, i < w.length
  f : er.length ≤ p
  hg : cf g = lam (er.map (loc w.length))
  hT : ∀ k, k < p - er.length → cf T k = cv (cf g) (cf (syndL w p)) (er.length + k)
  lf : LF (cf T) (p - er.length) L (cf C)
  least : ∀ l D, LF (cf T) (p - er.length) l D → L ≤ l

/-- The errors, as pairs of locator and value. -/
abbrev errs (w c : List GF) (K : List Nat) : List (GF × GF) := prs (addW w c) K
theorem errs_synd {w c : List GF} {p : Nat} {er : List Nat} (hnd : er.Nodup) (hlt : ∀ i ∈ er, i < w.length) (hc : Within p w er c) {j : Nat} (hj : j < p) : cf (syndL w p) j = ser (errs w c (er ++ wrongs w c er)) j := by
  have h1 : cf (syndL w p) j = synd w j := syndL_get w hj
  have h2 : synd (addW w c) j = synd w j := by rw [synd_add _ _ hc.1.symm, hc.2.1 j hj, GF.add_zero]
  rw [h1, ← h2]
  refine synd_places _ _ ?_ ?_ ?_ j
  · rw [List.nodup_append]
    exact ⟨hnd, wrongs_nodup _ _ _, fun a ha b hb e => (mem_wrongs.1 hb).2.2 (e ▸ ha)⟩
  · intro i hi
    rw [addW_len]
    rcases List.mem_append.1 hi with h | h
    · exact hlt i h
    · exact (mem_wrongs.1 h).1
  · intro i hi hn
    rw [addW_len] at hi
    rw [addW_get _ _ hi]
    by_cases e : w.getD i 0 = c.getD i 0
    · rw [e, GF.add_self]
    · exact absurd (List.mem_append_right er (mem_wrongs.2 ⟨hi, e, fun h => hn (List.mem_append_left _ h)⟩)) hn
theorem prs_ne (l : List GF) (K : List Nat) : ∀ q ∈ prs l K, q.1 ≠ 0 := by
  intro q hq
  obtain ⟨i, _, rfl⟩ := List.mem_map.1 hq
  exact loc_ne _ _
theorem loc_mem {n : Nat} (hn : n ≤ 255) {K : List Nat} (hK : ∀ i ∈ K, i < n) {i : Nat} (hi : i < n) : loc n i ∈ K.map (loc n) ↔ i ∈ K := by
  constructor
  · intro h
    obtain ⟨j, hj, e⟩ := List.mem_map.1 h
    rw [← loc_inj hn (hK j hj) hi e]; exact hj
  · intro h; exact List.mem_map.2 ⟨i, h, rfl⟩
theorem wgt_fst (f : PS) (m : Nat) (t : List (GF × GF)) : (t.map (wgt f m)).map Prod.fst = t.map Prod.fst := by
  rw [List.map_map]; rfl
theorem wrongs_lt {w c : List GF} {er : List Nat} : ∀ i ∈ wrongs w c er, i < w.length := fun i hi => (mem_wrongs.1 hi).1
theorem Dec.found {w : List GF} {p : Nat} {er : List Nat} {g T C : List GF} {L : Nat} (h : Dec w p er g T C L) {c : List GF} (hc : Within p w er c) :
    L = (wrongs w c er).length ∧ cf C = lam ((wrongs w c er).map (loc w.length)) := by
  have hl : (addW w c).length = w.length := addW_len w c
  have hdg : degB (er.length + 1) (cf g) := by rw [h.hg]; have := degB_lam (er.map (loc w.length)); rwa [List.length_map] at this
  have hval : ∀ i, vH (cf g) (loc w.length i).inv (er.length + 1) = plv (er.map (loc w.length)) (loc w.length i).inv := fun i => by
    rw [h.hg]; have := vH_lam (er.map (loc w.length)) (loc w.length i).inv; rwa [List.length_map] at this
  -- the sequence is a sum of powers
  have hT : ∀ k, k < p - er.length → cf T k = ser ((errs w c (wrongs w c er)).map (wgt (cf g) er.length)) k := by
    intro k hk
    rw [h.hT k hk, cv_congr (er.length + k) (f' := cf g) (g' := ser (errs w c (er ++ wrongs w c er))) (fun _ _ => rfl) (fun i hi => errs_synd h.nd h.lt hc (by omega)), cv_ser hdg k _ (prs_ne _ _)]
    have e : prs (addW w c) (er ++ wrongs w c er) = errs w c er ++ errs w c (wrongs w c er) := List.map_append ..
    rw [e, List.map_append, ser_append]
    show _ + _ = _
    rw [ser_null, GF.zero_add]
    intro q hq
    obtain ⟨q', hq', rfl⟩ := List.mem_map.1 hq
    obtain ⟨i, hi, rfl⟩ := List.mem_map.1 hq'
    show _ * (gpow _ _ * vH (cf g) (loc (addW w c).length i).inv (er.length + 1)) = 0
    rw [hl, hval, plv_zero (loc_ne _ _) (List.mem_map.2 ⟨i, hi, rfl⟩), GF.mul_zero, GF.mul_zero]
  have hfst : ((errs w c (wrongs w c er)).map (wgt (cf g) er.length)).map Prod.fst = (wrongs w c er).map (loc w.length) := by
    rw [wgt_fst, prs_fst, hl]
  have hlen : ((errs w c (wrongs w c er)).map (wgt (cf g) er.length)).length = (wrongs w c er).length := by
    rw [List.length_map, prs_len]
  have hu := lf_unique (t := (errs w c (wrongs w c er)).map (wgt (cf g) er.length)) (N := p - er.length) (L := L) (C := cf C)
    (by rw [hfst]; exact locs_nodup h.n (wrongs_nodup _ _ _) wrongs_lt)
    (by
      intro q hq
      obtain ⟨q', hq', rfl⟩ := List.mem_map.1 hq
      obtain ⟨i, hi, rfl⟩ := List.mem_map.1 hq'
      obtain ⟨h1, h2, h3⟩ := mem_wrongs.1 hi
      refine ⟨loc_ne _ _, ?_⟩
      show (addW w c).getD i 0 * (gpow (loc (addW w c).length i) er.length * vH (cf g) (loc (addW w c).length i).inv (er.length + 1)) ≠ 0
      rw [hl, hval, addW_get _ _ h1]
      intro e
      rcases GF.mul_eq_zero e with e | e
      · exact h2 (GF.eq_of_add e)
      · rcases GF.mul_eq_zero e with e | e
        · unfold loc at e; rw [gpow_exp] at e; exact GF.exp_ne _ e
        · exact plv_ne (loc_ne _ _) (fun hm => h3 ((loc_mem h.n h.lt h1).1 hm)) e)
    (by rw [hlen]; have := hc.2.2; omega)
    (h.lf.congr hT) (fun l D hD => h.least l D (hD.congr fun i hi => (hT i hi).symm))
  rw [hlen, hfst] at hu
  exact hu
/-- The places that are found. -/
def plc (w : List GF) (er : List Nat) (C : List GF) : List Nat := (List.range w.length).filter fun i => decide (valL C (GF.exp ((i : Int) + 1 - (w.length : Nat))) = 0) && decide (i ∉ er)
theorem loc_inv (n i : Nat) : GF.exp ((i : Int) + 1 - n) = (loc n i).inv := by
  unfold loc; rw [← GF.exp_neg]; congr 1; omega
theorem Dec.places {w : List GF} {p : Nat} {er : List Nat} {g T C : List GF} {L : Nat} (h : Dec w p er g T C L) {c : List GF} (hc : Within p w er c) : plc w er C = wrongs w c er := by
  obtain ⟨hL, hC⟩ := h.found hc
  unfold plc
  have hv : ∀ z, valL C z = plv ((wrongs w c er).map (loc w.length)) z := fun z => by
    rw [valL_of z hC (degB_lam _), vH_lam]
  have e : wrongs w c er = (List.range w.length).filter fun i => decide (i ∈ wrongs w c er) := by
    unfold wrongs
    apply List.filter_congr
    intro i hi
    rw [← Bool.decide_and]
    rw [decide_eq_decide]
    show _ ↔ i ∈ wrongs w c er
    rw [mem_wrongs]
    have := List.mem_range.1 hi
    simp [this]
  conv => rhs; rw [e]
  apply List.filter_congr
  intro i hi
  have hi' := List.mem_range.1 hi
  rw [← Bool.decide_and, decide_eq_decide, loc_inv, hv]
  constructor
  · intro ⟨h1, h2⟩
    have : loc w.length i ∈ (wrongs w c er).map (loc w.length) := Classical.byContradiction fun hn => plv_ne (loc_ne _ _) hn h1
    exact (loc_mem h.n wrongs_lt hi').1 this
  · intro hm
    exact ⟨plv_zero (loc_ne _ _) (List.mem_map.2 ⟨i, hm, rfl⟩), (mem_wrongs.1 hm).2.2⟩
theorem plc_nodup (w : List GF) (er : List Nat) (C : List GF) : (plc w er C).Nodup := nodup_filter _ List.nodup_range
theorem mem_plc {w : List GF} {er : List Nat} {C : List GF} {i : Nat} (h : i ∈ plc w er C) : i < w.length ∧ i ∉ er := by
  unfold plc at h
  simp only [List.mem_filter, List.mem_range, Bool.and_eq_true, decide_eq_true_eq] at h
  exact ⟨h.1, h.2.2⟩
theorem all_nodup {w : List GF} {er : List Nat} (C : List GF) (hnd : er.Nodup) : (er ++ plc w er C).Nodup := by
  rw [List.nodup_append]
  exact ⟨hnd, plc_nodup _ _ _, fun a ha b hb e => (mem_plc hb).2 (e ▸ ha)⟩
/-- The value that is added at a place. -/
def fixV (n : Nat) (M D : List GF) (i : Nat) : GF := valL M (GF.exp ((i : Int) + 1 - n)) * (valL D (GF.exp ((i : Int) + 1 - n))).inv * loc n i
theorem Dec.values {w : List GF} {p : Nat} {er : List Nat} {g T C : List GF} {L : Nat} (h : Dec w p er g T C L) {c : List GF} (hc : Within p w er c)
    {A M D : List GF} (hA : cf A = cv (cf C) (cf g)) (hM : ∀ j, cf M j = if j < p then cv (cf A) (cf (syndL w p)) j else 0) (hD : cf D = dvS (cf A)) :
    ∀ i ∈ er ++ plc w er C, valL D (GF.exp ((i : Int) + 1 - w.length)) ≠ 0 ∧ fixV w.length M D i = w.getD i 0 + c.getD i 0 := by
  rw [h.places hc]
  intro i hi
  have hl : (addW w c).length = w.length := addW_len w c
  have hlt : ∀ i ∈ er ++ wrongs w c er, i < w.length := fun i hi => (List.mem_append.1 hi).elim (h.lt i) (wrongs_lt i)
  have hnd : (er ++ wrongs w c er).Nodup := by
    rw [List.nodup_append]
    exact ⟨h.nd, wrongs_nodup _ _ _, fun a ha b hb e => (mem_wrongs.1 hb).2.2 (e ▸ ha)⟩
  have hAl : cf A = lam ((errs w c (er ++ wrongs w c er)).map Prod.fst) := by
    rw [hA, (h.found hc).2, h.hg, prs_fst, hl, List.map_append, lam_append, cv_comm']
  have hMo : cf M = om (errs w c (er ++ wrongs w c er)) := by
    funext j
    rw [hM]
    by_cases hj : j < p
    · rw [if_pos hj, ← lam_ser, ← hAl]
      exact cv_congr j (fun _ _ => rfl) fun i hi => errs_synd h.nd h.lt hc (by omega)
    · rw [if_neg hj]
      refine (degB_om _ j ?_).symm
      rw [prs_len, List.length_append]
      have := hc.2.2
      omega
  have hf := forney (t := errs w c (er ++ wrongs w c er)) (by rw [prs_fst, hl]; exact locs_nodup h.n hnd hlt) (prs_ne _ _) (loc w.length i, (addW w c).getD i 0) (List.mem_map.2 ⟨i, hi, by rw [hl]⟩)
  have v1 : valL M (GF.exp ((i : Int) + 1 - w.length)) = omv (errs w c (er ++ wrongs w c er)) (loc w.length i).inv := by
    rw [loc_inv, valL_of _ hMo (degB_om _), vH_om]
  have v2 : valL D (GF.exp ((i : Int) + 1 - w.length)) = dlv ((errs w c (er ++ wrongs w c er)).map Prod.fst) (loc w.length i).inv := by
    rw [loc_inv, valL_of _ (show cf D = dvS (lam ((errs w c (er ++ wrongs w c er)).map Prod.fst)) by rw [hD, hAl]) (degB_dvS (degB_lam _)), vH_dlam]
  unfold fixV
  rw [v1, v2]
  obtain ⟨f1, f2⟩ := hf
  refine ⟨f2, ?_⟩
  rw [← addW_get _ _ (hlt i hi)]
  generalize omv (errs w c (er ++ wrongs w c er)) (loc w.length i).inv = a at *
  generalize dlv ((errs w c (er ++ wrongs w c er)).map Prod.fst) (loc w.length i).inv = d at *
  have : a * loc w.length i = (addW w c).getD i 0 * d := f1
  rw [GF.mul_assoc, GF.mul_comm d.inv, ← GF.mul_assoc, this, GF.mul_assoc, GF.mul_inv f2, GF.mul_one]
/-- The word with some places mended. -/
def outAt (w : List GF) (q : Nat → GF) (S : List Nat) : List GF := (List.range w.length).map fun i => if i ∈ S then w.getD i 0 + q i else w.getD i 0
theorem outAt_len (w : List GF) (q : Nat → GF) (S : List Nat) : (outAt w q S).length = w.length := by simp [outAt]
theorem outAt_get (w : List GF) (q : Nat → GF) (S : List Nat) {i : Nat} (hi : i < w.length) : (outAt w q S).getD i 0 = if i ∈ S then w.getD i 0 + q i else w.getD i 0 := by simp [outAt, List.getD, hi]
theorem outAt_nil (w : List GF) (q : Nat → GF) : outAt w q [] = w :=
  eq_of_getD (outAt_len _ _ _) fun i hi => by rw [outAt_len] at hi; rw [outAt_get _ _ _ hi, if_neg (by simp)]
theorem outAt_step (w : List GF) (q : Nat → GF) (S : List Nat) {i : Nat} (hi : i < w.length) (hS : i ∉ S) : (outAt w q S).set i ((outAt w q S).getD i 0 + q i) = outAt w q (S ++ [i]) := by
  refine eq_of_getD (by rw [List.length_set, outAt_len, outAt_len]) fun j hj => ?_
  rw [List.length_set, outAt_len] at hj
  rw [outAt_get _ _ _ hj]
  by_cases e : j = i
  · subst e
    rw [getD_set_self (by rw [outAt_len]; exact hj) _, outAt_get _ _ _ hj, if_neg hS, if_pos (by simp)]
  · rw [getD_set_other (Ne.symm e) _, outAt_get _ _ _ hj]
    simp [e]
theorem Dec.out {w : List GF} {p : Nat} {er : List Nat} {g T C : List GF} {L : Nat} (h : Dec w p er g T C L) {c : List GF} (hc : Within p w er c) {q : Nat → GF}
    (hq : ∀ i ∈ er ++ plc w er C, q i = w.getD i 0 + c.getD i 0) : outAt w q (er ++ plc w er C) = c := by
  refine eq_of_getD (by rw [outAt_len, hc.1]) fun i hi => ?_
  rw [outAt_len] at hi
  rw [outAt_get _ _ _ hi]
  by_cases hm : i ∈ er ++ plc w er C
  · rw [if_pos hm, hq i hm, ← GF.add_assoc, GF.add_self, GF.zero_add]
  · rw [if_neg hm]
    rw [h.places hc] at hm
    apply Classical.byContradiction
    intro e
    exact hm (List.mem_append_right _ (mem_wrongs.2 ⟨hi, e, fun he => hm (List.mem_append_left _ he)⟩))
/-- What the last check gives. -/
theorem out_within {w : List GF} {p : Nat} {er : List Nat} {C : List GF} {L : Nat} (hf : er.length ≤ p) (h2 : 2 * L ≤ p - er.length) (hl : (er ++ plc w er C).length = er.length + L) (q : Nat → GF)
    (hcw : isCW p (outAt w q (er ++ plc w er C))) : Within p w er (outAt w q (er ++ plc w er C)) := by
  refine ⟨outAt_len _ _ _, hcw, ?_⟩
  have hs : (wrongs w (outAt w q (er ++ plc w er C)) er).length ≤ (plc w er C).length := by
    apply List.Nodup.length_le_of_subset (wrongs_nodup _ _ _)
    intro i hi
    obtain ⟨h1, h2, h3⟩ := mem_wrongs.1 hi
    rw [outAt_get _ _ _ h1] at h2
    by_cases hm : i ∈ er ++ plc w er C
    · exact (List.mem_append.1 hm).resolve_left h3
    · rw [if_neg hm] at h2; exact absurd rfl h2
  rw [List.length_append] at hl
  omega
end Go.Proofs.Ytpkaaiefnabfbab
