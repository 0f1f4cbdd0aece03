/- Texts of this proof, laid together: XSvE, XSvF, XSvG, XSvH, XRsP. -/
import Derived.Test.YtmpjkdkgolmgdaaGreatMe
import Derived.Test.YtmpjkdkgolmgdaaGreatMd
/- The walk of the reference's Solve. -/
namespace Go.Proofs.YtmpjkdkgolmgdaaGreat
open Go.RowKit
set_option linter.unusedVariables false

/-- What Solve returns. -/
def SvPost (h u : Nat) (M0 : Mat) (w : World) (e : Ending) (w' : World) : Prop :=
  ∃ A' c' x ok, e = .returned (.tuple #[.slice A' u c', .bool ok]) ∧ OwB w' w.heap.size (.slice A' u c') x ∧ (ok = true → Sol h u M0 (cf x)) ∧ (ok = false → ∀ x, ¬ Sol h u M0 x) ∧ Below w.heap.size w w'
end Go.Proofs.YtmpjkdkgolmgdaaGreat
/- The equations of the reference's Encode and Decode, plain: what their solutions say of words. -/
namespace Go.Proofs.YtmpjkdkgolmgdaaGreat
set_option linter.unusedVariables false

/-! ### Division exists -/
theorem div_ex {g : PS} {p : Nat} (hg : degB (p + 1) g) (h1 : g p = 1) : ∀ (N : Nat) (f : PS), degB N f → ∃ s r : PS, degB N s ∧ degB p r ∧ ∀ i, f i = cv s g i + r i := by
  intro N
  induction N with
  | zero => exact fun f hf => ⟨pz, pz, fun _ _ => rfl, fun _ _ => rfl, fun i => by rw [cv_pz]; exact (hf i (Nat.zero_le _)).trans (GF.add_zero 0).symm⟩
  | succ N ih =>
    intro f hf
    obtain ⟨s, r, hs, hr, he⟩ := ih (tl f) (degB_tl hf)
    -- the rest, moved up by one, with the new coefficient
    obtain ⟨h, hh⟩ : ∃ h : PS, h = fun i => match i with | 0 => f 0 | i + 1 => r i := ⟨_, rfl⟩
    have hhd : degB (p + 1) h := fun i hi => by
      subst hh
      cases i with
      | zero => omega
      | succ i => exact hr i (by omega)
    have hfi : ∀ i, f i = cv (px s) g i + h i := fun i => by
      subst hh
      rw [cv_px]
      cases i with
      | zero => exact (GF.zero_add _).symm
      | succ i => exact he i
    refine ⟨padd (px s) (fun i => if i = 0 then h p else 0), padd h (psc (h p) g), fun i hi => ?_, fun i hi => ?_, fun i => ?_⟩
    · show px s i + (if i = 0 then h p else 0) = 0
      rw [if_neg (by omega), GF.add_zero]
      cases i with
      | zero => omega
      | succ i => exact hs i (by omega)
    · show h i + h p * g i = 0
      by_cases e : i = p
      · subst e; rw [h1, GF.mul_one, GF.add_self]
      · rw [hhd i (by omega), hg i (by omega), GF.mul_zero, GF.add_zero]
    · rw [cv_add_left, cv_single, if_pos (Nat.zero_le _), Nat.sub_zero]
      show f i = cv (px s) g i + h p * g i + (h i + h p * g i)
      rw [hfi i, GF.add_assoc, GF.add_comm (h i), ← GF.add_assoc (h p * g i), GF.add_self, GF.zero_add]
theorem ofF_len (n : Nat) (f : PS) : (ofF n f).length ≤ n := by
  unfold ofF
  exact Nat.le_trans (trim_len_le _) (by simp)
theorem enc_ex (data : List GF) (p : Nat) : ∃ wd, IsEnc data p wd := by
  have hg := genP_top p
  obtain ⟨s, r, hs, hr, he⟩ := div_ex (g := cf (genP p)) (p := p) (by have := degB_cf (genP p); rw [hg.1] at this; exact this) hg.2 _ _ (degB_cf (data ++ List.replicate p 0).reverse)
  refine ⟨encOf data (ofF p r) p, encOf_cw (q := ofF (data ++ List.replicate p 0).reverse.length s) ⟨Tr_ofF _ _, Tr_ofF _ _, ?_, fun i => ?_⟩⟩
  · rw [hg.1]; have := ofF_len p r; omega
  · rw [cf_ofF hs, cf_ofF hr]; exact he i
/-! ### The equations for the values at given places -/
def colR (K : List Nat) (n j : Nat) : List GF := K.map fun (q : Nat) => GF.exp ((j : Int) * ((n : Int) - 1 - (q : Int)))
def colL (K : List Nat) (n p : Nat) : List (List GF) := (List.range p).map (colR K n)
theorem colL_len (K : List Nat) (n p : Nat) : (colL K n p).length = p := by simp [colL]
theorem colL_succ (K : List Nat) (n p : Nat) : colL K n (p + 1) = colL K n p ++ [colR K n p] := by simp [colL, List.range_succ]
theorem colL_get (K : List Nat) (n : Nat) {p j : Nat} (hj : j < p) : (colL K n p).getD j [] = colR K n j := by simp [colL, List.getD, hj]
theorem colR_len (K : List Nat) (n j : Nat) : (colR K n j).length = K.length := by simp [colR]
theorem colR_get (K : List Nat) (n j : Nat) {k : Nat} (hk : k < K.length) : (colR K n j).getD k 0 = gpow (loc n (K.getD k 0)) j := by
  unfold loc
  rw [gpow_exp, Int.mul_comm]
  simp [colR, List.getD, hk]
theorem colR_take (K : List Nat) (n j : Nat) {k : Nat} (hk : k < K.length) : (colR K n j).take (k + 1) = (colR K n j).take k ++ [GF.exp ((j : Int) * ((n : Int) - 1 - ((K.getD k 0 : Nat) : Int)))] := by
  rw [List.take_succ_eq_append_getElem (by rw [colR_len]; exact hk)]
  congr 1
  simp [colR, List.getD, hk]
theorem dotF_ser {r x : PS} {X : Nat → GF} {j u : Nat} (h : ∀ k, k < u → r k = gpow (X k) j) : dotF r x u = ser ((List.range u).map fun k => (X k, x k)) j := by
  induction u with
  | zero => rfl
  | succ u ih =>
    rw [List.range_succ, List.map_append, List.map_cons, List.map_nil, ser_snoc, ← ih fun k hk => h k (by omega)]
    show dotF r x u + r u * x u = _
    rw [h u (by omega), GF.mul_comm]
theorem prs_range (l : List GF) (K : List Nat) : prs l K = (List.range K.length).map fun k => (loc l.length (K.getD k 0), l.getD (K.getD k 0) 0) := by
  unfold prs
  apply List.ext_getElem
  · simp
  · intro i h1 h2
    have hi : i < K.length := by simpa using h1
    simp [hi]
theorem getDn_mem {K : List Nat} {k : Nat} (hk : k < K.length) : K.getD k 0 ∈ K := by
  have : K.getD k 0 = K[k] := by simp [hk]
  rw [this]; exact List.getElem_mem hk
theorem cols_iff {w : List GF} {p : Nat} {K : List Nat} {x : PS} (hnd : K.Nodup) (hK : ∀ i ∈ K, i < w.length) (q : Nat → GF) (hq : ∀ k, k < K.length → q (K.getD k 0) = x k) :
    Sol p K.length (eqM (colL K w.length p) (syndL w p) K.length) x ↔ isCW p (outAt w q K) := by
  have hl : (addW w (outAt w q K)).length = w.length := addW_len _ _
  have hval : ∀ i, i < w.length → (addW w (outAt w q K)).getD i 0 = if i ∈ K then q i else 0 := fun i hi => by
    rw [addW_get _ _ hi, outAt_get _ _ _ hi]
    by_cases h : i ∈ K
    · rw [if_pos h, if_pos h, ← GF.add_assoc, GF.add_self, GF.zero_add]
    · rw [if_neg h, if_neg h, GF.add_self]
  have hrow : ∀ j, j < p → (SolR K.length x (eqM (colL K w.length p) (syndL w p) K.length j) ↔ synd (outAt w q K) j = 0) := fun j hj => by
    have h1 : synd (addW w (outAt w q K)) j = ser (prs (addW w (outAt w q K)) K) j := synd_places _ K hnd (fun i hi => by rw [hl]; exact hK i hi) (fun i hi hn => by rw [hl] at hi; rw [hval i hi, if_neg hn]) j
    have h2 : ser (prs (addW w (outAt w q K)) K) j = dotF (eqM (colL K w.length p) (syndL w p) K.length j) x K.length := by
      rw [prs_range, hl, dotF_ser (X := fun k => loc w.length (K.getD k 0))]
      · congr 1
        apply List.map_congr_left
        intro k hk
        have hk' := List.mem_range.1 hk
        have hm := getDn_mem hk'
        rw [hval _ (hK _ hm), if_pos hm, hq k hk']
      · intro k hk
        unfold eqM
        rw [if_pos hk, colL_get _ _ hj, colR_get _ _ _ hk]
    have h3 : eqM (colL K w.length p) (syndL w p) K.length j K.length = synd w j := by
      unfold eqM
      rw [if_neg (Nat.lt_irrefl _), syndL_get w hj]
    unfold SolR
    rw [h3, ← h2, ← h1, synd_add _ _ (outAt_len _ _ _).symm]
    constructor
    · intro e
      refine GF.add_cancel (x := synd w j) ?_
      rw [e, GF.add_zero]
    · intro e; rw [e, GF.add_zero]
  constructor
  · intro h j hj; exact (hrow j hj).1 (h j hj)
  · intro h j hj; exact (hrow j hj).2 (h j hj)
/-! ### Encode -/
def encK (d p : Nat) : List Nat := (List.range p).map fun i => d + i
theorem encK_len (d p : Nat) : (encK d p).length = p := by simp [encK]
theorem encK_get (d : Nat) {p k : Nat} (hk : k < p) : (encK d p).getD k 0 = d + k := by simp [encK, List.getD, hk]
theorem encK_succ (d p : Nat) : encK d (p + 1) = encK d p ++ [d + p] := by simp [encK, List.range_succ]
theorem encK_nodup (d p : Nat) : (encK d p).Nodup := by
  unfold encK
  rw [List.nodup_iff_pairwise_ne, List.pairwise_map]
  exact (List.nodup_iff_pairwise_ne.1 (List.nodup_range (n := p))).imp fun h e => h (by omega)
theorem mem_encK {d p i : Nat} : i ∈ encK d p ↔ d ≤ i ∧ i < d + p := by
  unfold encK
  rw [List.mem_map]
  constructor
  · rintro ⟨k, hk, rfl⟩
    have := List.mem_range.1 hk
    omega
  · intro h; exact ⟨i - d, List.mem_range.2 (by omega), by omega⟩
theorem zeros_get (data : List GF) (p i : Nat) : (data ++ List.replicate p (0 : GF)).getD i 0 = data.getD i 0 := by
  by_cases h : i < data.length
  · simp [List.getD, List.getElem?_append, h]
  · by_cases h2 : i - data.length < p
    · simp [List.getD, List.getElem?_append, h, h2]
    · simp [List.getD, List.getElem?_append, h, h2]
theorem app_getD (a b : List GF) (i : Nat) : (a ++ b).getD i 0 = if i < a.length then a.getD i 0 else b.getD (i - a.length) 0 := by
  by_cases h : i < a.length
  · rw [if_pos h]; simp [List.getD, List.getElem?_append, h]
  · rw [if_neg h]; simp [List.getD, List.getElem?_append, h]
theorem enc_out {data x : List GF} {p : Nat} (hx : x.length = p) : outAt (data ++ List.replicate p 0) (fun i => x.getD (i - data.length) 0) (encK data.length p) = data ++ x := by
  refine eq_of_getD (by rw [outAt_len]; simp [hx]) fun i hi => ?_
  rw [outAt_len] at hi
  rw [outAt_get _ _ _ hi, zeros_get, app_getD]
  have hi' : i < data.length + p := by simpa using hi
  by_cases h : i < data.length
  · rw [if_pos h, if_neg (fun e => by have := (mem_encK.1 e).1; omega)]
  · rw [if_neg h, if_pos (mem_encK.2 ⟨by omega, hi'⟩)]
    have : data.getD i 0 = 0 := by simp [List.getD, Nat.le_of_not_lt h]
    rw [this, GF.zero_add]
theorem enc_sol {data x : List GF} {p : Nat} (hx : x.length = p) : Sol p p (eqM (colL (encK data.length p) (data.length + p) p) (syndL (data ++ List.replicate p 0) p) p) (cf x) ↔ IsEnc data p (data ++ x) := by
  have h := cols_iff (w := data ++ List.replicate p 0) (p := p) (K := encK data.length p) (x := cf x) (encK_nodup _ _) (fun i hi => by have := mem_encK.1 hi; simp; omega) (fun i => x.getD (i - data.length) 0) (fun k hk => by
    rw [encK_len] at hk
    rw [encK_get _ hk, Nat.add_sub_cancel_left]; rfl)
  rw [encK_len, enc_out hx] at h
  have hl : (data ++ List.replicate p (0 : GF)).length = data.length + p := by simp
  rw [hl] at h
  rw [h]
  constructor
  · intro hc; exact ⟨by simp [hx], by simp, hc⟩
  · intro hc; exact hc.2.2
theorem enc_has {data : List GF} {p : Nat} : ∃ x, Sol p p (eqM (colL (encK data.length p) (data.length + p) p) (syndL (data ++ List.replicate p 0) p) p) x := by
  obtain ⟨wd, h⟩ := enc_ex data p
  have hl : (wd.drop data.length).length = p := by rw [List.length_drop, h.1]; omega
  refine ⟨cf (wd.drop data.length), (enc_sol hl).2 ?_⟩
  have e : data ++ wd.drop data.length = wd := by
    conv => lhs; rw [← h.2.1]
    rw [h.2.1]
    conv => rhs; rw [← List.take_append_drop data.length wd, h.2.1]
  rw [e]; exact h
end Go.Proofs.YtmpjkdkgolmgdaaGreat
/- The reference's Decode, plain: at the number of errors of the nearest word it finds this word, and whatever it accepts is near enough. -/
namespace Go.Proofs.YtmpjkdkgolmgdaaGreat
set_option linter.unusedVariables false

theorem lf_least {t : List (GF × GF)} {N : Nat} (hnd : (t.map Prod.fst).Nodup) (hne : ∀ q ∈ t, q.1 ≠ 0 ∧ q.2 ≠ 0) (hN : 2 * t.length ≤ N) : ∀ (l : Nat) (D : PS), LF (ser t) N l D → t.length ≤ l := by
  intro l
  induction l using Nat.strongRecOn with
  | ind l ih =>
    intro D hD
    by_cases h : ∃ l' D', l' < l ∧ LF (ser t) N l' D'
    · obtain ⟨l', D', h1, h2⟩ := h
      exact Nat.le_of_lt (Nat.lt_of_le_of_lt (ih l' h1 D' h2) h1)
    · have := lf_unique hnd hne hN hD (fun l' D' h' => Nat.le_of_not_lt fun hlt => h ⟨l', D', hlt, h'⟩)
      rw [← this.1]
      exact Nat.le_refl _
/-- What is known before the number of errors is tried. -/
structure Dec0 (w : List GF) (p : Nat) (er : List Nat) (g T : List GF) : Prop where
  n : w.length ≤ 255
  nd : er.Nodup
  lt : ∀ i ∈ er, i < w.length
  f : er.length ≤ p
  hg : cf g = lam (er.map (loc w.length))
  hT : ∀ k, k < p - er.length → cf T k = cv (cf g) (cf (syndL w p)) (er.length + k)
theorem Dec0.ser {w : List GF} {p : Nat} {er : List Nat} {g T : List GF} (h : Dec0 w p er g T) {c : List GF} (hc : Within p w er c) :
    ∃ t : List (GF × GF), t.map Prod.fst = (wrongs w c er).map (loc w.length) ∧ t.length = (wrongs w c er).length ∧ (∀ q ∈ t, q.1 ≠ 0 ∧ q.2 ≠ 0) ∧ ∀ k, k < p - er.length → cf T k = ser t k := by
  have hl : (addW w c).length = w.length := addW_len w c
  have hdg : degB (er.length + 1) (cf g) := by rw [h.hg]; have := degB_lam (er.map (loc w.length)); rwa [List.length_map] at this
  have hval : ∀ i, vH (cf g) (loc w.length i).inv (er.length + 1) = plv (er.map (loc w.length)) (loc w.length i).inv := fun i => by
    rw [h.hg]; have := vH_lam (er.map (loc w.length)) (loc w.length i).inv; rwa [List.length_map] at this
  refine ⟨(errs w c (wrongs w c er)).map (wgt (cf g) er.length), ?_, ?_, ?_, ?_⟩
  · rw [wgt_fst, prs_fst, hl]
  · rw [List.length_map, prs_len]
  · intro q hq
    obtain ⟨q', hq', rfl⟩ := List.mem_map.1 hq
    obtain ⟨i, hi, rfl⟩ := List.mem_map.1 hq'
    obtain ⟨h1, h2, h3⟩ := mem_wrongs.1 hi
    refine ⟨loc_ne _ _, ?_⟩
    show (addW w c).getD i 0 * (gpow (loc (addW w c).length i) er.length * vH (cf g) (loc (addW w c).length i).inv (er.length + 1)) ≠ 0
    rw [hl, hval, addW_get _ _ h1]
    intro e
    rcases GF.mul_eq_zero e with e | e
    · exact h2 (GF.eq_of_add e)
    · rcases GF.mul_eq_zero e with e | e
      · unfold loc at e; rw [gpow_exp] at e; exact GF.exp_ne _ e
      · exact plv_ne (loc_ne _ _) (fun hm => h3 ((loc_mem h.n h.lt h1).1 hm)) e
  · intro k hk
    rw [h.hT k hk, cv_congr (er.length + k) (f' := cf g) (g' := Go.Proofs.YtmpjkdkgolmgdaaGreat.ser (errs w c (er ++ wrongs w c er))) (fun _ _ => rfl) (fun i hi => errs_synd h.nd h.lt hc (by omega)), cv_ser hdg k _ (prs_ne _ _)]
    have e : prs (addW w c) (er ++ wrongs w c er) = errs w c er ++ errs w c (wrongs w c er) := List.map_append ..
    rw [e, List.map_append, ser_append]
    show _ + _ = _
    rw [ser_null, GF.zero_add]
    intro q hq
    obtain ⟨q', hq', rfl⟩ := List.mem_map.1 hq
    obtain ⟨i, hi, rfl⟩ := List.mem_map.1 hq'
    show _ * (gpow _ _ * vH (cf g) (loc (addW w c).length i).inv (er.length + 1)) = 0
    rw [hl, hval, plv_zero (loc_ne _ _) (List.mem_map.2 ⟨i, hi, rfl⟩), GF.mul_zero, GF.mul_zero]
theorem Dec0.dec {w : List GF} {p : Nat} {er : List Nat} {g T C : List GF} (h : Dec0 w p er g T) {c : List GF} (hc : Within p w er c) (hC : LF (cf T) (p - er.length) (wrongs w c er).length (cf C)) : Dec w p er g T C (wrongs w c er).length := by
  obtain ⟨t, h1, h2, h3, h4⟩ := h.ser hc
  have hb := hc.2.2
  refine ⟨h.n, h.nd, h.lt, h.f, h.hg, h.hT, hC, fun l D hD => ?_⟩
  rw [← h2]
  exact lf_least (by rw [h1]; exact locs_nodup h.n (wrongs_nodup _ _ _) wrongs_lt) h3 (by omega) l D (hD.congr h4)
theorem Dec0.lam {w : List GF} {p : Nat} {er : List Nat} {g T : List GF} (h : Dec0 w p er g T) {c : List GF} (hc : Within p w er c) : LF (cf T) (p - er.length) (wrongs w c er).length (lam ((wrongs w c er).map (loc w.length))) := by
  obtain ⟨t, h1, h2, h3, h4⟩ := h.ser hc
  refine LF.congr (fun i hi => (h4 i hi).symm) ?_
  rw [← h1, ← h2]
  refine ⟨lam_zero _, ?_, fun n h1 _ => ?_⟩
  · have := degB_lam (t.map Prod.fst); rwa [List.length_map] at this
  · rw [lam_ser]; exact degB_om t n h1
/-! ### The equations for the places -/
def rowD (xi : List GF) (j e : Nat) : List GF := (List.range e).map fun k => cf xi (j - (k + 1))
def rowsD (xi : List GF) (f e n : Nat) : List (List GF) := (List.range n).map fun i => rowD xi (f + e + i) e
def rhsD (xi : List GF) (f e n : Nat) : List GF := (List.range n).map fun i => cf xi (f + e + i)
theorem rowD_len (xi : List GF) (j e : Nat) : (rowD xi j e).length = e := by simp [rowD]
theorem rowD_succ (xi : List GF) (j e : Nat) : rowD xi j (e + 1) = rowD xi j e ++ [cf xi (j - (e + 1))] := by simp [rowD, List.range_succ]
theorem rowsD_len (xi : List GF) (f e n : Nat) : (rowsD xi f e n).length = n := by simp [rowsD]
theorem rowsD_succ (xi : List GF) (f e n : Nat) : rowsD xi f e (n + 1) = rowsD xi f e n ++ [rowD xi (f + e + n) e] := by simp [rowsD, List.range_succ]
theorem rhsD_len (xi : List GF) (f e n : Nat) : (rhsD xi f e n).length = n := by simp [rhsD]
theorem rhsD_succ (xi : List GF) (f e n : Nat) : rhsD xi f e (n + 1) = rhsD xi f e n ++ [cf xi (f + e + n)] := by simp [rhsD, List.range_succ]
theorem rowsD_get (xi : List GF) (f e : Nat) {n i : Nat} (hi : i < n) : (rowsD xi f e n).getD i [] = rowD xi (f + e + i) e := by simp [rowsD, List.getD, hi]
theorem pcv_dot (s : List GF) (T : PS) (n : Nat) : ∀ k, k ≤ n → pcv (cf (1 :: s)) T (k + 1) n = T n + dotF (fun i => T (n - (i + 1))) (cf s) k := by
  intro k
  induction k with
  | zero => intro _; rw [pcv_one, cf_cons_zero, GF.one_mul]; exact (GF.add_zero _).symm
  | succ k ih =>
    intro hk
    rw [pcv, ih (by omega), if_pos hk]
    show _ + cf s k * _ = _ + (_ + _ * cf s k)
    rw [GF.add_assoc, GF.mul_comm (cf s k)]
theorem sol_lf {xi s T : List GF} {f e p : Nat} (hT : ∀ k, k < p - f → cf T k = cf xi (f + k)) (hs : s.length = e) : Sol (p - f - e) e (eqM (rowsD xi f e (p - f - e)) (rhsD xi f e (p - f - e)) e) (cf s) ↔ LF (cf T) (p - f) e (cf (1 :: s)) := by
  have hdeg : degB (e + 1) (cf (1 :: s)) := by have := degB_cf (1 :: s); rw [List.length_cons, hs] at this; exact this
  have hcv : ∀ i, i < p - f - e → (SolR e (cf s) (eqM (rowsD xi f e (p - f - e)) (rhsD xi f e (p - f - e)) e i) ↔ cv (cf (1 :: s)) (cf T) (e + i) = 0) := fun i hi => by
    have h1 : cv (cf (1 :: s)) (cf T) (e + i) = cf T (e + i) + dotF (fun k => cf T (e + i - (k + 1))) (cf s) e := by
      rw [← pcv_full _ _ hdeg, pcv_dot s (cf T) (e + i) e (by omega)]
    have h2 : dotF (eqM (rowsD xi f e (p - f - e)) (rhsD xi f e (p - f - e)) e i) (cf s) e = dotF (fun k => cf T (e + i - (k + 1))) (cf s) e := dotF_congr fun k hk => by
      congr 1
      unfold eqM
      rw [if_pos hk, rowsD_get _ _ _ hi]
      have : (rowD xi (f + e + i) e).getD k 0 = cf xi (f + e + i - (k + 1)) := by simp [rowD, List.getD, hk]
      rw [this, hT _ (by omega)]
      congr 1; omega
    have h3 : eqM (rowsD xi f e (p - f - e)) (rhsD xi f e (p - f - e)) e i e = cf T (e + i) := by
      unfold eqM
      rw [if_neg (Nat.lt_irrefl _), hT _ (by omega)]
      have : (rhsD xi f e (p - f - e)).getD i 0 = cf xi (f + e + i) := by simp [rhsD, List.getD, hi]
      rw [this, Nat.add_assoc]
    unfold SolR
    rw [h1, h2, h3]
    constructor
    · intro h; rw [h, GF.add_self]
    · intro h; exact (GF.eq_of_add h).symm
  constructor
  · intro h
    refine ⟨rfl, hdeg, fun n h1 h2 => ?_⟩
    have := (hcv (n - e) (by omega)).1 (h _ (by omega))
    rwa [show e + (n - e) = n by omega] at this
  · intro h i hi
    exact (hcv i hi).2 (h.2.2 (e + i) (by omega) (by omega))
theorem Dec0.try {w : List GF} {p : Nat} {er : List Nat} {g T xi : List GF} (h : Dec0 w p er g T) (hx : ∀ k, k < p - er.length → cf T k = cf xi (er.length + k)) {c : List GF} (hc : Within p w er c) {m : Nat} (hm : (wrongs w c er).length = m) :
    (∃ x, Sol (p - er.length - m) m (eqM (rowsD xi er.length m (p - er.length - m)) (rhsD xi er.length m (p - er.length - m)) m) x) ∧
    ∀ s : List GF, s.length = m → Sol (p - er.length - m) m (eqM (rowsD xi er.length m (p - er.length - m)) (rhsD xi er.length m (p - er.length - m)) m) (cf s) → plc w er (1 :: s) = wrongs w c er := by
  constructor
  · have hl := h.lam hc
    rw [hm] at hl
    refine ⟨cf ((List.range m).map fun k => Go.Proofs.YtmpjkdkgolmgdaaGreat.lam ((wrongs w c er).map (loc w.length)) (k + 1)), (sol_lf hx (by simp)).2 ?_⟩
    have e : cf (1 :: (List.range m).map fun k => Go.Proofs.YtmpjkdkgolmgdaaGreat.lam ((wrongs w c er).map (loc w.length)) (k + 1)) = Go.Proofs.YtmpjkdkgolmgdaaGreat.lam ((wrongs w c er).map (loc w.length)) := by
      funext i
      cases i with
      | zero => rw [cf_cons_zero, lam_zero]
      | succ i =>
        show cf ((List.range m).map fun k => Go.Proofs.YtmpjkdkgolmgdaaGreat.lam ((wrongs w c er).map (loc w.length)) (k + 1)) i = _
        rw [cf_range m (fun k => Go.Proofs.YtmpjkdkgolmgdaaGreat.lam ((wrongs w c er).map (loc w.length)) (k + 1)) i]
        by_cases hi : i < m
        · rw [if_pos hi]
        · rw [if_neg hi]; exact (hl.2.1 (i + 1) (by omega)).symm
    rw [e]; exact hl
  · intro s hs hS
    have hC := (sol_lf hx hs).1 hS
    rw [← hm] at hC
    exact (h.dec hc hC).places hc
/-! ### The places, the word, the count -/
def plsB (w : List GF) (er : List Nat) (C : List GF) (i : Nat) : Bool := decide (i ∈ er) || decide (valL C (GF.exp ((i : Int) + 1 - (w.length : Nat))) = 0)
def pls (w : List GF) (er : List Nat) (C : List GF) (k : Nat) : List Nat := (List.range k).filter (plsB w er C)
theorem pls_zero (w : List GF) (er : List Nat) (C : List GF) : pls w er C 0 = [] := rfl
theorem pls_yes {w : List GF} {er : List Nat} {C : List GF} {k : Nat} (h : plsB w er C k = true) : pls w er C (k + 1) = pls w er C k ++ [k] := by
  unfold pls; rw [List.range_succ, List.filter_append, List.filter_cons, h]; rfl
theorem pls_no {w : List GF} {er : List Nat} {C : List GF} {k : Nat} (h : plsB w er C k = false) : pls w er C (k + 1) = pls w er C k := by
  unfold pls; rw [List.range_succ, List.filter_append, List.filter_cons, h]; simp
theorem pls_len (w : List GF) (er : List Nat) (C : List GF) (k : Nat) : (pls w er C k).length ≤ k := by
  have := List.length_filter_le (plsB w er C) (List.range k)
  rwa [List.length_range] at this
theorem pls_nodup (w : List GF) (er : List Nat) (C : List GF) (k : Nat) : (pls w er C k).Nodup := nodup_filter _ List.nodup_range
theorem mem_pls {w : List GF} {er : List Nat} {C : List GF} {k i : Nat} : i ∈ pls w er C k ↔ i < k ∧ (i ∈ er ∨ valL C (GF.exp ((i : Int) + 1 - (w.length : Nat))) = 0) := by
  unfold pls plsB; rw [List.mem_filter, List.mem_range]; simp
theorem pls_mem {w : List GF} {er : List Nat} {C : List GF} (hlt : ∀ i ∈ er, i < w.length) (i : Nat) : i ∈ pls w er C w.length ↔ i ∈ er ++ plc w er C := by
  rw [mem_pls, List.mem_append]
  unfold plc
  rw [List.mem_filter, List.mem_range]
  simp only [Bool.and_eq_true, decide_eq_true_eq]
  constructor
  · rintro ⟨h1, h2⟩
    by_cases h : i ∈ er
    · exact .inl h
    · exact .inr ⟨h1, h2.resolve_left h, h⟩
  · rintro (h | h)
    · exact ⟨hlt i h, .inl h⟩
    · exact ⟨h.1, .inr h.2.1⟩
theorem outAt_congr (w : List GF) (q : Nat → GF) {S S' : List Nat} (h : ∀ i, i ∈ S ↔ i ∈ S') : outAt w q S = outAt w q S' := by
  unfold outAt
  apply List.map_congr_left
  intro i _
  by_cases hi : i ∈ S
  · rw [if_pos hi, if_pos ((h i).1 hi)]
  · rw [if_neg hi, if_neg fun e => hi ((h i).2 e)]
theorem ref_sound {w : List GF} {p e : Nat} {er : List Nat} {C : List GF} (hlt : ∀ i ∈ er, i < w.length) (h2 : 2 * e + er.length ≤ p) (hl : (plc w er C).length = e) (q : Nat → GF) (hcw : isCW p (outAt w q (pls w er C w.length))) : Within p w er (outAt w q (pls w er C w.length)) := by
  rw [outAt_congr w q (pls_mem hlt)] at hcw ⊢
  exact out_within (L := e) (by omega) (by omega) (by rw [List.length_append, hl]) q hcw
theorem ref_ex {w : List GF} {p : Nat} {er : List Nat} {C c : List GF} (hlt : ∀ i ∈ er, i < w.length) (hc : Within p w er c) (hp : plc w er C = wrongs w c er) :
    ∃ x, Sol p (pls w er C w.length).length (eqM (colL (pls w er C w.length) w.length p) (syndL w p) (pls w er C w.length).length) x := by
  refine ⟨fun k => w.getD ((pls w er C w.length).getD k 0) 0 + c.getD ((pls w er C w.length).getD k 0) 0, (cols_iff (pls_nodup _ _ _ _) (fun i hi => (mem_pls.1 hi).1) (fun i => w.getD i 0 + c.getD i 0) (fun k _ => rfl)).2 ?_⟩
  have e : outAt w (fun i => w.getD i 0 + c.getD i 0) (pls w er C w.length) = c := by
    refine eq_of_getD (by rw [outAt_len, hc.1]) fun i hi => ?_
    rw [outAt_len] at hi
    rw [outAt_get _ _ _ hi]
    by_cases hm : i ∈ pls w er C w.length
    · rw [if_pos hm, ← GF.add_assoc, GF.add_self, GF.zero_add]
    · rw [if_neg hm]
      rw [pls_mem hlt, hp] at hm
      apply Classical.byContradiction
      intro e
      exact hm (List.mem_append_right _ (mem_wrongs.2 ⟨hi, e, fun he => hm (List.mem_append_left _ he)⟩))
  rw [e]; exact hc.2.1
/-- The values by place. -/
theorem q_ex {K : List Nat} (hnd : K.Nodup) (x : PS) : ∃ q : Nat → GF, ∀ k, k < K.length → q (K.getD k 0) = x k := by
  refine ⟨fun i => ((List.range K.length).find? fun k => decide (K.getD k 0 = i)).elim 0 x, fun k hk => ?_⟩
  have hf : (List.range K.length).find? (fun j => decide (K.getD j 0 = K.getD k 0)) = some k := by
    rw [List.find?_range_eq_some]
    refine ⟨by simp, List.mem_range.2 hk, fun j hj => ?_⟩
    have h1 := List.pairwise_iff_getElem.1 (List.nodup_iff_pairwise_ne.1 hnd) j k (by omega) hk hj
    simp only [List.getD_eq_getElem?_getD, List.getElem?_eq_getElem hk, List.getElem?_eq_getElem (show j < K.length by omega), Option.getD_some]
    simpa using h1
  show ((List.range K.length).find? fun j => decide (K.getD j 0 = K.getD k 0)).elim 0 x = x k
  rw [hf]; rfl
def cntQ (q : Nat → GF) (K : List Nat) (k : Nat) : Nat := ((K.take k).filter fun i => decide (q i ≠ 0)).length
theorem cntQ_zero (q : Nat → GF) (K : List Nat) : cntQ q K 0 = 0 := by simp [cntQ]
theorem cntQ_succ (q : Nat → GF) (K : List Nat) {k : Nat} (hk : k < K.length) : cntQ q K (k + 1) = cntQ q K k + if q (K.getD k 0) = 0 then 0 else 1 := by
  unfold cntQ
  rw [takeN_succ K hk, List.filter_append, List.length_append]
  congr 1
  generalize K.getD k 0 = a
  by_cases h : q a = 0
  · rw [if_pos h]; simp [h]
  · rw [if_neg h]; simp [h]
theorem cntQ_full (w : List GF) (er : List Nat) (C : List GF) (q : Nat → GF) : cntQ q (pls w er C w.length) (pls w er C w.length).length = dcnt w (outAt w q (pls w er C w.length)) [] w.length := by
  unfold cntQ dcnt
  rw [List.take_of_length_le (Nat.le_refl _)]
  conv => lhs; unfold pls
  rw [List.filter_filter]
  congr 1
  apply List.filter_congr
  intro i hi
  have hi' := List.mem_range.1 hi
  rw [outAt_get _ _ _ hi']
  by_cases hm : plsB w er C i = true
  · have hp : i ∈ pls w er C w.length := List.mem_filter.2 ⟨hi, hm⟩
    rw [if_pos hp, hm]
    by_cases hq : q i = 0
    · simp [hq, GF.add_zero]
    · have : w.getD i 0 ≠ w.getD i 0 + q i := fun e => hq (by
        refine GF.add_cancel (x := w.getD i 0) ?_
        rw [← e, GF.add_zero])
      generalize w.getD i 0 = a at *
      simp [hq, this]
  · have hp : i ∉ pls w er C w.length := fun h => hm (List.mem_filter.1 h).2
    rw [if_neg hp]
    have : plsB w er C i = false := by cases h : plsB w er C i; rfl; exact absurd h hm
    simp [this]
end Go.Proofs.YtmpjkdkgolmgdaaGreat
/- The walks of the reference's columns and Encode. -/
namespace Go.Proofs.YtmpjkdkgolmgdaaGreat
open Go.RowKit
set_option linter.unusedVariables false

/-! ### append beside other slices -/
def Keeps (w w' : World) (v v' : Value) : Prop := ∀ (B : Nat) (e : TypeId) (s : Nat) (u : Value) (n : Nat) (xs : List Value), w.ownsRow B e s u n xs → Apt u v → w'.ownsRow B e s u n xs ∧ Apt u v'
theorem keeps_app {w w' : World} {o : Obj} {v v' : Value} (h2 : (w.alloc o).grownBy w' v.ownBlock) (h3 : v'.ownBlock = v.ownBlock ∨ v'.ownBlock = some (w.alloc o).heap.size) : Keeps w w' v v' := by
  intro B e s u n xs hu hne
  refine ⟨World.ownsRow.kept (own_below hu (below_new w o)) h2 hne, ?_⟩
  have hz : (w.alloc o).heap.size = w.heap.size + 1 := by simp
  unfold Apt at *
  cases hb : u.ownBlock with
  | none => exact .inl rfl
  | some g =>
    right
    rcases h3 with h3 | h3
    · rw [h3]
      rcases hne with e | e
      · rw [e] at hb; cases hb
      · rw [← hb]; exact e
    · rw [h3, hz]
      intro e
      have := own_lt hu hb
      have : g = w.heap.size + 1 := Option.some.inj e
      omega
theorem wpList_app1K (w : World) {ops : Array Oper} {rest : List Oper} {o : Oper} {a : Act} {Q : Exit → Act → World → Prop} (hgd : o.guard = none) (s x : Operand)
    (ho : o.op = .call { callee := .builtin .append, args := #[s, x], argTypes := #[24, 24] }) (B : Nat)
    (v : Value) (l : List GF) (hown : OwB w B v l) (hs : a.eval s = v) (y : GF) (t : TypeId) (hx : a.eval x = .slice (some ⟨w.heap.size, 0, none⟩) 1 1)
    (hlen : l.length ≤ 1099511627000) (hbase : B ≤ w.heap.size)
    (h : ∀ v' w', OwB w' B v' (l ++ [y]) → Below B w w' → Keeps w w' v v' → wpList Tryz.prog ops Q rest (a.put o.dst v') w') : wpList Tryz.prog ops Q (o :: rest) a (w.alloc (.cells #[.int .u8 y.z] t)) := by
  refine wpList_appB _ hgd s x ho B v l hs (hown.below (below_new w _)) (some ⟨w.heap.size, 0, none⟩) 1 1 [y] hx (RdB.one w y t 1) (by simp; omega) (by simp; omega) (fun v' w' h1 h2 h3 => h v' w' h1 ?_ (keeps_app h2 h3))
  exact ((below_new w _).mono hbase).trans (grown_below h2 (hown.below (below_new w _)) (by simp; omega))
theorem wpList_app1IK (w : World) {ops : Array Oper} {rest : List Oper} {o : Oper} {a : Act} {Q : Exit → Act → World → Prop} (hgd : o.guard = none) (s x : Operand)
    (ho : o.op = .call { callee := .builtin .append, args := #[s, x], argTypes := #[43, 43] }) (B : Nat)
    (v : Value) (l : List Int) (hown : OwI w B v l) (hs : a.eval s = v) (y : Int) (t : TypeId) (hx : a.eval x = .slice (some ⟨w.heap.size, 0, none⟩) 1 1)
    (hlen : l.length ≤ 1099511627000) (hbase : B ≤ w.heap.size)
    (h : ∀ v' w', OwI w' B v' (l ++ [y]) → Below B w w' → Keeps w w' v v' → wpList Tryz.prog ops Q rest (a.put o.dst v') w') : wpList Tryz.prog ops Q (o :: rest) a (w.alloc (.cells #[.int .i64 y] t)) := by
  refine wpList_appI _ hgd s x ho B v l hs (hown.below (below_new w _)) (some ⟨w.heap.size, 0, none⟩) 1 1 [y] hx (RdI.one w y t 1) (by simp; omega) (by simp; omega) (fun v' w' h1 h2 h3 => h v' w' h1 ?_ (keeps_app h2 h3))
  exact ((below_new w _).mono hbase).trans (grown_below h2 (hown.below (below_new w _)) (by simp; omega))
/-! ### Encode -/
def eMid (data x : List GF) (p k : Nat) : List GF := data ++ (x.take k ++ List.replicate (p - k) 0)
theorem eMid_len (data : List GF) {x : List GF} {p k : Nat} (hx : x.length = p) (hk : k ≤ p) : (eMid data x p k).length = data.length + p := by simp [eMid, hx]; omega
theorem eMid_zero (data x : List GF) (p : Nat) : eMid data x p 0 = data ++ List.replicate p 0 := by simp [eMid]
theorem eMid_end (data : List GF) {x : List GF} {p : Nat} (hx : x.length = p) : eMid data x p p = data ++ x := by simp [eMid, ← hx]
theorem eMid_step (data : List GF) {x : List GF} {p k : Nat} (hx : x.length = p) (hk : k < p) : (eMid data x p k).set (data.length + k) (x.getD k 0) = eMid data x p (k + 1) := by
  have hget : ∀ k, k ≤ p → ∀ i, i < data.length + p → (eMid data x p k).getD i 0 = if i < data.length then data.getD i 0 else if i - data.length < k then x.getD (i - data.length) 0 else 0 := fun k hk i hi => by
    unfold eMid
    rw [app_getD]
    by_cases h : i < data.length
    · rw [if_pos h, if_pos h]
    · rw [if_neg h, if_neg h, app_getD]
      have hl : (x.take k).length = k := by rw [List.length_take]; omega
      rw [hl]
      by_cases h2 : i - data.length < k
      · rw [if_pos h2, if_pos h2]; simp [List.getD, h2]
      · rw [if_neg h2, if_neg h2]
        have h3 : i - data.length - k < p - k := by omega
        simp [List.getD, h3]
  refine eq_of_getD (by rw [List.length_set, eMid_len data hx (by omega), eMid_len data hx (by omega)]) fun i hi => ?_
  rw [List.length_set, eMid_len data hx (by omega)] at hi
  rw [hget (k + 1) (by omega) i hi]
  by_cases e : i = data.length + k
  · subst e
    rw [getD_set_self (by rw [eMid_len data hx (by omega)]; exact hi), if_neg (by omega), if_pos (by omega), Nat.add_sub_cancel_left]
  · rw [getD_set_other (Ne.symm e), hget k (by omega) i hi]
    by_cases h : i < data.length
    · rw [if_pos h, if_pos h]
    · rw [if_neg h, if_neg h]
      by_cases h2 : i - data.length < k
      · rw [if_pos h2, if_pos (by omega)]
      · rw [if_neg h2, if_neg (by omega)]
theorem rep_succ (data : List GF) (k : Nat) : data ++ List.replicate (k + 1) (0 : GF) = data ++ List.replicate k 0 ++ [0] := by rw [List.replicate_succ', ← List.append_assoc]
end Go.Proofs.YtmpjkdkgolmgdaaGreat
/- The walks of the laws RsSyndromesMatchSpec, RsDecodeIsSound, RsFewerParities. -/
namespace Go.Proofs.YtmpjkdkgolmgdaaGreat
open Go.RowKit
set_option linter.unusedVariables false

theorem wf64 {a : Int} (h : (Lit.int .i64 a).wf = true) : -9223372036854775808 ≤ a ∧ a ≤ 9223372036854775807 := by
  simp [Lit.wf, IntKind.min, IntKind.max, IntKind.signed, IntKind.bits] at h
  omega
theorem IsRow.rdI {w : World} {a : Option Addr} {len cap : Nat} {zs : List Int} (h : IsRow .i64 w a len cap zs) : ∃ l : List Int, RdI w a len l ∧ len ≤ 9223372036854775807 ∧ len ≤ cap ∧ ∀ n ∈ l, -9223372036854775808 ≤ n ∧ n ≤ 9223372036854775807 := by
  rcases h with ⟨rfl, rfl, rfl, rfl⟩ | ⟨x, rfl, hl, hm, hz, hcell, hwz⟩
  · exact ⟨[], ⟨rfl, fun h => by omega⟩, by omega, Nat.le_refl _, by simp⟩
  · refine ⟨zs.take len, ⟨by rw [List.length_take]; omega, fun hn => ?_⟩, by unfold maxLen at hm; omega, hl, fun n hn => wf64 (hwz n (List.mem_of_mem_take hn))⟩
    obtain ⟨b, off, spot⟩ := x
    have hc0 := hcell 0 (by omega)
    have hspot : spot = none := by simpa [Addr.add] using World.cell?_spot hc0
    subst hspot
    have hlt : b < w.heap.size := by
      have h0 := hcell 0 (by omega)
      rw [addr_add] at h0
      rcases Nat.lt_or_ge b w.heap.size with h | h
      · exact h
      · simp [World.cell?, Array.getElem?_eq_none h] at h0
    refine ⟨b, off, rfl, hlt, fun i hi => ?_⟩
    have hi2 : i < zs.length := by omega
    rw [← addr_add, hcell i hi2]
    simp [List.getD, hi]
theorem IsRow.rdB {w : World} {a : Option Addr} {len cap : Nat} {zs : List Int} (h : IsRow .u8 w a len cap zs) : ∃ l : List GF, RdB w a len l ∧ len ≤ 9223372036854775807 := by
  obtain ⟨l, h1, h2⟩ := h.bytes
  exact ⟨l, h1, by unfold maxLen at h2; omega⟩
theorem wF_code {n : Nat} {p : Int} (h : wF n p ≠ (0, 0)) : (wF n p).1 = 4 ∨ (wF n p).1 = 9 := by
  rcases wF_cases n p with ⟨q, _, _, _, _, h'⟩ | ⟨_, h'⟩ | ⟨_, _, h'⟩
  · exact absurd h' h
  · rw [h']; exact .inl rfl
  · rw [h']; exact .inr rfl
theorem dF_code {n : Nat} {p : Int} (h : dF n p ≠ (0, 0)) : (dF n p).1 = 4 ∨ (dF n p).1 = 9 := by
  rcases dF_cases n p with ⟨q, _, _, _, _, h'⟩ | ⟨_, h'⟩ | ⟨_, _, h'⟩
  · exact absurd h' h
  · rw [h']; exact .inl rfl
  · rw [h']; exact .inr rfl
end Go.Proofs.YtmpjkdkgolmgdaaGreat
