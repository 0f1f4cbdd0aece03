/- Linear recurrences: plain laws of the algorithm of Berlekamp and Massey. -/
import Derived.Test.YtpkaaiefnabfbabRsA
namespace Go.Proofs.Ytpkaaiefnabfbab
set_option linter.unusedVariables false

/-- C is a connection polynomial of length L of the first N elements. -/
def LF (T : PS) (N L : Nat) (C : PS) : Prop := C 0 = 1 ∧ degB (L + 1) C ∧ ∀ n, L ≤ n → n < N → cv C T n = 0
theorem LF.less {T : PS} {N M L : Nat} {C : PS} (h : LF T N L C) (hM : M ≤ N) : LF T M L C := ⟨h.1, h.2.1, fun n h1 h2 => h.2.2 n h1 (by omega)⟩
theorem degB_low {l L : Nat} {f g : PS} (hf : degB (l + 1) f) (hg : degB L g) : degB (l + L) (cv f g) := by
  rcases L with _ | L
  · intro i _; rw [degB_zero hg]; exact cv_pz_right f i
  · exact degB_cv hf hg
def low (L : Nat) (f : PS) : PS := fun i => if i < L then f i else 0
theorem degB_lowF (L : Nat) (f : PS) : degB L (low L f) := fun i hi => if_neg (by omega)
/-- A series that is 0 up to n - 1. -/
theorem cv_at {f g : PS} {n : Nat} (h : ∀ i, i < n → g i = 0) : cv f g n = f 0 * g n := by
  induction n generalizing g with
  | zero => rfl
  | succ n ih =>
    rw [cv_last, h 0 (by omega), GF.mul_zero, GF.zero_add]
    exact ih (g := tl g) fun i hi => h (i + 1) (by omega)
theorem massey {T : PS} {n L l : Nat} {C D : PS} (hC : LF T n L C) (hd : cv C T n ≠ 0) (hD : LF T (n + 1) l D) : n + 1 ≤ l + L := by
  rcases Nat.lt_or_ge n (l + L) with h | h
  · omega
  · exfalso
    apply hd
    -- cv D (cv C T) n, in two ways
    have e1 : cv D (cv C T) n = cv C T n := by
      have hsp : ∀ i, i ≤ n → cv C T i = padd (low L (cv C T)) (fun j => if j = n then cv C T n else 0) i := by
        intro i hi
        show _ = (if i < L then cv C T i else 0) + (if i = n then cv C T n else 0)
        by_cases h1 : i = n
        · subst h1
          rw [if_pos rfl]
          by_cases h2 : i < L
          · omega
          · rw [if_neg h2, GF.zero_add]
        · rw [if_neg h1, GF.add_zero]
          by_cases h2 : i < L
          · rw [if_pos h2]
          · rw [if_neg h2]; exact hC.2.2 i (by omega) (by omega)
      rw [cv_congr n (fun _ _ => rfl) hsp, cv_add_right, degB_low hD.2.1 (degB_lowF L _) n h, GF.zero_add, cv_at (fun i hi => if_neg (by omega)), hD.1, GF.one_mul, if_pos rfl]
    have e2 : cv C (cv D T) n = 0 := by
      have hsp : ∀ i, i ≤ n → cv D T i = low l (cv D T) i := by
        intro i hi
        show _ = if i < l then cv D T i else 0
        by_cases h2 : i < l
        · rw [if_pos h2]
        · rw [if_neg h2]; exact hD.2.2 i (by omega) (by omega)
      rw [cv_congr n (fun _ _ => rfl) hsp, degB_low hC.2.1 (degB_lowF l _) n (by omega)]
    rw [← e1, cv_left_comm, e2]
/-- What the algorithm holds. -/
structure BM (T : PS) (n L : Nat) (C B : PS) (g : Nat) (b : GF) : Prop where
  lf : LF T n L C
  le : L ≤ n
  least : ∀ l D, LF T n l D → L ≤ l
  gap : 1 ≤ g
  ne : b ≠ 0
  deg : degB (n + 2 - L) (pxn g B)
  old : ∀ j, n + 1 - L ≤ j → j < n → cv (pxn g B) T j = 0
  at' : 0 < L → cv (pxn g B) T n = b
theorem BM.start (T : PS) : BM T 0 0 pone pone 1 1 :=
  ⟨⟨rfl, degB_pone, fun n _ h => by omega⟩, Nat.le_refl _, fun _ _ _ => Nat.zero_le _, Nat.le_refl _, GF.one_ne, degB_pxn' 1 degB_pone, fun j _ h => by omega, fun h => by omega⟩
where
  degB_pxn' {N : Nat} {f : PS} (k : Nat) (h : degB N f) : degB (k + N) (pxn k f) := fun i hi => by
    rw [pxn_get, if_neg (by omega)]; exact h _ (by omega)
theorem cv_pxn_succ (g : Nat) (B T : PS) (j : Nat) : cv (pxn (g + 1) B) T (j + 1) = cv (pxn g B) T j := by
  show cv (px (pxn g B)) T (j + 1) = _
  rw [cv_px]; rfl
theorem degB_px {N : Nat} {f : PS} (h : degB N f) : degB (N + 1) (px f) := fun i hi => by
  cases i with
  | zero => omega
  | succ i => exact h i (by omega)
/-- The discrepancy is 0. -/
theorem BM.skip {T : PS} {n L g : Nat} {C B : PS} {b : GF} (h : BM T n L C B g b) (hd : cv C T n = 0) : BM T (n + 1) L C B (g + 1) b := by
  refine ⟨⟨h.lf.1, h.lf.2.1, fun j h1 h2 => ?_⟩, by have := h.le; omega, fun l D hD => h.least l D (hD.less (by omega)), by omega, h.ne, ?_, fun j h1 h2 => ?_, fun hL => ?_⟩
  · by_cases e : j = n
    · rw [e]; exact hd
    · exact h.lf.2.2 j h1 (by omega)
  · have := degB_px h.deg
    exact degB_mono this (by have := h.le; omega)
  · obtain ⟨i, rfl⟩ : ∃ i, j = i + 1 := ⟨j - 1, by have := h.le; omega⟩
    rw [cv_pxn_succ]; exact h.old i (by have := h.le; omega) (by omega)
  · rw [cv_pxn_succ]; exact h.at' hL
def nextC (C B : PS) (g : Nat) (q : GF) : PS := padd C (psc q (pxn g B))
theorem nextC_lf {T : PS} {n L g : Nat} {C B : PS} {b : GF} (h : BM T n L C B g b) (M : Nat) (hM : M = max L (n + 1 - L)) : LF T (n + 1) M (nextC C B g (cv C T n * b.inv)) := by
  have hle := h.le
  refine ⟨?_, ?_, fun j h1 h2 => ?_⟩
  · show C 0 + cv C T n * b.inv * pxn g B 0 = 1
    rw [pxn_get, if_pos (by have := h.gap; omega), GF.mul_zero, GF.add_zero, h.lf.1]
  · exact degB_mono (degB_padd h.lf.2.1 (degB_psc _ h.deg)) (by omega)
  · unfold nextC
    rw [cv_add_left, cv_sc_left]
    by_cases e : j = n
    · subst e
      rw [h.at' (by omega), GF.mul_assoc, GF.inv_mul h.ne, GF.mul_one, GF.add_self]
    · rw [h.lf.2.2 j (by omega) (by omega), h.old j (by omega) (by omega), GF.mul_zero, GF.add_zero]
theorem BM.swap {T : PS} {n L g : Nat} {C B : PS} {b : GF} (h : BM T n L C B g b) (hd : cv C T n ≠ 0) (h2 : 2 * L ≤ n) : BM T (n + 1) (n + 1 - L) (nextC C B g (cv C T n * b.inv)) C 1 (cv C T n) := by
  have hle := h.le
  refine ⟨nextC_lf h _ (by omega), by omega, fun l D hD => ?_, Nat.le_refl _, hd, ?_, fun j h3 h4 => ?_, fun _ => ?_⟩
  · have := massey h.lf hd hD; omega
  · exact degB_mono (degB_px h.lf.2.1) (by omega)
  · obtain ⟨i, rfl⟩ : ∃ i, j = i + 1 := ⟨j - 1, by omega⟩
    rw [cv_pxn_succ]; exact h.lf.2.2 i (by omega) (by omega)
  · rw [cv_pxn_succ]; rfl
theorem BM.keep {T : PS} {n L g : Nat} {C B : PS} {b : GF} (h : BM T n L C B g b) (hd : cv C T n ≠ 0) (h2 : ¬ 2 * L ≤ n) : BM T (n + 1) L (nextC C B g (cv C T n * b.inv)) B (g + 1) b := by
  have hle := h.le
  refine ⟨nextC_lf h _ (by omega), by omega, fun l D hD => h.least l D (hD.less (by omega)), by omega, h.ne, degB_mono (degB_px h.deg) (by omega), fun j h3 h4 => ?_, fun hL => ?_⟩
  · obtain ⟨i, rfl⟩ : ∃ i, j = i + 1 := ⟨j - 1, by omega⟩
    rw [cv_pxn_succ]; exact h.old i (by omega) (by omega)
  · rw [cv_pxn_succ]; exact h.at' hL
/-- The recurrence of a sum of powers is the only one. -/
theorem lf_unique {t : List (GF × GF)} {N L : Nat} {C : PS} (hnd : (t.map Prod.fst).Nodup) (hne : ∀ q ∈ t, q.1 ≠ 0 ∧ q.2 ≠ 0) (hN : 2 * t.length ≤ N) (hC : LF (ser t) N L C) (hleast : ∀ l D, LF (ser t) N l D → L ≤ l) : L = t.length ∧ C = lam (t.map Prod.fst) := by
  have hl : LF (ser t) N t.length (lam (t.map Prod.fst)) := by
    refine ⟨lam_zero _, ?_, fun n h1 _ => ?_⟩
    · have := degB_lam (t.map Prod.fst); rwa [List.length_map] at this
    · rw [lam_ser]; exact degB_om t n h1
  have hLt := hleast _ _ hl
  -- the two products
  have hprod : cv C (om t) = cv (lam (t.map Prod.fst)) (low L (cv C (ser t))) := by
    funext n
    by_cases hn : n < N
    · have e1 : cv (lam (t.map Prod.fst)) (low L (cv C (ser t))) n = cv (lam (t.map Prod.fst)) (cv C (ser t)) n := by
        refine cv_congr n (fun _ _ => rfl) fun i hi => ?_
        show (if i < L then cv C (ser t) i else 0) = _
        by_cases h2 : i < L
        · rw [if_pos h2]
        · rw [if_neg h2]; exact (hC.2.2 i (by omega) (by omega)).symm
      rw [e1, cv_left_comm, lam_ser]
    · have d1 := degB_low hC.2.1 (degB_om t) n (by omega)
      have d2 := degB_lam (t.map Prod.fst)
      rw [List.length_map] at d2
      have d3 := degB_low d2 (degB_lowF L (cv C (ser t))) n (by omega)
      rw [d1, d3]
  have hroot : ∀ q ∈ t, vH C q.1.inv (L + 1) = 0 := by
    intro q hq
    have h1 : vH (cv C (om t)) q.1.inv ((L + 1) + t.length) = vH C q.1.inv (L + 1) * omv t q.1.inv := by
      rw [vH_cv _ hC.2.1 (degB_om t) (Nat.le_refl _), vH_om]
    have d2 := degB_lam (t.map Prod.fst)
    rw [List.length_map] at d2
    have h2 : vH (cv C (om t)) q.1.inv ((L + 1) + t.length) = 0 := by
      rw [hprod, vH_cv _ d2 (degB_lowF L _) (by omega)]
      have := vH_lam (t.map Prod.fst) q.1.inv
      rw [List.length_map] at this
      rw [this, plv_zero (hne q hq).1 (List.mem_map.2 ⟨q, hq, rfl⟩), GF.zero_mul]
    rw [h2] at h1
    rcases GF.mul_eq_zero h1.symm with h | h
    · exact h
    · exfalso
      obtain ⟨f1, f2⟩ := forney hnd (fun q hq => (hne q hq).1) q hq
      rw [h, GF.zero_mul] at f1
      rcases GF.mul_eq_zero f1.symm with e | e
      · exact (hne q hq).2 e
      · exact f2 e
  -- roots as a list
  have hrl : (t.map fun q => q.1.inv).Nodup := by
    unfold List.Nodup at hnd ⊢
    rw [List.pairwise_map] at hnd ⊢
    refine List.Pairwise.imp_of_mem ?_ hnd
    intro a b ha hb hab e
    exact hab (GF.inv_inj (hne a ha).1 (hne b hb).1 e)
  have hC1 : cf (ofF (L + 1) C) = C := cf_ofF hC.2.1
  have hval : ∀ z, valL (ofF (L + 1) C) z = vH C z (L + 1) := fun z => valL_of z hC1 hC.2.1
  have hlt := roots_lt (t.map fun q => q.1.inv) (L + 1) (ofF (L + 1) C) (by rw [hC1]; exact hC.2.1) (by rw [hC1]; intro e; exact GF.one_ne (by rw [← hC.1, e]; rfl)) hrl (fun x hx => by
    obtain ⟨q, hq, rfl⟩ := List.mem_map.1 hx
    rw [hval]; exact hroot q hq)
  rw [List.length_map] at hlt
  have hL : L = t.length := by omega
  refine ⟨hL, ?_⟩
  subst hL
  -- the difference vanishes at 0 and at all roots
  apply eq_of_padd
  apply Classical.byContradiction
  intro hdif
  have hdd : degB (t.length + 1) (padd C (lam (t.map Prod.fst))) := degB_mono (degB_padd hC.2.1 hl.2.1) (by omega)
  have hcf := cf_ofF hdd
  have h0 : (0 : GF) ∉ t.map fun q => q.1.inv := by
    intro h
    obtain ⟨q, hq, e⟩ := List.mem_map.1 h
    exact GF.inv_ne (hne q hq).1 e
  have := roots_lt (0 :: t.map fun q => q.1.inv) (t.length + 1) (ofF (t.length + 1) (padd C (lam (t.map Prod.fst)))) (by rw [hcf]; exact hdd) (by rw [hcf]; exact hdif) (List.nodup_cons.2 ⟨h0, hrl⟩) (fun x hx => by
    rw [valL_of x hcf hdd]
    rcases List.mem_cons.1 hx with rfl | hx
    · rw [vH_succ, GF.mul_zero, GF.zero_add]
      show C 0 + lam _ 0 = 0
      rw [hC.1, lam_zero, GF.add_self]
    · obtain ⟨q, hq, rfl⟩ := List.mem_map.1 hx
      rw [vH_add, hroot q hq, GF.zero_add]
      have := vH_lam (t.map Prod.fst) q.1.inv
      rw [List.length_map] at this
      rw [this, plv_zero (hne q hq).1 (List.mem_map.2 ⟨q, hq, rfl⟩)])
  simp only [List.length_cons, List.length_map] at this
  omega
end Go.Proofs.Ytpkaaiefnabfbab
