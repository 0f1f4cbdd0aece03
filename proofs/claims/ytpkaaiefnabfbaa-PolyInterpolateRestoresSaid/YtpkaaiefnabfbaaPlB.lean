/- Plain laws of polynomials: divisibility, greatest common divisors, roots, interpolation. -/
import Derived.Test.YtpkaaiefnabfbaaPlA
namespace Go.Proofs.Ytpkaaiefnabfbaa
set_option linter.unusedVariables false

/-- d divides a. -/
def Dv (d a : PS) : Prop := ∃ (q : PS) (N : Nat), degB N q ∧ a = cv q d
theorem degB_cv' {m n : Nat} {f g : PS} (hf : degB m f) (hg : degB n g) : degB (m + n) (cv f g) := by
  have h := degB_cv (degB_mono hf (Nat.le_succ m)) (degB_mono hg (Nat.le_succ n))
  rcases m with _ | m
  · intro i _; rw [degB_zero hf]; exact cv_pz g i
  · rcases n with _ | n
    · intro i _; rw [degB_zero hg]; exact cv_pz_right f i
    · exact degB_mono (degB_cv hf hg) (by omega)
theorem degB_pone : degB 1 pone := fun i hi => by show (if i = 0 then (1 : GF) else 0) = 0; rw [if_neg (by omega)]
theorem degB_padd {m n : Nat} {f g : PS} (hf : degB m f) (hg : degB n g) : degB (max m n) (padd f g) := fun i hi => by
  show f i + g i = 0
  rw [hf i (by omega), hg i (by omega), GF.add_zero]
theorem degB_psc {m : Nat} {f : PS} (c : GF) (hf : degB m f) : degB m (psc c f) := fun i hi => by
  show c * f i = 0
  rw [hf i hi, GF.mul_zero]
theorem degB_pz (n : Nat) : degB n pz := fun _ _ => rfl
theorem Dv.refl (d : PS) : Dv d d := ⟨pone, 1, degB_pone, (funext fun i => cv_one_left d i).symm⟩
theorem Dv.zero (d : PS) : Dv d pz := ⟨pz, 0, degB_pz 0, (funext fun i => cv_pz d i).symm⟩
theorem Dv.add {d a b : PS} (ha : Dv d a) (hb : Dv d b) : Dv d (padd a b) := by
  obtain ⟨q, N, hq, rfl⟩ := ha
  obtain ⟨r, M, hr, rfl⟩ := hb
  exact ⟨padd q r, max N M, degB_padd hq hr, (cv_padd_left q r d).symm⟩
theorem Dv.mul {d a q : PS} {N : Nat} (hq : degB N q) (ha : Dv d a) : Dv d (cv q a) := by
  obtain ⟨r, M, hr, rfl⟩ := ha
  exact ⟨cv q r, N + M, degB_cv' hq hr, (funext fun i => cv_assoc q r d i).symm⟩
theorem Dv.trans {d e a : PS} (h : Dv d e) (k : Dv e a) : Dv d a := by
  obtain ⟨q, N, hq, rfl⟩ := k
  exact h.mul hq
theorem Dv.fac (d : PS) {q : PS} {N : Nat} (hq : degB N q) : Dv d (cv q d) := (Dv.refl d).mul hq
theorem padd_cancel (f g : PS) : padd (padd f g) g = f := by
  funext i; show f i + g i + g i = f i; rw [GF.add_assoc, GF.add_self, GF.add_zero]
/-- The greatest common divisor with the leading coefficient 1, or 0. -/
def IsGcd (a b : PS) (g : List GF) : Prop := Tr g ∧ (g = [] ∨ cf g (g.length - 1) = 1) ∧ ∀ d, Dv d (cf g) ↔ (Dv d a ∧ Dv d b)
theorem cf_eq_pz {g : List GF} (hg : Tr g) (h : cf g = pz) : g = [] := by
  rcases hg with h1 | h1
  · exact h1
  · exact absurd (congrFun h _) h1
theorem ne_pz {g : List GF} (hg : Tr g) (h : g ≠ []) : cf g ≠ pz := fun e => h (cf_eq_pz hg e)
/-- A divisor of a polynomial that is not 0 is not longer. -/
theorem Dv_len {g a : List GF} (hg : Tr g) (ha : Tr a) (hne : a ≠ []) (h : Dv (cf g) (cf a)) : g ≠ [] ∧ g.length ≤ a.length := by
  obtain ⟨q, N, hq, e⟩ := h
  have hgn : g ≠ [] := by
    rintro rfl
    refine ne_pz ha hne ?_
    rw [e, cf_nil]; exact funext fun i => cv_pz_right q i
  refine ⟨hgn, ?_⟩
  have hqn : q ≠ pz := by
    rintro rfl
    refine ne_pz ha hne ?_
    rw [e]; exact funext fun i => cv_pz _ i
  obtain ⟨m, hm, hdm⟩ := top_of hq hqn
  obtain ⟨n, hn, htop, hd⟩ := Tr_top hg hgn
  have h1 := cv_top hdm hd
  rw [← e] at h1
  rcases Nat.lt_or_ge (m + n) a.length with h2 | h2
  · omega
  · rw [degB_cf a (m + n) h2] at h1
    rcases GF.mul_eq_zero h1.symm with h3 | h3
    · exact absurd h3 hm
    · exact absurd h3 htop
theorem Dv_assoc {g h : List GF} (hg : Tr g) (hh : Tr h) (g1 : g = [] ∨ cf g (g.length - 1) = 1) (h1 : h = [] ∨ cf h (h.length - 1) = 1) (d1 : Dv (cf g) (cf h)) (d2 : Dv (cf h) (cf g)) : g = h := by
  by_cases e1 : g = []
  · subst e1
    obtain ⟨q, N, hq, e⟩ := d1
    refine (cf_eq_pz hh ?_).symm
    rw [e, cf_nil]; exact funext fun i => cv_pz_right q i
  · by_cases e2 : h = []
    · subst e2
      obtain ⟨q, N, hq, e⟩ := d2
      refine cf_eq_pz hg ?_
      rw [e, cf_nil]; exact funext fun i => cv_pz_right q i
    · have l1 := (Dv_len hg hh e2 d1).2
      have l2 := (Dv_len hh hg e1 d2).2
      obtain ⟨q, N, hq, e⟩ := d1
      have hqn : q ≠ pz := by
        rintro rfl
        refine ne_pz hh e2 ?_
        rw [e]; exact funext fun i => cv_pz _ i
      obtain ⟨m, hm, hdm⟩ := top_of hq hqn
      obtain ⟨n, hn, htop, hd⟩ := Tr_top hg e1
      have t1 := cv_top hdm hd
      rw [← e] at t1
      have hm0 : m = 0 := by
        rcases Nat.eq_zero_or_pos m with h0 | h0
        · exact h0
        · rw [degB_cf h (m + n) (by omega)] at t1
          rcases GF.mul_eq_zero t1.symm with h3 | h3
          · exact absurd h3 hm
          · exact absurd h3 htop
      subst hm0
      have q1 : q 0 = 1 := by
        rcases g1 with g1 | g1
        · exact absurd g1 e1
        · rcases h1 with h1 | h1
          · exact absurd h1 e2
          · rw [hn] at g1
            rw [show h.length - 1 = n by omega] at h1
            rw [Nat.zero_add] at t1
            rw [Nat.add_sub_cancel] at g1
            rw [h1, g1, GF.mul_one] at t1
            exact t1.symm
      have qo : q = pone := by
        funext i
        show q i = if i = 0 then 1 else 0
        by_cases hi : i = 0
        · rw [if_pos hi, hi, q1]
        · rw [if_neg hi]; exact hdm i (by omega)
      refine Tr_ext hg hh ?_
      rw [e, qo]; exact (funext fun i => cv_one_left _ i).symm
theorem IsGcd_unique {a b : PS} {g h : List GF} (hg : IsGcd a b g) (hh : IsGcd a b h) : g = h :=
  Dv_assoc hg.1 hh.1 hg.2.1 hh.2.1 ((hh.2.2 _).2 ((hg.2.2 _).1 (Dv.refl _))) ((hg.2.2 _).2 ((hh.2.2 _).1 (Dv.refl _)))
/-- One step of Euclid's algorithm. -/
theorem gcd_step {a b q r : PS} {N : Nat} (hq : degB N q) (h : ∀ i, a i = cv q b i + r i) (d : PS) : (Dv d b ∧ Dv d r) ↔ (Dv d a ∧ Dv d b) := by
  have ea : a = padd (cv q b) r := funext h
  constructor
  · rintro ⟨h1, h2⟩
    exact ⟨by rw [ea]; exact (h1.mul hq).add h2, h1⟩
  · rintro ⟨h1, h2⟩
    refine ⟨h2, ?_⟩
    have er : r = padd a (cv q b) := by
      rw [ea]; funext i
      show r i = cv q b i + r i + cv q b i
      rw [GF.add_comm (cv q b i) (r i), GF.add_assoc, GF.add_self, GF.add_zero]
    rw [er]; exact h1.add (h2.mul hq)
/-- A polynomial times a number that is not 0. -/
theorem Dv_sc {d a : PS} {c : GF} (hc : c ≠ 0) : Dv d (psc c a) ↔ Dv d a := by
  have key : ∀ (c : GF) (a : PS), Dv d a → Dv d (psc c a) := by
    rintro c a ⟨q, N, hq, rfl⟩
    exact ⟨psc c q, N, degB_psc c hq, (funext fun i => cv_sc_left c q d i).symm⟩
  refine ⟨fun h => ?_, key c a⟩
  have := key c.inv _ h
  have e : psc c.inv (psc c a) = a := by
    funext i; show c.inv * (c * a i) = a i
    rw [← GF.mul_assoc, GF.inv_mul hc, GF.one_mul]
  rwa [e] at this
theorem cv_const (f : PS) (c : GF) : cv f (cf [c]) = psc c f := by
  funext n
  rw [cv_comm]
  have ht : tl (cf [c]) = pz := by rw [tl_cf_cons, cf_nil]
  cases n with
  | zero => rfl
  | succ n => rw [cv_succ, ht, cv_pz, GF.add_zero]; rfl
theorem gcd_end {a b : PS} {g : List GF} (hg : Tr g) (h : ∀ d, Dv d (cf g) ↔ (Dv d a ∧ Dv d b)) (hne : g ≠ []) : IsGcd a b (prodP g [(cf g (g.length - 1)).inv]) := by
  obtain ⟨n, hn, htop, hd⟩ := Tr_top hg hne
  have hc : (cf g n).inv ≠ 0 := fun e => GF.one_ne (by rw [← GF.mul_inv htop, e, GF.mul_zero])
  have e1 : g.length - 1 = n := by omega
  rw [e1]
  have ec : cf (prodP g [(cf g n).inv]) = psc (cf g n).inv (cf g) := by rw [cf_prodP, cv_const]
  have hT := Tr_ofF (g.length + 1) (cv (cf g) (cf [(cf g n).inv]))
  have hl : (prodP g [(cf g n).inv]).length = n + 1 := by
    have h1 : (prodP g [(cf g n).inv]).length ≤ n + 1 := Tr_len hT (by
      show degB (n + 1) (cf (prodP g [(cf g n).inv]))
      rw [ec]; exact degB_psc _ hd)
    rcases Nat.lt_or_ge n (prodP g [(cf g n).inv]).length with h2 | h2
    · omega
    · have h3 := degB_cf (prodP g [(cf g n).inv]) n h2
      rw [ec] at h3
      have h4 : (cf g n).inv * cf g n = 0 := h3
      rw [GF.inv_mul htop] at h4
      exact absurd h4 GF.one_ne
  refine ⟨hT, .inr ?_, fun d => ?_⟩
  · rw [hl, ec]; exact GF.inv_mul htop
  · rw [ec, Dv_sc hc]; exact h d
theorem gcd_nil {a b : PS} (h : ∀ d, Dv d (cf []) ↔ (Dv d a ∧ Dv d b)) : IsGcd a b [] := ⟨.inl rfl, .inl rfl, h⟩
/-- A division without remainder. -/
theorem Div_dvd {a b q r : List GF} (hb : Tr b) (hne : b ≠ []) (h : Div a b q r) (hd : Dv (cf b) (cf a)) : r = [] := by
  obtain ⟨p, N, hp, e⟩ := hd
  have hpos : 0 < b.length := List.length_pos_iff.2 hne
  have h2 : Div a b (ofF N p) [] := ⟨Tr_ofF _ _, .inl rfl, by simpa using hpos, fun i => by rw [cf_ofF hp, cf_nil, e]; exact (GF.add_zero _).symm⟩
  exact (Div_unique hb hne h h2).2

/-! ### Roots -/
def quo : List GF → GF → List GF
  | [], _ => []
  | _ :: a, r => valL a r :: quo a r
theorem quo_len (a : List GF) (r : GF) : (quo a r).length = a.length := by
  induction a with
  | nil => rfl
  | cons c a ih => show (quo a r).length + 1 = a.length + 1; rw [ih]
theorem cv_lin (f : PS) (r : GF) : cv f (cf [r, 1]) = padd (psc r f) (px f) := by
  funext n
  rw [cv_comm, cv_split, tl_cf_cons]
  show r * f n + px (cv (cf [1]) f) n = r * f n + px f n
  congr 2
  funext i
  rw [cv_comm, cv_const]; exact GF.one_mul _
theorem cf_cons (c : GF) (a : List GF) : cf (c :: a) = padd (psc c pone) (px (cf a)) := by
  funext i
  cases i with
  | zero => show c = c * 1 + 0; rw [GF.mul_one, GF.add_zero]
  | succ i => show cf (c :: a) (i + 1) = c * 0 + cf a i; rw [GF.mul_zero, GF.zero_add]; simp [cf]
theorem fac_val (a : List GF) (r : GF) : ∀ c, cf (c :: a) = padd (cv (cf (quo (c :: a) r)) (cf [r, 1])) (psc (valL (c :: a) r) pone) := by
  induction a with
  | nil =>
    intro c
    have e : cf (quo [c] r) = pz := by
      funext i
      show cf [valL [] r] i = 0
      cases i with
      | zero => rfl
      | succ i => simp [cf]
    rw [e]
    funext i
    show cf [c] i = cv pz (cf [r, 1]) i + (0 * r + c) * (if i = 0 then 1 else 0)
    rw [cv_pz, GF.zero_add, GF.zero_mul, GF.zero_add]
    cases i with
    | zero => exact (GF.mul_one c).symm
    | succ i => rw [if_neg (by omega), GF.mul_zero]; simp [cf]
  | cons b a ih =>
    intro c
    have h := ih b
    rw [cv_lin] at h ⊢
    rw [cf_cons c (b :: a), h]
    have e : quo (c :: b :: a) r = valL (b :: a) r :: quo (b :: a) r := rfl
    rw [e, cf_cons (valL (b :: a) r)]
    generalize cf (quo (b :: a) r) = Q
    show _ = padd _ (psc (valL (b :: a) r * r + c) pone)
    generalize valL (b :: a) r = v
    funext i
    cases i with
    | zero =>
      show c * 1 + 0 = (r * (v * 1 + 0) + 0) + (v * r + c) * 1
      rw [GF.mul_one, GF.mul_one, GF.mul_one, GF.add_zero, GF.add_zero, GF.add_zero, GF.mul_comm v r, ← GF.add_assoc, GF.add_self, GF.zero_add]
    | succ i =>
      show c * 0 + ((r * Q i + px Q i) + v * pone i) = (r * (v * 0 + Q i) + (v * pone i + px Q i)) + (v * r + c) * 0
      rw [GF.mul_zero, GF.mul_zero, GF.mul_zero, GF.zero_add, GF.zero_add, GF.add_zero]
      ac_rfl
theorem degB_quo : ∀ (a : List GF) (r : GF), degB (a.length - 1) (cf (quo a r))
  | [], _ => fun i _ => by simp [quo, cf]
  | c :: a, r => by
    induction a generalizing c with
    | nil => intro i _; show cf [valL [] r] i = 0; cases i with
      | zero => rfl
      | succ i => simp [cf]
    | cons b a ih =>
      intro i hi
      show cf (valL (b :: a) r :: quo (b :: a) r) i = 0
      simp only [List.length_cons, Nat.add_sub_cancel] at hi
      cases i with
      | zero => omega
      | succ i =>
        have := ih b i (by simp only [List.length_cons, Nat.add_sub_cancel]; omega)
        simpa [cf] using this
/-- The factor theorem. -/
theorem root_fac {a : List GF} {r : GF} (h : valL a r = 0) : cf a = cv (cf (quo a r)) (cf [r, 1]) := by
  rcases a with _ | ⟨c, a⟩
  · rw [cf_nil]; show pz = cv (cf []) _; rw [cf_nil]; exact (funext fun i => cv_pz _ i).symm
  · have := fac_val a r c
    rw [this, h]
    funext i
    show cv _ _ i + 0 * pone i = _
    rw [GF.zero_mul, GF.add_zero]
theorem valL_lin (r x : GF) : valL [r, 1] x = x + r := by
  show (0 * x + 1) * x + r = x + r
  rw [GF.zero_mul, GF.zero_add, GF.one_mul]
theorem vH_quo (a : List GF) (r x : GF) (h : valL a r = 0) : valL a x = valL (quo a r) x * (x + r) := by
  rw [← valL_lin, valL_of x (root_fac h) (degB_cv' (degB_cf (quo a r)) (degB_cf [r, 1])), vH_cv x (degB_cf _) (degB_cf _) (Nat.le_refl _), valL_vH, valL_vH]
/-- Roots: fewer than there are coefficients. -/
theorem roots_lt : ∀ (l : List GF) (n : Nat) (a : List GF), degB n (cf a) → cf a ≠ pz → l.Nodup → (∀ x ∈ l, valL a x = 0) → l.length < n := by
  intro l
  induction l with
  | nil =>
    intro n a hd hne _ _
    rcases Nat.eq_zero_or_pos n with h | h
    · subst h; exact absurd (degB_zero hd) hne
    · exact h
  | cons r l ih =>
    intro n a hd hne hnd hr
    have h0 := hr r (List.mem_cons_self ..)
    have hl := List.nodup_cons.1 hnd
    -- shorten a to its trimmed form
    have hq : cf (quo a r) ≠ pz := by
      intro e
      apply hne
      rw [root_fac h0, e]; exact funext fun i => cv_pz _ i
    have hdq : degB (n - 1) (cf (quo a r)) := by
      intro i hi
      apply Classical.byContradiction
      intro hi2
      obtain ⟨m, hm, hdm⟩ := top_of (degB_cf (quo a r)) hq
      have hmi : i ≤ m := by
        rcases Nat.lt_or_ge m i with h | h
        · exact absurd (hdm i (by omega)) hi2
        · exact h
      have h1 := cv_top (n := 1) hdm (degB_cf [r, 1])
      rw [← root_fac h0] at h1
      have h2 : cf [r, 1] 1 = 1 := rfl
      rw [h2, GF.mul_one, hd (m + 1) (by omega)] at h1
      exact hm h1.symm
    have := ih (n - 1) (quo a r) hdq hq hl.2 (fun x hx => by
      have h1 := hr x (List.mem_cons_of_mem _ hx)
      rw [vH_quo a r x h0] at h1
      rcases GF.mul_eq_zero h1 with h2 | h2
      · exact h2
      · have : x = r := GF.eq_of_add h2
        exact absurd (this ▸ hx) hl.1)
    simp only [List.length_cons]
    omega
/-- Two polynomials with the same values at as many places as they have coefficients are equal. -/
theorem inter_unique {a b : List GF} {l : List GF} (ha : Tr a) (hb : Tr b) (hal : a.length ≤ l.length) (hbl : b.length ≤ l.length) (hnd : l.Nodup) (h : ∀ x ∈ l, valL a x = valL b x) : a = b := by
  apply Classical.byContradiction
  intro hne
  have hs : cf (sumP a b) ≠ pz := by
    intro e
    rw [cf_sumP] at e
    exact hne (Tr_ext ha hb (eq_of_padd e))
  have hd : degB l.length (cf (sumP a b)) := by rw [cf_sumP]; exact degB_mono (degB_sum a b) (by omega)
  have := roots_lt l l.length (sumP a b) hd hs hnd (fun x hx => by rw [valL_sum, h x hx, GF.add_self])
  omega
/-- The roots. -/
def allG : List GF := (List.range 256).map fun n => GF.mk (n % 256) (by omega)
def rootsL (a : List GF) : List GF := allG.filter fun x => decide (valL a x = 0)
theorem GF.mk_inj {m n : Nat} {hm : m < 256} {hn : n < 256} (h : GF.mk m hm = GF.mk n hn) : m = n := by
  have := congrArg GF.v h; exact this
theorem allG_nodup : allG.Nodup := by
  unfold allG List.Nodup
  rw [List.pairwise_map]
  refine List.Pairwise.imp_of_mem ?_ (List.nodup_range (n := 256))
  intro a b ha hb hne e
  have h1 := List.mem_range.1 ha
  have h2 := List.mem_range.1 hb
  have := GF.mk_inj e
  omega
theorem mem_allG (x : GF) : x ∈ allG := by
  unfold allG
  refine List.mem_map.2 ⟨x.v, List.mem_range.2 x.lt, ?_⟩
  apply GF.ext
  rw [GF.v_mk]; exact Nat.mod_eq_of_lt x.lt
theorem rootsL_nodup (a : List GF) : (rootsL a).Nodup := List.Pairwise.filter _ allG_nodup
theorem mem_rootsL (a : List GF) (x : GF) : x ∈ rootsL a ↔ valL a x = 0 := by
  unfold rootsL; rw [List.mem_filter]; simp [mem_allG]
theorem rootsL_lt {a : List GF} (h : trimL a ≠ []) : (rootsL a).length < (trimL a).length := by
  refine roots_lt _ _ (trimL a) (degB_cf _) (ne_pz (Tr_trim a) h) (rootsL_nodup a) (fun x hx => ?_)
  rw [valL_trim]; exact (mem_rootsL a x).1 hx
end Go.Proofs.Ytpkaaiefnabfbaa
