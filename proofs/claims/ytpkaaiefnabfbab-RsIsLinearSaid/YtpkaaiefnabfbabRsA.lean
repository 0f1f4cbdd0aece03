/- Reed-Solomon codes: plain laws of locators, evaluators and power sums. -/
import Derived.Test.YtpkaaiefnabfbabPlB
import Derived.Test.YtpkaaiefnabfbabGfD
namespace Go.Proofs.Ytpkaaiefnabfbab
set_option linter.unusedVariables false

/-! ### The generator's powers -/
theorem GF.exp_add (m n : Int) : GF.exp (m + n) = GF.exp m * GF.exp n := by
  apply GF.z_inj.1
  rw [← gM_z, ← gE_z, ← gE_z, ← gE_z, gE_add]
theorem GF.exp_ne (n : Int) : GF.exp n ≠ 0 := by
  intro h
  have h1 := gE_pos n
  rw [gE_z, h, GF.z_zero] at h1
  omega
theorem GF.exp_zero : GF.exp 0 = 1 := by
  apply GF.ext
  unfold GF.exp
  rw [GF.v_mk]; exact ge_zero
theorem GF.exp_neg (n : Int) : GF.exp (-n) = (GF.exp n).inv := by
  apply GF.z_inj.1
  rw [← gI_z, ← gE_z, ← gE_z, gE_neg]
theorem GF.exp_inj {m n : Nat} (hm : m < 255) (hn : n < 255) (h : GF.exp m = GF.exp n) : m = n := by
  have h1 := congrArg GF.v h
  unfold GF.exp at h1
  rw [GF.v_mk, GF.v_mk] at h1
  have e : ∀ k : Nat, k < 255 → ((k : Int) % 255).toNat = k := fun k hk => by omega
  rw [e m hm, e n hn] at h1
  exact ge_inj hm hn h1
theorem gpow_exp (n : Int) (j : Nat) : gpow (GF.exp n) j = GF.exp (n * j) := by
  induction j with
  | zero => show (1 : GF) = GF.exp (n * 0); rw [Int.mul_zero, GF.exp_zero]
  | succ j ih =>
    show gpow (GF.exp n) j * GF.exp n = _
    rw [ih, ← GF.exp_add]
    congr 1
    rw [Int.natCast_succ, Int.mul_add, Int.mul_one]
theorem gpow_swap (m n : Nat) : gpow (GF.exp m) n = gpow (GF.exp n) m := by
  rw [gpow_exp, gpow_exp, Int.mul_comm]
theorem GF.inv_ne {x : GF} (h : x ≠ 0) : x.inv ≠ 0 := fun e => GF.one_ne (by rw [← GF.mul_inv h, e, GF.mul_zero])
theorem GF.inv_inv {x : GF} (h : x ≠ 0) : x.inv.inv = x := by
  have h1 := GF.mul_inv (GF.inv_ne h)
  calc x.inv.inv = 1 * x.inv.inv := (GF.one_mul _).symm
    _ = x * x.inv * x.inv.inv := by rw [GF.mul_inv h]
    _ = x := by rw [GF.mul_assoc, h1, GF.mul_one]
theorem GF.inv_inj {x y : GF} (hx : x ≠ 0) (hy : y ≠ 0) (h : x.inv = y.inv) : x = y := by rw [← GF.inv_inv hx, h, GF.inv_inv hy]
theorem GF.mul_cancel {x y z : GF} (hx : x ≠ 0) (h : x * y = x * z) : y = z := by
  have : x.inv * (x * y) = x.inv * (x * z) := by rw [h]
  rwa [← GF.mul_assoc, ← GF.mul_assoc, GF.inv_mul hx, GF.one_mul, GF.one_mul] at this

/-! ### Power sums -/
def geo (X : GF) : PS := fun j => gpow X j
theorem cv_fac (X : GF) (g : PS) : cv (cf [1, X]) g = padd g (px (psc X g)) := by
  rw [cv_split, tl_cf_cons]
  have e : cv (cf [X]) g = psc X g := by funext i; rw [cv_comm, cv_const]
  rw [e]
  funext i
  show (1 : GF) * g i + _ = g i + _
  rw [GF.one_mul]
theorem geo_inv (X : GF) : cv (cf [1, X]) (geo X) = pone := by
  rw [cv_fac]
  funext i
  cases i with
  | zero => show gpow X 0 + 0 = 1; rw [GF.add_zero]; rfl
  | succ i =>
    show gpow X i * X + X * gpow X i = 0
    rw [GF.mul_comm X, GF.add_self]
def lam : List GF → PS
  | [] => pone
  | X :: t => cv (cf [1, X]) (lam t)
def om : List (GF × GF) → PS
  | [] => pz
  | q :: t => padd (psc q.2 (lam (t.map Prod.fst))) (cv (cf [1, q.1]) (om t))
def ser : List (GF × GF) → PS
  | [] => pz
  | q :: t => padd (psc q.2 (geo q.1)) (ser t)
theorem cv_left_comm (f g h : PS) : cv f (cv g h) = cv g (cv f h) := by
  funext i
  rw [← cv_assoc, ← cv_assoc]
  exact cv_congr i (fun k _ => cv_comm f g k) (fun _ _ => rfl)
theorem cv_assoc' (f g h : PS) : cv (cv f g) h = cv f (cv g h) := funext fun i => cv_assoc f g h i
theorem cv_comm' (f g : PS) : cv f g = cv g f := funext fun i => cv_comm f g i
theorem cv_padd_right (f g h : PS) : cv f (padd g h) = padd (cv f g) (cv f h) := funext fun i => cv_add_right f g h i
theorem cv_psc_right (c : GF) (f h : PS) : cv f (psc c h) = psc c (cv f h) := funext fun i => cv_sc_right c f h i
theorem cv_pone_right (f : PS) : cv f pone = f := funext fun i => cv_one_right f i
theorem cv_pone_left (f : PS) : cv pone f = f := funext fun i => cv_one_left f i
theorem lam_ser (t : List (GF × GF)) : cv (lam (t.map Prod.fst)) (ser t) = om t := by
  induction t with
  | nil => exact funext fun i => cv_pz_right _ i
  | cons q t ih =>
    show cv (cv (cf [1, q.1]) (lam (t.map Prod.fst))) (padd (psc q.2 (geo q.1)) (ser t)) = padd (psc q.2 (lam (t.map Prod.fst))) (cv (cf [1, q.1]) (om t))
    rw [cv_padd_right, cv_psc_right]
    congr 1
    · congr 1
      rw [cv_assoc', cv_left_comm, geo_inv, cv_pone_right]
    · rw [cv_assoc', ih]
theorem degB_lam (t : List GF) : degB (t.length + 1) (lam t) := by
  induction t with
  | nil => exact degB_pone
  | cons X t ih => exact degB_mono (degB_cv (m := 1) (n := t.length) (degB_cf [1, X]) ih) (by simp only [List.length_cons]; omega)
theorem degB_om (t : List (GF × GF)) : degB t.length (om t) := by
  induction t with
  | nil => exact degB_pz 0
  | cons q t ih =>
    have h1 := degB_lam (t.map Prod.fst)
    rw [List.length_map] at h1
    have h2 : degB (t.length + 1) (cv (cf [1, q.1]) (om t)) := by
      rcases Nat.eq_zero_or_pos t.length with h | h
      · have : om t = pz := degB_zero (by rw [← h]; exact ih)
        rw [this]; exact fun i _ => cv_pz_right _ i
      · obtain ⟨n, hn⟩ : ∃ n, t.length = n + 1 := ⟨t.length - 1, by omega⟩
        rw [hn] at ih
        exact degB_mono (degB_cv (m := 1) (n := n) (degB_cf [1, q.1]) ih) (by omega)
    exact degB_mono (degB_padd (degB_psc q.2 h1) h2) (by simp)
theorem lam_zero (t : List GF) : lam t 0 = 1 := by
  induction t with
  | nil => rfl
  | cons X t ih => show 1 * lam t 0 = 1; rw [ih, GF.one_mul]
theorem lam_append (a b : List GF) : lam (a ++ b) = cv (lam a) (lam b) := by
  induction a with
  | nil => exact (cv_pone_left _).symm
  | cons X a ih => show cv (cf [1, X]) (lam (a ++ b)) = cv (cv (cf [1, X]) (lam a)) (lam b); rw [ih, cv_assoc']
/-! ### Values -/
theorem vH_eq {m n : Nat} {f : PS} (x : GF) (hm : degB m f) (hn : degB n f) : vH f x m = vH f x n := by
  rcases Nat.le_total m n with h | h
  · exact (vH_stable x hm h).symm
  · exact vH_stable x hn h
def plv : List GF → GF → GF
  | [], _ => 1
  | X :: t, z => (1 + X * z) * plv t z
def omv : List (GF × GF) → GF → GF
  | [], _ => 0
  | q :: t, z => q.2 * plv (t.map Prod.fst) z + (1 + q.1 * z) * omv t z
def dlv : List GF → GF → GF
  | [], _ => 0
  | X :: t, z => X * plv t z + (1 + X * z) * dlv t z
theorem vH_fac (X z : GF) : vH (cf [1, X]) z 2 = 1 + X * z := by
  have : valL [1, X] z = 1 + X * z := by
    show (0 * z + X) * z + 1 = _
    rw [GF.zero_mul, GF.zero_add, GF.add_comm]
  rw [← this, valL_vH]; rfl
theorem vH_lam (t : List GF) (z : GF) : vH (lam t) z (t.length + 1) = plv t z := by
  induction t with
  | nil => show (0 : GF) * z + 1 = 1; rw [GF.zero_mul, GF.zero_add]
  | cons X t ih =>
    rw [vH_eq z (degB_lam (X :: t)) (degB_mono (degB_lam (X :: t)) (show (X :: t).length + 1 ≤ 2 + (t.length + 1) by simp; omega))]
    show vH (cv (cf [1, X]) (lam t)) z (2 + (t.length + 1)) = (1 + X * z) * plv t z
    rw [vH_cv z (show degB 2 (cf [1, X]) from degB_cf [1, X]) (degB_lam t) (Nat.le_refl _), ih]
    congr 1
    exact vH_fac X z
theorem vH_om (t : List (GF × GF)) (z : GF) : vH (om t) z t.length = omv t z := by
  induction t with
  | nil => rfl
  | cons q t ih =>
    rw [vH_eq z (degB_om (q :: t)) (degB_mono (degB_om (q :: t)) (show (q :: t).length ≤ 2 + t.length by simp; omega))]
    show vH (padd (psc q.2 (lam (t.map Prod.fst))) (cv (cf [1, q.1]) (om t))) z (2 + t.length) = _
    rw [vH_add, vH_sc, vH_cv z (show degB 2 (cf [1, q.1]) from degB_cf [1, q.1]) (degB_om t) (Nat.le_refl _), ih]
    have h1 := degB_lam (t.map Prod.fst)
    rw [List.length_map] at h1
    rw [vH_stable z h1 (show t.length + 1 ≤ 2 + t.length by omega)]
    have h2 := vH_lam (t.map Prod.fst) z
    rw [List.length_map] at h2
    rw [h2]
    show _ + vH (cf [1, q.1]) z 2 * omv t z = _
    rw [vH_fac]; rfl
theorem degB_dvS {n : Nat} {f : PS} (h : degB (n + 1) f) : degB n (dvS f) := fun i hi => by
  unfold dvS; split
  · exact h _ (by omega)
  · rfl
theorem vH_dlam (t : List GF) (z : GF) : vH (dvS (lam t)) z t.length = dlv t z := by
  induction t with
  | nil => rfl
  | cons X t ih =>
    have hd : degB (t.length + 1) (dvS (lam (X :: t))) := degB_dvS (degB_lam (X :: t))
    rw [vH_eq z (show degB (X :: t).length (dvS (lam (X :: t))) from hd) (degB_mono hd (show t.length + 1 ≤ 2 + (t.length + 1) by omega))]
    have e : dvS (lam (X :: t)) = padd (cv (dvS (cf [1, X])) (lam t)) (cv (cf [1, X]) (dvS (lam t))) := funext fun i => dvS_cv _ _ i
    have e2 : cv (dvS (cf [1, X])) (lam t) = psc X (lam t) := by
      have : dvS (cf [1, X]) = cf [X] := by
        rw [dvS_split, tl_cf_cons]
        funext i
        cases i with
        | zero => exact GF.add_zero _
        | succ i => show cf [X] (i + 1) + dvS (cf [X]) i = cf [X] (i + 1)
                    have h0 : dvS (cf [X]) i = 0 := by unfold dvS; split <;> simp [cf]
                    rw [h0, GF.add_zero]
      rw [this]; funext i; rw [cv_comm, cv_const]
    rw [e, e2, vH_add, vH_sc, vH_cv z (show degB 2 (cf [1, X]) from degB_cf [1, X]) (degB_dvS (degB_lam t)) (show 2 + t.length ≤ 2 + (t.length + 1) by omega), ih, vH_stable z (degB_lam t) (show t.length + 1 ≤ 2 + (t.length + 1) by omega), vH_lam]
    show _ + vH (cf [1, X]) z 2 * dlv t z = _
    rw [vH_fac]; rfl
theorem fac_zero {X : GF} (hX : X ≠ 0) : 1 + X * X.inv = 0 := by rw [GF.mul_inv hX, GF.add_self]
theorem fac_ne {X Z : GF} (hZ : Z ≠ 0) (h : X ≠ Z) : 1 + X * Z.inv ≠ 0 := by
  intro e
  have h1 : X * Z.inv = 1 := (GF.eq_of_add e).symm
  apply h
  have : X * Z.inv * Z = 1 * Z := by rw [h1]
  rwa [GF.mul_assoc, GF.inv_mul hZ, GF.mul_one, GF.one_mul] at this
theorem plv_zero {t : List GF} {X : GF} (hX : X ≠ 0) (h : X ∈ t) : plv t X.inv = 0 := by
  induction t with
  | nil => simp at h
  | cons Y t ih =>
    show (1 + Y * X.inv) * plv t X.inv = 0
    rcases List.mem_cons.1 h with h | h
    · rw [← h, fac_zero hX, GF.zero_mul]
    · rw [ih h, GF.mul_zero]
theorem plv_ne {t : List GF} {X : GF} (hX : X ≠ 0) (h : X ∉ t) : plv t X.inv ≠ 0 := by
  induction t with
  | nil => exact GF.one_ne
  | cons Y t ih =>
    simp only [List.mem_cons, not_or] at h
    show (1 + Y * X.inv) * plv t X.inv ≠ 0
    intro e
    rcases GF.mul_eq_zero e with e | e
    · exact fac_ne hX (Ne.symm h.1) e
    · exact ih h.2 e
/-- The formula of Forney. -/
theorem forney {t : List (GF × GF)} (hnd : (t.map Prod.fst).Nodup) (hne : ∀ q ∈ t, q.1 ≠ 0) : ∀ q ∈ t, omv t q.1.inv * q.1 = q.2 * dlv (t.map Prod.fst) q.1.inv ∧ dlv (t.map Prod.fst) q.1.inv ≠ 0 := by
  induction t with
  | nil => intro q hq; simp at hq
  | cons p t ih =>
    intro q hq
    have hnd' := List.nodup_cons.1 hnd
    have hp := hne p (List.mem_cons_self ..)
    have hq0 := hne q hq
    show (p.2 * plv (t.map Prod.fst) q.1.inv + (1 + p.1 * q.1.inv) * omv t q.1.inv) * q.1 = q.2 * (p.1 * plv (t.map Prod.fst) q.1.inv + (1 + p.1 * q.1.inv) * dlv (t.map Prod.fst) q.1.inv) ∧ p.1 * plv (t.map Prod.fst) q.1.inv + (1 + p.1 * q.1.inv) * dlv (t.map Prod.fst) q.1.inv ≠ 0
    by_cases e : q = p
    · subst e
      rw [fac_zero hp, GF.zero_mul, GF.add_zero, GF.zero_mul, GF.add_zero]
      refine ⟨by rw [GF.mul_assoc, GF.mul_comm (plv _ _)], fun h => ?_⟩
      rcases GF.mul_eq_zero h with h | h
      · exact hp h
      · exact plv_ne hp hnd'.1 h
    · have hqt : q ∈ t := (List.mem_cons.1 hq).resolve_left e
      have hm : q.1 ∈ t.map Prod.fst := List.mem_map.2 ⟨q, hqt, rfl⟩
      obtain ⟨i1, i2⟩ := ih hnd'.2 (fun q hq => hne q (List.mem_cons_of_mem _ hq)) q hqt
      have hx : p.1 ≠ q.1 := fun h => hnd'.1 (h ▸ hm)
      rw [plv_zero hq0 hm, GF.mul_zero, GF.mul_zero, GF.zero_add, GF.zero_add]
      refine ⟨by rw [GF.mul_assoc, i1, GF.mul_left_comm], fun h => ?_⟩
      rcases GF.mul_eq_zero h with h | h
      · exact fac_ne hq0 hx h
      · exact i2 h
/-- Power sums that vanish. -/
theorem ser_zero {t : List (GF × GF)} {p : Nat} (hnd : (t.map Prod.fst).Nodup) (hne : ∀ q ∈ t, q.1 ≠ 0) (hp : t.length ≤ p) (h : ∀ j, j < p → ser t j = 0) : ∀ q ∈ t, q.2 = 0 := by
  have hz : om t = pz := by
    funext n
    by_cases hn : n < p
    · rw [← lam_ser]
      have := cv_congr (f := lam (t.map Prod.fst)) (g := ser t) (g' := pz) n (fun _ _ => rfl) (fun i hi => h i (by omega))
      rw [this]; exact cv_pz_right _ n
    · exact degB_om t n (by omega)
  intro q hq
  obtain ⟨h1, h2⟩ := forney hnd hne q hq
  have h3 : omv t q.1.inv = 0 := by rw [← vH_om, hz, vH_pz]
  rw [h3, GF.zero_mul] at h1
  rcases GF.mul_eq_zero h1.symm with h | h
  · exact h
  · exact absurd h h2
theorem ser_append (a b : List (GF × GF)) : ser (a ++ b) = padd (ser a) (ser b) := by
  induction a with
  | nil => funext i; exact (GF.zero_add _).symm
  | cons q a ih =>
    show padd (psc q.2 (geo q.1)) (ser (a ++ b)) = padd (padd (psc q.2 (geo q.1)) (ser a)) (ser b)
    rw [ih]; funext i; exact (GF.add_assoc _ _ _).symm
theorem ser_perm {a b : List (GF × GF)} (h : a.Perm b) : ser a = ser b := by
  induction h with
  | nil => rfl
  | cons q _ ih => show padd _ (ser _) = padd _ (ser _); rw [ih]
  | swap p q l =>
    funext i
    show _ + (_ + ser l i) = _ + (_ + ser l i)
    rw [GF.add_left_comm]
  | trans _ _ h1 h2 => exact h1.trans h2
/-- Terms that are 0 do not matter. -/
theorem ser_filter (t : List (GF × GF)) (p : GF × GF → Bool) (h : ∀ q ∈ t, p q = false → q.2 = 0) : ser (t.filter p) = ser t := by
  induction t with
  | nil => rfl
  | cons q t ih =>
    have ih' := ih fun q hq => h q (List.mem_cons_of_mem _ hq)
    rw [List.filter_cons]
    by_cases hp : p q = true
    · rw [if_pos hp]; show padd _ (ser _) = padd _ (ser t); rw [ih']
    · rw [if_neg hp, ih']
      have h0 := h q (List.mem_cons_self ..) (by simpa using hp)
      funext i
      show ser t i = q.2 * geo q.1 i + ser t i
      rw [h0, GF.zero_mul, GF.zero_add]
end Go.Proofs.Ytpkaaiefnabfbab
