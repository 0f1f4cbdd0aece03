/- Plain laws of polynomials: the value of a sum and of a product; the derivative of a product. -/
import Derived.Test.YtpkaaiefnabfbaaRfB
import Derived.Test.YtpkaaiefnabfbaaDiv
namespace Go.Proofs.Ytpkaaiefnabfbaa
set_option linter.unusedVariables false

/-- The value of the first n coefficients. -/
def vH : PS → GF → Nat → GF
  | f, x, 0 => 0
  | f, x, n + 1 => vH (tl f) x n * x + f 0
theorem vH_zero (f : PS) (x : GF) : vH f x 0 = 0 := rfl
theorem vH_succ (f : PS) (x : GF) (n : Nat) : vH f x (n + 1) = vH (tl f) x n * x + f 0 := rfl
theorem valL_vH (a : List GF) (x : GF) : valL a x = vH (cf a) x a.length := by
  induction a with
  | nil => rfl
  | cons c a ih => rw [List.length_cons, vH_succ, tl_cf_cons, ← ih]; rfl
theorem vH_pz (x : GF) (n : Nat) : vH pz x n = 0 := by
  induction n with
  | zero => rfl
  | succ n ih => rw [vH_succ, tl_pz, ih, GF.zero_mul]; exact GF.add_zero _
theorem vH_stable {m n : Nat} {f : PS} (x : GF) (hf : degB m f) (h : m ≤ n) : vH f x n = vH f x m := by
  induction m generalizing f n with
  | zero => rw [degB_zero hf, vH_pz, vH_pz]
  | succ m ih =>
    obtain ⟨n, rfl⟩ : ∃ k, n = k + 1 := ⟨n - 1, by omega⟩
    rw [vH_succ, vH_succ, ih (degB_tl hf) (by omega)]
theorem vH_add (f g : PS) (x : GF) (n : Nat) : vH (padd f g) x n = vH f x n + vH g x n := by
  induction n generalizing f g with
  | zero => exact (GF.add_zero 0).symm
  | succ n ih => rw [vH_succ, vH_succ, vH_succ, tl_padd, ih, GF.add_mul, GF.add_swap]; rfl
theorem vH_sc (c : GF) (f : PS) (x : GF) (n : Nat) : vH (psc c f) x n = c * vH f x n := by
  induction n generalizing f with
  | zero => exact (GF.mul_zero c).symm
  | succ n ih => rw [vH_succ, vH_succ, tl_psc, ih, GF.mul_add, GF.mul_assoc]; rfl
theorem vH_px (f : PS) (x : GF) (n : Nat) : vH (px f) x (n + 1) = vH f x n * x := by
  rw [vH_succ, tl_px]; exact GF.add_zero _
theorem cv_split (f g : PS) : cv f g = padd (psc (f 0) g) (px (cv (tl f) g)) := by
  funext n
  cases n with
  | zero => exact (GF.add_zero _).symm
  | succ n => rfl
theorem vH_cv {m n k : Nat} {f g : PS} (x : GF) (hf : degB m f) (hg : degB n g) (h : m + n ≤ k) : vH (cv f g) x k = vH f x m * vH g x n := by
  induction m generalizing f k with
  | zero =>
    have e : cv f g = pz := by rw [degB_zero hf]; exact funext fun i => cv_pz g i
    rw [e, vH_pz, vH_zero, GF.zero_mul]
  | succ m ih =>
    obtain ⟨k, rfl⟩ : ∃ j, k = j + 1 := ⟨k - 1, by omega⟩
    rw [cv_split, vH_add, vH_sc, vH_px, ih (degB_tl hf) (by omega), vH_succ f x m, vH_stable x hg (show n ≤ k + 1 by omega), GF.add_mul]
    rw [GF.add_comm]
    congr 1
    rw [GF.mul_assoc, GF.mul_assoc, GF.mul_comm (vH g x n) x]
theorem valL_of {a : List GF} {f : PS} {n : Nat} (x : GF) (h : cf a = f) (hf : degB n f) : valL a x = vH f x n := by
  rw [valL_vH, h]
  rcases Nat.le_total n a.length with h1 | h1
  · exact vH_stable x hf h1
  · rw [vH_stable x (by rw [← h]; exact degB_cf a) h1]
theorem valL_congr {a b : List GF} (x : GF) (h : cf a = cf b) : valL a x = valL b x := by
  rw [valL_of x h (degB_cf b), ← valL_vH]
theorem valL_trim (a : List GF) (x : GF) : valL (trimL a) x = valL a x := valL_congr x (cf_trim a)
theorem valL_sum (a b : List GF) (x : GF) : valL (sumP a b) x = valL a x + valL b x := by
  rw [valL_of x (cf_sumP a b) (degB_sum a b), vH_add, valL_vH, valL_vH, vH_stable x (degB_cf a) (by omega), vH_stable x (degB_cf b) (by omega)]
theorem valL_prod (a b : List GF) (x : GF) : valL (prodP a b) x = valL a x * valL b x := by
  rw [valL_of x (cf_prodP a b) (degB_prod a b), vH_cv x (degB_cf a) (degB_cf b) (Nat.le_refl _), valL_vH, valL_vH]

/-! ### The derivative -/
theorem dvS_split (f : PS) : dvS f = padd (tl f) (px (dvS (tl f))) := by
  funext i
  cases i with
  | zero => show (if 0 % 2 = 0 then f (0 + 1) else 0) = f 1 + 0; rw [if_pos rfl, GF.add_zero]
  | succ j =>
    show (if (j + 1) % 2 = 0 then f (j + 2) else 0) = f (j + 2) + (if j % 2 = 0 then f (j + 2) else 0)
    rcases Nat.mod_two_eq_zero_or_one j with h | h
    · rw [if_neg (by omega), if_pos h, GF.add_self]
    · rw [if_pos (by omega), if_neg (by omega), GF.add_zero]
theorem dvS_add (f g : PS) : dvS (padd f g) = padd (dvS f) (dvS g) := by
  funext i
  show (if i % 2 = 0 then f (i + 1) + g (i + 1) else 0) = (if i % 2 = 0 then f (i + 1) else 0) + (if i % 2 = 0 then g (i + 1) else 0)
  split
  · rfl
  · exact (GF.add_zero 0).symm
theorem dvS_sc (c : GF) (f : PS) : dvS (psc c f) = psc c (dvS f) := by
  funext i
  show (if i % 2 = 0 then c * f (i + 1) else 0) = c * (if i % 2 = 0 then f (i + 1) else 0)
  split
  · rfl
  · exact (GF.mul_zero c).symm
theorem dvS_px (f : PS) : dvS (px f) = padd f (px (dvS f)) := by rw [dvS_split, tl_px]
theorem dvS_cv (f g : PS) (n : Nat) : dvS (cv f g) n = cv (dvS f) g n + cv f (dvS g) n := by
  induction n generalizing f with
  | zero =>
    rw [cv_split f g, dvS_add, dvS_sc, dvS_px, dvS_split f, cv_split f (dvS g)]
    show f 0 * dvS g 0 + (cv (tl f) g 0 + 0) = cv (padd (tl f) (px (dvS (tl f)))) g 0 + (f 0 * dvS g 0 + 0)
    rw [cv_add_left, cv_px]
    show f 0 * dvS g 0 + (cv (tl f) g 0 + 0) = (cv (tl f) g 0 + 0) + (f 0 * dvS g 0 + 0)
    rw [GF.add_zero, GF.add_zero, GF.add_comm]
  | succ n ih =>
    rw [cv_split f g, dvS_add, dvS_sc, dvS_px, dvS_split f, cv_split f (dvS g)]
    show f 0 * dvS g (n + 1) + (cv (tl f) g (n + 1) + dvS (cv (tl f) g) n) = cv (padd (tl f) (px (dvS (tl f)))) g (n + 1) + (f 0 * dvS g (n + 1) + cv (tl f) (dvS g) n)
    rw [cv_add_left, cv_px, ih]
    show f 0 * dvS g (n + 1) + (cv (tl f) g (n + 1) + (cv (dvS (tl f)) g n + cv (tl f) (dvS g) n)) = (cv (tl f) g (n + 1) + cv (dvS (tl f)) g n) + (f 0 * dvS g (n + 1) + cv (tl f) (dvS g) n)
    ac_rfl
theorem der_prod (a b : List GF) : derP (prodP a b) = sumP (prodP (derP a) b) (prodP a (derP b)) := by
  refine Tr_ext (Tr_ofF _ _) (Tr_ofF _ _) ?_
  rw [cf_derP, cf_prodP, cf_sumP, cf_prodP, cf_prodP, cf_derP, cf_derP]
  exact funext fun n => dvS_cv _ _ n
end Go.Proofs.Ytpkaaiefnabfbaa
