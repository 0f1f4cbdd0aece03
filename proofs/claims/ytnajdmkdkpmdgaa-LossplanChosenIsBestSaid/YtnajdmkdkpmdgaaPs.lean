/- Power series over the field with 256 elements: a commutative ring; polynomials are lists of coefficients. -/
import Derived.Test.YtnajdmkdkpmdgaaBytes
namespace Go.Proofs.Ytnajdmkdkpmdgaa
set_option linter.unusedVariables false

abbrev PS := Nat → GF
theorem GF.add_left_comm (x y z : GF) : x + (y + z) = y + (x + z) := by rw [← GF.add_assoc, GF.add_comm x y, GF.add_assoc]
theorem GF.add_swap (a b c d : GF) : (a + b) + (c + d) = (a + c) + (b + d) := by rw [GF.add_assoc, GF.add_assoc, GF.add_left_comm b]
theorem GF.add_cancel {x y z : GF} (h : x + y = x + z) : y = z := by
  have : x + (x + y) = x + (x + z) := by rw [h]
  rwa [← GF.add_assoc, ← GF.add_assoc, GF.add_self, GF.zero_add, GF.zero_add] at this
theorem GF.eq_of_add {x y : GF} (h : x + y = 0) : x = y := by
  have : x + y + y = 0 + y := by rw [h]
  rwa [GF.add_assoc, GF.add_self, GF.add_zero, GF.zero_add] at this
theorem GF.mul_left_comm (x y z : GF) : x * (y * z) = y * (x * z) := by rw [← GF.mul_assoc, GF.mul_comm x y, GF.mul_assoc]
instance : Std.Associative (α := GF) (· + ·) := ⟨GF.add_assoc⟩
instance : Std.Commutative (α := GF) (· + ·) := ⟨GF.add_comm⟩
instance : Std.Associative (α := GF) (· * ·) := ⟨GF.mul_assoc⟩
instance : Std.Commutative (α := GF) (· * ·) := ⟨GF.mul_comm⟩

def tl (f : PS) : PS := fun i => f (i + 1)
def pz : PS := fun _ => 0
def pone : PS := fun i => if i = 0 then 1 else 0
def padd (f g : PS) : PS := fun i => f i + g i
def psc (c : GF) (f : PS) : PS := fun i => c * f i
/-- The product. -/
def cv : PS → PS → Nat → GF
  | f, g, 0 => f 0 * g 0
  | f, g, n + 1 => f 0 * g (n + 1) + cv (tl f) g n
theorem cv_zero (f g : PS) : cv f g 0 = f 0 * g 0 := rfl
theorem cv_succ (f g : PS) (n : Nat) : cv f g (n + 1) = f 0 * g (n + 1) + cv (tl f) g n := rfl
theorem tl_padd (f g : PS) : tl (padd f g) = padd (tl f) (tl g) := rfl
theorem tl_psc (c : GF) (f : PS) : tl (psc c f) = psc c (tl f) := rfl
theorem tl_pz : tl pz = pz := rfl
theorem cv_pz (g : PS) (n : Nat) : cv pz g n = 0 := by
  induction n with
  | zero => exact GF.zero_mul _
  | succ n ih => rw [cv_succ, tl_pz, ih]; show (0 : GF) * _ + 0 = 0; rw [GF.zero_mul, GF.add_zero]
theorem cv_add_left (f g h : PS) (n : Nat) : cv (padd f g) h n = cv f h n + cv g h n := by
  induction n generalizing f g with
  | zero => exact GF.add_mul _ _ _
  | succ n ih =>
    rw [cv_succ, cv_succ, cv_succ, tl_padd, ih, GF.add_swap]
    show (f 0 + g 0) * _ + _ = _
    rw [GF.add_mul]
theorem cv_sc_left (c : GF) (f h : PS) (n : Nat) : cv (psc c f) h n = c * cv f h n := by
  induction n generalizing f with
  | zero => exact GF.mul_assoc _ _ _
  | succ n ih =>
    rw [cv_succ, cv_succ, tl_psc, ih, GF.mul_add]
    show c * f 0 * _ + _ = _
    rw [GF.mul_assoc]
theorem cv_last (f g : PS) (n : Nat) : cv f g (n + 1) = f (n + 1) * g 0 + cv f (tl g) n := by
  induction n generalizing f with
  | zero =>
    show f 0 * g 1 + f 1 * g 0 = f 1 * g 0 + f 0 * g 1
    exact GF.add_comm _ _
  | succ n ih =>
    rw [cv_succ, ih (tl f), cv_succ f (tl g), GF.add_left_comm]
    rfl
theorem cv_comm (f g : PS) (n : Nat) : cv f g n = cv g f n := by
  induction n generalizing f with
  | zero => exact GF.mul_comm _ _
  | succ n ih => rw [cv_succ, ih (tl f), cv_last g f n, GF.mul_comm]
theorem tl_cv (f g : PS) : tl (cv f g) = padd (psc (f 0) (tl g)) (cv (tl f) g) := rfl
theorem cv_assoc (f g h : PS) (n : Nat) : cv (cv f g) h n = cv f (cv g h) n := by
  induction n generalizing f with
  | zero => exact GF.mul_assoc _ _ _
  | succ n ih =>
    rw [cv_succ, tl_cv, cv_add_left, cv_sc_left, ih, cv_succ f, cv_succ g, GF.mul_add, cv_zero, GF.mul_assoc, GF.add_assoc]
theorem cv_add_right (f g h : PS) (n : Nat) : cv f (padd g h) n = cv f g n + cv f h n := by
  rw [cv_comm, cv_add_left, cv_comm g, cv_comm h]
theorem cv_sc_right (c : GF) (f h : PS) (n : Nat) : cv f (psc c h) n = c * cv f h n := by
  rw [cv_comm, cv_sc_left, cv_comm h]
theorem cv_one_left (g : PS) (n : Nat) : cv pone g n = g n := by
  have ht : tl pone = pz := by funext i; show (if i + 1 = 0 then (1 : GF) else 0) = 0; rw [if_neg (by omega)]
  cases n with
  | zero => show (1 : GF) * g 0 = g 0; exact GF.one_mul _
  | succ n => rw [cv_succ, ht, cv_pz]; show (1 : GF) * _ + 0 = _; rw [GF.one_mul, GF.add_zero]
theorem cv_one_right (g : PS) (n : Nat) : cv g pone n = g n := by rw [cv_comm, cv_one_left]
theorem cv_pz_right (g : PS) (n : Nat) : cv g pz n = 0 := by rw [cv_comm, cv_pz]
theorem cv_congr {f f' g g' : PS} (n : Nat) (hf : ∀ i, i ≤ n → f i = f' i) (hg : ∀ i, i ≤ n → g i = g' i) : cv f g n = cv f' g' n := by
  induction n generalizing f f' with
  | zero => rw [cv_zero, cv_zero, hf 0 (by omega), hg 0 (by omega)]
  | succ n ih =>
    rw [cv_succ, cv_succ, hf 0 (by omega), hg (n + 1) (by omega)]
    rw [ih (f := tl f) (f' := tl f') (fun i hi => hf (i + 1) (by omega)) (fun i hi => hg i (by omega))]
/-- Degrees: all coefficients from n on are 0. -/
def degB (n : Nat) (f : PS) : Prop := ∀ i, n ≤ i → f i = 0
theorem degB_tl {n : Nat} {f : PS} (h : degB (n + 1) f) : degB n (tl f) := fun i hi => h (i + 1) (by omega)
theorem degB_zero {f : PS} (h : degB 0 f) : f = pz := funext fun i => h i (Nat.zero_le _)
theorem degB_mono {m n : Nat} {f : PS} (h : degB m f) (hmn : m ≤ n) : degB n f := fun i hi => h i (by omega)
theorem degB_cv {m n : Nat} {f g : PS} (hf : degB (m + 1) f) (hg : degB (n + 1) g) : degB (m + n + 1) (cv f g) := by
  induction m generalizing f with
  | zero =>
    intro i hi
    have ht : tl f = pz := degB_zero (degB_tl hf)
    cases i with
    | zero => omega
    | succ i => rw [cv_succ, ht, cv_pz, hg (i + 1) (by omega), GF.mul_zero, GF.add_zero]
  | succ m ih =>
    intro i hi
    cases i with
    | zero => omega
    | succ i => rw [cv_succ, hg (i + 1) (by omega), GF.mul_zero, GF.zero_add, ih (degB_tl hf) i (by omega)]
/-- The coefficient of a product at the sum of the degrees. -/
theorem cv_top {m n : Nat} {f g : PS} (hf : degB (m + 1) f) (hg : degB (n + 1) g) : cv f g (m + n) = f m * g n := by
  induction m generalizing f with
  | zero =>
    have ht : tl f = pz := degB_zero (degB_tl hf)
    rw [Nat.zero_add]
    cases n with
    | zero => rfl
    | succ n => rw [cv_succ, ht, cv_pz, GF.add_zero]
  | succ m ih =>
    rw [show m + 1 + n = (m + n) + 1 by omega, cv_succ, hg (m + n + 1) (by omega), GF.mul_zero, GF.zero_add, ih (degB_tl hf)]
    rfl
/-- x times a series. -/
def px (f : PS) : PS := fun i => match i with | 0 => 0 | i + 1 => f i
theorem tl_px (f : PS) : tl (px f) = f := rfl
theorem cv_px (f g : PS) : cv (px f) g = px (cv f g) := by
  funext n
  cases n with
  | zero => exact GF.zero_mul _
  | succ n => rw [cv_succ, tl_px]; show (0 : GF) * _ + _ = _; rw [GF.zero_mul, GF.zero_add]; rfl
def pxn : Nat → PS → PS
  | 0, f => f
  | k + 1, f => px (pxn k f)
theorem pxn_get (k : Nat) (f : PS) (i : Nat) : pxn k f i = if i < k then 0 else f (i - k) := by
  induction k generalizing i with
  | zero => simp [pxn]
  | succ k ih =>
    cases i with
    | zero => simp [pxn, px]
    | succ i =>
      show pxn k f i = _
      rw [ih]
      by_cases h : i < k
      · rw [if_pos h, if_pos (by omega)]
      · rw [if_neg h, if_neg (by omega)]; congr 1; omega
theorem cv_pxn (k : Nat) (f g : PS) : cv (pxn k f) g = pxn k (cv f g) := by
  induction k with
  | zero => rfl
  | succ k ih => show cv (px (pxn k f)) g = px (pxn k (cv f g)); rw [cv_px, ih]

/-! ### Polynomials: lists of coefficients -/
def cf (a : List GF) : PS := fun i => a.getD i 0
theorem cf_nil : cf [] = pz := by funext i; simp [cf, pz]
theorem cf_cons_zero (x : GF) (a : List GF) : cf (x :: a) 0 = x := rfl
theorem tl_cf_cons (x : GF) (a : List GF) : tl (cf (x :: a)) = cf a := by funext i; simp [cf, tl]
theorem degB_cf (a : List GF) : degB a.length (cf a) := fun i hi => by simp [cf, List.getD, List.getElem?_eq_none hi]
/-- Without zeros at the end. -/
def Tr (a : List GF) : Prop := a = [] ∨ cf a (a.length - 1) ≠ 0
def trimL (a : List GF) : List GF := (a.reverse.dropWhile fun x => decide (x = 0)).reverse
theorem trimL_nil : trimL [] = [] := rfl
theorem trimL_snoc (a : List GF) (x : GF) : trimL (a ++ [x]) = if x = 0 then trimL a else a ++ [x] := by
  unfold trimL
  rw [List.reverse_append, List.reverse_singleton, List.singleton_append, List.dropWhile_cons]
  by_cases h : x = 0
  · simp [h]
  · simp [h]
theorem snoc_ind {P : List GF → Prop} (h0 : P []) (h1 : ∀ a x, P a → P (a ++ [x])) : ∀ a, P a := by
  intro a
  have : ∀ n (a : List GF), a.length = n → P a := by
    intro n
    induction n with
    | zero => intro a ha; rw [List.eq_nil_of_length_eq_zero ha]; exact h0
    | succ n ih =>
      intro a ha
      have hne : a ≠ [] := by rintro rfl; simp at ha
      rw [← List.dropLast_concat_getLast hne]
      exact h1 _ _ (ih _ (by simp [ha]))
  exact this _ a rfl
theorem cf_snoc (a : List GF) (x : GF) (i : Nat) : cf (a ++ [x]) i = if i = a.length then x else cf a i := by
  unfold cf
  by_cases h : i < a.length
  · rw [if_neg (by omega)]; simp [List.getD, List.getElem?_append, h]
  · by_cases h2 : i = a.length
    · subst h2; simp [List.getD]
    · rw [if_neg h2]
      have h3 : a.length < i := by omega
      simp [List.getD, List.getElem?_append, h, show i - a.length ≠ 0 by omega]
theorem cf_trim (a : List GF) : cf (trimL a) = cf a := by
  refine snoc_ind (P := fun a => cf (trimL a) = cf a) rfl (fun a x ih => ?_) a
  rw [trimL_snoc]
  by_cases h : x = 0
  · rw [if_pos h, ih]
    funext i
    rw [cf_snoc]
    by_cases h2 : i = a.length
    · rw [if_pos h2, h]; exact degB_cf a i (by omega)
    · rw [if_neg h2]
  · rw [if_neg h]
theorem Tr_trim (a : List GF) : Tr (trimL a) := by
  refine snoc_ind (P := fun a => Tr (trimL a)) (.inl rfl) (fun a x ih => ?_) a
  rw [trimL_snoc]
  by_cases h : x = 0
  · rw [if_pos h]; exact ih
  · rw [if_neg h]
    refine .inr ?_
    rw [cf_snoc, if_pos (by simp)]; exact h
theorem trim_len_le (a : List GF) : (trimL a).length ≤ a.length := by
  refine snoc_ind (P := fun a => (trimL a).length ≤ a.length) (by simp [trimL]) (fun a x ih => ?_) a
  rw [trimL_snoc]
  split
  · simp; omega
  · exact Nat.le_refl _
theorem Tr_len {a : List GF} {n : Nat} (h : Tr a) (hd : degB n (cf a)) : a.length ≤ n := by
  rcases h with rfl | h
  · simp
  · rcases Nat.lt_or_ge n a.length with h2 | h2
    · exact absurd (hd (a.length - 1) (by omega)) h
    · exact h2
theorem Tr_ext {a b : List GF} (ha : Tr a) (hb : Tr b) (h : cf a = cf b) : a = b := by
  have h1 : a.length ≤ b.length := Tr_len ha (h ▸ degB_cf b)
  have h2 : b.length ≤ a.length := Tr_len hb (h ▸ degB_cf a)
  exact list_of_getD' (by omega) fun i => congrFun h i
where
  list_of_getD' {a b : List GF} (hl : a.length = b.length) (h : ∀ i, cf a i = cf b i) : a = b := by
    apply List.ext_getElem hl
    intro i h1 h2
    have := h i
    simpa [cf, List.getD, List.getElem?_eq_getElem h1, List.getElem?_eq_getElem h2] using this
theorem trim_of_Tr {a : List GF} (h : Tr a) : trimL a = a := Tr_ext (Tr_trim a) h (cf_trim a)
theorem Tr_nil : Tr [] := .inl rfl
end Go.Proofs.Ytnajdmkdkpmdgaa
