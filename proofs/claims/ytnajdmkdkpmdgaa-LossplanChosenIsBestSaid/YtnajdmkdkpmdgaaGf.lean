/- Arithmetic of the field with 256 elements, as plain functions of natural numbers below 256: sums by exclusive or, products, powers, logarithms, inverses. -/
namespace Go.Proofs.Ytnajdmkdkpmdgaa

/-- A number times the generator. -/
def xt (a : Nat) : Nat := if 127 < a then (2 * a) ^^^ 285 else 2 * a
/-- The loop of the product. -/
def mulLoop : Nat → Nat → Nat → Nat → Nat
  | 0, _, _, s => s
  | n + 1, x, b, s => mulLoop n (xt x) (b / 2) (if b % 2 = 1 then s ^^^ x else s)
/-- The product. -/
def gm (a b : Nat) : Nat := mulLoop 8 a b 0
/-- A power. -/
def gp (a : Nat) : Nat → Nat
  | 0 => 1
  | n + 1 => gm (gp a n) a
/-- All numbers below a bound have a property. -/
def allB : Nat → (Nat → Bool) → Bool
  | 0, _ => true
  | n + 1, p => p n && allB n p

theorem allB_of {n : Nat} {p : Nat → Bool} (h : allB n p = true) : ∀ k, k < n → p k = true := by
  induction n with
  | zero => intro k hk; omega
  | succ n ih =>
    unfold allB at h
    rw [Bool.and_eq_true] at h
    intro k hk
    rcases Nat.lt_or_ge k n with h1 | h1
    · exact ih h.2 k h1
    · have : k = n := by omega
      subst this; exact h.1

theorem xor_div2 (a b : Nat) : (a ^^^ b) / 2 = a / 2 ^^^ b / 2 := by
  have := Nat.shiftRight_xor_distrib (i := 1) (a := a) (b := b)
  simpa [Nat.shiftRight_succ] using this
theorem xor_mod2 (a b : Nat) : (a ^^^ b) % 2 = (a % 2 + b % 2) % 2 := by
  have h := @Nat.testBit_xor a b 0
  simp only [Nat.testBit_zero] at h
  rcases Nat.mod_two_eq_zero_or_one a with ha | ha <;> rcases Nat.mod_two_eq_zero_or_one b with hb | hb <;>
    rcases Nat.mod_two_eq_zero_or_one (a ^^^ b) with hc | hc <;> simp [ha, hb, hc] at h ⊢
theorem xor_double (a b : Nat) : 2 * (a ^^^ b) = (2 * a) ^^^ (2 * b) := by
  have := Nat.shiftLeft_xor_distrib (i := 1) (a := a) (b := b)
  simp only [Nat.shiftLeft_succ, Nat.shiftLeft_zero] at this
  exact this
theorem xor_lt256 {a b : Nat} (ha : a < 256) (hb : b < 256) : a ^^^ b < 256 := Nat.xor_lt_two_pow (n := 8) ha hb
theorem xor_swap (a b c d : Nat) : (a ^^^ b) ^^^ (c ^^^ d) = (a ^^^ c) ^^^ (b ^^^ d) := by
  rw [Nat.xor_assoc, Nat.xor_assoc]; congr 1; rw [← Nat.xor_assoc, ← Nat.xor_assoc, Nat.xor_comm b c]

theorem xor_div128 (a b : Nat) : (a ^^^ b) / 128 = a / 128 ^^^ b / 128 := by
  have := Nat.shiftRight_xor_distrib (i := 7) (a := a) (b := b)
  simpa [Nat.shiftRight_eq_div_pow] using this
theorem xt_eq (a : Nat) (ha : a < 256) : xt a = (2 * a) ^^^ (a / 128 * 285) := by
  unfold xt
  split
  · have : a / 128 = 1 := by omega
    simp [this]
  · have : a / 128 = 0 := by omega
    simp [this]
theorem xt_lt {a : Nat} (ha : a < 256) : xt a < 256 := by
  have h : allB 256 (fun a => decide (xt a < 256)) = true := by decide +kernel
  simpa using allB_of h a ha
theorem xt_xor {a b : Nat} (ha : a < 256) (hb : b < 256) : xt (a ^^^ b) = xt a ^^^ xt b := by
  rw [xt_eq _ (xor_lt256 ha hb), xt_eq a ha, xt_eq b hb, xor_double, xor_div128, xor_swap]
  congr 1
  rcases (show a / 128 = 0 ∨ a / 128 = 1 by omega) with h1 | h1 <;> rcases (show b / 128 = 0 ∨ b / 128 = 1 by omega) with h2 | h2 <;> rw [h1, h2] <;> decide
theorem xt_zero : xt 0 = 0 := rfl

theorem ite_xor (a b s t x : Nat) : (if (a ^^^ b) % 2 = 1 then (s ^^^ t) ^^^ x else s ^^^ t) = (if a % 2 = 1 then s ^^^ x else s) ^^^ (if b % 2 = 1 then t ^^^ x else t) := by
  rw [xor_mod2]
  rcases Nat.mod_two_eq_zero_or_one a with ha | ha <;> rcases Nat.mod_two_eq_zero_or_one b with hb | hb <;> simp [ha, hb]
  · rw [Nat.xor_assoc]
  · rw [Nat.xor_assoc, Nat.xor_assoc, Nat.xor_comm t x]
  · rw [xor_swap, Nat.xor_self, Nat.xor_zero]
theorem mulLoop_xor_right (n x : Nat) : ∀ (b c s t : Nat), mulLoop n x (b ^^^ c) (s ^^^ t) = mulLoop n x b s ^^^ mulLoop n x c t := by
  induction n generalizing x with
  | zero => intros; rfl
  | succ n ih =>
    intro b c s t
    simp only [mulLoop]
    rw [xor_div2, ite_xor, ih]
theorem mulLoop_xor_left (n : Nat) : ∀ (x y b s t : Nat), x < 256 → y < 256 → mulLoop n (x ^^^ y) b (s ^^^ t) = mulLoop n x b s ^^^ mulLoop n y b t := by
  induction n with
  | zero => intros; rfl
  | succ n ih =>
    intro x y b s t hx hy
    simp only [mulLoop]
    rw [xt_xor hx hy, ← ih _ _ _ _ _ (xt_lt hx) (xt_lt hy)]
    congr 1
    split
    · rw [xor_swap]
    · rfl
theorem mulLoop_zero (n : Nat) : ∀ (x s : Nat), mulLoop n x 0 s = s := by
  induction n with
  | zero => intros; rfl
  | succ n ih => intro x s; simp [mulLoop, ih]
theorem mulLoop_lt (n : Nat) : ∀ (x b s : Nat), x < 256 → s < 256 → mulLoop n x b s < 256 := by
  induction n with
  | zero => intro x b s _ hs; exact hs
  | succ n ih =>
    intro x b s hx hs
    simp only [mulLoop]
    refine ih _ _ _ (xt_lt hx) ?_
    split
    · exact xor_lt256 hs hx
    · exact hs
theorem mulLoop_xt (n : Nat) : ∀ (x b s : Nat), x < 256 → s < 256 → mulLoop n (xt x) b (xt s) = xt (mulLoop n x b s) := by
  induction n with
  | zero => intros; rfl
  | succ n ih =>
    intro x b s hx hs
    simp only [mulLoop]
    rw [← ih _ _ _ (xt_lt hx) (by split; exact xor_lt256 hs hx; exact hs)]
    congr 1
    split
    · rw [xt_xor hs hx]
    · rfl
theorem gm_lt {a : Nat} (ha : a < 256) (b : Nat) : gm a b < 256 := mulLoop_lt 8 a b 0 ha (by omega)
theorem gm_xor_right (a b c : Nat) : gm a (b ^^^ c) = gm a b ^^^ gm a c := mulLoop_xor_right 8 a b c 0 0
theorem gm_xor_left {a b : Nat} (ha : a < 256) (hb : b < 256) (c : Nat) : gm (a ^^^ b) c = gm a c ^^^ gm b c := mulLoop_xor_left 8 a b c 0 0 ha hb
theorem gm_zero_right (a : Nat) : gm a 0 = 0 := mulLoop_zero 8 a 0
theorem mulLoop_zero_left (n : Nat) : ∀ (b s : Nat), mulLoop n 0 b s = s := by
  induction n with
  | zero => intros; rfl
  | succ n ih => intro b s; simp [mulLoop, ih, xt_zero]
theorem gm_zero_left (a : Nat) : gm 0 a = 0 := mulLoop_zero_left 8 a 0
theorem gm_xt_left {a : Nat} (ha : a < 256) (b : Nat) : gm (xt a) b = xt (gm a b) := mulLoop_xt 8 a b 0 ha (by omega)
theorem gm_one_right (a : Nat) : gm a 1 = a := by
  show mulLoop 7 (xt a) (1 / 2) (if 1 % 2 = 1 then 0 ^^^ a else 0) = a
  simp [mulLoop_zero]
theorem mulLoop_step (n : Nat) : ∀ (x b s : Nat), b < 2 ^ n → mulLoop (n + 1) x b s = mulLoop n x b s := by
  induction n with
  | zero => intro x b s hb; have : b = 0 := by simpa using hb
            subst this; rfl
  | succ n ih =>
    intro x b s hb
    show mulLoop (n + 1) (xt x) (b / 2) _ = mulLoop n (xt x) (b / 2) _
    exact ih _ _ _ (by omega)
theorem gm_double (a b : Nat) (hb : b < 128) : gm a (2 * b) = gm (xt a) b := by
  show mulLoop 7 (xt a) (2 * b / 2) (if 2 * b % 2 = 1 then 0 ^^^ a else 0) = mulLoop 8 (xt a) b 0
  rw [mulLoop_step 7 _ _ _ hb]
  simp
theorem gm_low (a b : Nat) (hb : b < 2) : gm a b = if b = 1 then a else 0 := by
  rcases (show b = 0 ∨ b = 1 by omega) with rfl | rfl
  · simp [gm_zero_right]
  · simp [gm_one_right]
theorem split_low (b : Nat) (hb : b < 256) : b = (b % 2) ^^^ (2 * (b / 2)) := by
  have h : allB 256 (fun b => decide (b = (b % 2) ^^^ (2 * (b / 2)))) = true := by decide +kernel
  simpa using allB_of h b hb
theorem gm_one_left (a : Nat) (ha : a < 256) : gm 1 a = a := by
  have h : allB 256 (fun a => decide (gm 1 a = a)) = true := by decide +kernel
  simpa using allB_of h a ha
theorem gm_two (a : Nat) : gm a 2 = xt a := by
  show mulLoop 7 (xt a) (2 / 2) (if 2 % 2 = 1 then 0 ^^^ a else 0) = xt a
  show mulLoop 6 (xt (xt a)) (1 / 2) (if 1 % 2 = 1 then 0 ^^^ xt a else 0) = xt a
  simp [mulLoop_zero]
attribute [irreducible] gm
/-- Products are commutative. -/
theorem gm_comm {a b : Nat} (ha : a < 256) (hb : b < 256) : gm a b = gm b a := by
  suffices h : ∀ n b, b < 2 ^ n → b < 256 → gm a b = gm b a from h 8 b hb hb
  intro n
  induction n with
  | zero => intro b h _; have : b = 0 := by simpa using h
            subst this; rw [gm_zero_right, gm_zero_left]
  | succ n ih =>
    intro b h hb
    have e := split_low b hb
    have h2 : b / 2 < 128 := by omega
    have h3 : 2 * (b / 2) = xt (b / 2) := by unfold xt; rw [if_neg (by omega)]
    have h4 : b % 2 < 256 := by omega
    have h5 : b / 2 < 256 := by omega
    have h6 := ih (b / 2) (by omega) h5
    have h7 : gm a (b % 2) = gm (b % 2) a := by
      rw [gm_low _ _ (by omega)]
      rcases (show b % 2 = 0 ∨ b % 2 = 1 by omega) with hh | hh <;> rw [hh]
      · simp [gm_zero_left]
      · simp [gm_one_left a ha]
    rw [e, gm_xor_right, gm_xor_left h4 (by omega), gm_double a _ h2, gm_xt_left ha, h3, gm_xt_left h5, h6, h7]
theorem gm_xt_right {a b : Nat} (ha : a < 256) (hb : b < 256) : gm a (xt b) = xt (gm a b) := by
  rw [gm_comm ha (xt_lt hb), gm_xt_left hb, gm_comm hb ha]
/-- Products are associative. -/
theorem gm_assoc {a b c : Nat} (ha : a < 256) (hb : b < 256) (hc : c < 256) : gm (gm a b) c = gm a (gm b c) := by
  suffices h : ∀ n c, c < 2 ^ n → c < 256 → gm (gm a b) c = gm a (gm b c) from h 8 c hc hc
  intro n
  induction n with
  | zero => intro c h _; have : c = 0 := by simpa using h
            subst this; simp only [gm_zero_right]
  | succ n ih =>
    intro c h hc
    have e := split_low c hc
    have h2 : c / 2 < 128 := by omega
    have h6 := ih (c / 2) (by omega) (by omega)
    have hab := gm_lt ha b
    rw [e, gm_xor_right, gm_xor_right b, gm_xor_right a, gm_double _ _ h2, gm_double b _ h2, gm_xt_left hab, gm_xt_left hb, gm_xt_right ha (gm_lt hb _), h6]
    have h7 : gm (gm a b) (c % 2) = gm a (gm b (c % 2)) := by
      rcases (show c % 2 = 0 ∨ c % 2 = 1 by omega) with hh | hh <;> rw [hh] <;> simp only [gm_zero_right, gm_one_right]
    rw [h7]

theorem gp_lt {a : Nat} (_ha : a < 256) (n : Nat) : gp a n < 256 := by
  induction n with
  | zero => show 1 < 256; omega
  | succ n ih => exact gm_lt ih a
theorem gp_add {a : Nat} (ha : a < 256) (m n : Nat) : gp a (m + n) = gm (gp a m) (gp a n) := by
  induction n with
  | zero => exact (gm_one_right _).symm
  | succ n ih =>
    show gm (gp a (m + n)) a = gm (gp a m) (gm (gp a n) a)
    rw [ih, gm_assoc (gp_lt ha m) (gp_lt ha n) ha]
theorem gp_one {a : Nat} (ha : a < 256) : gp a 1 = a := gm_one_left a ha
theorem gp_mul {a : Nat} (ha : a < 256) (m n : Nat) : gp a (m * n) = gp (gp a m) n := by
  induction n with
  | zero => rfl
  | succ n ih =>
    show gp a (m * n + m) = gm (gp (gp a m) n) (gp a m)
    rw [gp_add ha, ih]
theorem gp_gm {a b : Nat} (ha : a < 256) (hb : b < 256) (n : Nat) : gp (gm a b) n = gm (gp a n) (gp b n) := by
  induction n with
  | zero => exact (gm_one_right 1).symm
  | succ n ih =>
    show gm (gp (gm a b) n) (gm a b) = gm (gm (gp a n) a) (gm (gp b n) b)
    rw [ih, gm_assoc (gp_lt ha n) (gp_lt hb n) (gm_lt ha b), gm_assoc (gp_lt ha n) ha (gm_lt (gp_lt hb n) b)]
    have e : gm (gp b n) (gm a b) = gm a (gm (gp b n) b) := by rw [gm_comm ha hb, ← gm_assoc (gp_lt hb n) hb ha, gm_comm (gm_lt (gp_lt hb n) b) ha]
    rw [e]
theorem gp_one_left (n : Nat) : gp 1 n = 1 := by
  induction n with
  | zero => rfl
  | succ n ih => show gm (gp 1 n) 1 = 1; rw [ih, gm_one_right]
theorem gp_zero_left (n : Nat) (hn : 0 < n) : gp 0 n = 0 := by
  obtain ⟨k, rfl⟩ : ∃ k, n = k + 1 := ⟨n - 1, by omega⟩
  exact gm_zero_right _

/-- A power by squaring. -/
def fastp : Nat → Nat → Nat → Nat → Nat
  | 0, _, _, out => out
  | f + 1, a, n, out => fastp f (gm a a) (n / 2) (if n % 2 = 1 then gm out a else out)
theorem fastp_eq (f : Nat) : ∀ (a n out : Nat), a < 256 → out < 256 → n < 2 ^ f → fastp f a n out = gm out (gp a n) := by
  induction f with
  | zero => intro a n out _ _ h; have : n = 0 := by simpa using h
            subst this; exact (gm_one_right _).symm
  | succ f ih =>
    intro a n out ha ho hn
    have h1 : (if n % 2 = 1 then gm out a else out) < 256 := by split; exact gm_lt ho a; exact ho
    have h2 : gp (gm a a) (n / 2) = gp a (2 * (n / 2)) := by 
      rw [gp_mul ha]
      have : gp a 2 = gm a a := by show gm (gm 1 a) a = _; rw [gm_one_left a ha]
      rw [this]
    simp only [fastp]
    rw [ih _ _ _ (gm_lt ha a) h1 (by omega), h2]
    split
    · rename_i h
      rw [gm_assoc ho ha (gp_lt ha _)]
      have e : n = 1 + 2 * (n / 2) := by omega
      have e2 : gp a n = gm a (gp a (2 * (n / 2))) := by conv => lhs; rw [e, gp_add ha, gp_one ha]
      rw [e2]
    · have e : 2 * (n / 2) = n := by omega
      rw [e]
/-- The 255th power of whatever is not 0. -/
theorem gp_255 {a : Nat} (ha : a < 256) (h0 : a ≠ 0) : gp a 255 = 1 := by
  have h : allB 256 (fun a => a == 0 || fastp 8 a 255 1 == 1) = true := by decide +kernel
  have h1 := allB_of h a ha
  have h2 : fastp 8 a 255 1 = 1 := by
    simp only [Bool.or_eq_true, beq_iff_eq] at h1
    exact h1.resolve_left h0
  rw [fastp_eq 8 a 255 1 ha (by omega) (by omega), gm_one_left _ (gp_lt ha _)] at h2
  exact h2
theorem gp_mod {a : Nat} (ha : a < 256) (h0 : a ≠ 0) (n : Nat) : gp a (n % 255) = gp a n := by
  have e : n = 255 * (n / 255) + n % 255 := by omega
  conv => rhs; rw [e, gp_add ha, gp_mul ha, gp_255 ha h0, gp_one_left, gm_one_left _ (gp_lt ha _)]
/-- The inverse of an element. -/
def gi (a : Nat) : Nat := gp a 254
theorem gi_lt {a : Nat} (ha : a < 256) : gi a < 256 := gp_lt ha 254
theorem gm_gi {a : Nat} (ha : a < 256) (h0 : a ≠ 0) : gm a (gi a) = 1 := by
  rw [gm_comm ha (gi_lt ha)]; exact gp_255 ha h0
theorem gm_eq_zero {a b : Nat} (ha : a < 256) (hb : b < 256) (h : gm a b = 0) : a = 0 ∨ b = 0 := by
  rcases Nat.eq_zero_or_pos a with h0 | h0
  · exact .inl h0
  · right
    have : gm (gi a) (gm a b) = b := by
      rw [← gm_assoc (gi_lt ha) ha hb, gm_comm (gi_lt ha) ha, gm_gi ha (by omega), gm_one_left b hb]
    rw [h, gm_zero_right] at this
    exact this.symm
theorem gp_ne {a : Nat} (ha : a < 256) (h0 : a ≠ 0) (n : Nat) : gp a n ≠ 0 := by
  induction n with
  | zero => show 1 ≠ 0; omega
  | succ n ih =>
    intro h
    rcases gm_eq_zero (gp_lt ha n) ha h with h | h
    · exact ih h
    · exact h0 h
theorem gm_cancel {a b c : Nat} (ha : a < 256) (hb : b < 256) (hc : c < 256) (h0 : a ≠ 0) (h : gm a b = gm a c) : b = c := by
  have e : ∀ x, x < 256 → gm (gi a) (gm a x) = x := fun x hx => by
    rw [← gm_assoc (gi_lt ha) ha hx, gm_comm (gi_lt ha) ha, gm_gi ha h0, gm_one_left x hx]
  rw [← e b hb, h, e c hc]
theorem gi_unique {a b : Nat} (ha : a < 256) (hb : b < 256) (h : gm a b = 1) : b = gi a := by
  have h0 : a ≠ 0 := by rintro rfl; rw [gm_zero_left] at h; omega
  exact gm_cancel ha hb (gi_lt ha) h0 (by rw [h, gm_gi ha h0])

/-- The powers of the generator. -/
def ge : Nat → Nat
  | 0 => 1
  | n + 1 => xt (ge n)
theorem ge_lt (n : Nat) : ge n < 256 := by
  induction n with
  | zero => show 1 < 256; omega
  | succ n ih => exact xt_lt ih
theorem ge_eq (n : Nat) : ge n = gp 2 n := by
  induction n with
  | zero => rfl
  | succ n ih => show xt (ge n) = gm (gp 2 n) 2; rw [gm_two, ih]
theorem ge_ne (n : Nat) : ge n ≠ 0 := by rw [ge_eq]; exact gp_ne (by omega) (by omega) n
theorem ge_add (m n : Nat) : ge (m + n) = gm (ge m) (ge n) := by rw [ge_eq, ge_eq, ge_eq, gp_add (by omega)]
theorem ge_mod (n : Nat) : ge (n % 255) = ge n := by rw [ge_eq, ge_eq, gp_mod (by omega) (by omega)]
theorem ge_mul (m n : Nat) : ge (m * n) = gp (ge m) n := by rw [ge_eq, ge_eq, gp_mul (by omega)]
/-- The logarithm: the least exponent from n on, x being the power with the exponent n. -/
def glFrom (a : Nat) : Nat → Nat → Nat → Nat
  | 0, n, _ => n
  | f + 1, n, x => if x = a then n else glFrom a f (n + 1) (xt x)
def gl (a : Nat) : Nat := glFrom a 255 0 1
theorem glFrom_ge (a : Nat) (f : Nat) : ∀ n, n ≤ glFrom a f n (ge n) ∧ glFrom a f n (ge n) ≤ n + f := by
  induction f with
  | zero => intro n; simp [glFrom]
  | succ f ih =>
    intro n
    unfold glFrom
    split
    · omega
    · have := ih (n + 1)
      have e : xt (ge n) = ge (n + 1) := rfl
      rw [e]; omega
theorem glFrom_least (a : Nat) (f : Nat) : ∀ n k, n ≤ k → k < glFrom a f n (ge n) → ge k ≠ a := by
  induction f with
  | zero => intro n k h1 h2; simp [glFrom] at h2; omega
  | succ f ih =>
    intro n k h1 h2
    unfold glFrom at h2
    split at h2
    · omega
    · rename_i hne
      rcases Nat.eq_or_lt_of_le h1 with h | h
      · subst h; exact hne
      · exact ih (n + 1) k h h2
theorem gl_lt {a : Nat} (ha : a < 256) (h0 : a ≠ 0) : gl a < 255 ∧ ge (gl a) = a := by
  have h : allB 256 (fun a => a == 0 || (decide (gl a < 255) && ge (gl a) == a)) = true := by decide +kernel
  have h1 := allB_of h a ha
  simp only [Bool.or_eq_true, beq_iff_eq, Bool.and_eq_true, decide_eq_true_eq] at h1
  exact h1.resolve_left h0
theorem gl_ge {n : Nat} (hn : n < 255) : gl (ge n) = n := by
  have h : allB 255 (fun n => gl (ge n) == n) = true := by decide +kernel
  simpa using allB_of h n hn
theorem ge_inj {m n : Nat} (hm : m < 255) (hn : n < 255) (h : ge m = ge n) : m = n := by
  rw [← gl_ge hm, h, gl_ge hn]
theorem gl_gm {a b : Nat} (ha : a < 256) (hb : b < 256) (h0 : a ≠ 0) (h1 : b ≠ 0) : gl (gm a b) = (gl a + gl b) % 255 := by
  have e : gm a b = ge ((gl a + gl b) % 255) := by
    rw [ge_mod, ge_add, (gl_lt ha h0).2, (gl_lt hb h1).2]
  rw [e, gl_ge (by omega)]
theorem ge_zero : ge 0 = 1 := rfl
theorem ge_succ (n : Nat) : ge (n + 1) = xt (ge n) := rfl
theorem gp_zero (a : Nat) : gp a 0 = 1 := rfl
theorem gp_succ (a n : Nat) : gp a (n + 1) = gm (gp a n) a := rfl
theorem gi_eq (a : Nat) : gi a = gp a 254 := rfl
attribute [irreducible] ge gp gi gl
end Go.Proofs.Ytnajdmkdkpmdgaa
