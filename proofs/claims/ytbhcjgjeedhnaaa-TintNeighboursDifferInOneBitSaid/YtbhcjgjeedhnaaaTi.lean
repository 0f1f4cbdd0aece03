/- Levels of gray: plain laws. -/
import Derived.Test.YtbhcjgjeedhnaaaZ
namespace Go.Proofs.Ytbhcjgjeedhnaaa
set_option linter.unusedVariables false

def grayN (n lv : Nat) : Nat := if lv = 4 ∧ 2 ≤ n then 5 - n else n
/-- The level of a cell of a byte. -/
def cellN (b lv k : Nat) : Nat := grayN (b / 2 ^ (8 - lv / 2 * (k + 1)) % lv) lv
def cellG (b : GF) (lv k : Nat) : GF := GF.mk (cellN b.v lv k % 256) (by omega)
def cellsUp (b : GF) (lv k : Nat) : List GF := (List.range k).map (cellG b lv)
def cellsT (b : GF) (lv : Nat) : List GF := cellsUp b lv (16 / lv)
theorem cellsUp_succ (b : GF) (lv k : Nat) : cellsUp b lv (k + 1) = cellsUp b lv k ++ [cellG b lv k] := by simp [cellsUp, List.range_succ]
theorem cellsUp_len (b : GF) (lv k : Nat) : (cellsUp b lv k).length = k := by simp [cellsUp]
theorem cellsUp_zero (b : GF) (lv : Nat) : cellsUp b lv 0 = [] := rfl
theorem gray_lt {n lv : Nat} (h : lv = 2 ∨ lv = 4) (hn : n < lv) : grayN n lv < lv := by
  unfold grayN; split <;> omega
theorem cellN_lt {lv : Nat} (h : lv = 2 ∨ lv = 4) (b k : Nat) : cellN b lv k < lv := gray_lt h (Nat.mod_lt _ (by omega))
theorem cellG_v {lv : Nat} (h : lv = 2 ∨ lv = 4) (b : GF) (k : Nat) : (cellG b lv k).v = cellN b.v lv k := by
  have := cellN_lt h b.v k
  unfold cellG; rw [GF.v_mk]; omega
/-- The byte that cells carry. -/
def joinN (lv : Nat) (l : List GF) : Nat := l.foldl (fun n c => n * lv + grayN c.v lv) 0
theorem joinN_nil (lv : Nat) : joinN lv [] = 0 := rfl
theorem joinN_snoc (lv : Nat) (l : List GF) (c : GF) : joinN lv (l ++ [c]) = joinN lv l * lv + grayN c.v lv := by simp [joinN]
theorem joinN_take (lv : Nat) {l : List GF} {k : Nat} (hk : k < l.length) : joinN lv (l.take (k + 1)) = joinN lv (l.take k) * lv + grayN (l.getD k 0).v lv := by
  rw [List.take_succ_eq_append_getElem hk, joinN_snoc]
  simp [List.getD, List.getElem?_eq_getElem hk]
theorem joinN_lt {lv : Nat} (h : lv = 2 ∨ lv = 4) (l : List GF) (hl : ∀ i, i < l.length → (l.getD i 0).v < lv) : ∀ k, k ≤ l.length → joinN lv (l.take k) < lv ^ k := by
  intro k
  induction k with
  | zero => intro _; simp [joinN_nil]
  | succ k ih =>
    intro hk
    rw [joinN_take lv (by omega), Nat.pow_succ]
    have h1 := ih (by omega)
    have h2 := gray_lt h (hl k (by omega))
    have h3 : joinN lv (l.take k) + 1 ≤ lv ^ k := h1
    have h4 := Nat.mul_le_mul_right lv h3
    rw [Nat.add_mul] at h4
    omega
theorem joinN_bd {lv : Nat} (h : lv = 2 ∨ lv = 4) (l : List GF) (hl : ∀ i, i < l.length → (l.getD i 0).v < lv) (hn : l.length = 16 / lv) (k : Nat) (hk : k ≤ l.length) : joinN lv (l.take k) < 256 := by
  have h1 := joinN_lt h l hl k hk
  have h2 : lv ^ k ≤ lv ^ (16 / lv) := Nat.pow_le_pow_right (by omega) (by omega)
  have h3 : lv ^ (16 / lv) = 256 := by rcases h with rfl | rfl <;> rfl
  omega
theorem cells_get {lv : Nat} (b : GF) {k : Nat} (hk : k < 16 / lv) : (cellsT b lv).getD k 0 = cellG b lv k := by
  unfold cellsT cellsUp
  simp [List.getD, hk]
theorem cellsT_len (b : GF) (lv : Nat) : (cellsT b lv).length = 16 / lv := cellsUp_len _ _ _
theorem cells_lt {lv : Nat} (h : lv = 2 ∨ lv = 4) (b : GF) : ∀ i, i < (cellsT b lv).length → ((cellsT b lv).getD i 0).v < lv := by
  intro i hi
  rw [cellsT_len] at hi
  rw [cells_get b hi, cellG_v h]
  exact cellN_lt h _ _
/-- The cells of a byte carry the byte. -/
theorem join_cells {lv : Nat} (h : lv = 2 ∨ lv = 4) (b : GF) : joinN lv (cellsT b lv) = b.v := by
  have key : ∀ n, (hn : n < 256) → joinN lv (cellsT (GF.mk n hn) lv) = n := by
    rcases h with rfl | rfl
    · decide +kernel
    · decide +kernel
  exact key b.v b.lt
theorem gray_gray {n lv : Nat} (h : lv = 2 ∨ lv = 4) (hn : n < lv) : grayN (grayN n lv) lv = n := by
  unfold grayN
  by_cases h1 : lv = 4 ∧ 2 ≤ n
  · rw [if_pos h1]
    by_cases h2 : lv = 4 ∧ 2 ≤ 5 - n
    · rw [if_pos h2]; omega
    · omega
  · rw [if_neg h1, if_neg h1]
/-- The byte that is joined from cells has these cells. -/
theorem join_digit {lv : Nat} (h : lv = 2 ∨ lv = 4) (l : List GF) (hl : ∀ i, i < l.length → (l.getD i 0).v < lv) : ∀ n, n ≤ l.length → ∀ k, k < n → joinN lv (l.take n) / lv ^ (n - (k + 1)) % lv = grayN (l.getD k 0).v lv := by
  intro n
  induction n with
  | zero => intro _ k hk; omega
  | succ n ih =>
    intro hn k hk
    rw [joinN_take lv (by omega)]
    have hg := gray_lt h (hl n (by omega))
    have hp : 0 < lv := by omega
    by_cases e : k = n
    · subst e
      rw [Nat.sub_self, Nat.pow_zero, Nat.div_one, Nat.mul_comm, Nat.mul_add_mod]
      exact Nat.mod_eq_of_lt hg
    · have e2 : n + 1 - (k + 1) = (n - (k + 1)) + 1 := by omega
      rw [e2, Nat.pow_succ, Nat.mul_comm (lv ^ _) lv, ← Nat.div_div_eq_div_mul]
      have e3 : (joinN lv (l.take n) * lv + grayN (l.getD n 0).v lv) / lv = joinN lv (l.take n) := by
        rw [Nat.mul_comm, Nat.mul_add_div hp, Nat.div_eq_of_lt hg, Nat.add_zero]
      rw [e3]
      exact ih (by omega) k (by omega)
theorem cells_join {lv : Nat} (h : lv = 2 ∨ lv = 4) (l : List GF) (hl : ∀ i, i < l.length → (l.getD i 0).v < lv) (hn : l.length = 16 / lv) (hj : joinN lv l < 256) : cellsT (GF.mk (joinN lv l) hj) lv = l := by
  apply List.ext_getElem
  · rw [cellsT_len, hn]
  · intro i h1 h2
    have hi : i < 16 / lv := by rw [← hn]; exact h2
    have e1 := cells_get (lv := lv) (GF.mk (joinN lv l) hj) hi
    have e2 := join_digit h l hl l.length (Nat.le_refl _) i h2
    rw [List.take_of_length_le (Nat.le_refl _)] at e2
    have e3 : lv ^ (l.length - (i + 1)) = 2 ^ (8 - lv / 2 * (i + 1)) := by
      rw [hn]
      rcases h with rfl | rfl
      · congr 1; omega
      · rw [show (4 : Nat) = 2 ^ 2 from rfl, ← Nat.pow_mul]; congr 1; omega
    rw [e3] at e2
    have e4 : (cellG (GF.mk (joinN lv l) hj) lv i) = l.getD i 0 := by
      apply GF.ext
      rw [cellG_v h]
      unfold cellN
      rw [GF.v_mk, e2]
      exact gray_gray h (hl i h2)
    rw [e4] at e1
    simpa [List.getD, List.getElem?_eq_getElem h1, List.getElem?_eq_getElem h2] using e1

/-! ### Shades -/
def shN (k lv : Nat) : Nat := 255 * (lv - 1 - k) / (lv - 1)
def dist (a b : Nat) : Nat := if a ≤ b then b - a else a - b
/-- The nearest of the first k levels, and how far away it is. -/
def near (s lv : Nat) : Nat → Nat × Nat
  | 0 => (0, 256)
  | k + 1 => if dist s (shN k lv) < (near s lv k).2 then (k, dist s (shN k lv)) else near s lv k
theorem near_le (s lv : Nat) : ∀ k, (near s lv k).2 ≤ 256 ∧ (near s lv k).1 ≤ k := by
  intro k
  induction k with
  | zero => exact ⟨Nat.le_refl _, Nat.le_refl _⟩
  | succ k ih => unfold near; split
                 · exact ⟨by omega, Nat.le_succ _⟩
                 · exact ⟨ih.1, by omega⟩
def allN (n : Nat) (p : Nat → Bool) : Bool := (List.range n).all p
theorem allN_of {n : Nat} {p : Nat → Bool} (h : allN n p = true) {i : Nat} (hi : i < n) : p i = true := by
  unfold allN at h; exact List.all_eq_true.1 h i (List.mem_range.2 hi)
/-- What a search by distances finds. -/
theorem near_first {s lv : Nat} (h : lv = 2 ∨ lv = 4) (hs : s < 256) : (near s lv lv).2 < 256 ∧ (near s lv lv).1 < lv ∧ (∀ d, d < (near s lv lv).2 → ∀ k, k < lv → dist s (shN k lv) ≠ d) ∧ (∀ k, k < (near s lv lv).1 → dist s (shN k lv) ≠ (near s lv lv).2) ∧ dist s (shN (near s lv lv).1 lv) = (near s lv lv).2 := by
  have key : allN 256 (fun s => decide ((near s lv lv).2 < 256) && decide ((near s lv lv).1 < lv) && allN lv (fun k => decide ((near s lv lv).2 ≤ dist s (shN k lv))) && allN (near s lv lv).1 (fun k => decide (dist s (shN k lv) ≠ (near s lv lv).2)) && decide (dist s (shN (near s lv lv).1 lv) = (near s lv lv).2)) = true := by
    rcases h with rfl | rfl
    · decide +kernel
    · decide +kernel
  have k1 := allN_of key hs
  simp only [Bool.and_eq_true, decide_eq_true_eq] at k1
  obtain ⟨⟨⟨⟨a1, a2⟩, a3⟩, a4⟩, a5⟩ := k1
  refine ⟨a1, a2, fun d hd k hk e => ?_, fun k hk => ?_, a5⟩
  · have := allN_of a3 hk
    simp only [decide_eq_true_eq] at this
    omega
  · have := allN_of a4 hk
    simpa using this
end Go.Proofs.Ytbhcjgjeedhnaaa
