/- Pages that bear losses, and the choice of a plan, plain. -/
import Derived.Test.YtnajdmkdkpmdgaaLpA
import Derived.Test.YtnajdmkdkpmdgaaIl
namespace Go.Proofs.Ytnajdmkdkpmdgaa
set_option linter.unusedVariables false

theorem ilMeets_h0 (top left : Int) (w : Nat) : ilMeets top left 0 w = List.replicate 16 0 := by
  refine List.eq_replicate_iff.2 ⟨ilMeets_len _ _ _ _, fun x hx => ?_⟩
  unfold ilMeets ilM at hx
  obtain ⟨r, _, rfl⟩ := List.mem_map.1 hx
  rw [Int.add_zero, ilCnt_nil]
theorem ilMeets_w0 (top left h : Int) : ilMeets top left h 0 = List.replicate 16 0 := by
  refine List.eq_replicate_iff.2 ⟨ilMeets_len _ _ _ _, fun x hx => ?_⟩
  unfold ilMeets ilM at hx
  obtain ⟨r, _, rfl⟩ := List.mem_map.1 hx
  rfl
/-- The block of a page bears a rectangle of H lines and W columns, and S scattered bytes: rows bear t wrong bytes, columns c. -/
def rowB (t : Int) (c : Int) (H W : Nat) (S : Int) (top : Nat) : Bool := (List.range (25 - W)).all fun left => decide ((badC (ilMeets top left H W) t S : Int) ≤ c)
def pageB (t : Int) (c : Int) (H W : Nat) (S : Int) : Bool := (List.range (17 - H)).all (rowB t c H W S)
theorem pageB_iff {t c : Int} {H W : Nat} {S : Int} : pageB t c H W S = true ↔ ∀ top, top < 17 - H → ∀ left, left < 25 - W → (badC (ilMeets (top : Nat) (left : Nat) H W) t S : Int) ≤ c := by
  unfold pageB rowB
  simp only [List.all_eq_true, List.mem_range, decide_eq_true_eq]
/-- A smaller rectangle inside a larger one has no more bytes in a row. -/
theorem ilCnt_grow (lo hi lo' hi' r left : Int) (h1 : lo' ≤ lo) (h2 : hi ≤ hi') (h3 : lo ≤ hi) (c : Nat) : ilCnt lo hi r left c ≤ ilCnt lo' hi' r left c := by
  have e1 := ilCnt_add lo' lo hi' r left h1 (by omega) c
  have e2 := ilCnt_add lo hi hi' r left h3 h2 c
  have b1 := ilCnt_bd lo' lo r left c
  have b2 := ilCnt_bd hi hi' r left c
  omega
theorem ilMeets_grow {top left top' left' : Int} {H W H' W' : Nat} (h1 : top' ≤ top) (h2 : top + H ≤ top' + H') (h3 : left' ≤ left) (h4 : left + W ≤ left' + W') : ∀ i, (ilMeets top left H W).getD i 0 ≤ (ilMeets top' left' H' W').getD i 0 := by
  intro i
  by_cases hi : i < 16
  · rw [ilMeets_get _ _ _ _ hi, ilMeets_get _ _ _ _ hi]
    unfold ilM
    obtain ⟨a, ha⟩ := Int.eq_ofNat_of_zero_le (show 0 ≤ left - left' by omega)
    obtain ⟨b, hb⟩ := Int.eq_ofNat_of_zero_le (show 0 ≤ (left' + W') - (left + W) by omega)
    have hW : W' = (a + W) + b := by omega
    have e1 := ilCnt_split top' (top' + H') i left' (a + W) b
    have e2 := ilCnt_split top' (top' + H') i left' a W
    rw [hW, e1, e2, show left' + (a : Int) = left by omega]
    have g := ilCnt_grow top (top + H) top' (top' + H') i left h1 h2 (by omega) W
    have b1 := ilCnt_bd top' (top' + H') i left' a
    have b2 := ilCnt_bd top' (top' + H') i (left' + (a + W : Nat)) b
    omega
  · simp [List.getD, ilMeets_len, show 16 ≤ i by omega]
/-- Less damage, more parity. -/
theorem pageB_less {t t' c c' : Int} {H W H' W' : Nat} {S S' : Int} (h : pageB t c H W S = true) (ht : t ≤ t') (hc : c ≤ c') (hH : H' ≤ H) (hW : W' ≤ W) (hS0 : 0 ≤ S') (hS : S' ≤ S) (h16 : H ≤ 16) (h24 : W ≤ 24) : pageB t' c' H' W' S' = true := by
  rw [pageB_iff] at h ⊢
  intro top htop left hleft
  have h1 := h (min top (16 - H)) (by omega) (min left (24 - W)) (by omega)
  have h2 := badC_mono (h := ilMeets (top : Nat) (left : Nat) H' W') (h' := ilMeets ((min top (16 - H) : Nat) : Int) ((min left (24 - W) : Nat) : Int) H W) (t := t') (t' := t) (m := S') (m' := S)
    (by rw [ilMeets_len, ilMeets_len]) (ilMeets_grow (by omega) (by omega) (by omega) (by omega)) ht hS0 hS
  omega
/-! ### The choice -/
def candR (k : Nat) : Nat := 2 * (k / 7)
def candC (k : Nat) : Nat := 2 * (k % 7)
def payQ (r c : Nat) : Nat := (24 - r) * (16 - c)
def payK (k : Nat) : Nat := payQ (candR k) (candC k)
/-- The first of the candidates below n that bear and have the largest payload. -/
def BestN (B : Nat → Bool) (n : Nat) : Option Nat → Prop
  | none => ∀ k, k < n → B k = false
  | some x => x < n ∧ B x = true ∧ (∀ k, k < x → B k = true → payK k < payK x) ∧ ∀ k, k < n → B k = true → payK k ≤ payK x
theorem BestN.unique {B : Nat → Bool} {n : Nat} {a b : Option Nat} (ha : BestN B n a) (hb : BestN B n b) : a = b := by
  cases a with
  | none =>
    cases b with
    | none => rfl
    | some y => have := ha y hb.1; rw [hb.2.1] at this; cases this
  | some x =>
    cases b with
    | none => have := hb x ha.1; rw [ha.2.1] at this; cases this
    | some y =>
      obtain ⟨a1, a2, a3, a4⟩ := ha
      obtain ⟨b1, b2, b3, b4⟩ := hb
      rcases Nat.lt_trichotomy x y with h | h | h
      · have := b3 x h a2; have := a4 y b1 b2; omega
      · rw [h]
      · have := a3 y h b2; have := b4 x a1 a2; omega
theorem BestN.start (B : Nat → Bool) : BestN B 0 none := fun k hk => absurd hk (Nat.not_lt_zero _)
theorem BestN.take {B : Nat → Bool} {n : Nat} {a : Option Nat} (h : BestN B n a) (hB : B n = true) (hp : ∀ x, a = some x → payK x < payK n) : BestN B (n + 1) (some n) := by
  refine ⟨Nat.lt_succ_self _, hB, fun k hk hk' => ?_, fun k hk hk' => ?_⟩
  · cases a with
    | none => have := h k hk; rw [hk'] at this; cases this
    | some x => have := h.2.2.2 k hk hk'; have := hp x rfl; omega
  · by_cases e : k = n
    · rw [e]; exact Nat.le_refl _
    · cases a with
      | none => have := h k (by omega); rw [hk'] at this; cases this
      | some x => have := h.2.2.2 k (by omega) hk'; have := hp x rfl; omega
theorem BestN.leave {B : Nat → Bool} {n : Nat} {a : Option Nat} (h : BestN B n a) (hB : B n = true → ∃ x, a = some x ∧ payK n ≤ payK x) : BestN B (n + 1) a := by
  cases a with
  | none =>
    intro k hk
    by_cases e : k = n
    · subst e
      cases hb : B k with
      | false => rfl
      | true => obtain ⟨x, hx, _⟩ := hB hb; cases hx
    · exact h k (by omega)
  | some x =>
    refine ⟨by have := h.1; omega, h.2.1, h.2.2.1, fun k hk hk' => ?_⟩
    by_cases e : k = n
    · subst e
      obtain ⟨y, hy, hle⟩ := hB hk'
      injection hy with hy
      subst hy
      exact hle
    · exact h.2.2.2 k (by omega) hk'
/-- The reference's way: the payloads from the largest one down. -/
def UpTo (B : Nat → Bool) (s : Nat) : Prop := ∀ k, k < 63 → B k = true → payK k ≤ s
theorem UpTo.next {B : Nat → Bool} {s : Nat} (h : UpTo B (s + 1)) (hn : ∀ k, k < 63 → payK k = s + 1 → B k = false) : UpTo B s := fun k hk hb => by
  have h1 := h k hk hb
  by_cases e : payK k = s + 1
  · have := hn k hk e; rw [hb] at this; cases this
  · omega
theorem UpTo.best {B : Nat → Bool} {s x : Nat} (h : UpTo B s) (hx : x < 63) (hb : B x = true) (hp : payK x = s) (hf : ∀ k, k < x → payK k = s → B k = false) : BestN B 63 (some x) := by
  refine ⟨hx, hb, fun k hk hk' => ?_, fun k hk hk' => by rw [hp]; exact h k hk hk'⟩
  have h1 := h k (by omega) hk'
  by_cases e : payK k = s
  · have := hf k hk e; rw [hk'] at this; cases this
  · omega
theorem UpTo.none {B : Nat → Bool} (h : UpTo B 0) : BestN B 63 none := fun k hk => by
  cases hb : B k with
  | false => rfl
  | true =>
    have h1 := h k hk hb
    have h2 : 0 < payK k := by
      unfold payK payQ candR candC
      exact Nat.mul_pos (by omega) (by omega)
    omega
theorem payK_bd (k : Nat) (hk : k < 63) : 32 ≤ payK k ∧ payK k ≤ 384 := by
  unfold payK payQ candR candC
  have h1 : k / 7 ≤ 8 := by omega
  have h2 : k % 7 ≤ 6 := by omega
  generalize k / 7 = a at *
  generalize k % 7 = b at *
  exact ⟨Nat.le_trans (show 32 ≤ 8 * 4 by decide) (Nat.mul_le_mul (by omega) (by omega)), Nat.le_trans (Nat.mul_le_mul (show 24 - 2 * a ≤ 24 by omega) (show 16 - 2 * b ≤ 16 by omega)) (by decide)⟩
theorem UpTo.start (B : Nat → Bool) : UpTo B 384 := fun k hk _ => (payK_bd k hk).2
end Go.Proofs.Ytnajdmkdkpmdgaa
