/- Cross pages: what Restore computes, in plain words. -/
import Derived.Test.YtcinfkmekkdhfaaCpN
namespace Go.Proofs.Ytcinfkmekkdhfaa
open Go.RowKit
set_option linter.unusedVariables false

theorem eq_of_getDn {α : Type} {d : α} {a b : List α} (hl : a.length = b.length) (h : ∀ i, i < a.length → a.getD i d = b.getD i d) : a = b := by
  refine List.ext_getElem? fun i => ?_
  by_cases hi : i < a.length
  · have := h i hi
    simp only [List.getD, List.getElem?_eq_getElem hi, List.getElem?_eq_getElem (show i < b.length by omega), Option.getD_some] at this
    rw [List.getElem?_eq_getElem hi, List.getElem?_eq_getElem (show i < b.length by omega), this]
  · rw [List.getElem?_eq_none (by omega), List.getElem?_eq_none (by omega)]
/-- The places of a word whose bytes are not known. -/
def erN (P : List (List GF)) (Z : List (List Int)) (m i : Nat) : List Nat := (List.range m).filter fun k => decide (unkP P Z k i)
theorem erN_yes {P : List (List GF)} {Z : List (List Int)} {m i : Nat} (h : unkP P Z m i) : erN P Z (m + 1) i = erN P Z m i ++ [m] := by
  unfold erN; rw [List.range_succ, List.filter_append]; simp [h]
theorem erN_no {P : List (List GF)} {Z : List (List Int)} {m i : Nat} (h : ¬ unkP P Z m i) : erN P Z (m + 1) i = erN P Z m i := by
  unfold erN; rw [List.range_succ, List.filter_append]; simp [h]
theorem mem_erN {P : List (List GF)} {Z : List (List Int)} {m i k : Nat} : k ∈ erN P Z m i ↔ k < m ∧ unkP P Z k i := by simp [erN]
theorem erN_sorted (P : List (List GF)) (Z : List (List Int)) (m i : Nat) : (erN P Z m i).Pairwise (· < ·) := List.Pairwise.filter _ List.pairwise_lt_range
theorem erN_len (P : List (List GF)) (Z : List (List Int)) (m i : Nat) : (erN P Z m i).length ≤ m := by
  unfold erN
  exact Nat.le_trans (List.length_filter_le _ _) (by simp)
/-- A code word lies within the bound. -/
def hitP (P : List (List GF)) (Z : List (List Int)) (m p i : Nat) : Prop := ∃ c, Within p (wordP P i) (erN P Z m i) c
/-- Where none does: this page's byte is lost. -/
def wipeP (P : List (List GF)) (Z : List (List Int)) (m p i k : Nat) : Prop := (erN P Z m i).length ≤ p ∨ unkP P Z k i
instance (P : List (List GF)) (Z : List (List Int)) (m p i k : Nat) : Decidable (wipeP P Z m p i k) := by unfold wipeP; exact inferInstance
def goneP (P : List (List GF)) (Z : List (List Int)) (m p i k : Nat) : Prop := ¬ hitP P Z m p i ∧ wipeP P Z m p i k
/-- The byte that is returned. -/
def byteP (P : List (List GF)) (Z : List (List Int)) (m p i k : Nat) (b : GF) : Prop :=
  (∀ c, Within p (wordP P i) (erN P Z m i) c → b = c.getD k 0) ∧ (¬ hitP P Z m p i → (wipeP P Z m p i k → b = 0) ∧ (¬ wipeP P Z m p i k → b = (wordP P i).getD k 0))
theorem byteP_unique {P : List (List GF)} {Z : List (List Int)} {m p i k : Nat} {b b' : GF} (h : byteP P Z m p i k b) (h' : byteP P Z m p i k b') : b = b' := by
  by_cases hh : hitP P Z m p i
  · obtain ⟨c, hc⟩ := hh
    rw [h.1 c hc, h'.1 c hc]
  · by_cases hw : wipeP P Z m p i k
    · rw [(h.2 hh).1 hw, (h'.2 hh).1 hw]
    · rw [(h.2 hh).2 hw, (h'.2 hh).2 hw]
/-- The increasing list of the numbers below k that are so. -/
def IsGone (q : Nat → Prop) : Nat → List Int → Prop
  | 0, l => l = []
  | k + 1, l => ∃ l', IsGone q k l' ∧ ((q k ∧ l = l' ++ [(k : Int)]) ∨ (¬ q k ∧ l = l'))
theorem IsGone.unique {q : Nat → Prop} : ∀ {k : Nat} {l l' : List Int}, IsGone q k l → IsGone q k l' → l = l'
  | 0, l, l', h, h' => by
    have h : l = [] := h
    have h' : l' = [] := h'
    rw [h, h']
  | k + 1, l, l', h, h' => by
    obtain ⟨a, ha, h⟩ := h
    obtain ⟨b, hb, h'⟩ := h'
    obtain rfl := IsGone.unique ha hb
    rcases h with ⟨h1, rfl⟩ | ⟨h1, rfl⟩ <;> rcases h' with ⟨h2, rfl⟩ | ⟨h2, rfl⟩
    · rfl
    · exact absurd h1 h2
    · exact absurd h2 h1
    · rfl
theorem IsGone.len {q : Nat → Prop} : ∀ {k : Nat} {l : List Int}, IsGone q k l → l.length ≤ k
  | 0, l, h => by
    have h : l = [] := h
    rw [h]; exact Nat.le_refl 0
  | k + 1, l, h => by
    obtain ⟨a, ha, h⟩ := h
    have := IsGone.len ha
    rcases h with ⟨h1, rfl⟩ | ⟨h1, rfl⟩
    · rw [List.length_append, List.length_singleton]; omega
    · omega
theorem IsGone.mem {q : Nat → Prop} {x : Int} : ∀ {k : Nat} {l : List Int}, IsGone q k l → (x ∈ l ↔ ∃ t : Nat, t < k ∧ q t ∧ x = (t : Int))
  | 0, l, h => by
    have h : l = [] := h
    subst h
    simp
  | k + 1, l, h => by
    obtain ⟨a, ha, h⟩ := h
    have ih := IsGone.mem (x := x) ha
    rcases h with ⟨h1, rfl⟩ | ⟨h1, rfl⟩
    · rw [List.mem_append, ih, List.mem_singleton]
      constructor
      · rintro (⟨t, h2, h3, h4⟩ | rfl)
        · exact ⟨t, by omega, h3, h4⟩
        · exact ⟨k, by omega, h1, rfl⟩
      · rintro ⟨t, h2, h3, h4⟩
        by_cases e : t = k
        · subst e; exact .inr h4
        · exact .inl ⟨t, by omega, h3, h4⟩
    · rw [ih]
      constructor
      · rintro ⟨t, h2, h3, h4⟩
        exact ⟨t, by omega, h3, h4⟩
      · rintro ⟨t, h2, h3, h4⟩
        by_cases e : t = k
        · subst e; exact absurd h3 h1
        · exact ⟨t, by omega, h3, h4⟩
theorem IsGone.sorted {q : Nat → Prop} : ∀ {k : Nat} {l : List Int}, IsGone q k l → l.Pairwise (· < ·)
  | 0, l, h => by
    have h : l = [] := h
    subst h
    exact List.Pairwise.nil
  | k + 1, l, h => by
    obtain ⟨a, ha, h⟩ := h
    have ih := IsGone.sorted ha
    rcases h with ⟨h1, rfl⟩ | ⟨h1, rfl⟩
    · refine List.pairwise_append.2 ⟨ih, List.pairwise_singleton _ _, fun x hx y hy => ?_⟩
      obtain ⟨t, h2, h3, h4⟩ := (IsGone.mem ha).1 hx
      rw [List.mem_singleton] at hy
      subst hy
      omega
    · exact ih
theorem IsGone.none {q : Nat → Prop} {k : Nat} {l : List Int} (h : IsGone q k l) (hq : ∀ t, t < k → ¬ q t) : l = [] := by
  refine List.eq_nil_iff_forall_not_mem.2 fun x hx => ?_
  obtain ⟨t, h1, h2, _⟩ := h.mem.1 hx
  exact hq t h1 h2
theorem IsGone.all {q : Nat → Prop} : ∀ {k : Nat} {l : List Int}, IsGone q k l → (∀ t, t < k → q t) → l.length = k
  | 0, l, h, _ => by
    have h : l = [] := h
    subst h
    rfl
  | k + 1, l, h, hq => by
    obtain ⟨a, ha, h⟩ := h
    have ih := IsGone.all ha fun t ht => hq t (by omega)
    rcases h with ⟨h1, rfl⟩ | ⟨h1, rfl⟩
    · rw [List.length_append, List.length_singleton, ih]
    · exact absurd (hq k (by omega)) h1
/-- Data pages and lost positions of the first k positions. -/
def ResOK (P : List (List GF)) (Z : List (List Int)) (m p k : Nat) (L : List (List GF)) (G : List (List Int)) : Prop :=
  L.length = m - p ∧ G.length = m - p ∧ ∀ i, i < m - p → (L.getD i []).length = k ∧ (∀ t, t < k → byteP P Z m p t i ((L.getD i []).getD t 0)) ∧ IsGone (fun t => goneP P Z m p t i) k (G.getD i [])
theorem ResOK.start (P : List (List GF)) (Z : List (List Int)) (m p : Nat) : ResOK P Z m p 0 (List.replicate (m - p) []) (List.replicate (m - p) []) :=
  ⟨by simp, by simp, fun i hi => ⟨by simp [List.getD, hi], fun t ht => absurd ht (Nat.not_lt_zero t), by simp [List.getD, hi, IsGone]⟩⟩
/-- .. and, of the next one, the first j pages. -/
def ResMid (P : List (List GF)) (Z : List (List Int)) (m p k j : Nat) (L0 : List (List GF)) (G0 : List (List Int)) (L : List (List GF)) (G : List (List Int)) : Prop :=
  L.length = m - p ∧ G.length = m - p ∧ ∀ i, i < m - p → (i < j → (∃ b, byteP P Z m p k i b ∧ L.getD i [] = L0.getD i [] ++ [b]) ∧ ((goneP P Z m p k i ∧ G.getD i [] = G0.getD i [] ++ [(k : Int)]) ∨ (¬ goneP P Z m p k i ∧ G.getD i [] = G0.getD i []))) ∧ (j ≤ i → L.getD i [] = L0.getD i [] ∧ G.getD i [] = G0.getD i [])
theorem ResMid.start {P : List (List GF)} {Z : List (List Int)} {m p k : Nat} {L : List (List GF)} {G : List (List Int)} (hl : L.length = m - p) (hg : G.length = m - p) : ResMid P Z m p k 0 L G L G :=
  ⟨hl, hg, fun i hi => ⟨fun h => absurd h (Nat.not_lt_zero i), fun _ => ⟨rfl, rfl⟩⟩⟩
theorem ResMid.step {P : List (List GF)} {Z : List (List Int)} {m p k j : Nat} {L0 L : List (List GF)} {G0 G : List (List Int)} (h : ResMid P Z m p k j L0 G0 L G) (hj : j < m - p) {b : GF} (hb : byteP P Z m p k j b) (hg : ¬ goneP P Z m p k j) :
    ResMid P Z m p k (j + 1) L0 G0 (L.set j (L.getD j [] ++ [b])) G := by
  refine ⟨by rw [List.length_set]; exact h.1, h.2.1, fun i hi => ?_⟩
  have hh := h.2.2 i hi
  by_cases e : i = j
  · subst e
    have h0 := hh.2 (Nat.le_refl _)
    refine ⟨fun _ => ⟨⟨b, hb, ?_⟩, .inr ⟨hg, h0.2⟩⟩, fun h => absurd h (by omega)⟩
    rw [getD_set_eq (by rw [h.1]; exact hi), h0.1]
  · rw [getD_set_neq (fun e' => e e'.symm)]
    exact ⟨fun h => hh.1 (by omega), fun h => hh.2 (by omega)⟩
theorem ResMid.stepG {P : List (List GF)} {Z : List (List Int)} {m p k j : Nat} {L0 L : List (List GF)} {G0 G : List (List Int)} (h : ResMid P Z m p k j L0 G0 L G) (hj : j < m - p) {b : GF} (hb : byteP P Z m p k j b) (hg : goneP P Z m p k j) :
    ResMid P Z m p k (j + 1) L0 G0 (L.set j (L.getD j [] ++ [b])) (G.set j (G.getD j [] ++ [(k : Int)])) := by
  refine ⟨by rw [List.length_set]; exact h.1, by rw [List.length_set]; exact h.2.1, fun i hi => ?_⟩
  have hh := h.2.2 i hi
  by_cases e : i = j
  · subst e
    have h0 := hh.2 (Nat.le_refl _)
    refine ⟨fun _ => ⟨⟨b, hb, ?_⟩, .inl ⟨hg, ?_⟩⟩, fun h => absurd h (by omega)⟩
    · rw [getD_set_eq (by rw [h.1]; exact hi), h0.1]
    · rw [getD_set_eq (by rw [h.2.1]; exact hi), h0.2]
  · rw [getD_set_neq (fun e' => e e'.symm), getD_set_neq (fun e' => e e'.symm)]
    exact ⟨fun h => hh.1 (by omega), fun h => hh.2 (by omega)⟩
theorem ResMid.row {P : List (List GF)} {Z : List (List Int)} {m p k j : Nat} {L0 L : List (List GF)} {G0 G : List (List Int)} (h0 : ResOK P Z m p k L0 G0) (h : ResMid P Z m p k j L0 G0 L G) (hj : j < m - p) : (L.getD j []).length = k ∧ (G.getD j []).length ≤ k := by
  have h1 := (h.2.2 j hj).2 (Nat.le_refl _)
  have h2 := h0.2.2 j hj
  rw [h1.1, h1.2]
  exact ⟨h2.1, h2.2.2.len⟩
theorem ResMid.done {P : List (List GF)} {Z : List (List Int)} {m p k : Nat} {L0 L : List (List GF)} {G0 G : List (List Int)} (h0 : ResOK P Z m p k L0 G0) (h : ResMid P Z m p k (m - p) L0 G0 L G) : ResOK P Z m p (k + 1) L G := by
  refine ⟨h.1, h.2.1, fun i hi => ?_⟩
  obtain ⟨⟨b, hb, hL⟩, hG⟩ := (h.2.2 i hi).1 hi
  obtain ⟨r1, r2, r3⟩ := h0.2.2 i hi
  rw [hL]
  refine ⟨by rw [List.length_append, r1]; rfl, fun t ht => ?_, ⟨G0.getD i [], r3, hG⟩⟩
  by_cases e : t < k
  · rw [getD_app_l (by rw [r1]; exact e)]
    exact r2 t e
  · obtain rfl : t = k := by omega
    have : (L0.getD i [] ++ [b]).getD t 0 = b := by rw [← r1]; exact getD_app_r
    rw [this]; exact hb
theorem ResOK.unique {P : List (List GF)} {Z : List (List Int)} {m p k : Nat} {L L' : List (List GF)} {G G' : List (List Int)} (h : ResOK P Z m p k L G) (h' : ResOK P Z m p k L' G') : L = L' ∧ G = G' := by
  constructor
  · refine eq_of_getDn (d := []) (by rw [h.1, h'.1]) fun i hi => ?_
    rw [h.1] at hi
    obtain ⟨a1, a2, _⟩ := h.2.2 i hi
    obtain ⟨b1, b2, _⟩ := h'.2.2 i hi
    refine eq_of_getDn (d := 0) (by rw [a1, b1]) fun t ht => ?_
    rw [a1] at ht
    exact byteP_unique (a2 t ht) (b2 t ht)
  · refine eq_of_getDn (d := []) (by rw [h.2.1, h'.2.1]) fun i hi => ?_
    rw [h.2.1] at hi
    exact (h.2.2 i hi).2.2.unique (h'.2.2 i hi).2.2
end Go.Proofs.Ytcinfkmekkdhfaa
