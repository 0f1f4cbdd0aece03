/- Cross pages: missing pages and wrong ones, in plain words. -/
import Derived.Test.YtcinfkmekkdhfaaCqN
namespace Go.Proofs.Ytcinfkmekkdhfaa
open Go.RowKit
set_option linter.unusedVariables false

/-- What the pages that are not right count. -/
def cntR (M Wr : List Int) : Nat → Nat
  | 0 => 0
  | k + 1 => cntR M Wr k + (if (k : Int) ∈ M then 1 else if (k : Int) ∈ Wr then 2 else 0)
/-- The places that a wrong page's values go to. -/
def plR (n i : Nat) : List Int := (List.range n).map fun (k : Nat) => (k : Int) * ((i : Int) + 1)
theorem plR_len (n i : Nat) : (plR n i).length = n := by simp [plR]
theorem plR_succ (n i : Nat) : plR (n + 1) i = plR n i ++ [(n : Int) * ((i : Int) + 1)] := by simp [plR, List.range_succ]
/-- A page as it came. -/
def nowR (T : List (List GF)) (M Wr : List Int) (V : List GF) (i : Nat) : List GF := if (i : Int) ∈ M then [] else if (i : Int) ∈ Wr then changedL (T.getD i []) (plR V.length i) V else T.getD i []
def nowL (T : List (List GF)) (M Wr : List Int) (V : List GF) (r : Nat) : List (List GF) := (List.range r).map (nowR T M Wr V)
section
variable {T : List (List GF)} {M Wr : List Int} {V : List GF} {r n : Nat}
theorem nowL_len : (nowL T M Wr V r).length = r := by simp [nowL]
theorem nowL_get {i : Nat} (h : i < r) : (nowL T M Wr V r).getD i [] = nowR T M Wr V i := by simp [nowL, List.getD, h]
theorem nowR_len (hT : ∀ i, i < r → (T.getD i []).length = n) {i : Nat} (h : i < r) : ((nowR T M Wr V i).length = 0 ∧ (i : Int) ∈ M) ∨ ((nowR T M Wr V i).length = n ∧ (i : Int) ∉ M) := by
  unfold nowR
  by_cases hM : (i : Int) ∈ M
  · rw [if_pos hM]; exact .inl ⟨rfl, hM⟩
  · rw [if_neg hM]
    right
    refine ⟨?_, hM⟩
    by_cases hW : (i : Int) ∈ Wr
    · rw [if_pos hW, changedL_len]; exact hT i h
    · rw [if_neg hW]; exact hT i h
theorem unk_now (hT : ∀ i, i < r → (T.getD i []).length = n) (hn : 1 ≤ n) {i t : Nat} (h : i < r) : unkP (nowL T M Wr V r) (nonZ r) i t ↔ (i : Int) ∈ M := by
  rw [unk_non, nowL_get h]
  rcases nowR_len (M := M) (Wr := Wr) (V := V) hT h with ⟨h1, h2⟩ | ⟨h1, h2⟩
  · exact ⟨fun _ => h2, fun _ => h1⟩
  · exact ⟨fun h3 => by omega, fun h3 => absurd h3 h2⟩
def wrR (M Wr : List Int) (k : Nat) : List Nat := (List.range k).filter fun i => decide ((i : Int) ∉ M) && decide ((i : Int) ∈ Wr)
theorem cnt_eq (hT : ∀ i, i < r → (T.getD i []).length = n) (hn : 1 ≤ n) (t : Nat) : ∀ k, k ≤ r → cntR M Wr k = (erN (nowL T M Wr V r) (nonZ r) k t).length + 2 * (wrR M Wr k).length := by
  intro k
  induction k with
  | zero => intro _; rfl
  | succ k ih =>
    intro hk
    have h0 := ih (by omega)
    have hu := unk_now (M := M) (Wr := Wr) (V := V) (t := t) hT hn (show k < r by omega)
    have hw : wrR M Wr (k + 1) = wrR M Wr k ++ [k].filter fun (i : Nat) => decide ((i : Int) ∉ M) && decide ((i : Int) ∈ Wr) := by
      unfold wrR; rw [List.range_succ, List.filter_append]
    rw [hw, List.length_append]
    show cntR M Wr k + (if (k : Int) ∈ M then 1 else if (k : Int) ∈ Wr then 2 else 0) = _
    by_cases hM : (k : Int) ∈ M
    · rw [if_pos hM, erN_yes (hu.2 hM), List.length_append]
      simp [hM]
      omega
    · rw [if_neg hM, erN_no (fun h => hM (hu.1 h))]
      by_cases hW : (k : Int) ∈ Wr
      · rw [if_pos hW]; simp [hM, hW]; omega
      · rw [if_neg hW]; simp [hM, hW]; omega
end
theorem filter_len_mono {α : Type} {p q : α → Bool} : ∀ {l : List α}, (∀ x ∈ l, p x = true → q x = true) → (l.filter p).length ≤ (l.filter q).length
  | [], _ => Nat.le_refl _
  | x :: l, h => by
    have ih := filter_len_mono (l := l) fun y hy => h y (List.mem_cons_of_mem _ hy)
    cases hp : p x with
    | true =>
      rw [List.filter_cons_of_pos hp, List.filter_cons_of_pos (h x List.mem_cons_self hp)]
      simp only [List.length_cons]; omega
    | false =>
      rw [List.filter_cons_of_neg (by rw [hp]; simp)]
      cases hq : q x with
      | true => rw [List.filter_cons_of_pos hq]; simp only [List.length_cons]; omega
      | false => rw [List.filter_cons_of_neg (by rw [hq]; simp)]; exact ih
/-- Pages and their parity pages. -/
structure AllOK (P L T : List (List GF)) (m q n : Nat) : Prop where
  hP : P.length = m
  hL : ExtOK P q n L
  hl : ∀ i, i < m → (P.getD i []).length = n
  hT1 : ∀ i, i < m → T.getD i [] = P.getD i []
  hT2 : ∀ i, i < q → T.getD (m + i) [] = L.getD i []
  hn : 1 ≤ n
theorem AllOK.len {P L T : List (List GF)} {m q n : Nat} (h : AllOK P L T m q n) : ∀ i, i < m + q → (T.getD i []).length = n := fun i hi => by
  by_cases e : i < m
  · rw [h.hT1 i e]; exact h.hl i e
  · obtain ⟨j, rfl⟩ : ∃ j, i = m + j := ⟨i - m, by omega⟩
    rw [h.hT2 j (by omega)]
    exact (h.hL.2 j (by omega)).1
theorem AllOK.word {P L T : List (List GF)} {m q n t : Nat} (h : AllOK P L T m q n) (ht : t < n) {wd : List GF} (hw : IsEnc (wordP P t) q wd) {i : Nat} (hi : i < m + q) : wd.getD i 0 = (T.getD i []).getD t 0 := by
  by_cases e : i < m
  · rw [h.hT1 i e]
    have h1 := hw.2.1
    rw [wordP_len, h.hP] at h1
    have h2 : wd.getD i 0 = (wd.take m).getD i 0 := by simp [List.getD, e]
    rw [h2, h1]
    exact wordP_get P t (by rw [h.hP]; exact e)
  · obtain ⟨j, rfl⟩ : ∃ j, i = m + j := ⟨i - m, by omega⟩
    rw [h.hT2 j (by omega), (h.hL.2 j (by omega)).2 t ht wd hw, h.hP]
theorem AllOK.within {P L T : List (List GF)} {M Wr : List Int} {V : List GF} {m q n t : Nat} (h : AllOK P L T m q n) (hc : cntR M Wr (m + q) ≤ q) (ht : t < n) {wd : List GF} (hw : IsEnc (wordP P t) q wd) :
    Within q (wordP (nowL T M Wr V (m + q)) t) (erN (nowL T M Wr V (m + q)) (nonZ (m + q)) (m + q) t) wd := by
  have hlen : (wordP (nowL T M Wr V (m + q)) t).length = m + q := by rw [wordP_len, nowL_len]
  refine ⟨by rw [hlen, hw.1, wordP_len, h.hP], hw.2.2, ?_⟩
  have h1 := cnt_eq (M := M) (Wr := Wr) (V := V) h.len h.hn t (m + q) (Nat.le_refl _)
  have h2 : (wrongs (wordP (nowL T M Wr V (m + q)) t) wd (erN (nowL T M Wr V (m + q)) (nonZ (m + q)) (m + q) t)).length ≤ (wrR M Wr (m + q)).length := by
    unfold wrongs wrR
    rw [hlen]
    refine filter_len_mono fun i hi hp => ?_
    rw [List.mem_range] at hi
    simp only [Bool.and_eq_true, decide_eq_true_eq] at hp ⊢
    obtain ⟨hp1, hp2⟩ := hp
    have hM : (i : Int) ∉ M := fun hM => hp2 (mem_erN.2 ⟨hi, (unk_now h.len h.hn hi).2 hM⟩)
    refine ⟨hM, Decidable.byContradiction fun hW => hp1 ?_⟩
    rw [h.word ht hw hi, wordP_get _ t (by rw [nowL_len]; exact hi), nowL_get hi]
    unfold nowR
    rw [if_neg hM, if_neg hW]
  omega
theorem AllOK.restored {P L T : List (List GF)} {M Wr : List Int} {V : List GF} {m q n : Nat} (h : AllOK P L T m q n) (hc : cntR M Wr (m + q) ≤ q) {D : List (List GF)} {G : List (List Int)} (hR : ResOK (nowL T M Wr V (m + q)) (nonZ (m + q)) (m + q) q n D G) :
    D = P ∧ ∀ i, i < m → G.getD i [] = [] := by
  obtain ⟨r1, r2, r3⟩ := hR
  have hm : m + q - q = m := by omega
  rw [hm] at r1 r2 r3
  constructor
  · refine eq_of_getDn (d := []) (by rw [r1, h.hP]) fun i hi => ?_
    rw [r1] at hi
    obtain ⟨a1, a2, _⟩ := r3 i hi
    refine eq_of_getDn (d := 0) (by rw [a1, h.hl i hi]) fun t ht => ?_
    rw [a1] at ht
    obtain ⟨wd, hw⟩ := enc_ex (wordP P t) q
    rw [(a2 t ht).1 wd (h.within hc ht hw), h.word ht hw (by omega), h.hT1 i hi]
  · intro i hi
    refine (r3 i hi).2.2.none fun t ht hg => hg.1 ?_
    obtain ⟨wd, hw⟩ := enc_ex (wordP P t) q
    exact ⟨wd, h.within hc ht hw⟩
theorem cntR_pos {M Wr : List Int} : ∀ {k : Nat}, (∀ i, i < k → (i : Int) ∈ M) → k ≤ cntR M Wr k
  | 0, _ => Nat.le_refl _
  | k + 1, h => by
    have ih := cntR_pos (Wr := Wr) (k := k) fun i hi => h i (by omega)
    show k + 1 ≤ cntR M Wr k + (if (k : Int) ∈ M then 1 else if (k : Int) ∈ Wr then 2 else 0)
    rw [if_pos (h k (by omega))]
    omega
theorem AllOK.pages {P L T : List (List GF)} {M Wr : List Int} {V : List GF} {m q n : Nat} (h : AllOK P L T m q n) (hm : 1 ≤ m) (hm2 : m ≤ 48) (hq : q ≤ 16) (hn2 : n ≤ 384) (hc : cntR M Wr (m + q) ≤ q) : ∃ f, PgsOk (nowL T M Wr V (m + q)) (m + q) q n f := by
  have hlen : ∀ i, i < m + q → ((nowL T M Wr V (m + q)).getD i []).length = 0 ∧ (i : Int) ∈ M ∨ ((nowL T M Wr V (m + q)).getD i []).length = n ∧ (i : Int) ∉ M := fun i hi => by
    rw [nowL_get hi]
    exact nowR_len h.len hi
  rcases first_of (fun i => 0 < ((nowL T M Wr V (m + q)).getD i []).length) (m + q) with h1 | ⟨f, hf, hfl, hfb⟩
  · have := cntR_pos (M := M) (Wr := Wr) (k := m + q) fun i hi => by
      have h2 := h1 i hi
      rcases hlen i hi with ⟨_, h3⟩ | ⟨h3, _⟩
      · exact h3
      · have := h.hn; omega
    omega
  · refine ⟨f, hq, by omega, by omega, hf, ?_, h.hn, hn2, fun i hi => by have := hfb i hi; omega, fun i hi => ?_⟩
    · rcases hlen f hf with ⟨h3, _⟩ | ⟨h3, _⟩ <;> omega
    · rcases hlen i hi with ⟨h3, _⟩ | ⟨h3, _⟩
      · exact .inl h3
      · exact .inr h3
end Go.Proofs.Ytcinfkmekkdhfaa
