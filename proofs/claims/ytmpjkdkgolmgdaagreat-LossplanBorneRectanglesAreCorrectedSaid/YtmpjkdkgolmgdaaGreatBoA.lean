/- Rectangles that a plan bears, plain: what is changed in a rectangle of places, row by row of the code block. -/
import Derived.Test.YtmpjkdkgolmgdaaGreatMg
import Derived.Test.YtmpjkdkgolmgdaaGreatMh
import Derived.Test.YtmpjkdkgolmgdaaGreatMi
namespace Go.Proofs.YtmpjkdkgolmgdaaGreat
open Go.RowKit
set_option linter.unusedVariables false

/-! ### rows with too much damage -/
theorem cnt_zero {s : List Int} (h : ∀ x ∈ s, 0 ≤ x) (hs : Srt s) : (s.filter fun x => decide (x = 0)).length ≤ cntS s 0 := by
  induction s with
  | nil => exact Nat.le_refl _
  | cons x s ih =>
    have hx := h x (List.mem_cons_self ..)
    have hs' : Srt s := (List.pairwise_cons.1 hs).2
    have hle := (List.pairwise_cons.1 hs).1
    have := ih (fun y hy => h y (List.mem_cons_of_mem _ hy)) hs'
    by_cases e : x = 0
    · subst e
      unfold cntS
      rw [if_neg (by omega), List.filter_cons_of_pos (by simp), List.length_cons]
      exact Nat.succ_le_succ this
    · rw [List.filter_cons_of_neg (by simpa using e)]
      have : s.filter (fun x => decide (x = 0)) = [] := by
        rw [List.filter_eq_nil_iff]
        intro y hy
        have h1 := hle y hy
        simp; omega
      rw [this]; exact Nat.zero_le _
theorem badC_zero (f : Nat → Int) (n : Nat) (t : Int) : ((List.range n).filter fun r => decide (t < f r)).length ≤ badC ((List.range n).map f) t 0 := by
  unfold badC
  refine Nat.le_trans ?_ (cnt_zero (fun x hx => needL_nonneg t _ x ((isrt_perm _).subset hx)) (isrt_srt _))
  rw [((isrt_perm (needL t ((List.range n).map f))).filter _).length_eq]
  unfold needL
  rw [List.map_map, List.filter_map, List.length_map]
  refine Nat.le_of_eq (congrArg List.length (List.filter_congr fun r _ => ?_))
  show decide (t < f r) = decide (max (t + 1 - f r) 0 = 0)
  by_cases h : t < f r
  · rw [decide_eq_true h, decide_eq_true (by omega)]
  · rw [decide_eq_false h, decide_eq_false (by omega)]
/-! ### a rectangle of places -/
/-- The place k lies in the rectangle. -/
def inBox (t0 l0 H W k : Nat) : Prop := t0 ≤ k / 24 ∧ k / 24 < t0 + H ∧ l0 ≤ k % 24 ∧ k % 24 < l0 + W
instance (t0 l0 H W k : Nat) : Decidable (inBox t0 l0 H W k) := by unfold inBox; exact inferInstance
/-- .. and it has been changed: i lines are done, and j columns of the next one. -/
def doneBox (t0 l0 W i j k : Nat) : Prop := inBox t0 l0 i W k ∨ (k / 24 = t0 + i ∧ l0 ≤ k % 24 ∧ k % 24 < l0 + j)
instance (t0 l0 W i j k : Nat) : Decidable (doneBox t0 l0 W i j k) := by unfold doneBox; exact inferInstance
def boxL (l : List GF) (x : GF) (t0 l0 W i j : Nat) : List GF := (List.range 384).map fun k => if doneBox t0 l0 W i j k then l.getD k 0 + x else l.getD k 0
theorem boxL_len (l : List GF) (x : GF) (t0 l0 W i j : Nat) : (boxL l x t0 l0 W i j).length = 384 := by simp [boxL]
theorem boxL_get (l : List GF) (x : GF) (t0 l0 W i j : Nat) {k : Nat} (hk : k < 384) : (boxL l x t0 l0 W i j).getD k 0 = if doneBox t0 l0 W i j k then l.getD k 0 + x else l.getD k 0 := by simp [boxL, List.getD, hk]
theorem boxL_start (l : List GF) (x : GF) (t0 l0 W : Nat) (hl : l.length = 384) : boxL l x t0 l0 W 0 0 = l :=
  eq_of_getD (by rw [boxL_len, hl]) fun k hk => by
    rw [boxL_len] at hk
    rw [boxL_get _ _ _ _ _ _ _ hk, if_neg (by unfold doneBox inBox; omega)]
theorem boxL_line (l : List GF) (x : GF) (t0 l0 W i : Nat) : boxL l x t0 l0 W i W = boxL l x t0 l0 W (i + 1) 0 :=
  eq_of_getD (by rw [boxL_len, boxL_len]) fun k hk => by
    rw [boxL_len] at hk
    rw [boxL_get _ _ _ _ _ _ _ hk, boxL_get _ _ _ _ _ _ _ hk]
    have : doneBox t0 l0 W i W k ↔ doneBox t0 l0 W (i + 1) 0 k := by unfold doneBox inBox; omega
    by_cases h : doneBox t0 l0 W i W k
    · rw [if_pos h, if_pos (this.1 h)]
    · rw [if_neg h, if_neg (fun h' => h (this.2 h'))]
theorem boxL_step (l : List GF) (x : GF) (t0 l0 W i j : Nat) (hi : t0 + i < 16) (hj : l0 + j < 24) :
    (boxL l x t0 l0 W i j).set (24 * (t0 + i) + (l0 + j)) ((boxL l x t0 l0 W i j).getD (24 * (t0 + i) + (l0 + j)) 0 + x) = boxL l x t0 l0 W i (j + 1) := by
  have hk0 : 24 * (t0 + i) + (l0 + j) < 384 := by omega
  have e1 : (24 * (t0 + i) + (l0 + j)) / 24 = t0 + i := by omega
  have e2 : (24 * (t0 + i) + (l0 + j)) % 24 = l0 + j := by omega
  refine eq_of_getD (by rw [List.length_set, boxL_len, boxL_len]) fun k hk => ?_
  rw [List.length_set, boxL_len] at hk
  by_cases e : k = 24 * (t0 + i) + (l0 + j)
  · subst e
    rw [gset_eq (by rw [boxL_len]; exact hk0), boxL_get _ _ _ _ _ _ _ hk0, boxL_get _ _ _ _ _ _ _ hk0, if_neg (by unfold doneBox inBox; omega), if_pos (by unfold doneBox inBox; omega)]
  · rw [gset_ne (Ne.symm e), boxL_get _ _ _ _ _ _ _ hk, boxL_get _ _ _ _ _ _ _ hk]
    have : doneBox t0 l0 W i j k ↔ doneBox t0 l0 W i (j + 1) k := by unfold doneBox inBox; omega
    by_cases h : doneBox t0 l0 W i j k
    · rw [if_pos h, if_pos (this.1 h)]
    · rw [if_neg h, if_neg (fun h' => h (this.2 h'))]
/-- The torn block. -/
def tornL (b : List GF) (x : GF) (t0 l0 H W : Nat) : List GF := gatherL (boxL (spreadL b) x t0 l0 W H 0)
theorem tornL_len (b : List GF) (x : GF) (t0 l0 H W : Nat) : (tornL b x t0 l0 H W).length = 384 := gatherL_len _
theorem tornL_get (b : List GF) (x : GF) (t0 l0 H W : Nat) {k : Nat} (hk : k < 384) : (tornL b x t0 l0 H W).getD k 0 = if inBox t0 l0 H W (ilPlc k) then b.getD k 0 + x else b.getD k 0 := by
  unfold tornL
  rw [gatherL_get _ hk, boxL_get _ _ _ _ _ _ _ (ilPlc_lt hk)]
  have hs : (spreadL b).getD (ilPlc k) 0 = b.getD k 0 := by
    have := ilPlc_lt hk
    simp [spreadL, List.getD, this, ilSrc_plc hk]
  rw [hs]
  have : doneBox t0 l0 W H 0 (ilPlc k) ↔ inBox t0 l0 H W (ilPlc k) := by unfold doneBox inBox; omega
  by_cases h : inBox t0 l0 H W (ilPlc k)
  · rw [if_pos h, if_pos (this.2 h)]
  · rw [if_neg h, if_neg (fun h' => h (this.1 h'))]
/-- The bytes of a row that lie in the rectangle. -/
def cntB (t0 l0 H W r : Nat) : Nat → Nat
  | 0 => 0
  | c + 1 => cntB t0 l0 H W r c + if inBox t0 l0 H W (ilPlc (r * 24 + c)) then 1 else 0
theorem sum_cnt (b : List GF) (x : GF) (t0 l0 H W r : Nat) (hr : r < 16) : ∀ c, c ≤ 24 → sumN b (tornL b x t0 l0 H W) [] 24 r c ≤ 2 * cntB t0 l0 H W r c := by
  intro c
  induction c with
  | zero => intro _; exact Nat.zero_le _
  | succ c ih =>
    intro hc
    have h1 := ih (by omega)
    rw [sumN, cntB, if_neg (by simp), tornL_get b x t0 l0 H W (by omega)]
    by_cases h : inBox t0 l0 H W (ilPlc (r * 24 + c))
    · rw [if_pos h, if_pos h]
      split <;> omega
    · rw [if_neg h, if_neg h, if_neg (fun e => e rfl)]
      omega
theorem ilPlc_in {t0 l0 H W r c : Nat} (hr : r < 16) (hc : c < 24) : inBox t0 l0 H W (ilPlc (r * 24 + c)) ↔ ((t0 : Int) ≤ ilL r c ∧ ilL r c < (t0 : Int) + H) ∧ l0 ≤ c ∧ c < l0 + W := by
  have e1 : (r * 24 + c) / 24 = r := by omega
  have e2 : (r * 24 + c) % 24 = c := by omega
  have e3 : ilPlc (r * 24 + c) / 24 = (r + 11 * c) % 16 := by unfold ilPlc; rw [e1, e2]; omega
  have e4 : ilPlc (r * 24 + c) % 24 = c := by unfold ilPlc; rw [e1, e2]; omega
  have e5 : ilL r c = (((r + 11 * c) % 16 : Nat) : Int) := by unfold ilL; omega
  unfold inBox
  rw [e3, e4, e5]
  omega
theorem cntB_low {t0 l0 H W r : Nat} (hr : r < 16) : ∀ c, c ≤ l0 → c ≤ 24 → cntB t0 l0 H W r c = 0 := by
  intro c
  induction c with
  | zero => intro _ _; rfl
  | succ c ih =>
    intro h1 h2
    rw [cntB, ih (by omega) (by omega), if_neg (by rw [ilPlc_in hr (by omega)]; omega)]
theorem cntB_mid {t0 l0 H W r : Nat} (hr : r < 16) (hl : l0 + W ≤ 24) : ∀ j, j ≤ W → (cntB t0 l0 H W r (l0 + j) : Int) = ilCnt t0 ((t0 : Int) + H) r l0 j := by
  intro j
  induction j with
  | zero => intro _; rw [Nat.add_zero, cntB_low hr l0 (Nat.le_refl _) (by omega)]; rfl
  | succ j ih =>
    intro hj
    have h1 := ih (by omega)
    rw [show l0 + (j + 1) = (l0 + j) + 1 from rfl, cntB, ilCnt, ← h1]
    have hp := ilPlc_in (t0 := t0) (l0 := l0) (H := H) (W := W) hr (show l0 + j < 24 by omega)
    have hcast : ((l0 + j : Nat) : Int) = (l0 : Int) + (j : Int) := by omega
    rw [hcast] at hp
    by_cases h : (t0 : Int) ≤ ilL r ((l0 : Int) + (j : Int)) ∧ ilL r ((l0 : Int) + (j : Int)) < (t0 : Int) + H
    · rw [if_pos h, if_pos (hp.2 ⟨h, by omega, by omega⟩)]; omega
    · rw [if_neg h, if_neg (fun h' => h (hp.1 h').1)]; omega
theorem cntB_high {t0 l0 H W r : Nat} (hr : r < 16) (hl : l0 + W ≤ 24) : ∀ d, l0 + W + d ≤ 24 → cntB t0 l0 H W r (l0 + W + d) = cntB t0 l0 H W r (l0 + W) := by
  intro d
  induction d with
  | zero => intro _; rfl
  | succ d ih =>
    intro hd
    rw [show l0 + W + (d + 1) = (l0 + W + d) + 1 from rfl, cntB, ih (by omega), if_neg (by rw [ilPlc_in hr (by omega)]; omega), Nat.add_zero]
theorem cntB_all {t0 l0 H W r : Nat} (hr : r < 16) (hl : l0 + W ≤ 24) : (cntB t0 l0 H W r 24 : Int) = ilM t0 l0 H W r := by
  have h := cntB_high (t0 := t0) (H := H) hr hl (24 - (l0 + W)) (by omega)
  rw [show l0 + W + (24 - (l0 + W)) = 24 by omega] at h
  rw [h]
  exact cntB_mid hr hl W (Nat.le_refl _)
/-- A plan that bears rectangles of this size: few rows can't be corrected for certain. -/
theorem borne_wrong {p q t0 l0 H W : Nat} (b : List GF) (x : GF) (ht : t0 < 16) (hl : l0 < 24) (hH : t0 + H ≤ 16) (hW : l0 + W ≤ 24) (hb : pageB ((p / 2 : Nat) : Int) ((q / 2 : Nat) : Int) H W 0 = true) :
    wrongN b (tornL b x t0 l0 H W) [] 24 p 16 ≤ q / 2 := by
  have h := pageB_iff.1 hb t0 (by omega) l0 (by omega)
  have h2 := badC_zero (ilM t0 l0 H W) 16 ((p / 2 : Nat) : Int)
  have h3 : wrongN b (tornL b x t0 l0 H W) [] 24 p 16 ≤ ((List.range 16).filter fun r => decide (((p / 2 : Nat) : Int) < ilM t0 l0 H W r)).length := by
    rw [wrongN_eq]
    unfold badRows
    rw [← List.countP_eq_length_filter, ← List.countP_eq_length_filter]
    refine List.countP_mono_left fun r hr hd => ?_
    have hr := List.mem_range.1 hr
    have hd := of_decide_eq_true hd
    have h4 := sum_cnt b x t0 l0 H W r hr 24 (Nat.le_refl _)
    have h5 := cntB_all (t0 := t0) (l0 := l0) (H := H) (W := W) hr hW
    exact decide_eq_true (by omega)
  have h6 : badC (ilMeets (t0 : Int) (l0 : Int) H W) ((p / 2 : Nat) : Int) 0 = badC ((List.range 16).map (ilM t0 l0 H W)) ((p / 2 : Nat) : Int) 0 := rfl
  omega
end Go.Proofs.YtmpjkdkgolmgdaaGreat
