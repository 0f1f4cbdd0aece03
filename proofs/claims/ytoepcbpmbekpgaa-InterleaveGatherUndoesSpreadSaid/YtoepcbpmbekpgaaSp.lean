/- Where the bytes of a code block stand on a page: the places as a permutation of 384 numbers. -/
import Derived.Test.YtoepcbpmbekpgaaBytes
import Derived.Test.YtoepcbpmbekpgaaIl
namespace Go.Proofs.Ytoepcbpmbekpgaa
set_option linter.unusedVariables false

/-- The place of a byte, and the byte of a place. -/
def plc (i : Nat) : Nat := 24 * ((i / 24 + 11 * (i % 24)) % 16) + i % 24
def src (j : Nat) : Nat := 24 * ((j / 24 + 5 * (j % 24)) % 16) + j % 24
theorem plc_lt {i : Nat} (h : i < 384) : plc i < 384 := by unfold plc; omega
theorem src_lt {i : Nat} (h : i < 384) : src i < 384 := by unfold src; omega
theorem src_plc {i : Nat} (h : i < 384) : src (plc i) = i := by
  have a : ∀ i : Fin 384, src (plc i.val) = i.val := by decide +kernel
  exact a ⟨i, h⟩
theorem plc_src {i : Nat} (h : i < 384) : plc (src i) = i := by
  have a : ∀ i : Fin 384, plc (src i.val) = i.val := by decide +kernel
  exact a ⟨i, h⟩
theorem plc_eq (i : Nat) (h : i < 384) : ilL ((i : Int) / 24) ((i : Int) % 24) * 24 + (i : Int) % 24 = (plc i : Nat) := by
  unfold plc ilL; omega
theorem src_eq (i : Nat) (h : i < 384) : (((i : Int) / 24) + 5 * ((i : Int) % 24)) % 16 * 24 + (i : Int) % 24 = (src i : Nat) := by
  unfold src; omega
/-- What Spread and Gather return, and what they have made after k bytes. -/
def spreadL (l : List GF) : List GF := (List.range 384).map fun j => l.getD (src j) 0
def gatherL (l : List GF) : List GF := (List.range 384).map fun j => l.getD (plc j) 0
def spMid (l : List GF) (k : Nat) : List GF := (List.range 384).map fun j => if src j < k then l.getD (src j) 0 else 0
def gaMid (l : List GF) (k : Nat) : List GF := (List.range 384).map fun j => if plc j < k then l.getD (plc j) 0 else 0
theorem map_set_rangeG {f g : Nat → GF} {n i : Nat} (hi : i < n) (h : ∀ k, k < n → g k = if k = i then g i else f k) : ((List.range n).map f).set i (g i) = (List.range n).map g := by
  apply List.ext_getElem
  · simp
  · intro k h1 h2
    simp only [List.getElem_set, List.getElem_map, List.getElem_range]
    have hk : k < n := by simpa using h2
    rw [h k hk]
    by_cases e : i = k
    · subst e; simp
    · rw [if_neg e, if_neg (fun x => e x.symm)]
theorem spMid_zero (l : List GF) : spMid l 0 = List.replicate 384 0 :=
  List.eq_replicate_iff.2 ⟨by simp [spMid], fun b hb => by unfold spMid at hb; obtain ⟨k, _, rfl⟩ := List.mem_map.1 hb; simp⟩
theorem gaMid_zero (l : List GF) : gaMid l 0 = List.replicate 384 0 :=
  List.eq_replicate_iff.2 ⟨by simp [gaMid], fun b hb => by unfold gaMid at hb; obtain ⟨k, _, rfl⟩ := List.mem_map.1 hb; simp⟩
theorem spMid_end (l : List GF) : spMid l 384 = spreadL l := by
  unfold spMid spreadL
  apply List.map_congr_left
  intro k hk
  rw [if_pos (src_lt (List.mem_range.1 hk))]
theorem gaMid_end (l : List GF) : gaMid l 384 = gatherL l := by
  unfold gaMid gatherL
  apply List.map_congr_left
  intro k hk
  rw [if_pos (plc_lt (List.mem_range.1 hk))]
theorem spMid_step (l : List GF) {k : Nat} (hk : k < 384) : (spMid l k).set (plc k) (l.getD k 0) = spMid l (k + 1) := by
  have e : l.getD k 0 = (fun j => if src j < k + 1 then l.getD (src j) 0 else 0) (plc k) := by simp only [src_plc hk]; rw [if_pos (by omega)]
  rw [e]
  unfold spMid
  refine map_set_rangeG (g := fun j => if src j < k + 1 then l.getD (src j) 0 else 0) (plc_lt hk) (fun j hj => ?_)
  by_cases h : j = plc k
  · subst h; simp
  · rw [if_neg h]
    have hne : src j ≠ k := fun hh => h (by rw [← hh, plc_src hj])
    by_cases h2 : src j < k
    · rw [if_pos h2, if_pos (by omega)]
    · rw [if_neg h2, if_neg (by omega)]
theorem gaMid_step (l : List GF) {k : Nat} (hk : k < 384) : (gaMid l k).set (src k) (l.getD k 0) = gaMid l (k + 1) := by
  have e : l.getD k 0 = (fun j => if plc j < k + 1 then l.getD (plc j) 0 else 0) (src k) := by simp only [plc_src hk]; rw [if_pos (by omega)]
  rw [e]
  unfold gaMid
  refine map_set_rangeG (g := fun j => if plc j < k + 1 then l.getD (plc j) 0 else 0) (src_lt hk) (fun j hj => ?_)
  by_cases h : j = src k
  · subst h; simp
  · rw [if_neg h]
    have hne : plc j ≠ k := fun hh => h (by rw [← hh, src_plc hj])
    by_cases h2 : plc j < k
    · rw [if_pos h2, if_pos (by omega)]
    · rw [if_neg h2, if_neg (by omega)]
theorem spreadL_len (l : List GF) : (spreadL l).length = 384 := by simp [spreadL]
theorem gatherL_len (l : List GF) : (gatherL l).length = 384 := by simp [gatherL]
theorem spMid_len (l : List GF) (k : Nat) : (spMid l k).length = 384 := by simp [spMid]
theorem gaMid_len (l : List GF) (k : Nat) : (gaMid l k).length = 384 := by simp [gaMid]
theorem list_of_getD {a b : List GF} {n : Nat} (ha : a.length = n) (hb : b.length = n) (h : ∀ i, i < n → a.getD i 0 = b.getD i 0) : a = b := by
  apply List.ext_getElem (by rw [ha, hb])
  intro i h1 h2
  have := h i (by omega)
  simpa [List.getD, List.getElem?_eq_getElem h1, List.getElem?_eq_getElem h2] using this
theorem spreadL_get (l : List GF) {j : Nat} (hj : j < 384) : (spreadL l).getD j 0 = l.getD (src j) 0 := by simp [spreadL, List.getD, hj]
theorem gatherL_get (l : List GF) {j : Nat} (hj : j < 384) : (gatherL l).getD j 0 = l.getD (plc j) 0 := by simp [gatherL, List.getD, hj]
theorem gather_spread {l : List GF} (h : l.length = 384) : gatherL (spreadL l) = l :=
  list_of_getD (gatherL_len _) h fun i hi => by rw [gatherL_get _ hi, spreadL_get _ (plc_lt hi), src_plc hi]
theorem spread_gather {l : List GF} (h : l.length = 384) : spreadL (gatherL l) = l :=
  list_of_getD (spreadL_len _) h fun i hi => by rw [spreadL_get _ hi, gatherL_get _ (src_lt hi), plc_src hi]
end Go.Proofs.Ytoepcbpmbekpgaa
