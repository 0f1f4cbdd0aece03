/- Walks of the reference's Meets and of Ints, which compares lists of numbers. -/
import Derived.Test.YtnajdmkdkpmdgaaIlB
namespace Go.Proofs.Ytnajdmkdkpmdgaa
open Go.RowKit
set_option linter.unusedVariables false

def rmMid (top left h : Int) (w r c : Nat) : List Int := (List.range 16).map fun k => if k < r then ilM top left h w k else if k = r then ilCnt top (top + h) k left c else 0
theorem rmMid_get (top left h : Int) (w r c : Nat) {k : Nat} (hk : k < 16) : (rmMid top left h w r c).getD k 0 = if k < r then ilM top left h w k else if k = r then ilCnt top (top + h) k left c else 0 := by
  simp [rmMid, List.getD, hk]
theorem rmMid_yes (top left h : Int) (w r c : Nat) (hr : r < 16) (hc : top ≤ ilL r (left + c) ∧ ilL r (left + c) < top + h) : (rmMid top left h w r c).set r (ilCnt top (top + h) r left c + 1) = rmMid top left h w r (c + 1) := by
  have e : ilCnt top (top + h) r left c + 1 = (fun (k : Nat) => if k < r then ilM top left h w k else if k = r then ilCnt top (top + h) k left (c + 1) else 0) r := by
    simp only [Nat.lt_irrefl, if_false, if_true, ilCnt]
    rw [if_pos hc]
  rw [e]
  unfold rmMid
  refine map_set_range (g := fun (k : Nat) => if k < r then ilM top left h w k else if k = r then ilCnt top (top + h) k left (c + 1) else 0) hr (fun k hk => ?_)
  by_cases e : k = r
  · subst e; simp
  · simp [e]
theorem rmMid_no (top left h : Int) (w r c : Nat) (hc : ¬ (top ≤ ilL r (left + c) ∧ ilL r (left + c) < top + h)) : rmMid top left h w r c = rmMid top left h w r (c + 1) := by
  unfold rmMid
  apply List.map_congr_left
  intro k _
  by_cases e : k = r
  · subst e
    simp only [Nat.lt_irrefl, if_false, if_true, ilCnt]
    rw [if_neg hc]; omega
  · simp [e]
theorem rmMid_row (top left h : Int) (w r : Nat) : rmMid top left h w r w = rmMid top left h w (r + 1) 0 := by
  unfold rmMid
  apply List.map_congr_left
  intro k _
  by_cases e : k = r
  · subst e; simp [ilM]
  · by_cases e2 : k = r + 1
    · subst e2; simp [ilCnt]; omega
    · have : (k < r + 1) = (k < r) := by rw [eq_iff_iff]; omega
      simp [e, e2, this]
theorem rmMid_zero (top left h : Int) (w : Nat) : rmMid top left h w 0 0 = List.replicate 16 0 := by
  refine List.eq_replicate_iff.2 ⟨by simp [rmMid], fun b hb => ?_⟩
  unfold rmMid at hb
  obtain ⟨k, _, rfl⟩ := List.mem_map.1 hb
  by_cases e : k = 0
  · subst e; simp [ilCnt]
  · simp [e]
theorem rmMid_end (top left h : Int) (w : Nat) : rmMid top left h w 16 0 = ilMeets top left h w := by
  unfold rmMid ilMeets
  apply List.map_congr_left
  intro k hk
  have := List.mem_range.1 hk
  simp [this]

def RMRel (w wr : World) (g : Nat) (l : List Int) : Prop := OwI wr w.heap.size (.slice (some ⟨g, 0, none⟩) 16 16) l ∧ Below w.heap.size w wr
theorem RMRel.set {w wr : World} {g : Nat} {l l' : List Int} (h : RMRel w wr g l) (i : Nat) (x : Int) (hl : l.set i x = l') : RMRel w (wr.setCell ⟨g, i, none⟩ (.int .i64 x)) g l' :=
  ⟨hl ▸ h.1.set i x, Bw.set h.2 h.1.lt.1 _⟩

def sameI (a b : List Int) : Bool := decide (a = b)
theorem sameI_self (a : List Int) : sameI a a = true := by simp [sameI]
theorem take_eq_step {a b : List Int} {k : Nat} (ha : k < a.length) (hb : k < b.length) (h : a.take k = b.take k) (e : a.getD k 0 = b.getD k 0) : a.take (k + 1) = b.take (k + 1) := by
  rw [List.take_succ_eq_append_getElem ha, List.take_succ_eq_append_getElem hb, h]
  simp [List.getD, List.getElem?_eq_getElem ha, List.getElem?_eq_getElem hb] at e
  rw [e]
end Go.Proofs.Ytnajdmkdkpmdgaa
