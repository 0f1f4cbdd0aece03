/- The walk of the reference's Beyond. -/
import Derived.Test.YtmpjkdkgolmgdaaGreatLpH
namespace Go.Proofs.YtmpjkdkgolmgdaaGreat
open Go.RowKit
set_option linter.unusedVariables false

theorem ownI_empty (w : World) (B : Nat) (hB : B ≤ w.heap.size) : OwI (w.alloc (.cells #[] 3)) B (.slice (some ⟨w.heap.size, 0, none⟩) 0 0) [] := World.ownsRow_made w #[] 0 hB (Nat.zero_le _) rfl
theorem preS_le {s : List Int} (h : ∀ x ∈ s, x ≤ 2000) (k : Nat) : preS s k ≤ 2000 * k := by
  induction s generalizing k with
  | nil => rw [preS_nil]; omega
  | cons x s ih =>
    cases k with
    | zero => rw [preS_zero]; omega
    | succ k =>
      rw [preS_cons]
      have h1 := h x (List.mem_cons_self ..)
      have h2 := ih (fun y hy => h y (List.mem_cons_of_mem _ hy)) k
      omega
theorem need_le {t : Int} {h : List Int} (ht : t ≤ 1000) (hb : ∀ x ∈ h, 0 ≤ x) : ∀ x ∈ isrt (needL t h), x ≤ 2000 := by
  intro x hx
  have h1 := (isrt_perm _).subset hx
  unfold needL at h1
  obtain ⟨y, hy, rfl⟩ := List.mem_map.1 h1
  have := hb y hy
  omega
theorem mem_of_getD {h : List Int} (hb : ∀ i, i < h.length → 0 ≤ h.getD i 0) : ∀ x ∈ h, 0 ≤ x := by
  intro x hx
  obtain ⟨i, hi, e⟩ := List.getElem_of_mem hx
  have := hb i hi
  have e2 : h.getD i 0 = x := by simp [hi, e]
  rw [e2] at this; exact this
theorem cellI_ext {w : World} {b off : Nat} {v : Value} (hb : b < w.heap.size) (hc : w.cell? ⟨b, off, none⟩ = some v) (x : Ext w) : x.w.cell? ⟨b, off, none⟩ = some v := (x.below.cell (p := ⟨b, off, none⟩) hb).trans hc
end Go.Proofs.YtmpjkdkgolmgdaaGreat
