/- What a walk is told of the slices that came in. -/
import Derived.Test.YtpkaaiefnabfbaaBytes
namespace Go.Proofs.Ytpkaaiefnabfbaa
open Go.RowKit
set_option linter.unusedVariables false

theorem wfu8 {a : Int} (h : (Lit.int .u8 a).wf = true) : 0 ≤ a ∧ a < 256 := by
  simp [Lit.wf, IntKind.min, IntKind.max, IntKind.signed, IntKind.bits] at h
  omega
/-- What the walk is told of a slice of integers that came in. -/
def IsRow (k : IntKind) (w : World) (a : Option Addr) (len cap : Nat) (zs : List Int) : Prop :=
  (a = none ∧ len = 0 ∧ cap = 0 ∧ zs = []) ∨
  ∃ x, a = some x ∧ len ≤ cap ∧ cap ≤ maxLen ∧ zs.length = cap ∧ (∀ i, i < zs.length → w.cell? (x.add i) = some (.int k (zs.getD i 0))) ∧ ∀ n ∈ zs, (Lit.int k n).wf = true
theorem getD_mem {zs : List Int} {i : Nat} (h : i < zs.length) : zs.getD i 0 ∈ zs := by
  simp [List.getD, List.getElem?_eq_getElem h]
/-- A slice of bytes that came in, as a list of bytes. -/
theorem IsRow.bytes {w : World} {a : Option Addr} {len cap : Nat} {zs : List Int} (h : IsRow .u8 w a len cap zs) : ∃ l : List GF, RdB w a len l ∧ len ≤ maxLen := by
  rcases h with ⟨rfl, rfl, rfl, rfl⟩ | ⟨x, rfl, hl, hm, hz, hcell, hwz⟩
  · exact ⟨[], ⟨rfl, fun h => by omega⟩, Nat.zero_le _⟩
  · refine ⟨(List.range len).map fun i => GF.mk (zs.getD i 0).toNat.succ.pred (by
      by_cases hi : i < zs.length
      · have := wfu8 (hwz _ (getD_mem hi)); simp only [Nat.pred_succ]; omega
      · simp [List.getD, List.getElem?_eq_none (Nat.le_of_not_lt hi)]), ⟨by simp, fun hn => ?_⟩, by omega⟩
    obtain ⟨b, off, spot⟩ := x
    have hc0 := hcell 0 (by omega)
    have hspot : spot = none := by simpa [Addr.add] using World.cell?_spot hc0
    subst hspot
    have hadd : ∀ i, (⟨b, off, none⟩ : Addr).add i = ⟨b, off + i, none⟩ := fun i => by unfold Addr.add; split <;> simp_all
    have hlt : b < w.heap.size := by
      have h0 := hcell 0 (by omega)
      rw [hadd] at h0
      rcases Nat.lt_or_ge b w.heap.size with h | h
      · exact h
      · simp [World.cell?, Array.getElem?_eq_none h] at h0
    refine ⟨b, off, rfl, hlt, fun i hi => ?_⟩
    have hi2 : i < zs.length := by omega
    rw [← hadd, hcell i hi2]
    have hwf := wfu8 (hwz _ (getD_mem hi2))
    simp only [List.getD, List.getElem?_map, List.getElem?_range hi, Option.map_some, Option.getD_some]
    unfold GF.z
    rw [GF.v_mk]
    simp only [Nat.pred_succ]
    congr 2
    simp only [List.getD] at hwf
    omega

end Go.Proofs.Ytpkaaiefnabfbaa
