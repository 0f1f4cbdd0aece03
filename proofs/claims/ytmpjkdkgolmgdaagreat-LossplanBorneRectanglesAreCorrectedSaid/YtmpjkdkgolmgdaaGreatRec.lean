/- Parameters that are structs of numbers, by value. -/
import Derived.Test.YtmpjkdkgolmgdaaGreatMa
import Derived.ProofKit
import Derived.OpenShut
import Derived.Deep.Fields
namespace Go.Proofs.YtmpjkdkgolmgdaaGreat
open Go.ChangeShapes Go.WideShapes Go.ChangeAt Go.RowKit Go.Deep
set_option linter.unusedVariables false

theorem open_i64s {P : Program} {H : Type} {enc : TypeId × Value → H} {w : World} {r : Reach} {b0 base : Nat} {sp : Nat → Bool} {held : Bool} {t ti : TypeId} {fs : Array Field} {v : Value} {d : DataW H} {ps : List MemPlace} {n : Nat}
    (hs : P.underlying t = some (.struct fs)) (hone : oneCellFields P fs = true) (hti : fs.all (fun f => f.type == ti) = true) (hi : P.underlying ti = some (.int .i64)) (hC : P.cellsOf t = n) (hn : fs.size = n)
    (hv : Value.okWide P w r b0 t v) (h : DataW.Trod enc P w base sp held t v d ps) : ∃ zs : List Int, zs.length = n ∧ v = .agg (zs.map (Value.int .i64)).toArray ∧ ∀ z ∈ zs, (Lit.int .i64 z).wf = true := by
  obtain ⟨cs, rfl, hsz⟩ := okWide_struct hs hv
  obtain ⟨fuel, hf⟩ := h
  obtain ⟨xs, m, _, hx, _, hlen, hfld⟩ := DataW.trod_struct hs hf
  have key : ∀ i, i < n → ∃ z, cs.toList[i]? = some (.int .i64 z) ∧ (Lit.int .i64 z).wf = true := by
    intro i hi'
    have hfi : fs[i]? = some fs[i] := Array.getElem?_eq_getElem (by omega)
    obtain ⟨o, k⟩ := hone_of hone i fs[i] hfi
    have ht : fs[i].type = ti := by
      have := Array.all_eq_true.1 hti i (by omega)
      simpa using this
    have h1 := hfld i fs[i] hfi
    have hxi : xs[i]? = some xs[i] := List.getElem?_eq_getElem (by omega)
    rw [hxi, o, k, ht] at h1
    obtain ⟨z, hz, _, hw⟩ := DataW.trod_int hi h1
    refine ⟨z, ?_, hw⟩
    have h2 : (((Value.agg cs).cells.toList.drop i).take 1)[0]? = some (.int .i64 z) := by rw [hz]; rfl
    have h3 : (Value.agg cs).cells = cs := by simp [Value.cells]
    rw [h3] at h2
    simpa [List.getElem?_take, List.getElem?_drop] using h2
  obtain ⟨g, hg⟩ : ∃ g : Nat → Int, ∀ i, i < n → cs.toList[i]? = some (.int .i64 (g i)) ∧ (Lit.int .i64 (g i)).wf = true :=
    ⟨fun i => if h : i < n then (key i h).choose else 0, fun i hi' => by simp only [hi', dif_pos]; exact (key i hi').choose_spec⟩
  refine ⟨(List.range n).map g, by simp, ?_, fun z hz => ?_⟩
  · congr 1
    apply Array.ext'
    apply List.ext_getElem?
    intro i
    by_cases hi' : i < n
    · rw [(hg i hi').1]; simp [hi']
    · rw [List.getElem?_eq_none (by rw [Array.length_toList, hsz, hC]; omega)]
      simp [hi']
  · obtain ⟨i, hi', rfl⟩ := List.mem_map.1 hz
    exact (hg i (List.mem_range.1 hi')).2
theorem okWide_arrI {P : Program} {w : World} {r : Reach} {base : Nat} {t e : TypeId} {n : Nat} {v : Value} (ht : P.underlying t = some (.array n e)) (h : Value.okWide P w r base t v) : ∃ cs, v = .agg cs ∧ cs.size = P.cellsOf t := by
  simp only [Value.okWide, ht] at h
  obtain ⟨cs, h1, h2, _⟩ := h
  exact ⟨cs, h1, h2⟩
theorem open_arrI {P : Program} {H : Type} {enc : TypeId × Value → H} {w : World} {r : Reach} {b0 base : Nat} {sp : Nat → Bool} {held : Bool} {t ti : TypeId} {v : Value} {d : DataW H} {ps : List MemPlace} {n : Nat}
    (hs : P.underlying t = some (.array n ti)) (hi : P.underlying ti = some (.int .i64)) (hce : P.cellsOf ti = 1) (hC : P.cellsOf t = n)
    (hv : Value.okWide P w r b0 t v) (h : DataW.Trod enc P w base sp held t v d ps) : ∃ zs : List Int, zs.length = n ∧ v = .agg (zs.map (Value.int .i64)).toArray ∧ ∀ z ∈ zs, (Lit.int .i64 z).wf = true := by
  obtain ⟨cs, rfl, hsz⟩ := okWide_arrI hs hv
  obtain ⟨fuel, hf⟩ := h
  obtain ⟨xs, m, _, hx, _, hlen, hel⟩ := DataW.trod_array hs hf
  have key : ∀ i, i < n → ∃ z, cs.toList[i]? = some (.int .i64 z) ∧ (Lit.int .i64 z).wf = true := by
    intro i hi'
    have h1 := hel i hi'
    have hxi : xs[i]? = some xs[i] := List.getElem?_eq_getElem (by omega)
    rw [hxi, hce, Nat.mul_one] at h1
    obtain ⟨z, hz, _, hw⟩ := DataW.trod_int hi h1
    refine ⟨z, ?_, hw⟩
    have h2 : (((Value.agg cs).cells.toList.drop i).take 1)[0]? = some (.int .i64 z) := by rw [hz]; rfl
    have h3 : (Value.agg cs).cells = cs := by simp [Value.cells]
    rw [h3] at h2
    simpa [List.getElem?_take, List.getElem?_drop] using h2
  obtain ⟨g, hg⟩ : ∃ g : Nat → Int, ∀ i, i < n → cs.toList[i]? = some (.int .i64 (g i)) ∧ (Lit.int .i64 (g i)).wf = true :=
    ⟨fun i => if h : i < n then (key i h).choose else 0, fun i hi' => by simp only [hi', dif_pos]; exact (key i hi').choose_spec⟩
  refine ⟨(List.range n).map g, by simp, ?_, fun z hz => ?_⟩
  · congr 1
    apply Array.ext'
    apply List.ext_getElem?
    intro i
    by_cases hi' : i < n
    · rw [(hg i hi').1]; simp [hi']
    · rw [List.getElem?_eq_none (by rw [Array.length_toList, hsz, hC]; omega)]
      simp [hi']
  · obtain ⟨i, hi', rfl⟩ := List.mem_map.1 hz
    exact (hg i (List.mem_range.1 hi')).2
theorem len4 {z : List Int} (h : z.length = 4) : ∃ a b c d, z = [a, b, c, d] := by
  match z, h with
  | [a, b, c, d], _ => exact ⟨a, b, c, d, rfl⟩
theorem len5 {z : List Int} (h : z.length = 5) : ∃ a b c d e, z = [a, b, c, d, e] := by
  match z, h with
  | [a, b, c, d, e], _ => exact ⟨a, b, c, d, e, rfl⟩
end Go.Proofs.YtmpjkdkgolmgdaaGreat
