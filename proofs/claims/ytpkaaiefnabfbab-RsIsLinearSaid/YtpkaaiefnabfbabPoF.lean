/- Walks of the statements' helpers long and expanded. -/
import Derived.Test.YtpkaaiefnabfbabPoE
namespace Go.Proofs.Ytpkaaiefnabfbab
open Go.RowKit
set_option linter.unusedVariables false

theorem RdB.lits (w : World) (g : Nat) (zs : List Int) (l : List GF) (t : TypeId) (hg : g = w.heap.size) (h : zs = l.map GF.z) : RdB (w.alloc (.cells (zs.map fun z => Value.int .u8 z).toArray t)) (some ⟨g, 0, none⟩) l.length l := by
  subst h hg
  refine ⟨rfl, fun hn => ⟨_, 0, rfl, by simp, fun i hi => ?_⟩⟩
  simp [go_sem, hi, List.getD]
def b1 : GF := GF.mk 1 (by decide)
def b2 : GF := GF.mk 2 (by decide)
def b3 : GF := GF.mk 3 (by decide)
theorem RdB.l2 (w : World) (g : Nat) (x y : Int) (a b : GF) (t : TypeId) (hg : g = w.heap.size) (h : x = a.z ∧ y = b.z) : RdB (w.alloc (.cells #[.int .u8 x, .int .u8 y] t)) (some ⟨g, 0, none⟩) 2 [a, b] := RdB.lits w g [x, y] [a, b] t hg (by rw [h.1, h.2]; rfl)
theorem RdB.l3 (w : World) (g : Nat) (x y z : Int) (a b c : GF) (t : TypeId) (hg : g = w.heap.size) (h : x = a.z ∧ y = b.z ∧ z = c.z) : RdB (w.alloc (.cells #[.int .u8 x, .int .u8 y, .int .u8 z] t)) (some ⟨g, 0, none⟩) 3 [a, b, c] := RdB.lits w g [x, y, z] [a, b, c] t hg (by rw [h.1, h.2.1, h.2.2]; rfl)
theorem RdB.l1 (w : World) (g : Nat) (x : Int) (a : GF) (t : TypeId) (hg : g = w.heap.size) (h : x = a.z) : RdB (w.alloc (.cells #[.int .u8 x] t)) (some ⟨g, 0, none⟩) 1 [a] := RdB.lits w g [x] [a] t hg (by rw [h]; rfl)
theorem ex_prod : prodP [b1, b1] [b2, b1] = [b2, b3, b1] := by decide +kernel
theorem ex_trim : trimL [b1, b1] = [b1, b1] := by decide +kernel
theorem ex_val : valL [b2, b3, b1] 0 = b2 := by decide +kernel
theorem ex_div {q r : List GF} (h : Div [b3, b3, b1] [b1, b1] q r) : q = [b2, b1] ∧ r = [b1] := by
  refine Div_unique (.inr (by decide +kernel)) (by simp) h ⟨.inr (by decide +kernel), .inr (by decide +kernel), by decide, fun i => ?_⟩
  rcases Nat.lt_or_ge i 3 with h | h
  · have : ∀ i, i < 3 → cf [b3, b3, b1] i = cv (cf [b2, b1]) (cf [b1, b1]) i + cf [b1] i := by decide +kernel
    exact this i h
  · rw [degB_cf [b3, b3, b1] i h, degB_cf [b1] i (by simp; omega), degB_cv (m := 1) (n := 1) (degB_cf [b2, b1]) (degB_cf [b1, b1]) i h]; rfl
theorem z_b2 : b2.z = 2 := rfl
end Go.Proofs.Ytpkaaiefnabfbab
