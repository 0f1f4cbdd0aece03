/- A region that draws its order, whose operations read memory that was there and whose callees make new memory alone: one walk in the order of the text serves every order. -/
import Derived.Test.YtnajdmkdkpmdgaaGfA
import Derived.Deep.QuietTactic
import Derived.BigQuiet
namespace Go.Proofs.Ytnajdmkdkpmdgaa
open Go.RowKit

/-- The worlds in which whatever lies in w lies as in w. -/
def Ext (w : World) : Type := { v : World // Below w.heap.size w v }
instance (w : World) : Nonempty (Ext w) := ⟨⟨w, Below.refl _ w⟩⟩
def Ext.w {w : World} (x : Ext w) : World := x.1
theorem Ext.below {w : World} (x : Ext w) : Below w.heap.size w x.w := x.2

theorem ext_below {w w' : World} (h : ∃ x : Ext w, w' = x.w) : Below w.heap.size w w' := by
  obtain ⟨x, rfl⟩ := h; exact x.below
theorem wp_region_ext {P : Program} {id : Nat} {Q : Exit → Act → World → Prop} {a : Act} {w : World} {l : List Oper} (hm : P.follows .mixedOrders = true) (hB : Region.lexB .any l.toArray = true)
    (h : wpQuiet P l.toArray (fun w' => ∃ x : Ext w, w' = x.w) (fun a' => ∀ w', (∃ x : Ext w, w' = x.w) → Q .normal a' w') l a) : (Code.region id l.toArray true).wp P Q a w :=
  wp_region_quiet (C := fun w' => ∃ x : Ext w, w' = x.w) hm hB ⟨⟨_, (Below.refl _ w).drew⟩, rfl⟩ (by simpa using h)

theorem ext_call {P : Program} {f : FuncId} {args : Array Value} {w : World} {x : Ext w} {v : Value}
    (h : Calls P f args x.w fun e w' => e = .returned v ∧ Below x.w.heap.size x.w w') : Calls P f args x.w fun e w'' => e = .returned v ∧ ∃ y : Ext w, w'' = y.w :=
  h.mono fun _ w' ⟨he, hm⟩ => ⟨he, ⟨w', Bw.step x.below hm⟩, rfl⟩
theorem ext_same {P : Program} {f : FuncId} {args : Array Value} {w : World} {x : Ext w} {v : Value}
    (h : Calls P f args x.w fun e w' => e = .returned v ∧ x.w = w') : Calls P f args x.w fun e w'' => e = .returned v ∧ ∃ y : Ext w, w'' = y.w :=
  h.mono fun _ _ ⟨he, hm⟩ => ⟨he, x, hm.symm⟩
theorem ext_alloc {P : Program} {f : FuncId} {args : Array Value} {w : World} {x : Ext w} {v : Value} {o : Obj}
    (h : Calls P f args x.w fun e w' => e = .returned v ∧ x.w.alloc o = w') : Calls P f args x.w fun e w'' => e = .returned v ∧ ∃ y : Ext w, w'' = y.w :=
  ext_call (h.mono fun _ _ ⟨he, hm⟩ => ⟨he, hm ▸ below_new _ _⟩)
theorem Has.ext {w : World} {b : Nat} {c i : Int} (h : Has w b c i) (x : Ext w) : x.w.cell? ⟨b, 0, none⟩ = some (.int .i64 c) ∧ x.w.cell? ⟨b, 1, none⟩ = some (.int .i64 i) :=
  ⟨(h.below x.below).2.1, (h.below x.below).2.2.1⟩
end Go.Proofs.Ytnajdmkdkpmdgaa
