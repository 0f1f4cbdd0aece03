/- The contracts of the field's functions, over bytes as elements of the field; append of one byte. -/
import Derived.Test.YtnajdmkdkpmdgaaPs
import Derived.Test.YtnajdmkdkpmdgaaApp
namespace Go.Proofs.Ytnajdmkdkpmdgaa
open Go.RowKit
set_option linter.unusedVariables false

theorem GF.z_pos {x : GF} (h : x ≠ 0) : 0 < x.z := by
  have h1 := GF.z_bd x
  have h2 : x.z ≠ 0 := fun e => h (GF.z_inj.1 e)
  omega
theorem xorZ (x y : GF) : bits .xor .u8 x.z y.z = (x + y).z := by
  rw [← gA_z]; exact u8_xor _ _ (GF.z_bd x).1 (GF.z_bd x).2 (GF.z_bd y).1 (GF.z_bd y).2
theorem z_eq0 {x : GF} (h : x = 0) : (x.z == 0) = true := by subst h; rfl
theorem z_ne0 {x : GF} (h : x ≠ 0) : (x.z == 0) = false := by rw [beq_eq_false_iff_ne]; exact fun e => h (GF.z_inj.1 e)
theorem z_eq {x y : GF} (h : x = y) : (x.z == y.z) = true := by subst h; simp
theorem z_ne {x y : GF} (h : x ≠ y) : (x.z == y.z) = false := by rw [beq_eq_false_iff_ne]; exact fun e => h (GF.z_inj.1 e)

theorem wpList_app1I (w : World) {ops : Array Oper} {rest : List Oper} {o : Oper} {a : Act} {Q : Exit → Act → World → Prop} (hgd : o.guard = none) (s x : Operand)
    (ho : o.op = .call { callee := .builtin .append, args := #[s, x], argTypes := #[53, 53] }) (B : Nat)
    (v : Value) (l : List Int) (hown : OwI w B v l) (hs : a.eval s = v) (y : Int) (t : TypeId) (hx : a.eval x = .slice (some ⟨w.heap.size, 0, none⟩) 1 1)
    (hlen : l.length ≤ 1099511627000) (hbase : B ≤ w.heap.size)
    (h : ∀ v' w', OwI w' B v' (l ++ [y]) → Below B w w' → wpList Try.prog ops Q rest (a.put o.dst v') w') : wpList Try.prog ops Q (o :: rest) a (w.alloc (.cells #[.int .i64 y] t)) := by
  refine wpList_appI _ hgd s x ho B v l hs (hown.below (below_new w _)) (some ⟨w.heap.size, 0, none⟩) 1 1 [y] hx (RdI.one w y t 1) (by simp; omega) (by simp; omega) (fun v' w' h1 h2 h3 => h v' w' h1 ?_)
  exact ((below_new w _).mono hbase).trans (grown_below h2 (hown.below (below_new w _)) (by simp; omega))
end Go.Proofs.Ytnajdmkdkpmdgaa
