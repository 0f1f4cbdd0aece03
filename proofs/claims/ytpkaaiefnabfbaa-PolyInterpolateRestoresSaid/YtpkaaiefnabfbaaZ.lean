/- The contracts of the field's functions, over bytes as elements of the field; append of one byte. -/
import Derived.Test.YtpkaaiefnabfbaaPs
import Derived.Test.YtpkaaiefnabfbaaApp
namespace Go.Proofs.Ytpkaaiefnabfbaa
open Go.RowKit
set_option linter.unusedVariables false

theorem gAddZ (x y : GF) (w : World) : Calls Try.prog 28 #[.int .u8 x.z, .int .u8 y.z] w fun e w' => e = .returned (.int .u8 (x + y).z) ∧ w = w' := by
  rw [← gA_z]; exact gfAdd_any _ _ _ (GF.z_bd x) (GF.z_bd y)
theorem gMulZ (x y : GF) (w : World) : Calls Try.prog 27 #[.int .u8 x.z, .int .u8 y.z] w fun e w' => e = .returned (.int .u8 (x * y).z) ∧ w = w' := by
  rw [← gM_z]; exact gfMul_any _ _ _ (GF.z_bd x) (GF.z_bd y)
theorem GF.z_pos {x : GF} (h : x ≠ 0) : 0 < x.z := by
  have h1 := GF.z_bd x
  have h2 : x.z ≠ 0 := fun e => h (GF.z_inj.1 e)
  omega
theorem gInvZ (x : GF) (w : World) (h : x ≠ 0) : Calls Try.prog 43 #[.int .u8 x.z] w fun e w' => e = .returned (.tuple #[.int .u8 x.inv.z, .agg #[.int .i64 0, .int .i64 0]]) ∧ Below w.heap.size w w' := by
  rw [← gI_z]; exact gfInverse_any _ _ ⟨GF.z_pos h, (GF.z_bd x).2⟩
theorem gDivZ (x y : GF) (w : World) (h : y ≠ 0) : Calls Try.prog 49 #[.int .u8 x.z, .int .u8 y.z] w fun e w' => e = .returned (.tuple #[.int .u8 (x * y.inv).z, .agg #[.int .i64 0, .int .i64 0]]) ∧ Below w.heap.size w w' := by
  rw [← gM_z, ← gI_z]; exact gfDiv_any _ _ _ (GF.z_bd x) ⟨GF.z_pos h, (GF.z_bd y).2⟩
theorem gDivZ0 (x y : GF) (w : World) (h : y = 0) : Calls Try.prog 49 #[.int .u8 x.z, .int .u8 y.z] w fun e w' => e = .returned (.tuple #[.int .u8 0, .agg #[.int .i64 26, .int .i64 (-2)]]) ∧ Below w.heap.size w w' := by
  subst h; exact gfDiv_zero _ _ _ rfl
theorem rMulZ (x y : GF) (w : World) : Calls Try.prog 40 #[.int .u8 x.z, .int .u8 y.z] w fun e w' => e = .returned (.int .u8 (x * y).z) ∧ w = w' := by
  rw [← gM_z]; exact refMul_any _ _ _ (GF.z_bd x) (GF.z_bd y)
theorem rInvZ (x : GF) (w : World) (h : x ≠ 0) : Calls Try.prog 41 #[.int .u8 x.z] w fun e w' => e = .returned (.int .u8 x.inv.z) ∧ w = w' := by
  rw [← gI_z]; exact refInverse_any _ _ ⟨GF.z_pos h, (GF.z_bd x).2⟩
theorem xorZ (x y : GF) : bits .xor .u8 x.z y.z = (x + y).z := by
  rw [← gA_z]; exact u8_xor _ _ (GF.z_bd x).1 (GF.z_bd x).2 (GF.z_bd y).1 (GF.z_bd y).2
theorem z_eq0 {x : GF} (h : x = 0) : (x.z == 0) = true := by subst h; rfl
theorem z_ne0 {x : GF} (h : x ≠ 0) : (x.z == 0) = false := by rw [beq_eq_false_iff_ne]; exact fun e => h (GF.z_inj.1 e)
theorem z_eq {x y : GF} (h : x = y) : (x.z == y.z) = true := by subst h; simp
theorem z_ne {x y : GF} (h : x ≠ y) : (x.z == y.z) = false := by rw [beq_eq_false_iff_ne]; exact fun e => h (GF.z_inj.1 e)

/-- append of one byte onto a slice of the call's own. -/
theorem wpList_app1 (w : World) {ops : Array Oper} {rest : List Oper} {o : Oper} {a : Act} {Q : Exit → Act → World → Prop} (hgd : o.guard = none) (s x : Operand)
    (ho : o.op = .call { callee := .builtin .append, args := #[s, x], argTypes := #[22, 22] }) (B : Nat)
    (v : Value) (l : List GF) (hown : OwB w B v l) (hs : a.eval s = v) (y : GF) (t : TypeId) (hx : a.eval x = .slice (some ⟨w.heap.size, 0, none⟩) 1 1)
    (hlen : l.length ≤ 1099511627000) (hbase : B ≤ w.heap.size)
    (h : ∀ v' w', OwB w' B v' (l ++ [y]) → Below B w w' → wpList Try.prog ops Q rest (a.put o.dst v') w') : wpList Try.prog ops Q (o :: rest) a (w.alloc (.cells #[.int .u8 y.z] t)) := by
  refine wpList_appB _ hgd s x ho B v l hs (hown.below (below_new w _)) (some ⟨w.heap.size, 0, none⟩) 1 1 [y] hx (RdB.one w y t 1) (by simp; omega) (by simp; omega) (fun v' w' h1 h2 h3 => h v' w' h1 ?_)
  exact ((below_new w _).mono hbase).trans (grown_below h2 (hown.below (below_new w _)) (by simp; omega))
end Go.Proofs.Ytpkaaiefnabfbaa
