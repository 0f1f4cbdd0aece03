/- Cross pages: what is not known of a page. -/
import Derived.Test.YtcinfkmekkdhfaaCpM
namespace Go.Proofs.Ytcinfkmekkdhfaa
open Go.RowKit Go.Shelf
set_option linter.unusedVariables false
attribute [local go_sem] Oper.semAt_some

/-- A page's byte is not known. -/
def unkP (P : List (List GF)) (Z : List (List Int)) (k i : Nat) : Prop := (P.getD k []).length = 0 ∨ (i : Int) ∈ Z.getD k []
instance (P : List (List GF)) (Z : List (List Int)) (k i : Nat) : Decidable (unkP P Z k i) := by unfold unkP; exact inferInstance
set_option maxRecDepth 100000 in
set_option maxHeartbeats 2000000 in
theorem unknown_any (B1 B2 : Nat) (A B : Option Addr) (m c c' k i : Nat) (P : List (List GF)) (Z : List (List Int)) (w : World) (hP : RdM w A m P) (hZ : RdMI w B m Z) (h1 : w.cell? ⟨B1, 0, none⟩ = some (.slice A m c)) (h2 : w.cell? ⟨B2, 0, none⟩ = some (.slice B m c')) (hk : k < m) (hl : (Z.getD k []).length ≤ 100000) :
    Calls Try.prog 30 #[.int .i64 k, .int .i64 i, .pointer (some ⟨B1, 0, none⟩), .pointer (some ⟨B2, 0, none⟩)] w fun e w' => e = .returned (.bool (decide (unkP P Z k i))) ∧ Below w.heap.size w w' := by
  obtain ⟨ba, oa, rfl, hba, hca⟩ := hP.2 (by omega)
  obtain ⟨bb, ob, rfl, hbb, hcb⟩ := hZ.2 (by omega)
  obtain ⟨A1, c1, e1, r1⟩ := hca k hk
  obtain ⟨A2, c2, e2, r2⟩ := hcb k hk
  have R2 := Lib.hid r2
  clear hP hZ hca hcb r1 r2
  have f1 : Hid ((P.getD k []).length = 0 → decide (unkP P Z k i) = true) := Lib.hid fun h => decide_eq_true (.inl h)
  have f2 : Hid (¬ (P.getD k []).length = 0 → decide (unkP P Z k i) = decide ((i : Int) ∈ Z.getD k [])) := Lib.hid fun h => decide_eq_decide.2 ⟨fun h' => h'.resolve_left h, .inr⟩
  generalize decide (unkP P Z k i) = d at *
  generalize (P.getD k []).length = q at *
  generalize Z.getD k [] = lz at *
  by_cases h0 : q = 0
  · subst h0
    have hd := f1.out rfl
    subst hd
    clear f1 f2
    go_enter Try.func30, Try.ntmps30
    go_wp2
    go_ret
    exact ⟨rfl, Below.refl _ _⟩
  · have hq : ((q : Int) == 0) = false := by rw [beq_eq_false_iff_ne]; omega
    have hd := f2.out h0
    subst hd
    clear f1 f2 h0
    go_enter Try.func30, Try.ntmps30
    go_wp2_with (go_at_call 31; refine (contains_any _ _ _ lz _ _ R2.out hl).mono ?_; rintro e w' ⟨rfl, hb⟩)
    go_ret
    exact ⟨rfl, hb⟩
end Go.Proofs.Ytcinfkmekkdhfaa
