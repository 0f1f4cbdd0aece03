/- Cross pages: samePages of the laws, where they are the same. -/
import Derived.Test.YtcinfkmekkdhfaaCpH
namespace Go.Proofs.Ytcinfkmekkdhfaa
open Go.RowKit Go.Shelf
set_option linter.unusedVariables false
attribute [local go_sem] Oper.semAt_some

theorem same_self (A B : Option Addr) (n m c d : Nat) (a : List GF) (w : World) (ha : RdB w A n a) (hb : RdB w B m a) :
    Calls Try.prog 20 #[.slice A n c, .slice B m d] w fun e w' => e = .returned (.bool true) ∧ w = w' :=
  (refSame_any A B n m c d a a w ha hb).mono fun e w' ⟨h1, h2⟩ => ⟨by rw [h1]; congr 2; simp [sameB], h2⟩
set_option maxRecDepth 100000 in
set_option maxHeartbeats 2000000 in
theorem samePages_eq (A B : Option Addr) (m c c' : Nat) (P : List (List GF)) (w : World) (hP : RdM w A m P) (hQ : RdM w B m P) (h1 : m ≤ 100000) :
    Calls Try.prog 12 #[.slice A m c, .slice B m c'] w fun e w' => e = .returned (.bool true) ∧ Below w.heap.size w w' := by
  have HP := Lib.hid hP
  have HQ := Lib.hid hQ
  clear hP hQ
  go_enter Try.func12, Try.ntmps12
  go_wp2
  go_loopw [5] (fun i wr => ∃ k : Nat, k ≤ m ∧ i = .int .i64 k ∧ Below w.heap.size w wr) (fun i _ => m - (intOf i).toNat)
  case atStart => exact ⟨0, Nat.zero_le _, rfl, Below.refl _ _⟩
  case round =>
    obtain ⟨k, hk, rfl, hb⟩ := hrel
    have HB := Lib.hid hb
    by_cases hlt : k < m
    · obtain ⟨ba, oa, rfl, hba, hca⟩ := (HP.out.below hb).2 (by omega)
      obtain ⟨bb, ob, rfl, hbb, hcb⟩ := (HQ.out.below hb).2 (by omega)
      obtain ⟨A1, c1, e1, r1⟩ := hca k hlt
      obtain ⟨A2, c2, e2, r2⟩ := hcb k hlt
      have R1 := Lib.hid r1
      have R2 := Lib.hid r2
      clear hca hcb r1 r2 hb
      generalize P.getD k [] = row at *
      go_wp2
      have hx1 := fun x : Ext wr => (x.below.cell (p := ⟨ba, oa + k, none⟩) hba).trans e1
      have hx2 := fun x : Ext wr => (x.below.cell (p := ⟨bb, ob + k, none⟩) hbb).trans e2
      (refine wp_region_ext (by kernel_rfl) (by kernel_rfl) ?_; (repeat (go_big_quiet_step ((go_at_call 20; exact ext_same (same_self _ _ _ _ _ _ row _ (R1.out.below (Ext.below _)) (R2.out.below (Ext.below _))))))); refine wpQuiet_nil ?_; intro W5 hw'; have hW5 := ext_below hw'; clear hw')
      clear hx1 hx2
      go_wp2
      go_roundw
      case rel => first | exact ⟨k + 1, by omega, by go_num, Bw.step HB.out hW5⟩ | ((repeat apply Exists.intro); exact ⟨⟨k + 1, by omega, by go_num, Bw.step HB.out hW5⟩, rfl⟩)
      case measure => simp [intOf]; omega
    · obtain rfl : m = k := by omega
      go_wp2
      go_ret
      exact ⟨rfl, HB.out⟩
end Go.Proofs.Ytcinfkmekkdhfaa
