/- Product codes: walks of the reference's row, column, BlockIs. -/
import Derived.Test.YtmpjkdkgolmgdaaPdG
namespace Go.Proofs.Ytmpjkdkgolmgdaa
open Go.RowKit
set_option linter.unusedVariables false

theorem row_take {R C r : Nat} {b : List GF} (hl : b.length = R * C) (hr : r < R) : (b.drop (r * C)).take C = rowW C b r := by
  have h1 : r * C + C ≤ R * C := by have := Nat.mul_le_mul_right C hr; rw [Nat.succ_mul] at this; exact this
  refine eq_of_getD (by unfold rowW; rw [lineF_len, List.length_take, List.length_drop]; omega) fun i hi => ?_
  rw [List.length_take, List.length_drop] at hi
  unfold rowW
  rw [lineF_get (by omega)]
  unfold at2
  simp [List.getD, show i < C by omega]
set_option maxHeartbeats 2000000 in
theorem rRow_any (A : Option Addr) (n c R C p q r : Nat) (b : List GF) (w : World) (hb : RdB w A n b) (hnc : n ≤ c) (hn : n = R * C) (h2 : R ≤ 32) (h3 : 1 ≤ C) (h4 : C ≤ 32) (hr : r < R) :
    Calls Try.prog 47 #[.slice A n c, shpV R C p q, .int .i64 (r : Int)] w fun e w' => ∃ A' c', e = .returned (.slice A' C c') ∧ OwB w' w.heap.size (.slice A' C c') (rowW C b r) ∧ Below w.heap.size w w' := by
  have hN : n ≤ 1024 := by have := (mul32 h2 h4).2; rw [← Int.natCast_mul, ← hn] at this; omega
  have h1 : r * C + C ≤ R * C := by have := Nat.mul_le_mul_right C hr; rw [Nat.succ_mul] at this; exact this
  obtain ⟨ba, oa, rfl, hla, _⟩ := hb.2 (by omega)
  have HSL := fun w => run_midB ba oa n c (r * C) ((r + 1) * C) (by rw [Nat.add_mul, Nat.one_mul]; omega) (by rw [Nat.add_mul, Nat.one_mul]; omega) hnc w
  have hw : (r + 1) * C - r * C = C := by rw [Nat.add_mul, Nat.one_mul]; omega
  rw [hw] at HSL
  have ek1 : ((r * C : Nat) : Int) = (r : Int) * (C : Int) := Int.natCast_mul _ _
  have ek2 : (((r + 1) * C : Nat) : Int) = ((r : Int) + 1) * (C : Int) := by rw [Int.natCast_mul, Int.natCast_add]; rfl
  have hm0 : (r + 1) * C ≤ 1024 := by rw [Nat.add_mul, Nat.one_mul]; omega
  have hm1 : 0 ≤ (r : Int) * (C : Int) ∧ (r : Int) * (C : Int) ≤ 1024 := by omega
  have hm2 : 0 ≤ ((r : Int) + 1) * (C : Int) ∧ ((r : Int) + 1) * (C : Int) ≤ 1024 := by omega
  have RW : Hid (RdB (w.alloc (shpC R C p q)) (some ⟨ba, oa + r * C, none⟩) C (rowW C b r)) := Lib.hid (by
    rw [← row_take (by rw [hb.1, hn]) hr]
    exact ((hb.al _).drop (r * C)).take (by omega))
  have hrl : (rowW C b r).length = C := by unfold rowW; rw [lineF_len]
  rw [ek1, ek2] at HSL
  obtain ⟨lo, hlo⟩ : ∃ lo, r * C = lo := ⟨_, rfl⟩
  rw [hlo] at HSL RW
  have HSL := Lib.hid HSL
  clear ek1 ek2 hw h1 hm0 hb hn hlo hnc
  have hq : ([] : List GF).length + (rowW C b r).length ≤ 1099511627776 := by rw [hrl, List.length_nil]; omega
  have hzb : w.heap.size ≤ (w.alloc (shpC R C p q)).heap.size := by simp
  have HSL := HSL.out
  go_enter Try.func47, Try.ntmps47
  go_wp2_with (at_builtin; refine wpList_appB (w.alloc (shpC R C p q)) rfl (.tmp 8) (.tmp 19) rfl w.heap.size (.slice none 0 0) [] rfl (OwB.nil _ _) _ C _ (rowW C b r) rfl RW.out hq hzb ?_; intro v1 w1 ho1 hg1 hat1)
  obtain ⟨A1, c1, rfl⟩ := ho1.form
  rw [List.nil_append] at ho1
  have hbw := grown_below hg1 (OwB.nil _ w.heap.size) (by simp)
  rw [List.nil_append, hrl] at *
  go_ret
  exact ⟨A1, c1, rfl, ho1, (below_new w (shpC R C p q)).trans hbw⟩
end Go.Proofs.Ytmpjkdkgolmgdaa
