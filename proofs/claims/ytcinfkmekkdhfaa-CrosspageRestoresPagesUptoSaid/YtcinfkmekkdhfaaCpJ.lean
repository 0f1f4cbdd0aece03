/- Cross pages: lists of lists of integers; sameLists of the laws, where they are the same. -/
import Derived.Test.YtcinfkmekkdhfaaCpI
namespace Go.Proofs.Ytcinfkmekkdhfaa
open Go.RowKit Go.Shelf
set_option linter.unusedVariables false
attribute [local go_sem] Oper.semAt_some

/-- Readable rows of integers. -/
def RdMI (w : World) (A : Option Addr) (n : Nat) (L : List (List Int)) : Prop :=
  L.length = n ∧ (0 < n → ∃ b off, A = some ⟨b, off, none⟩ ∧ b < w.heap.size ∧ ∀ i, i < n → ∃ Ai ci, w.cell? ⟨b, off + i, none⟩ = some (.slice Ai (L.getD i []).length ci) ∧ RdI w Ai (L.getD i []).length (L.getD i []))
theorem RdMI.below {w w' : World} {A : Option Addr} {n : Nat} {L : List (List Int)} (h : RdMI w A n L) (hb : Below w.heap.size w w') : RdMI w' A n L := by
  refine ⟨h.1, fun hn => ?_⟩
  obtain ⟨b, off, e, hlt, hc⟩ := h.2 hn
  refine ⟨b, off, e, Nat.lt_of_lt_of_le hlt hb.size, fun i hi => ?_⟩
  obtain ⟨Ai, ci, h1, h2⟩ := hc i hi
  exact ⟨Ai, ci, (hb.cell (p := ⟨b, off + i, none⟩) hlt).trans h1, h2.below hb⟩
theorem ints_self (A B : Option Addr) (n m c d : Nat) (a : List Int) (w : World) (ha : RdI w A n a) (hb : RdI w B m a) (hn : n ≤ 1099511627776) :
    Calls Try.prog 22 #[.slice A n c, .slice B m d] w fun e w' => e = .returned (.bool true) ∧ Below w.heap.size w w' :=
  (refInts_any A B n m c d a a w ha hb hn (by have h1 := ha.1; have h2 := hb.1; omega)).mono fun e w' ⟨h1, h2⟩ => ⟨by rw [h1]; congr 2; simp [sameI], h2⟩
set_option maxRecDepth 100000 in
set_option maxHeartbeats 2000000 in
theorem sameLists_eq (A B : Option Addr) (m c c' : Nat) (P : List (List Int)) (w : World) (hP : RdMI w A m P) (hQ : RdMI w B m P) (h1 : m ≤ 100000) (h2 : ∀ i, i < m → (P.getD i []).length ≤ 1099511627776) :
    Calls Try.prog 17 #[.slice A m c, .slice B m c'] w fun e w' => e = .returned (.bool true) ∧ Below w.heap.size w w' := by
  have HP := Lib.hid hP
  have HQ := Lib.hid hQ
  have HL := Lib.hid h2
  clear hP hQ h2
  go_enter Try.func17, Try.ntmps17
  go_wp2
  go_loopw [5] (fun i wr => ∃ k : Nat, k ≤ m ∧ i = .int .i64 k ∧ Below w.heap.size w wr) (fun i _ => m - (intOf i).toNat)
  case atStart => exact ⟨0, Nat.zero_le _, rfl, Below.refl _ _⟩
  case round =>
    obtain ⟨k, hk, rfl, hb⟩ := hrel
    have HB := Lib.hid hb
    by_cases hlt : k < m
    · obtain ⟨ba, oa, rfl, hba, hca⟩ := (HP.out.below hb).2 (by omega)
      obtain ⟨bb, ob, rfl, hbb, hcb⟩ := (HQ.out.below hb).2 (by omega)
      obtain ⟨A1, c1, e1, r1⟩ := hca k hlt
      obtain ⟨A2, c2, e2, r2⟩ := hcb k hlt
      have R1 := Lib.hid r1
      have R2 := Lib.hid r2
      have RL := Lib.hid (HL.out k hlt)
      clear hca hcb r1 r2 hb
      generalize P.getD k [] = row at *
      go_wp2
      have hx1 := fun x : Ext wr => (x.below.cell (p := ⟨ba, oa + k, none⟩) hba).trans e1
      have hx2 := fun x : Ext wr => (x.below.cell (p := ⟨bb, ob + k, none⟩) hbb).trans e2
      (refine wp_region_ext (by kernel_rfl) (by kernel_rfl) ?_; (repeat (go_big_quiet_step ((go_at_call 22; exact ext_call (ints_self _ _ _ _ _ _ row _ (R1.out.below (Ext.below _)) (R2.out.below (Ext.below _)) RL.out))))); refine wpQuiet_nil ?_; intro W5 hw'; have hW5 := ext_below hw'; clear hw')
      clear hx1 hx2
      go_wp2
      go_roundw
      case rel => first | exact ⟨k + 1, by omega, by go_num, Bw.step HB.out hW5⟩ | ((repeat apply Exists.intro); exact ⟨⟨k + 1, by omega, by go_num, Bw.step HB.out hW5⟩, rfl⟩)
      case measure => simp [intOf]; omega
    · obtain rfl : m = k := by omega
      go_wp2
      go_ret
      exact ⟨rfl, HB.out⟩
end Go.Proofs.Ytcinfkmekkdhfaa
