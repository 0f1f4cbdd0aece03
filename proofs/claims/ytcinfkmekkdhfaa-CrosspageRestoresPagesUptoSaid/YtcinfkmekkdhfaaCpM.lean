/- Cross pages: slices.Contains over integers. -/
import Derived.Test.YtcinfkmekkdhfaaCpL
namespace Go.Proofs.Ytcinfkmekkdhfaa
open Go.RowKit Go.Shelf
set_option linter.unusedVariables false
attribute [local go_sem] Oper.semAt_some

set_option maxRecDepth 100000 in
set_option maxHeartbeats 2000000 in
theorem index_any (A : Option Addr) (n c : Nat) (l : List Int) (x : Int) (w : World) (hl : RdI w A n l) (hn : n ≤ 100000) :
    Calls Try.prog 47 #[.slice A n c, .int .i64 x] w fun e w' => ∃ j : Int, e = .returned (.int .i64 j) ∧ (0 ≤ j ↔ x ∈ l) ∧ Below w.heap.size w w' := by
  have ll := hl.1
  have HL := Lib.hid hl
  clear hl
  go_enter Try.func47, Try.ntmps47
  go_wp2
  go_loopw [8] (fun i wr => ∃ k : Nat, k ≤ n ∧ i = .int .i64 k ∧ (∀ t, t < k → l.getD t 0 ≠ x) ∧ Below w.heap.size w wr) (fun i _ => n - (intOf i).toNat)
  case atStart => exact ⟨0, Nat.zero_le _, rfl, fun t ht => absurd ht (Nat.not_lt_zero t), Below.refl _ _⟩
  case round =>
    obtain ⟨k, hk, rfl, hx, hb⟩ := hrel
    have HW := Lib.hid hb
    have HX := Lib.hid hx
    by_cases hlt : k < n
    · obtain ⟨ba, oa, rfl, hba, hca⟩ := (HL.out.below hb).2 (by omega)
      have e1 := hca k hlt
      have HE : Hid (l.getD k 0 = x → x ∈ l) := Lib.hid fun e => by
        rw [← e]
        have : l.getD k 0 = l[k]'(by omega) := by simp [List.getD, show k < l.length by omega]
        rw [this]
        exact List.getElem_mem _
      clear hca hx hb
      generalize hy : l.getD k 0 = y at *
      by_cases h : y = x
      · subst h
        have hm := HE.out rfl
        have hm2 : Hid ((0 : Int) ≤ (k : Int) ↔ y ∈ l) := Lib.hid (by simp [hm])
        clear hm
        go_wp2
        go_ret
        exact ⟨_, rfl, hm2.out, HW.out⟩
      · have h' : (y == x) = false := by rw [beq_eq_false_iff_ne]; exact h
        have HN : Hid (∀ t, t < k + 1 → l.getD t 0 ≠ x) := Lib.hid fun t ht => by
          by_cases e : t < k
          · exact HX.out t e
          · obtain rfl : t = k := by omega
            rw [hy]; exact h
        clear hy
        go_wp2
        go_roundw
        case rel => exact ⟨k + 1, by omega, by go_num, HN.out, HW.out⟩
        case measure => simp [intOf]; omega
    · obtain rfl : n = k := by omega
      have hm : Hid ((0 : Int) ≤ -1 ↔ x ∈ l) := Lib.hid (by
        have : x ∉ l := fun hmem => by
          obtain ⟨i, hi, he⟩ := List.getElem_of_mem hmem
          exact HX.out i (by omega) (by rw [← he]; simp [List.getD, hi])
        simp [this])
      clear hx hb
      go_wp2
      go_ret
      exact ⟨_, rfl, hm.out, HW.out⟩
set_option maxRecDepth 100000 in
theorem contains_any (A : Option Addr) (n c : Nat) (l : List Int) (x : Int) (w : World) (hl : RdI w A n l) (hn : n ≤ 100000) :
    Calls Try.prog 31 #[.slice A n c, .int .i64 x] w fun e w' => e = .returned (.bool (decide (x ∈ l))) ∧ Below w.heap.size w w' := by
  go_enter Try.func31, Try.ntmps31
  go_wp2_with (go_at_call 47; refine (index_any A n c l x w hl hn).mono ?_; rintro e w' ⟨j, rfl, hj, hb⟩)
  go_ret
  exact ⟨by rw [show decide (x ∈ l) = decide (0 ≤ j) from decide_eq_decide.2 hj.symm]; rfl, hb⟩
end Go.Proofs.Ytcinfkmekkdhfaa
