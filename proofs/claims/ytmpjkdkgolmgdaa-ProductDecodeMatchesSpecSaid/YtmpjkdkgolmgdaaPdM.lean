/- Product codes: the law's faults and 'transposed'. -/
import Derived.Test.YtmpjkdkgolmgdaaPdL
namespace Go.Proofs.Ytmpjkdkgolmgdaa
open Go.RowKit
set_option linter.unusedVariables false

set_option maxRecDepth 100000 in
set_option maxHeartbeats 2000000 in
theorem transposed_any (A : Option Addr) (n c R C : Nat) (b : List GF) (w : World) (hb : RdB w A n b) (hn : n = R * C) (h2 : R ≤ 32) (h4 : C ≤ 32) :
    Calls Try.prog 24 #[.slice A n c, .int .i64 (R : Int), .int .i64 (C : Int)] w fun e w' => ∃ A' c', e = .returned (.slice A' (R * C) c') ∧ OwB w' w.heap.size (.slice A' (R * C) c') (trL R C b) ∧ Below w.heap.size w w' := by
  have HB := Lib.hid hb
  have HN := Lib.hid hn
  have hlen : (trL R C b).length = R * C := by rw [trL_len, Nat.mul_comm]
  have hN : R * C ≤ 1024 := by have := (mul32 h2 h4).2; rw [← Int.natCast_mul] at this; omega
  have HTL : Hid (∀ c r, r < R → c < C → (trL R C b).take (c * R + (r + 1)) = (trL R C b).take (c * R + r) ++ [b.getD (r * C + c) 0]) := Lib.hid fun c r hr hc => by
    have hlt : c * R + r < (trL R C b).length := by rw [hlen, Nat.mul_comm R C]; exact place_lt hc hr
    rw [← Nat.add_assoc, List.take_succ_eq_append_getElem hlt]
    congr 2
    have := trL_at b hr hc
    unfold at2 at this
    rw [← this]; simp [List.getD, hlt]
  have HLE := Lib.hid hlen
  clear hb hn
  go_enter Try.func24, Try.ntmps24
  go_wp2
  go_loopw [7, 8] (fun u i wr => ∃ j : Nat, j ≤ C ∧ i = .int .i64 j ∧ OwB wr w.heap.size u ((trL R C b).take (j * R)) ∧ Below w.heap.size w wr) (fun _ i _ => C - (intOf i).toNat)
  case atStart => exact ⟨0, Nat.zero_le _, rfl, by rw [Nat.zero_mul]; exact OwB.nil _ _, Below.refl _ _⟩
  case round =>
    obtain ⟨j, hj, rfl, ho, hbw⟩ := hrel
    by_cases hlj : j < C
    · have HO := Lib.hid ho
      clear ho
      go_wp2
      go_loopw [7, 9] (fun u i wr => ∃ r : Nat, r ≤ R ∧ i = .int .i64 r ∧ OwB wr w.heap.size u ((trL R C b).take (j * R + r)) ∧ Below w.heap.size w wr) (fun _ i _ => R - (intOf i).toNat)
      case atStart => exact ⟨0, Nat.zero_le _, rfl, HO.out, hbw⟩
      case round =>
        obtain ⟨r, hr, rfl, ho, hb1⟩ := hrel
        by_cases hlr : r < R
        · have HO1 := Lib.hid ho
          have HT := Lib.hid (HTL.out j r hlr hlj)
          have hpl := place_lt hlr hlj
          obtain ⟨pb, pe⟩ := place_int (R := R) (C := C) h2 h4 hlr hlj
          have hn0 : 0 < n := by have := HN.out; omega
          obtain ⟨bb, ob, rfl, hbb, hcb⟩ := (HB.out.below hb1).2 hn0
          have hcell := hcb (r * C + j) (by rw [HN.out]; exact hpl)
          have hix : r * C + j < n := by rw [HN.out]; exact hpl
          have hl2 : ((trL R C b).take (j * R + r)).length ≤ 1024 := by rw [List.length_take, HLE.out]; omega
          have hsz := hb1.size
          have pe2 : (r : Int) * (C : Int) + (j : Int) = ((r * C + j : Nat) : Int) := pe.symm
          have pe3 : IntKind.i64.wrap ((r : Int) * (C : Int) + (j : Int)) = ((r * C + j : Nat) : Int) := by rw [IntWalk.i64_in _ (by omega)]; exact pe2
          clear ho hcb pe
          generalize (trL R C b).take (j * R + r) = L at *
          generalize r * C + j = ix at *
          generalize b.getD ix 0 = y at *
          go_wp2_with (at_builtin; refine wpList_app1 wr rfl (.tmp 20) (.tmp 29) rfl w.heap.size _ L HO1.out rfl y _ rfl (by omega) hsz ?_; intro v1 w1 ho1 hb2)
          go_roundw
          case rel => first | exact ⟨r + 1, by omega, by go_num, by (rw [HT.out]; exact ho1), hb1.trans hb2⟩ | ((repeat apply Exists.intro); exact ⟨⟨r + 1, by omega, by go_num, by (rw [HT.out]; exact ho1), hb1.trans hb2⟩, rfl⟩)
          case measure => simp [intOf]; omega
        · obtain rfl : r = R := by omega
          have HJ : Hid ((j + 1) * r = j * r + r) := Lib.hid (by rw [Nat.add_mul, Nat.one_mul])
          go_wp2
          go_roundw
          case rel => first | exact ⟨j + 1, by omega, by go_num, by (rw [HJ.out]; exact ho), hb1⟩ | ((repeat apply Exists.intro); exact ⟨⟨j + 1, by omega, by go_num, by (rw [HJ.out]; exact ho), hb1⟩, rfl⟩)
          case measure => simp [intOf]; omega
    · obtain rfl : j = C := by omega
      rw [List.take_of_length_le (by rw [HLE.out, Nat.mul_comm]; exact Nat.le_refl _)] at ho
      obtain ⟨A1, c1, e1⟩ := ho.form
      rw [HLE.out] at e1
      subst e1
      go_wp2
      go_ret
      exact ⟨A1, c1, rfl, ho, hbw⟩
end Go.Proofs.Ytmpjkdkgolmgdaa
