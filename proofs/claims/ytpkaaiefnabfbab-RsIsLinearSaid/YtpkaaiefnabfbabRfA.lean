/- Walks of the reference's polynomials: Trim, Coefficient, Sum, Product, Value, Derive. -/
import Derived.Test.YtpkaaiefnabfbabZ
import Derived.Test.YtpkaaiefnabfbabPoC
import Derived.Test.YtpkaaiefnabfbabVal
namespace Go.Proofs.Ytpkaaiefnabfbab
open Go.RowKit
set_option linter.unusedVariables false

theorem trimL_take (l : List GF) : l.take (trimL l).length = trimL l := by
  refine snoc_ind (P := fun l => l.take (trimL l).length = trimL l) rfl (fun a x ih => ?_) l
  rw [trimL_snoc]
  split
  · have := trim_len_le a
    rw [List.take_append_of_le_length this]; exact ih
  · exact List.take_of_length_le (Nat.le_refl _)
theorem trimL_step (l : List GF) {k : Nat} (hk : k < l.length) : (trimL (l.take (k + 1))).length = if l.getD k 0 = 0 then (trimL (l.take k)).length else k + 1 := by
  rw [trim_take hk, trimL_snoc]
  split
  · rfl
  · simp; omega
theorem cf_of {l : List GF} {i : Nat} (h : ¬ i < l.length) : cf l i = 0 := degB_cf l i (by omega)
set_option maxHeartbeats 1000000 in
theorem rTrim_any (A : Option Addr) (n c : Nat) (l : List GF) (w : World) (hl : RdB w A n l) (hc : n ≤ c) (hn : n ≤ 1099511627) :
    Calls Try.prog 68 #[.slice A n c] w fun e w' => ∃ A' c', e = .returned (.slice A' (trimL l).length c') ∧ OwB w' w.heap.size (.slice A' (trimL l).length c') (trimL l) ∧ Below w.heap.size w w' := by
  have HN := Lib.hid hl.1
  have HL := Lib.hid hl
  have hle := trim_len_le l
  rw [hl.1] at hle
  clear hl
  go_enter Try.func68, Try.ntmps68
  go_wp2
  go_loop [3, 4] (fun m i => ∃ k : Nat, k ≤ n ∧ i = .int .i64 k ∧ m = .int .i64 ((trimL (l.take k)).length : Nat)) (fun _ i => n - (intOf i).toNat)
  case atStart => exact ⟨0, Nat.zero_le _, rfl, rfl⟩
  case round =>
    obtain ⟨k, hk, rfl, rfl⟩ := hrel
    by_cases hlt : k < n
    · have HS := Lib.hid (trimL_step l (k := k) (by rw [HN.out]; omega))
      obtain ⟨b, off, rfl, hb, hcx⟩ := HL.out.2 (by omega)
      have hx := hcx k hlt
      by_cases hz : l.getD k 0 = 0
      · have z0 := z_eq0 hz
        have HZ := Lib.hid hz
        generalize (l.getD k 0).z = y at *
        clear hcx hz
        go_wp2
        go_round
        case rel => exact ⟨k + 1, by omega, by go_num, by rw [HS.out, if_pos HZ.out]⟩
        case measure => simp [intOf]; omega
      · have z0 := z_ne0 hz
        have HZ := Lib.hid hz
        generalize (l.getD k 0).z = y at *
        clear hcx hz
        go_wp2
        go_round
        case rel => exact ⟨k + 1, by omega, by go_num, by rw [HS.out, if_neg HZ.out]; go_num⟩
        case measure => simp [intOf]; omega
    · obtain rfl : k = n := by omega
      have e1 : l.take k = l := List.take_of_length_le (by rw [HN.out]; exact Nat.le_refl _)
      rw [e1]
      have HT := Lib.hid (HL.out.take (k := (trimL l).length) hle)
      rw [trimL_take] at HT
      clear e1
      go_wp2_with (at_builtin; refine wpList_appB _ rfl (.tmp 19) (.tmp 22) rfl w.heap.size (.slice none 0 0) [] rfl (OwB.nil _ _) A (trimL l).length c (trimL l) rfl HT.out ?_ ?_ ?_; (simp; omega); (exact Nat.le_refl _); intro v1 w1 ho1 hg1 hat1)
      rw [List.nil_append] at ho1
      obtain ⟨A1, c1, rfl⟩ := ho1.form
      go_ret
      exact ⟨A1, c1, rfl, ho1, grown_below hg1 (OwB.nil w w.heap.size) (Nat.le_refl _)⟩
set_option maxHeartbeats 1000000 in
theorem rCoef_any (A : Option Addr) (n c : Nat) (l : List GF) (i : Nat) (w : World) (hl : RdB w A n l) (hn : n ≤ 1099511627) (hi : i ≤ 1099511627) :
    Calls Try.prog 44 #[.slice A n c, .int .i64 (i : Int)] w fun e w' => e = .returned (.int .u8 (cf l i).z) ∧ w = w' := by
  have HN := Lib.hid hl.1
  by_cases h : i < n
  · obtain ⟨b, off, rfl, hb, hcx⟩ := hl.2 (by omega)
    have hx : w.cell? ⟨b, off + i, none⟩ = some (.int .u8 (cf l i).z) := hcx i h
    clear hcx hl
    generalize (cf l i).z = y at *
    go_enter Try.func44, Try.ntmps44
    go_wp2
    go_ret
    exact ⟨rfl, rfl⟩
  · rw [cf_of (by rw [HN.out]; exact h)]
    clear hl
    go_enter Try.func44, Try.ntmps44
    go_wp2
    go_ret
    exact ⟨rfl, rfl⟩
def sumUp (a b : List GF) (k : Nat) : List GF := (List.range k).map (padd (cf a) (cf b))
theorem sumUp_succ (a b : List GF) (k : Nat) : sumUp a b (k + 1) = sumUp a b k ++ [cf a k + cf b k] := by simp [sumUp, List.range_succ]; rfl
theorem sumUp_len (a b : List GF) (k : Nat) : (sumUp a b k).length = k := by simp [sumUp]
end Go.Proofs.Ytpkaaiefnabfbab
