/- Walks of the reference's polynomials: Trim, Coefficient, Sum, Product, Value, Derive. -/
import Derived.Test.YtpkaaiefnabfbaaZ
import Derived.Test.YtpkaaiefnabfbaaPoC
import Derived.Test.YtpkaaiefnabfbaaVal
namespace Go.Proofs.Ytpkaaiefnabfbaa
open Go.RowKit
set_option linter.unusedVariables false

theorem trimL_take (l : List GF) : l.take (trimL l).length = trimL l := by
  refine snoc_ind (P := fun l => l.take (trimL l).length = trimL l) rfl (fun a x ih => ?_) l
  rw [trimL_snoc]
  split
  · have := trim_len_le a
    rw [List.take_append_of_le_length this]; exact ih
  · exact List.take_of_length_le (Nat.le_refl _)
theorem trimL_step (l : List GF) {k : Nat} (hk : k < l.length) : (trimL (l.take (k + 1))).length = if l.getD k 0 = 0 then (trimL (l.take k)).length else k + 1 := by
  rw [trim_take hk, trimL_snoc]
  split
  · rfl
  · simp; omega
theorem cf_of {l : List GF} {i : Nat} (h : ¬ i < l.length) : cf l i = 0 := degB_cf l i (by omega)
set_option maxHeartbeats 1000000 in
theorem rTrim_any (A : Option Addr) (n c : Nat) (l : List GF) (w : World) (hl : RdB w A n l) (hc : n ≤ c) (hn : n ≤ 1099511627) :
    Calls Try.prog 15 #[.slice A n c] w fun e w' => ∃ A' c', e = .returned (.slice A' (trimL l).length c') ∧ OwB w' w.heap.size (.slice A' (trimL l).length c') (trimL l) ∧ Below w.heap.size w w' := by
  have HN := Lib.hid hl.1
  have HL := Lib.hid hl
  have hle := trim_len_le l
  rw [hl.1] at hle
  clear hl
  go_enter Try.func15, Try.ntmps15
  go_wp2
  go_loop [3, 4] (fun m i => ∃ k : Nat, k ≤ n ∧ i = .int .i64 k ∧ m = .int .i64 ((trimL (l.take k)).length : Nat)) (fun _ i => n - (intOf i).toNat)
  case atStart => exact ⟨0, Nat.zero_le _, rfl, rfl⟩
  case round =>
    obtain ⟨k, hk, rfl, rfl⟩ := hrel
    by_cases hlt : k < n
    · have HS := Lib.hid (trimL_step l (k := k) (by rw [HN.out]; omega))
      obtain ⟨b, off, rfl, hb, hcx⟩ := HL.out.2 (by omega)
      have hx := hcx k hlt
      by_cases hz : l.getD k 0 = 0
      · have z0 := z_eq0 hz
        have HZ := Lib.hid hz
        generalize (l.getD k 0).z = y at *
        clear hcx hz
        go_wp2
        go_round
        case rel => exact ⟨k + 1, by omega, by go_num, by rw [HS.out, if_pos HZ.out]⟩
        case measure => simp [intOf]; omega
      · have z0 := z_ne0 hz
        have HZ := Lib.hid hz
        generalize (l.getD k 0).z = y at *
        clear hcx hz
        go_wp2
        go_round
        case rel => exact ⟨k + 1, by omega, by go_num, by rw [HS.out, if_neg HZ.out]; go_num⟩
        case measure => simp [intOf]; omega
    · obtain rfl : k = n := by omega
      have e1 : l.take k = l := List.take_of_length_le (by rw [HN.out]; exact Nat.le_refl _)
      rw [e1]
      have HT := Lib.hid (HL.out.take (k := (trimL l).length) hle)
      rw [trimL_take] at HT
      clear e1
      go_wp2_with (at_builtin; refine wpList_appB _ rfl (.tmp 19) (.tmp 22) rfl w.heap.size (.slice none 0 0) [] rfl (OwB.nil _ _) A (trimL l).length c (trimL l) rfl HT.out ?_ ?_ ?_; (simp; omega); (exact Nat.le_refl _); intro v1 w1 ho1 hg1 hat1)
      rw [List.nil_append] at ho1
      obtain ⟨A1, c1, rfl⟩ := ho1.form
      go_ret
      exact ⟨A1, c1, rfl, ho1, grown_below hg1 (OwB.nil w w.heap.size) (Nat.le_refl _)⟩
set_option maxHeartbeats 1000000 in
theorem rCoef_any (A : Option Addr) (n c : Nat) (l : List GF) (i : Nat) (w : World) (hl : RdB w A n l) (hn : n ≤ 1099511627) (hi : i ≤ 1099511627) :
    Calls Try.prog 42 #[.slice A n c, .int .i64 (i : Int)] w fun e w' => e = .returned (.int .u8 (cf l i).z) ∧ w = w' := by
  have HN := Lib.hid hl.1
  by_cases h : i < n
  · obtain ⟨b, off, rfl, hb, hcx⟩ := hl.2 (by omega)
    have hx : w.cell? ⟨b, off + i, none⟩ = some (.int .u8 (cf l i).z) := hcx i h
    clear hcx hl
    generalize (cf l i).z = y at *
    go_enter Try.func42, Try.ntmps42
    go_wp2
    go_ret
    exact ⟨rfl, rfl⟩
  · rw [cf_of (by rw [HN.out]; exact h)]
    clear hl
    go_enter Try.func42, Try.ntmps42
    go_wp2
    go_ret
    exact ⟨rfl, rfl⟩
def sumUp (a b : List GF) (k : Nat) : List GF := (List.range k).map (padd (cf a) (cf b))
theorem sumUp_succ (a b : List GF) (k : Nat) : sumUp a b (k + 1) = sumUp a b k ++ [cf a k + cf b k] := by simp [sumUp, List.range_succ]; rfl
theorem sumUp_len (a b : List GF) (k : Nat) : (sumUp a b k).length = k := by simp [sumUp]
set_option maxHeartbeats 1000000 in
theorem rSum_any (A B : Option Addr) (n m c d : Nat) (a b : List GF) (w : World) (ha : RdB w A n a) (hb : RdB w B m b) (hn : n ≤ 1099511) (hm : m ≤ 1099511) :
    Calls Try.prog 20 #[.slice A n c, .slice B m d] w fun e w' => ∃ A' c', e = .returned (.slice A' (sumP a b).length c') ∧ OwB w' w.heap.size (.slice A' (sumP a b).length c') (sumP a b) ∧ Below w.heap.size w w' := by
  have la := ha.1
  have lb := hb.1
  subst la lb
  have HA := Lib.hid ha
  have HB := Lib.hid hb
  clear ha hb
  go_enter Try.func20, Try.ntmps20
  go_wp2
  go_loopw [5, 6] (fun v i wr => ∃ k : Nat, k ≤ max a.length b.length ∧ i = .int .i64 k ∧ OwB wr w.heap.size v (sumUp a b k) ∧ Below w.heap.size w wr) (fun _ i _ => max a.length b.length - (intOf i).toNat)
  case atStart => exact ⟨0, Nat.zero_le _, rfl, OwB.nil _ _, Below.refl _ _⟩
  case round =>
    obtain ⟨k, hk, rfl, ho, hbw⟩ := hrel
    by_cases hlt : k < max a.length b.length
    · have RA := Lib.hid (HA.out.below hbw)
      have RB := Lib.hid (HB.out.below hbw)
      have HO := Lib.hid ho
      have hsz := hbw.size
      have hl := sumUp_len a b k
      have HS := Lib.hid (sumUp_succ a b k)
      have xz := xorZ (cf a k) (cf b k)
      generalize hL : sumUp a b k = L at *
      have HL2 := Lib.hid hL
      have hk2 : L.length ≤ 1099511627000 := by omega
      clear ho hL hl
      by_cases h1 : k < a.length
      all_goals
        first
          | (have d1 : decide ((k : Int) < a.length) = true := by simp only [decide_eq_true_eq]; omega)
          | (have d1 : decide ((k : Int) < a.length) = false := by simp only [decide_eq_false_iff_not]; omega
             have d2 : decide ((k : Int) < b.length) = true := by simp only [decide_eq_true_eq]; omega)
        go_wp2_with (first
          | (go_at_call 42; (with_reducible refine (rCoef_any A a.length c a k _ RA.out (by omega) (by omega)).mono ?_); rintro e w' ⟨rfl, rfl⟩)
          | (go_at_call 42; (with_reducible refine (rCoef_any B b.length d b k _ RB.out (by omega) (by omega)).mono ?_); rintro e w' ⟨rfl, rfl⟩)
          | (at_builtin; refine wpList_app1 wr rfl (.tmp 19) (.tmp 27) rfl w.heap.size _ L HO.out rfl (cf a k + cf b k) _ rfl hk2 hsz ?_; intro v1 w1 ho1 hb1))
        have hb2 := hbw.trans hb1
        go_wp2
        go_roundw
        case rel => exact ⟨k + 1, by omega, by go_num, by rw [HS.out]; exact ho1, hb2⟩
        case measure => simp [intOf]; omega
    · obtain rfl : k = max a.length b.length := by omega
      have hl := sumUp_len a b (max a.length b.length)
      obtain ⟨A1, c1, rfl⟩ := ho.form
      have HT := Lib.hid (rTrim_any _ _ _ _ _ ho.rd.1 ho.cap.1 (by omega))
      rw [show trimL (sumUp a b (max a.length b.length)) = sumP a b from rfl] at HT
      have d1 : decide (((max a.length b.length : Nat) : Int) < a.length) = false := by simp only [decide_eq_false_iff_not]; omega
      have d2 : decide (((max a.length b.length : Nat) : Int) < b.length) = false := by simp only [decide_eq_false_iff_not]; omega
      generalize ((max a.length b.length : Nat) : Int) = N at *
      clear ho hl
      go_wp2_with fail
      refine HT.out.mono ?_
      rintro e w3 ⟨A3, c3, rfl, ho3, hb3⟩
      go_wp2
      go_ret
      exact ⟨A3, c3, rfl, own_base ho3 hbw.size, Bw.step hbw hb3⟩
end Go.Proofs.Ytpkaaiefnabfbaa
