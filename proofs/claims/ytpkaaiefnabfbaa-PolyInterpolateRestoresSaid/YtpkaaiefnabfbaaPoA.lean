/- Walks of the package poly: check, trim, add, mul. -/
import Derived.Test.YtpkaaiefnabfbaaPs
import Derived.Test.YtpkaaiefnabfbaaApp
import Derived.Deep.RegionWith
namespace Go.Proofs.Ytpkaaiefnabfbaa
open Go.RowKit
set_option linter.unusedVariables false

set_option maxHeartbeats 400000 in
theorem poFault_any (c i : Int) (w : World) :
    Calls Try.prog 38 #[.int .i64 c, .int .i64 i] w fun e w' => e = .returned (.agg #[.int .i64 c, .int .i64 i]) ∧ w.alloc (.cells #[.int .i64 c, .int .i64 i] 24) = w' := by
  go_enter Try.func38, Try.ntmps38
  go_wp2
  exact bodyPost_ret (v := .agg #[.int .i64 c, .int .i64 i]) (by simp [results, Try.results38, go_sem]) rfl ⟨rfl, rfl⟩

/-- The lengths of the slices in a row. -/
def LensAt (w : World) (g : Nat) (lens : List Nat) : Prop := g < w.heap.size ∧ ∀ i, i < lens.length → ∃ A c, w.cell? ⟨g, i, none⟩ = some (.slice A (lens.getD i 0) c)
set_option maxHeartbeats 1000000 in
theorem poCheck_ok (g c : Nat) (lens : List Nat) (w : World) (hc : LensAt w g lens) (hl : lens.length ≤ 1000) (hok : ∀ i, i < lens.length → lens.getD i 0 ≤ 512) :
    Calls Try.prog 36 #[.slice (some ⟨g, 0, none⟩) lens.length c] w fun e w' => e = .returned (.agg #[.int .i64 0, .int .i64 0]) ∧ Below w.heap.size w w' := by
  have HC := Lib.hid hc
  have HO := Lib.hid hok
  clear hc hok
  go_enter Try.func36, Try.ntmps36
  go_wp2
  have F0 := Has.new w 0 0 24
  have BW := below_new w (.cells #[.int .i64 0, .int .i64 0] 24)
  generalize w.alloc (.cells #[.int .i64 0, .int .i64 0] 24) = W at *
  go_loop [7] (fun i => ∃ k : Nat, k ≤ lens.length ∧ i = .int .i64 k) (fun i => lens.length - (intOf i).toNat)
  case atStart => exact ⟨0, Nat.zero_le _, rfl⟩
  case round =>
    obtain ⟨k, hk, rfl⟩ := hrel
    by_cases hlt : k < lens.length
    · obtain ⟨A1, c1, hx⟩ := HC.out.2 k hlt
      have hx2 := (BW.cell (p := ⟨g, k, none⟩) HC.out.1).trans hx
      have hy := HO.out k hlt
      generalize lens.getD k 0 = m at *
      clear hx
      go_wp2
      go_round
      case rel => exact ⟨k + 1, by omega, by go_num⟩
      case measure => simp [intOf]; omega
    · obtain ⟨l0, c00, c01, f00, f01⟩ := id F0
      go_wp2
      exact bodyPost_ret (resF1 rfl rfl (F0.set2 0 0)) rfl ⟨rfl, Bw.set (Bw.set BW (Nat.le_refl _) _) (Nat.le_refl _) _⟩
set_option maxHeartbeats 1000000 in
theorem poCheck_bad (g c j : Nat) (lens : List Nat) (w : World) (hc : LensAt w g lens) (hl : lens.length ≤ 1000) (hok : ∀ i, i < j → lens.getD i 0 ≤ 512) (hj : j < lens.length) (hbad : 512 < lens.getD j 0) (hm : lens.getD j 0 ≤ 9223372036854775807) :
    Calls Try.prog 36 #[.slice (some ⟨g, 0, none⟩) lens.length c] w fun e w' => e = .returned (.agg #[.int .i64 3, .int .i64 (-1 - j)]) ∧ Below w.heap.size w w' := by
  have HC := Lib.hid hc
  have HO := Lib.hid hok
  have HB := Lib.hid hbad
  have HM := Lib.hid hm
  clear hc hok hbad hm
  go_enter Try.func36, Try.ntmps36
  go_wp2
  have F0 := Has.new w 0 0 24
  have BW := below_new w (.cells #[.int .i64 0, .int .i64 0] 24)
  generalize w.alloc (.cells #[.int .i64 0, .int .i64 0] 24) = W at *
  go_loop [7] (fun i => ∃ k : Nat, k ≤ j ∧ i = .int .i64 k) (fun i => lens.length - (intOf i).toNat)
  case atStart => exact ⟨0, Nat.zero_le _, rfl⟩
  case round =>
    obtain ⟨k, hk, rfl⟩ := hrel
    have hlt : k < lens.length := by omega
    obtain ⟨A1, c1, hx⟩ := HC.out.2 k hlt
    have hx2 := (BW.cell (p := ⟨g, k, none⟩) HC.out.1).trans hx
    by_cases hkj : k < j
    · have hy := HO.out k hkj
      generalize lens.getD k 0 = m at *
      clear hx
      go_wp2
      go_round
      case rel => exact ⟨k + 1, by omega, by go_num⟩
      case measure => simp [intOf]; omega
    · obtain rfl : k = j := by omega
      have hy := HB.out
      have hy2 := HM.out
      obtain ⟨l0, c00, c01, f00, f01⟩ := id F0
      generalize lens.getD k 0 = m at *
      clear hx HB HM
      go_wp2_with (go_at_call 38; refine (poFault_any _ _ _).mono ?_; rintro e w' ⟨rfl, rfl⟩)
      exact bodyPost_ret (resF1 rfl rfl ((F0.set2 3 (-1 - k)).al _)) rfl ⟨rfl, Bw.al (Bw.set (Bw.set BW (Nat.le_refl _) _) (Nat.le_refl _) _) _⟩

theorem OwB.cap {w : World} {B n c : Nat} {A : Option Addr} {l : List GF} (h : OwB w B (.slice A n c) l) : n ≤ c ∧ c ≤ maxLen := by
  rcases h.2 with ⟨h1, h2⟩ | ⟨g, cap, cur, hv, _, _, h1, h2, _⟩
  · injection h1 with e1 e2 e3; subst e2 e3; exact ⟨Nat.le_refl _, Nat.zero_le _⟩
  · injection hv with e1 e2 e3; subst e2 e3; exact ⟨h1, h2⟩
theorem RdB.take {w : World} {A : Option Addr} {n : Nat} {l : List GF} (h : RdB w A n l) {k : Nat} (hk : k ≤ n) : RdB w A k (l.take k) := by
  refine ⟨by rw [List.length_take, h.1]; omega, fun h0 => ?_⟩
  obtain ⟨b, off, e, hlt, hc⟩ := h.2 (by omega)
  refine ⟨b, off, e, hlt, fun i hi => ?_⟩
  rw [hc i (by omega)]
  have h1 := h.1
  simp [List.getD, hi]
theorem trim_take {l : List GF} {k : Nat} (hk : k < l.length) : l.take (k + 1) = l.take k ++ [l.getD k 0] := by
  rw [List.take_succ_eq_append_getElem hk]
  simp [List.getD, List.getElem?_eq_getElem hk]
set_option maxHeartbeats 1000000 in
theorem poTrim_any (A : Option Addr) (n c : Nat) (l : List GF) (w : World) (hl : RdB w A n l) (hc : n ≤ c) (hn : n ≤ 1099511627776) :
    Calls Try.prog 37 #[.slice A n c] w fun e w' => ∃ A' c', e = .returned (.slice A' (trimL l).length c') ∧ OwB w' w.heap.size (.slice A' (trimL l).length c') (trimL l) ∧ Below w.heap.size w w' := by
  have HL := Lib.hid hl
  have HN := Lib.hid hl.1
  clear hl
  go_enter Try.func37, Try.ntmps37
  go_wp2
  go_loop [3] (fun i => ∃ k : Nat, k ≤ n ∧ i = .int .i64 k ∧ trimL (l.take k) = trimL l) (fun i => (intOf i).toNat)
  case atStart => exact ⟨n, Nat.le_refl _, rfl, by rw [List.take_of_length_le (by rw [HN.out]; exact Nat.le_refl _)]⟩
  case round =>
    obtain ⟨k, hk, rfl, hr⟩ := hrel
    have key : l.take k = trimL l → (Calls Try.prog 50 #[.slice A k c] w fun e w' => ∃ A' c', e = .returned (.slice A' (trimL l).length c') ∧ OwB w' w.heap.size (.slice A' (trimL l).length c') (trimL l) ∧ Below w.heap.size w w') := fun e => by
      rw [← e]; exact cloneB_any A k c _ w (HL.out.take hk) (by omega)
    rcases Nat.eq_zero_or_pos k with h0 | h0
    · subst h0
      have KY := Lib.hid (key (by rw [← hr]; rfl))
      clear key hr
      go_wp2_with fail
      refine KY.out.mono ?_
      rintro e w1 ⟨A1, c1, rfl, ho, hb⟩
      go_wp2
      go_ret
      exact ⟨A1, c1, rfl, ho, hb⟩
    · obtain ⟨m, rfl⟩ : ∃ m, k = m + 1 := ⟨k - 1, by omega⟩
      have hm : m < l.length := by rw [HN.out]; omega
      have ht := trim_take hm
      obtain ⟨b, off, rfl, hlt, hcx⟩ := HL.out.2 (by omega)
      have hx := hcx m (by omega)
      by_cases hz : l.getD m 0 = 0
      · have HR := Lib.hid (show trimL (l.take m) = trimL l by rw [← hr, ht, trimL_snoc, if_pos hz])
        rw [hz] at hx
        have z0 : ((0 : GF).z == 0) = true := rfl
        generalize (0 : GF).z = y at *
        clear hr ht hcx hz key
        go_wp2
        go_round
        case rel => exact ⟨m, by omega, by go_num, HR.out⟩
        case measure => simp [intOf]
      · have KY := Lib.hid (key (by rw [← hr, ht, trimL_snoc, if_neg hz]))
        have z0 : ((l.getD m 0).z == 0) = false := by
          rw [beq_eq_false_iff_ne]; intro e; exact hz (GF.z_inj.1 e)
        generalize (l.getD m 0).z = y at *
        clear key hr ht hcx hz
        go_wp2_with fail
        refine KY.out.mono ?_
        rintro e w1 ⟨A1, c1, rfl, ho, hb⟩
        go_wp2
        go_ret
        exact ⟨A1, c1, rfl, ho, hb⟩
end Go.Proofs.Ytpkaaiefnabfbaa
