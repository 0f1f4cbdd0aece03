/- The walks of the statements InterleaveSpreadsDamage, InterleaveMeetsIsAdditive and InterleaveMatchesSpec. -/
import Derived.Test.YtoepcbpmbekpgaaIlD
namespace Go.Proofs.Ytoepcbpmbekpgaa
open Go.RowKit
set_option linter.unusedVariables false

theorem ilSum_bd (top left h : Int) (w : Nat) (r : Nat) : 0 ≤ ilSum top left h w r ∧ ilSum top left h w r ≤ r * w := by
  induction r with
  | zero => simp [ilSum]
  | succ r ih =>
    have := ilCnt_bd top (top + h) r left w
    simp only [ilSum, ilM]
    rw [Int.natCast_add, Int.add_mul]
    omega
set_option maxRecDepth 100000 in
set_option maxHeartbeats 2000000 in
theorem spreadsIn (top left : Int) (h wd : Nat) (w : World) (h1 : 0 ≤ top ∧ top ≤ 15) (h2 : 0 ≤ left ∧ left ≤ 23) (h3 : top + h ≤ 16) (h4 : left + wd ≤ 24) :
    Calls Try.prog 6 #[.int .i64 top, .int .i64 left, .int .i64 h, .int .i64 wd] w fun e w' => e = .returned (.bool true) ∧ Below w.heap.size w w' := by
  obtain ⟨e1, e2⟩ := mf_ok (h := (h : Int)) (wd := (wd : Int)) h1 h2 (by omega) (by omega)
  have E1 := Lib.hid e1
  have E2 := Lib.hid e2
  have ES := Lib.hid (ilSum_full top left h wd h1.1 (by omega) h3)
  have hmul : (h : Int) * wd ≤ 384 ∧ 0 ≤ (h : Int) * wd := by
    have a1 : (h : Int) * wd ≤ 16 * 24 := Int.mul_le_mul (by omega) (by omega) (by omega) (by omega)
    exact ⟨by omega, Int.mul_nonneg (by omega) (by omega)⟩
  clear e1 e2
  rcases (show (h ≤ 5 ∧ wd ≤ 3) ∨ (h ≤ 5 ∧ 3 < wd) ∨ 5 < h by omega) with hc | hc | hc
  all_goals
    have HC := Lib.hid hc
    first
      | (have d1 : decide ((h : Int) ≤ 5) = true := by simp; omega)
      | (have d1 : decide ((h : Int) ≤ 5) = false := by simp; omega)
    first
      | (have d2 : decide ((wd : Int) ≤ 3) = true := by simp; omega)
      | (have d2 : decide ((wd : Int) ≤ 3) = false := by simp; omega)
      | skip
    clear hc
    go_enter Try.func6, Try.ntmps6
    go_wp2_with fail
    refine (refMeetsFault_any _ _ _ _ _ (by omega) (by omega)).mono ?_; rw [E1.out, E2.out]; rintro e w1 ⟨rfl, hb1⟩
    go_wp2_with fail
    refine (ilMeets_ok top left h wd _ (by omega) (by omega) (by omega) (by omega)).mono ?_; rintro e w2 ⟨g2, rfl, ho2, hb2⟩
    go_wp2_with fail
    refine (ilMeets_ok top 0 1 24 _ (by omega) (by omega) (by omega) (by omega)).mono ?_; rintro e w3 ⟨g3, rfl, ho3, hb3⟩
    have F2 := (Has.new w2 0 0 _).below hb3
    have R2 := (ho2.below (below_new w2 _)).below hb3
    have R2 := R2.below (below_new w3 (.cells #[.int .i64 0, .int .i64 0] 27))
    have R3 := ho3.below (below_new w3 (.cells #[.int .i64 0, .int .i64 0] 27))
    have BW : Below w.heap.size w (w3.alloc (.cells #[.int .i64 0, .int .i64 0] 27)) := by (repeat (first | exact Below.refl _ _ | assumption | refine Bw.al ?_ _ | refine Bw.step ?_ (by assumption) | refine Bw.drew ?_))
    obtain ⟨l1, c10, c11, f10, f11⟩ := id F2
    clear hb1 hb2 hb3 ho2 ho3
    go_wp2
    clear l1 c10 c11 f10 f11 F2
    generalize w3.alloc (.cells #[.int .i64 0, .int .i64 0] 27) = W at *
    generalize w3.heap.size = s3 at *
    generalize w2.heap.size = s2 at *
    generalize w1.heap.size = s1 at *
    go_loop [13, 14] (fun s i => ∃ r : Nat, r ≤ 16 ∧ i = .int .i64 r ∧ s = .int .i64 (ilSum top left h wd r)) (fun _ i => 16 - (intOf i).toNat)
    case atStart => exact ⟨0, by omega, rfl, rfl⟩
    case round =>
      obtain ⟨r, hr, rfl, rfl⟩ := hrel
      have b1 := ilSum_bd top left h wd r
      by_cases hlt : r < 16
      · have x2 := R2.cellAt hlt
        have x3 := R3.cellAt hlt
        rw [ilMeets_get _ _ _ _ hlt] at x2 x3
        have hl := ilM_line top.toNat r (by omega) hlt
        rw [Int.toNat_of_nonneg h1.1] at hl
        have hin : inB (ilM top 0 (1 : Nat) 24 r) 1 2 = true := inB_true hl
        have hsm : h ≤ 5 → wd ≤ 3 → ilM top left h wd r ≤ 1 := fun a b => ilM_small top left h wd r (by omega) b h1.1 (by omega) (by omega)
        have hb2 := ilCnt_bd top (top + h) r left wd
        have HS : Hid (ilSum top left h wd (r + 1) = ilSum top left h wd r + ilM top left h wd r) := rfl
        have hm1 : 0 ≤ ilM top left h wd r ∧ ilM top left h wd r ≤ wd := hb2
        have hm2 : (r : Int) * wd ≤ 16 * 24 := Int.mul_le_mul (by omega) (by omega) (by omega) (by omega)
        have hg1 : HC.out = HC.out := rfl
        generalize ilM top 0 (1 : Nat) 24 r = y at *
        generalize ilM top left h wd r = x at *
        first | (have hx : x ≤ 1 := hsm HC.out.1 HC.out.2) | skip
        clear hsm hb2 hl hg1
        go_wp2_with (go_at_call 27; refine (refIn_any _ _ _ _).mono ?_; rintro e w' ⟨rfl, rfl⟩)
        go_round
        case rel => exact ⟨r + 1, by omega, by go_num, by rw [HS.out]⟩
        case measure => simp [intOf]; omega
      · have : r = 16 := by omega
        subst this
        rw [ES.out]
        have hq : ((h : Int) * wd == (h : Int) * wd) = true := by simp
        clear b1
        go_wp2_with (go_at_call 24; refine (shifted_any _).mono ?_; rintro e w' ⟨rfl, hb5⟩)
        go_ret
        exact ⟨rfl, Bw.step BW hb5⟩
set_option maxHeartbeats 1000000 in
theorem spreadsOut (top left h wd : Int) (w : World) (k0 : -9223372036854775808 ≤ top ∧ top ≤ 9223372036854775807) (k1 : -9223372036854775808 ≤ left ∧ left ≤ 9223372036854775807) (hk : ¬ ((0 ≤ top ∧ top ≤ 15) ∧ (0 ≤ left ∧ left ≤ 23) ∧ (0 ≤ h ∧ h ≤ 16 - top) ∧ (0 ≤ wd ∧ wd ≤ 24 - left))) :
    Calls Try.prog 6 #[.int .i64 top, .int .i64 left, .int .i64 h, .int .i64 wd] w fun e w' => e = .returned (.bool true) ∧ Below w.heap.size w w' := by
  have E2 := Lib.hid (mf_bad hk)
  go_enter Try.func6, Try.ntmps6
  go_wp2_with fail
  refine (refMeetsFault_any _ _ _ _ _ k0 k1).mono ?_; rw [E2.out]; rintro e w2 ⟨rfl, hb2⟩
  go_wp2_with (go_at_call 24; refine (shifted_any _).mono ?_; rintro e w' ⟨rfl, hb5⟩)
  go_ret
  exact ⟨rfl, by (repeat (first | exact Below.refl _ _ | assumption | refine Bw.al ?_ _ | refine Bw.step ?_ (by assumption) | refine Bw.drew ?_))⟩
theorem walkInterleaveSpreadsDamage (top left h wd : Int) (w : World) (w0 : (Lit.int .i64 top).wf = true) (w1 : (Lit.int .i64 left).wf = true) (w2 : (Lit.int .i64 h).wf = true) (w3 : (Lit.int .i64 wd).wf = true) :
    Calls Try.prog 6 #[.int .i64 top, .int .i64 left, .int .i64 h, .int .i64 wd] w fun e w' => e = .returned (.bool true) ∧ Below w.heap.size w w' := by
  by_cases hk : (0 ≤ top ∧ top ≤ 15) ∧ (0 ≤ left ∧ left ≤ 23) ∧ (0 ≤ h ∧ h ≤ 16 - top) ∧ (0 ≤ wd ∧ wd ≤ 24 - left)
  · obtain ⟨h1, h2, h3, h4⟩ := hk
    obtain ⟨h, rfl⟩ := Int.eq_ofNat_of_zero_le h3.1
    obtain ⟨wd, rfl⟩ := Int.eq_ofNat_of_zero_le h4.1
    exact spreadsIn top left h wd w h1 h2 (by omega) (by omega)
  · exact spreadsOut top left h wd w (wf_i64 w0) (wf_i64 w1) hk

theorem ilMeets_split (top left h : Int) (a b : Nat) {r : Nat} (hr : r < 16) : (ilMeets top left h (a + b)).getD r 0 = (ilMeets top left h a).getD r 0 + (ilMeets top (left + a) h b).getD r 0 := by
  rw [ilMeets_get _ _ _ _ hr, ilMeets_get _ _ _ _ hr, ilMeets_get _ _ _ _ hr]
  exact ilCnt_split _ _ _ _ _ _
set_option maxRecDepth 100000 in
set_option maxHeartbeats 2000000 in
theorem additiveIn (top left : Int) (h fs rs : Nat) (w : World) (h1 : 0 ≤ top ∧ top ≤ 15) (h2 : 0 ≤ left ∧ left ≤ 23) (h3 : top + h ≤ 16) (h4 : left + (fs + rs : Nat) ≤ 24) (h5 : 0 < rs) :
    Calls Try.prog 7 #[.int .i64 top, .int .i64 left, .int .i64 h, .int .i64 ((fs + rs : Nat) : Int), .int .i64 fs] w fun e w' => e = .returned (.bool true) ∧ Below w.heap.size w w' := by
  obtain ⟨e1, e2⟩ := mf_ok (h := (h : Int)) (wd := ((fs + rs : Nat) : Int)) h1 h2 (by omega) (by omega)
  have E1 := Lib.hid e1
  have E2 := Lib.hid e2
  have hin : inB fs 0 (((fs + rs : Nat) : Int) - 1) = true := inB_true (by omega)
  have ER : Hid (((fs + rs : Nat) : Int) - fs = (rs : Int)) := by show _ = _; omega
  generalize hW : fs + rs = wd at *
  have HW := Lib.hid hW
  have hlt1 : fs < wd := by omega
  have hle1 : fs + rs ≤ wd := by omega
  clear e1 e2 hW
  go_enter Try.func7, Try.ntmps7
  go_wp2_with fail
  refine (refMeetsFault_any _ _ _ _ _ (by omega) (by omega)).mono ?_; rw [E1.out, E2.out]; rintro e w1 ⟨rfl, hb1⟩
  go_wp2_with (go_at_call 27; refine (refIn_any _ _ _ _).mono ?_; rintro e w' ⟨rfl, rfl⟩)
  refine (ilMeets_ok top left h wd _ (by omega) (by omega) (by omega) (by omega)).mono ?_; rintro e w2 ⟨g2, rfl, ho2, hb2⟩
  go_wp2_with fail
  refine (ilMeets_ok top left h fs _ (by omega) (by omega) (by omega) (by omega)).mono ?_; rintro e w3 ⟨g3, rfl, ho3, hb3⟩
  have F2 := (Has.new w2 0 0 _).below hb3
  have R2 := (ho2.below (below_new w2 _)).below hb3
  go_wp2_with fail
  rw [ER.out]
  refine (ilMeets_ok top (left + fs) h rs _ (by omega) (by omega) (by omega) (by omega)).mono ?_; rintro e w4 ⟨g4, rfl, ho4, hb4⟩
  have F2 := (F2.al _).below hb4
  have F3 := (Has.new w3 0 0 _).below hb4
  have R2 := (R2.below (below_new w3 _)).below hb4
  have R3 := (ho3.below (below_new w3 _)).below hb4
  have R2 := R2.below (below_new w4 (.cells #[.int .i64 0, .int .i64 0] 27))
  have R3 := R3.below (below_new w4 (.cells #[.int .i64 0, .int .i64 0] 27))
  have R4 := ho4.below (below_new w4 (.cells #[.int .i64 0, .int .i64 0] 27))
  have BW : Below w.heap.size w (w4.alloc (.cells #[.int .i64 0, .int .i64 0] 27)) := by (repeat (first | exact Below.refl _ _ | assumption | refine Bw.al ?_ _ | refine Bw.step ?_ (by assumption) | refine Bw.drew ?_))
  obtain ⟨l2, c20, c21, f20, f21⟩ := id F2
  obtain ⟨l3, c30, c31, f30, f31⟩ := id F3
  clear hb1 hb2 hb3 hb4 ho2 ho3 ho4
  go_wp2
  clear l2 c20 c21 f20 f21 F2 l3 c30 c31 f30 f31 F3
  generalize w4.alloc (.cells #[.int .i64 0, .int .i64 0] 27) = W at *
  generalize w4.heap.size = s4 at *
  generalize w3.heap.size = s3 at *
  generalize w2.heap.size = s2 at *
  generalize w1.heap.size = s1 at *
  go_loopw [17] (fun i wr => ∃ r : Nat, r ≤ 16 ∧ i = .int .i64 r ∧ Below W.heap.size W wr) (fun i _ => 16 - (intOf i).toNat)
  case atStart => exact ⟨0, by omega, rfl, Below.refl _ _⟩
  case round =>
    obtain ⟨r, hr, rfl, hbr⟩ := hrel
    by_cases hlt : r < 16
    · have x2 := (R2.below hbr).cellAt hlt
      have x3 := (R3.below hbr).cellAt hlt
      have x4 := (R4.below hbr).cellAt hlt
      have hq := ilMeets_split top left h fs rs hlt
      rw [HW.out] at hq
      rw [hq] at x2
      have b3 := ilCnt_bd top (top + h) r left fs
      have b4 := ilCnt_bd top (top + h) r (left + fs) rs
      rw [ilMeets_get _ _ _ _ hlt] at x3
      rw [ilMeets_get _ _ _ _ hlt] at x4
      rw [ilMeets_get _ _ _ _ hlt, ilMeets_get _ _ _ _ hlt] at x2
      have c3 : 0 ≤ ilM top left h fs r ∧ ilM top left h fs r ≤ fs := b3
      have c4 : 0 ≤ ilM top (left + fs) h rs r ∧ ilM top (left + fs) h rs r ≤ rs := b4
      clear hq b3 b4
      generalize ilM top left h fs r = x at *
      generalize ilM top (left + fs) h rs r = y at *
      have hne : (x + y != x + y) = false := by simp
      have hwr : IntKind.i64.wrap (x + y) = x + y := IntWalk.i64_in _ (by omega)
      go_wp2
      go_quiet (fail)
      go_wp2
      go_roundw
      case rel => exact ⟨r + 1, by omega, by go_num, ⟨hbr.os, hbr.tape, hbr.output, hbr.size, hbr.block⟩⟩
      case measure => simp [intOf]; omega
    · go_wp2_with (go_at_call 24; refine (shifted_any _).mono ?_; rintro e w' ⟨rfl, hb5⟩)
      go_ret
      exact ⟨rfl, Bw.step (Bw.step BW hbr) hb5⟩
set_option maxRecDepth 100000 in
set_option maxHeartbeats 1000000 in
theorem additiveOut (top left h wd fs : Int) (w : World) (k0 : -9223372036854775808 ≤ top ∧ top ≤ 9223372036854775807) (k1 : -9223372036854775808 ≤ left ∧ left ≤ 9223372036854775807)
    (hk : ¬ ((0 ≤ top ∧ top ≤ 15) ∧ (0 ≤ left ∧ left ≤ 23) ∧ (0 ≤ h ∧ h ≤ 16 - top) ∧ (0 ≤ wd ∧ wd ≤ 24 - left)) ∨ ((0 ≤ top ∧ top ≤ 15) ∧ (0 ≤ left ∧ left ≤ 23) ∧ (0 ≤ h ∧ h ≤ 16 - top) ∧ (0 ≤ wd ∧ wd ≤ 24 - left)) ∧ ¬ (0 ≤ fs ∧ fs ≤ wd - 1)) :
    Calls Try.prog 7 #[.int .i64 top, .int .i64 left, .int .i64 h, .int .i64 wd, .int .i64 fs] w fun e w' => e = .returned (.bool true) ∧ Below w.heap.size w w' := by
  rcases hk with hk | ⟨hk, hf⟩
  · have E2 := Lib.hid (mf_bad hk)
    go_enter Try.func7, Try.ntmps7
    go_wp2_with fail
    refine (refMeetsFault_any _ _ _ _ _ k0 k1).mono ?_; rw [E2.out]; rintro e w2 ⟨rfl, hb2⟩
    go_wp2_with (go_at_call 24; refine (shifted_any _).mono ?_; rintro e w' ⟨rfl, hb5⟩)
    go_ret
    exact ⟨rfl, by (repeat (first | exact Below.refl _ _ | assumption | refine Bw.al ?_ _ | refine Bw.step ?_ (by assumption) | refine Bw.drew ?_))⟩
  · have E2 := Lib.hid (mf_ok hk.1 hk.2.1 hk.2.2.1 hk.2.2.2)
    have hin := inB_false hf
    obtain ⟨a1, a2, a3, a4⟩ := hk
    clear hf
    go_enter Try.func7, Try.ntmps7
    go_wp2_with fail
    refine (refMeetsFault_any _ _ _ _ _ k0 k1).mono ?_; rw [E2.out.1, E2.out.2]; rintro e w2 ⟨rfl, hb2⟩
    go_wp2_with (first | (go_at_call 24; refine (shifted_any _).mono ?_; rintro e w' ⟨rfl, hb5⟩) | (go_at_call 27; refine (refIn_any _ _ _ _).mono ?_; rintro e w' ⟨rfl, rfl⟩))
    go_ret
    exact ⟨rfl, by (repeat (first | exact Below.refl _ _ | assumption | refine Bw.al ?_ _ | refine Bw.step ?_ (by assumption) | refine Bw.drew ?_))⟩
theorem walkInterleaveMeetsIsAdditive (top left h wd fs : Int) (w : World) (w0 : (Lit.int .i64 top).wf = true) (w1 : (Lit.int .i64 left).wf = true) (w2 : (Lit.int .i64 h).wf = true) (w3 : (Lit.int .i64 wd).wf = true) (w4 : (Lit.int .i64 fs).wf = true) :
    Calls Try.prog 7 #[.int .i64 top, .int .i64 left, .int .i64 h, .int .i64 wd, .int .i64 fs] w fun e w' => e = .returned (.bool true) ∧ Below w.heap.size w w' := by
  by_cases hk : (0 ≤ top ∧ top ≤ 15) ∧ (0 ≤ left ∧ left ≤ 23) ∧ (0 ≤ h ∧ h ≤ 16 - top) ∧ (0 ≤ wd ∧ wd ≤ 24 - left)
  · by_cases hf : 0 ≤ fs ∧ fs ≤ wd - 1
    · obtain ⟨h1, h2, h3, h4⟩ := hk
      obtain ⟨h, rfl⟩ := Int.eq_ofNat_of_zero_le h3.1
      obtain ⟨fs, rfl⟩ := Int.eq_ofNat_of_zero_le hf.1
      obtain ⟨rs, hrs⟩ := Int.eq_ofNat_of_zero_le (show 0 ≤ wd - fs by omega)
      obtain rfl : wd = ((fs + rs : Nat) : Int) := by omega
      exact additiveIn top left h fs rs w h1 h2 (by omega) (by omega) (by omega)
    · exact additiveOut top left h wd fs w (wf_i64 w0) (wf_i64 w1) (.inr ⟨hk, hf⟩)
  · exact additiveOut top left h wd fs w (wf_i64 w0) (wf_i64 w1) (.inl hk)
end Go.Proofs.Ytoepcbpmbekpgaa
