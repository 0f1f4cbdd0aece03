/- The walks of the statements on Meets, and on Place and Source. -/
import Derived.Test.YtoepcbpmbekpgaaIlC
import Derived.Test.YtoepcbpmbekpgaaGfD
namespace Go.Proofs.Ytoepcbpmbekpgaa
open Go.RowKit
set_option linter.unusedVariables false

set_option maxRecDepth 100000 in
set_option maxHeartbeats 1000000 in
theorem shifted_any (w : World) : Calls Try.prog 24 #[] w fun e w' => e = .returned (.bool true) ∧ Below w.heap.size w w' := by
  have hL : ilL 2 1 = 13 := by decide
  have HL := Lib.hid hL
  clear hL
  go_enter Try.func24, Try.ntmps24
  go_wp2_with fail
  refine (ilPlace_ok _ _ _ (by omega) (by omega)).mono ?_; rw [HL.out]; rintro e w1 ⟨rfl, hb1⟩
  go_wp2_with fail
  refine (ilMeets_ok 0 0 1 2 _ (by omega) (by omega) (by omega) (by omega)).mono ?_; rintro e w2 ⟨g, rfl, ho, hb2⟩
  have F1 := (Has.new w1 0 0 _).below hb2
  obtain ⟨l1, c10, c11, f10, f11⟩ := id F1
  have x0 := ho.cellAt (i := 0) (by omega)
  have x1 := ho.cellAt (i := 1) (by omega)
  have x5 := ho.cellAt (i := 5) (by omega)
  have hlt := ho.lt.2
  rw [show (ilMeets 0 0 (1 : Nat) 2).getD 0 0 = 1 by decide] at x0
  rw [show (ilMeets 0 0 (1 : Nat) 2).getD 1 0 = 0 by decide] at x1
  rw [show (ilMeets 0 0 (1 : Nat) 2).getD 5 0 = 1 by decide] at x5
  go_wp2
  go_ret
  exact ⟨rfl, by (repeat (first | exact Below.refl _ _ | assumption | refine Bw.al ?_ _ | refine Bw.step ?_ (by assumption) | refine Bw.drew ?_))⟩

theorem mfI_row {top left h wd : Int} (h1 : ¬ (0 ≤ top ∧ top < 16)) : mfI top left h wd = -1 := by unfold mfI; rw [if_pos (by omega)]
theorem mfI_col {top left h wd : Int} (h1 : 0 ≤ top ∧ top < 16) (h2 : ¬ (0 ≤ left ∧ left < 24)) : mfI top left h wd = -2 := by unfold mfI; rw [if_neg (by omega), if_pos (by omega)]
theorem mfI_h {top left h wd : Int} (h1 : 0 ≤ top ∧ top < 16) (h2 : 0 ≤ left ∧ left < 24) (h3 : ¬ (0 ≤ h ∧ h ≤ 16 - top)) : mfI top left h wd = -3 := by unfold mfI; rw [if_neg (by omega), if_neg (by omega), if_pos (by omega)]
theorem mfI_w {top left h wd : Int} (h1 : 0 ≤ top ∧ top < 16) (h2 : 0 ≤ left ∧ left < 24) (h3 : 0 ≤ h ∧ h ≤ 16 - top) (h4 : ¬ (0 ≤ wd ∧ wd ≤ 24 - left)) : mfI top left h wd = -4 := by unfold mfI; rw [if_neg (by omega), if_neg (by omega), if_neg (by omega), if_pos (by omega)]
set_option maxRecDepth 100000 in
set_option maxHeartbeats 1000000 in
theorem ilMeets_check (top left h wd i : Int) (w : World) (hk : (¬ (0 ≤ top ∧ top < 16) ∧ i = -1) ∨ ((0 ≤ top ∧ top < 16) ∧ ¬ (0 ≤ left ∧ left < 24) ∧ i = -2)) :
    Calls Try.prog 22 #[.int .i64 top, .int .i64 left, .int .i64 h, .int .i64 wd] w fun e w' =>
      e = .returned (.tuple #[.slice none 0 0, .agg #[.int .i64 4, .int .i64 i]]) ∧ Below w.heap.size w w' := by
  go_enter Try.func22, Try.ntmps22
  go_wp2_with fail
  refine (ilCheck_bad _ _ _ _ hk).mono ?_; rintro e w1 ⟨rfl, hb1⟩
  have F0 := (Has.new w 0 0 _).below hb1
  obtain ⟨l0, c00, c01, f00, f01⟩ := id F0
  go_wp2
  go_region
  go_wp2
  exact bodyPost_ret (resF2 rfl rfl (Has.drew ((F0.set2 4 i).al _))) rfl ⟨rfl, Bw.drew (Bw.al (Bw.set (Bw.set (Bw.step (below_new _ _) hb1) (Nat.le_refl _) _) (Nat.le_refl _) _) _)⟩
set_option maxRecDepth 100000 in
set_option maxHeartbeats 1000000 in
theorem ilMeets_height (top left h wd : Int) (w : World) (h1 : 0 ≤ top ∧ top < 16) (h2 : 0 ≤ left ∧ left < 24) (h3 : ¬ (0 ≤ h ∧ h ≤ 16 - top)) :
    Calls Try.prog 22 #[.int .i64 top, .int .i64 left, .int .i64 h, .int .i64 wd] w fun e w' =>
      e = .returned (.tuple #[.slice none 0 0, .agg #[.int .i64 4, .int .i64 (-3)]]) ∧ Below w.heap.size w w' := by
  by_cases hn : h < 0
  · have d1 : decide (h < 0) = true := by simpa using hn
    go_enter Try.func22, Try.ntmps22
    go_wp2_with fail
    refine (ilCheck_ok _ _ _ h1 h2).mono ?_; rintro e w1 ⟨rfl, hb1⟩
    have F0 := (Has.new w 0 0 _).below hb1
    obtain ⟨l0, c00, c01, f00, f01⟩ := id F0
    go_wp2_with (go_at_call 45; refine (ilFault_any _ _ _).mono ?_; rintro e w' ⟨rfl, rfl⟩)
    exact bodyPost_ret (resF2 rfl rfl (((F0.set2 4 (-3)).al _).al _)) rfl ⟨rfl, Bw.al (Bw.al (Bw.set (Bw.set (Bw.step (below_new _ _) hb1) (Nat.le_refl _) _) (Nat.le_refl _) _) _) _⟩
  · have d1 : decide (h < 0) = false := by simpa using hn
    have d2 : 16 - top < h := by omega
    go_enter Try.func22, Try.ntmps22
    go_wp2_with fail
    refine (ilCheck_ok _ _ _ h1 h2).mono ?_; rintro e w1 ⟨rfl, hb1⟩
    have F0 := (Has.new w 0 0 _).below hb1
    obtain ⟨l0, c00, c01, f00, f01⟩ := id F0
    go_wp2_with (go_at_call 45; refine (ilFault_any _ _ _).mono ?_; rintro e w' ⟨rfl, rfl⟩)
    exact bodyPost_ret (resF2 rfl rfl (((F0.set2 4 (-3)).al _).al _)) rfl ⟨rfl, Bw.al (Bw.al (Bw.set (Bw.set (Bw.step (below_new _ _) hb1) (Nat.le_refl _) _) (Nat.le_refl _) _) _) _⟩
set_option maxRecDepth 100000 in
set_option maxHeartbeats 1000000 in
theorem ilMeets_width (top left h wd : Int) (w : World) (h1 : 0 ≤ top ∧ top < 16) (h2 : 0 ≤ left ∧ left < 24) (h3 : 0 ≤ h ∧ h ≤ 16 - top) (h4 : ¬ (0 ≤ wd ∧ wd ≤ 24 - left)) :
    Calls Try.prog 22 #[.int .i64 top, .int .i64 left, .int .i64 h, .int .i64 wd] w fun e w' =>
      e = .returned (.tuple #[.slice none 0 0, .agg #[.int .i64 4, .int .i64 (-4)]]) ∧ Below w.heap.size w w' := by
  have d0 : decide (h < 0) = false := by simp; omega
  have d3 : decide (16 - top < h) = false := by simp; omega
  by_cases hn : wd < 0
  · have d1 : decide (wd < 0) = true := by simpa using hn
    go_enter Try.func22, Try.ntmps22
    go_wp2_with fail
    refine (ilCheck_ok _ _ _ h1 h2).mono ?_; rintro e w1 ⟨rfl, hb1⟩
    have F0 := (Has.new w 0 0 _).below hb1
    obtain ⟨l0, c00, c01, f00, f01⟩ := id F0
    go_wp2_with (go_at_call 45; refine (ilFault_any _ _ _).mono ?_; rintro e w' ⟨rfl, rfl⟩)
    exact bodyPost_ret (resF2 rfl rfl (((F0.set2 4 (-4)).al _).al _)) rfl ⟨rfl, Bw.al (Bw.al (Bw.set (Bw.set (Bw.step (below_new _ _) hb1) (Nat.le_refl _) _) (Nat.le_refl _) _) _) _⟩
  · have d1 : decide (wd < 0) = false := by simpa using hn
    have d2 : 24 - left < wd := by omega
    go_enter Try.func22, Try.ntmps22
    go_wp2_with fail
    refine (ilCheck_ok _ _ _ h1 h2).mono ?_; rintro e w1 ⟨rfl, hb1⟩
    have F0 := (Has.new w 0 0 _).below hb1
    obtain ⟨l0, c00, c01, f00, f01⟩ := id F0
    go_wp2_with (go_at_call 45; refine (ilFault_any _ _ _).mono ?_; rintro e w' ⟨rfl, rfl⟩)
    exact bodyPost_ret (resF2 rfl rfl (((F0.set2 4 (-4)).al _).al _)) rfl ⟨rfl, Bw.al (Bw.al (Bw.set (Bw.set (Bw.step (below_new _ _) hb1) (Nat.le_refl _) _) (Nat.le_refl _) _) _) _⟩
theorem ilMeets_bad (top left h wd : Int) (w : World) (hk : ¬ ((0 ≤ top ∧ top ≤ 15) ∧ (0 ≤ left ∧ left ≤ 23) ∧ (0 ≤ h ∧ h ≤ 16 - top) ∧ (0 ≤ wd ∧ wd ≤ 24 - left))) :
    Calls Try.prog 22 #[.int .i64 top, .int .i64 left, .int .i64 h, .int .i64 wd] w fun e w' =>
      e = .returned (.tuple #[.slice none 0 0, .agg #[.int .i64 4, .int .i64 (mfI top left h wd)]]) ∧ Below w.heap.size w w' := by
  by_cases h1 : 0 ≤ top ∧ top < 16
  · by_cases h2 : 0 ≤ left ∧ left < 24
    · by_cases h3 : 0 ≤ h ∧ h ≤ 16 - top
      · have h4 : ¬ (0 ≤ wd ∧ wd ≤ 24 - left) := fun h4 => hk ⟨by omega, by omega, h3, h4⟩
        rw [mfI_w h1 h2 h3 h4]; exact ilMeets_width top left h wd w h1 h2 h3 h4
      · rw [mfI_h h1 h2 h3]; exact ilMeets_height top left h wd w h1 h2 h3
    · rw [mfI_col h1 h2]; exact ilMeets_check top left h wd _ w (.inr ⟨h1, h2, rfl⟩)
  · rw [mfI_row h1]; exact ilMeets_check top left h wd _ w (.inl ⟨h1, rfl⟩)

set_option maxRecDepth 100000 in
set_option maxHeartbeats 1000000 in
theorem walkInterleaveMeetsMatchesSpec (top left h wd : Int) (w : World) (w0 : (Lit.int .i64 top).wf = true) (w1 : (Lit.int .i64 left).wf = true) (w2 : (Lit.int .i64 h).wf = true) (w3 : (Lit.int .i64 wd).wf = true) :
    Calls Try.prog 5 #[.int .i64 top, .int .i64 left, .int .i64 h, .int .i64 wd] w fun e w' => e = .returned (.bool true) ∧ Below w.heap.size w w' := by
  have k0 := wf_i64 w0
  have k1 := wf_i64 w1
  clear w0 w1 w2 w3
  by_cases hk : (0 ≤ top ∧ top ≤ 15) ∧ (0 ≤ left ∧ left ≤ 23) ∧ (0 ≤ h ∧ h ≤ 16 - top) ∧ (0 ≤ wd ∧ wd ≤ 24 - left)
  · obtain ⟨e1, e2⟩ := mf_ok hk.1 hk.2.1 hk.2.2.1 hk.2.2.2
    obtain ⟨h1, h2, h3, h4⟩ := hk
    obtain ⟨h, rfl⟩ := Int.eq_ofNat_of_zero_le h3.1
    obtain ⟨wd, rfl⟩ := Int.eq_ofNat_of_zero_le h4.1
    have E1 := Lib.hid e1
    have E2 := Lib.hid e2
    have hs := sameI_self (ilMeets top left h wd)
    clear e1 e2
    go_enter Try.func5, Try.ntmps5
    go_wp2_with fail
    refine (ilMeets_ok _ _ _ _ _ (by omega) (by omega) (by omega) (by omega)).mono ?_; rintro e w1 ⟨g, rfl, ho, hb1⟩
    go_wp2_with fail
    refine (refMeetsFault_any _ _ _ _ _ k0 k1).mono ?_; rw [E1.out, E2.out]; rintro e w2 ⟨rfl, hb2⟩
    have F1 := (Has.new w1 0 0 _).below hb2
    have R1 := (ho.rd.1.al (.cells #[.int .i64 0, .int .i64 0] 27)).below hb2
    obtain ⟨l1, c10, c11, f10, f11⟩ := id F1
    go_wp2_with fail
    refine (refMeets_ok _ _ _ _ _ (by omega) (by omega) (by omega) (by omega)).mono ?_; rintro e w3 ⟨g3, rfl, ho3, hb3⟩
    have R1 := (R1.al (.cells #[.int .i64 0, .int .i64 0] 27)).below hb3
    go_wp2_with fail
    refine (refInts_any _ _ _ _ _ _ _ _ _ R1 ho3.rd.1 (by omega) (by omega)).mono ?_; rw [hs]; rintro e w4 ⟨rfl, hb4⟩
    go_wp2_with (go_at_call 24; refine (shifted_any _).mono ?_; rintro e w' ⟨rfl, hb5⟩)
    go_ret
    exact ⟨rfl, by (repeat (first | exact Below.refl _ _ | assumption | refine Bw.al ?_ _ | refine Bw.step ?_ (by assumption) | refine Bw.drew ?_))⟩
  · have e2 := mf_bad hk
    have E2 := Lib.hid e2
    clear e2
    go_enter Try.func5, Try.ntmps5
    go_wp2_with fail
    refine (ilMeets_bad _ _ _ _ _ hk).mono ?_; rintro e w1 ⟨rfl, hb1⟩
    go_wp2_with fail
    refine (refMeetsFault_any _ _ _ _ _ k0 k1).mono ?_; rw [E2.out]; rintro e w2 ⟨rfl, hb2⟩
    have F1 := (Has.new w1 4 (mfI top left h wd) _).below hb2
    obtain ⟨l1, c10, c11, f10, f11⟩ := id F1
    have hq : (mfI top left h wd == mfI top left h wd) = true := by simp
    go_wp2_with (go_at_call 24; refine (shifted_any _).mono ?_; rintro e w' ⟨rfl, hb5⟩)
    go_ret
    exact ⟨rfl, by (repeat (first | exact Below.refl _ _ | assumption | refine Bw.al ?_ _ | refine Bw.step ?_ (by assumption) | refine Bw.drew ?_))⟩
end Go.Proofs.Ytoepcbpmbekpgaa
