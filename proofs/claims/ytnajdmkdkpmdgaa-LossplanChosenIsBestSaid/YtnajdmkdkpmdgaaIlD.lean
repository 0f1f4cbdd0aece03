/- The walks of the statements on Meets, and on Place and Source. -/
import Derived.Test.YtnajdmkdkpmdgaaIlC
import Derived.Test.YtnajdmkdkpmdgaaGfD
namespace Go.Proofs.Ytnajdmkdkpmdgaa
open Go.RowKit
set_option linter.unusedVariables false

theorem mfI_row {top left h wd : Int} (h1 : ¬ (0 ≤ top ∧ top < 16)) : mfI top left h wd = -1 := by unfold mfI; rw [if_pos (by omega)]
theorem mfI_col {top left h wd : Int} (h1 : 0 ≤ top ∧ top < 16) (h2 : ¬ (0 ≤ left ∧ left < 24)) : mfI top left h wd = -2 := by unfold mfI; rw [if_neg (by omega), if_pos (by omega)]
theorem mfI_h {top left h wd : Int} (h1 : 0 ≤ top ∧ top < 16) (h2 : 0 ≤ left ∧ left < 24) (h3 : ¬ (0 ≤ h ∧ h ≤ 16 - top)) : mfI top left h wd = -3 := by unfold mfI; rw [if_neg (by omega), if_neg (by omega), if_pos (by omega)]
theorem mfI_w {top left h wd : Int} (h1 : 0 ≤ top ∧ top < 16) (h2 : 0 ≤ left ∧ left < 24) (h3 : 0 ≤ h ∧ h ≤ 16 - top) (h4 : ¬ (0 ≤ wd ∧ wd ≤ 24 - left)) : mfI top left h wd = -4 := by unfold mfI; rw [if_neg (by omega), if_neg (by omega), if_neg (by omega), if_pos (by omega)]
set_option maxRecDepth 100000 in
set_option maxHeartbeats 1000000 in
theorem ilMeets_check (top left h wd i : Int) (w : World) (hk : (¬ (0 ≤ top ∧ top < 16) ∧ i = -1) ∨ ((0 ≤ top ∧ top < 16) ∧ ¬ (0 ≤ left ∧ left < 24) ∧ i = -2)) :
    Calls Try.prog 30 #[.int .i64 top, .int .i64 left, .int .i64 h, .int .i64 wd] w fun e w' =>
      e = .returned (.tuple #[.slice none 0 0, .agg #[.int .i64 4, .int .i64 i]]) ∧ Below w.heap.size w w' := by
  go_enter Try.func30, Try.ntmps30
  go_wp2_with fail
  refine (ilCheck_bad _ _ _ _ hk).mono ?_; rintro e w1 ⟨rfl, hb1⟩
  have F0 := (Has.new w 0 0 _).below hb1
  obtain ⟨l0, c00, c01, f00, f01⟩ := id F0
  go_wp2
  go_region
  go_wp2
  exact bodyPost_ret (resF2 rfl rfl (Has.drew ((F0.set2 4 i).al _))) rfl ⟨rfl, Bw.drew (Bw.al (Bw.set (Bw.set (Bw.step (below_new _ _) hb1) (Nat.le_refl _) _) (Nat.le_refl _) _) _)⟩
set_option maxRecDepth 100000 in
set_option maxHeartbeats 1000000 in
theorem ilMeets_height (top left h wd : Int) (w : World) (h1 : 0 ≤ top ∧ top < 16) (h2 : 0 ≤ left ∧ left < 24) (h3 : ¬ (0 ≤ h ∧ h ≤ 16 - top)) :
    Calls Try.prog 30 #[.int .i64 top, .int .i64 left, .int .i64 h, .int .i64 wd] w fun e w' =>
      e = .returned (.tuple #[.slice none 0 0, .agg #[.int .i64 4, .int .i64 (-3)]]) ∧ Below w.heap.size w w' := by
  by_cases hn : h < 0
  · have d1 : decide (h < 0) = true := by simpa using hn
    go_enter Try.func30, Try.ntmps30
    go_wp2_with fail
    refine (ilCheck_ok _ _ _ h1 h2).mono ?_; rintro e w1 ⟨rfl, hb1⟩
    have F0 := (Has.new w 0 0 _).below hb1
    obtain ⟨l0, c00, c01, f00, f01⟩ := id F0
    go_wp2_with (go_at_call 34; refine (ilFault_any _ _ _).mono ?_; rintro e w' ⟨rfl, rfl⟩)
    exact bodyPost_ret (resF2 rfl rfl (((F0.set2 4 (-3)).al _).al _)) rfl ⟨rfl, Bw.al (Bw.al (Bw.set (Bw.set (Bw.step (below_new _ _) hb1) (Nat.le_refl _) _) (Nat.le_refl _) _) _) _⟩
  · have d1 : decide (h < 0) = false := by simpa using hn
    have d2 : 16 - top < h := by omega
    go_enter Try.func30, Try.ntmps30
    go_wp2_with fail
    refine (ilCheck_ok _ _ _ h1 h2).mono ?_; rintro e w1 ⟨rfl, hb1⟩
    have F0 := (Has.new w 0 0 _).below hb1
    obtain ⟨l0, c00, c01, f00, f01⟩ := id F0
    go_wp2_with (go_at_call 34; refine (ilFault_any _ _ _).mono ?_; rintro e w' ⟨rfl, rfl⟩)
    exact bodyPost_ret (resF2 rfl rfl (((F0.set2 4 (-3)).al _).al _)) rfl ⟨rfl, Bw.al (Bw.al (Bw.set (Bw.set (Bw.step (below_new _ _) hb1) (Nat.le_refl _) _) (Nat.le_refl _) _) _) _⟩
set_option maxRecDepth 100000 in
set_option maxHeartbeats 1000000 in
theorem ilMeets_width (top left h wd : Int) (w : World) (h1 : 0 ≤ top ∧ top < 16) (h2 : 0 ≤ left ∧ left < 24) (h3 : 0 ≤ h ∧ h ≤ 16 - top) (h4 : ¬ (0 ≤ wd ∧ wd ≤ 24 - left)) :
    Calls Try.prog 30 #[.int .i64 top, .int .i64 left, .int .i64 h, .int .i64 wd] w fun e w' =>
      e = .returned (.tuple #[.slice none 0 0, .agg #[.int .i64 4, .int .i64 (-4)]]) ∧ Below w.heap.size w w' := by
  have d0 : decide (h < 0) = false := by simp; omega
  have d3 : decide (16 - top < h) = false := by simp; omega
  by_cases hn : wd < 0
  · have d1 : decide (wd < 0) = true := by simpa using hn
    go_enter Try.func30, Try.ntmps30
    go_wp2_with fail
    refine (ilCheck_ok _ _ _ h1 h2).mono ?_; rintro e w1 ⟨rfl, hb1⟩
    have F0 := (Has.new w 0 0 _).below hb1
    obtain ⟨l0, c00, c01, f00, f01⟩ := id F0
    go_wp2_with (go_at_call 34; refine (ilFault_any _ _ _).mono ?_; rintro e w' ⟨rfl, rfl⟩)
    exact bodyPost_ret (resF2 rfl rfl (((F0.set2 4 (-4)).al _).al _)) rfl ⟨rfl, Bw.al (Bw.al (Bw.set (Bw.set (Bw.step (below_new _ _) hb1) (Nat.le_refl _) _) (Nat.le_refl _) _) _) _⟩
  · have d1 : decide (wd < 0) = false := by simpa using hn
    have d2 : 24 - left < wd := by omega
    go_enter Try.func30, Try.ntmps30
    go_wp2_with fail
    refine (ilCheck_ok _ _ _ h1 h2).mono ?_; rintro e w1 ⟨rfl, hb1⟩
    have F0 := (Has.new w 0 0 _).below hb1
    obtain ⟨l0, c00, c01, f00, f01⟩ := id F0
    go_wp2_with (go_at_call 34; refine (ilFault_any _ _ _).mono ?_; rintro e w' ⟨rfl, rfl⟩)
    exact bodyPost_ret (resF2 rfl rfl (((F0.set2 4 (-4)).al _).al _)) rfl ⟨rfl, Bw.al (Bw.al (Bw.set (Bw.set (Bw.step (below_new _ _) hb1) (Nat.le_refl _) _) (Nat.le_refl _) _) _) _⟩
theorem ilMeets_bad (top left h wd : Int) (w : World) (hk : ¬ ((0 ≤ top ∧ top ≤ 15) ∧ (0 ≤ left ∧ left ≤ 23) ∧ (0 ≤ h ∧ h ≤ 16 - top) ∧ (0 ≤ wd ∧ wd ≤ 24 - left))) :
    Calls Try.prog 30 #[.int .i64 top, .int .i64 left, .int .i64 h, .int .i64 wd] w fun e w' =>
      e = .returned (.tuple #[.slice none 0 0, .agg #[.int .i64 4, .int .i64 (mfI top left h wd)]]) ∧ Below w.heap.size w w' := by
  by_cases h1 : 0 ≤ top ∧ top < 16
  · by_cases h2 : 0 ≤ left ∧ left < 24
    · by_cases h3 : 0 ≤ h ∧ h ≤ 16 - top
      · have h4 : ¬ (0 ≤ wd ∧ wd ≤ 24 - left) := fun h4 => hk ⟨by omega, by omega, h3, h4⟩
        rw [mfI_w h1 h2 h3 h4]; exact ilMeets_width top left h wd w h1 h2 h3 h4
      · rw [mfI_h h1 h2 h3]; exact ilMeets_height top left h wd w h1 h2 h3
    · rw [mfI_col h1 h2]; exact ilMeets_check top left h wd _ w (.inr ⟨h1, h2, rfl⟩)
  · rw [mfI_row h1]; exact ilMeets_check top left h wd _ w (.inl ⟨h1, rfl⟩)

end Go.Proofs.Ytnajdmkdkpmdgaa
