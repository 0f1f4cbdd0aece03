/- The walks of the statements TintShadesMatchSpec. -/
import Derived.Test.YtbhcjgjeedhnaaaTiF
namespace Go.Proofs.Ytbhcjgjeedhnaaa
open Go.RowKit
set_option linter.unusedVariables false

theorem wfi64 {a : Int} (h : (Lit.int .i64 a).wf = true) : -9223372036854775808 ≤ a ∧ a ≤ 9223372036854775807 := by
  simp [Lit.wf, IntKind.min, IntKind.max, IntKind.signed, IntKind.bits] at h
  omega
theorem inT {n lo hi : Int} (h : lo ≤ n ∧ n ≤ hi) : inB n lo hi = true := by unfold inB; simp only [decide_eq_true_eq]; exact h
theorem inF {n lo hi : Int} (h : ¬ (lo ≤ n ∧ n ≤ hi)) : inB n lo hi = false := by unfold inB; simp only [decide_eq_false_iff_not]; exact h
set_option maxRecDepth 100000 in
set_option maxHeartbeats 1000000 in
theorem walkShadesBad (k s lv : Int) (w : World) (h2 : lv ≠ 2) (h4 : lv ≠ 4) :
    Calls Try.prog 3 #[.int .i64 k, .int .i64 s, .int .i64 lv] w fun e w' => e = .returned (.bool true) ∧ Below w.heap.size w w' := by
  have x2 : (lv != 2) = true := by simpa using h2
  have x4 : (lv != 4) = true := by simpa using h4
  go_enter Try.func3, Try.ntmps3
  go_wp2_with fail
  refine (tiShade_bad _ _ _ h2 h4).mono ?_; rintro e w1 ⟨rfl, hb1⟩
  go_wp2_with fail
  refine (tiLevel_bad _ _ _ h2 h4).mono ?_; rintro e w2 ⟨rfl, hb2⟩
  have F1 := ((Has.new w1 4 (-2) 23).below hb2).al (.cells #[.int .i64 4, .int .i64 (-2)] 23)
  have F2 := Has.new w2 4 (-2) 23
  have BW : Below w.heap.size w (w2.alloc (.cells #[.int .i64 4, .int .i64 (-2)] 23)) := by (repeat (first | exact Below.refl _ _ | assumption | refine Bw.al ?_ _ | refine Bw.step ?_ (by assumption) | refine Bw.drew ?_))
  go_wp2
  generalize w2.alloc (.cells #[.int .i64 4, .int .i64 (-2)] 23) = W at *
  generalize w1.heap.size = b1 at *
  generalize w2.heap.size = b2 at *
  have X1 := F1.ext
  have X2 := F2.ext
  (refine wp_region_ext (by kernel_rfl) (by kernel_rfl) ?_; (repeat (go_big_quiet_step ((first | (go_at_call 10; exact ext_alloc (refAt_any _ _ _)) | (go_at_call 11; exact ext_call (tinted_any _)))))); refine wpQuiet_nil ?_; intro W2 hw'; have hW2 := ext_below hw'; clear hw')
  go_wp2
  go_ret
  exact ⟨rfl, Bw.step BW hW2⟩
set_option maxRecDepth 100000 in
set_option maxHeartbeats 1000000 in
theorem walkShades2 (k s : Int) (w : World) (wk : -9223372036854775808 ≤ k ∧ k ≤ 9223372036854775807) (ws : -9223372036854775808 ≤ s ∧ s ≤ 9223372036854775807) :
    Calls Try.prog 3 #[.int .i64 k, .int .i64 s, .int .i64 2] w fun e w' => e = .returned (.bool true) ∧ Below w.heap.size w w' := by
  have C1 : ∃ v c i, (∀ w : World, Calls Try.prog 8 #[.int .i64 k, .int .i64 2] w fun e w' => e = .returned (.tuple #[.int .i64 v, .agg #[.int .i64 c, .int .i64 i]]) ∧ Below w.heap.size w w') ∧ ((∃ n : Nat, n < 2 ∧ k = n ∧ v = (shN n 2 : Nat) ∧ c = 0 ∧ i = 0) ∨ (¬ (0 ≤ k ∧ k ≤ 1) ∧ v = 0 ∧ c = 4 ∧ i = -1)) := by
    by_cases hk : 0 ≤ k ∧ k < 2
    · obtain ⟨n, rfl⟩ := Int.eq_ofNat_of_zero_le hk.1
      exact ⟨_, _, _, fun w => tiShade2 n w (by omega), .inl ⟨n, by omega, rfl, rfl, rfl, rfl⟩⟩
    · exact ⟨_, _, _, fun w => tiShadeOut2 k w hk, .inr ⟨by omega, rfl, rfl, rfl⟩⟩
  obtain ⟨v, c, i, HC1, hcase⟩ := C1
  have D1 := Lib.hid HC1
  clear HC1
  have C2 : ∃ v2 d2 c2 i2, (∀ w : World, Calls Try.prog 9 #[.int .i64 s, .int .i64 2] w fun e w' => e = .returned (.tuple #[.int .i64 v2, .int .i64 d2, .agg #[.int .i64 c2, .int .i64 i2]]) ∧ Below w.heap.size w w') ∧ ((∃ n : Nat, n < 256 ∧ s = n ∧ v2 = ((near n 2 2).1 : Nat) ∧ d2 = ((near n 2 2).2 : Nat) ∧ c2 = 0 ∧ i2 = 0) ∨ (¬ (0 ≤ s ∧ s ≤ 255) ∧ v2 = 0 ∧ d2 = 0 ∧ c2 = 4 ∧ i2 = -1)) := by
    by_cases hk : 0 ≤ s ∧ s ≤ 255
    · obtain ⟨n, rfl⟩ := Int.eq_ofNat_of_zero_le hk.1
      exact ⟨_, _, _, _, fun w => tiLevel2 n w (by omega), .inl ⟨n, by omega, rfl, rfl, rfl, rfl, rfl⟩⟩
    · exact ⟨_, _, _, _, fun w => tiLevelOut2 s w hk, .inr ⟨hk, rfl, rfl, rfl, rfl⟩⟩
  obtain ⟨v2, d2, c2, i2, HC2, hcase2⟩ := C2
  have D2 := Lib.hid HC2
  clear HC2
  rcases hcase with ⟨n, hn, rfl, rfl, rfl, rfl⟩ | ⟨hk, rfl, rfl, rfl⟩
  · have i1 := inT (n := (n : Int)) (lo := 0) (hi := 1) (by omega)
    go_enter Try.func3, Try.ntmps3
    go_wp2_with fail
    refine (D1.out _).mono ?_; rintro e w1 ⟨rfl, hb1⟩
    go_wp2_with fail
    refine (D2.out _).mono ?_; rintro e w2 ⟨rfl, hb2⟩
    have F1 := ((Has.new w1 0 0 23).below hb2).al (.cells #[.int .i64 c2, .int .i64 i2] 23)
    have F2 := Has.new w2 c2 i2 23
    have BW := Bw.al (Bw.step (Bw.al hb1 (.cells #[.int .i64 0, .int .i64 0] 23)) hb2) (.cells #[.int .i64 c2, .int .i64 i2] 23)
    clear hb1 hb2 D1 D2
    obtain ⟨l1, c10, c11, f10, f11⟩ := id F1
    go_wp2_with (go_at_call 12; refine (refIn_any _ _ _ _).mono ?_; rintro e w' ⟨rfl, rfl⟩)
    refine (rShades2 _).mono ?_; rintro e w3 ⟨A3, rfl, hR, hb3⟩
    obtain ⟨b3, o3, rfl, hl3, hc3⟩ := hR.at hn
    rw [shadesT_get hn] at hc3
    replace F1 := F1.below hb3
    replace F2 := F2.below hb3
    replace BW := Bw.step BW hb3
    clear hR hb3 l1 c10 c11 f10 f11
    generalize shN n 2 = t at *
    go_wp2
    have X1 := F1.ext
    (refine wp_region_ext (by kernel_rfl) (by kernel_rfl) ?_; (repeat (go_big_quiet_step ((first | (go_at_call 10; exact ext_alloc (refAt_any _ _ _)) | (go_at_call 12; exact ext_same (refIn_any _ _ _ _)))))); refine wpQuiet_nil ?_; intro W4 hw'; have hW4 := ext_below hw'; clear hw')
    replace F2 := F2.below hW4
    replace BW := Bw.step BW hW4
    clear X1 F1 hW4 hc3
    rcases hcase2 with ⟨m, hm, rfl, rfl, rfl, rfl, rfl⟩ | ⟨hs, rfl, rfl, rfl, rfl⟩
    · have i2 := inT (n := (m : Int)) (lo := 0) (hi := 255) (by omega)
      obtain ⟨l2, c20, c21, f20, f21⟩ := id F2
      go_wp2_with (go_at_call 12; refine (refIn_any _ _ _ _).mono ?_; rintro e w' ⟨rfl, rfl⟩)
      refine (rNearest2 _ _ hm).mono ?_; rintro e w5 ⟨rfl, hb5⟩
      replace F2 := F2.below hb5
      replace BW := Bw.step BW hb5
      clear l2 c20 c21 f20 f21
      obtain ⟨l2, c20, c21, f20, f21⟩ := id F2
      go_wp2_with (go_at_call 11; refine (tinted_any _).mono ?_; rintro e w' ⟨rfl, hb6⟩)
      go_ret
      exact ⟨rfl, Bw.step BW hb6⟩
    · have i2 := inF hs
      go_wp2_with (go_at_call 12; refine (refIn_any _ _ _ _).mono ?_; rintro e w' ⟨rfl, rfl⟩)
      have X2 := F2.ext
      (refine wp_region_ext (by kernel_rfl) (by kernel_rfl) ?_; (repeat (go_big_quiet_step ((first | (go_at_call 10; exact ext_alloc (refAt_any _ _ _)) | (go_at_call 11; exact ext_call (tinted_any _)))))); refine wpQuiet_nil ?_; intro W6 hw'; have hW6 := ext_below hw'; clear hw')
      go_wp2
      go_ret
      exact ⟨rfl, Bw.step BW hW6⟩
  · have i1 := inF hk
    go_enter Try.func3, Try.ntmps3
    go_wp2_with fail
    refine (D1.out _).mono ?_; rintro e w1 ⟨rfl, hb1⟩
    go_wp2_with fail
    refine (D2.out _).mono ?_; rintro e w2 ⟨rfl, hb2⟩
    have F1 := ((Has.new w1 4 (-1) 23).below hb2).al (.cells #[.int .i64 c2, .int .i64 i2] 23)
    have F2 := Has.new w2 c2 i2 23
    have BW := Bw.al (Bw.step (Bw.al hb1 (.cells #[.int .i64 4, .int .i64 (-1)] 23)) hb2) (.cells #[.int .i64 c2, .int .i64 i2] 23)
    clear hb1 hb2 D1 D2
    obtain ⟨l1, c10, c11, f10, f11⟩ := id F1
    go_wp2_with (go_at_call 12; refine (refIn_any _ _ _ _).mono ?_; rintro e w' ⟨rfl, rfl⟩)
    have X1 := F1.ext
    (refine wp_region_ext (by kernel_rfl) (by kernel_rfl) ?_; (repeat (go_big_quiet_step ((first | (go_at_call 10; exact ext_alloc (refAt_any _ _ _)) | (go_at_call 12; exact ext_same (refIn_any _ _ _ _)))))); refine wpQuiet_nil ?_; intro W4 hw'; have hW4 := ext_below hw'; clear hw')
    replace F2 := F2.below hW4
    replace BW := Bw.step BW hW4
    clear X1 F1 hW4 l1 c10 c11 f10 f11
    rcases hcase2 with ⟨m, hm, rfl, rfl, rfl, rfl, rfl⟩ | ⟨hs, rfl, rfl, rfl, rfl⟩
    · have i2 := inT (n := (m : Int)) (lo := 0) (hi := 255) (by omega)
      obtain ⟨l2, c20, c21, f20, f21⟩ := id F2
      go_wp2_with (go_at_call 12; refine (refIn_any _ _ _ _).mono ?_; rintro e w' ⟨rfl, rfl⟩)
      refine (rNearest2 _ _ hm).mono ?_; rintro e w5 ⟨rfl, hb5⟩
      replace F2 := F2.below hb5
      replace BW := Bw.step BW hb5
      clear l2 c20 c21 f20 f21
      obtain ⟨l2, c20, c21, f20, f21⟩ := id F2
      go_wp2_with (go_at_call 11; refine (tinted_any _).mono ?_; rintro e w' ⟨rfl, hb6⟩)
      go_ret
      exact ⟨rfl, Bw.step BW hb6⟩
    · have i2 := inF hs
      go_wp2_with (go_at_call 12; refine (refIn_any _ _ _ _).mono ?_; rintro e w' ⟨rfl, rfl⟩)
      have X2 := F2.ext
      (refine wp_region_ext (by kernel_rfl) (by kernel_rfl) ?_; (repeat (go_big_quiet_step ((first | (go_at_call 10; exact ext_alloc (refAt_any _ _ _)) | (go_at_call 11; exact ext_call (tinted_any _)))))); refine wpQuiet_nil ?_; intro W6 hw'; have hW6 := ext_below hw'; clear hw')
      go_wp2
      go_ret
      exact ⟨rfl, Bw.step BW hW6⟩
set_option maxRecDepth 100000 in
set_option maxHeartbeats 1000000 in
theorem walkShades4 (k s : Int) (w : World) (wk : -9223372036854775808 ≤ k ∧ k ≤ 9223372036854775807) (ws : -9223372036854775808 ≤ s ∧ s ≤ 9223372036854775807) :
    Calls Try.prog 3 #[.int .i64 k, .int .i64 s, .int .i64 4] w fun e w' => e = .returned (.bool true) ∧ Below w.heap.size w w' := by
  have C1 : ∃ v c i, (∀ w : World, Calls Try.prog 8 #[.int .i64 k, .int .i64 4] w fun e w' => e = .returned (.tuple #[.int .i64 v, .agg #[.int .i64 c, .int .i64 i]]) ∧ Below w.heap.size w w') ∧ ((∃ n : Nat, n < 4 ∧ k = n ∧ v = (shN n 4 : Nat) ∧ c = 0 ∧ i = 0) ∨ (¬ (0 ≤ k ∧ k ≤ 3) ∧ v = 0 ∧ c = 4 ∧ i = -1)) := by
    by_cases hk : 0 ≤ k ∧ k < 4
    · obtain ⟨n, rfl⟩ := Int.eq_ofNat_of_zero_le hk.1
      exact ⟨_, _, _, fun w => tiShade4 n w (by omega), .inl ⟨n, by omega, rfl, rfl, rfl, rfl⟩⟩
    · exact ⟨_, _, _, fun w => tiShadeOut4 k w hk, .inr ⟨by omega, rfl, rfl, rfl⟩⟩
  obtain ⟨v, c, i, HC1, hcase⟩ := C1
  have D1 := Lib.hid HC1
  clear HC1
  have C2 : ∃ v2 d2 c2 i2, (∀ w : World, Calls Try.prog 9 #[.int .i64 s, .int .i64 4] w fun e w' => e = .returned (.tuple #[.int .i64 v2, .int .i64 d2, .agg #[.int .i64 c2, .int .i64 i2]]) ∧ Below w.heap.size w w') ∧ ((∃ n : Nat, n < 256 ∧ s = n ∧ v2 = ((near n 4 4).1 : Nat) ∧ d2 = ((near n 4 4).2 : Nat) ∧ c2 = 0 ∧ i2 = 0) ∨ (¬ (0 ≤ s ∧ s ≤ 255) ∧ v2 = 0 ∧ d2 = 0 ∧ c2 = 4 ∧ i2 = -1)) := by
    by_cases hk : 0 ≤ s ∧ s ≤ 255
    · obtain ⟨n, rfl⟩ := Int.eq_ofNat_of_zero_le hk.1
      exact ⟨_, _, _, _, fun w => tiLevel4 n w (by omega), .inl ⟨n, by omega, rfl, rfl, rfl, rfl, rfl⟩⟩
    · exact ⟨_, _, _, _, fun w => tiLevelOut4 s w hk, .inr ⟨hk, rfl, rfl, rfl, rfl⟩⟩
  obtain ⟨v2, d2, c2, i2, HC2, hcase2⟩ := C2
  have D2 := Lib.hid HC2
  clear HC2
  rcases hcase with ⟨n, hn, rfl, rfl, rfl, rfl⟩ | ⟨hk, rfl, rfl, rfl⟩
  · have i1 := inT (n := (n : Int)) (lo := 0) (hi := 3) (by omega)
    go_enter Try.func3, Try.ntmps3
    go_wp2_with fail
    refine (D1.out _).mono ?_; rintro e w1 ⟨rfl, hb1⟩
    go_wp2_with fail
    refine (D2.out _).mono ?_; rintro e w2 ⟨rfl, hb2⟩
    have F1 := ((Has.new w1 0 0 23).below hb2).al (.cells #[.int .i64 c2, .int .i64 i2] 23)
    have F2 := Has.new w2 c2 i2 23
    have BW := Bw.al (Bw.step (Bw.al hb1 (.cells #[.int .i64 0, .int .i64 0] 23)) hb2) (.cells #[.int .i64 c2, .int .i64 i2] 23)
    clear hb1 hb2 D1 D2
    obtain ⟨l1, c10, c11, f10, f11⟩ := id F1
    go_wp2_with (go_at_call 12; refine (refIn_any _ _ _ _).mono ?_; rintro e w' ⟨rfl, rfl⟩)
    refine (rShades4 _).mono ?_; rintro e w3 ⟨A3, rfl, hR, hb3⟩
    obtain ⟨b3, o3, rfl, hl3, hc3⟩ := hR.at hn
    rw [shadesT_get hn] at hc3
    replace F1 := F1.below hb3
    replace F2 := F2.below hb3
    replace BW := Bw.step BW hb3
    clear hR hb3 l1 c10 c11 f10 f11
    generalize shN n 4 = t at *
    go_wp2
    have X1 := F1.ext
    (refine wp_region_ext (by kernel_rfl) (by kernel_rfl) ?_; (repeat (go_big_quiet_step ((first | (go_at_call 10; exact ext_alloc (refAt_any _ _ _)) | (go_at_call 12; exact ext_same (refIn_any _ _ _ _)))))); refine wpQuiet_nil ?_; intro W4 hw'; have hW4 := ext_below hw'; clear hw')
    replace F2 := F2.below hW4
    replace BW := Bw.step BW hW4
    clear X1 F1 hW4 hc3
    rcases hcase2 with ⟨m, hm, rfl, rfl, rfl, rfl, rfl⟩ | ⟨hs, rfl, rfl, rfl, rfl⟩
    · have i2 := inT (n := (m : Int)) (lo := 0) (hi := 255) (by omega)
      obtain ⟨l2, c20, c21, f20, f21⟩ := id F2
      go_wp2_with (go_at_call 12; refine (refIn_any _ _ _ _).mono ?_; rintro e w' ⟨rfl, rfl⟩)
      refine (rNearest4 _ _ hm).mono ?_; rintro e w5 ⟨rfl, hb5⟩
      replace F2 := F2.below hb5
      replace BW := Bw.step BW hb5
      clear l2 c20 c21 f20 f21
      obtain ⟨l2, c20, c21, f20, f21⟩ := id F2
      go_wp2_with (go_at_call 11; refine (tinted_any _).mono ?_; rintro e w' ⟨rfl, hb6⟩)
      go_ret
      exact ⟨rfl, Bw.step BW hb6⟩
    · have i2 := inF hs
      go_wp2_with (go_at_call 12; refine (refIn_any _ _ _ _).mono ?_; rintro e w' ⟨rfl, rfl⟩)
      have X2 := F2.ext
      (refine wp_region_ext (by kernel_rfl) (by kernel_rfl) ?_; (repeat (go_big_quiet_step ((first | (go_at_call 10; exact ext_alloc (refAt_any _ _ _)) | (go_at_call 11; exact ext_call (tinted_any _)))))); refine wpQuiet_nil ?_; intro W6 hw'; have hW6 := ext_below hw'; clear hw')
      go_wp2
      go_ret
      exact ⟨rfl, Bw.step BW hW6⟩
  · have i1 := inF hk
    go_enter Try.func3, Try.ntmps3
    go_wp2_with fail
    refine (D1.out _).mono ?_; rintro e w1 ⟨rfl, hb1⟩
    go_wp2_with fail
    refine (D2.out _).mono ?_; rintro e w2 ⟨rfl, hb2⟩
    have F1 := ((Has.new w1 4 (-1) 23).below hb2).al (.cells #[.int .i64 c2, .int .i64 i2] 23)
    have F2 := Has.new w2 c2 i2 23
    have BW := Bw.al (Bw.step (Bw.al hb1 (.cells #[.int .i64 4, .int .i64 (-1)] 23)) hb2) (.cells #[.int .i64 c2, .int .i64 i2] 23)
    clear hb1 hb2 D1 D2
    obtain ⟨l1, c10, c11, f10, f11⟩ := id F1
    go_wp2_with (go_at_call 12; refine (refIn_any _ _ _ _).mono ?_; rintro e w' ⟨rfl, rfl⟩)
    have X1 := F1.ext
    (refine wp_region_ext (by kernel_rfl) (by kernel_rfl) ?_; (repeat (go_big_quiet_step ((first | (go_at_call 10; exact ext_alloc (refAt_any _ _ _)) | (go_at_call 12; exact ext_same (refIn_any _ _ _ _)))))); refine wpQuiet_nil ?_; intro W4 hw'; have hW4 := ext_below hw'; clear hw')
    replace F2 := F2.below hW4
    replace BW := Bw.step BW hW4
    clear X1 F1 hW4 l1 c10 c11 f10 f11
    rcases hcase2 with ⟨m, hm, rfl, rfl, rfl, rfl, rfl⟩ | ⟨hs, rfl, rfl, rfl, rfl⟩
    · have i2 := inT (n := (m : Int)) (lo := 0) (hi := 255) (by omega)
      obtain ⟨l2, c20, c21, f20, f21⟩ := id F2
      go_wp2_with (go_at_call 12; refine (refIn_any _ _ _ _).mono ?_; rintro e w' ⟨rfl, rfl⟩)
      refine (rNearest4 _ _ hm).mono ?_; rintro e w5 ⟨rfl, hb5⟩
      replace F2 := F2.below hb5
      replace BW := Bw.step BW hb5
      clear l2 c20 c21 f20 f21
      obtain ⟨l2, c20, c21, f20, f21⟩ := id F2
      go_wp2_with (go_at_call 11; refine (tinted_any _).mono ?_; rintro e w' ⟨rfl, hb6⟩)
      go_ret
      exact ⟨rfl, Bw.step BW hb6⟩
    · have i2 := inF hs
      go_wp2_with (go_at_call 12; refine (refIn_any _ _ _ _).mono ?_; rintro e w' ⟨rfl, rfl⟩)
      have X2 := F2.ext
      (refine wp_region_ext (by kernel_rfl) (by kernel_rfl) ?_; (repeat (go_big_quiet_step ((first | (go_at_call 10; exact ext_alloc (refAt_any _ _ _)) | (go_at_call 11; exact ext_call (tinted_any _)))))); refine wpQuiet_nil ?_; intro W6 hw'; have hW6 := ext_below hw'; clear hw')
      go_wp2
      go_ret
      exact ⟨rfl, Bw.step BW hW6⟩
theorem walkTintShadesMatchSpec (k s lv : Int) (w : World) (w0 : (Lit.int .i64 k).wf = true) (w1 : (Lit.int .i64 s).wf = true) (w2 : (Lit.int .i64 lv).wf = true) :
    Calls Try.prog 3 #[.int .i64 k, .int .i64 s, .int .i64 lv] w fun e w' => e = .returned (.bool true) ∧ Below w.heap.size w w' := by
  by_cases h2 : lv = 2
  · subst h2; exact walkShades2 k s w (wfi64 w0) (wfi64 w1)
  · by_cases h4 : lv = 4
    · subst h4; exact walkShades4 k s w (wfi64 w0) (wfi64 w1)
    · exact walkShadesBad k s lv w h2 h4
end Go.Proofs.Ytbhcjgjeedhnaaa
