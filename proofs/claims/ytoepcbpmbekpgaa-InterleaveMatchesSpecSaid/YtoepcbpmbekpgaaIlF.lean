/- The walk of the statement InterleaveMatchesSpec. -/
import Derived.Test.YtoepcbpmbekpgaaIlE
namespace Go.Proofs.Ytoepcbpmbekpgaa
open Go.RowKit
set_option linter.unusedVariables false

set_option maxRecDepth 100000 in
set_option maxHeartbeats 2000000 in
theorem placesBad (a b other last i : Int) (w : World) (h : (¬ (0 ≤ a ∧ a < 16) ∧ i = -1) ∨ ((0 ≤ a ∧ a < 16) ∧ ¬ (0 ≤ b ∧ b < 24) ∧ i = -2)) :
    Calls Try.prog 10 #[.int .i64 a, .int .i64 b, .int .i64 other, .int .i64 last] w fun e w' => e = .returned (.bool true) ∧ Below w.heap.size w w' := by
  rcases h with ⟨h1, rfl⟩ | ⟨h1, h2, rfl⟩
  · have i1 : inB a 0 15 = false := inB_false (by omega)
    have HA := Lib.hid h1
    clear h1
    go_enter Try.func10, Try.ntmps10
    go_wp2_with fail
    refine (ilPlace_bad _ _ (-1) _ (.inl ⟨HA.out, rfl⟩)).mono ?_; rintro e w1 ⟨rfl, hb1⟩
    go_wp2_with fail
    refine (ilSource_bad _ _ (-1) _ (.inl ⟨HA.out, rfl⟩)).mono ?_; rintro e w2 ⟨rfl, hb2⟩
    have F1 := (Has.new w1 4 (-1) _).below hb2
    obtain ⟨l1, c10, c11, f10, f11⟩ := id F1
    have m1 : w1.heap.size < w2.heap.size + 1 := by omega
    have m2 : w1.heap.size < w2.heap.size + 1 + 1 := by omega
    have m3 : w1.heap.size < w2.heap.size + 1 + 1 + 1 := by omega
    go_wp2_with (first | (go_at_call 31; refine (refAt_any _ _ _).mono ?_; rintro e w' ⟨rfl, rfl⟩) | (go_at_call 27; refine (refIn_any _ _ _ _).mono ?_; rintro e w' ⟨rfl, rfl⟩) | (go_at_call 24; refine (shifted_any _).mono ?_; rintro e w' ⟨rfl, hb5⟩))
    go_ret
    exact ⟨rfl, by (repeat (first | exact Below.refl _ _ | assumption | refine Bw.al ?_ _ | refine Bw.step ?_ (by assumption) | refine Bw.drew ?_))⟩
  · have i1 : inB a 0 15 = true := inB_true (by omega)
    have i2 : inB b 0 23 = false := inB_false (by omega)
    have HA := Lib.hid h2
    clear h2
    go_enter Try.func10, Try.ntmps10
    go_wp2_with fail
    refine (ilPlace_bad _ _ (-2) _ (.inr ⟨h1, HA.out, rfl⟩)).mono ?_; rintro e w1 ⟨rfl, hb1⟩
    go_wp2_with fail
    refine (ilSource_bad _ _ (-2) _ (.inr ⟨h1, HA.out, rfl⟩)).mono ?_; rintro e w2 ⟨rfl, hb2⟩
    have F1 := (Has.new w1 4 (-2) _).below hb2
    obtain ⟨l1, c10, c11, f10, f11⟩ := id F1
    have m1 : w1.heap.size < w2.heap.size + 1 := by omega
    have m2 : w1.heap.size < w2.heap.size + 1 + 1 := by omega
    have m3 : w1.heap.size < w2.heap.size + 1 + 1 + 1 := by omega
    go_wp2_with (first | (go_at_call 31; refine (refAt_any _ _ _).mono ?_; rintro e w' ⟨rfl, rfl⟩) | (go_at_call 27; refine (refIn_any _ _ _ _).mono ?_; rintro e w' ⟨rfl, rfl⟩) | (go_at_call 24; refine (shifted_any _).mono ?_; rintro e w' ⟨rfl, hb5⟩))
    go_ret
    exact ⟨rfl, by (repeat (first | exact Below.refl _ _ | assumption | refine Bw.al ?_ _ | refine Bw.step ?_ (by assumption) | refine Bw.drew ?_))⟩

theorem ilL_inj {a o b : Int} (ha : 0 ≤ a ∧ a < 16) (ho : 0 ≤ o ∧ o < 16) (h : ilL o b = ilL a b) : o = a := by unfold ilL at h; omega
theorem ilL_row (a b : Int) (ha : 0 ≤ a ∧ a < 16) : ilL ((a + 5 * b) % 16) b = a := by unfold ilL; omega
set_option maxRecDepth 100000 in
set_option maxHeartbeats 4000000 in
theorem placesOk (a b other last : Int) (w : World) (ha : 0 ≤ a ∧ a < 16) (hb : 0 ≤ b ∧ b < 24) :
    Calls Try.prog 10 #[.int .i64 a, .int .i64 b, .int .i64 other, .int .i64 last] w fun e w' => e = .returned (.bool true) ∧ Below w.heap.size w w' := by
  have i1 : inB a 0 15 = true := inB_true (by omega)
  have i2 : inB b 0 23 = true := inB_true (by omega)
  have hr : 0 ≤ (a + 5 * b) % 16 ∧ (a + 5 * b) % 16 < 16 := by omega
  have i3 : inB ((a + 5 * b) % 16) 0 15 = true := inB_true (by omega)
  have q1 : (ilL a b == ilL a b) = true := by simp
  have q2 : (b == b) = true := by simp
  have q3 : (ilL ((a + 5 * b) % 16) b == a) = true := by rw [ilL_row a b ha]; simp
  by_cases hk : (0 ≤ other ∧ other < 16) ∧ (0 ≤ last ∧ last < 24)
  · by_cases hl : last = b
    · subst hl
      by_cases ho : other = a
      · subst ho
        have q4 : (other == other) = true := by simp
        go_enter Try.func10, Try.ntmps10
        go_wp2_with fail
        refine (ilPlace_ok _ _ _ ha hb).mono ?_; rintro e w1 ⟨rfl, hb1⟩
        go_wp2_with fail
        refine (ilSource_ok _ _ _ ha hb).mono ?_; rintro e w2 ⟨rfl, hb2⟩
        have F1 := (Has.new w1 0 0 _).below hb2
        obtain ⟨l1, c10, c11, f10, f11⟩ := id F1
        go_wp2_with (first | (go_at_call 31; refine (refAt_any _ _ _).mono ?_; rintro e w' ⟨rfl, rfl⟩) | (go_at_call 27; refine (refIn_any _ _ _ _).mono ?_; rintro e w' ⟨rfl, rfl⟩))
        refine (ilPlace_ok _ _ _ ha hb).mono ?_; rintro e w3 ⟨rfl, hb3⟩
        have F1 := (((F1.al _).al _).al _).below hb3
        have F2 := (((Has.new w2 0 0 _).al _).al _).below hb3
        have F3 := (Has.new (((w2.alloc (.cells #[.int .i64 0, .int .i64 0] 27))).alloc (.cells #[.int .i64 0, .int .i64 0] 27)) 0 0 27).below hb3
        simp only [World.size_alloc] at F3
        clear l1 c10 c11 f10 f11
        obtain ⟨l1, c10, c11, f10, f11⟩ := id F1
        obtain ⟨l2, c20, c21, f20, f21⟩ := id F2
        obtain ⟨l3, c30, c31, f30, f31⟩ := id F3
        go_wp2_with (first | (go_at_call 27; refine (refIn_any _ _ _ _).mono ?_; rintro e w' ⟨rfl, rfl⟩) | (go_at_call 32; refine (refLine_any _ _ _ (by omega) (by omega)).mono ?_; rintro e w' ⟨rfl, rfl⟩) | (go_at_call 24; refine (shifted_any _).mono ?_; rintro e w' ⟨rfl, hb5⟩))
        go_ret
        exact ⟨rfl, by (repeat (first | exact Below.refl _ _ | assumption | refine Bw.al ?_ _ | refine Bw.step ?_ (by assumption) | refine Bw.drew ?_))⟩
      · have q4 : (ilL other last == ilL a last) = false := by rw [beq_eq_false_iff_ne]; exact fun e => ho (ilL_inj ha hk.1 e)
        have q5 : (other == a) = false := by rw [beq_eq_false_iff_ne]; exact ho
        clear ho
        go_enter Try.func10, Try.ntmps10
        go_wp2_with fail
        refine (ilPlace_ok _ _ _ ha hb).mono ?_; rintro e w1 ⟨rfl, hb1⟩
        go_wp2_with fail
        refine (ilSource_ok _ _ _ ha hb).mono ?_; rintro e w2 ⟨rfl, hb2⟩
        have F1 := (Has.new w1 0 0 _).below hb2
        obtain ⟨l1, c10, c11, f10, f11⟩ := id F1
        go_wp2_with (first | (go_at_call 31; refine (refAt_any _ _ _).mono ?_; rintro e w' ⟨rfl, rfl⟩) | (go_at_call 27; refine (refIn_any _ _ _ _).mono ?_; rintro e w' ⟨rfl, rfl⟩))
        refine (ilPlace_ok _ _ _ hk.1 hk.2).mono ?_; rintro e w3 ⟨rfl, hb3⟩
        have F1 := (((F1.al _).al _).al _).below hb3
        have F2 := (((Has.new w2 0 0 _).al _).al _).below hb3
        have F3 := (Has.new (((w2.alloc (.cells #[.int .i64 0, .int .i64 0] 27))).alloc (.cells #[.int .i64 0, .int .i64 0] 27)) 0 0 27).below hb3
        simp only [World.size_alloc] at F3
        clear l1 c10 c11 f10 f11
        obtain ⟨l1, c10, c11, f10, f11⟩ := id F1
        obtain ⟨l2, c20, c21, f20, f21⟩ := id F2
        obtain ⟨l3, c30, c31, f30, f31⟩ := id F3
        go_wp2_with (first | (go_at_call 27; refine (refIn_any _ _ _ _).mono ?_; rintro e w' ⟨rfl, rfl⟩) | (go_at_call 32; refine (refLine_any _ _ _ (by omega) (by omega)).mono ?_; rintro e w' ⟨rfl, rfl⟩) | (go_at_call 24; refine (shifted_any _).mono ?_; rintro e w' ⟨rfl, hb5⟩))
        go_ret
        exact ⟨rfl, by (repeat (first | exact Below.refl _ _ | assumption | refine Bw.al ?_ _ | refine Bw.step ?_ (by assumption) | refine Bw.drew ?_))⟩
    · have q4 : (last == b) = false := by rw [beq_eq_false_iff_ne]; exact hl
      clear hl
      by_cases hx : ilL other last = ilL a b
      all_goals
        first
          | (have q5 : (ilL other last == ilL a b) = true := by rw [beq_iff_eq]; exact hx)
          | (have q5 : (ilL other last == ilL a b) = false := by rw [beq_eq_false_iff_ne]; exact hx)
        clear hx
        by_cases ho : other = a
        all_goals
          first
            | (have q6 : (other == a) = true := by rw [beq_iff_eq]; exact ho)
            | (have q6 : (other == a) = false := by rw [beq_eq_false_iff_ne]; exact ho)
          clear ho
          go_enter Try.func10, Try.ntmps10
          go_wp2_with fail
          refine (ilPlace_ok _ _ _ ha hb).mono ?_; rintro e w1 ⟨rfl, hb1⟩
          go_wp2_with fail
          refine (ilSource_ok _ _ _ ha hb).mono ?_; rintro e w2 ⟨rfl, hb2⟩
          have F1 := (Has.new w1 0 0 _).below hb2
          obtain ⟨l1, c10, c11, f10, f11⟩ := id F1
          go_wp2_with (first | (go_at_call 31; refine (refAt_any _ _ _).mono ?_; rintro e w' ⟨rfl, rfl⟩) | (go_at_call 27; refine (refIn_any _ _ _ _).mono ?_; rintro e w' ⟨rfl, rfl⟩))
          refine (ilPlace_ok _ _ _ hk.1 hk.2).mono ?_; rintro e w3 ⟨rfl, hb3⟩
          have F1 := (((F1.al _).al _).al _).below hb3
          have F2 := (((Has.new w2 0 0 _).al _).al _).below hb3
          have F3 := (Has.new (((w2.alloc (.cells #[.int .i64 0, .int .i64 0] 27))).alloc (.cells #[.int .i64 0, .int .i64 0] 27)) 0 0 27).below hb3
          simp only [World.size_alloc] at F3
          clear l1 c10 c11 f10 f11
          obtain ⟨l1, c10, c11, f10, f11⟩ := id F1
          obtain ⟨l2, c20, c21, f20, f21⟩ := id F2
          obtain ⟨l3, c30, c31, f30, f31⟩ := id F3
          go_wp2_with (first | (go_at_call 27; refine (refIn_any _ _ _ _).mono ?_; rintro e w' ⟨rfl, rfl⟩) | (go_at_call 32; refine (refLine_any _ _ _ (by omega) (by omega)).mono ?_; rintro e w' ⟨rfl, rfl⟩) | (go_at_call 24; refine (shifted_any _).mono ?_; rintro e w' ⟨rfl, hb5⟩))
          go_ret
          exact ⟨rfl, by (repeat (first | exact Below.refl _ _ | assumption | refine Bw.al ?_ _ | refine Bw.step ?_ (by assumption) | refine Bw.drew ?_))⟩
  · obtain ⟨iz, hz⟩ : ∃ iz : Int, (¬ (0 ≤ other ∧ other < 16) ∧ iz = -1) ∨ ((0 ≤ other ∧ other < 16) ∧ ¬ (0 ≤ last ∧ last < 24) ∧ iz = -2) := by
      by_cases ho : 0 ≤ other ∧ other < 16
      · exact ⟨-2, .inr ⟨ho, fun h => hk ⟨ho, h⟩, rfl⟩⟩
      · exact ⟨-1, .inl ⟨ho, rfl⟩⟩
    have HK := Lib.hid hz
    clear hz hk
    go_enter Try.func10, Try.ntmps10
    go_wp2_with fail
    refine (ilPlace_ok _ _ _ ha hb).mono ?_; rintro e w1 ⟨rfl, hb1⟩
    go_wp2_with fail
    refine (ilSource_ok _ _ _ ha hb).mono ?_; rintro e w2 ⟨rfl, hb2⟩
    have F1 := (Has.new w1 0 0 _).below hb2
    obtain ⟨l1, c10, c11, f10, f11⟩ := id F1
    go_wp2_with (first | (go_at_call 31; refine (refAt_any _ _ _).mono ?_; rintro e w' ⟨rfl, rfl⟩) | (go_at_call 27; refine (refIn_any _ _ _ _).mono ?_; rintro e w' ⟨rfl, rfl⟩))
    refine (ilPlace_bad _ _ iz _ HK.out).mono ?_; rintro e w3 ⟨rfl, hb3⟩
    have F1 := (((F1.al _).al _).al _).below hb3
    have F2 := (((Has.new w2 0 0 _).al _).al _).below hb3
    have F3 := (Has.new (((w2.alloc (.cells #[.int .i64 0, .int .i64 0] 27))).alloc (.cells #[.int .i64 0, .int .i64 0] 27)) 0 0 27).below hb3
    simp only [World.size_alloc] at F3
    clear l1 c10 c11 f10 f11
    obtain ⟨l1, c10, c11, f10, f11⟩ := id F1
    obtain ⟨l2, c20, c21, f20, f21⟩ := id F2
    obtain ⟨l3, c30, c31, f30, f31⟩ := id F3
    go_wp2_with (first | (go_at_call 27; refine (refIn_any _ _ _ _).mono ?_; rintro e w' ⟨rfl, rfl⟩) | (go_at_call 32; refine (refLine_any _ _ _ (by omega) (by omega)).mono ?_; rintro e w' ⟨rfl, rfl⟩) | (go_at_call 24; refine (shifted_any _).mono ?_; rintro e w' ⟨rfl, hb5⟩))
    go_ret
    exact ⟨rfl, by (repeat (first | exact Below.refl _ _ | assumption | refine Bw.al ?_ _ | refine Bw.step ?_ (by assumption) | refine Bw.drew ?_))⟩

theorem walkInterleaveMatchesSpec (a b other last : Int) (w : World) (w0 : (Lit.int .i64 a).wf = true) (w1 : (Lit.int .i64 b).wf = true) (w2 : (Lit.int .i64 other).wf = true) (w3 : (Lit.int .i64 last).wf = true) :
    Calls Try.prog 10 #[.int .i64 a, .int .i64 b, .int .i64 other, .int .i64 last] w fun e w' => e = .returned (.bool true) ∧ Below w.heap.size w w' := by
  by_cases ha : 0 ≤ a ∧ a < 16
  · by_cases hb : 0 ≤ b ∧ b < 24
    · exact placesOk a b other last w ha hb
    · exact placesBad a b other last _ w (.inr ⟨ha, hb, rfl⟩)
  · exact placesBad a b other last _ w (.inl ⟨ha, rfl⟩)
end Go.Proofs.Ytoepcbpmbekpgaa
