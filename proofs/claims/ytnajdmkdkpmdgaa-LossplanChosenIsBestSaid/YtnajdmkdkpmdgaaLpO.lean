/- The walk of the law LossplanBearsLess. -/
import Derived.Test.YtnajdmkdkpmdgaaLpN
namespace Go.Proofs.Ytnajdmkdkpmdgaa
open Go.RowKit
set_option linter.unusedVariables false

theorem wf64' {a : Int} (h : (Lit.int .i64 a).wf = true) : -9223372036854775808 ≤ a ∧ a ≤ 9223372036854775807 := by
  simp [Lit.wf, IntKind.min, IntKind.max, IntKind.signed, IntKind.bits] at h
  omega
/-- A plan that bears losses bears lesser ones. -/
theorem bearB_less {r c d p m x S r' c' d' p' m' x' S' t u t' u' : Int} {H W H' W' : Nat} (h1 : plF r c d p = (0, 0)) (h2 : plF r' c' d' p' = (0, 0)) (h3 : loF m x H W S = (0, 0)) (h4 : loF m' x' H' W' S' = (0, 0))
    (ht : r.tdiv 2 = t) (hu : c.tdiv 2 = u) (ht' : r'.tdiv 2 = t') (hu' : c'.tdiv 2 = u') (e1 : r ≤ r') (e2 : c ≤ c') (e3 : p ≤ p') (e4 : m' ≤ m) (e5 : x' ≤ x) (e6 : H' ≤ H) (e7 : W' ≤ W) (e8 : S' ≤ S) :
    bearB p m x t u H W S = true → bearB p' m' x' t' u' H' W' S' = true := by
  obtain ⟨a1, a2, _, _⟩ := plF_ok h1
  obtain ⟨b1, b2, _, _⟩ := plF_ok h2
  obtain ⟨c1, c2, c3, c4, c5⟩ := loF_ok h3
  obtain ⟨d1, d2, d3, d4, d5⟩ := loF_ok h4
  rw [Int.tdiv_eq_ediv_of_nonneg a1.1] at ht
  rw [Int.tdiv_eq_ediv_of_nonneg a2.1] at hu
  rw [Int.tdiv_eq_ediv_of_nonneg b1.1] at ht'
  rw [Int.tdiv_eq_ediv_of_nonneg b2.1] at hu'
  unfold bearB
  rw [Bool.and_eq_true, Bool.and_eq_true, decide_eq_true_eq, decide_eq_true_eq]
  rintro ⟨h5, h6⟩
  exact ⟨by omega, pageB_less h6 (by omega) (by omega) e6 e7 d5.1 e8 (by omega) (by omega)⟩
abbrev plC (r c d p : Int) : Obj := .cells #[.int .i64 r, .int .i64 c, .int .i64 d, .int .i64 p] 23
abbrev loC (m x h v s : Int) : Obj := .cells #[.int .i64 m, .int .i64 x, .int .i64 h, .int .i64 v, .int .i64 s] 25
/-- The four arguments of the law, laid in memory. -/
structure Four (w wr : World) (r c d p m x h v s r' c' d' p' m' x' h' v' s' : Int) : Prop where
  a : H4 wr w.heap.size r c d p
  b : H5 wr (w.heap.size + 1) m x h v s
  c : H4 wr (w.heap.size + 1 + 1) r' c' d' p'
  d : H5 wr (w.heap.size + 1 + 1 + 1) m' x' h' v' s'
  bw : Below w.heap.size w wr
theorem Four.new (w : World) (r c d p m x h v s r' c' d' p' m' x' h' v' s' : Int) : Four w ((((w.alloc (plC r c d p)).alloc (loC m x h v s)).alloc (plC r' c' d' p')).alloc (loC m' x' h' v' s')) r c d p m x h v s r' c' d' p' m' x' h' v' s' := by
  have h2 := H5.new (w.alloc (plC r c d p)) m x h v s 25
  have h3 := H4.new ((w.alloc (plC r c d p)).alloc (loC m x h v s)) r' c' d' p' 23
  have h4 := H5.new (((w.alloc (plC r c d p)).alloc (loC m x h v s)).alloc (plC r' c' d' p')) m' x' h' v' s' 25
  simp only [World.size_alloc] at h2 h3 h4
  exact ⟨(((H4.new w r c d p 23).al _).al _).al _, (h2.al _).al _, h3.al _, h4, by (repeat (first | exact Below.refl _ _ | assumption | refine Bw.al ?_ _ | refine Bw.step ?_ (by assumption) | refine Bw.drew ?_))⟩
theorem Four.below {w wr wr' : World} {r c d p m x h v s r' c' d' p' m' x' h' v' s' : Int} (f : Four w wr r c d p m x h v s r' c' d' p' m' x' h' v' s') (hb : Below wr.heap.size wr wr') : Four w wr' r c d p m x h v s r' c' d' p' m' x' h' v' s' :=
  ⟨f.a.below hb, f.b.below hb, f.c.below hb, f.d.below hb, Bw.step f.bw hb⟩
theorem Four.al {w wr : World} {r c d p m x h v s r' c' d' p' m' x' h' v' s' : Int} (f : Four w wr r c d p m x h v s r' c' d' p' m' x' h' v' s') (o : Obj) : Four w (wr.alloc o) r c d p m x h v s r' c' d' p' m' x' h' v' s' := f.below (below_new _ _)
set_option maxRecDepth 100000 in
set_option maxHeartbeats 8000000 in
theorem walkLossplanBearsLess (r c d p m x h v s r' c' d' p' m' x' h' v' s' : Int) (w : World) (w0 : (Lit.int .i64 r).wf = true ∧ (Lit.int .i64 c).wf = true ∧ (Lit.int .i64 d).wf = true ∧ (Lit.int .i64 p).wf = true) (w1 : (Lit.int .i64 m).wf = true ∧ (Lit.int .i64 x).wf = true ∧ (Lit.int .i64 h).wf = true ∧ (Lit.int .i64 v).wf = true ∧ (Lit.int .i64 s).wf = true) (w2 : (Lit.int .i64 r').wf = true ∧ (Lit.int .i64 c').wf = true ∧ (Lit.int .i64 d').wf = true ∧ (Lit.int .i64 p').wf = true) (w3 : (Lit.int .i64 m').wf = true ∧ (Lit.int .i64 x').wf = true ∧ (Lit.int .i64 h').wf = true ∧ (Lit.int .i64 v').wf = true ∧ (Lit.int .i64 s').wf = true) :
    Calls Try.prog 5 #[plV r c d p, loV m x h v s, plV r' c' d' p', loV m' x' h' v' s'] w fun e w' => e = .returned (.bool true) ∧ Below w.heap.size w w' := by
  clear w0 w1 w2 w3
  have F0 := Four.new w r c d p m x h v s r' c' d' p' m' x' h' v' s'
  have HP := Lib.hid (fun w => rPlanFault_any r c d p w)
  by_cases h1 : plF r c d p = (0, 0)
  · rw [h1] at HP
    have HQ := Lib.hid (fun w => rPlanFault_any r' c' d' p' w)
    by_cases h2 : plF r' c' d' p' = (0, 0)
    · rw [h2] at HQ
      have HL := Lib.hid (fun w => rLossesFault_any m x h v s w)
      by_cases h3 : loF m x h v s = (0, 0)
      · rw [h3] at HL
        have HM := Lib.hid (fun w => rLossesFault_any m' x' h' v' s' w)
        by_cases h4 : loF m' x' h' v' s' = (0, 0)
        · rw [h4] at HM
          go_enter Try.func5, Try.ntmps5
          obtain ⟨la, ⟨a0, a1, a2, a3⟩, _⟩ := id F0.a
          go_wp2_with fail
          refine (HP.out _).mono ?_
          rintro e w1 ⟨rfl, hb1⟩
          have F1 := F0.below hb1
          clear la a0 a1 a2 a3
          obtain ⟨lc, ⟨c0, c1, c2, c3⟩, _⟩ := id F1.c
          go_wp2_with fail
          refine (HQ.out _).mono ?_
          rintro e w2 ⟨rfl, hb2⟩
          have F2 := F1.below hb2
          clear lc c0 c1 c2 c3
          obtain ⟨lb, b0, b1, b2, b3, b4⟩ := id F2.b
          go_wp2_with fail
          refine (HL.out _).mono ?_
          rintro e w3 ⟨rfl, hb3⟩
          have F3 := F2.below hb3
          clear lb b0 b1 b2 b3 b4
          obtain ⟨ld, d0, d1, d2, d3, d4⟩ := id F3.d
          go_wp2_with fail
          refine (HM.out _).mono ?_
          rintro e w4 ⟨rfl, hb4⟩
          have F4 := F3.below hb4
          clear ld d0 d1 d2 d3 d4
          obtain ⟨la, ⟨a0, a1, a2, a3⟩, _⟩ := id F4.a
          obtain ⟨lc, ⟨c0, c1, c2, c3⟩, _⟩ := id F4.c
          obtain ⟨lb, b0, b1, b2, b3, b4⟩ := id F4.b
          obtain ⟨ld, d0, d1, d2, d3, d4⟩ := id F4.d
          by_cases e0 : r' < r
          · have q0 : decide (r' < r) = true := by simp only [decide_eq_true_eq]; exact e0
            go_wp2_with (go_at_call 12; refine (planned_any _).mono ?_; rintro e w' ⟨rfl, hb9⟩)
            go_ret
            exact ⟨rfl, Bw.step F4.bw hb9⟩
          · have q0 : decide (r' < r) = false := by simp only [decide_eq_false_iff_not]; exact e0
            by_cases e1 : c' < c
            · have q1 : decide (c' < c) = true := by simp only [decide_eq_true_eq]; exact e1
              go_wp2_with (go_at_call 12; refine (planned_any _).mono ?_; rintro e w' ⟨rfl, hb9⟩)
              go_ret
              exact ⟨rfl, Bw.step F4.bw hb9⟩
            · have q1 : decide (c' < c) = false := by simp only [decide_eq_false_iff_not]; exact e1
              by_cases e2 : p' < p
              · have q2 : decide (p' < p) = true := by simp only [decide_eq_true_eq]; exact e2
                go_wp2_with (go_at_call 12; refine (planned_any _).mono ?_; rintro e w' ⟨rfl, hb9⟩)
                go_ret
                exact ⟨rfl, Bw.step F4.bw hb9⟩
              · have q2 : decide (p' < p) = false := by simp only [decide_eq_false_iff_not]; exact e2
                by_cases e3 : m < m'
                · have q3 : decide (m < m') = true := by simp only [decide_eq_true_eq]; exact e3
                  go_wp2_with (go_at_call 12; refine (planned_any _).mono ?_; rintro e w' ⟨rfl, hb9⟩)
                  go_ret
                  exact ⟨rfl, Bw.step F4.bw hb9⟩
                · have q3 : decide (m < m') = false := by simp only [decide_eq_false_iff_not]; exact e3
                  by_cases e4 : x < x'
                  · have q4 : decide (x < x') = true := by simp only [decide_eq_true_eq]; exact e4
                    go_wp2_with (go_at_call 12; refine (planned_any _).mono ?_; rintro e w' ⟨rfl, hb9⟩)
                    go_ret
                    exact ⟨rfl, Bw.step F4.bw hb9⟩
                  · have q4 : decide (x < x') = false := by simp only [decide_eq_false_iff_not]; exact e4
                    by_cases e5 : h < h'
                    · have q5 : decide (h < h') = true := by simp only [decide_eq_true_eq]; exact e5
                      go_wp2_with (go_at_call 12; refine (planned_any _).mono ?_; rintro e w' ⟨rfl, hb9⟩)
                      go_ret
                      exact ⟨rfl, Bw.step F4.bw hb9⟩
                    · have q5 : decide (h < h') = false := by simp only [decide_eq_false_iff_not]; exact e5
                      by_cases e6 : v < v'
                      · have q6 : decide (v < v') = true := by simp only [decide_eq_true_eq]; exact e6
                        go_wp2_with (go_at_call 12; refine (planned_any _).mono ?_; rintro e w' ⟨rfl, hb9⟩)
                        go_ret
                        exact ⟨rfl, Bw.step F4.bw hb9⟩
                      · have q6 : decide (v < v') = false := by simp only [decide_eq_false_iff_not]; exact e6
                        by_cases e7 : s < s'
                        · have q7 : decide (s < s') = true := by simp only [decide_eq_true_eq]; exact e7
                          go_wp2_with (go_at_call 12; refine (planned_any _).mono ?_; rintro e w' ⟨rfl, hb9⟩)
                          go_ret
                          exact ⟨rfl, Bw.step F4.bw hb9⟩
                        · have q7 : decide (s < s') = false := by simp only [decide_eq_false_iff_not]; exact e7
                          obtain ⟨_, _, g3, g4, _⟩ := loF_ok h3
                          obtain ⟨_, _, g3', g4', _⟩ := loF_ok h4
                          obtain ⟨H, rfl⟩ := Int.eq_ofNat_of_zero_le g3.1
                          obtain ⟨V, rfl⟩ := Int.eq_ofNat_of_zero_le g4.1
                          obtain ⟨H', rfl⟩ := Int.eq_ofNat_of_zero_le g3'.1
                          obtain ⟨V', rfl⟩ := Int.eq_ofNat_of_zero_le g4'.1
                          have HB1 := Lib.hid (fun w => lpBears_ok r c d p m x s _ _ H V w h1 h3 rfl rfl)
                          have HB2 := Lib.hid (fun w => lpBears_ok r' c' d' p' m' x' s' _ _ H' V' w h2 h4 rfl rfl)
                          have HLE := Lib.hid (bearB_less (t := r.tdiv 2) (u := c.tdiv 2) (t' := r'.tdiv 2) (u' := c'.tdiv 2) h1 h2 h3 h4 rfl rfl rfl rfl (by omega) (by omega) (by omega) (by omega) (by omega) (by omega) (by omega) (by omega))
                          generalize bearB p m x (r.tdiv 2) (c.tdiv 2) H V s = x1 at *
                          generalize bearB p' m' x' (r'.tdiv 2) (c'.tdiv 2) H' V' s' = x2 at *
                          go_wp2_with fail
                          refine (HB1.out _).mono ?_
                          rintro e w5 ⟨rfl, hb5⟩
                          have F5 := (F4.below hb5).al (.cells #[.int .i64 0, .int .i64 0] 27)
                          have G1 := Has.new w5 0 0 27
                          clear la a0 a1 a2 a3 lb b0 b1 b2 b3 b4 lc c0 c1 c2 c3 ld d0 d1 d2 d3 d4
                          obtain ⟨lc, ⟨c0, c1, c2, c3⟩, _⟩ := id F5.c
                          obtain ⟨ld, d0, d1, d2, d3, d4⟩ := id F5.d
                          go_wp2_with fail
                          refine (HB2.out _).mono ?_
                          rintro e w6 ⟨rfl, hb6⟩
                          have F6 := (F5.below hb6).al (.cells #[.int .i64 0, .int .i64 0] 27)
                          have G1 := (G1.below hb6).al (.cells #[.int .i64 0, .int .i64 0] 27)
                          have G2 := Has.new w6 0 0 27
                          clear lc c0 c1 c2 c3 ld d0 d1 d2 d3 d4
                          obtain ⟨l1, c10, c11, f10, f11⟩ := id G1
                          obtain ⟨l2, c20, c21, f20, f21⟩ := id G2
                          have hx12 : x1 = false ∨ x2 = true := by
                            cases hx : x1 with
                            | false => exact .inl rfl
                            | true => exact .inr (HLE.out hx)
                          clear HLE
                          cases x1
                          case false =>
                            cases x2
                            all_goals
                              go_wp2_with (go_at_call 12; refine (planned_any _).mono ?_; rintro e w' ⟨rfl, hb9⟩)
                              go_ret
                              exact ⟨rfl, Bw.step F6.bw hb9⟩
                          case true =>
                            obtain rfl : x2 = true := by simpa using hx12
                            go_wp2_with (go_at_call 12; refine (planned_any _).mono ?_; rintro e w' ⟨rfl, hb9⟩)
                            go_ret
                            exact ⟨rfl, Bw.step F6.bw hb9⟩
        · have hc := (loF_code m' x' h' v' s').resolve_left h4
          generalize (loF m' x' h' v' s').1 = C at *
          generalize (loF m' x' h' v' s').2 = I at *
          have xC : (C == 0) = false := by rw [beq_eq_false_iff_ne]; omega
          have xC2 : (C != 0) = true := by rw [bne_iff_ne]; omega
          clear h4 hc
          go_enter Try.func5, Try.ntmps5
          obtain ⟨la, ⟨a0, a1, a2, a3⟩, _⟩ := id F0.a
          go_wp2_with fail
          refine (HP.out _).mono ?_
          rintro e w1 ⟨rfl, hb1⟩
          have F1 := F0.below hb1
          clear la a0 a1 a2 a3
          obtain ⟨lc, ⟨c0, c1, c2, c3⟩, _⟩ := id F1.c
          go_wp2_with fail
          refine (HQ.out _).mono ?_
          rintro e w2 ⟨rfl, hb2⟩
          have F2 := F1.below hb2
          clear lc c0 c1 c2 c3
          obtain ⟨lb, b0, b1, b2, b3, b4⟩ := id F2.b
          go_wp2_with fail
          refine (HL.out _).mono ?_
          rintro e w3 ⟨rfl, hb3⟩
          have F3 := F2.below hb3
          clear lb b0 b1 b2 b3 b4
          obtain ⟨ld, d0, d1, d2, d3, d4⟩ := id F3.d
          go_wp2_with fail
          refine (HM.out _).mono ?_
          rintro e w4 ⟨rfl, hb4⟩
          have F4 := F3.below hb4
          clear ld d0 d1 d2 d3 d4
          go_wp2_with (go_at_call 12; refine (planned_any _).mono ?_; rintro e w' ⟨rfl, hb9⟩)
          go_ret
          exact ⟨rfl, Bw.step F4.bw hb9⟩
      · have hc := (loF_code m x h v s).resolve_left h3
        generalize (loF m x h v s).1 = C at *
        generalize (loF m x h v s).2 = I at *
        have xC : (C == 0) = false := by rw [beq_eq_false_iff_ne]; omega
        have xC2 : (C != 0) = true := by rw [bne_iff_ne]; omega
        clear h3 hc
        go_enter Try.func5, Try.ntmps5
        obtain ⟨la, ⟨a0, a1, a2, a3⟩, _⟩ := id F0.a
        go_wp2_with fail
        refine (HP.out _).mono ?_
        rintro e w1 ⟨rfl, hb1⟩
        have F1 := F0.below hb1
        clear la a0 a1 a2 a3
        obtain ⟨lc, ⟨c0, c1, c2, c3⟩, _⟩ := id F1.c
        go_wp2_with fail
        refine (HQ.out _).mono ?_
        rintro e w2 ⟨rfl, hb2⟩
        have F2 := F1.below hb2
        clear lc c0 c1 c2 c3
        obtain ⟨lb, b0, b1, b2, b3, b4⟩ := id F2.b
        go_wp2_with fail
        refine (HL.out _).mono ?_
        rintro e w3 ⟨rfl, hb3⟩
        have F3 := F2.below hb3
        clear lb b0 b1 b2 b3 b4
        go_wp2_with (go_at_call 12; refine (planned_any _).mono ?_; rintro e w' ⟨rfl, hb9⟩)
        go_ret
        exact ⟨rfl, Bw.step F3.bw hb9⟩
    · have hc := (plF_code r' c' d' p').resolve_left h2
      generalize (plF r' c' d' p').1 = C at *
      generalize (plF r' c' d' p').2 = I at *
      have xC : (C == 0) = false := by rw [beq_eq_false_iff_ne]; omega
      have xC2 : (C != 0) = true := by rw [bne_iff_ne]; omega
      clear h2 hc
      go_enter Try.func5, Try.ntmps5
      obtain ⟨la, ⟨a0, a1, a2, a3⟩, _⟩ := id F0.a
      go_wp2_with fail
      refine (HP.out _).mono ?_
      rintro e w1 ⟨rfl, hb1⟩
      have F1 := F0.below hb1
      clear la a0 a1 a2 a3
      obtain ⟨lc, ⟨c0, c1, c2, c3⟩, _⟩ := id F1.c
      go_wp2_with fail
      refine (HQ.out _).mono ?_
      rintro e w2 ⟨rfl, hb2⟩
      have F2 := F1.below hb2
      clear lc c0 c1 c2 c3
      go_wp2_with (go_at_call 12; refine (planned_any _).mono ?_; rintro e w' ⟨rfl, hb9⟩)
      go_ret
      exact ⟨rfl, Bw.step F2.bw hb9⟩
  · have hc := (plF_code r c d p).resolve_left h1
    generalize (plF r c d p).1 = C at *
    generalize (plF r c d p).2 = I at *
    have xC : (C == 0) = false := by rw [beq_eq_false_iff_ne]; omega
    have xC2 : (C != 0) = true := by rw [bne_iff_ne]; omega
    clear h1 hc
    go_enter Try.func5, Try.ntmps5
    obtain ⟨la, ⟨a0, a1, a2, a3⟩, _⟩ := id F0.a
    go_wp2_with fail
    refine (HP.out _).mono ?_
    rintro e w1 ⟨rfl, hb1⟩
    have F1 := F0.below hb1
    clear la a0 a1 a2 a3
    go_wp2_with (go_at_call 12; refine (planned_any _).mono ?_; rintro e w' ⟨rfl, hb9⟩)
    go_ret
    exact ⟨rfl, Bw.step F1.bw hb9⟩
end Go.Proofs.Ytnajdmkdkpmdgaa
