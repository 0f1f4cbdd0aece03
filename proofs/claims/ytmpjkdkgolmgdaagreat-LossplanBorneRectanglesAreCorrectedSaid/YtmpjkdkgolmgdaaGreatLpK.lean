/- Walks of lossplan.Bears and the reference's Bears. -/
import Derived.Test.YtmpjkdkgolmgdaaGreatLpJ
namespace Go.Proofs.YtmpjkdkgolmgdaaGreat
open Go.RowKit
set_option linter.unusedVariables false

def bearB (p m x t u : Int) (H W : Nat) (S : Int) : Bool := decide (m + 2 * x ≤ p) && pageB t u H W S
set_option maxHeartbeats 2000000 in
theorem lpBears_ok (r c d p m x S t u : Int) (H W : Nat) (w : World) (h : plF r c d p = (0, 0)) (h' : loF m x H W S = (0, 0)) (ht : r.tdiv 2 = t) (hu : c.tdiv 2 = u) :
    Calls Tryz.prog 4 #[plV r c d p, loV m x H W S] w fun e w' => e = .returned (.tuple #[.bool (bearB p m x t u H W S), .agg #[.int .i64 0, .int .i64 0]]) ∧ Below w.heap.size w w' := by
  have HV := Lib.hid (fun w => lpValidate_any r c d p w)
  rw [h] at HV
  have HC := Lib.hid (fun w => lpCheck_any m x H W S w)
  rw [h'] at HC
  obtain ⟨hr, hc, hd, hp⟩ := plF_ok h
  obtain ⟨hm, hx, hH, hW, hS⟩ := loF_ok h'
  have ht0 : 0 ≤ t ∧ t ≤ 16 := by rw [← ht, Int.tdiv_eq_ediv_of_nonneg hr.1]; omega
  have hu0 : 0 ≤ u ∧ u ≤ 16 := by rw [← hu, Int.tdiv_eq_ediv_of_nonneg hc.1]; omega
  have HBE := Lib.hid (fun w => bears_any r c d p m x S t u H W w ht hu ht0 hu0 (by omega) (by omega) hS)
  have HBB : Hid (bearB p m x t u H W S = (decide (m + 2 * x ≤ p) && pageB t u H W S)) := Lib.hid rfl
  generalize pageB t u H W S = pb at *
  generalize bearB p m x t u H W S = bb at *
  have P0 := H4.new w r c d p 23
  have L0 := H5.new (w.alloc (.cells #[.int .i64 r, .int .i64 c, .int .i64 d, .int .i64 p] 23)) m x H W S 31
  have F0 := Has.new ((w.alloc (.cells #[.int .i64 r, .int .i64 c, .int .i64 d, .int .i64 p] 23)).alloc (.cells #[.int .i64 m, .int .i64 x, .int .i64 H, .int .i64 W, .int .i64 S] 31)) 0 0 27
  have P0 := (P0.al (.cells #[.int .i64 m, .int .i64 x, .int .i64 H, .int .i64 W, .int .i64 S] 31)).al (.cells #[.int .i64 0, .int .i64 0] 27)
  have L0 := L0.al (.cells #[.int .i64 0, .int .i64 0] 27)
  have B0 : Below w.heap.size w (((w.alloc (.cells #[.int .i64 r, .int .i64 c, .int .i64 d, .int .i64 p] 23)).alloc (.cells #[.int .i64 m, .int .i64 x, .int .i64 H, .int .i64 W, .int .i64 S] 31)).alloc (.cells #[.int .i64 0, .int .i64 0] 27)) := by (repeat (first | exact Below.refl _ _ | assumption | refine Bw.al ?_ _ | refine Bw.step ?_ (by assumption) | refine Bw.drew ?_))
  simp only [World.size_alloc] at L0 F0
  clear h h' ht hu
  go_enter Tryz.func4, Tryz.ntmps4
  go_wp2_with fail
  generalize ((w.alloc (.cells #[.int .i64 r, .int .i64 c, .int .i64 d, .int .i64 p] 23)).alloc (.cells #[.int .i64 m, .int .i64 x, .int .i64 H, .int .i64 W, .int .i64 S] 31)).alloc (.cells #[.int .i64 0, .int .i64 0] 27) = WA at *
  refine (HV.out _).mono ?_
  rintro e w1 ⟨rfl, hb1⟩
  have P0 := (P0.below hb1).al (.cells #[.int .i64 0, .int .i64 0] 27)
  have L0 := (L0.below hb1).al (.cells #[.int .i64 0, .int .i64 0] 27)
  have F0 := (F0.below hb1).al (.cells #[.int .i64 0, .int .i64 0] 27)
  have B0 := Bw.al (Bw.step B0 hb1) (.cells #[.int .i64 0, .int .i64 0] 27)
  obtain ⟨lf, f0, f1, g0, g1⟩ := Has.new w1 0 0 27
  obtain ⟨ll, l0, l1, l2, l3, l4⟩ := id L0
  go_wp2_with fail
  clear lf f0 f1 g0 g1 ll l0 l1 l2 l3 l4
  refine (HC.out _).mono ?_
  rintro e w2 ⟨rfl, hb2⟩
  have P0 := (P0.below hb2).al (.cells #[.int .i64 0, .int .i64 0] 27)
  have L0 := (L0.below hb2).al (.cells #[.int .i64 0, .int .i64 0] 27)
  have F0 := (F0.below hb2).al (.cells #[.int .i64 0, .int .i64 0] 27)
  have B0 := Bw.al (Bw.step B0 hb2) (.cells #[.int .i64 0, .int .i64 0] 27)
  obtain ⟨lf, f0, f1, g0, g1⟩ := Has.new w2 0 0 27
  obtain ⟨ll, l0, l1, l2, l3, l4⟩ := id L0
  obtain ⟨lp, ⟨p0, p1, p2, p3⟩, q0, q1, q2, q3⟩ := id P0
  obtain ⟨lx, x0, x1, y0, y1⟩ := id F0
  by_cases hle : m + 2 * x ≤ p
  · have d1 : decide (m + 2 * x ≤ p) = true := by simp only [decide_eq_true_eq]; exact hle
    rw [d1, Bool.true_and] at HBB
    go_wp2_with fail
    refine (HBE.out _).mono ?_
    rintro e w3 ⟨rfl, hb3⟩
    have F0 := F0.below hb3
    have B0 := Bw.step B0 hb3
    clear lf f0 f1 g0 g1 ll l0 l1 l2 l3 l4 lx x0 x1 y0 y1
    obtain ⟨lx, x0, x1, y0, y1⟩ := id F0
    go_wp2
    exact bodyPost_ret (resF2 rfl rfl (F0.set2 0 0)) rfl ⟨by rw [HBB.out]; rfl, Bw.set2 B0 (by omega) _ _⟩
  · have d1 : decide (m + 2 * x ≤ p) = false := by simp only [decide_eq_false_iff_not]; exact hle
    rw [d1, Bool.false_and] at HBB
    go_wp2
    exact bodyPost_ret (resF2 rfl rfl (F0.set2 0 0)) rfl ⟨by rw [HBB.out]; rfl, Bw.set2 B0 (by omega) _ _⟩
end Go.Proofs.YtmpjkdkgolmgdaaGreat
