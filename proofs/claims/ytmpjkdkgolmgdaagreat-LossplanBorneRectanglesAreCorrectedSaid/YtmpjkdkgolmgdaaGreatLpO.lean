/- The walk of the law LossplanBearsLess. -/
import Derived.Test.YtmpjkdkgolmgdaaGreatLpN
namespace Go.Proofs.YtmpjkdkgolmgdaaGreat
open Go.RowKit
set_option linter.unusedVariables false

theorem wf64' {a : Int} (h : (Lit.int .i64 a).wf = true) : -9223372036854775808 ≤ a ∧ a ≤ 9223372036854775807 := by
  simp [Lit.wf, IntKind.min, IntKind.max, IntKind.signed, IntKind.bits] at h
  omega
/-- A plan that bears losses bears lesser ones. -/
theorem bearB_less {r c d p m x S r' c' d' p' m' x' S' t u t' u' : Int} {H W H' W' : Nat} (h1 : plF r c d p = (0, 0)) (h2 : plF r' c' d' p' = (0, 0)) (h3 : loF m x H W S = (0, 0)) (h4 : loF m' x' H' W' S' = (0, 0))
    (ht : r.tdiv 2 = t) (hu : c.tdiv 2 = u) (ht' : r'.tdiv 2 = t') (hu' : c'.tdiv 2 = u') (e1 : r ≤ r') (e2 : c ≤ c') (e3 : p ≤ p') (e4 : m' ≤ m) (e5 : x' ≤ x) (e6 : H' ≤ H) (e7 : W' ≤ W) (e8 : S' ≤ S) :
    bearB p m x t u H W S = true → bearB p' m' x' t' u' H' W' S' = true := by
  obtain ⟨a1, a2, _, _⟩ := plF_ok h1
  obtain ⟨b1, b2, _, _⟩ := plF_ok h2
  obtain ⟨c1, c2, c3, c4, c5⟩ := loF_ok h3
  obtain ⟨d1, d2, d3, d4, d5⟩ := loF_ok h4
  rw [Int.tdiv_eq_ediv_of_nonneg a1.1] at ht
  rw [Int.tdiv_eq_ediv_of_nonneg a2.1] at hu
  rw [Int.tdiv_eq_ediv_of_nonneg b1.1] at ht'
  rw [Int.tdiv_eq_ediv_of_nonneg b2.1] at hu'
  unfold bearB
  rw [Bool.and_eq_true, Bool.and_eq_true, decide_eq_true_eq, decide_eq_true_eq]
  rintro ⟨h5, h6⟩
  exact ⟨by omega, pageB_less h6 (by omega) (by omega) e6 e7 d5.1 e8 (by omega) (by omega)⟩
abbrev plC (r c d p : Int) : Obj := .cells #[.int .i64 r, .int .i64 c, .int .i64 d, .int .i64 p] 23
abbrev loC (m x h v s : Int) : Obj := .cells #[.int .i64 m, .int .i64 x, .int .i64 h, .int .i64 v, .int .i64 s] 31
/-- The four arguments of the law, laid in memory. -/
structure Four (w wr : World) (r c d p m x h v s r' c' d' p' m' x' h' v' s' : Int) : Prop where
  a : H4 wr w.heap.size r c d p
  b : H5 wr (w.heap.size + 1) m x h v s
  c : H4 wr (w.heap.size + 1 + 1) r' c' d' p'
  d : H5 wr (w.heap.size + 1 + 1 + 1) m' x' h' v' s'
  bw : Below w.heap.size w wr
theorem Four.new (w : World) (r c d p m x h v s r' c' d' p' m' x' h' v' s' : Int) : Four w ((((w.alloc (plC r c d p)).alloc (loC m x h v s)).alloc (plC r' c' d' p')).alloc (loC m' x' h' v' s')) r c d p m x h v s r' c' d' p' m' x' h' v' s' := by
  have h2 := H5.new (w.alloc (plC r c d p)) m x h v s 31
  have h3 := H4.new ((w.alloc (plC r c d p)).alloc (loC m x h v s)) r' c' d' p' 23
  have h4 := H5.new (((w.alloc (plC r c d p)).alloc (loC m x h v s)).alloc (plC r' c' d' p')) m' x' h' v' s' 31
  simp only [World.size_alloc] at h2 h3 h4
  exact ⟨(((H4.new w r c d p 23).al _).al _).al _, (h2.al _).al _, h3.al _, h4, by (repeat (first | exact Below.refl _ _ | assumption | refine Bw.al ?_ _ | refine Bw.step ?_ (by assumption) | refine Bw.drew ?_))⟩
theorem Four.below {w wr wr' : World} {r c d p m x h v s r' c' d' p' m' x' h' v' s' : Int} (f : Four w wr r c d p m x h v s r' c' d' p' m' x' h' v' s') (hb : Below wr.heap.size wr wr') : Four w wr' r c d p m x h v s r' c' d' p' m' x' h' v' s' :=
  ⟨f.a.below hb, f.b.below hb, f.c.below hb, f.d.below hb, Bw.step f.bw hb⟩
theorem Four.al {w wr : World} {r c d p m x h v s r' c' d' p' m' x' h' v' s' : Int} (f : Four w wr r c d p m x h v s r' c' d' p' m' x' h' v' s') (o : Obj) : Four w (wr.alloc o) r c d p m x h v s r' c' d' p' m' x' h' v' s' := f.below (below_new _ _)
end Go.Proofs.YtmpjkdkgolmgdaaGreat
