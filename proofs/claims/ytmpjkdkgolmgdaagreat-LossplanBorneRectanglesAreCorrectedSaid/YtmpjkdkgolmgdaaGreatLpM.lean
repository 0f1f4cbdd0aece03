/- The walk of lossplan.Choose. -/
import Derived.Test.YtmpjkdkgolmgdaaGreatLpL
namespace Go.Proofs.YtmpjkdkgolmgdaaGreat
open Go.RowKit
set_option linter.unusedVariables false

structure ChR (w wr : World) (bb : Nat) (m x h v S pp : Int) (o : Option Nat) : Prop where
  l : H5 wr w.heap.size m x h v S
  q : H4 wr (w.heap.size + 1) 0 0 0 0
  f : Has wr (w.heap.size + 2) 0 0
  b : H4 wr bb (bR o) (bC o) 1 pp
  bw : Below w.heap.size w wr
  lt : w.heap.size + 2 < bb
theorem ChR.below {w wr wr' : World} {bb : Nat} {m x h v S pp : Int} {o : Option Nat} (r : ChR w wr bb m x h v S pp o) (hb : Below wr.heap.size wr wr') : ChR w wr' bb m x h v S pp o :=
  ⟨r.l.below hb, r.q.below hb, r.f.below hb, r.b.below hb, Bw.step r.bw hb, r.lt⟩
theorem H5.far4 {w : World} {b : Nat} {a0 a1 a2 a3 a4 : Int} (h : H5 w b a0 a1 a2 a3 a4) {g : Nat} (hg : g ≠ b) (u0 u1 u2 u3 : Value) : H5 ((((w.setCell ⟨g, 0, none⟩ u0).setCell ⟨g, 1, none⟩ u1).setCell ⟨g, 2, none⟩ u2).setCell ⟨g, 3, none⟩ u3) b a0 a1 a2 a3 a4 :=
  (((h.far (p := ⟨g, 0, none⟩) hg u0).far (p := ⟨g, 1, none⟩) hg u1).far (p := ⟨g, 2, none⟩) hg u2).far (p := ⟨g, 3, none⟩) hg u3
theorem ChR.set {w wr : World} {bb : Nat} {m x h v S pp : Int} {o : Option Nat} (r : ChR w wr bb m x h v S pp o) (k : Nat) {r' c' : Int} (hr : r' = (candR k : Nat)) (hc : c' = (candC k : Nat)) :
    ChR w ((((wr.setCell ⟨bb, 0, none⟩ (.int .i64 r')).setCell ⟨bb, 1, none⟩ (.int .i64 c')).setCell ⟨bb, 2, none⟩ (.int .i64 1)).setCell ⟨bb, 3, none⟩ (.int .i64 pp)) bb m x h v S pp (some k) := by
  subst hr hc
  have := r.lt
  exact ⟨r.l.far4 (by omega) _ _ _ _, r.q.far4 (by omega) _ _ _ _, r.f.far4 (by omega) _ _ _ _, r.b.set _ _ _ _, Bw.set4 r.bw (by omega) _ _ _ _, r.lt⟩
theorem BK_at {H W : Nat} {S : Int} {i j : Nat} (hj : j < 7) : BK H W S (7 * i + j) = pageB (i : Nat) (j : Nat) H W S := by
  unfold BK
  rw [show (7 * i + j) / 7 = i by omega, show (7 * i + j) % 7 = j by omega]
theorem candR_at {i j : Nat} (hj : j < 7) : candR (7 * i + j) = 2 * i := by unfold candR; omega
theorem candC_at {i j : Nat} (hj : j < 7) : candC (7 * i + j) = 2 * j := by unfold candC; omega
/-- One candidate looked at. -/
theorem best_step {B : Nat → Bool} {n : Nat} {o : Option Nat} (h : BestN B n o) (hn : n < 63) (bt : Bool) (hbt : bt = true ↔ ∀ x, o = some x → payK x < payK n) :
    ((bt = true ∧ B n = true) → BestN B (n + 1) (some n)) ∧ (¬ (bt = true ∧ B n = true) → BestN B (n + 1) o) := by
  constructor
  · intro hh; exact h.take hh.2 (hbt.1 hh.1)
  · intro hh
    refine h.leave fun hB => ?_
    have hf : ¬ ∀ x, o = some x → payK x < payK n := fun hall => hh ⟨hbt.2 hall, hB⟩
    apply Classical.byContradiction
    intro hn
    exact hf fun x hx => Classical.byContradiction fun hle => hn ⟨x, hx, by omega⟩
theorem better_any (H W : Nat) (S : Int) (i j : Nat) (o : Option Nat) (d p d0 p0 : Int) (b : Nat) (w : World) (hb : H4 w b (bR o) (bC o) d0 p0) (hi : i < 9) (hj : j < 7) (hB : BestN (BK H W S) (7 * i + j) o) :
    ∃ bt : Bool, (bt = true ↔ ∀ x, o = some x → payK x < payK (7 * i + j)) ∧ Calls Tryz.prog 45 #[plV ((2 * i : Nat) : Int) ((2 * j : Nat) : Int) d p, .pointer (some ⟨b, 0, none⟩)] w fun e w' => e = .returned (.bool bt) ∧ Below w.heap.size w w' := by
  cases o with
  | none =>
    refine ⟨true, ⟨fun _ x hx => (by cases hx), fun _ => rfl⟩, ?_⟩
    exact better_none _ _ _ _ _ _ _ _ b w hb (by decide)
  | some k =>
    have hk : k < 63 := by have := hB.1; omega
    have hr : candR k ≤ 16 := by unfold candR; omega
    have hc : candC k ≤ 12 := by unfold candC; omega
    refine ⟨_, ?_, better_some _ _ _ _ _ _ _ _ b w hb (by omega) (by omega) (by show 0 ≤ ((candR k : Nat) : Int) ∧ ((candR k : Nat) : Int) ≤ 16; omega) (by show 0 ≤ ((candC k : Nat) : Int) ∧ ((candC k : Nat) : Int) ≤ 12; omega)⟩
    have e1 := payK_int k hk
    have e2 := payK_int (7 * i + j) (by omega)
    rw [candR_at hj, candC_at hj] at e2
    show decide ((24 - ((candR k : Nat) : Int)) * (16 - ((candC k : Nat) : Int)) < (24 - ((2 * i : Nat) : Int)) * (16 - ((2 * j : Nat) : Int))) = true ↔ _
    rw [← e1, ← e2, decide_eq_true_eq]
    constructor
    · intro h x hx
      injection hx with hx
      subst hx
      omega
    · intro h
      have := h k rfl
      omega
set_option maxRecDepth 100000 in
set_option maxHeartbeats 8000000 in
theorem lpChoose_ok (m x S len : Int) (H W : Nat) (w : World) (h' : loF m x H W S = (0, 0)) (hlen : 0 ≤ len ∧ len ≤ 9223372036854775807) :
    Calls Tryz.prog 24 #[loV m x H W S, .int .i64 len] w fun e w' => ∃ r c d p C I, e = .returned (.tuple #[plV r c d p, .agg #[.int .i64 C, .int .i64 I]]) ∧ ChRes H W S (m + 2 * x) len r c d p C I ∧ Below w.heap.size w w' := by
  have HC := Lib.hid (fun w => lpCheck_any m x H W S w)
  rw [h'] at HC
  obtain ⟨hm, hx, hH, hW, hS⟩ := loF_ok h'
  have hpp : 0 ≤ m + 2 * x ∧ m + 2 * x ≤ 32 := by omega
  have L0 := H5.new w m x H W S 31
  have Q0 := H4.new (w.alloc (.cells #[.int .i64 m, .int .i64 x, .int .i64 H, .int .i64 W, .int .i64 S] 31)) 0 0 0 0 23
  have F0 := Has.new ((w.alloc (.cells #[.int .i64 m, .int .i64 x, .int .i64 H, .int .i64 W, .int .i64 S] 31)).alloc (.cells #[.int .i64 0, .int .i64 0, .int .i64 0, .int .i64 0] 23)) 0 0 27
  have L0 := (L0.al (.cells #[.int .i64 0, .int .i64 0, .int .i64 0, .int .i64 0] 23)).al (.cells #[.int .i64 0, .int .i64 0] 27)
  have Q0 := Q0.al (.cells #[.int .i64 0, .int .i64 0] 27)
  have B0 : Below w.heap.size w (((w.alloc (.cells #[.int .i64 m, .int .i64 x, .int .i64 H, .int .i64 W, .int .i64 S] 31)).alloc (.cells #[.int .i64 0, .int .i64 0, .int .i64 0, .int .i64 0] 23)).alloc (.cells #[.int .i64 0, .int .i64 0] 27)) := by (repeat (first | exact Below.refl _ _ | assumption | refine Bw.al ?_ _ | refine Bw.step ?_ (by assumption) | refine Bw.drew ?_))
  simp only [World.size_alloc] at Q0 F0
  have dq0 : decide (len < 0) = false := by simp only [decide_eq_false_iff_not]; omega
  clear h'
  go_enter Tryz.func24, Tryz.ntmps24
  go_wp2_with fail
  generalize ((w.alloc (.cells #[.int .i64 m, .int .i64 x, .int .i64 H, .int .i64 W, .int .i64 S] 31)).alloc (.cells #[.int .i64 0, .int .i64 0, .int .i64 0, .int .i64 0] 23)).alloc (.cells #[.int .i64 0, .int .i64 0] 27) = WA at *
  refine (HC.out _).mono ?_
  rintro e w1 ⟨rfl, hb1⟩
  have L0 := (L0.below hb1).al (.cells #[.int .i64 0, .int .i64 0] 27)
  have Q0 := (Q0.below hb1).al (.cells #[.int .i64 0, .int .i64 0] 27)
  have F0 := (F0.below hb1).al (.cells #[.int .i64 0, .int .i64 0] 27)
  have B0 := Bw.al (Bw.step B0 hb1) (.cells #[.int .i64 0, .int .i64 0] 27)
  obtain ⟨lf, f0, f1, g0, g1⟩ := Has.new w1 0 0 27
  obtain ⟨ll, l0, l1, l2, l3, l4⟩ := id L0
  have BV := H4.new (w1.alloc (.cells #[.int .i64 0, .int .i64 0] 27)) (-1) 0 1 (m + 2 * x) 23
  rw [World.size_alloc] at BV
  have hRel : ChR w ((w1.alloc (.cells #[.int .i64 0, .int .i64 0] 27)).alloc (.cells #[.int .i64 (-1), .int .i64 0, .int .i64 1, .int .i64 (m + 2 * x)] 23)) (w1.heap.size + 1) m x H W S (m + 2 * x) none :=
    ⟨L0.al _, Q0.al _, F0.al _, BV, Bw.al B0 _, by have := F0.1; simp only [World.size_alloc] at this; omega⟩
  go_wp2
  generalize (w1.alloc (.cells #[.int .i64 0, .int .i64 0] 27)).alloc (.cells #[.int .i64 (-1), .int .i64 0, .int .i64 1, .int .i64 (m + 2 * x)] 23) = WB at *
  generalize w1.heap.size + 1 = bb at *
  generalize w1.heap.size = bf at *
  have HR0 := Lib.hid hRel
  clear hRel lf f0 f1 g0 g1 ll l0 l1 l2 l3 l4 L0 Q0 F0 B0 BV hb1
  generalize hPP : m + 2 * x = pp at *
  have HPP := Lib.hid hPP
  clear hPP
  go_loopw [9] (fun i wr => ∃ (a : Nat) (o : Option Nat), a ≤ 9 ∧ i = .int .i64 ((2 * a : Nat) : Int) ∧ BestN (BK H W S) (7 * a) o ∧ ChR w wr bb m x H W S pp o) (fun i _ => 18 - (intOf i).toNat)
  case atStart => exact ⟨0, none, Nat.zero_le _, rfl, BestN.start _, HR0.out⟩
  case round =>
    obtain ⟨a, o, ha, rfl, hB, hR⟩ := hrel
    by_cases hla : a < 9
    · have HB1 := Lib.hid hB
      have HR1 := Lib.hid hR
      have dq1 : decide (((2 * a : Nat) : Int) ≤ 16) = true := by simp only [decide_eq_true_eq]; omega
      have HNA : Hid (((2 * (a + 1) : Nat) : Int) = ((2 * a : Nat) : Int) + 2) := Lib.hid (by omega)
      have HN7 : Hid (7 * (a + 1) = 7 * a + 7) := Lib.hid (by omega)
      have hma : ((2 * a : Nat) : Int) ≤ 16 ∧ 0 ≤ ((2 * a : Nat) : Int) := by omega
      clear hB hR
      generalize hra : ((2 * a : Nat) : Int) = ra at *
      have HRA := Lib.hid hra
      clear hra
      go_wp2
      go_loopw [10] (fun i wr => ∃ (j : Nat) (o : Option Nat), j ≤ 7 ∧ i = .int .i64 ((2 * j : Nat) : Int) ∧ BestN (BK H W S) (7 * a + j) o ∧ ChR w wr bb m x H W S pp o) (fun i _ => 14 - (intOf i).toNat)
      case atStart => exact ⟨0, o, Nat.zero_le _, rfl, HB1.out, HR1.out⟩
      case round =>
        obtain ⟨j, o2, hj, rfl, hB, hR⟩ := hrel
        by_cases hlj : j < 7
        · --[[b
          have HB2 := Lib.hid hB
          have hPV := hR.b
          obtain ⟨lv, ⟨v0, v1, v2, v3⟩, _⟩ := id hPV
          have P1 := H4.new wr ((2 * a : Nat) : Int) ((2 * j : Nat) : Int) 1 pp 23
          have R1 := hR.below (below_new wr (.cells #[.int .i64 ((2 * a : Nat) : Int), .int .i64 ((2 * j : Nat) : Int), .int .i64 1, .int .i64 pp] 23))
          obtain ⟨bt, hbt, hcall⟩ := better_any H W S a j o2 1 pp 1 pp bb _ R1.b hla hlj hB
          have HSTEP := Lib.hid (best_step hB (by omega) bt hbt)
          rw [BK_at hlj] at HSTEP
          have HCALL := Lib.hid hcall
          have HBE := Lib.hid (fun w => bears_any ((2 * a : Nat) : Int) ((2 * j : Nat) : Int) 1 pp m x S (a : Nat) (j : Nat) H W w (by rw [Int.tdiv_eq_ediv_of_nonneg (by omega)]; omega) (by rw [Int.tdiv_eq_ediv_of_nonneg (by omega)]; omega) (by omega) (by omega) (by omega) (by omega) hS)
          have dq2 : decide (((2 * j : Nat) : Int) ≤ 12) = true := by simp only [decide_eq_true_eq]; omega
          have HSET := Lib.hid (fun W (hb : Below wr.heap.size wr W) => (hR.below hb).set (7 * a + j) (r' := ((2 * a : Nat) : Int)) (c' := ((2 * j : Nat) : Int)) (by rw [candR_at hlj]) (by rw [candC_at hlj]))
          have HR2 := Lib.hid hR
          have hmb : ((2 * j : Nat) : Int) ≤ 12 ∧ 0 ≤ ((2 * j : Nat) : Int) := by omega
          have HCN : Hid (((2 * (j + 1) : Nat) : Int) = ((2 * j : Nat) : Int) + 2) := Lib.hid (by omega)
          generalize pageB (a : Nat) (j : Nat) H W S = pb at *
          clear hB hR hPV hbt hcall R1
          rw [HRA.out] at P1 HCALL HBE HSET
          generalize hcj : ((2 * j : Nat) : Int) = cj at *
          have HCJ := Lib.hid hcj
          clear hcj
          obtain ⟨lp, ⟨p0, p1, p2, p3⟩, q0, q1, q2, q3⟩ := id P1
          have HL5 := Lib.hid HR2.out.l
          obtain ⟨ll, l0, l1, l2, l3, l4⟩ := HL5.out.al (.cells #[.int .i64 ra, .int .i64 cj, .int .i64 1, .int .i64 pp] 23)
          have hb0 := below_new wr (.cells #[.int .i64 ra, .int .i64 cj, .int .i64 1, .int .i64 pp] 23)
          go_wp2_with fail
          refine HCALL.out.mono ?_
          rintro e w2 ⟨rfl, hb2⟩
          have hb02 : Below wr.heap.size wr w2 := hb0.trans (hb2.mono (by simp))
          have P2 := P1.below hb2
          have L2 := HL5.out.below hb02
          clear lv v0 v1 v2 v3 lp p0 p1 p2 p3 q0 q1 q2 q3 ll l0 l1 l2 l3 l4 HCALL
          obtain ⟨lp, ⟨p0, p1, p2, p3⟩, q0, q1, q2, q3⟩ := id P2
          obtain ⟨ll, l0, l1, l2, l3, l4⟩ := id L2
          cases bt with
          | false =>
            have HST := Lib.hid (HSTEP.out.2 (fun hh => by cases hh.1))
            have HR3 := Lib.hid (HR2.out.below hb02)
            clear HSTEP HSET HBE
            go_wp2
            go_roundw
            case rel => first | exact ⟨j + 1, o2, by omega, by (rw [HCN.out]), HST.out, HR3.out⟩ | ((repeat apply Exists.intro); exact ⟨⟨j + 1, o2, by omega, by (rw [HCN.out]), HST.out, HR3.out⟩, rfl⟩)
            case measure => simp [intOf]; omega
          | true =>
            go_wp2_with fail
            refine (HBE.out _).mono ?_
            rintro e w3 ⟨rfl, hb3⟩
            have hb03 : Below wr.heap.size wr w3 := Bw.step hb02 hb3
            have P3 := P2.below hb3
            clear lp p0 p1 p2 p3 q0 q1 q2 q3 ll l0 l1 l2 l3 l4
            obtain ⟨lp, ⟨p0, p1, p2, p3⟩, q0, q1, q2, q3⟩ := id P3
            cases pb with
            | false =>
              have HST := Lib.hid (HSTEP.out.2 (fun hh => by cases hh.2))
              have HR3 := Lib.hid (HR2.out.below hb03)
              clear HSTEP HSET HBE
              go_wp2
              go_roundw
              case rel => first | exact ⟨j + 1, o2, by omega, by (rw [HCN.out]), HST.out, HR3.out⟩ | ((repeat apply Exists.intro); exact ⟨⟨j + 1, o2, by omega, by (rw [HCN.out]), HST.out, HR3.out⟩, rfl⟩)
              case measure => simp [intOf]; omega
            | true =>
              have HST := Lib.hid (HSTEP.out.1 (by simp))
              have HR3 := Lib.hid (HSET.out _ hb03)
              obtain ⟨lv, ⟨v0, v1, v2, v3⟩, w0', w1', w2', w3'⟩ := (HR2.out.below hb03).b
              clear HSTEP HSET HBE
              go_wp2
              go_roundw
              case rel => first | exact ⟨j + 1, _, by omega, by (rw [HCN.out]), HST.out, HR3.out⟩ | ((repeat apply Exists.intro); exact ⟨⟨j + 1, _, by omega, by (rw [HCN.out]), HST.out, HR3.out⟩, rfl⟩)
              case measure => simp [intOf]; omega
        · obtain rfl : j = 7 := by omega
          have HB2 := Lib.hid hB
          have HR2 := Lib.hid hR
          have dq2 : decide (((2 * 7 : Nat) : Int) ≤ 12) = false := by decide
          clear hB hR
          go_wp2
          go_roundw
          case rel => first | exact ⟨a + 1, o2, by omega, by (rw [HNA.out]), by (rw [HN7.out]; exact HB2.out), HR2.out⟩ | ((repeat apply Exists.intro); exact ⟨⟨a + 1, o2, by omega, by (rw [HNA.out]), by (rw [HN7.out]; exact HB2.out), HR2.out⟩, rfl⟩)
          case measure => simp [intOf]; omega
    · obtain rfl : a = 9 := by omega
      have HR := Lib.hid hR
      have dq1 : decide (((2 * 9 : Nat) : Int) ≤ 16) = false := by decide
      obtain ⟨lv, ⟨v0, v1, v2, v3⟩, k0, k1, k2, k3⟩ := hR.b
      by_cases hbig : 16 < pp
      · have d1 : decide (16 < pp) = true := by simp only [decide_eq_true_eq]; exact hbig
        have HRES : Hid (ChRes H W S pp len 0 0 0 0 14 (-1)) := Lib.hid ⟨o, hB, fun _ => ⟨⟨rfl, rfl, rfl, rfl⟩, rfl, rfl⟩, fun k _ hp => absurd hp (by omega)⟩
        clear hB hR
        go_wp2_with fail
        refine (lpFault_any _ _ _).mono ?_
        rintro e w2 ⟨rfl, hb2⟩
        have R2 := HR.out.below hb2
        have hlt := R2.lt
        clear lv v0 v1 v2 v3 k0 k1 k2 k3
        obtain ⟨lq, ⟨q0, q1, q2, q3⟩, u0, u1, u2, u3⟩ := R2.q
        obtain ⟨lx, x0, x1, y0, y1⟩ := R2.f
        go_wp2
        exact bodyPost_ret (resS rfl (.inr rfl) rfl rfl ((R2.q.set 0 0 0 0).far2 (by omega) _ _) ((R2.f.far4 (by omega) _ _ _ _).set2 14 (-1))) rfl ⟨0, 0, 0, 0, 14, -1, rfl, by (rw [HPP.out]; exact HRES.out), Bw.set2 (Bw.set4 R2.bw (by omega) _ _ _ _) (by omega) _ _⟩
      · have d1 : decide (16 < pp) = false := by simp only [decide_eq_false_iff_not]; exact hbig
        cases o with
        | none =>
          have HRES : Hid (ChRes H W S pp len 0 0 0 0 14 (-1)) := Lib.hid ⟨none, hB, fun _ => ⟨⟨rfl, rfl, rfl, rfl⟩, rfl, rfl⟩, fun k hk _ => by cases hk⟩
          clear hB hR
          simp only [bR] at v0
          go_wp2_with fail
          refine (lpFault_any _ _ _).mono ?_
          rintro e w2 ⟨rfl, hb2⟩
          have R2 := HR.out.below hb2
          have hlt := R2.lt
          clear lv v0 v1 v2 v3 k0 k1 k2 k3
          obtain ⟨lq, ⟨q0, q1, q2, q3⟩, u0, u1, u2, u3⟩ := R2.q
          obtain ⟨lx, x0, x1, y0, y1⟩ := R2.f
          go_wp2
          exact bodyPost_ret (resS rfl (.inr rfl) rfl rfl ((R2.q.set 0 0 0 0).far2 (by omega) _ _) ((R2.f.far4 (by omega) _ _ _ _).set2 14 (-1))) rfl ⟨0, 0, 0, 0, 14, -1, rfl, by (rw [HPP.out]; exact HRES.out), Bw.set2 (Bw.set4 R2.bw (by omega) _ _ _ _) (by omega) _ _⟩
        | some k =>
          have hk : k < 63 := hB.1
          have hr16 : candR k ≤ 16 := by unfold candR; omega
          have hc12 : candC k ≤ 12 := by unfold candC; omega
          have hpay := payK_int k hk
          have hbd := payK_bd k hk
          have HRES := Lib.hid (fun (r c d p C I : Int) dd (h1 : IsData len (payK k) dd) h2 h3 => (show ChRes H W S pp len r c d p C I from ⟨some k, hB, fun hh => by rcases hh with h | h; cases h; exact absurd h hbig, fun k' hk' _ => by injection hk' with hk'; subst hk'; exact ⟨dd, h1, h2, h3⟩⟩))
          have HPAY := Lib.hid (fun w => lpPay_any ((candR k : Nat) : Int) ((candC k : Nat) : Int) 1 pp w (by omega) (by omega))
          rw [← hpay] at HPAY
          have HDIV := Lib.hid (IsData.of_div (len := len) (size := ((payK k : Nat) : Int)) (by omega) hlen.1)
          have hq : len.tdiv ((payK k : Nat) : Int) = len / ((payK k : Nat) : Int) := Int.tdiv_eq_ediv_of_nonneg hlen.1
          have hq0 : 0 ≤ len.tdiv ((payK k : Nat) : Int) := by rw [hq]; exact Int.ediv_nonneg hlen.1 (by omega)
          have hq1 : len.tdiv ((payK k : Nat) : Int) * ((payK k : Nat) : Int) ≤ len := by rw [hq]; exact Int.ediv_mul_le _ (by omega)
          have hq2 : len.tdiv ((payK k : Nat) : Int) ≤ len := Int.le_trans (by have := Int.mul_le_mul_of_nonneg_left (show (1 : Int) ≤ ((payK k : Nat) : Int) by omega) hq0; omega) hq1
          have hm1 : 0 ≤ max (len.tdiv ((payK k : Nat) : Int)) 1 * ((payK k : Nat) : Int) := Int.mul_nonneg (by omega) (by omega)
          have hm2 : max (len.tdiv ((payK k : Nat) : Int)) 1 * ((payK k : Nat) : Int) ≤ 9223372036854775807 := by
            rcases Int.le_total (len.tdiv ((payK k : Nat) : Int)) 1 with h | h
            · rw [Int.max_eq_right h]; omega
            · rw [Int.max_eq_left h]; omega
          have hsz0 : (((payK k : Nat) : Int) == 0) = false := by rw [beq_eq_false_iff_ne]; omega
          have hsz1 : ((payK k : Nat) : Int) ≠ 0 := by omega
          have hszb : 32 ≤ ((payK k : Nat) : Int) ∧ ((payK k : Nat) : Int) ≤ 384 := by omega
          generalize ((payK k : Nat) : Int) = sz at *
          have d2 : decide (((candR k : Nat) : Int) < 0) = false := by simp only [decide_eq_false_iff_not]; omega
          clear hB hR hpay hbd hq hq1
          simp only [bR, bC] at v0 v1
          generalize hrr : ((candR k : Nat) : Int) = rr at *
          generalize hcc : ((candC k : Nat) : Int) = cc at *
          go_wp2_with fail
          refine (HPAY.out _).mono ?_
          rintro e w2 ⟨rfl, hb2⟩
          have R2 := HR.out.below hb2
          have hlt := R2.lt
          clear lv v0 v1 v2 v3 k0 k1 k2 k3
          obtain ⟨lv, ⟨v0, v1, v2, v3⟩, k0, k1, k2, k3⟩ := R2.b
          simp only [bR, bC, hrr, hcc] at v0 v1
          generalize hqq : len.tdiv sz = qq at *
          generalize hdd : max qq 1 = d0 at *
          by_cases hin : d0 * sz < len
          · have dX : decide (d0 * sz < len) = true := by simp only [decide_eq_true_eq]; exact hin
            rw [if_pos hin] at HDIV
            have hd1 : 1 ≤ d0 ∧ d0 + 1 ≤ 9223372036854775807 := by
              have h1 : 1 ≤ d0 := by omega
              have h2 := Int.mul_le_mul_of_nonneg_left (show (1 : Int) ≤ sz by omega) (show 0 ≤ d0 by omega)
              omega
            have B3 := (R2.b.set2 d0).set2 (d0 + 1)
            have Q3 := (R2.q.far (p := ⟨bb, 2, none⟩) (by show bb ≠ _; omega) (.int .i64 d0)).far (p := ⟨bb, 2, none⟩) (by show bb ≠ _; omega) (.int .i64 (d0 + 1))
            have F3 := HasFar (HasFar R2.f (p := ⟨bb, 2, none⟩) (by show bb ≠ _; omega) (.int .i64 d0)) (p := ⟨bb, 2, none⟩) (by show bb ≠ _; omega) (.int .i64 (d0 + 1))
            have BW3 := Bw.set (Bw.set R2.bw (p := ⟨bb, 2, none⟩) (by show w.heap.size ≤ bb; omega) (.int .i64 d0)) (p := ⟨bb, 2, none⟩) (by show w.heap.size ≤ bb; omega) (.int .i64 (d0 + 1))
            simp only [bR, bC, hrr, hcc] at B3
            by_cases hbg : 48 < d0 + 1
            · have dY : decide (48 < d0 + 1) = true := by simp only [decide_eq_true_eq]; exact hbg
              have HRS := Lib.hid (HRES.out 0 0 0 0 14 (-2) _ HDIV.out (fun _ => ⟨⟨rfl, rfl, rfl, rfl⟩, rfl, rfl⟩) (fun h => absurd h (by omega)))
              go_wp2_with fail
              refine (lpFault_any _ _ _).mono ?_
              rintro e w4 ⟨rfl, hb4⟩
              have Q4 := Q3.below hb4
              have F4 := F3.below hb4
              have BW4 := Bw.step BW3 hb4
              clear lv v0 v1 v2 v3 k0 k1 k2 k3
              obtain ⟨lq, ⟨q0, q1, q2, q3⟩, u0, u1, u2, u3⟩ := id Q4
              obtain ⟨lx, x0, x1, y0, y1⟩ := id F4
              go_wp2
              exact bodyPost_ret (resS rfl (.inr rfl) rfl rfl ((Q4.set 0 0 0 0).far2 (by omega) _ _) ((F4.far4 (by omega) _ _ _ _).set2 14 (-2))) rfl ⟨0, 0, 0, 0, 14, -2, rfl, by (rw [HPP.out]; exact HRS.out), Bw.set2 (Bw.set4 BW4 (by omega) _ _ _ _) (by omega) _ _⟩
            · have dY : decide (48 < d0 + 1) = false := by simp only [decide_eq_false_iff_not]; exact hbg
              have HRS := Lib.hid (HRES.out rr cc (d0 + 1) pp 0 0 _ HDIV.out (fun h => absurd h (by omega)) (fun _ => ⟨⟨rfl, rfl, rfl, rfl⟩, rfl, rfl⟩))
              obtain ⟨lq, ⟨q0, q1, q2, q3⟩, u0, u1, u2, u3⟩ := id Q3
              obtain ⟨lx, x0, x1, y0, y1⟩ := id F3
              obtain ⟨lb, ⟨b0, b1, b2, b3⟩, c0, c1, c2, c3⟩ := id B3
              go_wp2
              exact bodyPost_ret (resS rfl (.inr rfl) rfl rfl ((Q3.set rr cc (d0 + 1) pp).far2 (by omega) _ _) ((F3.far4 (by omega) _ _ _ _).set2 0 0)) rfl ⟨rr, cc, d0 + 1, pp, 0, 0, rfl, by (rw [HPP.out]; exact HRS.out), Bw.set2 (Bw.set4 BW3 (by omega) _ _ _ _) (by omega) _ _⟩
          · have dX : decide (d0 * sz < len) = false := by simp only [decide_eq_false_iff_not]; exact hin
            rw [if_neg hin] at HDIV
            have B3 := R2.b.set2 d0
            have Q3 := R2.q.far (p := ⟨bb, 2, none⟩) (by show bb ≠ _; omega) (.int .i64 d0)
            have F3 := HasFar R2.f (p := ⟨bb, 2, none⟩) (by show bb ≠ _; omega) (.int .i64 d0)
            have BW3 := Bw.set R2.bw (p := ⟨bb, 2, none⟩) (by show w.heap.size ≤ bb; omega) (.int .i64 d0)
            simp only [bR, bC, hrr, hcc] at B3
            by_cases hbg : 48 < d0
            · have dY : decide (48 < d0) = true := by simp only [decide_eq_true_eq]; exact hbg
              have HRS := Lib.hid (HRES.out 0 0 0 0 14 (-2) _ HDIV.out (fun _ => ⟨⟨rfl, rfl, rfl, rfl⟩, rfl, rfl⟩) (fun h => absurd h (by omega)))
              go_wp2_with fail
              refine (lpFault_any _ _ _).mono ?_
              rintro e w4 ⟨rfl, hb4⟩
              have Q4 := Q3.below hb4
              have F4 := F3.below hb4
              have BW4 := Bw.step BW3 hb4
              clear lv v0 v1 v2 v3 k0 k1 k2 k3
              obtain ⟨lq, ⟨q0, q1, q2, q3⟩, u0, u1, u2, u3⟩ := id Q4
              obtain ⟨lx, x0, x1, y0, y1⟩ := id F4
              go_wp2
              exact bodyPost_ret (resS rfl (.inr rfl) rfl rfl ((Q4.set 0 0 0 0).far2 (by omega) _ _) ((F4.far4 (by omega) _ _ _ _).set2 14 (-2))) rfl ⟨0, 0, 0, 0, 14, -2, rfl, by (rw [HPP.out]; exact HRS.out), Bw.set2 (Bw.set4 BW4 (by omega) _ _ _ _) (by omega) _ _⟩
            · have dY : decide (48 < d0) = false := by simp only [decide_eq_false_iff_not]; exact hbg
              have HRS := Lib.hid (HRES.out rr cc (d0) pp 0 0 _ HDIV.out (fun h => absurd h (by omega)) (fun _ => ⟨⟨rfl, rfl, rfl, rfl⟩, rfl, rfl⟩))
              obtain ⟨lq, ⟨q0, q1, q2, q3⟩, u0, u1, u2, u3⟩ := id Q3
              obtain ⟨lx, x0, x1, y0, y1⟩ := id F3
              obtain ⟨lb, ⟨b0, b1, b2, b3⟩, c0, c1, c2, c3⟩ := id B3
              go_wp2
              exact bodyPost_ret (resS rfl (.inr rfl) rfl rfl ((Q3.set rr cc (d0) pp).far2 (by omega) _ _) ((F3.far4 (by omega) _ _ _ _).set2 0 0)) rfl ⟨rr, cc, d0, pp, 0, 0, rfl, by (rw [HPP.out]; exact HRS.out), Bw.set2 (Bw.set4 BW3 (by omega) _ _ _ _) (by omega) _ _⟩
end Go.Proofs.YtmpjkdkgolmgdaaGreat
