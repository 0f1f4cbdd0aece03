/- The walk of the reference's Choose. -/
import Derived.Test.YtnajdmkdkpmdgaaLpS
import Derived.Test.YtnajdmkdkpmdgaaQuT
namespace Go.Proofs.Ytnajdmkdkpmdgaa
open Go.RowKit
set_option linter.unusedVariables false

/-- The state of the reference's search: payloads from the largest one down, candidates below n of payload s looked at. -/
def ChI (B : Nat → Bool) (s n : Nat) : Option Nat → Prop
  | none => UpTo B s ∧ ∀ k, k < n → payK k = s → B k = false
  | some x => BestN B 63 (some x)
theorem ChI.leave {B : Nat → Bool} {s n : Nat} {o : Option Nat} (h : ChI B s n o) (hn : o = none → payK n = s → B n = false) : ChI B s (n + 1) o := by
  cases o with
  | none =>
    refine ⟨h.1, fun k hk hp => ?_⟩
    by_cases e : k = n
    · subst e; exact hn rfl hp
    · exact h.2 k (by omega) hp
  | some x => exact h
theorem ChI.take {B : Nat → Bool} {s n : Nat} (h : ChI B s n none) (hn : n < 63) (hp : payK n = s) (hB : B n = true) (n' : Nat) : ChI B s n' (some n) :=
  h.1.best hn hB hp fun k hk hk' => h.2 k hk hk'
theorem ChI.some {B : Nat → Bool} {s n x : Nat} (h : ChI B s n (some x)) (s' n' : Nat) : ChI B s' n' (some x) := h
theorem ChI.next {B : Nat → Bool} {s : Nat} {o : Option Nat} (h : ChI B (s + 1) 63 o) : ChI B s 0 o := by
  cases o with
  | none => exact ⟨h.1.next fun k hk hp => h.2 k hk hp, fun k hk => absurd hk (Nat.not_lt_zero _)⟩
  | some x => exact h
theorem ChI.best {B : Nat → Bool} {s : Nat} {o : Option Nat} (h : ChI B s 0 o) (hs : o = none → s = 0) : BestN B 63 o := by
  cases o with
  | none => obtain rfl := hs rfl; exact h.1.none
  | some x => exact h
theorem bR_some (x : Nat) : decide (bR (some x) < 0) = false := decide_eq_false (show ¬ ((candR x : Nat) : Int) < 0 by omega)
theorem rAtB (c i : Int) (w : World) : Calls Try.prog 11 #[.int .i64 c, .int .i64 i] w fun e w' => e = .returned (.agg #[.int .i64 c, .int .i64 i]) ∧ Below w.heap.size w w' :=
  (refAt_any c i w).mono fun _ _ ⟨h1, h2⟩ => ⟨h1, h2 ▸ below_new _ _⟩
structure RhR (w wr : World) (bb : Nat) (m x h v S pp : Int) (o : Option Nat) : Prop where
  l : H5 wr w.heap.size m x h v S
  q : H4 wr (w.heap.size + 1) 0 0 0 0
  f : Has wr (w.heap.size + 2) 0 0
  b : H4 wr bb (bR o) (bC o) 0 pp
  bw : Below w.heap.size w wr
  lt : w.heap.size + 2 < bb
theorem RhR.below {w wr wr' : World} {bb : Nat} {m x h v S pp : Int} {o : Option Nat} (r : RhR w wr bb m x h v S pp o) (hb : Below wr.heap.size wr wr') : RhR w wr' bb m x h v S pp o :=
  ⟨r.l.below hb, r.q.below hb, r.f.below hb, r.b.below hb, Bw.step r.bw hb, r.lt⟩
theorem RhR.set {w wr : World} {bb : Nat} {m x h v S pp : Int} {o : Option Nat} (r : RhR w wr bb m x h v S pp o) (k : Nat) {r' c' : Int} (hr : r' = (candR k : Nat)) (hc : c' = (candC k : Nat)) :
    RhR w ((((wr.setCell ⟨bb, 0, none⟩ (.int .i64 r')).setCell ⟨bb, 1, none⟩ (.int .i64 c')).setCell ⟨bb, 2, none⟩ (.int .i64 0)).setCell ⟨bb, 3, none⟩ (.int .i64 pp)) bb m x h v S pp (some k) := by
  subst hr hc
  have := r.lt
  exact ⟨r.l.far4 (by omega) _ _ _ _, r.q.far4 (by omega) _ _ _ _, r.f.far4 (by omega) _ _ _ _, r.b.set _ _ _ _, Bw.set4 r.bw (by omega) _ _ _ _, r.lt⟩
set_option maxRecDepth 100000 in
set_option maxHeartbeats 8000000 in
theorem rChoose_ok (m x S len : Int) (H W : Nat) (w : World) (h' : loF m x H W S = (0, 0)) (hlen : 0 ≤ len ∧ len ≤ 9223372036854775807) :
    Calls Try.prog 15 #[loV m x H W S, .int .i64 len] w fun e w' => ∃ r c d p C I, e = .returned (.tuple #[plV r c d p, .agg #[.int .i64 C, .int .i64 I]]) ∧ ChRes H W S (m + 2 * x) len r c d p C I ∧ Below w.heap.size w w' := by
  have HC := Lib.hid (fun w => rLossesFault_any m x H W S w)
  rw [h'] at HC
  obtain ⟨hm, hx, hH, hW, hS⟩ := loF_ok h'
  have hpp : 0 ≤ m + 2 * x ∧ m + 2 * x ≤ 32 := by omega
  have L0 := H5.new w m x H W S 25
  have Q0 := H4.new (w.alloc (loC m x H W S)) 0 0 0 0 23
  have F0 := Has.new ((w.alloc (loC m x H W S)).alloc (plC 0 0 0 0)) 0 0 27
  have L0 := (L0.al (plC 0 0 0 0)).al (.cells #[.int .i64 0, .int .i64 0] 27)
  have Q0 := Q0.al (.cells #[.int .i64 0, .int .i64 0] 27)
  have B0 : Below w.heap.size w (((w.alloc (loC m x H W S)).alloc (plC 0 0 0 0)).alloc (.cells #[.int .i64 0, .int .i64 0] 27)) := by (repeat (first | exact Below.refl _ _ | assumption | refine Bw.al ?_ _ | refine Bw.step ?_ (by assumption) | refine Bw.drew ?_))
  simp only [World.size_alloc] at Q0 F0
  have dq0 : decide (len < 0) = false := by simp only [decide_eq_false_iff_not]; omega
  clear h'
  obtain ⟨ll, l0, l1, l2, l3, l4⟩ := id L0
  go_enter Try.func15, Try.ntmps15
  go_wp2_with fail
  generalize ((w.alloc (loC m x H W S)).alloc (plC 0 0 0 0)).alloc (.cells #[.int .i64 0, .int .i64 0] 27) = WA at *
  refine (HC.out _).mono ?_
  rintro e w1 ⟨rfl, hb1⟩
  have L0 := (L0.below hb1).al (.cells #[.int .i64 0, .int .i64 0] 27)
  have Q0 := (Q0.below hb1).al (.cells #[.int .i64 0, .int .i64 0] 27)
  have F0 := (F0.below hb1).al (.cells #[.int .i64 0, .int .i64 0] 27)
  have B0 := Bw.al (Bw.step B0 hb1) (.cells #[.int .i64 0, .int .i64 0] 27)
  obtain ⟨lf, f0, f1, g0, g1⟩ := Has.new w1 0 0 27
  clear ll l0 l1 l2 l3 l4
  obtain ⟨ll, l0, l1, l2, l3, l4⟩ := id L0
  have BV := H4.new (w1.alloc (.cells #[.int .i64 0, .int .i64 0] 27)) (-1) 0 0 (m + 2 * x) 23
  rw [World.size_alloc] at BV
  have hRel : RhR w ((w1.alloc (.cells #[.int .i64 0, .int .i64 0] 27)).alloc (plC (-1) 0 0 (m + 2 * x))) (w1.heap.size + 1) m x H W S (m + 2 * x) none :=
    ⟨L0.al _, Q0.al _, F0.al _, BV, Bw.al B0 _, by have := F0.1; simp only [World.size_alloc] at this; omega⟩
  go_wp2
  generalize (w1.alloc (.cells #[.int .i64 0, .int .i64 0] 27)).alloc (plC (-1) 0 0 (m + 2 * x)) = WB at *
  generalize w1.heap.size + 1 = bb at *
  generalize w1.heap.size = bf at *
  have HR0 := Lib.hid hRel
  clear hRel lf f0 f1 g0 g1 ll l0 l1 l2 l3 l4 L0 Q0 F0 B0 BV hb1
  generalize hPP : m + 2 * x = pp at *
  have HPP := Lib.hid hPP
  clear hPP
  go_loopw [8] (fun i wr => ∃ (s : Nat) (o : Option Nat), s ≤ 384 ∧ i = .int .i64 (s : Nat) ∧ ChI (BK H W S) s 0 o ∧ RhR w wr bb m x H W S pp o) (fun i _ => (intOf i).toNat)
  case atStart => exact ⟨384, none, Nat.le_refl _, rfl, ⟨UpTo.start _, fun k hk => absurd hk (Nat.not_lt_zero _)⟩, HR0.out⟩
  case round =>
    obtain ⟨s, o, hs, rfl, hB, hR⟩ := hrel
    by_cases hgo : 0 < s ∧ o = none
    · obtain ⟨hs0, rfl⟩ := hgo
      have HB1 := Lib.hid hB
      have HR1 := Lib.hid hR
      have dq1 : decide (0 < (s : Int)) = true := by simp only [decide_eq_true_eq]; omega
      have hsm : 1 ≤ (s : Int) ∧ (s : Int) ≤ 384 := by omega
      have HSN : Hid (((s - 1 : Nat) : Int) = (s : Int) - 1) := Lib.hid (by omega)
      have HS1 : Hid (s - 1 + 1 = s) := Lib.hid (by omega)
      obtain ⟨lv, ⟨v0, v1, v2, v3⟩, _⟩ := id hR.b
      simp only [bR, bC] at v0 v1
      clear hB hR
      go_wp2
      clear lv v0 v1 v2 v3
      go_loopw [9] (fun i wr => ∃ (a : Nat) (o : Option Nat), a ≤ 9 ∧ i = .int .i64 ((2 * a : Nat) : Int) ∧ ChI (BK H W S) s (7 * a) o ∧ RhR w wr bb m x H W S pp o) (fun i _ => 18 - (intOf i).toNat)
      case atStart => exact ⟨0, none, Nat.zero_le _, rfl, HB1.out, HR1.out⟩
      case round =>
        obtain ⟨a, o, ha, rfl, hB, hR⟩ := hrel
        by_cases hgo : a < 9 ∧ o = none
        · obtain ⟨hla, rfl⟩ := hgo
          have HB1 := Lib.hid hB
          have HR1 := Lib.hid hR
          have dq1 : decide (((2 * a : Nat) : Int) ≤ 16) = true := by simp only [decide_eq_true_eq]; omega
          have HNA : Hid (((2 * (a + 1) : Nat) : Int) = ((2 * a : Nat) : Int) + 2) := Lib.hid (by omega)
          have HN7 : Hid (7 * (a + 1) = 7 * a + 7) := Lib.hid (by omega)
          have hma : ((2 * a : Nat) : Int) ≤ 16 ∧ 0 ≤ ((2 * a : Nat) : Int) := by omega
          obtain ⟨lv, ⟨v0, v1, v2, v3⟩, _⟩ := id hR.b
          simp only [bR, bC] at v0 v1
          clear hB hR
          generalize hra : ((2 * a : Nat) : Int) = ra at *
          have HRA := Lib.hid hra
          clear hra
          go_wp2
          clear lv v0 v1 v2 v3
          go_loopw [10] (fun i wr => ∃ (j : Nat) (o : Option Nat), j ≤ 7 ∧ i = .int .i64 ((2 * j : Nat) : Int) ∧ ChI (BK H W S) s (7 * a + j) o ∧ RhR w wr bb m x H W S pp o) (fun i _ => 14 - (intOf i).toNat)
          case atStart => exact ⟨0, none, Nat.zero_le _, rfl, HB1.out, HR1.out⟩
          case round =>
            obtain ⟨j, o2, hj, rfl, hB, hR⟩ := hrel
            by_cases hlj : j < 7
            · --[[b
              have HB2 := Lib.hid hB
              obtain ⟨lv, ⟨v0, v1, v2, v3⟩, _⟩ := id hR.b
              have P1 := H4.new wr ((2 * a : Nat) : Int) ((2 * j : Nat) : Int) 0 pp 23
              have R1 := hR.below (below_new wr (plC ((2 * a : Nat) : Int) ((2 * j : Nat) : Int) 0 pp))
              have HPAY := Lib.hid (fun w => rPayloadOf_any ((2 * a : Nat) : Int) ((2 * j : Nat) : Int) 0 pp w (by omega) (by omega))
              have hpk := payK_int (7 * a + j) (by omega)
              rw [candR_at hlj, candC_at hlj] at hpk
              rw [← hpk] at HPAY
              have HBE := Lib.hid (fun w => rPageBears_any ((2 * a : Nat) : Int) ((2 * j : Nat) : Int) 0 pp m x S (a : Nat) (j : Nat) H W w (by rw [Int.tdiv_eq_ediv_of_nonneg (by omega)]; omega) (by rw [Int.tdiv_eq_ediv_of_nonneg (by omega)]; omega) (by omega) (by omega) (by omega) (by omega) hS)
              have dq2 : decide (((2 * j : Nat) : Int) ≤ 12) = true := by simp only [decide_eq_true_eq]; omega
              have HSET := Lib.hid (fun W (hb : Below wr.heap.size wr W) => (hR.below hb).set (7 * a + j) (r' := ((2 * a : Nat) : Int)) (c' := ((2 * j : Nat) : Int)) (by rw [candR_at hlj]) (by rw [candC_at hlj]))
              have HR2 := Lib.hid hR
              have hmb : ((2 * j : Nat) : Int) ≤ 12 ∧ 0 ≤ ((2 * j : Nat) : Int) := by omega
              have HCN : Hid (((2 * (j + 1) : Nat) : Int) = ((2 * j : Nat) : Int) + 2) := Lib.hid (by omega)
              have HAT : Hid (BK H W S (7 * a + j) = pageB (a : Nat) (j : Nat) H W S) := Lib.hid (BK_at hlj)
              have hn63 : 7 * a + j < 63 := by omega
              generalize pageB (a : Nat) (j : Nat) H W S = pb at *
              clear hB hR hpk
              rw [HRA.out] at P1 HPAY HBE HSET R1
              generalize hcj : ((2 * j : Nat) : Int) = cj at *
              have HCJ := Lib.hid hcj
              clear hcj
              have HPS : Hid ((((payK (7 * a + j) : Nat) : Int) == (s : Int)) = true → payK (7 * a + j) = s) := Lib.hid (fun h => by have := eq_of_beq h; omega)
              have HPN : Hid ((((payK (7 * a + j) : Nat) : Int) == (s : Int)) = false → payK (7 * a + j) ≠ s) := Lib.hid (fun h e => by rw [beq_eq_false_iff_ne] at h; omega)
              have hpd := payK_bd (7 * a + j) hn63
              generalize ((payK (7 * a + j) : Nat) : Int) = pk at *
              generalize hpe : (pk == (s : Int)) = pe at *
              obtain ⟨lp, ⟨p0, p1, p2, p3⟩, q0, q1, q2, q3⟩ := id P1
              have hb0 := below_new wr (plC ra cj 0 pp)
              go_wp2_with fail
              refine (HPAY.out _).mono ?_
              rintro e w2 ⟨rfl, hb2⟩
              have hb02 : Below wr.heap.size wr w2 := hb0.trans (hb2.mono (by simp))
              have P2 := P1.below hb2
              have R2 := R1.below hb2
              clear lv v0 v1 v2 v3 lp p0 p1 p2 p3 q0 q1 q2 q3 HPAY
              obtain ⟨lp, ⟨p0, p1, p2, p3⟩, q0, q1, q2, q3⟩ := id P2
              obtain ⟨ll, l0, l1, l2, l3, l4⟩ := id R2.l
              obtain ⟨lv, ⟨v0, v1, v2, v3⟩, k0, k1, k2, k3⟩ := id R2.b
              cases pe with
              | false =>
                have HST := Lib.hid (HB2.out.leave (fun _ hp => absurd hp (HPN.out rfl)))
                have HR3 := Lib.hid (HR2.out.below hb02)
                clear HSET HBE HPS HPN
                go_wp2
                go_roundw
                case rel => first | exact ⟨j + 1, o2, by omega, by (rw [HCN.out]), HST.out, HR3.out⟩ | ((repeat apply Exists.intro); exact ⟨⟨j + 1, o2, by omega, by (rw [HCN.out]), HST.out, HR3.out⟩, rfl⟩)
                case measure => simp [intOf]; omega
              | true =>
                have hpt : payK (7 * a + j) = s := HPS.out rfl
                have HPT := Lib.hid hpt
                clear HPS hpt
                cases o2 with
                | some xx =>
                  have HST := Lib.hid (HB2.out.leave (fun h => by cases h))
                  have HR3 := Lib.hid (HR2.out.below hb02)
                  simp only [bR, bC] at v0 v1
                  have dr : decide (((candR xx : Nat) : Int) < 0) = false := by simp only [decide_eq_false_iff_not]; omega
                  clear HSET HBE HPN
                  go_wp2
                  go_roundw
                  case rel => first | exact ⟨j + 1, some xx, by omega, by (rw [HCN.out]), HST.out, HR3.out⟩ | ((repeat apply Exists.intro); exact ⟨⟨j + 1, some xx, by omega, by (rw [HCN.out]), HST.out, HR3.out⟩, rfl⟩)
                  case measure => simp [intOf]; omega
                | none =>
                  simp only [bR, bC] at v0 v1
                  go_wp2_with fail
                  refine (HBE.out _).mono ?_
                  rintro e w3 ⟨rfl, hb3⟩
                  have hb03 : Below wr.heap.size wr w3 := Bw.step hb02 hb3
                  have P3 := P2.below hb3
                  clear lp p0 p1 p2 p3 q0 q1 q2 q3 ll l0 l1 l2 l3 l4 lv v0 v1 v2 v3 k0 k1 k2 k3
                  obtain ⟨lp, ⟨p0, p1, p2, p3⟩, q0, q1, q2, q3⟩ := id P3
                  cases pb with
                  | false =>
                    have HST := Lib.hid (HB2.out.leave (fun _ _ => HAT.out))
                    have HR3 := Lib.hid (HR2.out.below hb03)
                    clear HSET HBE HPN
                    go_wp2
                    go_roundw
                    case rel => first | exact ⟨j + 1, none, by omega, by (rw [HCN.out]), HST.out, HR3.out⟩ | ((repeat apply Exists.intro); exact ⟨⟨j + 1, none, by omega, by (rw [HCN.out]), HST.out, HR3.out⟩, rfl⟩)
                    case measure => simp [intOf]; omega
                  | true =>
                    have HST := Lib.hid (HB2.out.take hn63 HPT.out HAT.out (7 * a + (j + 1)))
                    have HR3 := Lib.hid (HSET.out _ hb03)
                    obtain ⟨lv, ⟨v0, v1, v2, v3⟩, w0', w1', w2', w3'⟩ := (HR2.out.below hb03).b
                    clear HSET HBE HPN
                    go_wp2
                    go_roundw
                    case rel => first | exact ⟨j + 1, some (7 * a + j), by omega, by (rw [HCN.out]), HST.out, HR3.out⟩ | ((repeat apply Exists.intro); exact ⟨⟨j + 1, some (7 * a + j), by omega, by (rw [HCN.out]), HST.out, HR3.out⟩, rfl⟩)
                    case measure => simp [intOf]; omega
            · obtain rfl : j = 7 := by omega
              have HB2 := Lib.hid hB
              have HR2 := Lib.hid hR
              have dq2 : decide (((2 * 7 : Nat) : Int) ≤ 12) = false := by decide
              clear hB hR
              go_wp2
              go_roundw
              case rel => first | exact ⟨a + 1, o2, by omega, by (rw [HNA.out]), by (rw [HN7.out]; exact HB2.out), HR2.out⟩ | ((repeat apply Exists.intro); exact ⟨⟨a + 1, o2, by omega, by (rw [HNA.out]), by (rw [HN7.out]; exact HB2.out), HR2.out⟩, rfl⟩)
              case measure => simp [intOf]; omega
        · have HST : Hid (ChI (BK H W S) (s - 1) 0 o) := by
            cases o with
            | some xx => exact Lib.hid hB
            | none =>
              obtain rfl : a = 9 := by
                rcases Nat.lt_or_ge a 9 with h | h
                · exact absurd ⟨h, rfl⟩ hgo
                · omega
              refine Lib.hid (ChI.next (s := s - 1) ?_)
              rw [HS1.out]; exact hB
          have HR2 := Lib.hid hR
          obtain ⟨lv, ⟨v0, v1, v2, v3⟩, _⟩ := id hR.b
          have hw : decide (((2 * a : Nat) : Int) ≤ 16) = false ∨ (decide (((2 * a : Nat) : Int) ≤ 16) = true ∧ decide (bR o < 0) = false) := by
            by_cases h9 : a < 9
            · refine .inr ⟨by simp only [decide_eq_true_eq]; omega, ?_⟩
              cases o with
              | none => exact absurd ⟨h9, rfl⟩ hgo
              | some xx => exact bR_some xx
            · exact .inl (by simp only [decide_eq_false_iff_not]; omega)
          clear hB hR hgo
          generalize bR o = br at *
          generalize ((2 * a : Nat) : Int) = ra at *
          rcases hw with x1 | ⟨x1, x2⟩
          all_goals
            go_wp2
            go_roundw
            case rel => first | exact ⟨s - 1, o, by omega, by (rw [HSN.out]), HST.out, HR2.out⟩ | ((repeat apply Exists.intro); exact ⟨⟨s - 1, o, by omega, by (rw [HSN.out]), HST.out, HR2.out⟩, rfl⟩)
            case measure => simp [intOf]; omega
    · --[[e
      have hBest := hB.best (fun e => by
        rcases Nat.eq_zero_or_pos s with h | h
        · exact h
        · exact absurd ⟨h, e⟩ hgo)
      have HR := Lib.hid hR
      obtain ⟨lv, ⟨v0, v1, v2, v3⟩, k0, k1, k2, k3⟩ := hR.b
      have hw : decide (0 < s) = false ∨ (decide (0 < s) = true ∧ decide (bR o < 0) = false) := by
        by_cases h9 : 0 < s
        · refine .inr ⟨decide_eq_true h9, ?_⟩
          cases o with
          | none => exact absurd ⟨h9, rfl⟩ hgo
          | some xx => exact bR_some xx
        · exact .inl (decide_eq_false h9)
      clear hB hR hgo
      by_cases hbig : o = none ∨ 16 < pp
      · have HRES : Hid (ChRes H W S pp len 0 0 0 0 14 (-1)) := Lib.hid ⟨o, hBest, fun _ => ⟨⟨rfl, rfl, rfl, rfl⟩, rfl, rfl⟩, fun k hk hp => by
          rcases hbig with h | h
          · rw [h] at hk; cases hk
          · exact absurd hp (by omega)⟩
        have hq : decide (bR o < 0) = true ∨ (decide (bR o < 0) = false ∧ decide (16 < pp) = true) := by
          by_cases h1 : bR o < 0
          · exact .inl (decide_eq_true h1)
          · refine .inr ⟨decide_eq_false h1, decide_eq_true (hbig.resolve_left fun e => h1 ?_)⟩
            rw [e]; decide
        clear hBest hbig
        generalize bR o = br at *
        generalize bC o = bc at *
        rcases hw with x1 | ⟨x1, x2⟩
        all_goals
          rcases hq with y1 | ⟨y1, y2⟩
          all_goals
            first
            | exact absurd (x2.symm.trans y1) (by decide)
            | skip
        all_goals
          go_wp2_with fail
          refine (rAtB _ _ _).mono ?_
          rintro e w2 ⟨rfl, hb2⟩
          have R2 := HR.out.below hb2
          have hlt := R2.lt
          clear lv v0 v1 v2 v3 k0 k1 k2 k3
          obtain ⟨lq, ⟨q0, q1, q2, q3⟩, u0, u1, u2, u3⟩ := R2.q
          obtain ⟨lx, z0, z1, zz0, zz1⟩ := R2.f
          go_wp2
          exact bodyPost_ret (resS rfl (.inr rfl) rfl rfl ((R2.q.set 0 0 0 0).far2 (by omega) _ _) ((R2.f.far4 (by omega) _ _ _ _).set2 14 (-1))) rfl ⟨0, 0, 0, 0, 14, -1, rfl, by (rw [HPP.out]; exact HRES.out), Bw.set2 (Bw.set4 R2.bw (by omega) _ _ _ _) (by omega) _ _⟩
      · cases o with
        | none => exact absurd (.inl rfl) hbig
        | some k =>
          have hpb : ¬ 16 < pp := fun h => hbig (.inr h)
          have hk : k < 63 := hBest.1
          have hr16 : candR k ≤ 16 := by unfold candR; omega
          have hc12 : candC k ≤ 12 := by unfold candC; omega
          have hpay := payK_int k hk
          have hbd := payK_bd k hk
          have HRES := Lib.hid (fun (r c d p C I : Int) dd (h1 : IsData len (payK k) dd) h2 h3 => (show ChRes H W S pp len r c d p C I from ⟨some k, hBest, fun hh => by rcases hh with h | h; cases h; exact absurd h hpb, fun k' hk' _ => by injection hk' with hk'; subst hk'; exact ⟨dd, h1, h2, h3⟩⟩))
          have HEX := Lib.hid (IsData.of_div (len := len) (size := ((payK k : Nat) : Int)) (by omega) hlen.1)
          have HPAY := Lib.hid (fun w => rPayloadOf_any ((candR k : Nat) : Int) ((candC k : Nat) : Int) 0 pp w (by omega) (by omega))
          rw [← hpay] at HPAY
          have hszb : 32 ≤ ((payK k : Nat) : Int) ∧ ((payK k : Nat) : Int) ≤ 384 := by omega
          generalize ((payK k : Nat) : Int) = sz at *
          simp only [bR] at hw
          rcases hw with x1 | ⟨x1, x2⟩
          all_goals
            have d2 : decide (((candR k : Nat) : Int) < 0) = false := by simp only [decide_eq_false_iff_not]; omega
            have d1 : decide (16 < pp) = false := by simp only [decide_eq_false_iff_not]; exact hpb
            clear hBest hpay hbd hbig
            simp only [bR, bC] at v0 v1
            obtain ⟨rr, hrr⟩ : ∃ rr : Int, ((candR k : Nat) : Int) = rr := ⟨_, rfl⟩
            obtain ⟨cc, hcc⟩ : ∃ cc : Int, ((candC k : Nat) : Int) = cc := ⟨_, rfl⟩
            rw [hrr] at v0 HRES HPAY d2
            rw [hcc] at v1 HRES HPAY
            try rw [hrr] at x2
            have HRR := Lib.hid hrr
            have HCC := Lib.hid hcc
            clear hrr hcc
            go_wp2
            clear lv v0 v1 v2 v3 k0 k1 k2 k3
            go_loopw [12] (fun i wr => ∃ n : Nat, 1 ≤ n ∧ n ≤ 49 ∧ i = .int .i64 (n : Nat) ∧ (∀ j : Int, 1 ≤ j → j < (n : Int) → j * sz < len) ∧ RhR w wr bb m x H W S pp (some k)) (fun i _ => 49 - (intOf i).toNat)
            case atStart => exact ⟨1, Nat.le_refl _, by omega, rfl, fun j h1 h2 => absurd h2 (by omega), HR.out⟩
            case round =>
              obtain ⟨n, hn1, hn2, rfl, hall, hR⟩ := hrel
              have HALL := Lib.hid hall
              have HR2 := Lib.hid hR
              obtain ⟨lv, ⟨v0, v1, v2, v3⟩, k0, k1, k2, k3⟩ := id hR.b
              simp only [bR, bC, HRR.out, HCC.out] at v0 v1
              clear hall hR
              by_cases hn : n < 49
              · have dn : decide ((n : Int) ≤ 48) = true := by simp only [decide_eq_true_eq]; omega
                have hm : 0 ≤ (n : Int) * sz ∧ (n : Int) * sz ≤ 48 * 384 := ⟨Int.mul_nonneg (by omega) (by omega), Int.mul_le_mul (by omega) (by omega) (by omega) (by omega)⟩
                by_cases hfit : len ≤ (n : Int) * sz
                · have df : decide (len ≤ (n : Int) * sz) = true := by simp only [decide_eq_true_eq]; exact hfit
                  have HRS := Lib.hid (HRES.out rr cc (n : Int) pp 0 0 (n : Int) ⟨by omega, hfit, HALL.out⟩ (fun h => absurd h (by omega)) (fun _ => ⟨⟨rfl, rfl, rfl, rfl⟩, rfl, rfl⟩))
                  clear hfit
                  go_wp2_with fail
                  refine (HPAY.out _).mono ?_
                  rintro e w2 ⟨rfl, hb2⟩
                  have R2 := HR2.out.below hb2
                  have hlt := R2.lt
                  clear lv v0 v1 v2 v3 k0 k1 k2 k3
                  obtain ⟨lv, ⟨v0, v1, v2, v3⟩, k0, k1, k2, k3⟩ := id R2.b
                  simp only [bR, bC, HRR.out, HCC.out] at v0 v1
                  have B3 := R2.b.set2 (n : Int)
                  have Q3 := R2.q.far (p := ⟨bb, 2, none⟩) (by show bb ≠ _; omega) (.int .i64 (n : Int))
                  have F3 := HasFar R2.f (p := ⟨bb, 2, none⟩) (by show bb ≠ _; omega) (.int .i64 (n : Int))
                  have BW3 := Bw.set R2.bw (p := ⟨bb, 2, none⟩) (by show w.heap.size ≤ bb; omega) (.int .i64 (n : Int))
                  simp only [bR, bC, HRR.out, HCC.out] at B3
                  go_wp2
                  generalize w2.setCell ⟨bb, 2, none⟩ (.int .i64 (n : Int)) = W0 at *
                  clear lv v0 v1 v2 v3 k0 k1 k2 k3
                  have hx1 := fun (x : Ext W0) => (B3.below x.below).2.1.1
                  have hx2 := fun (x : Ext W0) => (B3.below x.below).2.1.2.1
                  have hx3 := fun (x : Ext W0) => (B3.below x.below).2.1.2.2.1
                  have hx4 := fun (x : Ext W0) => (B3.below x.below).2.1.2.2.2
                  (refine wp_region_extail 2 (by kernel_rfl) (by kernel_rfl) ?_; simp only [List.take_succ_cons, List.take_zero, List.drop_succ_cons, List.drop_zero]; (repeat (go_big_quiet_step ((go_at_call 11; exact ext_alloc (refAt_any _ _ _))))); refine wpQuiet_nil ?_; intro W5 hw'; have hW5 := ext_below hw'; clear hw')
                  have Q5 := Q3.below hW5
                  have F5 := F3.below hW5
                  have BW5 := Bw.step BW3 hW5
                  clear hx1 hx2 hx3 hx4
                  obtain ⟨lq, ⟨q0, q1, q2, q3⟩, u0, u1, u2, u3⟩ := id Q5
                  obtain ⟨lx, z0, z1, zz0, zz1⟩ := id F5
                  go_wp2
                  exact bodyPost_ret (resS rfl (.inr rfl) rfl rfl ((Q5.set rr cc (n : Int) pp).far2 (by omega) _ _) ((F5.far4 (by omega) _ _ _ _).set2 0 0)) rfl ⟨rr, cc, (n : Int), pp, 0, 0, rfl, by (rw [HPP.out]; exact HRS.out), Bw.set2 (Bw.set4 BW5 (by omega) _ _ _ _) (by omega) _ _⟩
                · have df : decide (len ≤ (n : Int) * sz) = false := by simp only [decide_eq_false_iff_not]; exact hfit
                  have HNX : Hid (∀ j : Int, 1 ≤ j → j < ((n + 1 : Nat) : Int) → j * sz < len) := Lib.hid fun j h1 h2 => by
                    by_cases e : j = (n : Int)
                    · subst e; omega
                    · exact HALL.out j h1 (by omega)
                  clear hfit
                  go_wp2_with fail
                  refine (HPAY.out _).mono ?_
                  rintro e w2 ⟨rfl, hb2⟩
                  have R2 := Lib.hid (HR2.out.below hb2)
                  clear lv v0 v1 v2 v3 k0 k1 k2 k3
                  go_wp2
                  go_roundw
                  case rel => first | exact ⟨n + 1, by omega, by omega, by go_num, HNX.out, R2.out⟩ | ((repeat apply Exists.intro); exact ⟨⟨n + 1, by omega, by omega, by go_num, HNX.out, R2.out⟩, rfl⟩)
                  case measure => simp [intOf]; omega
              · obtain rfl : n = 49 := by omega
                have dn : decide (((49 : Nat) : Int) ≤ 48) = false := by decide
                have HRS : Hid (ChRes H W S pp len 0 0 0 0 14 (-2)) := by
                  have hE := HEX.out
                  generalize (if max (len.tdiv sz) 1 * sz < len then max (len.tdiv sz) 1 + 1 else max (len.tdiv sz) 1) = dd at hE
                  refine Lib.hid (HRES.out 0 0 0 0 14 (-2) dd hE (fun _ => ⟨⟨rfl, rfl, rfl, rfl⟩, rfl, rfl⟩) (fun h => ?_))
                  have := HALL.out dd hE.1 (by omega)
                  have := hE.2.1
                  omega
                go_wp2_with fail
                refine (rAtB _ _ _).mono ?_
                rintro e w2 ⟨rfl, hb2⟩
                have R2 := HR2.out.below hb2
                have hlt := R2.lt
                clear lv v0 v1 v2 v3 k0 k1 k2 k3
                obtain ⟨lq, ⟨q0, q1, q2, q3⟩, u0, u1, u2, u3⟩ := R2.q
                obtain ⟨lx, z0, z1, zz0, zz1⟩ := R2.f
                go_wp2
                exact bodyPost_ret (resS rfl (.inr rfl) rfl rfl ((R2.q.set 0 0 0 0).far2 (by omega) _ _) ((R2.f.far4 (by omega) _ _ _ _).set2 14 (-2))) rfl ⟨0, 0, 0, 0, 14, -2, rfl, by (rw [HPP.out]; exact HRS.out), Bw.set2 (Bw.set4 R2.bw (by omega) _ _ _ _) (by omega) _ _⟩
end Go.Proofs.Ytnajdmkdkpmdgaa
