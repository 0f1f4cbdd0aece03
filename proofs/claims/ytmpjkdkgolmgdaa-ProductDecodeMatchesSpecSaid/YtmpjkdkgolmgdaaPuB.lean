/- Product codes: the walk of the reference's Unblock. -/
import Derived.Test.YtmpjkdkgolmgdaaPuA
import Derived.Deep.CutRange
namespace Go.Proofs.Ytmpjkdkgolmgdaa
open Go.RowKit
set_option linter.unusedVariables false

theorem own_low_cell {w : World} {g i gx j : Nat} {u v : Value} {S B : Nat} (h : g < S) (hx : gx < B) (hc : w.cell? ⟨gx, j, none⟩ = some v) (hS : S ≤ gx) : (w.setCell ⟨g, i, none⟩ u).cell? ⟨gx, j, none⟩ = some v := by
  rw [World.cell?_setCell_other _ _ _ _ (by intro e; injection e with e1; omega)]; exact hc
set_option maxRecDepth 100000 in
set_option maxHeartbeats 16000000 in
theorem rUnblock_any (A I : Option Addr) (n c me ci R C p q : Nat) (code : List GF) (es : List Nat) (w : World) (hc : RdB w A n code) (hi : RdI w I me (toI es)) (hnc : n ≤ c) (hn : n = R * C) (h1 : 1 ≤ R) (h2 : R ≤ 32) (h3 : 1 ≤ C) (h4 : C ≤ 32) (h5 : p < C) (h6 : q < R) (hlt : ∀ i ∈ es, i < n) (hme : me ≤ 9223372036854775807) :
    Calls Try.prog 22 #[.slice A n c, shpV R C p q, .slice I me ci] w fun e w' => ∃ A1 d1 A2 d2, e = .returned (.tuple #[.slice A1 (unblockL R C p q code es).data.length d1, .slice A2 (unblockL R C p q code es).lost.length d2, .int .i64 ((unblockL R C p q code es).fixed : Nat)]) ∧
      OwB w' w.heap.size (.slice A1 (unblockL R C p q code es).data.length d1) (unblockL R C p q code es).data ∧
      OwI w' w.heap.size (.slice A2 (unblockL R C p q code es).lost.length d2) (toI (unblockL R C p q code es).lost) ∧ Below w.heap.size w w' := by
  have lm : me = es.length := by rw [← hi.1, toI_len]
  subst lm
  have hN : n ≤ 1024 := by have := (mul32 h2 h4).2; rw [← Int.natCast_mul, ← hn] at this; omega
  have hn1 : 1 ≤ n := by rw [hn]; exact Nat.mul_pos h1 h3
  have HUN : Hid (unblockL R C p q code es = resN R C p q (allLostB R C p (runL R C p q 4 (code, markN n es es.length))) code (runL R C p q 4 (code, markN n es es.length)).1 (runL R C p q 4 (code, markN n es es.length)).2 (R * C)) := Lib.hid (by unfold unblockL; rw [hc.1])
  generalize unblockL R C p q code es = UN at *
  have HC := Lib.hid hc
  have HI := Lib.hid hi
  have HN := Lib.hid hn
  have HLT := Lib.hid hlt
  have hcl : code.length ≤ 1024 := by rw [hc.1]; exact hN
  have S0 := S4.new w R C p q
  have B0 := below_new w (shpC R C p q)
  have HMK := fun w => run_makeT n (by omega) w
  clear hc hi hn hlt
  go_enter Try.func22, Try.ntmps22
  go_wp2_with (at_builtin; refine wpList_appB (w.alloc (shpC R C p q)) rfl (.tmp 36) (.tmp 37) rfl (w.heap.size + 1) (.slice none 0 0) [] rfl (OwB.nil _ _) A n c code rfl (HC.out.al _) (by simp; omega) (by simp) ?_; intro v1 w1 ho1 hg1 hat1; rw [List.nil_append] at ho1; have hb1 := (grown_below hg1 (OwB.nil (w.alloc (shpC R C p q)) (w.heap.size + 1)) (by simp)); clear hg1 hat1; obtain ⟨A1, c1, rfl⟩ := ho1.form; rw [HC.out.1] at *; obtain ⟨g1, rfl⟩ := ho1.head hn1)
  have U0 : UbR w (w1.alloc (.cells (zerosT n) 4)) g1 w1.heap.size R C p q n c1 (code, markN n es 0) :=
    ⟨(S0.under hb1 (Nat.lt_succ_self _)).al _, ho1.below (below_new _ _), OwT.new w1 (w.heap.size + 1) n (by have := hb1.size; rw [World.size_alloc] at this; omega) (by unfold maxLen; omega), Bw.al (B0.trans (hb1.mono (Nat.le_succ _))) _, by have := ho1.lt.2; omega⟩
  clear S0 B0 ho1 hb1 HMK
  generalize w1.alloc (.cells (zerosT n) 4) = W1 at *
  generalize w1.heap.size = g2 at *
  have HU0 := Lib.hid U0
  clear U0
  go_loopw [11] (fun i wr => ∃ k : Nat, k ≤ es.length ∧ i = .int .i64 k ∧ UbR w wr g1 g2 R C p q n c1 (code, markN n es k)) (fun i _ => es.length - (intOf i).toNat)
  case atStart => exact ⟨0, Nat.zero_le _, rfl, HU0.out⟩
  case round =>
    obtain ⟨k, hk, rfl, hU⟩ := hrel
    clear HU0
    by_cases hlk : k < es.length
    · --[[A
      have hkn := HLT.out _ (gmem hlk)
      obtain ⟨bi, oi, rfl, hlb, hcc⟩ := rdI_cell (HI.out.below hU.bw) (i := k) hlk
      rw [toI_getD] at hcc
      have hco := hU.m.cellAt (i := es.getD k 0) hkn
      have hfo := hU.m.frozenAt (es.getD k 0)
      have HNU := Lib.hid (hU.setM (es.getD k 0) true)
      rw [← mark_step] at HNU
      clear hU
      generalize (markN n es k).getD (es.getD k 0) false = mo at *
      generalize es.getD k 0 = j at *
      go_wp2
      go_roundw
      case rel => first | exact ⟨k + 1, by omega, by go_num, HNU.out⟩ | ((repeat apply Exists.intro); exact ⟨⟨k + 1, by omega, by go_num, HNU.out⟩, rfl⟩)
      case measure => simp [intOf]; omega
    · obtain rfl : k = es.length := by omega
      have HU0 := Lib.hid hU
      have HR0 := Lib.hid (RunAt.start R C p q (code, markN n es es.length))
      clear hU
      generalize (code, markN n es es.length) = st0 at *
      have HGN := Lib.hid (show ∃ s0 : St, s0 = st0 from ⟨_, rfl⟩)
      go_wp2
      go_loopw [12, 13, 14] (fun v u i wr => ∃ (k : Nat) (s : St) (cl rt : Bool), k ≤ 4 ∧ i = .int .i64 k ∧ v = .bool cl ∧ u = .bool rt ∧ Hid (RunAt R C p q st0 k s cl rt) ∧ UbR w wr g1 g2 R C p q n c1 s) (fun _ _ i _ => 4 - (intOf i).toNat)
      case atStart => exact ⟨0, st0, false, false, by omega, rfl, rfl, rfl, HR0, HU0.out⟩
      case round =>
        obtain ⟨k, s, cl, rt, hk, rfl, rfl, rfl, HR, hU⟩ := hrel
        clear HU0 HR0 HGN
        have HU := Lib.hid hU
        clear hU
        go_upto_region 10 with fail
        go_cut [62] from 54 to 227 (fun v wx => v = .bool (decide (k < 4) && !(cl && rt)) ∧ wx = wr)
        case first =>
          by_cases h4 : k < 4
          · cases cl with
            | false =>
              go_wp2
              go_meet
              case rel => exact ⟨by simp [h4], rfl⟩
            | true =>
              cases rt with
              | false =>
                go_wp2
                go_meet
                case rel => exact ⟨by simp [h4], rfl⟩
              | true =>
                go_wp2
                go_meet
                case rel => exact ⟨by simp [h4], rfl⟩
          · go_wp2
            go_meet
            case rel => exact ⟨by simp [h4], rfl⟩
        case rest =>
          obtain ⟨rfl, rfl⟩ := hcut
          have hst : ∃ go : Bool, (decide (k < 4) && !(cl && rt)) = go := ⟨_, rfl⟩
          obtain ⟨go, hgo⟩ := hst
          rw [hgo]
          cases go with
          | true => as_aux_lemma =>
            have hk4 : k < 4 := by
              rcases Nat.lt_or_ge k 4 with h | h
              · exact h
              · rw [decide_eq_false (by omega)] at hgo; cases hgo
            have hcr : (cl && rt) = false := by
              cases h : (cl && rt) with
              | false => rfl
              | true => rw [h, Bool.not_true, Bool.and_false] at hgo; cases hgo
            have HS := Lib.hid (HR.out.step hk4 hcr)
            clear hgo hcr HR
            go_wp2
            go_loopw [15] (fun i wr => ∃ r : Nat, r ≤ R ∧ i = .int .i64 r ∧ UbR w wr g1 g2 R C p q n c1 (stA R C p q s r)) (fun i _ => R - (intOf i).toNat)
            case atStart => exact ⟨0, Nat.zero_le _, rfl, HU.out⟩
            case round =>
              obtain ⟨r, hr, rfl, hU⟩ := hrel
              clear HU
              by_cases hlr : r < R
              · --[[RA
                as_aux_lemma =>
                  have HRS := Lib.hid (stA_succ R C p q s r)
                  have HU1 := Lib.hid hU
                  obtain ⟨ls, s0, s1, s2, s3⟩ := id hU.s
                  clear hU
                  generalize stA R C p q s r = st at *
                  obtain ⟨b, m⟩ := st
                  have hgl1 := HU1.out.b.lt.2
                  have hgl2 := HU1.out.m.lt.2
                  go_wp2
                  clear ls s0 s1 s2 s3
                  obtain ⟨wo, rfl⟩ : ∃ wo : World, wo = wr := ⟨_, rfl⟩
                  go_loopw [16, 17] (fun v i wr => ∃ j : Nat, j ≤ C ∧ i = .int .i64 j ∧ OwI wr wo.heap.size v (toI (erN m (psA R C r) j)) ∧ Below wo.heap.size wo wr) (fun _ i _ => C - (intOf i).toNat)
                  case atStart => exact ⟨0, Nat.zero_le _, rfl, OwI.nil _ _, Below.refl _ _⟩
                  case round =>
                    obtain ⟨j, hj, rfl, ho, hb1⟩ := hrel
                    have hUj := HU1.out.below hb1
                    obtain ⟨ls, s0, s1, s2, s3⟩ := id hUj.s
                    have hsz := hb1.size
                    by_cases hlj : j < C
                    · as_aux_lemma =>
                        have hpl := place_lt hlr hlj
                        obtain ⟨pb, pe⟩ := place_int (R := R) (C := C) h2 h4 hlr hlj
                        have hix : r * C + j < n := by rw [HN.out]; exact hpl
                        have pe2 : (r : Int) * (C : Int) + (j : Int) = ((r * C + j : Nat) : Int) := pe.symm
                        have pe3 : IntKind.i64.wrap ((r : Int) * (C : Int) + (j : Int)) = ((r * C + j : Nat) : Int) := by rw [IntWalk.i64_in _ (by omega)]; exact pe2
                        have hcm := hUj.m.cellAt (i := r * C + j) hix
                        have HO := Lib.hid ho
                        have HB1 := Lib.hid hb1
                        have hel : (toI (erN m (psA R C r) j)).length ≤ 32 := by rw [toI_len]; have := erN_len m (psA R C r) j; omega
                        have HEY := Lib.hid (fun h => erN_yes (m := m) (ps := psA R C r) (k := j) h)
                        have HEN := Lib.hid (fun h => erN_no (m := m) (ps := psA R C r) (k := j) h)
                        rw [psA_at hlr hlj] at HEY HEN
                        clear ho pe hb1 hUj
                        show _
                        have hcm2 : wr.cell? ⟨g2, r * C + j, none⟩ = some (.bool (m.getD (r * C + j) false)) := hcm
                        clear hcm
                        generalize m.getD (r * C + j) false = mk at *
                        generalize r * C + j = ix at *
                        cases mk with
                        | true =>
                          have HE := Lib.hid (show toI (erN m (psA R C r) (j + 1)) = toI (erN m (psA R C r) j) ++ [(j : Int)] by rw [HEY.out rfl, toI_append]; rfl)
                          generalize toI (erN m (psA R C r) j) = L at *
                          clear HEY HEN
                          go_wp2_with (at_builtin; refine wpList_app1I wr rfl (.tmp 86) (.tmp 88) rfl wo.heap.size _ L HO.out rfl _ _ rfl (by omega) hsz ?_; intro v1 w1 ho1 hb2)
                          go_roundw
                          case rel => first | exact ⟨j + 1, by omega, by go_num, by (rw [HE.out]; exact ho1), HB1.out.trans hb2⟩ | ((repeat apply Exists.intro); exact ⟨⟨j + 1, by omega, by go_num, by (rw [HE.out]; exact ho1), HB1.out.trans hb2⟩, rfl⟩)
                          case measure => simp [intOf]; omega
                        | false =>
                          have HE := Lib.hid (show toI (erN m (psA R C r) (j + 1)) = toI (erN m (psA R C r) j) by rw [HEN.out rfl])
                          generalize toI (erN m (psA R C r) j) = L at *
                          clear HEY HEN
                          go_wp2
                          go_roundw
                          case rel => first | exact ⟨j + 1, by omega, by go_num, by (rw [HE.out]; exact HO.out), HB1.out⟩ | ((repeat apply Exists.intro); exact ⟨⟨j + 1, by omega, by go_num, by (rw [HE.out]; exact HO.out), HB1.out⟩, rfl⟩)
                          case measure => simp [intOf]; omega
                    · obtain rfl : C = j := by omega
                      rw [erN_all (psA_len R C r)] at ho
                      obtain ⟨A5, c5, e5⟩ := ho.form
                      rw [toI_len] at e5
                      subst e5
                      have hel : (erL m (psA R C r)).length ≤ 32 := by have := erN_len m (psA R C r) C; rw [erN_all (psA_len R C r)] at this; omega
                      have HEL : Hid (∀ i ∈ erL m (psA R C r), i < C) := Lib.hid fun i hi => by have := erL_lt hi; rw [psA_len] at this; exact this
                      have HES := Lib.hid (erL_sorted m (psA R C r))
                      have HRI := Lib.hid ho.rd.1
                      have HUW := Lib.hid hUj
                      have hw1 : g1 < wr.heap.size := by omega
                      have hw2 : g2 < wr.heap.size := by omega
                      have HROW := Lib.hid (fun W (hG : Gr wr W) => ubA g1 n c1 R C p q r b W _ ((HUW.out.below hG).b) HN.out h2 h3 h4 hlr)
                      have hS := hUj.s
                      clear ho hUj hb1 hlj hj hsz HU1 hgl1 hgl2
                      cases hdw : decW p (wdA R C b r) (erL m (psA R C r)) with
                      | some c0 => as_aux_lemma =>
                        have HDC := Lib.hid (fun W B A3 c3 (ho : OwB W B (.slice A3 C c3) (wdA R C b r)) (hG : Gr wr W) => rdec_hit A3 A5 C c3 c5 (erL m (psA R C r)).length p _ c0 _ W ho.rd.1 (HRI.out.below hG) (by omega) (by omega) HEL.out HES.out (by omega) hdw)
                        have HTL := Lib.hid (treat_hit (s := (b, m)) (ps := psA R C r) (p := p) (by rw [getA]; exact hdw))
                        rw [psA_len] at HTL
                        rw [HTL.out] at HRS
                        clear hdw HTL
                        go_wp2
                        apply wp_region_mid6 (α := Option Addr) (β := Nat) (γ := Option Addr) (δ := Nat) (ε := Nat) (ζ := Unit) (fun A3 c3 A4 c4 kk u W => Below wr.heap.size wr W ∧ OwB W wr.heap.size (.slice A4 C c4) c0)
                        case h =>
                          intro QQ HQ
                          obtain ⟨u, _⟩ : ∃ u : Unit, True := ⟨(), trivial⟩
                          have hx0 := fun z (hz : Gr wr z) x => cell_extz hz hS.1 hS.2.1 x
                          have hx1 := fun z (hz : Gr wr z) x => cell_extz hz hS.1 hS.2.2.1 x
                          have hx2 := fun z (hz : Gr wr z) x => cell_extz hz hS.1 hS.2.2.2.1 x
                          have hx3 := fun z (hz : Gr wr z) x => cell_extz hz hS.1 hS.2.2.2.2 x
                          (refine wp_region_tree [0, 1, 2, 3, 4, 5, 6, 7, 8, 9, 10, 11] [12] 12 (by kernel_rfl) (by kernel_rfl) (by kernel_rfl) ?_; intro V1 g1)
                          have n1 : wr.heap.size ≤ V1.heap.size := g1.size
                          (apply tree_quiet [0, 1, 2, 4, 5, 6] (r := 6) (by kernel_rfl) (by kernel_rfl) (by kernel_rfl) (by kernel_rfl); (case hq => (intro z hz; simp only [pick, List.getElem?_cons_succ, List.getElem?_cons_zero]; ((have hx0 := hx0 z (g1.trans hz); have hx1 := hx1 z (g1.trans hz); have hx2 := hx2 z (g1.trans hz); have hx3 := hx3 z (g1.trans hz))); (repeat (go_big_quiet_step ((fail)))); refine wpQuiet_nil ?_; exact rfl)); (case' h => intro V2 g2))
                          have n2 : V1.heap.size ≤ V2.heap.size := g2.size
                          (refine tree_one 3 rfl (by kernel_rfl) ?_)
                          go_wp2_with (go_at_call 47; refine (HROW.out _ (g1.trans g2)).mono ?_; rintro e V3 ⟨A3, c3, rfl, ho3, g3⟩)
                          refine ⟨g3, fun V4 g4 => ?_⟩
                          have n3 : V2.heap.size ≤ V3.heap.size := g3.size
                          have n4 : V3.heap.size ≤ V4.heap.size := g4.size
                          replace g3 : Gr V2 V3 := g3
                          (refine tree_one 7 rfl (by kernel_rfl) ?_)
                          go_wp2_with (go_at_call 46; refine (HDC.out _ _ A3 c3 (ho3.below g4) (g1.trans (g2.trans (g3.trans g4)))).mono ?_; rintro e V5 ⟨A4, c4, kk, rfl, ho4, g5⟩)
                          refine ⟨g5, fun V6 g6 => ?_⟩
                          have n5 : V4.heap.size ≤ V5.heap.size := g5.size
                          have n6 : V5.heap.size ≤ V6.heap.size := g6.size
                          replace g5 : Gr V4 V5 := g5
                          (apply tree_quiet [8, 9, 10, 11] (r := 0) (by kernel_rfl) (by kernel_rfl) (by kernel_rfl) (by kernel_rfl); (case hq => (intro z hz; simp only [pick, List.getElem?_cons_succ, List.getElem?_cons_zero]; (skip); (repeat (go_big_quiet_step ((fail)))); refine wpQuiet_nil ?_; exact rfl)); (case' h => intro V7 g7))
                          have n7 : V6.heap.size ≤ V7.heap.size := g7.size
                          (refine tree_end (by kernel_rfl) ?_; simp only [pick, List.getElem?_cons_succ, List.getElem?_cons_zero])
                          go_wp2
                          exact HQ.out A3 c3 A4 c4 kk u _ ⟨(g1.trans (g2.trans (g3.trans (g4.trans (g5.trans (g6.trans g7)))))), own_base (ho4.below (g6.trans g7)) (by omega)⟩
                        case h2 =>
                          intro A3 c3 A4 c4 kk u W hWO
                          obtain ⟨hW, hO⟩ := hWO
                          obtain ⟨wq, rfl⟩ : ∃ wq : World, wq = wr := ⟨_, rfl⟩
                          have HUq := Lib.hid (HUW.out.below hW)
                          have HOq := Lib.hid hO
                          have dq1 : decide ((kk : Int) < 0) = false := by simp only [decide_eq_false_iff_not]; omega
                          have dq2 : decide ((0 : Int) ≤ (kk : Int)) = true := by simp only [decide_eq_true_eq]; omega
                          clear hW hO HROW HDC HRI HEL HES HUW hS ls s0 s1 s2 s3
                          obtain ⟨ls, s0, s1, s2, s3⟩ := id HUq.out.s
                          go_wp2
                          clear ls s0 s1 s2 s3
                          go_loopw [20] (fun i wr' => ∃ j : Nat, j ≤ C ∧ i = .int .i64 j ∧ OwB wr' wq.heap.size (.slice A4 C c4) c0 ∧ UbR w wr' g1 g2 R C p q n c1 (putN b (psA R C r) (fun k => c0.getD k 0) j, putN m (psA R C r) (fun _ => false) j)) (fun i _ => C - (intOf i).toNat)
                          case atStart => exact ⟨0, Nat.zero_le _, rfl, HOq.out, HUq.out⟩
                          case round =>
                            obtain ⟨j, hj, rfl, ho, hU⟩ := hrel
                            clear HUq HOq
                            obtain ⟨ls, s0, s1, s2, s3⟩ := id hU.s
                            by_cases hlj : j < C
                            · have hpl := place_lt hlr hlj
                              obtain ⟨pb, pe⟩ := place_int (R := R) (C := C) h2 h4 hlr hlj
                              have hix : r * C + j < n := by rw [HN.out]; exact hpl
                              have pe2 : (r : Int) * (C : Int) + (j : Int) = ((r * C + j : Nat) : Int) := pe.symm
                              have pe3 : IntKind.i64.wrap ((r : Int) * (C : Int) + (j : Int)) = ((r * C + j : Nat) : Int) := by rw [IntWalk.i64_in _ (by omega)]; exact pe2
                              have HPB : Hid (putN b (psA R C r) (fun k => c0.getD k 0) (j + 1) = (putN b (psA R C r) (fun k => c0.getD k 0) j).set (r * C + j) (c0.getD j 0)) := Lib.hid (by show (putN _ _ _ _).set ((psA R C r).getD j 0) _ = _; rw [psA_at hlr hlj])
                              have HPM : Hid (putN m (psA R C r) (fun _ => false) (j + 1) = (putN m (psA R C r) (fun _ => false) j).set (r * C + j) false) := Lib.hid (by show (putN _ _ _ _).set ((psA R C r).getD j 0) _ = _; rw [psA_at hlr hlj])
                              obtain ⟨gx, rfl⟩ := ho.head (by omega)
                              have hcx := ho.cellAt (i := j) hlj
                              have hlx := ho.lt.2
                              have hlS := ho.lt.1
                              have hcm := hU.m.cellAt (i := r * C + j) hix
                              have hfm := hU.m.frozenAt (r * C + j)
                              have HN1 := Lib.hid (hU.setM (r * C + j) false)
                              have HX1 := Lib.hid (own_low ho (p := ⟨g2, r * C + j, none⟩) hw2 (.bool false))
                              clear ho hU pe
                              generalize (putN m (psA R C r) (fun _ => false) j).getD (r * C + j) false = mo at *
                              generalize r * C + j = ix at *
                              generalize c0.getD j 0 = y at *
                              generalize putN b (psA R C r) (fun k => c0.getD k 0) j = bj at *
                              generalize putN m (psA R C r) (fun _ => false) j = mj at *
                              go_wp2
                              have hxx : (wr.setCell ⟨g2, ix, none⟩ (.bool false)).cell? ⟨gx, j, none⟩ = some (.int .u8 y.z) := own_low_cell hw2 hlx hcx hlS
                              generalize wr.setCell ⟨g2, ix, none⟩ (.bool false) = W1 at *
                              have hS1 := HN1.out.s
                              have hlx1 : gx < W1.heap.size := (own_lt HX1.out rfl).2
                              have hx0 := fun (x : Ext W1) => (hS1.below x.below).2.1
                              have hx1 := fun (x : Ext W1) => (hS1.below x.below).2.2.1
                              have hx2 := fun (x : Ext W1) => (hS1.below x.below).2.2.2.1
                              have hx3 := fun (x : Ext W1) => (hS1.below x.below).2.2.2.2
                              have hx4 := fun (x : Ext W1) => cell_ext hlx1 hxx x
                              (refine wp_region_extail 12 (by kernel_rfl) (by kernel_rfl) ?_; simp only [List.take_succ_cons, List.take_zero, List.drop_succ_cons, List.drop_zero]; (repeat (go_big_quiet_step ((fail)))); refine wpQuiet_nil ?_; intro W5 hw'; have hW5 := ext_below hw'; clear hw')
                              have hU5 := HN1.out.below hW5
                              have hco := hU5.b.cellAt (i := ix) hix
                              have hfo := hU5.b.frozenAt ix
                              have HNB := Lib.hid (hU5.setB ix y)
                              have HNX := Lib.hid (own_low (own_below HX1.out hW5) (p := ⟨g1, ix, none⟩) hw1 (.int .u8 y.z))
                              clear HN1 HX1 hW5 hx0 hx1 hx2 hx3 hx4 hxx hS1 hU5 hcx hcm hfm ls s0 s1 s2 s3
                              generalize bj.getD ix 0 = yo at *
                              go_wp2
                              go_roundw
                              case rel => first | exact ⟨j + 1, by omega, by go_num, HNX.out, by (rw [HPB.out, HPM.out]; exact HNB.out)⟩ | ((repeat apply Exists.intro); exact ⟨⟨j + 1, by omega, by go_num, HNX.out, by (rw [HPB.out, HPM.out]; exact HNB.out)⟩, rfl⟩)
                              case measure => simp [intOf]; omega
                            · obtain rfl : C = j := by omega
                              rw [← HRS.out] at hU
                              go_wp2
                              go_roundw
                              case rel => first | exact ⟨r + 1, by omega, by go_num, hU⟩ | ((repeat apply Exists.intro); exact ⟨⟨r + 1, by omega, by go_num, hU⟩, rfl⟩)
                              case measure => simp [intOf]; omega
                      | none => as_aux_lemma =>
                        have HDC := Lib.hid (fun W B A3 c3 (ho : OwB W B (.slice A3 C c3) (wdA R C b r)) (hG : Gr wr W) => rdec_miss A3 A5 C c3 c5 (erL m (psA R C r)).length p _ _ W ho.rd.1 (HRI.out.below hG) (by omega) (by omega) HEL.out HES.out (by omega) hdw)
                        have HTL := Lib.hid (treat_miss (s := (b, m)) (ps := psA R C r) (p := p) (by rw [getA]; exact hdw))
                        rw [psA_len] at HTL
                        rw [HTL.out] at HRS
                        clear hdw HTL
                        go_wp2
                        apply wp_region_mid2 (α := Option Addr) (β := Nat) (fun A3 c3 W => Below wr.heap.size wr W)
                        case h =>
                          intro QQ HQ
                          have hx0 := fun z (hz : Gr wr z) x => cell_extz hz hS.1 hS.2.1 x
                          have hx1 := fun z (hz : Gr wr z) x => cell_extz hz hS.1 hS.2.2.1 x
                          have hx2 := fun z (hz : Gr wr z) x => cell_extz hz hS.1 hS.2.2.2.1 x
                          have hx3 := fun z (hz : Gr wr z) x => cell_extz hz hS.1 hS.2.2.2.2 x
                          (refine wp_region_tree [0, 1, 2, 3, 4, 5, 6, 7, 8, 9, 10, 11] [12] 12 (by kernel_rfl) (by kernel_rfl) (by kernel_rfl) ?_; intro V1 g1)
                          have n1 : wr.heap.size ≤ V1.heap.size := g1.size
                          (apply tree_quiet [0, 1, 2, 4, 5, 6] (r := 6) (by kernel_rfl) (by kernel_rfl) (by kernel_rfl) (by kernel_rfl); (case hq => (intro z hz; simp only [pick, List.getElem?_cons_succ, List.getElem?_cons_zero]; ((have hx0 := hx0 z (g1.trans hz); have hx1 := hx1 z (g1.trans hz); have hx2 := hx2 z (g1.trans hz); have hx3 := hx3 z (g1.trans hz))); (repeat (go_big_quiet_step ((fail)))); refine wpQuiet_nil ?_; exact rfl)); (case' h => intro V2 g2))
                          have n2 : V1.heap.size ≤ V2.heap.size := g2.size
                          (refine tree_one 3 rfl (by kernel_rfl) ?_)
                          go_wp2_with (go_at_call 47; refine (HROW.out _ (g1.trans g2)).mono ?_; rintro e V3 ⟨A3, c3, rfl, ho3, g3⟩)
                          refine ⟨g3, fun V4 g4 => ?_⟩
                          have n3 : V2.heap.size ≤ V3.heap.size := g3.size
                          have n4 : V3.heap.size ≤ V4.heap.size := g4.size
                          replace g3 : Gr V2 V3 := g3
                          (refine tree_one 7 rfl (by kernel_rfl) ?_)
                          go_wp2_with (go_at_call 46; refine (HDC.out _ _ A3 c3 (ho3.below g4) (g1.trans (g2.trans (g3.trans g4)))).mono ?_; rintro e V5 ⟨rfl, g5⟩)
                          refine ⟨g5, fun V6 g6 => ?_⟩
                          have n5 : V4.heap.size ≤ V5.heap.size := g5.size
                          have n6 : V5.heap.size ≤ V6.heap.size := g6.size
                          replace g5 : Gr V4 V5 := g5
                          (apply tree_quiet [8, 9, 10, 11] (r := 0) (by kernel_rfl) (by kernel_rfl) (by kernel_rfl) (by kernel_rfl); (case hq => (intro z hz; simp only [pick, List.getElem?_cons_succ, List.getElem?_cons_zero]; (skip); (repeat (go_big_quiet_step ((fail)))); refine wpQuiet_nil ?_; exact rfl)); (case' h => intro V7 g7))
                          have n7 : V6.heap.size ≤ V7.heap.size := g7.size
                          (refine tree_end (by kernel_rfl) ?_; simp only [pick, List.getElem?_cons_succ, List.getElem?_cons_zero])
                          go_wp2
                          exact HQ.out A3 c3 _ ((g1.trans (g2.trans (g3.trans (g4.trans (g5.trans (g6.trans g7)))))))
                        case h2 =>
                          intro A3 c3 W hW
                          have HUq := Lib.hid (HUW.out.below hW)
                          clear hW HROW HDC HRI HEL HES HUW hS ls s0 s1 s2 s3
                          obtain ⟨ls, s0, s1, s2, s3⟩ := id HUq.out.s
                          go_wp2
                          clear ls s0 s1 s2 s3
                          go_loopw [20] (fun i wr' => ∃ j : Nat, j ≤ C ∧ i = .int .i64 j ∧ UbR w wr' g1 g2 R C p q n c1 (b, putN m (psA R C r) (fun _ => true) j)) (fun i _ => C - (intOf i).toNat)
                          case atStart => exact ⟨0, Nat.zero_le _, rfl, HUq.out⟩
                          case round =>
                            obtain ⟨j, hj, rfl, hU⟩ := hrel
                            clear HUq
                            obtain ⟨ls, s0, s1, s2, s3⟩ := id hU.s
                            by_cases hlj : j < C
                            · have hpl := place_lt hlr hlj
                              obtain ⟨pb, pe⟩ := place_int (R := R) (C := C) h2 h4 hlr hlj
                              have hix : r * C + j < n := by rw [HN.out]; exact hpl
                              have pe2 : (r : Int) * (C : Int) + (j : Int) = ((r * C + j : Nat) : Int) := pe.symm
                              have pe3 : IntKind.i64.wrap ((r : Int) * (C : Int) + (j : Int)) = ((r * C + j : Nat) : Int) := by rw [IntWalk.i64_in _ (by omega)]; exact pe2
                              have HPM : Hid (putN m (psA R C r) (fun _ => true) (j + 1) = (putN m (psA R C r) (fun _ => true) j).set (r * C + j) true) := Lib.hid (by show (putN _ _ _ _).set ((psA R C r).getD j 0) _ = _; rw [psA_at hlr hlj])
                              have hcm := hU.m.cellAt (i := r * C + j) hix
                              have hfm := hU.m.frozenAt (r * C + j)
                              have HN1 := Lib.hid (hU.setM (r * C + j) true)
                              clear hU pe
                              generalize (putN m (psA R C r) (fun _ => true) j).getD (r * C + j) false = mo at *
                              generalize r * C + j = ix at *
                              generalize putN m (psA R C r) (fun _ => true) j = mj at *
                              go_wp2
                              go_roundw
                              case rel => first | exact ⟨j + 1, by omega, by go_num, by (rw [HPM.out]; exact HN1.out)⟩ | ((repeat apply Exists.intro); exact ⟨⟨j + 1, by omega, by go_num, by (rw [HPM.out]; exact HN1.out)⟩, rfl⟩)
                              case measure => simp [intOf]; omega
                            · obtain rfl : C = j := by omega
                              rw [← HRS.out] at hU
                              go_wp2
                              go_roundw
                              case rel => first | exact ⟨r + 1, by omega, by go_num, hU⟩ | ((repeat apply Exists.intro); exact ⟨⟨r + 1, by omega, by go_num, hU⟩, rfl⟩)
                              case measure => simp [intOf]; omega
              · obtain rfl : R = r := by omega
                have HU2 := Lib.hid (show UbR w wr g1 g2 R C p q n c1 (stB R C p q s 0) from hU)
                obtain ⟨ls, s0, s1, s2, s3⟩ := id hU.s
                clear hU hlr hr
                go_wp2
                clear ls s0 s1 s2 s3
                go_loopw [21] (fun i wr => ∃ r : Nat, r ≤ C ∧ i = .int .i64 r ∧ UbR w wr g1 g2 R C p q n c1 (stB R C p q s r)) (fun i _ => C - (intOf i).toNat)
                case atStart => exact ⟨0, Nat.zero_le _, rfl, HU2.out⟩
                case round =>
                  obtain ⟨r, hr, rfl, hU⟩ := hrel
                  clear HU2
                  by_cases hlr : r < C
                  · --[[RB
                    as_aux_lemma =>
                      have HRS := Lib.hid (stB_succ R C p q s r)
                      have HU1 := Lib.hid hU
                      obtain ⟨ls, s0, s1, s2, s3⟩ := id hU.s
                      clear hU
                      generalize stB R C p q s r = st at *
                      obtain ⟨b, m⟩ := st
                      have hgl1 := HU1.out.b.lt.2
                      have hgl2 := HU1.out.m.lt.2
                      go_wp2
                      clear ls s0 s1 s2 s3
                      obtain ⟨wo, rfl⟩ : ∃ wo : World, wo = wr := ⟨_, rfl⟩
                      go_loopw [22, 23] (fun v i wr => ∃ j : Nat, j ≤ R ∧ i = .int .i64 j ∧ OwI wr wo.heap.size v (toI (erN m (psB R C r) j)) ∧ Below wo.heap.size wo wr) (fun _ i _ => R - (intOf i).toNat)
                      case atStart => exact ⟨0, Nat.zero_le _, rfl, OwI.nil _ _, Below.refl _ _⟩
                      case round =>
                        obtain ⟨j, hj, rfl, ho, hb1⟩ := hrel
                        have hUj := HU1.out.below hb1
                        obtain ⟨ls, s0, s1, s2, s3⟩ := id hUj.s
                        have hsz := hb1.size
                        by_cases hlj : j < R
                        · as_aux_lemma =>
                            have hpl := place_lt hlj hlr
                            obtain ⟨pb, pe⟩ := place_int (R := R) (C := C) h2 h4 hlj hlr
                            have hix : j * C + r < n := by rw [HN.out]; exact hpl
                            have pe2 : (j : Int) * (C : Int) + (r : Int) = ((j * C + r : Nat) : Int) := pe.symm
                            have pe3 : IntKind.i64.wrap ((j : Int) * (C : Int) + (r : Int)) = ((j * C + r : Nat) : Int) := by rw [IntWalk.i64_in _ (by omega)]; exact pe2
                            have hcm := hUj.m.cellAt (i := j * C + r) hix
                            have HO := Lib.hid ho
                            have HB1 := Lib.hid hb1
                            have hel : (toI (erN m (psB R C r) j)).length ≤ 32 := by rw [toI_len]; have := erN_len m (psB R C r) j; omega
                            have HEY := Lib.hid (fun h => erN_yes (m := m) (ps := psB R C r) (k := j) h)
                            have HEN := Lib.hid (fun h => erN_no (m := m) (ps := psB R C r) (k := j) h)
                            rw [psB_at hlr hlj] at HEY HEN
                            clear ho pe hb1 hUj
                            show _
                            have hcm2 : wr.cell? ⟨g2, j * C + r, none⟩ = some (.bool (m.getD (j * C + r) false)) := hcm
                            clear hcm
                            generalize m.getD (j * C + r) false = mk at *
                            generalize j * C + r = ix at *
                            cases mk with
                            | true =>
                              have HE := Lib.hid (show toI (erN m (psB R C r) (j + 1)) = toI (erN m (psB R C r) j) ++ [(j : Int)] by rw [HEY.out rfl, toI_append]; rfl)
                              generalize toI (erN m (psB R C r) j) = L at *
                              clear HEY HEN
                              go_wp2_with (at_builtin; refine wpList_app1I wr rfl (.tmp 152) (.tmp 154) rfl wo.heap.size _ L HO.out rfl _ _ rfl (by omega) hsz ?_; intro v1 w1 ho1 hb2)
                              go_roundw
                              case rel => first | exact ⟨j + 1, by omega, by go_num, by (rw [HE.out]; exact ho1), HB1.out.trans hb2⟩ | ((repeat apply Exists.intro); exact ⟨⟨j + 1, by omega, by go_num, by (rw [HE.out]; exact ho1), HB1.out.trans hb2⟩, rfl⟩)
                              case measure => simp [intOf]; omega
                            | false =>
                              have HE := Lib.hid (show toI (erN m (psB R C r) (j + 1)) = toI (erN m (psB R C r) j) by rw [HEN.out rfl])
                              generalize toI (erN m (psB R C r) j) = L at *
                              clear HEY HEN
                              go_wp2
                              go_roundw
                              case rel => first | exact ⟨j + 1, by omega, by go_num, by (rw [HE.out]; exact HO.out), HB1.out⟩ | ((repeat apply Exists.intro); exact ⟨⟨j + 1, by omega, by go_num, by (rw [HE.out]; exact HO.out), HB1.out⟩, rfl⟩)
                              case measure => simp [intOf]; omega
                        · obtain rfl : R = j := by omega
                          rw [erN_all (psB_len R C r)] at ho
                          obtain ⟨A5, c5, e5⟩ := ho.form
                          rw [toI_len] at e5
                          subst e5
                          have hel : (erL m (psB R C r)).length ≤ 32 := by have := erN_len m (psB R C r) R; rw [erN_all (psB_len R C r)] at this; omega
                          have HEL : Hid (∀ i ∈ erL m (psB R C r), i < R) := Lib.hid fun i hi => by have := erL_lt hi; rw [psB_len] at this; exact this
                          have HES := Lib.hid (erL_sorted m (psB R C r))
                          have HRI := Lib.hid ho.rd.1
                          have HUW := Lib.hid hUj
                          have hw1 : g1 < wr.heap.size := by omega
                          have hw2 : g2 < wr.heap.size := by omega
                          have HROW := Lib.hid (fun W (hG : Gr wr W) => ubB g1 n c1 R C p q r b W _ ((HUW.out.below hG).b) HN.out h2 h3 h4 hlr)
                          have hS := hUj.s
                          clear ho hUj hb1 hlj hj hsz HU1 hgl1 hgl2
                          cases hdw : decW q (wdB R C b r) (erL m (psB R C r)) with
                          | some c0 => as_aux_lemma =>
                            have HDC := Lib.hid (fun W B A3 c3 (ho : OwB W B (.slice A3 R c3) (wdB R C b r)) (hG : Gr wr W) => rdec_hit A3 A5 R c3 c5 (erL m (psB R C r)).length q _ c0 _ W ho.rd.1 (HRI.out.below hG) (by omega) (by omega) HEL.out HES.out (by omega) hdw)
                            have HTL := Lib.hid (treat_hit (s := (b, m)) (ps := psB R C r) (p := q) (by rw [getB]; exact hdw))
                            rw [psB_len] at HTL
                            rw [HTL.out] at HRS
                            clear hdw HTL
                            go_wp2
                            apply wp_region_mid6 (α := Option Addr) (β := Nat) (γ := Option Addr) (δ := Nat) (ε := Nat) (ζ := Unit) (fun A3 c3 A4 c4 kk u W => Below wr.heap.size wr W ∧ OwB W wr.heap.size (.slice A4 R c4) c0)
                            case h =>
                              intro QQ HQ
                              obtain ⟨u, _⟩ : ∃ u : Unit, True := ⟨(), trivial⟩
                              have hx0 := fun z (hz : Gr wr z) x => cell_extz hz hS.1 hS.2.1 x
                              have hx1 := fun z (hz : Gr wr z) x => cell_extz hz hS.1 hS.2.2.1 x
                              have hx2 := fun z (hz : Gr wr z) x => cell_extz hz hS.1 hS.2.2.2.1 x
                              have hx3 := fun z (hz : Gr wr z) x => cell_extz hz hS.1 hS.2.2.2.2 x
                              (refine wp_region_tree [0, 1, 2, 3, 4, 5, 6, 7, 8, 9, 10, 11] [12] 12 (by kernel_rfl) (by kernel_rfl) (by kernel_rfl) ?_; intro V1 g1)
                              have n1 : wr.heap.size ≤ V1.heap.size := g1.size
                              (apply tree_quiet [0, 1, 2, 4, 5, 6] (r := 6) (by kernel_rfl) (by kernel_rfl) (by kernel_rfl) (by kernel_rfl); (case hq => (intro z hz; simp only [pick, List.getElem?_cons_succ, List.getElem?_cons_zero]; ((have hx0 := hx0 z (g1.trans hz); have hx1 := hx1 z (g1.trans hz); have hx2 := hx2 z (g1.trans hz); have hx3 := hx3 z (g1.trans hz))); (repeat (go_big_quiet_step ((fail)))); refine wpQuiet_nil ?_; exact rfl)); (case' h => intro V2 g2))
                              have n2 : V1.heap.size ≤ V2.heap.size := g2.size
                              (refine tree_one 3 rfl (by kernel_rfl) ?_)
                              go_wp2_with (go_at_call 48; refine (HROW.out _ (g1.trans g2)).mono ?_; rintro e V3 ⟨A3, c3, rfl, ho3, g3⟩)
                              refine ⟨g3, fun V4 g4 => ?_⟩
                              have n3 : V2.heap.size ≤ V3.heap.size := g3.size
                              have n4 : V3.heap.size ≤ V4.heap.size := g4.size
                              replace g3 : Gr V2 V3 := g3
                              (refine tree_one 7 rfl (by kernel_rfl) ?_)
                              go_wp2_with (go_at_call 46; refine (HDC.out _ _ A3 c3 (ho3.below g4) (g1.trans (g2.trans (g3.trans g4)))).mono ?_; rintro e V5 ⟨A4, c4, kk, rfl, ho4, g5⟩)
                              refine ⟨g5, fun V6 g6 => ?_⟩
                              have n5 : V4.heap.size ≤ V5.heap.size := g5.size
                              have n6 : V5.heap.size ≤ V6.heap.size := g6.size
                              replace g5 : Gr V4 V5 := g5
                              (apply tree_quiet [8, 9, 10, 11] (r := 0) (by kernel_rfl) (by kernel_rfl) (by kernel_rfl) (by kernel_rfl); (case hq => (intro z hz; simp only [pick, List.getElem?_cons_succ, List.getElem?_cons_zero]; (skip); (repeat (go_big_quiet_step ((fail)))); refine wpQuiet_nil ?_; exact rfl)); (case' h => intro V7 g7))
                              have n7 : V6.heap.size ≤ V7.heap.size := g7.size
                              (refine tree_end (by kernel_rfl) ?_; simp only [pick, List.getElem?_cons_succ, List.getElem?_cons_zero])
                              go_wp2
                              exact HQ.out A3 c3 A4 c4 kk u _ ⟨(g1.trans (g2.trans (g3.trans (g4.trans (g5.trans (g6.trans g7)))))), own_base (ho4.below (g6.trans g7)) (by omega)⟩
                            case h2 =>
                              intro A3 c3 A4 c4 kk u W hWO
                              obtain ⟨hW, hO⟩ := hWO
                              obtain ⟨wq, rfl⟩ : ∃ wq : World, wq = wr := ⟨_, rfl⟩
                              have HUq := Lib.hid (HUW.out.below hW)
                              have HOq := Lib.hid hO
                              have dq1 : decide ((kk : Int) < 0) = false := by simp only [decide_eq_false_iff_not]; omega
                              have dq2 : decide ((0 : Int) ≤ (kk : Int)) = true := by simp only [decide_eq_true_eq]; omega
                              clear hW hO HROW HDC HRI HEL HES HUW hS ls s0 s1 s2 s3
                              obtain ⟨ls, s0, s1, s2, s3⟩ := id HUq.out.s
                              go_wp2
                              clear ls s0 s1 s2 s3
                              go_loopw [26] (fun i wr' => ∃ j : Nat, j ≤ R ∧ i = .int .i64 j ∧ OwB wr' wq.heap.size (.slice A4 R c4) c0 ∧ UbR w wr' g1 g2 R C p q n c1 (putN b (psB R C r) (fun k => c0.getD k 0) j, putN m (psB R C r) (fun _ => false) j)) (fun i _ => R - (intOf i).toNat)
                              case atStart => exact ⟨0, Nat.zero_le _, rfl, HOq.out, HUq.out⟩
                              case round =>
                                obtain ⟨j, hj, rfl, ho, hU⟩ := hrel
                                clear HUq HOq
                                obtain ⟨ls, s0, s1, s2, s3⟩ := id hU.s
                                by_cases hlj : j < R
                                · have hpl := place_lt hlj hlr
                                  obtain ⟨pb, pe⟩ := place_int (R := R) (C := C) h2 h4 hlj hlr
                                  have hix : j * C + r < n := by rw [HN.out]; exact hpl
                                  have pe2 : (j : Int) * (C : Int) + (r : Int) = ((j * C + r : Nat) : Int) := pe.symm
                                  have pe3 : IntKind.i64.wrap ((j : Int) * (C : Int) + (r : Int)) = ((j * C + r : Nat) : Int) := by rw [IntWalk.i64_in _ (by omega)]; exact pe2
                                  have HPB : Hid (putN b (psB R C r) (fun k => c0.getD k 0) (j + 1) = (putN b (psB R C r) (fun k => c0.getD k 0) j).set (j * C + r) (c0.getD j 0)) := Lib.hid (by show (putN _ _ _ _).set ((psB R C r).getD j 0) _ = _; rw [psB_at hlr hlj])
                                  have HPM : Hid (putN m (psB R C r) (fun _ => false) (j + 1) = (putN m (psB R C r) (fun _ => false) j).set (j * C + r) false) := Lib.hid (by show (putN _ _ _ _).set ((psB R C r).getD j 0) _ = _; rw [psB_at hlr hlj])
                                  obtain ⟨gx, rfl⟩ := ho.head (by omega)
                                  have hcx := ho.cellAt (i := j) hlj
                                  have hlx := ho.lt.2
                                  have hlS := ho.lt.1
                                  have hcm := hU.m.cellAt (i := j * C + r) hix
                                  have hfm := hU.m.frozenAt (j * C + r)
                                  have HN1 := Lib.hid (hU.setM (j * C + r) false)
                                  have HX1 := Lib.hid (own_low ho (p := ⟨g2, j * C + r, none⟩) hw2 (.bool false))
                                  clear ho hU pe
                                  generalize (putN m (psB R C r) (fun _ => false) j).getD (j * C + r) false = mo at *
                                  generalize j * C + r = ix at *
                                  generalize c0.getD j 0 = y at *
                                  generalize putN b (psB R C r) (fun k => c0.getD k 0) j = bj at *
                                  generalize putN m (psB R C r) (fun _ => false) j = mj at *
                                  go_wp2
                                  have hxx : (wr.setCell ⟨g2, ix, none⟩ (.bool false)).cell? ⟨gx, j, none⟩ = some (.int .u8 y.z) := own_low_cell hw2 hlx hcx hlS
                                  generalize wr.setCell ⟨g2, ix, none⟩ (.bool false) = W1 at *
                                  have hS1 := HN1.out.s
                                  have hlx1 : gx < W1.heap.size := (own_lt HX1.out rfl).2
                                  have hx0 := fun (x : Ext W1) => (hS1.below x.below).2.1
                                  have hx1 := fun (x : Ext W1) => (hS1.below x.below).2.2.1
                                  have hx2 := fun (x : Ext W1) => (hS1.below x.below).2.2.2.1
                                  have hx3 := fun (x : Ext W1) => (hS1.below x.below).2.2.2.2
                                  have hx4 := fun (x : Ext W1) => cell_ext hlx1 hxx x
                                  (refine wp_region_extail 12 (by kernel_rfl) (by kernel_rfl) ?_; simp only [List.take_succ_cons, List.take_zero, List.drop_succ_cons, List.drop_zero]; (repeat (go_big_quiet_step ((fail)))); refine wpQuiet_nil ?_; intro W5 hw'; have hW5 := ext_below hw'; clear hw')
                                  have hU5 := HN1.out.below hW5
                                  have hco := hU5.b.cellAt (i := ix) hix
                                  have hfo := hU5.b.frozenAt ix
                                  have HNB := Lib.hid (hU5.setB ix y)
                                  have HNX := Lib.hid (own_low (own_below HX1.out hW5) (p := ⟨g1, ix, none⟩) hw1 (.int .u8 y.z))
                                  clear HN1 HX1 hW5 hx0 hx1 hx2 hx3 hx4 hxx hS1 hU5 hcx hcm hfm ls s0 s1 s2 s3
                                  generalize bj.getD ix 0 = yo at *
                                  go_wp2
                                  go_roundw
                                  case rel => first | exact ⟨j + 1, by omega, by go_num, HNX.out, by (rw [HPB.out, HPM.out]; exact HNB.out)⟩ | ((repeat apply Exists.intro); exact ⟨⟨j + 1, by omega, by go_num, HNX.out, by (rw [HPB.out, HPM.out]; exact HNB.out)⟩, rfl⟩)
                                  case measure => simp [intOf]; omega
                                · obtain rfl : R = j := by omega
                                  rw [← HRS.out] at hU
                                  go_wp2
                                  go_roundw
                                  case rel => first | exact ⟨r + 1, by omega, by go_num, hU⟩ | ((repeat apply Exists.intro); exact ⟨⟨r + 1, by omega, by go_num, hU⟩, rfl⟩)
                                  case measure => simp [intOf]; omega
                          | none => as_aux_lemma =>
                            have HDC := Lib.hid (fun W B A3 c3 (ho : OwB W B (.slice A3 R c3) (wdB R C b r)) (hG : Gr wr W) => rdec_miss A3 A5 R c3 c5 (erL m (psB R C r)).length q _ _ W ho.rd.1 (HRI.out.below hG) (by omega) (by omega) HEL.out HES.out (by omega) hdw)
                            have HTL := Lib.hid (treat_miss (s := (b, m)) (ps := psB R C r) (p := q) (by rw [getB]; exact hdw))
                            rw [psB_len] at HTL
                            rw [HTL.out] at HRS
                            clear hdw HTL
                            go_wp2
                            apply wp_region_mid2 (α := Option Addr) (β := Nat) (fun A3 c3 W => Below wr.heap.size wr W)
                            case h =>
                              intro QQ HQ
                              have hx0 := fun z (hz : Gr wr z) x => cell_extz hz hS.1 hS.2.1 x
                              have hx1 := fun z (hz : Gr wr z) x => cell_extz hz hS.1 hS.2.2.1 x
                              have hx2 := fun z (hz : Gr wr z) x => cell_extz hz hS.1 hS.2.2.2.1 x
                              have hx3 := fun z (hz : Gr wr z) x => cell_extz hz hS.1 hS.2.2.2.2 x
                              (refine wp_region_tree [0, 1, 2, 3, 4, 5, 6, 7, 8, 9, 10, 11] [12] 12 (by kernel_rfl) (by kernel_rfl) (by kernel_rfl) ?_; intro V1 g1)
                              have n1 : wr.heap.size ≤ V1.heap.size := g1.size
                              (apply tree_quiet [0, 1, 2, 4, 5, 6] (r := 6) (by kernel_rfl) (by kernel_rfl) (by kernel_rfl) (by kernel_rfl); (case hq => (intro z hz; simp only [pick, List.getElem?_cons_succ, List.getElem?_cons_zero]; ((have hx0 := hx0 z (g1.trans hz); have hx1 := hx1 z (g1.trans hz); have hx2 := hx2 z (g1.trans hz); have hx3 := hx3 z (g1.trans hz))); (repeat (go_big_quiet_step ((fail)))); refine wpQuiet_nil ?_; exact rfl)); (case' h => intro V2 g2))
                              have n2 : V1.heap.size ≤ V2.heap.size := g2.size
                              (refine tree_one 3 rfl (by kernel_rfl) ?_)
                              go_wp2_with (go_at_call 48; refine (HROW.out _ (g1.trans g2)).mono ?_; rintro e V3 ⟨A3, c3, rfl, ho3, g3⟩)
                              refine ⟨g3, fun V4 g4 => ?_⟩
                              have n3 : V2.heap.size ≤ V3.heap.size := g3.size
                              have n4 : V3.heap.size ≤ V4.heap.size := g4.size
                              replace g3 : Gr V2 V3 := g3
                              (refine tree_one 7 rfl (by kernel_rfl) ?_)
                              go_wp2_with (go_at_call 46; refine (HDC.out _ _ A3 c3 (ho3.below g4) (g1.trans (g2.trans (g3.trans g4)))).mono ?_; rintro e V5 ⟨rfl, g5⟩)
                              refine ⟨g5, fun V6 g6 => ?_⟩
                              have n5 : V4.heap.size ≤ V5.heap.size := g5.size
                              have n6 : V5.heap.size ≤ V6.heap.size := g6.size
                              replace g5 : Gr V4 V5 := g5
                              (apply tree_quiet [8, 9, 10, 11] (r := 0) (by kernel_rfl) (by kernel_rfl) (by kernel_rfl) (by kernel_rfl); (case hq => (intro z hz; simp only [pick, List.getElem?_cons_succ, List.getElem?_cons_zero]; (skip); (repeat (go_big_quiet_step ((fail)))); refine wpQuiet_nil ?_; exact rfl)); (case' h => intro V7 g7))
                              have n7 : V6.heap.size ≤ V7.heap.size := g7.size
                              (refine tree_end (by kernel_rfl) ?_; simp only [pick, List.getElem?_cons_succ, List.getElem?_cons_zero])
                              go_wp2
                              exact HQ.out A3 c3 _ ((g1.trans (g2.trans (g3.trans (g4.trans (g5.trans (g6.trans g7)))))))
                            case h2 =>
                              intro A3 c3 W hW
                              have HUq := Lib.hid (HUW.out.below hW)
                              clear hW HROW HDC HRI HEL HES HUW hS ls s0 s1 s2 s3
                              obtain ⟨ls, s0, s1, s2, s3⟩ := id HUq.out.s
                              go_wp2
                              clear ls s0 s1 s2 s3
                              go_loopw [26] (fun i wr' => ∃ j : Nat, j ≤ R ∧ i = .int .i64 j ∧ UbR w wr' g1 g2 R C p q n c1 (b, putN m (psB R C r) (fun _ => true) j)) (fun i _ => R - (intOf i).toNat)
                              case atStart => exact ⟨0, Nat.zero_le _, rfl, HUq.out⟩
                              case round =>
                                obtain ⟨j, hj, rfl, hU⟩ := hrel
                                clear HUq
                                obtain ⟨ls, s0, s1, s2, s3⟩ := id hU.s
                                by_cases hlj : j < R
                                · have hpl := place_lt hlj hlr
                                  obtain ⟨pb, pe⟩ := place_int (R := R) (C := C) h2 h4 hlj hlr
                                  have hix : j * C + r < n := by rw [HN.out]; exact hpl
                                  have pe2 : (j : Int) * (C : Int) + (r : Int) = ((j * C + r : Nat) : Int) := pe.symm
                                  have pe3 : IntKind.i64.wrap ((j : Int) * (C : Int) + (r : Int)) = ((j * C + r : Nat) : Int) := by rw [IntWalk.i64_in _ (by omega)]; exact pe2
                                  have HPM : Hid (putN m (psB R C r) (fun _ => true) (j + 1) = (putN m (psB R C r) (fun _ => true) j).set (j * C + r) true) := Lib.hid (by show (putN _ _ _ _).set ((psB R C r).getD j 0) _ = _; rw [psB_at hlr hlj])
                                  have hcm := hU.m.cellAt (i := j * C + r) hix
                                  have hfm := hU.m.frozenAt (j * C + r)
                                  have HN1 := Lib.hid (hU.setM (j * C + r) true)
                                  clear hU pe
                                  generalize (putN m (psB R C r) (fun _ => true) j).getD (j * C + r) false = mo at *
                                  generalize j * C + r = ix at *
                                  generalize putN m (psB R C r) (fun _ => true) j = mj at *
                                  go_wp2
                                  go_roundw
                                  case rel => first | exact ⟨j + 1, by omega, by go_num, by (rw [HPM.out]; exact HN1.out)⟩ | ((repeat apply Exists.intro); exact ⟨⟨j + 1, by omega, by go_num, by (rw [HPM.out]; exact HN1.out)⟩, rfl⟩)
                                  case measure => simp [intOf]; omega
                                · obtain rfl : R = j := by omega
                                  rw [← HRS.out] at hU
                                  go_wp2
                                  go_roundw
                                  case rel => first | exact ⟨r + 1, by omega, by go_num, hU⟩ | ((repeat apply Exists.intro); exact ⟨⟨r + 1, by omega, by go_num, hU⟩, rfl⟩)
                                  case measure => simp [intOf]; omega
                  · --[[RC
                    obtain rfl : C = r := by omega
                    as_aux_lemma =>
                      have HU3 := Lib.hid (show UbR w wr g1 g2 R C p q n c1 (roundL R C p q s) from hU)
                      obtain ⟨ls, s0, s1, s2, s3⟩ := id hU.s
                      clear hU hlr hr
                      generalize roundL R C p q s = st at *
                      obtain ⟨b, m⟩ := st
                      have HM : Hid (m.length = n) := Lib.hid HU3.out.m.len.symm
                      have HTK : Hid (m.take n = m) := Lib.hid (List.take_of_length_le (by rw [HM.out]; exact Nat.le_refl _))
                      go_wp2
                      clear ls s0 s1 s2 s3
                      go_loopw [12, 27] (fun v i wr => ∃ j : Nat, j ≤ n ∧ i = .int .i64 j ∧ v = .bool (!dirtyB (m.take j)) ∧ UbR w wr g1 g2 R C p q n c1 (b, m)) (fun _ i _ => n - (intOf i).toNat)
                      case atStart => exact ⟨0, Nat.zero_le _, rfl, rfl, HU3.out⟩
                      case round =>
                        obtain ⟨j, hj, rfl, rfl, hU⟩ := hrel
                        clear HU3
                        by_cases hlj : j < n
                        · have hcm := hU.m.cellAt (i := j) hlj
                          have HD := Lib.hid (dirty_take (m := m) (k := j) (by rw [HM.out]; exact hlj))
                          have HU3 := Lib.hid hU
                          clear hU
                          have hcm2 : wr.cell? ⟨g2, j, none⟩ = some (.bool (m.getD j false)) := hcm
                          clear hcm
                          generalize dirtyB (m.take j) = dj at *
                          generalize m.getD j false = mk at *
                          cases dj with
                          | true =>
                            go_wp2
                            go_roundw
                            case rel => first | exact ⟨j + 1, by omega, by go_num, by (rw [HD.out]; rfl), HU3.out⟩ | ((repeat apply Exists.intro); exact ⟨⟨j + 1, by omega, by go_num, by (rw [HD.out]; rfl), HU3.out⟩, rfl⟩)
                            case measure => simp [intOf]; omega
                          | false =>
                            cases mk with
                            | true =>
                              go_wp2
                              go_roundw
                              case rel => first | exact ⟨j + 1, by omega, by go_num, by (rw [HD.out]; rfl), HU3.out⟩ | ((repeat apply Exists.intro); exact ⟨⟨j + 1, by omega, by go_num, by (rw [HD.out]; rfl), HU3.out⟩, rfl⟩)
                              case measure => simp [intOf]; omega
                            | false =>
                              go_wp2
                              go_roundw
                              case rel => first | exact ⟨j + 1, by omega, by go_num, by (rw [HD.out]; rfl), HU3.out⟩ | ((repeat apply Exists.intro); exact ⟨⟨j + 1, by omega, by go_num, by (rw [HD.out]; rfl), HU3.out⟩, rfl⟩)
                              case measure => simp [intOf]; omega
                        · obtain rfl : n = j := by omega
                          have HU3 := Lib.hid hU
                          rw [HTK.out]
                          clear hU HTK hlj hj
                          generalize hdm : dirtyB m = dm at *
                          have HDM := Lib.hid hdm
                          clear hdm
                          go_wp2
                          go_loopw [13, 28] (fun v i wr => ∃ r : Nat, r ≤ R ∧ i = .int .i64 r ∧ v = .bool (rtN p C b r) ∧ UbR w wr g1 g2 R C p q n c1 (b, m)) (fun _ i _ => R - (intOf i).toNat)
                          case atStart => exact ⟨0, Nat.zero_le _, rfl, rfl, HU3.out⟩
                          case round =>
                            obtain ⟨r, hr, rfl, rfl, hU⟩ := hrel
                            clear HU3
                            obtain ⟨ls, s0, s1, s2, s3⟩ := id hU.s
                            have HUW := Lib.hid hU
                            have hS := hU.s
                            by_cases hlr : r < R
                            · have HR2 := Lib.hid (rtN_succ p C b r)
                              have HROW := Lib.hid (fun W (hG : Gr wr W) => ubA g1 n c1 R C p q r b W _ ((HUW.out.below hG).b) HN.out h2 h3 h4 hlr)
                              have HSY := Lib.hid (fun W B A3 c3 (ho : OwB W B (.slice A3 C c3) (wdA R C b r)) => rSyndromes_any A3 C c3 p _ W ho.rd.1 (by omega) (by omega))
                              have HZE := Lib.hid (fun W B A4 c4 (ho : OwB W B (.slice A4 p c4) (syndL (wdA R C b r) p)) => (rZero_any A4 p c4 _ W ho.rd.1 (by omega)).mono fun e w' h => (⟨h.1, by rw [h.2]; exact Below.refl _ _⟩ : e = .returned (.bool (cwB p (wdA R C b r))) ∧ Below W.heap.size W w'))
                              clear hU
                              generalize rtN p C b r = rv at *
                              cases rv with
                              | false =>
                                have hy0 := fun (x : Ext wr) => (hS.below x.below).2.1
                                have hy1 := fun (x : Ext wr) => (hS.below x.below).2.2.1
                                have hy2 := fun (x : Ext wr) => (hS.below x.below).2.2.2.1
                                have hy3 := fun (x : Ext wr) => (hS.below x.below).2.2.2.2
                                go_wp2
                                (refine wp_region_ext (by kernel_rfl) (by kernel_rfl) ?_; (repeat (go_big_quiet_step ((fail)))); refine wpQuiet_nil ?_; intro W5 hw'; have hW5 := ext_below hw'; clear hw')
                                go_wp2
                                go_roundw
                                case rel => first | exact ⟨r + 1, by omega, by go_num, by (rw [HR2.out]; rfl), HUW.out.below hW5⟩ | ((repeat apply Exists.intro); exact ⟨⟨r + 1, by omega, by go_num, by (rw [HR2.out]; rfl), HUW.out.below hW5⟩, rfl⟩)
                                case measure => simp [intOf]; omega
                              | true =>
                                go_wp2
                                apply wp_region_mid4 (α := Option Addr) (β := Nat) (γ := Option Addr) (δ := Nat) (fun A3 c3 A4 c4 W => Below wr.heap.size wr W)
                                case h =>
                                  intro QQ HQ
                                  have hx0 := fun z (hz : Gr wr z) x => cell_extz hz hS.1 hS.2.1 x
                                  have hx1 := fun z (hz : Gr wr z) x => cell_extz hz hS.1 hS.2.2.1 x
                                  have hx2 := fun z (hz : Gr wr z) x => cell_extz hz hS.1 hS.2.2.2.1 x
                                  have hx3 := fun z (hz : Gr wr z) x => cell_extz hz hS.1 hS.2.2.2.2 x
                                  (refine wp_region_tree [0, 1, 2, 3, 4, 5, 6, 7, 8, 9, 10] [11] 11 (by kernel_rfl) (by kernel_rfl) (by kernel_rfl) ?_; intro V1 g1)
                                  have n1 : wr.heap.size ≤ V1.heap.size := g1.size
                                  (apply tree_quiet [0, 1, 2, 3, 4, 6, 7] (r := 4) (by kernel_rfl) (by kernel_rfl) (by kernel_rfl) (by kernel_rfl); (case hq => (intro z hz; simp only [pick, List.getElem?_cons_succ, List.getElem?_cons_zero]; ((have hx0 := hx0 z (g1.trans hz); have hx1 := hx1 z (g1.trans hz); have hx2 := hx2 z (g1.trans hz); have hx3 := hx3 z (g1.trans hz))); (repeat (go_big_quiet_step ((fail)))); refine wpQuiet_nil ?_; exact rfl)); (case' h => intro V2 g2))
                                  have n2 : V1.heap.size ≤ V2.heap.size := g2.size
                                  (refine tree_one 5 rfl (by kernel_rfl) ?_)
                                  go_wp2_with (go_at_call 47; refine (HROW.out _ (g1.trans g2)).mono ?_; rintro e V3 ⟨A3, c3, rfl, ho3, g3⟩)
                                  refine ⟨g3, fun V4 g4 => ?_⟩
                                  have n3 : V2.heap.size ≤ V3.heap.size := g3.size
                                  have n4 : V3.heap.size ≤ V4.heap.size := g4.size
                                  replace g3 : Gr V2 V3 := g3
                                  (refine tree_one 8 rfl (by kernel_rfl) ?_)
                                  go_wp2_with (go_at_call 50; refine (HSY.out _ _ A3 c3 (ho3.below g4)).mono ?_; rintro e V5 ⟨A4, c4, rfl, ho4, g5⟩)
                                  refine ⟨g5, fun V6 g6 => ?_⟩
                                  have n5 : V4.heap.size ≤ V5.heap.size := g5.size
                                  have n6 : V5.heap.size ≤ V6.heap.size := g6.size
                                  replace g5 : Gr V4 V5 := g5
                                  (refine tree_one 9 rfl (by kernel_rfl) ?_)
                                  go_wp2_with (go_at_call 49; refine (HZE.out _ _ A4 c4 (ho4.below g6)).mono ?_; rintro e V7 ⟨rfl, g7⟩)
                                  refine ⟨g7, fun V8 g8 => ?_⟩
                                  have n7 : V6.heap.size ≤ V7.heap.size := g7.size
                                  have n8 : V7.heap.size ≤ V8.heap.size := g8.size
                                  replace g7 : Gr V6 V7 := g7
                                  (apply tree_quiet [10] (r := 0) (by kernel_rfl) (by kernel_rfl) (by kernel_rfl) (by kernel_rfl); (case hq => (intro z hz; simp only [pick, List.getElem?_cons_succ, List.getElem?_cons_zero]; (skip); (repeat (go_big_quiet_step ((fail)))); refine wpQuiet_nil ?_; exact rfl)); (case' h => intro V9 g9))
                                  have n9 : V8.heap.size ≤ V9.heap.size := g9.size
                                  (refine tree_end (by kernel_rfl) ?_; simp only [pick, List.getElem?_cons_succ, List.getElem?_cons_zero])
                                  go_wp2
                                  exact HQ.out A3 c3 A4 c4 _ ((g1.trans (g2.trans (g3.trans (g4.trans (g5.trans (g6.trans (g7.trans (g8.trans g9)))))))))
                                case h2 =>
                                  intro A3 c3 A4 c4 W hW
                                  have HU5 := Lib.hid (HUW.out.below hW)
                                  go_wp2
                                  go_roundw
                                  case rel => first | exact ⟨r + 1, by omega, by go_num, by (rw [HR2.out]; first | rfl | simp), HU5.out⟩ | ((repeat apply Exists.intro); exact ⟨⟨r + 1, by omega, by go_num, by (rw [HR2.out]; first | rfl | simp), HU5.out⟩, rfl⟩)
                                  case measure => simp [intOf]; omega
                            · obtain rfl : R = r := by omega
                              have hra : rtN p C b R = rightB R C p b := rtN_all
                              rw [hra]
                              clear hra HUW hS
                              go_wp2
                              go_roundw
                              case rel => first | exact ⟨k + 1, (b, m), !dm, rightB R C p b, by omega, by go_num, rfl, rfl, HS, hU⟩ | ((repeat apply Exists.intro); exact ⟨⟨k + 1, (b, m), !dm, rightB R C p b, by omega, by go_num, rfl, rfl, HS, hU⟩, rfl⟩)
                              case measure => simp [intOf]; omega
          | false => as_aux_lemma =>
            have hE := HR.out.ends hk (fun h => by rw [decide_eq_true h.1, h.2] at hgo; cases hgo)
            obtain ⟨hs, hal⟩ := hE
            rw [← hs, ← hal] at HUN
            clear hgo HR hs hal HI HLT hlk
            obtain ⟨b, m⟩ := s
            have HM : Hid (m.length = n) := Lib.hid HU.out.m.len.symm
            have HAL := Lib.hid (show ∃ al, (cl && !rt) = al from ⟨_, rfl⟩)
            obtain ⟨al, hal⟩ := HAL.out
            rw [hal] at HUN
            have HALV := Lib.hid hal
            clear hal HAL
            have HLL := Lib.hid (lost_len (R := R) (q := q) h3 (Nat.le_of_lt h5) al code b m)
            have HFX := Lib.hid (res_fixed R C p q al code b m)
            have HUW := Lib.hid (show ∃ wo : World, wo = wc from ⟨_, rfl⟩)
            go_wp2
            obtain ⟨wo, rfl⟩ : ∃ wo : World, wo = wc := ⟨_, rfl⟩
            go_loopw [29, 30, 31, 32] (fun u8 u9 u10 i wr => ∃ r : Nat, r ≤ R ∧ i = .int .i64 r ∧ OwB wr wo.heap.size u8 (resN R C p q al code b m (r * C)).data ∧ OwI wr wo.heap.size u9 (toI (resN R C p q al code b m (r * C)).lost) ∧ u10 = .int .i64 ((resN R C p q al code b m (r * C)).fixed : Nat) ∧ Apt u8 u9 ∧ Below wo.heap.size wo wr) (fun _ _ _ i _ => R - (intOf i).toNat)
            case atStart => exact ⟨0, Nat.zero_le _, rfl, by rw [Nat.zero_mul]; exact OwB.nil _ _, by rw [Nat.zero_mul]; exact OwI.nil _ _, by rw [Nat.zero_mul]; rfl, .inl rfl, Below.refl _ _⟩
            case round =>
              obtain ⟨r, hr, rfl, hd, hl, rfl, hap, hb1⟩ := hrel
              by_cases hlr : r < R
              · have HD0 := Lib.hid hd
                have HL0 := Lib.hid hl
                have HA0 := Lib.hid hap
                have HB1 := Lib.hid hb1
                have hS := (HU.out.below hb1).s
                obtain ⟨ls, s0, s1, s2, s3⟩ := id hS
                have HFI0 := Lib.hid (show ∃ f : Nat, f = (resN R C p q al code b m (r * C)).fixed from ⟨_, rfl⟩)
                obtain ⟨f0, hf0⟩ := HFI0.out
                rw [← hf0]
                have HF0 := Lib.hid hf0
                clear hd hl hap hb1 hf0 HFI0 hS
                go_wp2
                clear ls s0 s1 s2 s3
                go_loopw [29, 30, 31, 33] (fun u8 u9 u10 i wr => ∃ c : Nat, c ≤ C ∧ i = .int .i64 c ∧ OwB wr wo.heap.size u8 (resN R C p q al code b m (r * C + c)).data ∧ OwI wr wo.heap.size u9 (toI (resN R C p q al code b m (r * C + c)).lost) ∧ u10 = .int .i64 ((resN R C p q al code b m (r * C + c)).fixed : Nat) ∧ Apt u8 u9 ∧ Below wo.heap.size wo wr) (fun _ _ _ i _ => C - (intOf i).toNat)
                case atStart => exact ⟨0, Nat.zero_le _, rfl, HD0.out, HL0.out, by rw [HF0.out]; rfl, HA0.out, HB1.out⟩
                case round =>
                  obtain ⟨c, hc, rfl, hd, hl, rfl, hap, hb1⟩ := hrel
                  clear HD0 HL0 HA0 HB1 HF0
                  have HUB := HU.out.below hb1
                  obtain ⟨ls, s0, s1, s2, s3⟩ := id HUB.s
                  have hsz := hb1.size
                  by_cases hlc : c < C
                  · have HD := Lib.hid hd
                    have HL := Lib.hid hl
                    have HAP := Lib.hid hap
                    have HBW := Lib.hid hb1
                    have hpl := place_lt hlr hlc
                    obtain ⟨pb, pe⟩ := place_int (R := R) (C := C) h2 h4 hlr hlc
                    have hix : r * C + c < n := by rw [HN.out]; exact hpl
                    have pe2 : (r : Int) * (C : Int) + (c : Int) = ((r * C + c : Nat) : Int) := pe.symm
                    have pe3 : IntKind.i64.wrap ((r : Int) * (C : Int) + (c : Int)) = ((r * C + c : Nat) : Int) := by rw [IntWalk.i64_in _ (by omega)]; exact pe2
                    obtain ⟨A8, e8, rfl⟩ := hd.form
                    obtain ⟨A9, e9, rfl⟩ := hl.form
                    obtain ⟨hll, hdl⟩ := HLL.out (r * C + c)
                    have hfx := HFX.out (r * C + c)
                    have hlt' : (toI (resN R C p q al code b m (r * C + c)).lost).length ≤ 1024 := by rw [toI_len]; omega
                    have hdt : (resN R C p q al code b m (r * C + c)).data.length ≤ 1024 := by omega
                    have hcb := HUB.b.cellAt (i := r * C + c) hix
                    have hcm := HUB.m.cellAt (i := r * C + c) hix
                    obtain ⟨bc, oc, rfl, hlb', hcc⟩ := (HC.out.below HUB.bw).2 hn1
                    have hcd := hcc (r * C + c) hix
                    have hlb1 := HUB.b.lt.2
                    have HUBS := Lib.hid HUB.s
                    have wt1 : (R : Int) - q = ((R - q : Nat) : Int) := by omega
                    have wt2 : IntKind.i64.wrap ((R : Int) - q) = ((R - q : Nat) : Int) := by rw [IntWalk.i64_in _ (by omega)]; exact wt1
                    have ws1 : (C : Int) - p = ((C - p : Nat) : Int) := by omega
                    have ws2 : IntKind.i64.wrap ((C : Int) - p) = ((C - p : Nat) : Int) := by rw [IntWalk.i64_in _ (by omega)]; exact ws1
                    obtain ⟨pd1, pd2⟩ := place_div (r := r) hlc
                    have HOUT := Lib.hid (fun h => res_out (R := R) (C := C) (p := p) (q := q) (al := al) (code := code) (b := b) (m := m) (i := r * C + c) h)
                    have HGO := Lib.hid (fun h h' => res_gone (R := R) (C := C) (p := p) (q := q) (al := al) (code := code) (b := b) (m := m) (i := r * C + c) h h')
                    have HKE := Lib.hid (fun h h' => res_kept (R := R) (C := C) (p := p) (q := q) (al := al) (code := code) (b := b) (m := m) (i := r * C + c) h h')
                    have HINR := Lib.hid (inD_row (R := R) (C := C) (p := p) (q := q) (i := r * C + c))
                    have HINC := Lib.hid (inD_col (R := R) (C := C) (p := p) (q := q) (i := r * C + c))
                    have HINY := Lib.hid (inD_yes (R := R) (C := C) (p := p) (q := q) (i := r * C + c))
                    rw [pd1] at HINR HINY
                    rw [pd2] at HINC HINY
                    have HFG := Lib.hid (fun h => fix_gone (al := al) (code := code) (b := b) (m := m) (i := r * C + c) (n := (resN R C p q al code b m (r * C + c)).fixed) h)
                    have HFS := Lib.hid (fun h => fix_same (al := al) (code := code) (b := b) (m := m) (i := r * C + c) (n := (resN R C p q al code b m (r * C + c)).fixed) h)
                    have HFD := Lib.hid (fun h h' => fix_diff (al := al) (code := code) (b := b) (m := m) (i := r * C + c) (n := (resN R C p q al code b m (r * C + c)).fixed) h h')
                    have HGM := Lib.hid (show goneB al m (r * C + c) = (al || m.getD (r * C + c) false) from rfl)
                    have hbd : b.getD (r * C + c) 0 = code.getD (r * C + c) 0 ∨ b.getD (r * C + c) 0 ≠ code.getD (r * C + c) 0 := Classical.em _
                    have HBD := Lib.hid hbd
                    clear hd hl hap hb1 hcc pe hbd pd1 pd2 HUB
                    have hrc : r * C + (c + 1) = r * C + c + 1 := rfl
                    have HRC := Lib.hid hrc
                    clear hrc
                    generalize hHd : R - q = Hd at *
                    generalize hWd : C - p = Wd at *
                    have hHb : Hd ≤ 32 := by omega
                    have hWb : Wd ≤ 32 := by omega
                    have hplace : (¬ r < Hd ∧ decide (r < Hd) = false) ∨ (r < Hd ∧ ¬ c < Wd ∧ decide (r < Hd) = true ∧ decide (c < Wd) = false) ∨
                        (r < Hd ∧ c < Wd ∧ decide (r < Hd) = true ∧ decide (c < Wd) = true) := by
                      by_cases i1 : r < Hd
                      · by_cases i2 : c < Wd
                        · exact .inr (.inr ⟨i1, i2, decide_eq_true i1, decide_eq_true i2⟩)
                        · exact .inr (.inl ⟨i1, i2, decide_eq_true i1, decide_eq_false i2⟩)
                      · exact .inl ⟨i1, decide_eq_false i1⟩
                    have HPL := Lib.hid hplace
                    clear hHd hWd hplace
                    generalize hmk : m.getD (r * C + c) false = mk at *
                    generalize hbb : b.getD (r * C + c) 0 = bb at *
                    generalize hdd : code.getD (r * C + c) 0 = dd at *
                    have HBB := Lib.hid hbb
                    have HDD := Lib.hid hdd
                    clear hmk hbb hdd
                    generalize hgn : goneB al m (r * C + c) = gn at *
                    have HGN2 := Lib.hid hgn
                    clear hgn
                    generalize resN R C p q al code b m (r * C + c) = rp at *
                    generalize r * C + c = ix at *
                    go_upto_region 63 with fail
                    go_cut [35] from 234 to 303 (fun v wx => v = .bool gn ∧ wx = wr)
                    case first =>
                      cases mk with
                      | true =>
                        go_wp2
                        go_meet
                        case rel => exact ⟨by rw [HGM.out, Bool.or_true], rfl⟩
                      | false =>
                        cases cl with
                        | false =>
                          go_wp2
                          go_meet
                          case rel => exact ⟨by rw [HGM.out, ← HALV.out]; rfl, rfl⟩
                        | true =>
                          go_wp2
                          go_meet
                          case rel => exact ⟨by rw [HGM.out, ← HALV.out]; simp, rfl⟩
                    case rest =>
                      obtain ⟨rfl, rfl⟩ := hcut
                      have hx0 := fun (x : Ext wc) => cell_ext hlb1 hcb x
                      have hx1 := fun (x : Ext wc) => cell_ext hlb' hcd x
                      have hy0 := fun (x : Ext wc) => (HUBS.out.below x.below).2.1
                      have hy1 := fun (x : Ext wc) => (HUBS.out.below x.below).2.2.1
                      have hy2 := fun (x : Ext wc) => (HUBS.out.below x.below).2.2.2.1
                      have hy3 := fun (x : Ext wc) => (HUBS.out.below x.below).2.2.2.2
                      clear HGM HALV
                      cases gn with
                      | true =>
                        have HFI := Lib.hid (HFG.out rfl)
                        skip
                        rcases HPL.out with ⟨i1, x1⟩ | ⟨i1, i2, x1, x2⟩ | ⟨i1, i2, x1, x2⟩
                        · as_aux_lemma =>
                            have HRES := Lib.hid (HOUT.out (HINR.out i1))
                            rw [← HRC.out] at HRES
                            go_wp2
                            (refine wp_region_ext (by kernel_rfl) (by kernel_rfl) ?_; (repeat (go_big_quiet_step ((fail)))); refine wpQuiet_nil ?_; intro W5 hw'; have hW5 := ext_below hw'; clear hw')
                            have hsz5 : wo.heap.size ≤ W5.heap.size := Nat.le_trans hsz hW5.size
                            have HB5 := Lib.hid (Bw.step HBW.out hW5)
                            have HD5 := Lib.hid (HD.out.below hW5)
                            have HL5 := Lib.hid (own_below HL.out hW5)
                            have HU5 := (HU.out.below HB5.out)
                            have hcb := HU5.b.cellAt (i := ix) hix
                            rw [HBB.out] at hcb
                            clear ls s0 s1 s2 s3
                            obtain ⟨ls, s0, s1, s2, s3⟩ := id HU5.s
                            clear hW5 hy0 hy1 hy2 hy3 hx0 hx1 HU5
                            go_wp2
                            go_roundw
                            case rel => first | exact ⟨c + 1, by omega, by go_num, (by rw [HRES.out]; exact HD5.out), (by rw [HRES.out]; exact HL5.out), (by rw [HRES.out]; refine Eq.trans ?_ (congrArg (fun n : Nat => Value.int .i64 (n : Int)) HFI.out).symm; first | rfl | go_num), HAP.out, HB5.out⟩ | ((repeat apply Exists.intro); exact ⟨⟨c + 1, by omega, by go_num, (by rw [HRES.out]; exact HD5.out), (by rw [HRES.out]; exact HL5.out), (by rw [HRES.out]; refine Eq.trans ?_ (congrArg (fun n : Nat => Value.int .i64 (n : Int)) HFI.out).symm; first | rfl | go_num), HAP.out, HB5.out⟩, rfl⟩)
                            case measure => simp [intOf]; omega
                        · as_aux_lemma =>
                            have HRES := Lib.hid (HOUT.out (HINC.out i2))
                            rw [← HRC.out] at HRES
                            go_wp2
                            (refine wp_region_ext (by kernel_rfl) (by kernel_rfl) ?_; (repeat (go_big_quiet_step ((fail)))); refine wpQuiet_nil ?_; intro W5 hw'; have hW5 := ext_below hw'; clear hw')
                            have hsz5 : wo.heap.size ≤ W5.heap.size := Nat.le_trans hsz hW5.size
                            have HB5 := Lib.hid (Bw.step HBW.out hW5)
                            have HD5 := Lib.hid (HD.out.below hW5)
                            have HL5 := Lib.hid (own_below HL.out hW5)
                            have HU5 := (HU.out.below HB5.out)
                            have hcb := HU5.b.cellAt (i := ix) hix
                            rw [HBB.out] at hcb
                            clear ls s0 s1 s2 s3
                            obtain ⟨ls, s0, s1, s2, s3⟩ := id HU5.s
                            clear hW5 hy0 hy1 hy2 hy3 hx0 hx1 HU5
                            go_wp2
                            go_roundw
                            case rel => first | exact ⟨c + 1, by omega, by go_num, (by rw [HRES.out]; exact HD5.out), (by rw [HRES.out]; exact HL5.out), (by rw [HRES.out]; refine Eq.trans ?_ (congrArg (fun n : Nat => Value.int .i64 (n : Int)) HFI.out).symm; first | rfl | go_num), HAP.out, HB5.out⟩ | ((repeat apply Exists.intro); exact ⟨⟨c + 1, by omega, by go_num, (by rw [HRES.out]; exact HD5.out), (by rw [HRES.out]; exact HL5.out), (by rw [HRES.out]; refine Eq.trans ?_ (congrArg (fun n : Nat => Value.int .i64 (n : Int)) HFI.out).symm; first | rfl | go_num), HAP.out, HB5.out⟩, rfl⟩)
                            case measure => simp [intOf]; omega
                        · as_aux_lemma =>
                            have HRES := Lib.hid (HGO.out (HINY.out i1 i2) rfl)
                            rw [← HRC.out] at HRES
                            go_wp2
                            (refine wp_region_ext (by kernel_rfl) (by kernel_rfl) ?_; (repeat (go_big_quiet_step ((fail)))); refine wpQuiet_nil ?_; intro W5 hw'; have hW5 := ext_below hw'; clear hw')
                            have hsz5 : wo.heap.size ≤ W5.heap.size := Nat.le_trans hsz hW5.size
                            have HB5 := Lib.hid (Bw.step HBW.out hW5)
                            have HD5 := Lib.hid (HD.out.below hW5)
                            have HL5 := Lib.hid (own_below HL.out hW5)
                            have HU5 := (HU.out.below HB5.out)
                            have hcb := HU5.b.cellAt (i := ix) hix
                            rw [HBB.out] at hcb
                            clear ls s0 s1 s2 s3
                            obtain ⟨ls, s0, s1, s2, s3⟩ := id HU5.s
                            clear hW5 hy0 hy1 hy2 hy3 hx0 hx1 HU5
                            go_wp2_with (first
                              | (at_builtin; refine wpList_app1IK W5 rfl (.tmp 289) (.tmp 292) rfl wo.heap.size _ (toI rp.lost) HL5.out rfl _ _ rfl (by omega) hsz5 ?_; intro v1 w1 ho1 hb1 hk1)
                              | (at_builtin; refine wpList_app1K w1 rfl (.tmp 294) (.tmp 295) rfl wo.heap.size _ rp.data (hk1 _ _ _ _ _ _ HD5.out HAP.out).1 rfl 0 _ rfl (by omega) (Nat.le_trans hsz5 hb1.size) ?_; intro v2 w2 ho2 hb2 hk2))
                            have HF := Lib.hid (hk2 _ _ _ _ _ _ ho1 (hk1 _ _ _ _ _ _ HD5.out HAP.out).2.symm)
                            have HO2 := Lib.hid ho2
                            clear ho2 hk2 ho1 hk1
                            go_roundw
                            case rel => first | exact ⟨c + 1, by omega, by go_num, (by rw [HRES.out]; exact HO2.out), (by rw [HRES.out]; show OwI _ _ _ (toI (rp.lost ++ [rp.data.length])); rw [toI_append]; exact HF.out.1), (by rw [HRES.out]; refine Eq.trans ?_ (congrArg (fun n : Nat => Value.int .i64 (n : Int)) HFI.out).symm; first | rfl | go_num), HF.out.2.symm, (HB5.out.trans hb1).trans hb2⟩ | ((repeat apply Exists.intro); exact ⟨⟨c + 1, by omega, by go_num, (by rw [HRES.out]; exact HO2.out), (by rw [HRES.out]; show OwI _ _ _ (toI (rp.lost ++ [rp.data.length])); rw [toI_append]; exact HF.out.1), (by rw [HRES.out]; refine Eq.trans ?_ (congrArg (fun n : Nat => Value.int .i64 (n : Int)) HFI.out).symm; first | rfl | go_num), HF.out.2.symm, (HB5.out.trans hb1).trans hb2⟩, rfl⟩)
                            case measure => simp [intOf]; omega
                      | false =>
                        rcases HBD.out with hbe | hbe
                        · skip
                          have HFI := Lib.hid (HFS.out hbe)
                          have xz := z_eq hbe
                          clear hbe
                          rcases HPL.out with ⟨i1, x1⟩ | ⟨i1, i2, x1, x2⟩ | ⟨i1, i2, x1, x2⟩
                          · as_aux_lemma =>
                              have HRES := Lib.hid (HOUT.out (HINR.out i1))
                              rw [← HRC.out] at HRES
                              go_wp2
                              (refine wp_region_ext (by kernel_rfl) (by kernel_rfl) ?_; (repeat (go_big_quiet_step ((fail)))); refine wpQuiet_nil ?_; intro W5 hw'; have hW5 := ext_below hw'; clear hw')
                              have hsz5 : wo.heap.size ≤ W5.heap.size := Nat.le_trans hsz hW5.size
                              have HB5 := Lib.hid (Bw.step HBW.out hW5)
                              have HD5 := Lib.hid (HD.out.below hW5)
                              have HL5 := Lib.hid (own_below HL.out hW5)
                              have HU5 := (HU.out.below HB5.out)
                              have hcb := HU5.b.cellAt (i := ix) hix
                              rw [HBB.out] at hcb
                              clear ls s0 s1 s2 s3
                              obtain ⟨ls, s0, s1, s2, s3⟩ := id HU5.s
                              clear hW5 hy0 hy1 hy2 hy3 hx0 hx1 HU5
                              go_wp2
                              go_roundw
                              case rel => first | exact ⟨c + 1, by omega, by go_num, (by rw [HRES.out]; exact HD5.out), (by rw [HRES.out]; exact HL5.out), (by rw [HRES.out]; refine Eq.trans ?_ (congrArg (fun n : Nat => Value.int .i64 (n : Int)) HFI.out).symm; first | rfl | go_num), HAP.out, HB5.out⟩ | ((repeat apply Exists.intro); exact ⟨⟨c + 1, by omega, by go_num, (by rw [HRES.out]; exact HD5.out), (by rw [HRES.out]; exact HL5.out), (by rw [HRES.out]; refine Eq.trans ?_ (congrArg (fun n : Nat => Value.int .i64 (n : Int)) HFI.out).symm; first | rfl | go_num), HAP.out, HB5.out⟩, rfl⟩)
                              case measure => simp [intOf]; omega
                          · as_aux_lemma =>
                              have HRES := Lib.hid (HOUT.out (HINC.out i2))
                              rw [← HRC.out] at HRES
                              go_wp2
                              (refine wp_region_ext (by kernel_rfl) (by kernel_rfl) ?_; (repeat (go_big_quiet_step ((fail)))); refine wpQuiet_nil ?_; intro W5 hw'; have hW5 := ext_below hw'; clear hw')
                              have hsz5 : wo.heap.size ≤ W5.heap.size := Nat.le_trans hsz hW5.size
                              have HB5 := Lib.hid (Bw.step HBW.out hW5)
                              have HD5 := Lib.hid (HD.out.below hW5)
                              have HL5 := Lib.hid (own_below HL.out hW5)
                              have HU5 := (HU.out.below HB5.out)
                              have hcb := HU5.b.cellAt (i := ix) hix
                              rw [HBB.out] at hcb
                              clear ls s0 s1 s2 s3
                              obtain ⟨ls, s0, s1, s2, s3⟩ := id HU5.s
                              clear hW5 hy0 hy1 hy2 hy3 hx0 hx1 HU5
                              go_wp2
                              go_roundw
                              case rel => first | exact ⟨c + 1, by omega, by go_num, (by rw [HRES.out]; exact HD5.out), (by rw [HRES.out]; exact HL5.out), (by rw [HRES.out]; refine Eq.trans ?_ (congrArg (fun n : Nat => Value.int .i64 (n : Int)) HFI.out).symm; first | rfl | go_num), HAP.out, HB5.out⟩ | ((repeat apply Exists.intro); exact ⟨⟨c + 1, by omega, by go_num, (by rw [HRES.out]; exact HD5.out), (by rw [HRES.out]; exact HL5.out), (by rw [HRES.out]; refine Eq.trans ?_ (congrArg (fun n : Nat => Value.int .i64 (n : Int)) HFI.out).symm; first | rfl | go_num), HAP.out, HB5.out⟩, rfl⟩)
                              case measure => simp [intOf]; omega
                          · as_aux_lemma =>
                              have HRES := Lib.hid (HKE.out (HINY.out i1 i2) rfl)
                              rw [← HRC.out] at HRES
                              go_wp2
                              (refine wp_region_ext (by kernel_rfl) (by kernel_rfl) ?_; (repeat (go_big_quiet_step ((fail)))); refine wpQuiet_nil ?_; intro W5 hw'; have hW5 := ext_below hw'; clear hw')
                              have hsz5 : wo.heap.size ≤ W5.heap.size := Nat.le_trans hsz hW5.size
                              have HB5 := Lib.hid (Bw.step HBW.out hW5)
                              have HD5 := Lib.hid (HD.out.below hW5)
                              have HL5 := Lib.hid (own_below HL.out hW5)
                              have HU5 := (HU.out.below HB5.out)
                              have hcb := HU5.b.cellAt (i := ix) hix
                              rw [HBB.out] at hcb
                              clear ls s0 s1 s2 s3
                              obtain ⟨ls, s0, s1, s2, s3⟩ := id HU5.s
                              clear hW5 hy0 hy1 hy2 hy3 hx0 hx1 HU5
                              go_wp2_with (at_builtin; refine wpList_app1K W5 rfl (.tmp 297) (.tmp 302) rfl wo.heap.size _ rp.data HD5.out rfl bb _ rfl (by omega) hsz5 ?_; intro v2 w2 ho2 hb2 hk2)
                              have HF := Lib.hid (hk2 _ _ _ _ _ _ HL5.out HAP.out.symm)
                              have HO2 := Lib.hid ho2
                              clear ho2 hk2
                              go_roundw
                              case rel => first | exact ⟨c + 1, by omega, by go_num, (by rw [HRES.out]; exact HO2.out), (by rw [HRES.out]; exact HF.out.1), (by rw [HRES.out]; refine Eq.trans ?_ (congrArg (fun n : Nat => Value.int .i64 (n : Int)) HFI.out).symm; first | rfl | go_num), HF.out.2.symm, HB5.out.trans hb2⟩ | ((repeat apply Exists.intro); exact ⟨⟨c + 1, by omega, by go_num, (by rw [HRES.out]; exact HO2.out), (by rw [HRES.out]; exact HF.out.1), (by rw [HRES.out]; refine Eq.trans ?_ (congrArg (fun n : Nat => Value.int .i64 (n : Int)) HFI.out).symm; first | rfl | go_num), HF.out.2.symm, HB5.out.trans hb2⟩, rfl⟩)
                              case measure => simp [intOf]; omega
                        · skip
                          have HFI := Lib.hid (HFD.out rfl hbe)
                          have xz := z_ne hbe
                          clear hbe
                          rcases HPL.out with ⟨i1, x1⟩ | ⟨i1, i2, x1, x2⟩ | ⟨i1, i2, x1, x2⟩
                          · as_aux_lemma =>
                              have HRES := Lib.hid (HOUT.out (HINR.out i1))
                              rw [← HRC.out] at HRES
                              go_wp2
                              (refine wp_region_ext (by kernel_rfl) (by kernel_rfl) ?_; (repeat (go_big_quiet_step ((fail)))); refine wpQuiet_nil ?_; intro W5 hw'; have hW5 := ext_below hw'; clear hw')
                              have hsz5 : wo.heap.size ≤ W5.heap.size := Nat.le_trans hsz hW5.size
                              have HB5 := Lib.hid (Bw.step HBW.out hW5)
                              have HD5 := Lib.hid (HD.out.below hW5)
                              have HL5 := Lib.hid (own_below HL.out hW5)
                              have HU5 := (HU.out.below HB5.out)
                              have hcb := HU5.b.cellAt (i := ix) hix
                              rw [HBB.out] at hcb
                              clear ls s0 s1 s2 s3
                              obtain ⟨ls, s0, s1, s2, s3⟩ := id HU5.s
                              clear hW5 hy0 hy1 hy2 hy3 hx0 hx1 HU5
                              go_wp2
                              go_roundw
                              case rel => first | exact ⟨c + 1, by omega, by go_num, (by rw [HRES.out]; exact HD5.out), (by rw [HRES.out]; exact HL5.out), (by rw [HRES.out]; refine Eq.trans ?_ (congrArg (fun n : Nat => Value.int .i64 (n : Int)) HFI.out).symm; first | rfl | go_num), HAP.out, HB5.out⟩ | ((repeat apply Exists.intro); exact ⟨⟨c + 1, by omega, by go_num, (by rw [HRES.out]; exact HD5.out), (by rw [HRES.out]; exact HL5.out), (by rw [HRES.out]; refine Eq.trans ?_ (congrArg (fun n : Nat => Value.int .i64 (n : Int)) HFI.out).symm; first | rfl | go_num), HAP.out, HB5.out⟩, rfl⟩)
                              case measure => simp [intOf]; omega
                          · as_aux_lemma =>
                              have HRES := Lib.hid (HOUT.out (HINC.out i2))
                              rw [← HRC.out] at HRES
                              go_wp2
                              (refine wp_region_ext (by kernel_rfl) (by kernel_rfl) ?_; (repeat (go_big_quiet_step ((fail)))); refine wpQuiet_nil ?_; intro W5 hw'; have hW5 := ext_below hw'; clear hw')
                              have hsz5 : wo.heap.size ≤ W5.heap.size := Nat.le_trans hsz hW5.size
                              have HB5 := Lib.hid (Bw.step HBW.out hW5)
                              have HD5 := Lib.hid (HD.out.below hW5)
                              have HL5 := Lib.hid (own_below HL.out hW5)
                              have HU5 := (HU.out.below HB5.out)
                              have hcb := HU5.b.cellAt (i := ix) hix
                              rw [HBB.out] at hcb
                              clear ls s0 s1 s2 s3
                              obtain ⟨ls, s0, s1, s2, s3⟩ := id HU5.s
                              clear hW5 hy0 hy1 hy2 hy3 hx0 hx1 HU5
                              go_wp2
                              go_roundw
                              case rel => first | exact ⟨c + 1, by omega, by go_num, (by rw [HRES.out]; exact HD5.out), (by rw [HRES.out]; exact HL5.out), (by rw [HRES.out]; refine Eq.trans ?_ (congrArg (fun n : Nat => Value.int .i64 (n : Int)) HFI.out).symm; first | rfl | go_num), HAP.out, HB5.out⟩ | ((repeat apply Exists.intro); exact ⟨⟨c + 1, by omega, by go_num, (by rw [HRES.out]; exact HD5.out), (by rw [HRES.out]; exact HL5.out), (by rw [HRES.out]; refine Eq.trans ?_ (congrArg (fun n : Nat => Value.int .i64 (n : Int)) HFI.out).symm; first | rfl | go_num), HAP.out, HB5.out⟩, rfl⟩)
                              case measure => simp [intOf]; omega
                          · as_aux_lemma =>
                              have HRES := Lib.hid (HKE.out (HINY.out i1 i2) rfl)
                              rw [← HRC.out] at HRES
                              go_wp2
                              (refine wp_region_ext (by kernel_rfl) (by kernel_rfl) ?_; (repeat (go_big_quiet_step ((fail)))); refine wpQuiet_nil ?_; intro W5 hw'; have hW5 := ext_below hw'; clear hw')
                              have hsz5 : wo.heap.size ≤ W5.heap.size := Nat.le_trans hsz hW5.size
                              have HB5 := Lib.hid (Bw.step HBW.out hW5)
                              have HD5 := Lib.hid (HD.out.below hW5)
                              have HL5 := Lib.hid (own_below HL.out hW5)
                              have HU5 := (HU.out.below HB5.out)
                              have hcb := HU5.b.cellAt (i := ix) hix
                              rw [HBB.out] at hcb
                              clear ls s0 s1 s2 s3
                              obtain ⟨ls, s0, s1, s2, s3⟩ := id HU5.s
                              clear hW5 hy0 hy1 hy2 hy3 hx0 hx1 HU5
                              go_wp2_with (at_builtin; refine wpList_app1K W5 rfl (.tmp 297) (.tmp 302) rfl wo.heap.size _ rp.data HD5.out rfl bb _ rfl (by omega) hsz5 ?_; intro v2 w2 ho2 hb2 hk2)
                              have HF := Lib.hid (hk2 _ _ _ _ _ _ HL5.out HAP.out.symm)
                              have HO2 := Lib.hid ho2
                              clear ho2 hk2
                              go_roundw
                              case rel => first | exact ⟨c + 1, by omega, by go_num, (by rw [HRES.out]; exact HO2.out), (by rw [HRES.out]; exact HF.out.1), (by rw [HRES.out]; refine Eq.trans ?_ (congrArg (fun n : Nat => Value.int .i64 (n : Int)) HFI.out).symm; first | rfl | go_num), HF.out.2.symm, HB5.out.trans hb2⟩ | ((repeat apply Exists.intro); exact ⟨⟨c + 1, by omega, by go_num, (by rw [HRES.out]; exact HO2.out), (by rw [HRES.out]; exact HF.out.1), (by rw [HRES.out]; refine Eq.trans ?_ (congrArg (fun n : Nat => Value.int .i64 (n : Int)) HFI.out).symm; first | rfl | go_num), HF.out.2.symm, HB5.out.trans hb2⟩, rfl⟩)
                              case measure => simp [intOf]; omega
                  · obtain rfl : c = C := by omega
                    have HRC : Hid ((r + 1) * c = r * c + c) := Lib.hid (by rw [Nat.add_mul, Nat.one_mul])
                    rw [← HRC.out] at hd hl
                    have hfe : ∃ f : Nat, f = (resN R c p q al code b m (r * c + c)).fixed := ⟨_, rfl⟩
                    obtain ⟨f, hfe⟩ := hfe
                    rw [← hfe]
                    rw [← HRC.out] at hfe
                    have HFE := Lib.hid hfe
                    clear hfe HUB
                    go_wp2
                    go_roundw
                    case rel => first | exact ⟨r + 1, by omega, by go_num, hd, hl, (by rw [← HFE.out]), hap, hb1⟩ | ((repeat apply Exists.intro); exact ⟨⟨r + 1, by omega, by go_num, hd, hl, (by rw [← HFE.out]), hap, hb1⟩, rfl⟩)
                    case measure => simp [intOf]; omega
              · obtain rfl : r = R := by omega
                have hS := (HU.out.below hb1).s
                obtain ⟨ls, s0, s1, s2, s3⟩ := id hS
                have hbw : Below w.heap.size w wr := Bw.step HU.out.bw hb1
                have hww : w.heap.size ≤ wo.heap.size := HU.out.bw.size
                have HB9 := Lib.hid hbw
                obtain ⟨A8, e8, rfl⟩ := hd.form
                obtain ⟨A9, e9, rfl⟩ := hl.form
                rw [toI_len] at hl
                rw [toI_len]
                have HD := Lib.hid (own_base hd hww)
                have HL := Lib.hid (own_base hl hww)
                clear hd hl hap hb1 hS hbw
                have HUN3 := HUN
                clear HUN
                generalize resN r C p q al code b m (r * C) = rp at *
                go_wp2
                exact bodyPost_ret (v := .tuple #[.slice A8 rp.data.length e8, .slice A9 rp.lost.length e9, .int .i64 (rp.fixed : Nat)]) (by simp [results, Try.results22, go_sem]) rfl ⟨A8, e8, A9, e9, by rw [HUN3.out], by rw [HUN3.out]; exact HD.out, by rw [HUN3.out]; exact HL.out, HB9.out⟩
end Go.Proofs.Ytmpjkdkgolmgdaa
