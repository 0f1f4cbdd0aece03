/- Product codes: walks of the reference's column and BlockIs. -/
import Derived.Test.YtmpjkdkgolmgdaaPdO
namespace Go.Proofs.Ytmpjkdkgolmgdaa
open Go.RowKit
set_option linter.unusedVariables false

set_option maxRecDepth 100000 in
set_option maxHeartbeats 2000000 in
theorem rColumn_any (A : Option Addr) (n c R C k : Nat) (p q : Int) (b : List GF) (w : World) (hb : RdB w A n b) (hn : n = R * C) (h2 : R ≤ 32) (h4 : C ≤ 32) (hk : k < C) :
    Calls Try.prog 48 #[.slice A n c, shpV R C p q, .int .i64 (k : Int)] w fun e w' => ∃ A' c', e = .returned (.slice A' R c') ∧ OwB w' w.heap.size (.slice A' R c') (colW R C b k) ∧ Below w.heap.size w w' := by
  have hN : R * C ≤ 1024 := by have := (mul32 h2 h4).2; rw [← Int.natCast_mul] at this; omega
  have HB := Lib.hid hb
  have HN := Lib.hid hn
  have HLE : Hid ((colW R C b k).length = R) := Lib.hid (by unfold colW; rw [lineF_len])
  have HTL : Hid (∀ r, r < R → (colW R C b k).take (r + 1) = (colW R C b k).take r ++ [b.getD (r * C + k) 0]) := Lib.hid fun r hr => by
    have hlt : r < (colW R C b k).length := by rw [HLE.out]; exact hr
    rw [List.take_succ_eq_append_getElem hlt]
    congr 2
    have : (colW R C b k).getD r 0 = b.getD (r * C + k) 0 := by unfold colW; rw [lineF_get hr]; rfl
    rw [← this]; simp [List.getD, hlt]
  have S0 := S4.new w R C p q
  have B0 := below_new w (shpC R C p q)
  clear hb hn
  go_enter Try.func48, Try.ntmps48
  go_wp2
  generalize w.alloc (shpC R C p q) = W0 at *
  go_loopw [7, 8] (fun u i wr => ∃ r : Nat, r ≤ R ∧ i = .int .i64 r ∧ OwB wr (w.heap.size + 1) u ((colW R C b k).take r) ∧ S4 wr w.heap.size R C p q ∧ Below w.heap.size w wr) (fun _ i _ => R - (intOf i).toNat)
  case atStart => exact ⟨0, Nat.zero_le _, rfl, OwB.nil _ _, S0, B0⟩
  case round =>
    obtain ⟨r, hr, rfl, ho, hs, hbw⟩ := hrel
    by_cases hlr : r < R
    · have HO1 := Lib.hid ho
      have HS := Lib.hid hs
      have HT := Lib.hid (HTL.out r hlr)
      have hpl := place_lt hlr hk
      obtain ⟨pb, pe⟩ := place_int (R := R) (C := C) h2 h4 hlr hk
      have hn0 : 0 < n := by have := HN.out; omega
      obtain ⟨bb, ob, rfl, hbb, hcb⟩ := (HB.out.below hbw).2 hn0
      have hcell := hcb (r * C + k) (by rw [HN.out]; exact hpl)
      have hix : r * C + k < n := by rw [HN.out]; exact hpl
      have hl2 : ((colW R C b k).take r).length ≤ 1024 := by rw [List.length_take, HLE.out]; omega
      have hsz : w.heap.size + 1 ≤ wr.heap.size := hs.1
      obtain ⟨ls, s0, s1, s2, s3⟩ := id hs
      have pe2 : (r : Int) * (C : Int) + (k : Int) = ((r * C + k : Nat) : Int) := pe.symm
      have pe3 : IntKind.i64.wrap ((r : Int) * (C : Int) + (k : Int)) = ((r * C + k : Nat) : Int) := by rw [IntWalk.i64_in _ (by omega)]; exact pe2
      clear ho hs hcb pe S0 B0
      generalize (colW R C b k).take r = L at *
      generalize r * C + k = ix at *
      generalize b.getD ix 0 = y at *
      go_wp2_with (at_builtin; refine wpList_app1 wr rfl (.tmp 15) (.tmp 25) rfl (w.heap.size + 1) _ L HO1.out rfl y _ rfl (by omega) hsz ?_; intro v1 w1 ho1 hb2)
      go_roundw
      case rel => first | exact ⟨r + 1, by omega, by go_num, by (rw [HT.out]; exact ho1), HS.out.under hb2 (Nat.lt_succ_self _), hbw.trans (hb2.mono (Nat.le_succ _))⟩ | ((repeat apply Exists.intro); exact ⟨⟨r + 1, by omega, by go_num, by (rw [HT.out]; exact ho1), HS.out.under hb2 (Nat.lt_succ_self _), hbw.trans (hb2.mono (Nat.le_succ _))⟩, rfl⟩)
      case measure => simp [intOf]; omega
    · obtain rfl : r = R := by omega
      rw [List.take_of_length_le (by rw [HLE.out]; exact Nat.le_refl _)] at ho
      obtain ⟨A1, c1, e1⟩ := ho.form
      rw [HLE.out] at e1
      subst e1
      obtain ⟨ls, s0, s1, s2, s3⟩ := id hs
      clear S0 B0
      go_wp2
      go_ret
      exact ⟨A1, c1, rfl, own_base ho (Nat.le_succ _), hbw⟩
set_option maxRecDepth 100000 in
set_option maxHeartbeats 4000000 in
theorem rBlockIs_any (A : Option Addr) (n c R C p q : Nat) (l : List GF) (w : World) (hl : RdB w A n l) (hnc : n ≤ c) (hn : n = R * C) (h2 : R ≤ 32) (h3 : 1 ≤ C) (h4 : C ≤ 32) (h5 : p < C) (h6 : q < R) :
    Calls Try.prog 31 #[.slice A n c, shpV R C p q] w fun e w' => e = .returned (.bool (blkB R C p q l)) ∧ Below w.heap.size w w' := by
  have HBB : Hid (blkB R C p q l = (rightB R C p l && colsB R C q l)) := Lib.hid rfl
  have HN := Lib.hid hn
  have HL := Lib.hid hl
  have S0 := S4.new w R C p q
  have B0 := below_new w (shpC R C p q)
  clear hn hl
  generalize blkB R C p q l = bb at *
  go_enter Try.func31, Try.ntmps31
  go_wp2
  generalize w.alloc (shpC R C p q) = W0 at *
  go_loopw [5] (fun i wr => ∃ k : Nat, k ≤ R ∧ i = .int .i64 k ∧ Hid (∀ r, r < k → cwB p (rowW C l r) = true) ∧ S4 wr w.heap.size R C p q ∧ Below w.heap.size w wr) (fun i _ => R - (intOf i).toNat)
  case atStart => exact ⟨0, Nat.zero_le _, rfl, Lib.hid fun r hr => absurd hr (Nat.not_lt_zero _), S0, B0⟩
  case round =>
    obtain ⟨k, hk, rfl, HA, hs, hbw⟩ := hrel
    clear S0 B0
    by_cases hlt : k < R
    · have HROW := Lib.hid (fun W (hG : Gr wr W) => rRow_any A n c R C p q k l W ((HL.out.below hbw).below hG) hnc HN.out h2 h3 h4 hlt)
      have HSY := Lib.hid (fun W B A3 c3 (ho : OwB W B (.slice A3 C c3) (rowW C l k)) => rSyndromes_any A3 C c3 p _ W ho.rd.1 (by omega) (by omega))
      have HZE := Lib.hid (fun W B A4 c4 (ho : OwB W B (.slice A4 p c4) (syndL (rowW C l k) p)) => (rZero_any A4 p c4 _ W ho.rd.1 (by omega)).mono fun e w' h => (⟨h.1, by rw [h.2]; exact Below.refl _ _⟩ : e = .returned (.bool (cwB p (rowW C l k))) ∧ Below W.heap.size W w'))
      obtain ⟨ls, s0, s1, s2, s3⟩ := id hs
      go_wp2
      apply wp_region_mid4 (α := Option Addr) (β := Nat) (γ := Option Addr) (δ := Nat) (fun A3 c3 A4 c4 W => Below wr.heap.size wr W)
      case h =>
        intro QQ HQ
        have hx0 := fun z (hz : Gr wr z) x => cell_extz hz hs.1 hs.2.1 x
        have hx1 := fun z (hz : Gr wr z) x => cell_extz hz hs.1 hs.2.2.1 x
        have hx2 := fun z (hz : Gr wr z) x => cell_extz hz hs.1 hs.2.2.2.1 x
        have hx3 := fun z (hz : Gr wr z) x => cell_extz hz hs.1 hs.2.2.2.2 x
        (refine wp_region_tree [0, 1, 2, 3, 4, 5, 6, 7] [8] 8 (by kernel_rfl) (by kernel_rfl) (by kernel_rfl) ?_; intro V1 g1)
        have n1 : wr.heap.size ≤ V1.heap.size := g1.size
        (apply tree_quiet [0, 1, 2, 4, 5] (r := 3) (by kernel_rfl) (by kernel_rfl) (by kernel_rfl) (by kernel_rfl); (case hq => (intro z hz; simp only [pick, List.getElem?_cons_succ, List.getElem?_cons_zero]; ((have hx0 := hx0 z (g1.trans hz); have hx1 := hx1 z (g1.trans hz); have hx2 := hx2 z (g1.trans hz); have hx3 := hx3 z (g1.trans hz))); (repeat (go_big_quiet_step ((fail)))); refine wpQuiet_nil ?_; exact rfl)); (case' h => intro V2 g2))
        have n2 : V1.heap.size ≤ V2.heap.size := g2.size
        (refine tree_one 3 rfl (by kernel_rfl) ?_)
        go_wp2_with (go_at_call 47; refine (HROW.out _ (g1.trans g2)).mono ?_; rintro e V3 ⟨A3, c3, rfl, ho3, g3⟩)
        refine ⟨g3, fun V4 g4 => ?_⟩
        have n3 : V2.heap.size ≤ V3.heap.size := g3.size
        have n4 : V3.heap.size ≤ V4.heap.size := g4.size
        replace g3 : Gr V2 V3 := g3
        (refine tree_one 6 rfl (by kernel_rfl) ?_)
        go_wp2_with (go_at_call 50; refine (HSY.out _ _ A3 c3 (ho3.below g4)).mono ?_; rintro e V5 ⟨A4, c4, rfl, ho4, g5⟩)
        refine ⟨g5, fun V6 g6 => ?_⟩
        have n5 : V4.heap.size ≤ V5.heap.size := g5.size
        have n6 : V5.heap.size ≤ V6.heap.size := g6.size
        replace g5 : Gr V4 V5 := g5
        (refine tree_one 7 rfl (by kernel_rfl) ?_)
        go_wp2_with (go_at_call 49; refine (HZE.out _ _ A4 c4 (ho4.below g6)).mono ?_; rintro e V7 ⟨rfl, g7⟩)
        refine ⟨g7, fun V8 g8 => ?_⟩
        have n7 : V6.heap.size ≤ V7.heap.size := g7.size
        have n8 : V7.heap.size ≤ V8.heap.size := g8.size
        replace g7 : Gr V6 V7 := g7
        (refine tree_end (by kernel_rfl) ?_; simp only [pick, List.getElem?_cons_succ, List.getElem?_cons_zero])
        go_wp2
        exact HQ.out A3 c3 A4 c4 _ ((g1.trans (g2.trans (g3.trans (g4.trans (g5.trans (g6.trans (g7.trans g8))))))))
      case h2 =>
        intro A3 c3 A4 c4 W hW
        have hs' := hs.below hW
        have hbw' := hbw.trans (hW.mono hbw.size)
        cases hcw : cwB p (rowW C l k) with
        | false =>
          rw [right_not hlt hcw, Bool.false_and] at HBB
          clear hcw
          go_wp2
          go_ret
          exact ⟨by rw [HBB.out]; rfl, hbw'⟩
        | true =>
          have HA' : Hid (∀ r, r < k + 1 → cwB p (rowW C l r) = true) := Lib.hid fun r hr => by
            by_cases e : r = k
            · subst e; exact hcw
            · exact HA.out r (by omega)
          clear hcw
          go_wp2
          go_roundw
          case rel => first | exact ⟨k + 1, by omega, by go_num, HA', hs', hbw'⟩ | ((repeat apply Exists.intro); exact ⟨⟨k + 1, by omega, by go_num, HA', hs', hbw'⟩, rfl⟩)
          case measure => simp [intOf]; omega
    · obtain rfl : k = R := by omega
      rw [right_all HA.out, Bool.true_and] at HBB
      have HS0 := Lib.hid hs
      have HB0 := Lib.hid hbw
      obtain ⟨ls, s0, s1, s2, s3⟩ := id hs
      clear HA hs hbw
      go_wp2
      clear ls s0 s1 s2 s3
      go_loopw [6] (fun i wr => ∃ j : Nat, j ≤ C ∧ i = .int .i64 j ∧ Hid (∀ c, c < j → cwB q (colW k C l c) = true) ∧ S4 wr w.heap.size k C p q ∧ Below w.heap.size w wr) (fun i _ => C - (intOf i).toNat)
      case atStart => exact ⟨0, Nat.zero_le _, rfl, Lib.hid fun r hr => absurd hr (Nat.not_lt_zero _), HS0.out, HB0.out⟩
      case round =>
        obtain ⟨j, hj, rfl, HA, hs, hbw⟩ := hrel
        clear HS0 HB0
        by_cases hlj : j < C
        · have HROW := Lib.hid (fun W (hG : Gr wr W) => rColumn_any A n c k C j p q l W ((HL.out.below hbw).below hG) HN.out h2 h4 hlj)
          have HSY := Lib.hid (fun W B A3 c3 (ho : OwB W B (.slice A3 k c3) (colW k C l j)) => rSyndromes_any A3 k c3 q _ W ho.rd.1 (by omega) (by omega))
          have HZE := Lib.hid (fun W B A4 c4 (ho : OwB W B (.slice A4 q c4) (syndL (colW k C l j) q)) => (rZero_any A4 q c4 _ W ho.rd.1 (by omega)).mono fun e w' h => (⟨h.1, by rw [h.2]; exact Below.refl _ _⟩ : e = .returned (.bool (cwB q (colW k C l j))) ∧ Below W.heap.size W w'))
          obtain ⟨ls, s0, s1, s2, s3⟩ := id hs
          go_wp2
          apply wp_region_mid4 (α := Option Addr) (β := Nat) (γ := Option Addr) (δ := Nat) (fun A3 c3 A4 c4 W => Below wr.heap.size wr W)
          case h =>
            intro QQ HQ
            have hx0 := fun z (hz : Gr wr z) x => cell_extz hz hs.1 hs.2.1 x
            have hx1 := fun z (hz : Gr wr z) x => cell_extz hz hs.1 hs.2.2.1 x
            have hx2 := fun z (hz : Gr wr z) x => cell_extz hz hs.1 hs.2.2.2.1 x
            have hx3 := fun z (hz : Gr wr z) x => cell_extz hz hs.1 hs.2.2.2.2 x
            (refine wp_region_tree [0, 1, 2, 3, 4, 5, 6, 7] [8] 8 (by kernel_rfl) (by kernel_rfl) (by kernel_rfl) ?_; intro V1 g1)
            have n1 : wr.heap.size ≤ V1.heap.size := g1.size
            (apply tree_quiet [0, 1, 2, 4, 5] (r := 3) (by kernel_rfl) (by kernel_rfl) (by kernel_rfl) (by kernel_rfl); (case hq => (intro z hz; simp only [pick, List.getElem?_cons_succ, List.getElem?_cons_zero]; ((have hx0 := hx0 z (g1.trans hz); have hx1 := hx1 z (g1.trans hz); have hx2 := hx2 z (g1.trans hz); have hx3 := hx3 z (g1.trans hz))); (repeat (go_big_quiet_step ((fail)))); refine wpQuiet_nil ?_; exact rfl)); (case' h => intro V2 g2))
            have n2 : V1.heap.size ≤ V2.heap.size := g2.size
            (refine tree_one 3 rfl (by kernel_rfl) ?_)
            go_wp2_with (go_at_call 48; refine (HROW.out _ (g1.trans g2)).mono ?_; rintro e V3 ⟨A3, c3, rfl, ho3, g3⟩)
            refine ⟨g3, fun V4 g4 => ?_⟩
            have n3 : V2.heap.size ≤ V3.heap.size := g3.size
            have n4 : V3.heap.size ≤ V4.heap.size := g4.size
            replace g3 : Gr V2 V3 := g3
            (refine tree_one 6 rfl (by kernel_rfl) ?_)
            go_wp2_with (go_at_call 50; refine (HSY.out _ _ A3 c3 (ho3.below g4)).mono ?_; rintro e V5 ⟨A4, c4, rfl, ho4, g5⟩)
            refine ⟨g5, fun V6 g6 => ?_⟩
            have n5 : V4.heap.size ≤ V5.heap.size := g5.size
            have n6 : V5.heap.size ≤ V6.heap.size := g6.size
            replace g5 : Gr V4 V5 := g5
            (refine tree_one 7 rfl (by kernel_rfl) ?_)
            go_wp2_with (go_at_call 49; refine (HZE.out _ _ A4 c4 (ho4.below g6)).mono ?_; rintro e V7 ⟨rfl, g7⟩)
            refine ⟨g7, fun V8 g8 => ?_⟩
            have n7 : V6.heap.size ≤ V7.heap.size := g7.size
            have n8 : V7.heap.size ≤ V8.heap.size := g8.size
            replace g7 : Gr V6 V7 := g7
            (refine tree_end (by kernel_rfl) ?_; simp only [pick, List.getElem?_cons_succ, List.getElem?_cons_zero])
            go_wp2
            exact HQ.out A3 c3 A4 c4 _ ((g1.trans (g2.trans (g3.trans (g4.trans (g5.trans (g6.trans (g7.trans g8))))))))
          case h2 =>
            intro A3 c3 A4 c4 W hW
            have hs' := hs.below hW
            have hbw' := hbw.trans (hW.mono hbw.size)
            cases hcw : cwB q (colW k C l j) with
            | false =>
              rw [cols_not hlj hcw] at HBB
              clear hcw
              go_wp2
              go_ret
              exact ⟨by rw [HBB.out]; rfl, hbw'⟩
            | true =>
              have HA' : Hid (∀ r, r < j + 1 → cwB q (colW k C l r) = true) := Lib.hid fun r hr => by
                by_cases e : r = j
                · subst e; exact hcw
                · exact HA.out r (by omega)
              clear hcw
              go_wp2
              go_roundw
              case rel => first | exact ⟨j + 1, by omega, by go_num, HA', hs', hbw'⟩ | ((repeat apply Exists.intro); exact ⟨⟨j + 1, by omega, by go_num, HA', hs', hbw'⟩, rfl⟩)
              case measure => simp [intOf]; omega
        · obtain rfl : j = C := by omega
          rw [cols_all HA.out] at HBB
          obtain ⟨ls, s0, s1, s2, s3⟩ := id hs
          go_wp2
          go_ret
          exact ⟨by rw [HBB.out]; rfl, hbw⟩
end Go.Proofs.Ytmpjkdkgolmgdaa
