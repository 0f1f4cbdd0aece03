/- Product codes: walks of a decoder's round, of slices.Contains over bools, of a decoder's results. -/
import Derived.Test.YtmpjkdkgolmgdaaGreatPdH
namespace Go.Proofs.YtmpjkdkgolmgdaaGreat
open Go.RowKit
set_option linter.unusedVariables false

set_option maxRecDepth 100000 in
set_option maxHeartbeats 8000000 in
theorem round_any (R C p q B g1 g2 n c1 c2 : Nat) (b : List GF) (m : List Bool) (w : World) (hb : OwB w B (.slice (some ⟨g1, 0, none⟩) n c1) b) (hm : OwT w B (.slice (some ⟨g2, 0, none⟩) n c2) m)
    (hne : g1 ≠ g2) (hn : n = R * C) (h2 : R ≤ 32) (h4 : C ≤ 32) (h5 : p < C) (h6 : q < R) :
    Calls Tryz.prog 37 #[decV R C p q (.slice (some ⟨g1, 0, none⟩) n c1) (.slice (some ⟨g2, 0, none⟩) n c2)] w fun e w' => e = .returned (.tuple #[]) ∧ OwB w' B (.slice (some ⟨g1, 0, none⟩) n c1) (roundL R C p q (b, m)).1 ∧ OwT w' B (.slice (some ⟨g2, 0, none⟩) n c2) (roundL R C p q (b, m)).2 ∧ Exc [g1, g2] w w' := by
  have hN : n ≤ 1024 := by have := (mul32 h2 h4).2; rw [← Int.natCast_mul, ← hn] at this; omega
  have HN := Lib.hid hn
  have hg1 := hb.lt.2
  have hg2 := hm.lt.2
  have D0 : DeR w (w.alloc (decC R C p q (.slice (some ⟨g1, 0, none⟩) n c1) (.slice (some ⟨g2, 0, none⟩) n c2))) B w.heap.size g1 g2 R C p q n c1 c2 (b, m) :=
    ⟨S6.new w R C p q _ _, hb.below (below_new _ _), hm.below (below_new _ _), Exc.of _ (below_new _ _), by omega, by omega, hne⟩
  have HRD : Hid (roundL R C p q (b, m) = colsN R C q (rowsN C p (b, m) R) C) := Lib.hid rfl
  clear hb hm hn
  go_enter Tryz.func37, Tryz.ntmps37
  go_wp2
  generalize w.alloc (decC R C p q (.slice (some ⟨g1, 0, none⟩) n c1) (.slice (some ⟨g2, 0, none⟩) n c2)) = W0 at *
  go_loopw [11] (fun i wr => ∃ k : Nat, k ≤ R ∧ i = .int .i64 k ∧ DeR w wr B w.heap.size g1 g2 R C p q n c1 c2 (rowsN C p (b, m) k)) (fun i _ => R - (intOf i).toNat)
  case atStart => exact ⟨0, Nat.zero_le _, rfl, D0⟩
  case round =>
    obtain ⟨k, hk, rfl, hD⟩ := hrel
    by_cases hlt : k < R
    · have HROW := Lib.hid (fun W => row_any R C k p q (.slice (some ⟨g1, 0, none⟩) n c1) W h2 h4 hlt)
      have hg1r := hD.b.lt.2
      have hg2r := hD.m.lt.2
      obtain ⟨⟨⟨ls, s0, s1, s2, s3⟩, s4⟩, s5⟩ := id hD.v
      have HTR := Lib.hid (fun W (hG : Gr wr W) A3 c3 B3 (hi : OwI W B3 (.slice A3 C c3) (toI (rowP C k))) (hB3 : wr.heap.size ≤ B3) =>
        treat_any R C p q B B3 g1 g2 n c1 c2 C c3 p A3 (rowsN C p (b, m) k).1 (rowsN C p (b, m) k).2 (rowP C k) W (hD.b.below hG) (hD.m.below hG) hD.ne hi (rowP_len C k).symm ⟨by omega, by omega⟩ (rowP_nodup C k) (fun i hi => by rw [HN.out]; exact rowP_lt hlt hi) hN h4 h5)
      have HUP := Lib.hid (fun W (hG : Gr wr W) W' (h1 : OwB W' B (.slice (some ⟨g1, 0, none⟩) n c1) (treatL (rowsN C p (b, m) k) (rowP C k) p).1) (h2 : OwT W' B (.slice (some ⟨g2, 0, none⟩) n c2) (treatL (rowsN C p (b, m) k) (rowP C k) p).2) (h3 : Exc [g1, g2] W W') =>
        (show DeR w W' B w.heap.size g1 g2 R C p q n c1 c2 (rowsN C p (b, m) (k + 1)) from
          ⟨(hD.v.below hG).exc h3 (by have := hD.y1; have := hD.y2; simp; omega), h1, h2, (hD.x.step hG).trans h3, hD.y1, hD.y2, hD.ne⟩))
      have hx0 := fun z (hz : Gr wr z) x => cell_extz hz ls s0 x
      have hx1 := fun z (hz : Gr wr z) x => cell_extz hz ls s1 x
      have hx2 := fun z (hz : Gr wr z) x => cell_extz hz ls s2 x
      have hx3 := fun z (hz : Gr wr z) x => cell_extz hz ls s3 x
      have hx4 := fun z (hz : Gr wr z) x => cell_extz hz ls s4 x
      clear D0 hD
      go_wp2
      (refine wp_region_tree [0, 1, 2, 3, 4, 5, 6, 7, 8] [9] 9 (by kernel_rfl) (by kernel_rfl) (by kernel_rfl) ?_; intro V1 g1)
      have n1 : wr.heap.size ≤ V1.heap.size := g1.size
      (apply tree_quiet [0, 1, 2, 3, 5, 6, 7, 8] (r := 1) (by kernel_rfl) (by kernel_rfl) (by kernel_rfl) (by kernel_rfl); (case hq => (intro z hz; simp only [pick, List.getElem?_cons_succ, List.getElem?_cons_zero]; ((have hx0 := hx0 z (g1.trans hz); have hx1 := hx1 z (g1.trans hz); have hx2 := hx2 z (g1.trans hz); have hx3 := hx3 z (g1.trans hz); have hx4 := hx4 z (g1.trans hz))); (repeat (go_big_quiet_step ((fail)))); refine wpQuiet_nil ?_; exact rfl)); (case' h => intro V2 g2))
      have n2 : V1.heap.size ≤ V2.heap.size := g2.size
      (refine tree_one 4 rfl (by kernel_rfl) ?_)
      go_wp2_with (go_at_call 29; refine (HROW.out _).mono ?_; rintro e V3 ⟨A3, c3, rfl, hi3, g3⟩)
      refine ⟨g3, fun V4 g4 => ?_⟩
      have n3 : V2.heap.size ≤ V3.heap.size := g3.size
      have n4 : V3.heap.size ≤ V4.heap.size := g4.size
      replace g3 : Gr V2 V3 := g3
      (refine tree_end (by kernel_rfl) ?_; simp only [pick, List.getElem?_cons_succ, List.getElem?_cons_zero])
      have GG := (g1.trans (g2.trans (g3.trans g4)))
      have hi4 := hi3.below g4
      clear hx0 hx1 hx2 hx3 hx4
      go_wp2_with fail
      refine (HTR.out _ GG A3 c3 _ hi4 (by omega)).mono ?_
      rintro e W9 ⟨rfl, ho9, hm9, hx9⟩
      have HD9 := Lib.hid (HUP.out _ GG _ ho9 hm9 hx9)
      clear HTR HUP ho9 hm9 hx9 hi4 hi3 GG
      clear ls s0 s1 s2 s3 s4 s5
      go_wp2
      go_roundw
      case rel => first | exact ⟨k + 1, by omega, by go_num, HD9.out⟩ | ((repeat apply Exists.intro); exact ⟨⟨k + 1, by omega, by go_num, HD9.out⟩, rfl⟩)
      case measure => simp [intOf]; omega
    · obtain rfl : k = R := by omega
      have HD := Lib.hid hD
      obtain ⟨⟨⟨ls, s0, s1, s2, s3⟩, s4⟩, s5⟩ := id hD.v
      clear D0 hD
      go_wp2
      clear ls s0 s1 s2 s3 s4 s5
      go_loopw [29] (fun i wr => ∃ j : Nat, j ≤ C ∧ i = .int .i64 j ∧ DeR w wr B w.heap.size g1 g2 k C p q n c1 c2 (colsN k C q (rowsN C p (b, m) k) j)) (fun i _ => C - (intOf i).toNat)
      case atStart => exact ⟨0, Nat.zero_le _, rfl, HD.out⟩
      case round =>
        obtain ⟨j, hj, rfl, hD⟩ := hrel
        by_cases hlt : j < C
        · have HROW := Lib.hid (fun W => column_any k C j p q (.slice (some ⟨g1, 0, none⟩) n c1) W h2 h4 hlt)
          have hg1r := hD.b.lt.2
          have hg2r := hD.m.lt.2
          obtain ⟨⟨⟨ls, s0, s1, s2, s3⟩, s4⟩, s5⟩ := id hD.v
          have HTR := Lib.hid (fun W (hG : Gr wr W) A3 c3 B3 (hi : OwI W B3 (.slice A3 k c3) (toI (colP k C j))) (hB3 : wr.heap.size ≤ B3) =>
            treat_any k C p q B B3 g1 g2 n c1 c2 k c3 q A3 (colsN k C q (rowsN C p (b, m) k) j).1 (colsN k C q (rowsN C p (b, m) k) j).2 (colP k C j) W (hD.b.below hG) (hD.m.below hG) hD.ne hi (colP_len k C j).symm ⟨by omega, by omega⟩ (colP_nodup k hlt) (fun i hi => by rw [HN.out]; exact colP_lt hlt hi) hN h2 h6)
          have HUP := Lib.hid (fun W (hG : Gr wr W) W' (h1 : OwB W' B (.slice (some ⟨g1, 0, none⟩) n c1) (treatL (colsN k C q (rowsN C p (b, m) k) j) (colP k C j) q).1) (h2 : OwT W' B (.slice (some ⟨g2, 0, none⟩) n c2) (treatL (colsN k C q (rowsN C p (b, m) k) j) (colP k C j) q).2) (h3 : Exc [g1, g2] W W') =>
            (show DeR w W' B w.heap.size g1 g2 k C p q n c1 c2 (colsN k C q (rowsN C p (b, m) k) (j + 1)) from
              ⟨(hD.v.below hG).exc h3 (by have := hD.y1; have := hD.y2; simp; omega), h1, h2, (hD.x.step hG).trans h3, hD.y1, hD.y2, hD.ne⟩))
          have hx0 := fun z (hz : Gr wr z) x => cell_extz hz ls s0 x
          have hx1 := fun z (hz : Gr wr z) x => cell_extz hz ls s1 x
          have hx2 := fun z (hz : Gr wr z) x => cell_extz hz ls s2 x
          have hx3 := fun z (hz : Gr wr z) x => cell_extz hz ls s3 x
          have hx4 := fun z (hz : Gr wr z) x => cell_extz hz ls s4 x
          clear hD HD
          go_wp2
          (refine wp_region_tree [0, 1, 2, 3, 4, 5, 6, 7, 8] [9] 9 (by kernel_rfl) (by kernel_rfl) (by kernel_rfl) ?_; intro V1 g1)
          have n1 : wr.heap.size ≤ V1.heap.size := g1.size
          (apply tree_quiet [0, 1, 2, 3, 5, 6, 7, 8] (r := 1) (by kernel_rfl) (by kernel_rfl) (by kernel_rfl) (by kernel_rfl); (case hq => (intro z hz; simp only [pick, List.getElem?_cons_succ, List.getElem?_cons_zero]; ((have hx0 := hx0 z (g1.trans hz); have hx1 := hx1 z (g1.trans hz); have hx2 := hx2 z (g1.trans hz); have hx3 := hx3 z (g1.trans hz); have hx4 := hx4 z (g1.trans hz))); (repeat (go_big_quiet_step ((fail)))); refine wpQuiet_nil ?_; exact rfl)); (case' h => intro V2 g2))
          have n2 : V1.heap.size ≤ V2.heap.size := g2.size
          (refine tree_one 4 rfl (by kernel_rfl) ?_)
          go_wp2_with (go_at_call 30; refine (HROW.out _).mono ?_; rintro e V3 ⟨A3, c3, rfl, hi3, g3⟩)
          refine ⟨g3, fun V4 g4 => ?_⟩
          have n3 : V2.heap.size ≤ V3.heap.size := g3.size
          have n4 : V3.heap.size ≤ V4.heap.size := g4.size
          replace g3 : Gr V2 V3 := g3
          (refine tree_end (by kernel_rfl) ?_; simp only [pick, List.getElem?_cons_succ, List.getElem?_cons_zero])
          have GG := (g1.trans (g2.trans (g3.trans g4)))
          have hi4 := hi3.below g4
          clear hx0 hx1 hx2 hx3 hx4
          go_wp2_with fail
          refine (HTR.out _ GG A3 c3 _ hi4 (by omega)).mono ?_
          rintro e W9 ⟨rfl, ho9, hm9, hx9⟩
          have HD9 := Lib.hid (HUP.out _ GG _ ho9 hm9 hx9)
          clear HTR HUP ho9 hm9 hx9 hi4 hi3 GG
          clear ls s0 s1 s2 s3 s4 s5
          go_wp2
          go_roundw
          case rel => first | exact ⟨j + 1, by omega, by go_num, HD9.out⟩ | ((repeat apply Exists.intro); exact ⟨⟨j + 1, by omega, by go_num, HD9.out⟩, rfl⟩)
          case measure => simp [intOf]; omega
        · obtain rfl : j = C := by omega
          clear HD
          go_wp2
          go_end0
          exact ⟨rfl, by rw [HRD.out]; exact hD.b, by rw [HRD.out]; exact hD.m, hD.x⟩
/-! ### Is there a mark -/
theorem dirty_at {m : List Bool} {i : Nat} (hi : i < m.length) (h : m.getD i false = true) : dirtyB m = true := by
  unfold dirtyB
  refine decide_eq_true ?_
  rw [← h]; simp [List.getD, hi]
set_option maxHeartbeats 1000000 in
theorem indexT_any (B g n c : Nat) (m : List Bool) (w : World) (hm : OwT w B (.slice (some ⟨g, 0, none⟩) n c) m) (hn : n ≤ 1024) :
    Calls Tryz.prog 54 #[.slice (some ⟨g, 0, none⟩) n c, .bool true] w fun e w' => ∃ j : Int, e = .returned (.int .i64 j) ∧ (decide (0 ≤ j) = dirtyB m) ∧ w = w' := by
  have HM := Lib.hid hm
  have HL := Lib.hid hm.len
  clear hm
  go_enter Tryz.func54, Tryz.ntmps54
  go_wp2
  go_loop [8] (fun i => ∃ k : Nat, k ≤ n ∧ i = .int .i64 k ∧ Hid (∀ j, j < k → m.getD j false = false)) (fun i => n - (intOf i).toNat)
  case atStart => exact ⟨0, Nat.zero_le _, rfl, Lib.hid fun j hj => absurd hj (Nat.not_lt_zero _)⟩
  case round =>
    obtain ⟨k, hk, rfl, HA⟩ := hrel
    by_cases hlt : k < n
    · have hc := HM.out.cellAt (i := k) hlt
      cases hmk : m.getD k false with
      | true =>
        have HD := Lib.hid (dirty_at (by rw [← HL.out]; exact hlt) hmk)
        rw [hmk] at hc
        clear hmk
        go_wp2
        go_ret
        exact ⟨k, rfl, by rw [HD.out]; exact decide_eq_true (Int.natCast_nonneg k), rfl⟩
      | false =>
        have HA' : Hid (∀ j, j < k + 1 → m.getD j false = false) := Lib.hid fun j hj => by
          by_cases e : j = k
          · subst e; exact hmk
          · exact HA.out j (by omega)
        rw [hmk] at hc
        clear hmk
        go_wp2
        go_round
        case rel => first | exact ⟨k + 1, by omega, by go_num, HA'⟩ | ((repeat apply Exists.intro); exact ⟨⟨k + 1, by omega, by go_num, HA'⟩, rfl⟩)
        case measure => simp [intOf]; omega
    · obtain rfl : k = n := by omega
      have HD := Lib.hid (dirty_false (m := m) (by rw [← HL.out]; exact HA.out))
      go_wp2
      go_ret
      exact ⟨-1, rfl, by rw [HD.out]; rfl, rfl⟩
set_option maxHeartbeats 1000000 in
theorem containsT_any (B g n c : Nat) (m : List Bool) (w : World) (hm : OwT w B (.slice (some ⟨g, 0, none⟩) n c) m) (hn : n ≤ 1024) :
    Calls Tryz.prog 38 #[.slice (some ⟨g, 0, none⟩) n c, .bool true] w fun e w' => e = .returned (.bool (dirtyB m)) ∧ w = w' := by
  have HI := Lib.hid (indexT_any B g n c m w hm hn)
  generalize dirtyB m = d at *
  clear hm
  go_enter Tryz.func38, Tryz.ntmps38
  go_wp2_with fail
  refine HI.out.mono ?_
  rintro e w' ⟨j, rfl, hj, rfl⟩
  have HJ := Lib.hid hj
  clear hj
  go_wp2
  go_ret
  exact ⟨by rw [← HJ.out]; rfl, rfl⟩
end Go.Proofs.YtmpjkdkgolmgdaaGreat
