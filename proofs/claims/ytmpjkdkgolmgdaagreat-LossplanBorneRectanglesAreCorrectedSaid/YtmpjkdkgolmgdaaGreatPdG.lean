/- Product codes: walks of begin, rowsRight, Check. -/
import Derived.Test.YtmpjkdkgolmgdaaGreatPdF
namespace Go.Proofs.YtmpjkdkgolmgdaaGreat
open Go.RowKit
set_option linter.unusedVariables false

theorem cwB_row {p C r : Nat} {b : List GF} : cwB p (rowW C b r) = true ↔ isCW p (rowW C b r) := cwB_iff
open Classical in
theorem right_all {R C p : Nat} {b : List GF} (h : ∀ r, r < R → cwB p (rowW C b r) = true) : rightB R C p b = true := rightB_iff.2 fun r hr => cwB_iff.1 (h r hr)
theorem right_not {R C p r : Nat} {b : List GF} (hr : r < R) (h : cwB p (rowW C b r) = false) : rightB R C p b = false := by
  cases e : rightB R C p b with
  | false => rfl
  | true => rw [cwB_iff.2 (rightB_iff.1 e r hr)] at h; cases h
theorem getRow_any (R C k : Nat) (p q : Int) (A I : Option Addr) (n c ci : Nat) (l : List GF) (w : World) (hl : RdB w A n l) (hi : RdI w I C (toI (rowP C k))) (hn : n = R * C) (h2 : R ≤ 32) (h4 : C ≤ 32) (hk : k < R) :
    Calls Tryz.prog 31 #[blkV R C p q (.slice A n c), .slice I C ci] w fun e w' => ∃ A' c', e = .returned (.slice A' C c') ∧ OwB w' w.heap.size (.slice A' C c') (rowW C l k) ∧ Below w.heap.size w w' := by
  have hN : n ≤ 1024 := by have := (mul32 h2 h4).2; rw [← Int.natCast_mul, ← hn] at this; omega
  have h := get_any R C p q A I n c C ci l (rowP C k) w hl hi h4 (fun i hi => by rw [hn]; exact rowP_lt hk hi) hN
  rw [getL_row] at h; exact h
theorem getCol_any (R C k : Nat) (p q : Int) (A I : Option Addr) (n c ci : Nat) (l : List GF) (w : World) (hl : RdB w A n l) (hi : RdI w I R (toI (colP R C k))) (hn : n = R * C) (h2 : R ≤ 32) (h4 : C ≤ 32) (hk : k < C) :
    Calls Tryz.prog 31 #[blkV R C p q (.slice A n c), .slice I R ci] w fun e w' => ∃ A' c', e = .returned (.slice A' R c') ∧ OwB w' w.heap.size (.slice A' R c') (colW R C l k) ∧ Below w.heap.size w w' := by
  have hN : n ≤ 1024 := by have := (mul32 h2 h4).2; rw [← Int.natCast_mul, ← hn] at this; omega
  have h := get_any R C p q A I n c R ci l (colP R C k) w hl hi h2 (fun i hi => by rw [hn]; exact colP_lt hk hi) hN
  rw [getL_col] at h; exact h
set_option maxRecDepth 100000 in
set_option maxHeartbeats 8000000 in
theorem rowsRight_any (A : Option Addr) (n c R C p q : Nat) (l : List GF) (w : World) (hl : RdB w A n l) (hn : n = R * C) (h2 : R ≤ 32) (h4 : C ≤ 32) (h5 : p < C) :
    Calls Tryz.prog 39 #[blkV R C p q (.slice A n c)] w fun e w' => e = .returned (.bool (rightB R C p l)) ∧ Below w.heap.size w w' := by
  have hN : n ≤ 1024 := by have := (mul32 h2 h4).2; rw [← Int.natCast_mul, ← hn] at this; omega
  have HN := Lib.hid hn
  have HL := Lib.hid hl
  have S0 := S5.new w R C p q (.slice A n c)
  have B0 := below_new w (blkC R C p q (.slice A n c))
  clear hn hl
  go_enter Tryz.func39, Tryz.ntmps39
  go_wp2
  generalize w.alloc (blkC R C p q (.slice A n c)) = W0 at *
  go_loopw [9] (fun i wr => ∃ k : Nat, k ≤ R ∧ i = .int .i64 k ∧ Hid (∀ r, r < k → cwB p (rowW C l r) = true) ∧ S5 wr w.heap.size R C p q (.slice A n c) ∧ Below w.heap.size w wr) (fun i _ => R - (intOf i).toNat)
  case atStart => exact ⟨0, Nat.zero_le _, rfl, Lib.hid fun r hr => absurd hr (Nat.not_lt_zero _), S0, B0⟩
  case round =>
    obtain ⟨k, hk, rfl, HA, hs, hbw⟩ := hrel
    by_cases hlt : k < R
    · have hl := HL.out.below hbw
      have HROW := Lib.hid (fun W => row_any R C k p q (.slice A n c) W h2 h4 hlt)
      have HGET := Lib.hid (fun W A3 c3 (hG : Gr wr W) B (hi : OwI W B (.slice A3 C c3) (toI (rowP C k))) => getRow_any R C k p q A A3 n c c3 l W (hl.below hG) hi.rd.1 HN.out h2 h4 hlt)
      have HCHK := Lib.hid (fun W B A4 c4 (ho : OwB W B (.slice A4 C c4) (rowW C l k)) => Check_ok A4 C c4 p _ W ho.rd.1 (by omega) (by omega) (by omega))
      clear S0 B0
      go_wp2
      apply wp_region_mid6 (α := Option Addr) (β := Nat) (γ := Option Addr) (δ := Nat) (ε := Nat) (ζ := Unit) (fun A3 c3 A4 c4 z u W => Below wr.heap.size wr W)
      case h =>
        intro QQ HQ
        obtain ⟨u, _⟩ : ∃ u : Unit, True := ⟨(), trivial⟩
        have hx0 := fun z (hz : Gr wr z) x => cell_extz hz hs.1.1 hs.1.2.1 x
        have hx1 := fun z (hz : Gr wr z) x => cell_extz hz hs.1.1 hs.1.2.2.1 x
        have hx2 := fun z (hz : Gr wr z) x => cell_extz hz hs.1.1 hs.1.2.2.2.1 x
        have hx3 := fun z (hz : Gr wr z) x => cell_extz hz hs.1.1 hs.1.2.2.2.2 x
        have hx4 := fun z (hz : Gr wr z) x => cell_extz hz hs.1.1 hs.2 x
        (refine wp_region_tree [0, 1, 2, 3, 4, 5, 6, 7, 8, 9, 10, 11, 12, 13] [14] 14 (by kernel_rfl) (by kernel_rfl) (by kernel_rfl) ?_; intro V1 g1)
        have n1 : wr.heap.size ≤ V1.heap.size := g1.size
        (apply tree_quiet [0, 1, 2, 5, 6, 7] (r := 8) (by kernel_rfl) (by kernel_rfl) (by kernel_rfl) (by kernel_rfl); (case hq => (intro z hz; simp only [pick, List.getElem?_cons_succ, List.getElem?_cons_zero]; ((have hx0 := hx0 z (g1.trans hz); have hx1 := hx1 z (g1.trans hz); have hx2 := hx2 z (g1.trans hz); have hx3 := hx3 z (g1.trans hz); have hx4 := hx4 z (g1.trans hz))); (repeat (go_big_quiet_step ((fail)))); refine wpQuiet_nil ?_; exact rfl)); (case' h => intro V2 g2))
        have n2 : V1.heap.size ≤ V2.heap.size := g2.size
        (refine tree_two 3 12 rfl rfl (by kernel_rfl) ?_ ?_)
        · skip
          go_wp2_with (go_at_call 29; refine (HROW.out _).mono ?_; rintro e V3 ⟨A3, c3, rfl, hi3, g3⟩)
          refine ⟨g3, fun V4 g4 => ?_⟩
          have n3 : V2.heap.size ≤ V3.heap.size := g3.size
          have n4 : V3.heap.size ≤ V4.heap.size := g4.size
          replace g3 : Gr V2 V3 := g3
          (refine tree_two 4 12 rfl rfl (by kernel_rfl) ?_ ?_)
          · skip
            go_wp2_with (go_at_call 31; refine (HGET.out _ A3 c3 (g1.trans (g2.trans (g3.trans g4))) _ (hi3.below g4)).mono ?_; rintro e V5 ⟨A4, c4, rfl, ho4, g5⟩)
            refine ⟨g5, fun V6 g6 => ?_⟩
            have n5 : V4.heap.size ≤ V5.heap.size := g5.size
            have n6 : V5.heap.size ≤ V6.heap.size := g6.size
            replace g5 : Gr V4 V5 := g5
            (refine tree_two 8 12 rfl rfl (by kernel_rfl) ?_ ?_)
            · skip
              go_wp2_with (go_at_call 55; refine (HCHK.out _ _ A4 c4 (ho4.below g6)).mono ?_; rintro e V7 ⟨rfl, g7⟩)
              refine ⟨g7, fun V8 g8 => ?_⟩
              have n7 : V6.heap.size ≤ V7.heap.size := g7.size
              have n8 : V7.heap.size ≤ V8.heap.size := g8.size
              replace g7 : Gr V6 V7 := g7
              (apply tree_quiet [9, 10, 11] (r := 2) (by kernel_rfl) (by kernel_rfl) (by kernel_rfl) (by kernel_rfl); (case hq => (intro z hz; simp only [pick, List.getElem?_cons_succ, List.getElem?_cons_zero]; (skip); (repeat (go_big_quiet_step ((fail)))); refine wpQuiet_nil ?_; exact rfl)); (case' h => intro V9 g9))
              have n9 : V8.heap.size ≤ V9.heap.size := g9.size
              (refine tree_one 12 rfl (by kernel_rfl) ?_)
              go_wp2
              refine ⟨below_new _ _, fun V10 hZ => ?_⟩
              have Z := (Has.new V9 0 0 27).below hZ
              have g10 : Gr V9 V10 := Bw.step (below_new _ (fltC 0 0)) hZ
              have nz : V9.heap.size < V10.heap.size := Z.1
              clear hZ
              generalize V9.heap.size = z at *
              (apply tree_quiet [13] (r := 0) (by kernel_rfl) (by kernel_rfl) (by kernel_rfl) (by kernel_rfl); (case hq => (intro z hz; simp only [pick, List.getElem?_cons_succ, List.getElem?_cons_zero]; (skip); (repeat (go_big_quiet_step ((fail)))); refine wpQuiet_nil ?_; exact rfl)); (case' h => intro V11 g11))
              have n11 : V10.heap.size ≤ V11.heap.size := g11.size
              have Z := Z.below g11
              obtain ⟨lz, z0, z1, y0, y1⟩ := id Z
              (refine tree_end (by kernel_rfl) ?_; simp only [pick, List.getElem?_cons_succ, List.getElem?_cons_zero])
              go_wp2
              exact HQ.out A3 c3 A4 c4 z u _ (Bw.set (Bw.set (g1.trans (g2.trans (g3.trans (g4.trans (g5.trans (g6.trans (g7.trans (g8.trans (g9.trans (g10.trans g11)))))))))) (p := ⟨z, 0, none⟩) (by show wr.heap.size ≤ z; omega) _) (p := ⟨z, 1, none⟩) (by show wr.heap.size ≤ z; omega) _)
            · skip
              go_wp2
              refine ⟨below_new _ _, fun V7 hZ => ?_⟩
              have Z := (Has.new V6 0 0 27).below hZ
              have g7 : Gr V6 V7 := Bw.step (below_new _ (fltC 0 0)) hZ
              have nz : V6.heap.size < V7.heap.size := Z.1
              clear hZ
              generalize V6.heap.size = z at *
              (refine tree_one 8 rfl (by kernel_rfl) ?_)
              go_wp2_with (go_at_call 55; refine (HCHK.out _ _ A4 c4 (ho4.below (g6.trans g7))).mono ?_; rintro e V8 ⟨rfl, g8⟩)
              refine ⟨g8, fun V9 g9 => ?_⟩
              have n8 : V7.heap.size ≤ V8.heap.size := g8.size
              have n9 : V8.heap.size ≤ V9.heap.size := g9.size
              replace g8 : Gr V7 V8 := g8
              (apply tree_quiet [9, 10, 11] (r := 1) (by kernel_rfl) (by kernel_rfl) (by kernel_rfl) (by kernel_rfl); (case hq => (intro z hz; simp only [pick, List.getElem?_cons_succ, List.getElem?_cons_zero]; (skip); (repeat (go_big_quiet_step ((fail)))); refine wpQuiet_nil ?_; exact rfl)); (case' h => intro V10 g10))
              have n10 : V9.heap.size ≤ V10.heap.size := g10.size
              (apply tree_quiet [13] (r := 0) (by kernel_rfl) (by kernel_rfl) (by kernel_rfl) (by kernel_rfl); (case hq => (intro z hz; simp only [pick, List.getElem?_cons_succ, List.getElem?_cons_zero]; (skip); (repeat (go_big_quiet_step ((fail)))); refine wpQuiet_nil ?_; exact rfl)); (case' h => intro V11 g11))
              have n11 : V10.heap.size ≤ V11.heap.size := g11.size
              have Z := Z.below (g8.trans (g9.trans (g10.trans g11)))
              obtain ⟨lz, z0, z1, y0, y1⟩ := id Z
              (refine tree_end (by kernel_rfl) ?_; simp only [pick, List.getElem?_cons_succ, List.getElem?_cons_zero])
              go_wp2
              exact HQ.out A3 c3 A4 c4 z u _ (Bw.set (Bw.set (g1.trans (g2.trans (g3.trans (g4.trans (g5.trans (g6.trans (g7.trans (g8.trans (g9.trans (g10.trans g11)))))))))) (p := ⟨z, 0, none⟩) (by show wr.heap.size ≤ z; omega) _) (p := ⟨z, 1, none⟩) (by show wr.heap.size ≤ z; omega) _)
          · skip
            go_wp2
            refine ⟨below_new _ _, fun V5 hZ => ?_⟩
            have Z := (Has.new V4 0 0 27).below hZ
            have g5 : Gr V4 V5 := Bw.step (below_new _ (fltC 0 0)) hZ
            have nz : V4.heap.size < V5.heap.size := Z.1
            clear hZ
            generalize V4.heap.size = z at *
            (refine tree_one 4 rfl (by kernel_rfl) ?_)
            go_wp2_with (go_at_call 31; refine (HGET.out _ A3 c3 (g1.trans (g2.trans (g3.trans (g4.trans g5)))) _ (hi3.below (g4.trans g5))).mono ?_; rintro e V6 ⟨A4, c4, rfl, ho4, g6⟩)
            refine ⟨g6, fun V7 g7 => ?_⟩
            have n6 : V5.heap.size ≤ V6.heap.size := g6.size
            have n7 : V6.heap.size ≤ V7.heap.size := g7.size
            replace g6 : Gr V5 V6 := g6
            (refine tree_one 8 rfl (by kernel_rfl) ?_)
            go_wp2_with (go_at_call 55; refine (HCHK.out _ _ A4 c4 (ho4.below g7)).mono ?_; rintro e V8 ⟨rfl, g8⟩)
            refine ⟨g8, fun V9 g9 => ?_⟩
            have n8 : V7.heap.size ≤ V8.heap.size := g8.size
            have n9 : V8.heap.size ≤ V9.heap.size := g9.size
            replace g8 : Gr V7 V8 := g8
            (apply tree_quiet [9, 10, 11] (r := 1) (by kernel_rfl) (by kernel_rfl) (by kernel_rfl) (by kernel_rfl); (case hq => (intro z hz; simp only [pick, List.getElem?_cons_succ, List.getElem?_cons_zero]; (skip); (repeat (go_big_quiet_step ((fail)))); refine wpQuiet_nil ?_; exact rfl)); (case' h => intro V10 g10))
            have n10 : V9.heap.size ≤ V10.heap.size := g10.size
            (apply tree_quiet [13] (r := 0) (by kernel_rfl) (by kernel_rfl) (by kernel_rfl) (by kernel_rfl); (case hq => (intro z hz; simp only [pick, List.getElem?_cons_succ, List.getElem?_cons_zero]; (skip); (repeat (go_big_quiet_step ((fail)))); refine wpQuiet_nil ?_; exact rfl)); (case' h => intro V11 g11))
            have n11 : V10.heap.size ≤ V11.heap.size := g11.size
            have Z := Z.below (g6.trans (g7.trans (g8.trans (g9.trans (g10.trans g11)))))
            obtain ⟨lz, z0, z1, y0, y1⟩ := id Z
            (refine tree_end (by kernel_rfl) ?_; simp only [pick, List.getElem?_cons_succ, List.getElem?_cons_zero])
            go_wp2
            exact HQ.out A3 c3 A4 c4 z u _ (Bw.set (Bw.set (g1.trans (g2.trans (g3.trans (g4.trans (g5.trans (g6.trans (g7.trans (g8.trans (g9.trans (g10.trans g11)))))))))) (p := ⟨z, 0, none⟩) (by show wr.heap.size ≤ z; omega) _) (p := ⟨z, 1, none⟩) (by show wr.heap.size ≤ z; omega) _)
        · skip
          go_wp2
          refine ⟨below_new _ _, fun V3 hZ => ?_⟩
          have Z := (Has.new V2 0 0 27).below hZ
          have g3 : Gr V2 V3 := Bw.step (below_new _ (fltC 0 0)) hZ
          have nz : V2.heap.size < V3.heap.size := Z.1
          clear hZ
          generalize V2.heap.size = z at *
          (refine tree_one 3 rfl (by kernel_rfl) ?_)
          go_wp2_with (go_at_call 29; refine (HROW.out _).mono ?_; rintro e V4 ⟨A3, c3, rfl, hi3, g4⟩)
          refine ⟨g4, fun V5 g5 => ?_⟩
          have n4 : V3.heap.size ≤ V4.heap.size := g4.size
          have n5 : V4.heap.size ≤ V5.heap.size := g5.size
          replace g4 : Gr V3 V4 := g4
          (refine tree_one 4 rfl (by kernel_rfl) ?_)
          go_wp2_with (go_at_call 31; refine (HGET.out _ A3 c3 (g1.trans (g2.trans (g3.trans (g4.trans g5)))) _ (hi3.below g5)).mono ?_; rintro e V6 ⟨A4, c4, rfl, ho4, g6⟩)
          refine ⟨g6, fun V7 g7 => ?_⟩
          have n6 : V5.heap.size ≤ V6.heap.size := g6.size
          have n7 : V6.heap.size ≤ V7.heap.size := g7.size
          replace g6 : Gr V5 V6 := g6
          (refine tree_one 8 rfl (by kernel_rfl) ?_)
          go_wp2_with (go_at_call 55; refine (HCHK.out _ _ A4 c4 (ho4.below g7)).mono ?_; rintro e V8 ⟨rfl, g8⟩)
          refine ⟨g8, fun V9 g9 => ?_⟩
          have n8 : V7.heap.size ≤ V8.heap.size := g8.size
          have n9 : V8.heap.size ≤ V9.heap.size := g9.size
          replace g8 : Gr V7 V8 := g8
          (apply tree_quiet [9, 10, 11] (r := 1) (by kernel_rfl) (by kernel_rfl) (by kernel_rfl) (by kernel_rfl); (case hq => (intro z hz; simp only [pick, List.getElem?_cons_succ, List.getElem?_cons_zero]; (skip); (repeat (go_big_quiet_step ((fail)))); refine wpQuiet_nil ?_; exact rfl)); (case' h => intro V10 g10))
          have n10 : V9.heap.size ≤ V10.heap.size := g10.size
          (apply tree_quiet [13] (r := 0) (by kernel_rfl) (by kernel_rfl) (by kernel_rfl) (by kernel_rfl); (case hq => (intro z hz; simp only [pick, List.getElem?_cons_succ, List.getElem?_cons_zero]; (skip); (repeat (go_big_quiet_step ((fail)))); refine wpQuiet_nil ?_; exact rfl)); (case' h => intro V11 g11))
          have n11 : V10.heap.size ≤ V11.heap.size := g11.size
          have Z := Z.below (g4.trans (g5.trans (g6.trans (g7.trans (g8.trans (g9.trans (g10.trans g11)))))))
          obtain ⟨lz, z0, z1, y0, y1⟩ := id Z
          (refine tree_end (by kernel_rfl) ?_; simp only [pick, List.getElem?_cons_succ, List.getElem?_cons_zero])
          go_wp2
          exact HQ.out A3 c3 A4 c4 z u _ (Bw.set (Bw.set (g1.trans (g2.trans (g3.trans (g4.trans (g5.trans (g6.trans (g7.trans (g8.trans (g9.trans (g10.trans g11)))))))))) (p := ⟨z, 0, none⟩) (by show wr.heap.size ≤ z; omega) _) (p := ⟨z, 1, none⟩) (by show wr.heap.size ≤ z; omega) _)
      case h2 =>
        intro A3 c3 A4 c4 z u W hW
        have hs' := hs.below hW
        have hbw' := hbw.trans (hW.mono hbw.size)
        cases hcw : cwB p (rowW C l k) with
        | false =>
          have HR := Lib.hid (right_not hlt hcw)
          clear hcw
          go_wp2
          go_ret
          exact ⟨by rw [HR.out]; rfl, hbw'⟩
        | true =>
          have HA' : Hid (∀ r, r < k + 1 → cwB p (rowW C l r) = true) := Lib.hid fun r hr => by
            by_cases e : r = k
            · subst e; exact hcw
            · exact HA.out r (by omega)
          clear hcw
          go_wp2
          go_roundw
          case rel => first | exact ⟨k + 1, by omega, by go_num, HA', hs', hbw'⟩ | ((repeat apply Exists.intro); exact ⟨⟨k + 1, by omega, by go_num, HA', hs', hbw'⟩, rfl⟩)
          case measure => simp [intOf]; omega
    · obtain rfl : k = R := by omega
      have HR := Lib.hid (right_all HA.out)
      clear S0 B0
      go_wp2
      go_ret
      exact ⟨by rw [HR.out]; rfl, hbw⟩
/-! ### begin -/
def cdF (n : Nat) (R C p q : Int) : Int × Int := if shF R C p q ≠ (0, 0) then shF R C p q else if (n : Int) ≠ R * C then (9, -1) else (0, 0)
theorem cdF_ok {n R C p q : Nat} (h1 : 1 ≤ R) (h2 : R ≤ 32) (h3 : 1 ≤ C) (h4 : C ≤ 32) (h5 : p < C) (h6 : q < R) (hn : n = R * C) : cdF n R C p q = (0, 0) := by
  unfold cdF; rw [if_neg (by rw [shF_ok h1 h2 h3 h4 h5 h6]; exact fun h => h rfl), if_neg (by rw [hn, Int.natCast_mul]; exact fun h => h rfl)]
theorem cdF_cases (n : Nat) (R C p q : Int) : (∃ R' C' p' q' : Nat, R = R' ∧ C = C' ∧ p = p' ∧ q = q' ∧ 1 ≤ R' ∧ R' ≤ 32 ∧ 1 ≤ C' ∧ C' ≤ 32 ∧ p' < C' ∧ q' < R' ∧ n = R' * C' ∧ cdF n R C p q = (0, 0)) ∨
    (shF R C p q ≠ (0, 0) ∧ cdF n R C p q = shF R C p q) ∨ (∃ R' C' p' q' : Nat, R = R' ∧ C = C' ∧ p = p' ∧ q = q' ∧ 1 ≤ R' ∧ R' ≤ 32 ∧ 1 ≤ C' ∧ C' ≤ 32 ∧ p' < C' ∧ q' < R' ∧ n ≠ R' * C' ∧ cdF n R C p q = (9, -1)) := by
  by_cases h : shF R C p q = (0, 0)
  · obtain ⟨R', C', p', q', rfl, rfl, rfl, rfl, h1, h2, h3, h4, h5, h6⟩ := shF_nat h
    by_cases hn : n = R' * C'
    · exact .inl ⟨R', C', p', q', rfl, rfl, rfl, rfl, h1, h2, h3, h4, h5, h6, hn, cdF_ok h1 h2 h3 h4 h5 h6 hn⟩
    · refine .inr (.inr ⟨R', C', p', q', rfl, rfl, rfl, rfl, h1, h2, h3, h4, h5, h6, hn, ?_⟩)
      unfold cdF
      rw [if_neg (fun h' => h' h), if_pos (by rw [← Int.natCast_mul]; omega)]
  · exact .inr (.inl ⟨h, by unfold cdF; rw [if_pos h]⟩)
theorem cdF_code (n : Nat) (R C p q : Int) : cdF n R C p q = (0, 0) ∨ ((cdF n R C p q).1 ≠ 0) := by
  rcases cdF_cases n R C p q with ⟨_, _, _, _, _, _, _, _, _, _, _, _, _, _, _, h⟩ | ⟨h, h'⟩ | ⟨_, _, _, _, _, _, _, _, _, _, _, _, _, _, _, h⟩
  · exact .inl h
  · rw [h']; exact .inr (by have := (shF_code R C p q).resolve_left h; omega)
  · rw [h]; exact .inr (by decide)
set_option maxHeartbeats 2000000 in
theorem pdBegin_any (A : Option Addr) (n c : Nat) (R C p q : Int) (w : World) (hn : n ≤ 9223372036854775807) :
    Calls Tryz.prog 35 #[.slice A n c, shpV R C p q] w fun e w' => e = .returned (.agg #[.int .i64 (cdF n R C p q).1, .int .i64 (cdF n R C p q).2]) ∧ Below w.heap.size w w' := by
  have HV := Lib.hid (fun w => pdValidate_any R C p q w)
  have S0 := (S4.new w R C p q).al (fltC 0 0)
  have F0 := Has.new (w.alloc (shpC R C p q)) 0 0 27
  have B0 : Below w.heap.size w ((w.alloc (shpC R C p q)).alloc (fltC 0 0)) := by (repeat (first | exact Below.refl _ _ | assumption | refine Bw.al ?_ _ | refine Bw.step ?_ (by assumption) | refine Bw.drew ?_))
  rw [World.size_alloc] at F0
  have hw1 : w.heap.size ≤ w.heap.size + 1 := Nat.le_succ _
  rcases cdF_cases n R C p q with ⟨R', C', p', q', rfl, rfl, rfl, rfl, h1, h2, h3, h4, h5, h6, hn, h⟩ | ⟨hf, h⟩ | ⟨R', C', p', q', rfl, rfl, rfl, rfl, h1, h2, h3, h4, h5, h6, hn, h⟩
  · rw [h]
    rw [shF_ok h1 h2 h3 h4 h5 h6] at HV
    have hm := mul32 h2 h4
    have hne : ((n : Int) != (R' : Int) * (C' : Int)) = false := by rw [hn, Int.natCast_mul]; simp
    clear h hn
    obtain ⟨ls, s0, s1, s2, s3⟩ := id S0
    go_enter Tryz.func35, Tryz.ntmps35
    go_wp2_with fail
    refine (HV.out _).mono ?_
    rintro e w1 ⟨rfl, hb1⟩
    have S1 := (S0.below hb1).al (fltC 0 0)
    have F1 := (F0.below hb1).al (fltC 0 0)
    have F2 := Has.new w1 0 0 27
    have B1 := Bw.al (Bw.step B0 hb1) (fltC 0 0)
    clear ls s0 s1 s2 s3
    obtain ⟨ls, s0, s1, s2, s3⟩ := id S1
    obtain ⟨l1, c10, c11, f10, f11⟩ := id F1
    obtain ⟨l2, c20, c21, f20, f21⟩ := id F2
    go_wp2
    exact bodyPost_ret (resF1 rfl rfl (F1.set2 0 0)) rfl ⟨rfl, Bw.set (Bw.set B1 (p := ⟨w.heap.size + 1, 0, none⟩) hw1 _) (p := ⟨w.heap.size + 1, 1, none⟩) hw1 _⟩
  · rw [h]
    have hc := (shF_code R C p q).resolve_left hf
    generalize (shF R C p q).1 = f at *
    generalize (shF R C p q).2 = i at *
    have xC : (f == 0) = false := by rw [beq_eq_false_iff_ne]; omega
    clear hf hc h
    obtain ⟨ls, s0, s1, s2, s3⟩ := id S0
    go_enter Tryz.func35, Tryz.ntmps35
    go_wp2_with fail
    refine (HV.out _).mono ?_
    rintro e w1 ⟨rfl, hb1⟩
    have F1 := (F0.below hb1).al (fltC f i)
    have F2 := Has.new w1 f i 27
    have B1 := Bw.al (Bw.step B0 hb1) (fltC f i)
    clear ls s0 s1 s2 s3
    obtain ⟨l1, c10, c11, f10, f11⟩ := id F1
    obtain ⟨l2, c20, c21, f20, f21⟩ := id F2
    go_wp2
    exact bodyPost_ret (resF1 rfl rfl (F1.set2 f i)) rfl ⟨rfl, Bw.set (Bw.set B1 (p := ⟨w.heap.size + 1, 0, none⟩) hw1 _) (p := ⟨w.heap.size + 1, 1, none⟩) hw1 _⟩
  · rw [h]
    rw [shF_ok h1 h2 h3 h4 h5 h6] at HV
    have hm := mul32 h2 h4
    have hne : ((n : Int) != (R' : Int) * (C' : Int)) = true := by rw [← Int.natCast_mul, bne_iff_ne]; omega
    have hne2 : ((n : Int) == (R' : Int) * (C' : Int)) = false := by rw [← Int.natCast_mul, beq_eq_false_iff_ne]; omega
    clear h hn
    obtain ⟨ls, s0, s1, s2, s3⟩ := id S0
    go_enter Tryz.func35, Tryz.ntmps35
    go_wp2_with fail
    refine (HV.out _).mono ?_
    rintro e w1 ⟨rfl, hb1⟩
    have S1 := (S0.below hb1).al (fltC 0 0)
    have F1 := (F0.below hb1).al (fltC 0 0)
    have F2 := Has.new w1 0 0 27
    have B1 := Bw.al (Bw.step B0 hb1) (fltC 0 0)
    clear ls s0 s1 s2 s3
    obtain ⟨ls, s0, s1, s2, s3⟩ := id S1
    obtain ⟨l2, c20, c21, f20, f21⟩ := id F2
    go_wp2_with fail
    refine (pdFault_any _ _ _).mono ?_
    rintro e w2 ⟨rfl, hb2⟩
    have F3 := F1.below hb2
    have B3 := Bw.step B1 hb2
    clear l2 c20 c21 f20 f21 ls s0 s1 s2 s3
    obtain ⟨l1, c10, c11, f10, f11⟩ := id F3
    go_wp2
    exact bodyPost_ret (resF1 rfl rfl (F3.set2 9 (-1))) rfl ⟨rfl, Bw.set (Bw.set B3 (p := ⟨w.heap.size + 1, 0, none⟩) hw1 _) (p := ⟨w.heap.size + 1, 1, none⟩) hw1 _⟩
/-! ### Check -/
open Classical in
noncomputable def colsB (R C q : Nat) (b : List GF) : Bool := decide (∀ c, c < C → isCW q (colW R C b c))
open Classical in
theorem colsB_iff {R C q : Nat} {b : List GF} : colsB R C q b = true ↔ ∀ c, c < C → isCW q (colW R C b c) := by unfold colsB; exact decide_eq_true_iff
theorem cols_all {R C q : Nat} {b : List GF} (h : ∀ c, c < C → cwB q (colW R C b c) = true) : colsB R C q b = true := colsB_iff.2 fun c hc => cwB_iff.1 (h c hc)
theorem cols_not {R C q c : Nat} {b : List GF} (hc : c < C) (h : cwB q (colW R C b c) = false) : colsB R C q b = false := by
  cases e : colsB R C q b with
  | false => rfl
  | true => rw [cwB_iff.2 (colsB_iff.1 e c hc)] at h; cases h
noncomputable def blkB (R C p q : Nat) (b : List GF) : Bool := rightB R C p b && colsB R C q b
structure CkR (w wr : World) (y : Nat) (R C p q : Int) (A : Option Addr) (n c : Nat) (l : List GF) : Prop where
  l : RdB wr A n l
  s : S4 wr w.heap.size R C p q
  f : Has wr (w.heap.size + 1) 0 0
  v : S5 wr y R C p q (.slice A n c)
  bw : Below w.heap.size w wr
theorem CkR.below {w wr wr' : World} {y : Nat} {R C p q : Int} {A : Option Addr} {n c : Nat} {l : List GF} (r : CkR w wr y R C p q A n c l) (hb : Below wr.heap.size wr wr') : CkR w wr' y R C p q A n c l :=
  ⟨r.l.below hb, r.s.below hb, r.f.below hb, r.v.below hb, Bw.step r.bw hb⟩
end Go.Proofs.YtmpjkdkgolmgdaaGreat
