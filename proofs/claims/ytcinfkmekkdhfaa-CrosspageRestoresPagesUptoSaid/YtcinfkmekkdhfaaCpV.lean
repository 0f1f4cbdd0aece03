/- Cross pages: the reference's faults of Restore: the lists of lost positions; none. -/
import Derived.Test.YtcinfkmekkdhfaaCpU
import Derived.Test.YtcinfkmekkdhfaaMe
import Derived.Test.YtcinfkmekkdhfaaMd
namespace Go.Proofs.Ytcinfkmekkdhfaa
open Go.RowKit Go.Shelf
set_option linter.unusedVariables false
attribute [local go_sem] Oper.semAt_some

/-- A list of positions is in order, or it is bad somewhere. -/
theorem incF_split (l : List Int) (q : Nat) : (incF l q 0 = (0, 0) ∧ IncOk l q) ∨ ∃ (t0 : Nat) (code : Int), t0 < l.length ∧ (∀ t, t < t0 → IncAt l q t) ∧ IncBad l q t0 code ∧ (incF l q 0).1 = code := by
  have key : ∀ (r k : Nat), l.length - k = r → k ≤ l.length → (∀ t, t < k → IncAt l q t) → (incR l q 0 (l.length - k) = (0, 0) ∧ IncOk l q) ∨ ∃ (t0 : Nat) (code : Int), t0 < l.length ∧ (∀ t, t < t0 → IncAt l q t) ∧ IncBad l q t0 code ∧ (incR l q 0 (l.length - k)).1 = code := by
    intro r
    induction r with
    | zero =>
      intro k hr hk hg
      obtain rfl : k = l.length := by omega
      exact .inl ⟨incR_end l q 0, hg⟩
    | succ r ih =>
      intro k hr hk hg
      have hkl : k < l.length := by omega
      rw [incR_at l q 0 hkl]
      by_cases h1 : 0 ≤ l.getD k 0 ∧ l.getD k 0 ≤ (q : Int) - 1
      · rw [if_neg (fun h => h h1)]
        by_cases h2 : 0 < k ∧ l.getD k 0 ≤ l.getD (k - 1) 0
        · rw [if_pos h2]
          exact .inr ⟨k, 11, hkl, hg, .inr ⟨rfl, h1.1, by omega, h2.1, h2.2⟩, rfl⟩
        · rw [if_neg h2]
          exact ih (k + 1) (by omega) (by omega) fun t ht => by
            by_cases e : t = k
            · subst e
              exact ⟨h1.1, by omega, fun h0 => by
                by_cases h3 : l.getD t 0 ≤ l.getD (t - 1) 0
                · exact absurd ⟨h0, h3⟩ h2
                · omega⟩
            · exact hg t (by omega)
      · rw [if_pos h1]
        exact .inr ⟨k, 4, hkl, hg, .inl ⟨rfl, fun h => h1 ⟨h.1, by omega⟩⟩, rfl⟩
  have h := key l.length 0 (Nat.sub_zero _) (Nat.zero_le _) fun t ht => absurd ht (Nat.not_lt_zero t)
  rw [Nat.sub_zero] at h
  unfold incF
  exact h
abbrev fltC (c i : Int) : Obj := .cells #[.int .i64 c, .int .i64 i] 24
set_option maxRecDepth 100000 in
set_option maxHeartbeats 4000000 in
theorem rRes_lists (A B : Option Addr) (m c c' p n f i0 : Nat) (C I : Int) (P : List (List GF)) (Z : List (List Int)) (w : World) (hP : RdM w A m P) (hZ : RdMI w B m Z) (hg : PgsOk P m p n f) (hzl : ∀ i, i < m → (Z.getD i []).length ≤ 9223372036854775807) (hi0 : i0 ≤ m) (hi : ∀ i, i < i0 → incF (Z.getD i []) (P.getD i []).length 0 = (0, 0))
    (hend : (i0 = m ∧ C = 0 ∧ I = 0) ∨ (i0 < m ∧ (incF (Z.getD i0 []) (P.getD i0 []).length 0).1 = C ∧ C ≠ 0 ∧ I = i0)) :
    Calls Try.prog 15 #[.slice A m c, .slice B m c', .int .i64 p] w (AggF w C I) := by
  obtain ⟨hp, h1, h2, hf, hn, hn1, hn2, hbad, hl⟩ := hg
  obtain ⟨ba, oa, rfl, hba, hca⟩ := hP.2 (by omega)
  obtain ⟨bb, ob, rfl, hbb, hcb⟩ := hZ.2 (by omega)
  have HCB := Lib.hid hcb
  have HI := Lib.hid hi
  have HZL := Lib.hid hzl
  have HEND := Lib.hid hend
  clear hZ hcb hi hzl hend
  have HP := Lib.hid hP
  have HCA := Lib.hid hca
  have HBAD := Lib.hid hbad
  have HL := Lib.hid hl
  have HN := Lib.hid hn
  clear hP hca hbad hl hn
  have hi1 : inB p 0 16 = true := inB_t (by omega)
  have d1 : decide ((m : Int) ≤ (p : Int)) = false := by simp only [decide_eq_false_iff_not]; omega
  have d2 : decide (48 + (p : Int) < m) = false := by simp only [decide_eq_false_iff_not]; omega
  have d4 : ((n : Int) == 0) = false := by rw [beq_eq_false_iff_ne]; omega
  have hF0 := Has.new w 0 0 24
  go_enter Try.func15, Try.ntmps15
  go_wp2_with (first | (go_at_call 26; refine (refIn_any _ _ _ _).mono ?_; rintro e w' ⟨rfl, rfl⟩) | (go_at_call 21; refine (pageSize_hit _ _ _ f P _ (HP.out.below (below_new _ _)) (by omega) hf (by rw [HN.out]; exact hn1) HBAD.out).mono ?_; rw [HN.out]; rintro e w' ⟨rfl, hb2⟩; have B1 := Bw.step (below_new w (.cells #[.int .i64 0, .int .i64 0] 24)) hb2; have F1 := hF0.below hb2; clear hb2 hF0))
  have HB1 := Lib.hid B1
  have HF1 := Lib.hid F1
  clear B1 F1
  obtain ⟨W1, rfl⟩ : ∃ W1 : World, W1 = w' := ⟨_, rfl⟩
  go_loopw [8] (fun i wr => ∃ k : Nat, k ≤ m ∧ i = .int .i64 k ∧ wr = W1) (fun i _ => m - (intOf i).toNat)
  case atStart => exact ⟨0, Nat.zero_le _, rfl, rfl⟩
  case round =>
    obtain ⟨k, hk, rfl, rfl⟩ := hrel
    by_cases hlt : k < m
    · obtain ⟨A1, c1, e1, r1⟩ := HCA.out k (by omega)
      replace e1 := (HB1.out.cell (p := ⟨ba, oa + k, none⟩) hba).trans e1
      clear r1
      rcases HL.out k hlt with h0 | h0
      · rw [h0] at e1
        go_wp2
        go_roundw
        case rel => exact ⟨k + 1, by omega, by go_num, by first | trivial | rfl⟩
        case measure => simp [intOf]; omega
      · rw [h0] at e1
        have q1 : decide (0 < (n : Int)) = true := by simp; omega
        have q2 : decide (384 < (n : Int)) = false := by simp; omega
        go_wp2
        go_roundw
        case rel => exact ⟨k + 1, by omega, by go_num, by first | trivial | rfl⟩
        case measure => simp [intOf]; omega
    · obtain ⟨W1, rfl⟩ : ∃ W1 : World, W1 = wr := ⟨_, rfl⟩
      obtain rfl : m = k := by omega
      go_wp2
      go_loopw [9] (fun i wr => ∃ k : Nat, k ≤ i0 ∧ i = .int .i64 k ∧ Below W1.heap.size W1 wr) (fun i _ => i0 - (intOf i).toNat)
      case atStart => exact ⟨0, Nat.zero_le _, rfl, Below.refl _ _⟩
      case round =>
        obtain ⟨k, hki, rfl, hbr⟩ := hrel
        have HBR := Lib.hid hbr
        have hzr := hbr.size
        have hz1 := HB1.out.size
        by_cases hkm : k < m
        · obtain ⟨A1, c1, e1, r1⟩ := HCA.out k hkm
          obtain ⟨A2, c2, e2, r2⟩ := HCB.out k hkm
          replace e1 := (hbr.cell (p := ⟨ba, oa + k, none⟩) (by show ba < W1.heap.size; omega)).trans ((HB1.out.cell (p := ⟨ba, oa + k, none⟩) hba).trans e1)
          replace e2 := (hbr.cell (p := ⟨bb, ob + k, none⟩) (by show bb < W1.heap.size; omega)).trans ((HB1.out.cell (p := ⟨bb, ob + k, none⟩) hbb).trans e2)
          have R2 := (r2.below (HB1.out.mono (Nat.le_refl _))).below hbr
          have hzk := HZL.out k hkm
          have hlk := HL.out k hkm
          have HINC := Lib.hid (fun W (hG : Gr wr W) => rIncreasing_any A2 (Z.getD k []).length c2 (Z.getD k []) (((P.getD k []).length : Nat) : Int) 0 W (R2.below hG) (by omega) (by omega) (Int.le_refl 0))
          clear r1 r2 R2 hbr
          by_cases hlt : k < i0
          · have hik := HI.out k hlt
            rw [hik] at HINC
            generalize (P.getD k []).length = q at *
            generalize (Z.getD k []).length = lq at *
            clear hik
            have lb1 : ba < wr.heap.size := by omega
            have lb2 : bb < wr.heap.size := by omega
            go_wp2
            apply wp_region_mid2 (α := Nat) (β := Unit) (fun z u W => Below wr.heap.size wr W ∧ Has W z 0 0)
            case h =>
              intro QQ HQ
              obtain ⟨u, _⟩ : ∃ u : Unit, True := ⟨(), trivial⟩
              have hx1 := fun z (hz : Gr wr z) x => cell_extz hz lb1 e1 x
              have hx2 := fun z (hz : Gr wr z) x => cell_extz hz lb2 e2 x
              (refine wp_region_tree [0, 1, 2, 3, 4, 5, 6, 7, 8, 9, 10] [11] 11 (by kernel_rfl) (by kernel_rfl) (by kernel_rfl) ?_; intro V1 g1)
              have n1 : wr.heap.size ≤ V1.heap.size := g1.size
              (apply tree_quiet [0, 1, 2, 3, 4, 5, 6, 7, 8] (r := 2) (by kernel_rfl) (by kernel_rfl) (by kernel_rfl) (by kernel_rfl); (case hq => (intro z hz; simp only [pick, List.getElem?_cons_succ, List.getElem?_cons_zero]; ((have hx1 := hx1 z (g1.trans hz); have hx2 := hx2 z (g1.trans hz))); (repeat (go_big_quiet_step ((fail)))); refine wpQuiet_nil ?_; exact rfl)); (case' h => intro V2 g2))
              have n2 : V1.heap.size ≤ V2.heap.size := g2.size
              (refine tree_two 9 10 rfl rfl (by kernel_rfl) ?_ ?_)
              · skip
                go_wp2_with (go_at_call 33; refine (HINC.out _ (g1.trans g2)).mono ?_; rintro e V3 ⟨rfl, g3⟩)
                refine ⟨g3, fun V4 g4 => ?_⟩
                have n3 : V2.heap.size ≤ V3.heap.size := g3.size
                have n4 : V3.heap.size ≤ V4.heap.size := g4.size
                replace g3 : Gr V2 V3 := g3
                (refine tree_one 10 rfl (by kernel_rfl) ?_)
                go_wp2
                refine ⟨below_new _ _, fun V5 hZ => ?_⟩
                have Z := (Has.new V4 0 0 24).below hZ
                have g5 : Gr V4 V5 := Bw.step (below_new _ (fltC 0 0)) hZ
                have nz : V4.heap.size < V5.heap.size := Z.1
                clear hZ
                generalize V4.heap.size = z at *
                skip
                obtain ⟨lz, z0, z1, y0, y1⟩ := id Z
                (refine tree_end (by kernel_rfl) ?_; simp only [pick, List.getElem?_cons_succ, List.getElem?_cons_zero])
                go_wp2
                exact HQ.out z u _ ⟨Bw.set (Bw.set (g1.trans (g2.trans (g3.trans (g4.trans g5)))) (p := ⟨z, 0, none⟩) (by show wr.heap.size ≤ z; omega) _) (p := ⟨z, 1, none⟩) (by show wr.heap.size ≤ z; omega) _, Z.set2 0 0⟩
              · skip
                go_wp2
                refine ⟨below_new _ _, fun V3 hZ => ?_⟩
                have Z := (Has.new V2 0 0 24).below hZ
                have g3 : Gr V2 V3 := Bw.step (below_new _ (fltC 0 0)) hZ
                have nz : V2.heap.size < V3.heap.size := Z.1
                clear hZ
                generalize V2.heap.size = z at *
                (refine tree_one 9 rfl (by kernel_rfl) ?_)
                go_wp2_with (go_at_call 33; refine (HINC.out _ (g1.trans (g2.trans g3))).mono ?_; rintro e V4 ⟨rfl, g4⟩)
                refine ⟨g4, fun V5 g5 => ?_⟩
                have n4 : V3.heap.size ≤ V4.heap.size := g4.size
                have n5 : V4.heap.size ≤ V5.heap.size := g5.size
                replace g4 : Gr V3 V4 := g4
                have Z := Z.below (g4.trans g5)
                obtain ⟨lz, z0, z1, y0, y1⟩ := id Z
                (refine tree_end (by kernel_rfl) ?_; simp only [pick, List.getElem?_cons_succ, List.getElem?_cons_zero])
                go_wp2
                exact HQ.out z u _ ⟨Bw.set (Bw.set (g1.trans (g2.trans (g3.trans (g4.trans g5)))) (p := ⟨z, 0, none⟩) (by show wr.heap.size ≤ z; omega) _) (p := ⟨z, 1, none⟩) (by show wr.heap.size ≤ z; omega) _, Z.set2 0 0⟩
            case h2 =>
              intro z u W hWO
              obtain ⟨hW, hZ⟩ := hWO
              obtain ⟨lz, z0, z1, y0, y1⟩ := id hZ
              have HBW := Lib.hid (HBR.out.trans (hW.mono hzr))
              clear hW hZ
              go_wp2
              go_roundw
              case rel => first | exact ⟨k + 1, by omega, by go_num, HBW.out⟩ | ((repeat apply Exists.intro); exact ⟨⟨k + 1, by omega, by go_num, HBW.out⟩, rfl⟩)
              case measure => simp [intOf]; omega
          · obtain rfl : i0 = k := by omega
            obtain ⟨h9, _⟩ | ⟨_, hC, hC0, rfl⟩ := HEND.out
            · omega
            rw [hC] at HINC
            have xC : (C == 0) = false := by rw [beq_eq_false_iff_ne]; exact hC0
            generalize (incF (Z.getD i0 []) (((P.getD i0 []).length : Nat) : Int) 0).2 = F at *
            generalize (P.getD i0 []).length = q at *
            generalize (Z.getD i0 []).length = lq at *
            clear hC hC0
            have lb1 : ba < wr.heap.size := by omega
            have lb2 : bb < wr.heap.size := by omega
            have HFR := Lib.hid (HF1.out.below HBR.out)
            have HB1R := Lib.hid (Bw.step HB1.out HBR.out)
            go_wp2
            apply wp_region_mid2 (α := Nat) (β := Unit) (fun z u W => Below wr.heap.size wr W ∧ Has W z C F)
            case h =>
              intro QQ HQ
              obtain ⟨u, _⟩ : ∃ u : Unit, True := ⟨(), trivial⟩
              have hx1 := fun z (hz : Gr wr z) x => cell_extz hz lb1 e1 x
              have hx2 := fun z (hz : Gr wr z) x => cell_extz hz lb2 e2 x
              (refine wp_region_tree [0, 1, 2, 3, 4, 5, 6, 7, 8, 9, 10] [11] 11 (by kernel_rfl) (by kernel_rfl) (by kernel_rfl) ?_; intro V1 g1)
              have n1 : wr.heap.size ≤ V1.heap.size := g1.size
              (apply tree_quiet [0, 1, 2, 3, 4, 5, 6, 7, 8] (r := 2) (by kernel_rfl) (by kernel_rfl) (by kernel_rfl) (by kernel_rfl); (case hq => (intro z hz; simp only [pick, List.getElem?_cons_succ, List.getElem?_cons_zero]; ((have hx1 := hx1 z (g1.trans hz); have hx2 := hx2 z (g1.trans hz))); (repeat (go_big_quiet_step ((fail)))); refine wpQuiet_nil ?_; exact rfl)); (case' h => intro V2 g2))
              have n2 : V1.heap.size ≤ V2.heap.size := g2.size
              (refine tree_two 9 10 rfl rfl (by kernel_rfl) ?_ ?_)
              · skip
                go_wp2_with (go_at_call 33; refine (HINC.out _ (g1.trans g2)).mono ?_; rintro e V3 ⟨rfl, g3⟩)
                refine ⟨g3, fun V4 g4 => ?_⟩
                have n3 : V2.heap.size ≤ V3.heap.size := g3.size
                have n4 : V3.heap.size ≤ V4.heap.size := g4.size
                replace g3 : Gr V2 V3 := g3
                (refine tree_one 10 rfl (by kernel_rfl) ?_)
                go_wp2
                refine ⟨below_new _ _, fun V5 hZ => ?_⟩
                have Z := (Has.new V4 0 0 24).below hZ
                have g5 : Gr V4 V5 := Bw.step (below_new _ (fltC 0 0)) hZ
                have nz : V4.heap.size < V5.heap.size := Z.1
                clear hZ
                generalize V4.heap.size = z at *
                skip
                obtain ⟨lz, z0, z1, y0, y1⟩ := id Z
                (refine tree_end (by kernel_rfl) ?_; simp only [pick, List.getElem?_cons_succ, List.getElem?_cons_zero])
                go_wp2
                exact HQ.out z u _ ⟨Bw.set (Bw.set (g1.trans (g2.trans (g3.trans (g4.trans g5)))) (p := ⟨z, 0, none⟩) (by show wr.heap.size ≤ z; omega) _) (p := ⟨z, 1, none⟩) (by show wr.heap.size ≤ z; omega) _, Z.set2 C F⟩
              · skip
                go_wp2
                refine ⟨below_new _ _, fun V3 hZ => ?_⟩
                have Z := (Has.new V2 0 0 24).below hZ
                have g3 : Gr V2 V3 := Bw.step (below_new _ (fltC 0 0)) hZ
                have nz : V2.heap.size < V3.heap.size := Z.1
                clear hZ
                generalize V2.heap.size = z at *
                (refine tree_one 9 rfl (by kernel_rfl) ?_)
                go_wp2_with (go_at_call 33; refine (HINC.out _ (g1.trans (g2.trans g3))).mono ?_; rintro e V4 ⟨rfl, g4⟩)
                refine ⟨g4, fun V5 g5 => ?_⟩
                have n4 : V3.heap.size ≤ V4.heap.size := g4.size
                have n5 : V4.heap.size ≤ V5.heap.size := g5.size
                replace g4 : Gr V3 V4 := g4
                have Z := Z.below (g4.trans g5)
                obtain ⟨lz, z0, z1, y0, y1⟩ := id Z
                (refine tree_end (by kernel_rfl) ?_; simp only [pick, List.getElem?_cons_succ, List.getElem?_cons_zero])
                go_wp2
                exact HQ.out z u _ ⟨Bw.set (Bw.set (g1.trans (g2.trans (g3.trans (g4.trans g5)))) (p := ⟨z, 0, none⟩) (by show wr.heap.size ≤ z; omega) _) (p := ⟨z, 1, none⟩) (by show wr.heap.size ≤ z; omega) _, Z.set2 C F⟩
            case h2 =>
              intro z u W hWO
              obtain ⟨hW, hZ⟩ := hWO
              obtain ⟨lz, z0, z1, y0, y1⟩ := id hZ
              have HFW := Lib.hid (HFR.out.below hW)
              have HBW := Lib.hid (Bw.step HB1R.out hW)
              clear hW hZ
              obtain ⟨l0, c00, c01, f00, f01⟩ := id HFW.out
              go_wp2_with (go_at_call 27; refine (refAt_any _ _ _).mono ?_; rintro e w' ⟨rfl, rfl⟩)
              exact bodyPost_ret (resF1 rfl rfl ((HFW.out.set2 C i0).al _)) rfl ⟨rfl, Bw.al ((HBW.out.setCell (p := ⟨w.heap.size, 0, none⟩) (Nat.le_refl _) _).setCell (p := ⟨w.heap.size, 1, none⟩) (Nat.le_refl _) _) _⟩
        · have hkk : m = k := by omega
          have hCI : C = 0 ∧ I = 0 := by
            rcases HEND.out with ⟨_, h⟩ | ⟨h, _⟩
            · exact h
            · omega
          obtain ⟨rfl, rfl⟩ := hCI
          have HFW := Lib.hid (HF1.out.below HBR.out)
          have HBW := Lib.hid (Bw.step HB1.out HBR.out)
          subst hkk
          obtain ⟨l0, c00, c01, f00, f01⟩ := id HFW.out
          clear hbr
          go_wp2_with (go_at_call 27; refine (refAt_any _ _ _).mono ?_; rintro e w' ⟨rfl, rfl⟩)
          exact bodyPost_ret (resF1 rfl rfl ((HFW.out.set2 0 0).al _)) rfl ⟨rfl, Bw.al ((HBW.out.setCell (p := ⟨w.heap.size, 0, none⟩) (Nat.le_refl _) _).setCell (p := ⟨w.heap.size, 1, none⟩) (Nat.le_refl _) _) _⟩
end Go.Proofs.Ytcinfkmekkdhfaa
