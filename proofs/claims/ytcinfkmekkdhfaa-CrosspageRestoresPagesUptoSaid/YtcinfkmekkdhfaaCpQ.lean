/- Cross pages: check, where a list of lost positions does not fit. -/
import Derived.Test.YtcinfkmekkdhfaaCpP
namespace Go.Proofs.Ytcinfkmekkdhfaa
open Go.RowKit Go.Shelf
set_option linter.unusedVariables false
attribute [local go_sem] Oper.semAt_some

/-- Good up to a position .. -/
def IncAt (l : List Int) (q k : Nat) : Prop := 0 ≤ l.getD k 0 ∧ l.getD k 0 < q ∧ (0 < k → l.getD (k - 1) 0 < l.getD k 0)
/-- .. where it is bad in this way. -/
def IncBad (l : List Int) (q k : Nat) (code : Int) : Prop := (code = 4 ∧ ¬ (0 ≤ l.getD k 0 ∧ l.getD k 0 < q)) ∨ (code = 11 ∧ 0 ≤ l.getD k 0 ∧ l.getD k 0 < q ∧ 0 < k ∧ l.getD k 0 ≤ l.getD (k - 1) 0)
set_option maxRecDepth 100000 in
set_option maxHeartbeats 4000000 in
theorem cpCheck_b7 (A B : Option Addr) (m c c' p n b i0 t0 : Nat) (code : Int) (P : List (List GF)) (Z : List (List Int)) (w : World) (hP : RdM w A m P) (hZ : RdMI w B m Z) (hg : PgsOk P m p n b) (hi0 : i0 < m) (hi : ∀ i, i < i0 → IncOk (Z.getD i []) (P.getD i []).length)
    (ht0 : t0 < (Z.getD i0 []).length) (hz : t0 ≤ 1099511627776) (ht : ∀ t, t < t0 → IncAt (Z.getD i0 []) (P.getD i0 []).length t) (hc : IncBad (Z.getD i0 []) (P.getD i0 []).length t0 code) :
    Calls Try.prog 29 #[.slice A m c, .slice B m c', .int .i64 p] w (ChkBad w code i0) := by
  obtain ⟨hp, h1, h2, hb, hn, hn1, hn2, hbad, hl⟩ := hg
  have hPm : P.length = m := hP.1
  obtain ⟨ba, oa, rfl, hba, hca⟩ := hP.2 (by omega)
  obtain ⟨bb, ob, rfl, hbb, hcb⟩ := hZ.2 (by omega)
  have HP := Lib.hid hP
  have HCA := Lib.hid hca
  have HCB := Lib.hid hcb
  have HBAD := Lib.hid hbad
  have HL := Lib.hid hl
  have HN := Lib.hid hn
  have HI := Lib.hid hi
  have HT := Lib.hid ht
  have HC := Lib.hid hc
  clear hP hZ hca hcb hbad hl hi hn ht hc
  have d1 : decide ((m : Int) < (p : Int) + 1) = false := by simp; omega
  have d2 : decide (48 + (p : Int) < m) = false := by simp; omega
  go_enter Try.func29, Try.ntmps29
  have hF0 := Has.new w 0 0 24
  have hm0 : (m : Int) ≤ 64 := by omega
  obtain ⟨Ab, cb, hcb1, _⟩ := HCA.out b hb
  rw [HN.out] at hcb1
  go_wp2_with (go_at_call 45; refine (firstPage_hit _ _ _ b P _ (HP.out.below (below_new _ _)) (by omega) hb (by rw [HN.out]; exact hn1) HBAD.out).mono ?_; rintro e w' ⟨rfl, hb2⟩; have B1 := Bw.step (below_new w (.cells #[.int .i64 0, .int .i64 0] 24)) hb2; have hcb2 := (B1.cell (p := ⟨ba, oa + b, none⟩) hba).trans hcb1; have F1 := hF0.below hb2; clear hb2 hF0)
  have HB1 := Lib.hid B1
  have HF1 := Lib.hid F1
  clear B1 F1 hcb2 hcb1
  obtain ⟨W1, rfl⟩ : ∃ W1 : World, W1 = w' := ⟨_, rfl⟩
  go_loopw [50] (fun i wr => ∃ k : Nat, k ≤ m ∧ i = .int .i64 k ∧ wr = W1) (fun i _ => m - (intOf i).toNat)
  case atStart => exact ⟨0, Nat.zero_le _, rfl, rfl⟩
  case round =>
    obtain ⟨k, hk, rfl, rfl⟩ := hrel
    by_cases hlt : k < m
    · obtain ⟨A1, c1, e1, r1⟩ := HCA.out k hlt
      replace e1 := (HB1.out.cell (p := ⟨ba, oa + k, none⟩) hba).trans e1
      clear r1
      rcases HL.out k hlt with h0 | h0
      · rw [h0] at e1
        go_wp2
        go_roundw
        case rel => exact ⟨k + 1, by omega, by go_num, by first | trivial | rfl⟩
        case measure => simp [intOf]; omega
      · rw [h0] at e1
        have q1 : decide (0 < (n : Int)) = true := by simp; omega
        have q2 : decide (384 < (n : Int)) = false := by simp; omega
        go_wp2
        go_roundw
        case rel => exact ⟨k + 1, by omega, by go_num, by first | trivial | rfl⟩
        case measure => simp [intOf]; omega
    · obtain rfl : m = k := by omega
      go_wp2
      obtain ⟨W1, rfl⟩ : ∃ W1 : World, W1 = wr := ⟨_, rfl⟩
      go_loopw [80] (fun i wr => ∃ k : Nat, k ≤ i0 ∧ i = .int .i64 k ∧ wr = W1) (fun i _ => i0 - (intOf i).toNat)
      case atStart => exact ⟨0, Nat.zero_le _, rfl, rfl⟩
      case round =>
        obtain ⟨k, hk, rfl, rfl⟩ := hrel
        by_cases hlt : k < i0
        · obtain ⟨A1, c1, e1, r1⟩ := HCA.out k (by omega)
          replace e1 := (HB1.out.cell (p := ⟨ba, oa + k, none⟩) hba).trans e1
          obtain ⟨A2, c2, e2, r2⟩ := HCB.out k (by omega)
          replace e2 := (HB1.out.cell (p := ⟨bb, ob + k, none⟩) hbb).trans e2
          have R2 := Lib.hid (r2.below HB1.out)
          have HIK := Lib.hid (HI.out k hlt)
          have hq : (P.getD k []).length ≤ 384 := by rcases HL.out k (by omega) with h | h <;> omega
          clear r1 r2
          generalize Z.getD k [] = lz at *
          generalize (P.getD k []).length = q at *
          have hlz : lz.length ≤ 384 := by
            by_cases hz : lz.length = 0
            · omega
            · have mono : ∀ t, t < lz.length → (t : Int) ≤ lz.getD t 0 := fun t => by
                induction t with
                | zero => intro ht; exact (HIK.out 0 ht).1
                | succ t ih =>
                  intro ht
                  have h1 := ih (by omega)
                  have h2 := (HIK.out (t + 1) ht).2.2 (Nat.succ_pos t)
                  rw [Nat.add_sub_cancel] at h2
                  omega
              have h1 := mono (lz.length - 1) (by omega)
              have h2 := (HIK.out (lz.length - 1) (by omega)).2.1
              omega
          go_wp2
          obtain ⟨W1, rfl⟩ : ∃ W1 : World, W1 = wr := ⟨_, rfl⟩
          go_loopw [87] (fun i wr => ∃ t : Nat, t ≤ lz.length ∧ i = .int .i64 t ∧ wr = W1) (fun i _ => lz.length - (intOf i).toNat)
          case atStart => exact ⟨0, Nat.zero_le _, rfl, rfl⟩
          case round =>
            obtain ⟨t, ht, rfl, rfl⟩ := hrel
            by_cases htl : t < lz.length
            · obtain ⟨g1, g2, g3⟩ := HIK.out t htl
              obtain ⟨bz, oz, rfl, hbz, hcz⟩ := R2.out.2 (by omega)
              have z1 := hcz t htl
              have d3 : decide (lz.getD t 0 < 0) = false := by simp only [decide_eq_false_iff_not]; omega
              have d4 : decide ((q : Int) ≤ lz.getD t 0) = false := by simp only [decide_eq_false_iff_not]; omega
              by_cases t0 : t = 0
              · have d6 : decide (0 < t) = false := by simp only [decide_eq_false_iff_not]; omega
                clear g1 g2 g3 hcz t0
                generalize lz.getD t 0 = y1 at *
                go_wp2
                go_roundw
                case rel => exact ⟨t + 1, by omega, by go_num, by first | trivial | rfl⟩
                case measure => simp [intOf]; omega
              · obtain ⟨t', et⟩ : ∃ t', t' + 1 = t := ⟨t - 1, by omega⟩
                have z2 := hcz t' (by omega)
                have d5 : decide (lz.getD t 0 ≤ lz.getD t' 0) = false := by
                  have h5 := g3 (by omega)
                  rw [show t - 1 = t' by omega] at h5
                  simp only [decide_eq_false_iff_not]; omega
                have ez : (t : Int) - 1 = (t' : Int) := by omega
                have d6 : decide (0 < t) = true := by simp only [decide_eq_true_eq]; omega
                have d7 : t' < lz.length := by omega
                clear g1 g2 g3 hcz et t0
                generalize lz.getD t 0 = y1 at *
                generalize lz.getD t' 0 = y2 at *
                go_wp2
                go_roundw
                case rel => exact ⟨t + 1, by omega, by go_num, by first | trivial | rfl⟩
                case measure => simp [intOf]; omega
            · obtain rfl : lz.length = t := by omega
              go_wp2
              go_roundw
              case rel => exact ⟨k + 1, by omega, by go_num, by first | trivial | rfl⟩
              case measure => simp [intOf]; omega
        · obtain rfl : i0 = k := by omega
          obtain ⟨A1, c1, e1, r1⟩ := HCA.out i0 hi0
          replace e1 := (HB1.out.cell (p := ⟨ba, oa + i0, none⟩) hba).trans e1
          obtain ⟨A2, c2, e2, r2⟩ := HCB.out i0 hi0
          replace e2 := (HB1.out.cell (p := ⟨bb, ob + i0, none⟩) hbb).trans e2
          have R2 := Lib.hid (r2.below HB1.out)
          have hq : (P.getD i0 []).length ≤ 384 := by rcases HL.out i0 hi0 with h | h <;> omega
          clear r1 r2
          generalize Z.getD i0 [] = lz at *
          generalize (P.getD i0 []).length = q at *
          go_wp2
          obtain ⟨W1, rfl⟩ : ∃ W1 : World, W1 = wr := ⟨_, rfl⟩
          go_loopw [87] (fun i wr => ∃ t : Nat, t ≤ t0 ∧ i = .int .i64 t ∧ wr = W1) (fun i _ => t0 - (intOf i).toNat)
          case atStart => exact ⟨0, Nat.zero_le _, rfl, rfl⟩
          case round =>
            obtain ⟨t, ht, rfl, rfl⟩ := hrel
            have htl : t < lz.length := by omega
            obtain ⟨bz, oz, rfl, hbz, hcz⟩ := R2.out.2 (by omega)
            have z1 := hcz t htl
            by_cases hlt2 : t < t0
            · obtain ⟨g1, g2, g3⟩ := HT.out t hlt2
              have d3 : decide (lz.getD t 0 < 0) = false := by simp only [decide_eq_false_iff_not]; omega
              have d4 : decide ((q : Int) ≤ lz.getD t 0) = false := by simp only [decide_eq_false_iff_not]; omega
              by_cases t0z : t = 0
              · have d6 : decide (0 < t) = false := by simp only [decide_eq_false_iff_not]; omega
                clear g1 g2 g3 hcz t0z
                generalize lz.getD t 0 = y1 at *
                go_wp2
                go_roundw
                case rel => exact ⟨t + 1, by omega, by go_num, by first | trivial | rfl⟩
                case measure => simp [intOf]; omega
              · obtain ⟨t', et⟩ : ∃ t', t' + 1 = t := ⟨t - 1, by omega⟩
                have z2 := hcz t' (by omega)
                have d5 : decide (lz.getD t 0 ≤ lz.getD t' 0) = false := by
                  have h5 := g3 (by omega)
                  rw [show t - 1 = t' by omega] at h5
                  simp only [decide_eq_false_iff_not]; omega
                have ez : (t : Int) - 1 = (t' : Int) := by omega
                have d6 : decide (0 < t) = true := by simp only [decide_eq_true_eq]; omega
                have d7 : t' < lz.length := by omega
                clear g1 g2 g3 hcz et t0z
                generalize lz.getD t 0 = y1 at *
                generalize lz.getD t' 0 = y2 at *
                go_wp2
                go_roundw
                case rel => exact ⟨t + 1, by omega, by go_num, by first | trivial | rfl⟩
                case measure => simp [intOf]; omega
            · obtain rfl : t0 = t := by omega
              obtain ⟨l0, c00, c01, f00, f01⟩ := id HF1.out
              have hbd := HC.out
              unfold IncBad at hbd
              rcases hbd with ⟨rfl, hb4⟩ | ⟨rfl, g1, g2, g3, g4⟩
              · clear hcz
                generalize lz.getD t0 0 = y1 at *
                by_cases y0 : y1 < 0
                · have d3 : decide (y1 < 0) = true := by simp only [decide_eq_true_eq]; omega
                  clear hb4
                  go_wp2_with (go_at_call 23; refine (cpFault_any _ _ _).mono ?_; rintro e w' ⟨rfl, rfl⟩)
                  exact bodyPost_ret (resF2 rfl rfl ((HF1.out.set2 4 i0).al _)) rfl ⟨rfl, Bw.al ((HB1.out.setCell (p := ⟨w.heap.size, 0, none⟩) (Nat.le_refl _) _).setCell (p := ⟨w.heap.size, 1, none⟩) (Nat.le_refl _) _) _⟩
                · have d3 : decide (y1 < 0) = false := by simp only [decide_eq_false_iff_not]; omega
                  have d4 : decide ((q : Int) ≤ y1) = true := by simp only [decide_eq_true_eq]; omega
                  clear hb4
                  go_wp2_with (go_at_call 23; refine (cpFault_any _ _ _).mono ?_; rintro e w' ⟨rfl, rfl⟩)
                  exact bodyPost_ret (resF2 rfl rfl ((HF1.out.set2 4 i0).al _)) rfl ⟨rfl, Bw.al ((HB1.out.setCell (p := ⟨w.heap.size, 0, none⟩) (Nat.le_refl _) _).setCell (p := ⟨w.heap.size, 1, none⟩) (Nat.le_refl _) _) _⟩
              · have d3 : decide (lz.getD t0 0 < 0) = false := by simp only [decide_eq_false_iff_not]; omega
                have d4 : decide ((q : Int) ≤ lz.getD t0 0) = false := by simp only [decide_eq_false_iff_not]; omega
                obtain ⟨t', et⟩ : ∃ t', t' + 1 = t0 := ⟨t0 - 1, by omega⟩
                have z2 := hcz t' (by omega)
                have d5 : decide (lz.getD t0 0 ≤ lz.getD t' 0) = true := by
                  rw [show t0 - 1 = t' by omega] at g4
                  simp only [decide_eq_true_eq]; omega
                have ez : (t0 : Int) - 1 = (t' : Int) := by omega
                have d6 : decide (0 < t0) = true := by simp only [decide_eq_true_eq]; omega
                have d7 : t' < lz.length := by omega
                clear g1 g2 g3 g4 hcz et
                generalize lz.getD t0 0 = y1 at *
                generalize lz.getD t' 0 = y2 at *
                go_wp2_with (go_at_call 23; refine (cpFault_any _ _ _).mono ?_; rintro e w' ⟨rfl, rfl⟩)
                exact bodyPost_ret (resF2 rfl rfl ((HF1.out.set2 11 i0).al _)) rfl ⟨rfl, Bw.al ((HB1.out.setCell (p := ⟨w.heap.size, 0, none⟩) (Nat.le_refl _) _).setCell (p := ⟨w.heap.size, 1, none⟩) (Nat.le_refl _) _) _⟩
end Go.Proofs.Ytcinfkmekkdhfaa
