/- Cross pages: the reference's faults of Restore: pages and lists. -/
import Derived.Test.YtcinfkmekkdhfaaCpS
namespace Go.Proofs.Ytcinfkmekkdhfaa
open Go.RowKit Go.Shelf
set_option linter.unusedVariables false
attribute [local go_sem] Oper.semAt_some

set_option maxRecDepth 100000 in
set_option maxHeartbeats 4000000 in
theorem rRes_b6 (A B : Option Addr) (m c m' c' p n f : Nat) (P : List (List GF)) (w : World) (hP : RdM w A m P) (hg : PgsOk P m p n f) (hm' : m' ≠ m) :
    Calls Try.prog 15 #[.slice A m c, .slice B m' c', .int .i64 p] w (AggF w 9 (-2)) := by
  obtain ⟨hp, h1, h2, hf, hn, hn1, hn2, hbad, hl⟩ := hg
  obtain ⟨ba, oa, rfl, hba, hca⟩ := hP.2 (by omega)
  have HP := Lib.hid hP
  have HCA := Lib.hid hca
  have HBAD := Lib.hid hbad
  have HL := Lib.hid hl
  have HN := Lib.hid hn
  clear hP hca hbad hl hn
  have hi1 : inB p 0 16 = true := inB_t (by omega)
  have d1 : decide ((m : Int) ≤ (p : Int)) = false := by simp only [decide_eq_false_iff_not]; omega
  have d2 : decide (48 + (p : Int) < m) = false := by simp only [decide_eq_false_iff_not]; omega
  have d3 : ((m' : Int) == (m : Int)) = false := by rw [beq_eq_false_iff_ne]; omega
  have d4 : ((n : Int) == 0) = false := by rw [beq_eq_false_iff_ne]; omega
  have hF0 := Has.new w 0 0 24
  go_enter Try.func15, Try.ntmps15
  go_wp2_with (first | (go_at_call 26; refine (refIn_any _ _ _ _).mono ?_; rintro e w' ⟨rfl, rfl⟩) | (go_at_call 21; refine (pageSize_hit _ _ _ f P _ (HP.out.below (below_new _ _)) (by omega) hf (by rw [HN.out]; exact hn1) HBAD.out).mono ?_; rw [HN.out]; rintro e w' ⟨rfl, hb2⟩; have B1 := Bw.step (below_new w (.cells #[.int .i64 0, .int .i64 0] 24)) hb2; have F1 := hF0.below hb2; clear hb2 hF0))
  have HB1 := Lib.hid B1
  have HF1 := Lib.hid F1
  clear B1 F1
  obtain ⟨W1, rfl⟩ : ∃ W1 : World, W1 = w' := ⟨_, rfl⟩
  go_loopw [8] (fun i wr => ∃ k : Nat, k ≤ m ∧ i = .int .i64 k ∧ wr = W1) (fun i _ => m - (intOf i).toNat)
  case atStart => exact ⟨0, Nat.zero_le _, rfl, rfl⟩
  case round =>
    obtain ⟨k, hk, rfl, rfl⟩ := hrel
    by_cases hlt : k < m
    · obtain ⟨A1, c1, e1, r1⟩ := HCA.out k (by omega)
      replace e1 := (HB1.out.cell (p := ⟨ba, oa + k, none⟩) hba).trans e1
      clear r1
      rcases HL.out k hlt with h0 | h0
      · rw [h0] at e1
        go_wp2
        go_roundw
        case rel => exact ⟨k + 1, by omega, by go_num, by first | trivial | rfl⟩
        case measure => simp [intOf]; omega
      · rw [h0] at e1
        have q1 : decide (0 < (n : Int)) = true := by simp; omega
        have q2 : decide (384 < (n : Int)) = false := by simp; omega
        go_wp2
        go_roundw
        case rel => exact ⟨k + 1, by omega, by go_num, by first | trivial | rfl⟩
        case measure => simp [intOf]; omega
    · obtain rfl : m = k := by omega
      obtain ⟨l0, c00, c01, f00, f01⟩ := id HF1.out
      go_wp2_with (go_at_call 27; refine (refAt_any _ _ _).mono ?_; rintro e w' ⟨rfl, rfl⟩)
      exact bodyPost_ret (resF1 rfl rfl ((HF1.out.set2 9 (-2)).al _)) rfl ⟨rfl, Bw.al ((HB1.out.setCell (p := ⟨w.heap.size, 0, none⟩) (Nat.le_refl _) _).setCell (p := ⟨w.heap.size, 1, none⟩) (Nat.le_refl _) _) _⟩
end Go.Proofs.Ytcinfkmekkdhfaa
