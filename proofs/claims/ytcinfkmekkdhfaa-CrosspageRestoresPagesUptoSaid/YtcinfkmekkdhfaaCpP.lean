/- Cross pages: check, where a page or the number of lists does not fit. -/
import Derived.Test.YtcinfkmekkdhfaaCpO
namespace Go.Proofs.Ytcinfkmekkdhfaa
open Go.RowKit Go.Shelf
set_option linter.unusedVariables false
attribute [local go_sem] Oper.semAt_some

set_option maxRecDepth 100000 in
set_option maxHeartbeats 4000000 in
theorem cpCheck_b5 (A B : Option Addr) (m c m' c' p n f b : Nat) (P : List (List GF)) (w : World) (hP : RdM w A m P) (hp : p ≤ 16) (h1 : p + 1 ≤ m) (h2 : m ≤ 48 + p) (hf : f < m) (hn : (P.getD f []).length = n) (hn1 : 1 ≤ n) (hbad : ∀ i, i < f → (P.getD i []).length = 0)
    (hb : b < m) (hgood : ∀ i, i < b → (P.getD i []).length = 0 ∨ ((P.getD i []).length = n ∧ n ≤ 384)) (hq0 : 0 < (P.getD b []).length) (hqb : 384 < (P.getD b []).length ∨ (P.getD b []).length ≠ n) (hqs : (P.getD b []).length ≤ 9223372036854775807) :
    Calls Try.prog 29 #[.slice A m c, .slice B m' c', .int .i64 p] w (ChkBad w 9 b) := by
  have hPm : P.length = m := hP.1
  obtain ⟨ba, oa, rfl, hba, hca⟩ := hP.2 (by omega)
  have HP := Lib.hid hP
  have HCA := Lib.hid hca
  have HBAD := Lib.hid hbad
  have HG := Lib.hid hgood
  have HN := Lib.hid hn
  have HQ := Lib.hid (And.intro hq0 (And.intro hqb hqs))
  clear hP hca hbad hgood hn hq0 hqb hqs
  have d1 : decide ((m : Int) < (p : Int) + 1) = false := by simp; omega
  have d2 : decide (48 + (p : Int) < m) = false := by simp; omega
  go_enter Try.func29, Try.ntmps29
  have hF0 := Has.new w 0 0 24
  have hm0 : (m : Int) ≤ 64 := by omega
  obtain ⟨Ab, cb, hcb1, _⟩ := HCA.out f hf
  rw [HN.out] at hcb1
  go_wp2_with (go_at_call 45; refine (firstPage_hit _ _ _ f P _ (HP.out.below (below_new _ _)) (by omega) hf (by rw [HN.out]; exact hn1) HBAD.out).mono ?_; rintro e w' ⟨rfl, hb2⟩; have B1 := Bw.step (below_new w (.cells #[.int .i64 0, .int .i64 0] 24)) hb2; have hcb2 := (B1.cell (p := ⟨ba, oa + f, none⟩) hba).trans hcb1; have F1 := hF0.below hb2; clear hb2 hF0)
  have HB1 := Lib.hid B1
  have HF1 := Lib.hid F1
  clear B1 F1 hcb2 hcb1
  obtain ⟨W1, rfl⟩ : ∃ W1 : World, W1 = w' := ⟨_, rfl⟩
  go_loopw [50] (fun i wr => ∃ k : Nat, k ≤ b ∧ i = .int .i64 k ∧ wr = W1) (fun i _ => b - (intOf i).toNat)
  case atStart => exact ⟨0, Nat.zero_le _, rfl, rfl⟩
  case round =>
    obtain ⟨k, hk, rfl, rfl⟩ := hrel
    obtain ⟨A1, c1, e1, r1⟩ := HCA.out k (by omega)
    replace e1 := (HB1.out.cell (p := ⟨ba, oa + k, none⟩) hba).trans e1
    clear r1
    by_cases hlt : k < b
    · rcases HG.out k hlt with h0 | ⟨h0, hn2⟩
      · rw [h0] at e1
        go_wp2
        go_roundw
        case rel => exact ⟨k + 1, by omega, by go_num, by first | trivial | rfl⟩
        case measure => simp [intOf]; omega
      · rw [h0] at e1
        have q1 : decide (0 < (n : Int)) = true := by simp; omega
        have q2 : decide (384 < (n : Int)) = false := by simp; omega
        go_wp2
        go_roundw
        case rel => exact ⟨k + 1, by omega, by go_num, by first | trivial | rfl⟩
        case measure => simp [intOf]; omega
    · obtain rfl : b = k := by omega
      obtain ⟨g1, g2, g3⟩ := HQ.out
      generalize (P.getD b []).length = q at *
      have q1 : decide (0 < (q : Int)) = true := by simp; omega
      obtain ⟨l0, c00, c01, f00, f01⟩ := id HF1.out
      by_cases q0 : 384 < q
      · have q2 : decide (384 < (q : Int)) = true := by simp; omega
        clear g2
        go_wp2_with (go_at_call 23; refine (cpFault_any _ _ _).mono ?_; rintro e w' ⟨rfl, rfl⟩)
        exact bodyPost_ret (resF2 rfl rfl ((HF1.out.set2 9 b).al _)) rfl ⟨rfl, Bw.al ((HB1.out.setCell (p := ⟨w.heap.size, 0, none⟩) (Nat.le_refl _) _).setCell (p := ⟨w.heap.size, 1, none⟩) (Nat.le_refl _) _) _⟩
      · have q2 : decide (384 < (q : Int)) = false := by simp; omega
        have q3 : ((q : Int) == (n : Int)) = false := by rw [beq_eq_false_iff_ne]; omega
        clear g2
        go_wp2_with (go_at_call 23; refine (cpFault_any _ _ _).mono ?_; rintro e w' ⟨rfl, rfl⟩)
        exact bodyPost_ret (resF2 rfl rfl ((HF1.out.set2 9 b).al _)) rfl ⟨rfl, Bw.al ((HB1.out.setCell (p := ⟨w.heap.size, 0, none⟩) (Nat.le_refl _) _).setCell (p := ⟨w.heap.size, 1, none⟩) (Nat.le_refl _) _) _⟩
set_option maxRecDepth 100000 in
set_option maxHeartbeats 4000000 in
theorem cpCheck_b6 (A B : Option Addr) (m c m' c' p n f : Nat) (P : List (List GF)) (w : World) (hP : RdM w A m P) (hg : PgsOk P m p n f) (hm' : m' ≠ m) :
    Calls Try.prog 29 #[.slice A m c, .slice B m' c', .int .i64 p] w (ChkBad w 9 (-2)) := by
  obtain ⟨hp, h1, h2, hf, hn, hn1, hn2, hbad, hl⟩ := hg
  have hPm : P.length = m := hP.1
  obtain ⟨ba, oa, rfl, hba, hca⟩ := hP.2 (by omega)
  have HP := Lib.hid hP
  have HCA := Lib.hid hca
  have HBAD := Lib.hid hbad
  have HL := Lib.hid hl
  have HN := Lib.hid hn
  clear hP hca hbad hl hn
  have d1 : decide ((m : Int) < (p : Int) + 1) = false := by simp; omega
  have d2 : decide (48 + (p : Int) < m) = false := by simp; omega
  have d3 : ((m' : Int) == (m : Int)) = false := by rw [beq_eq_false_iff_ne]; omega
  go_enter Try.func29, Try.ntmps29
  have hF0 := Has.new w 0 0 24
  have hm0 : (m : Int) ≤ 64 := by omega
  obtain ⟨Ab, cb, hcb1, _⟩ := HCA.out f hf
  rw [HN.out] at hcb1
  go_wp2_with (go_at_call 45; refine (firstPage_hit _ _ _ f P _ (HP.out.below (below_new _ _)) (by omega) hf (by rw [HN.out]; exact hn1) HBAD.out).mono ?_; rintro e w' ⟨rfl, hb2⟩; have B1 := Bw.step (below_new w (.cells #[.int .i64 0, .int .i64 0] 24)) hb2; have hcb2 := (B1.cell (p := ⟨ba, oa + f, none⟩) hba).trans hcb1; have F1 := hF0.below hb2; clear hb2 hF0)
  have HB1 := Lib.hid B1
  have HF1 := Lib.hid F1
  clear B1 F1 hcb2 hcb1
  obtain ⟨W1, rfl⟩ : ∃ W1 : World, W1 = w' := ⟨_, rfl⟩
  go_loopw [50] (fun i wr => ∃ k : Nat, k ≤ m ∧ i = .int .i64 k ∧ wr = W1) (fun i _ => m - (intOf i).toNat)
  case atStart => exact ⟨0, Nat.zero_le _, rfl, rfl⟩
  case round =>
    obtain ⟨k, hk, rfl, rfl⟩ := hrel
    by_cases hlt : k < m
    · obtain ⟨A1, c1, e1, r1⟩ := HCA.out k (by omega)
      replace e1 := (HB1.out.cell (p := ⟨ba, oa + k, none⟩) hba).trans e1
      clear r1
      rcases HL.out k hlt with h0 | h0
      · rw [h0] at e1
        go_wp2
        go_roundw
        case rel => exact ⟨k + 1, by omega, by go_num, by first | trivial | rfl⟩
        case measure => simp [intOf]; omega
      · rw [h0] at e1
        have q1 : decide (0 < (n : Int)) = true := by simp; omega
        have q2 : decide (384 < (n : Int)) = false := by simp; omega
        go_wp2
        go_roundw
        case rel => exact ⟨k + 1, by omega, by go_num, by first | trivial | rfl⟩
        case measure => simp [intOf]; omega
    · obtain rfl : m = k := by omega
      obtain ⟨l0, c00, c01, f00, f01⟩ := id HF1.out
      go_wp2_with (go_at_call 23; refine (cpFault_any _ _ _).mono ?_; rintro e w' ⟨rfl, rfl⟩)
      exact bodyPost_ret (resF2 rfl rfl ((HF1.out.set2 9 (-2)).al _)) rfl ⟨rfl, Bw.al ((HB1.out.setCell (p := ⟨w.heap.size, 0, none⟩) (Nat.le_refl _) _).setCell (p := ⟨w.heap.size, 1, none⟩) (Nat.le_refl _) _) _⟩
end Go.Proofs.Ytcinfkmekkdhfaa
