/- Walks of rs.Encode where it fails; of the reference's WordFault, DataFault, Increasing, Has. -/
import Derived.Test.YtpkaaiefnabfbabRsH
namespace Go.Proofs.Ytpkaaiefnabfbab
open Go.RowKit
set_option linter.unusedVariables false

set_option maxHeartbeats 1000000 in
theorem Encode_bad (A : Option Addr) (n c : Nat) (p : Int) (w : World) (hn : n ≤ 9223372036854775807) (hp : -9223372036854775808 ≤ p ∧ p ≤ 9223372036854775807) (hbad : dF n p ≠ (0, 0)) :
    Calls Try.prog 13 #[.slice A n c, .int .i64 p] w fun e w' => e = .returned (.tuple #[.slice none 0 0, .agg #[.int .i64 (dF n p).1, .int .i64 (dF n p).2]]) ∧ Below w.heap.size w w' := by
  rcases dF_cases n p with ⟨q, _, _, _, _, h⟩ | ⟨h1, h⟩ | ⟨h1, h2, h⟩
  · exact absurd h hbad
  · rw [h]
    clear h hbad
    rcases Int.lt_or_le p 0 with h | h
    all_goals
      first
        | (have d1 : decide (p < 0) = true := by simp only [decide_eq_true_eq]; omega)
        | (have d1 : decide (p < 0) = false := by simp only [decide_eq_false_iff_not]; omega
           have d2 : 32 < p := by omega)
      go_enter Try.func13, Try.ntmps13
      go_wp2_with fail
      refine (rsFault_any _ _ _).mono ?_; rintro e w1 ⟨rfl, rfl⟩
      go_wp2
      exact bodyPost_ret (resF2 rfl rfl ((Has.new w 4 (-2) _).al _)) rfl ⟨rfl, Bw.al (below_new w _) _⟩
  · rw [h]
    clear h hbad
    have d1 : decide (p < 0) = false := by simp only [decide_eq_false_iff_not]; omega
    rcases Nat.eq_zero_or_pos n with h | h
    all_goals
      first
        | (have d2 : ((n : Int) == 0) = true := by rw [beq_iff_eq]; omega
           clear h)
        | (have d2 : ((n : Int) == 0) = false := by rw [beq_eq_false_iff_ne]; omega
           have d3 : 255 - p < n := by omega)
      go_enter Try.func13, Try.ntmps13
      go_wp2_with fail
      refine (rsFault_any _ _ _).mono ?_; rintro e w1 ⟨rfl, rfl⟩
      go_wp2
      exact bodyPost_ret (resF2 rfl rfl ((Has.new w 9 (-1) _).al _)) rfl ⟨rfl, Bw.al (below_new w _) _⟩
theorem inT' {n lo hi : Int} (h : lo ≤ n ∧ n ≤ hi) : inB n lo hi = true := by unfold inB; simp only [decide_eq_true_eq]; exact h
theorem inF' {n lo hi : Int} (h : ¬ (lo ≤ n ∧ n ≤ hi)) : inB n lo hi = false := by unfold inB; simp only [decide_eq_false_iff_not]; exact h
set_option maxHeartbeats 1000000 in
theorem rWordFault_any (A : Option Addr) (n c : Nat) (p : Int) (w : World) (hn : n ≤ 9223372036854775807) (hp : -9223372036854775808 ≤ p ∧ p ≤ 9223372036854775807) :
    Calls Try.prog 19 #[.slice A n c, .int .i64 p] w fun e w' => e = .returned (.agg #[.int .i64 (wF n p).1, .int .i64 (wF n p).2]) ∧ Below w.heap.size w w' := by
  rcases wF_cases n p with ⟨q, rfl, h1, h2, h3, h⟩ | ⟨h1, h⟩ | ⟨h1, h2, h⟩
  · rw [h]
    have i1 := inT' (n := (q : Int)) (lo := 0) (hi := 32) (by omega)
    have i2 := inT' (n := (n : Int)) (lo := (q : Int) + 1) (hi := 255) (by omega)
    clear h
    go_enter Try.func19, Try.ntmps19
    go_wp2_with (first | (go_at_call 33; refine (refIn_any _ _ _ _).mono ?_; rintro e w' ⟨rfl, rfl⟩) | (go_at_call 22; refine (refAt_any _ _ _).mono ?_; rintro e w' ⟨rfl, rfl⟩))
    exact bodyPost_ret (v := .agg #[.int .i64 0, .int .i64 0]) (by simp [results, Try.results19, go_sem]) rfl ⟨rfl, below_new2 _ _ _⟩
  · rw [h]
    have i1 := inF' h1
    clear h
    go_enter Try.func19, Try.ntmps19
    go_wp2_with (first | (go_at_call 33; refine (refIn_any _ _ _ _).mono ?_; rintro e w' ⟨rfl, rfl⟩) | (go_at_call 22; refine (refAt_any _ _ _).mono ?_; rintro e w' ⟨rfl, rfl⟩))
    exact bodyPost_ret (v := .agg #[.int .i64 4, .int .i64 (-2)]) (by simp [results, Try.results19, go_sem]) rfl ⟨rfl, below_new2 _ _ _⟩
  · rw [h]
    have i1 := inT' h1
    have i2 := inF' (n := (n : Int)) (lo := p + 1) (hi := 255) (by omega)
    clear h
    go_enter Try.func19, Try.ntmps19
    go_wp2_with (first | (go_at_call 33; refine (refIn_any _ _ _ _).mono ?_; rintro e w' ⟨rfl, rfl⟩) | (go_at_call 22; refine (refAt_any _ _ _).mono ?_; rintro e w' ⟨rfl, rfl⟩))
    exact bodyPost_ret (v := .agg #[.int .i64 9, .int .i64 (-1)]) (by simp [results, Try.results19, go_sem]) rfl ⟨rfl, below_new2 _ _ _⟩
set_option maxHeartbeats 1000000 in
theorem rDataFault_any (A : Option Addr) (n c : Nat) (p : Int) (w : World) (hn : n ≤ 9223372036854775807) (hp : -9223372036854775808 ≤ p ∧ p ≤ 9223372036854775807) :
    Calls Try.prog 14 #[.slice A n c, .int .i64 p] w fun e w' => e = .returned (.agg #[.int .i64 (dF n p).1, .int .i64 (dF n p).2]) ∧ Below w.heap.size w w' := by
  rcases dF_cases n p with ⟨q, rfl, h1, h2, h3, h⟩ | ⟨h1, h⟩ | ⟨h1, h2, h⟩
  · rw [h]
    have i1 := inT' (n := (q : Int)) (lo := 0) (hi := 32) (by omega)
    have i2 := inT' (n := (n : Int)) (lo := 1) (hi := 255 - (q : Int)) (by omega)
    clear h
    go_enter Try.func14, Try.ntmps14
    go_wp2_with (first | (go_at_call 33; refine (refIn_any _ _ _ _).mono ?_; rintro e w' ⟨rfl, rfl⟩) | (go_at_call 22; refine (refAt_any _ _ _).mono ?_; rintro e w' ⟨rfl, rfl⟩))
    exact bodyPost_ret (v := .agg #[.int .i64 0, .int .i64 0]) (by simp [results, Try.results14, go_sem]) rfl ⟨rfl, below_new2 _ _ _⟩
  · rw [h]
    have i1 := inF' h1
    clear h
    go_enter Try.func14, Try.ntmps14
    go_wp2_with (first | (go_at_call 33; refine (refIn_any _ _ _ _).mono ?_; rintro e w' ⟨rfl, rfl⟩) | (go_at_call 22; refine (refAt_any _ _ _).mono ?_; rintro e w' ⟨rfl, rfl⟩))
    exact bodyPost_ret (v := .agg #[.int .i64 4, .int .i64 (-2)]) (by simp [results, Try.results14, go_sem]) rfl ⟨rfl, below_new2 _ _ _⟩
  · rw [h]
    have i1 := inT' h1
    have i2 := inF' h2
    clear h
    go_enter Try.func14, Try.ntmps14
    go_wp2_with (first | (go_at_call 33; refine (refIn_any _ _ _ _).mono ?_; rintro e w' ⟨rfl, rfl⟩) | (go_at_call 22; refine (refAt_any _ _ _).mono ?_; rintro e w' ⟨rfl, rfl⟩))
    exact bodyPost_ret (v := .agg #[.int .i64 9, .int .i64 (-1)]) (by simp [results, Try.results14, go_sem]) rfl ⟨rfl, below_new2 _ _ _⟩
set_option maxHeartbeats 1000000 in
theorem rHas_any (A : Option Addr) (n c : Nat) (l : List Int) (x : Int) (w : World) (hl : RdI w A n l) (hn : n ≤ 9223372036854775807) :
    Calls Try.prog 45 #[.slice A n c, .int .i64 x] w fun e w' => e = .returned (.bool (hasI l x)) ∧ w = w' := by
  have HL := Lib.hid hl
  by_cases h : x ∈ l
  · rw [show hasI l x = true from decide_eq_true h]
    obtain ⟨j, h1, h2, h3⟩ := memI_at h
    rw [hl.1] at h1
    have H2 := Lib.hid h2
    have H3 := Lib.hid h3
    clear hl h h2 h3
    go_enter Try.func45, Try.ntmps45
    go_wp2
    go_loop [5] (fun i => ∃ k : Nat, k ≤ j ∧ i = .int .i64 k) (fun i => n - (intOf i).toNat)
    case atStart => exact ⟨0, Nat.zero_le _, rfl⟩
    case round =>
      obtain ⟨k, hk, rfl⟩ := hrel
      obtain ⟨b, off, rfl, hlb, hcc⟩ := rdI_cell HL.out (i := k) (by omega)
      by_cases hlt : k < j
      · have z0 : (l.getD k 0 == x) = false := by rw [beq_eq_false_iff_ne]; exact H3.out k hlt
        generalize l.getD k 0 = y at *
        go_wp2
        go_round
        case rel => exact ⟨k + 1, by omega, by go_num⟩
        case measure => simp [intOf]; omega
      · obtain rfl : k = j := by omega
        have z0 : (l.getD k 0 == x) = true := by rw [beq_iff_eq]; exact H2.out
        generalize l.getD k 0 = y at *
        go_wp2
        go_ret
        exact ⟨rfl, rfl⟩
  · rw [show hasI l x = false from decide_eq_false h]
    have HB := Lib.hid (fun i (hi : i < n) => not_memI_at h i (by rw [hl.1]; exact hi))
    clear hl h
    go_enter Try.func45, Try.ntmps45
    go_wp2
    go_loop [5] (fun i => ∃ k : Nat, k ≤ n ∧ i = .int .i64 k) (fun i => n - (intOf i).toNat)
    case atStart => exact ⟨0, Nat.zero_le _, rfl⟩
    case round =>
      obtain ⟨k, hk, rfl⟩ := hrel
      by_cases hlt : k < n
      · obtain ⟨b, off, rfl, hlb, hcc⟩ := rdI_cell HL.out (i := k) (by omega)
        have z0 : (l.getD k 0 == x) = false := by rw [beq_eq_false_iff_ne]; exact HB.out k hlt
        generalize l.getD k 0 = y at *
        go_wp2
        go_round
        case rel => exact ⟨k + 1, by omega, by go_num⟩
        case measure => simp [intOf]; omega
      · obtain rfl : k = n := by omega
        go_wp2
        go_ret
        exact ⟨rfl, rfl⟩
end Go.Proofs.Ytpkaaiefnabfbab
