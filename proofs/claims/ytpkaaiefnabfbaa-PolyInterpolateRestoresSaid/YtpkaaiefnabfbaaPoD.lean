/- Walks of the package poly: the functions Add, Mul, Divide, Value. -/
import Derived.Test.YtpkaaiefnabfbaaDivA
import Derived.Test.YtpkaaiefnabfbaaVal
import Derived.Test.YtpkaaiefnabfbaaRow
namespace Go.Proofs.Ytpkaaiefnabfbaa
open Go.RowKit
set_option linter.unusedVariables false

theorem OwB.low {w : World} {B : Nat} {v : Value} {l : List GF} (h : OwB w B v l) {p : Addr} (hp : p.block < B) (u : Value) : OwB (w.setCell p u) B v l := by
  rcases h.2 with h' | ⟨g, cap, cur, hv, hB, hh⟩
  · exact ⟨h.1, .inl h'⟩
  · subst hv; exact own_far h (by omega) u
/-- The fault of two lengths. -/
def lC (n m : Nat) : Int := if 512 < n ∨ 512 < m then 3 else 0
def lI (n m : Nat) : Int := if 512 < n then -1 else if 512 < m then -2 else 0
theorem lens2 (w : World) (A B : Option Addr) (n m c d : Nat) (t : TypeId) : LensAt (w.alloc (.cells #[.slice A n c, .slice B m d] t)) w.heap.size [n, m] := by
  refine ⟨by simp, fun i hi => ?_⟩
  have hi2 : i < 2 := hi
  rcases Nat.lt_or_ge i 1 with h | h
  · obtain rfl : i = 0 := by omega
    exact ⟨A, c, by simp [go_sem]⟩
  · obtain rfl : i = 1 := by omega
    exact ⟨B, d, by simp [go_sem]⟩
theorem lens1 (w : World) (A : Option Addr) (n c : Nat) (t : TypeId) : LensAt (w.alloc (.cells #[.slice A n c] t)) w.heap.size [n] := by
  refine ⟨by simp, fun i hi => ?_⟩
  obtain rfl : i = 0 := by simpa using hi
  exact ⟨A, c, by simp [go_sem]⟩
theorem chk2 (w : World) (g : Nat) (A B : Option Addr) (n m c d : Nat) (t : TypeId) (hg : g = w.heap.size) (hn : n ≤ 9223372036854775807) (hm : m ≤ 9223372036854775807) :
    Calls Try.prog 36 #[.slice (some ⟨g, 0, none⟩) 2 2] (w.alloc (.cells #[.slice A n c, .slice B m d] t)) fun e w' => e = .returned (.agg #[.int .i64 (lC n m), .int .i64 (lI n m)]) ∧ Below w.heap.size w w' := by
  subst hg
  have H := lens2 w A B n m c d t
  have B0 := below_new w (.cells #[.slice A n c, .slice B m d] t)
  by_cases h1 : 512 < n
  · refine (poCheck_bad w.heap.size 2 0 [n, m] _ H (by simp) (fun i hi => by omega) (by simp) h1 hn).mono ?_
    rintro e w' ⟨rfl, hb⟩
    exact ⟨by unfold lC lI; rw [if_pos (.inl h1), if_pos h1]; rfl, Bw.step B0 hb⟩
  · by_cases h2 : 512 < m
    · refine (poCheck_bad w.heap.size 2 1 [n, m] _ H (by simp) (fun i hi => by (have h0 : i = 0 := by omega); subst h0; exact Nat.le_of_not_lt h1) (by simp) h2 hm).mono ?_
      rintro e w' ⟨rfl, hb⟩
      exact ⟨by unfold lC lI; rw [if_pos (.inr h2), if_neg h1, if_pos h2]; rfl, Bw.step B0 hb⟩
    · refine (poCheck_ok w.heap.size 2 [n, m] _ H (by simp) (fun i hi => ?_)).mono ?_
      · have hi2 : i < 2 := hi
        rcases Nat.lt_or_ge i 1 with h | h
        · obtain rfl : i = 0 := by omega
          exact Nat.le_of_not_lt h1
        · obtain rfl : i = 1 := by omega
          exact Nat.le_of_not_lt h2
      · rintro e w' ⟨rfl, hb⟩
        exact ⟨by unfold lC lI; rw [if_neg (by omega), if_neg h1, if_neg h2], Bw.step B0 hb⟩
theorem chk1 (w : World) (g : Nat) (A : Option Addr) (n c : Nat) (t : TypeId) (hg : g = w.heap.size) (hn : n ≤ 9223372036854775807) :
    Calls Try.prog 36 #[.slice (some ⟨g, 0, none⟩) 1 1] (w.alloc (.cells #[.slice A n c] t)) fun e w' => e = .returned (.agg #[.int .i64 (lC n 0), .int .i64 (lI n 0)]) ∧ Below w.heap.size w w' := by
  subst hg
  have H := lens1 w A n c t
  have B0 := below_new w (.cells #[.slice A n c] t)
  by_cases h1 : 512 < n
  · refine (poCheck_bad w.heap.size 1 0 [n] _ H (by simp) (fun i hi => by omega) (by simp) h1 hn).mono ?_
    rintro e w' ⟨rfl, hb⟩
    exact ⟨by unfold lC lI; rw [if_pos (.inl h1), if_pos h1]; rfl, Bw.step B0 hb⟩
  · refine (poCheck_ok w.heap.size 1 [n] _ H (by simp) (fun i hi => ?_)).mono ?_
    · obtain rfl : i = 0 := by simpa using hi
      exact Nat.le_of_not_lt h1
    · rintro e w' ⟨rfl, hb⟩
      exact ⟨by unfold lC lI; rw [if_neg (by omega), if_neg h1, if_neg (by omega)], Bw.step B0 hb⟩
theorem lC_ok {n m : Nat} (hn : n ≤ 512) (hm : m ≤ 512) : lC n m = 0 ∧ lI n m = 0 := by
  unfold lC lI; rw [if_neg (by omega), if_neg (by omega), if_neg (by omega)]; exact ⟨rfl, rfl⟩
theorem lC_bad {n m : Nat} (h : ¬ (n ≤ 512 ∧ m ≤ 512)) : lC n m = 3 := by
  unfold lC; rw [if_pos (by omega)]
set_option maxHeartbeats 1000000 in
theorem poAddP_ok (A B : Option Addr) (n m c d : Nat) (a b : List GF) (w : World) (ha : RdB w A n a) (hb : RdB w B m b) (hn : n ≤ 512) (hm : m ≤ 512) :
    Calls Try.prog 25 #[.slice A n c, .slice B m d] w fun e w' => ∃ A' c', e = .returned (.tuple #[.slice A' (sumP a b).length c', .agg #[.int .i64 0, .int .i64 0]]) ∧ OwB w' w.heap.size (.slice A' (sumP a b).length c') (sumP a b) ∧ Below w.heap.size w w' := by
  have HA := Lib.hid ha
  have HB := Lib.hid hb
  have HC := Lib.hid fun w (ha : RdB w A n a) (hb : RdB w B m b) => poAdd_any A B n m c d a b w ha hb (by omega) (by omega)
  clear ha hb
  generalize sumP a b = S at *
  go_enter Try.func25, Try.ntmps25
  go_wp2_with fail
  refine (chk2 (w.alloc _) _ A B n m c d _ (by simp) (by omega) (by omega)).mono ?_
  rw [(lC_ok hn hm).1, (lC_ok hn hm).2]
  rintro e w1 ⟨rfl, hb1⟩
  have F0 := (Has.new w 0 0 24).below hb1
  have B1 := Bw.step (below_new w (.cells #[.int .i64 0, .int .i64 0] 24)) hb1
  have RA := HA.out.below B1
  have RB := HB.out.below B1
  go_wp2_with fail
  refine (HC.out _ (RA.al _) (RB.al _)).mono ?_
  rintro e w2 ⟨A2, c2, rfl, ho2, hb2⟩
  have F2 := (F0.al _).below hb2
  obtain ⟨l0, c00, c01, f00, f01⟩ := id F2
  go_wp2
  have B2 := Bw.step (Bw.al B1 (.cells #[.int .i64 0, .int .i64 0] 24)) hb2
  exact bodyPost_ret (resF2 rfl rfl (F2.set2 0 0)) rfl ⟨A2, c2, rfl, own_base ((ho2.low (p := ⟨w.heap.size, 0, none⟩) (by have := F0.1; simp; omega) _).low (p := ⟨w.heap.size, 1, none⟩) (by have := F0.1; simp; omega) _) (by have := F0.1; simp; omega), Bw.set (Bw.set B2 (Nat.le_refl _) _) (Nat.le_refl _) _⟩
set_option maxHeartbeats 1000000 in
theorem poAddP_bad (A B : Option Addr) (n m c d : Nat) (w : World) (hn : n ≤ 9223372036854775807) (hm : m ≤ 9223372036854775807) (hbad : ¬ (n ≤ 512 ∧ m ≤ 512)) :
    Calls Try.prog 25 #[.slice A n c, .slice B m d] w fun e w' => e = .returned (.tuple #[.slice none 0 0, .agg #[.int .i64 3, .int .i64 (lI n m)]]) ∧ Below w.heap.size w w' := by
  have HC := Lib.hid (lC_bad hbad)
  clear hbad
  generalize hx : lI n m = x
  have HX := Lib.hid hx
  clear hx
  go_enter Try.func25, Try.ntmps25
  go_wp2_with fail
  refine (chk2 (w.alloc _) _ A B n m c d _ (by simp) hn hm).mono ?_
  rw [HC.out, HX.out]
  rintro e w1 ⟨rfl, hb1⟩
  have F0 := (Has.new w 0 0 24).below hb1
  have B1 := Bw.step (below_new w (.cells #[.int .i64 0, .int .i64 0] 24)) hb1
  have F1 := F0.al (.cells #[.int .i64 3, .int .i64 x] 24)
  have F6 := Has.new w1 3 x 24
  have B2 := Bw.al B1 (.cells #[.int .i64 3, .int .i64 x] 24)
  obtain ⟨l0, c00, c01, f00, f01⟩ := id F1
  obtain ⟨l6, c60, c61, f60, f61⟩ := id F6
  go_wp2
  go_region
  all_goals
    go_wp2
    exact bodyPost_ret (resF2 rfl rfl (F1.set2 3 x)) rfl ⟨rfl, Bw.drew (Bw.set (Bw.set B2 (Nat.le_refl _) _) (Nat.le_refl _) _)⟩
set_option maxHeartbeats 1000000 in
theorem poMulP_ok (A B : Option Addr) (n m c d : Nat) (a b : List GF) (w : World) (ha : RdB w A n a) (hb : RdB w B m b) (hn : n ≤ 512) (hm : m ≤ 512) :
    Calls Try.prog 24 #[.slice A n c, .slice B m d] w fun e w' => ∃ A' c', e = .returned (.tuple #[.slice A' (prodP a b).length c', .agg #[.int .i64 0, .int .i64 0]]) ∧ OwB w' w.heap.size (.slice A' (prodP a b).length c') (prodP a b) ∧ Below w.heap.size w w' := by
  have HA := Lib.hid ha
  have HB := Lib.hid hb
  have HC := Lib.hid fun w (ha : RdB w A n a) (hb : RdB w B m b) => poMul_any A B n m c d a b w ha hb (by omega) (by omega)
  clear ha hb
  generalize prodP a b = S at *
  go_enter Try.func24, Try.ntmps24
  go_wp2_with fail
  refine (chk2 (w.alloc _) _ A B n m c d _ (by simp) (by omega) (by omega)).mono ?_
  rw [(lC_ok hn hm).1, (lC_ok hn hm).2]
  rintro e w1 ⟨rfl, hb1⟩
  have F0 := (Has.new w 0 0 24).below hb1
  have B1 := Bw.step (below_new w (.cells #[.int .i64 0, .int .i64 0] 24)) hb1
  have RA := HA.out.below B1
  have RB := HB.out.below B1
  go_wp2_with fail
  refine (HC.out _ (RA.al _) (RB.al _)).mono ?_
  rintro e w2 ⟨A2, c2, rfl, ho2, hb2⟩
  have F2 := (F0.al _).below hb2
  obtain ⟨l0, c00, c01, f00, f01⟩ := id F2
  go_wp2
  have B2 := Bw.step (Bw.al B1 (.cells #[.int .i64 0, .int .i64 0] 24)) hb2
  exact bodyPost_ret (resF2 rfl rfl (F2.set2 0 0)) rfl ⟨A2, c2, rfl, own_base ((ho2.low (p := ⟨w.heap.size, 0, none⟩) (by have := F0.1; simp; omega) _).low (p := ⟨w.heap.size, 1, none⟩) (by have := F0.1; simp; omega) _) (by have := F0.1; simp; omega), Bw.set (Bw.set B2 (Nat.le_refl _) _) (Nat.le_refl _) _⟩
set_option maxHeartbeats 1000000 in
theorem poMulP_bad (A B : Option Addr) (n m c d : Nat) (w : World) (hn : n ≤ 9223372036854775807) (hm : m ≤ 9223372036854775807) (hbad : ¬ (n ≤ 512 ∧ m ≤ 512)) :
    Calls Try.prog 24 #[.slice A n c, .slice B m d] w fun e w' => e = .returned (.tuple #[.slice none 0 0, .agg #[.int .i64 3, .int .i64 (lI n m)]]) ∧ Below w.heap.size w w' := by
  have HC := Lib.hid (lC_bad hbad)
  clear hbad
  generalize hx : lI n m = x
  have HX := Lib.hid hx
  clear hx
  go_enter Try.func24, Try.ntmps24
  go_wp2_with fail
  refine (chk2 (w.alloc _) _ A B n m c d _ (by simp) hn hm).mono ?_
  rw [HC.out, HX.out]
  rintro e w1 ⟨rfl, hb1⟩
  have F0 := (Has.new w 0 0 24).below hb1
  have B1 := Bw.step (below_new w (.cells #[.int .i64 0, .int .i64 0] 24)) hb1
  have F1 := F0.al (.cells #[.int .i64 3, .int .i64 x] 24)
  have F6 := Has.new w1 3 x 24
  have B2 := Bw.al B1 (.cells #[.int .i64 3, .int .i64 x] 24)
  obtain ⟨l0, c00, c01, f00, f01⟩ := id F1
  obtain ⟨l6, c60, c61, f60, f61⟩ := id F6
  go_wp2
  go_region
  all_goals
    go_wp2
    exact bodyPost_ret (resF2 rfl rfl (F1.set2 3 x)) rfl ⟨rfl, Bw.drew (Bw.set (Bw.set B2 (Nat.le_refl _) _) (Nat.le_refl _) _)⟩
end Go.Proofs.Ytpkaaiefnabfbaa
