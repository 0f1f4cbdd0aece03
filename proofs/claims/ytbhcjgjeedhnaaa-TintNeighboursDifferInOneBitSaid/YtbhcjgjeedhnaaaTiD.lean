/- Walks of the package tint: Shade and Level where they fail; of the reference: Bits, Shades, Joined, CellsOf, Nearest. -/
import Derived.Test.YtbhcjgjeedhnaaaTiC
namespace Go.Proofs.Ytbhcjgjeedhnaaa
open Go.RowKit
set_option linter.unusedVariables false

set_option maxHeartbeats 1000000 in
theorem tiShade_bad (k lv : Int) (w : World) (h2 : lv ≠ 2) (h4 : lv ≠ 4) :
    Calls Try.prog 8 #[.int .i64 k, .int .i64 lv] w fun e w' => e = .returned (.tuple #[.int .i64 0, .agg #[.int .i64 4, .int .i64 (-2)]]) ∧ Below w.heap.size w w' := by
  go_enter Try.func8, Try.ntmps8
  go_wp2_with fail
  refine (tiCheck_bad lv _ h2 h4).mono ?_
  rintro e w1 ⟨rfl, hb1⟩
  have F0 := ((Has.new w 0 0 23).below hb1).al (.cells #[.int .i64 4, .int .i64 (-2)] 23)
  have F6 := Has.new w1 4 (-2) 23
  have B1 := Bw.al (Bw.step (below_new w (.cells #[.int .i64 0, .int .i64 0] 23)) hb1) (.cells #[.int .i64 4, .int .i64 (-2)] 23)
  obtain ⟨l0, c00, c01, f00, f01⟩ := id F0
  obtain ⟨l6, c60, c61, f60, f61⟩ := id F6
  go_wp2
  go_region
  all_goals
    go_wp2
    exact bodyPost_ret (resF2 rfl rfl (F0.set2 4 (-2))) rfl ⟨rfl, Bw.drew (Bw.set (Bw.set B1 (Nat.le_refl _) _) (Nat.le_refl _) _)⟩
set_option maxHeartbeats 1000000 in
theorem tiLevel_bad (k lv : Int) (w : World) (h2 : lv ≠ 2) (h4 : lv ≠ 4) :
    Calls Try.prog 9 #[.int .i64 k, .int .i64 lv] w fun e w' => e = .returned (.tuple #[.int .i64 0, .int .i64 0, .agg #[.int .i64 4, .int .i64 (-2)]]) ∧ Below w.heap.size w w' := by
  go_enter Try.func9, Try.ntmps9
  go_wp2_with fail
  refine (tiCheck_bad lv _ h2 h4).mono ?_
  rintro e w1 ⟨rfl, hb1⟩
  have F0 := ((Has.new w 0 0 23).below hb1).al (.cells #[.int .i64 4, .int .i64 (-2)] 23)
  have F6 := Has.new w1 4 (-2) 23
  have B1 := Bw.al (Bw.step (below_new w (.cells #[.int .i64 0, .int .i64 0] 23)) hb1) (.cells #[.int .i64 4, .int .i64 (-2)] 23)
  obtain ⟨l0, c00, c01, f00, f01⟩ := id F0
  obtain ⟨l6, c60, c61, f60, f61⟩ := id F6
  go_wp2
  go_region
  all_goals
    go_wp2
    exact bodyPost_ret (resF3 rfl rfl (F0.set2 4 (-2))) rfl ⟨rfl, Bw.drew (Bw.set (Bw.set B1 (Nat.le_refl _) _) (Nat.le_refl _) _)⟩
theorem RdI.lits (w : World) (g : Nat) (l : List Int) (t : TypeId) (hg : g = w.heap.size) : RdI (w.alloc (.cells (l.map fun z => Value.int .i64 z).toArray t)) (some ⟨g, 0, none⟩) l.length l := by
  subst hg
  refine ⟨rfl, fun hn => ⟨_, 0, rfl, by simp, fun i hi => ?_⟩⟩
  simp [go_sem, hi, List.getD]
theorem RdI.two (w : World) (g : Nat) (x y : Int) (t : TypeId) (hg : g = w.heap.size) : RdI (w.alloc (.cells #[.int .i64 x, .int .i64 y] t)) (some ⟨g, 0, none⟩) 2 [x, y] := RdI.lits w g [x, y] t hg
/-- The bits that a level carries. -/
def bitsT (n lv : Nat) : List Int := if lv = 2 then [(n : Int)] else [((grayN n 4 / 2 : Nat) : Int), ((grayN n 4 % 2 : Nat) : Int)]
def bitN (n lv i : Nat) : Nat := if lv = 2 then n else if i = 0 then grayN n 4 / 2 else grayN n 4 % 2
theorem bitsT_get2 (n : Nat) : (bitsT n 2).getD 0 0 = ((bitN n 2 0 : Nat) : Int) := rfl
theorem bitsT_get4 (n i : Nat) (hi : i < 2) : (bitsT n 4).getD i 0 = ((bitN n 4 i : Nat) : Int) := by
  rcases Nat.lt_or_ge i 1 with h | h
  · obtain rfl : i = 0 := by omega
    rfl
  · obtain rfl : i = 1 := by omega
    rfl
theorem RdI.at {w : World} {A : Option Addr} {n : Nat} {l : List Int} (h : RdI w A n l) {i : Nat} (hi : i < n) : ∃ b off, A = some ⟨b, off, none⟩ ∧ b < w.heap.size ∧ w.cell? ⟨b, off + i, none⟩ = some (.int .i64 (l.getD i 0)) := by
  obtain ⟨b, off, e, hb, hc⟩ := h.2 (by omega)
  exact ⟨b, off, e, hb, hc i hi⟩
set_option maxHeartbeats 1000000 in
theorem rBits2 (n : Nat) (w : World) :
    Calls Try.prog 24 #[.int .i64 n, .int .i64 2] w fun e w' => ∃ A, e = .returned (.slice A 1 1) ∧ RdI w' A 1 (bitsT n 2) ∧ Below w.heap.size w w' := by
  go_enter Try.func24, Try.ntmps24
  go_wp2
  go_ret
  exact ⟨_, rfl, RdI.lits w _ [(n : Int)] _ rfl, below_new _ _⟩
set_option maxHeartbeats 1000000 in
theorem rBits4 (n : Nat) (w : World) (hn : n < 4) :
    Calls Try.prog 24 #[.int .i64 n, .int .i64 4] w fun e w' => ∃ A, e = .returned (.slice A 2 2) ∧ RdI w' A 2 (bitsT n 4) ∧ Below w.heap.size w w' := by
  obtain rfl | rfl | rfl | rfl : n = 0 ∨ n = 1 ∨ n = 2 ∨ n = 3 := by omega
  · go_enter Try.func24, Try.ntmps24
    go_wp2
    go_ret
    exact ⟨_, rfl, (((((RdI.two _ _ 0 0 _ rfl).below (below_new _ _)).below (below_new _ _)).below (below_new _ _)).below (below_new _ _)), by (repeat (first | exact Below.refl _ _ | assumption | refine Bw.al ?_ _ | refine Bw.step ?_ (by assumption) | refine Bw.drew ?_))⟩
  · go_enter Try.func24, Try.ntmps24
    go_wp2
    go_ret
    refine ⟨_, rfl, ((((RdI.two (w.alloc _) _ 0 1 _ (by simp)).below (below_new _ _)).below (below_new _ _)).below (below_new _ _)), by (repeat (first | exact Below.refl _ _ | assumption | refine Bw.al ?_ _ | refine Bw.step ?_ (by assumption) | refine Bw.drew ?_))⟩
  · go_enter Try.func24, Try.ntmps24
    go_wp2
    go_ret
    refine ⟨_, rfl, (((RdI.two ((w.alloc _).alloc _) _ 1 1 _ (by simp)).below (below_new _ _)).below (below_new _ _)), by (repeat (first | exact Below.refl _ _ | assumption | refine Bw.al ?_ _ | refine Bw.step ?_ (by assumption) | refine Bw.drew ?_))⟩
  · go_enter Try.func24, Try.ntmps24
    go_wp2
    go_ret
    refine ⟨_, rfl, ((RdI.two (((w.alloc _).alloc _).alloc _) _ 1 0 _ (by simp)).below (below_new _ _)), by (repeat (first | exact Below.refl _ _ | assumption | refine Bw.al ?_ _ | refine Bw.step ?_ (by assumption) | refine Bw.drew ?_))⟩
/-- The bits of a level, joined one after another. -/
def partN (s lv n j : Nat) : Nat := if lv = 2 then (if j = 0 then s else 2 * s + bitN n 2 0) else if j = 0 then s else if j = 1 then 2 * s + bitN n 4 0 else 2 * (2 * s + bitN n 4 0) + bitN n 4 1
theorem partN_zero (s lv n : Nat) : partN s lv n 0 = s := by unfold partN; simp
theorem partN_succ2 (s n : Nat) : partN s 2 n (0 + 1) = 2 * partN s 2 n 0 + bitN n 2 0 := by unfold partN; simp
theorem partN_succ4 (s n j : Nat) (hj : j < 2) : partN s 4 n (j + 1) = 2 * partN s 4 n j + bitN n 4 j := by
  rcases Nat.lt_or_ge j 1 with h | h
  · obtain rfl : j = 0 := by omega
    unfold partN; simp
  · obtain rfl : j = 1 := by omega
    unfold partN; simp
theorem partN_end2 (s n : Nat) (hn : n < 2) : partN s 2 n 1 = s * 2 + grayN n 2 := by
  unfold partN bitN; rw [if_pos rfl, if_neg (by omega), if_pos rfl, grayN_2]; omega
theorem partN_end4 (s n : Nat) (hn : n < 4) : partN s 4 n 2 = s * 4 + grayN n 4 := by
  unfold partN bitN; simp; omega
theorem partN_lt {s lv n j : Nat} (hs : s < 256) (h : n < 4) : partN s lv n j < 2000 := by
  have : grayN n 4 < 4 := gray_lt (.inr rfl) h
  unfold partN bitN
  split
  · split <;> simp <;> omega
  · split
    · omega
    · split <;> simp <;> omega
theorem bitsT_at2 (n i : Nat) (hi : i < 1) : (bitsT n 2).getD i 0 = ((bitN n 2 i : Nat) : Int) := by
  obtain rfl : i = 0 := by omega
  rfl
theorem bitsT_at4 (n i : Nat) (hi : i < 2) : (bitsT n 4).getD i 0 = ((bitN n 4 i : Nat) : Int) := bitsT_get4 n i hi
theorem partN_at2 (s n j : Nat) (hj : j < 1) : partN s 2 n (j + 1) = 2 * partN s 2 n j + bitN n 2 j := by
  obtain rfl : j = 0 := by omega
  exact partN_succ2 s n
theorem partN_at4 (s n j : Nat) (hj : j < 2) : partN s 4 n (j + 1) = 2 * partN s 4 n j + bitN n 4 j := partN_succ4 s n j hj
theorem rBits2' (n : Nat) (w : World) (hn : n < 2) :
    Calls Try.prog 24 #[.int .i64 n, .int .i64 2] w fun e w' => ∃ A, e = .returned (.slice A 1 1) ∧ RdI w' A 1 (bitsT n 2) ∧ Below w.heap.size w w' := rBits2 n w
theorem rBits4' (n : Nat) (w : World) (hn : n < 4) :
    Calls Try.prog 24 #[.int .i64 n, .int .i64 4] w fun e w' => ∃ A, e = .returned (.slice A 2 2) ∧ RdI w' A 2 (bitsT n 4) ∧ Below w.heap.size w w' := rBits4 n w hn
theorem bitN_lt {n lv i : Nat} (h : lv = 2 ∨ lv = 4) (hn : n < lv) : bitN n lv i < 2 := by
  unfold bitN
  have : n < 4 → grayN n 4 < 4 := fun h => gray_lt (.inr rfl) h
  rcases h with rfl | rfl
  · simp; omega
  · simp; split <;> omega
set_option maxRecDepth 100000 in
set_option maxHeartbeats 1000000 in
theorem rJoined2 (A : Option Addr) (c : Nat) (l : List GF) (w : World) (hl : RdB w A 8 l) (hlt : ∀ i, i < l.length → (l.getD i 0).v < 2) :
    Calls Try.prog 19 #[.slice A 8 c, .int .i64 2] w fun e w' => e = .returned (.int .u8 (joinN 2 l : Nat)) ∧ Below w.heap.size w w' := by
  have HL := Lib.hid hl
  have HN := Lib.hid hl.1
  have HLT := Lib.hid hlt
  clear hl hlt
  go_enter Try.func19, Try.ntmps19
  go_wp2
  go_loopw [5, 6] (fun v i wr => ∃ k : Nat, k ≤ 8 ∧ i = .int .i64 k ∧ v = .int .i64 (joinN 2 (l.take k) : Nat) ∧ Below w.heap.size w wr) (fun _ i _ => 8 - (intOf i).toNat)
  case atStart => exact ⟨0, by omega, rfl, rfl, Below.refl _ _⟩
  case round =>
    obtain ⟨k, hk, rfl, rfl, hbw⟩ := hrel
    have hj := joinN_bd (lv := 2) (by omega) l HLT.out (by rw [HN.out]) k (by rw [HN.out]; exact hk)
    by_cases hlt : k < 8
    · obtain ⟨b, off, rfl, hb, hcx⟩ := (HL.out.below hbw).2 (by omega)
      have hx := hcx k hlt
      have HJ := Lib.hid (joinN_take 2 (l := l) (k := k) (by rw [HN.out]; exact hlt))
      have hc := HLT.out k (by rw [HN.out]; exact hlt)
      generalize joinN 2 (l.take k) = s at *
      generalize l.getD k 0 = y at *
      have ez : y.z = ((y.v : Nat) : Int) := rfl
      rw [ez] at hx
      clear hcx ez
      generalize y.v = n at *
      have HP0 := Lib.hid (partN_zero s 2 n)
      go_wp2_with fail
      refine (rBits2' n _ hc).mono ?_
      rintro e w1 ⟨A1, rfl, hR, hb1⟩
      have HR := Lib.hid hR
      have hbw1 := Bw.step hbw hb1
      clear hR
      go_wp2
      go_loop [5, 8] (fun v i => ∃ j : Nat, j ≤ 1 ∧ i = .int .i64 j ∧ v = .int .i64 (partN s 2 n j : Nat)) (fun _ i => 1 - (intOf i).toNat)
      case atStart => exact ⟨0, by omega, rfl, by rw [HP0.out]⟩
      case round =>
        obtain ⟨j, hjw, rfl, rfl⟩ := hrel
        by_cases hlj : j < 1
        · obtain ⟨b1, o1, rfl, hlb, hcb⟩ := HR.out.at hlj
          rw [bitsT_at2 n j hlj] at hcb
          have HS := Lib.hid (partN_at2 s n j hlj)
          have hp := partN_lt (lv := 2) (j := j) hj (show n < 4 by omega)
          have hbt := bitN_lt (lv := 2) (i := j) (by omega) hc
          generalize partN s 2 n j = q at *
          generalize bitN n 2 j = bb at *
          go_wp2
          go_round
          case rel => exact ⟨j + 1, by omega, by go_num, by rw [HS.out]; go_num⟩
          case measure => simp [intOf] <;> omega
        · obtain rfl : j = 1 := by omega
          rw [partN_end2 s n hc]
          go_wp2
          go_roundw
          case rel => exact ⟨k + 1, by omega, by go_num, by rw [HJ.out], hbw1⟩
          case measure => simp [intOf]; omega
    · obtain rfl : k = 8 := by omega
      rw [List.take_of_length_le (by rw [HN.out]; omega)] at hj ⊢
      go_wp2
      go_ret
      exact ⟨rfl, hbw⟩
set_option maxRecDepth 100000 in
set_option maxHeartbeats 1000000 in
theorem rJoined4 (A : Option Addr) (c : Nat) (l : List GF) (w : World) (hl : RdB w A 4 l) (hlt : ∀ i, i < l.length → (l.getD i 0).v < 4) :
    Calls Try.prog 19 #[.slice A 4 c, .int .i64 4] w fun e w' => e = .returned (.int .u8 (joinN 4 l : Nat)) ∧ Below w.heap.size w w' := by
  have HL := Lib.hid hl
  have HN := Lib.hid hl.1
  have HLT := Lib.hid hlt
  clear hl hlt
  go_enter Try.func19, Try.ntmps19
  go_wp2
  go_loopw [5, 6] (fun v i wr => ∃ k : Nat, k ≤ 4 ∧ i = .int .i64 k ∧ v = .int .i64 (joinN 4 (l.take k) : Nat) ∧ Below w.heap.size w wr) (fun _ i _ => 4 - (intOf i).toNat)
  case atStart => exact ⟨0, by omega, rfl, rfl, Below.refl _ _⟩
  case round =>
    obtain ⟨k, hk, rfl, rfl, hbw⟩ := hrel
    have hj := joinN_bd (lv := 4) (by omega) l HLT.out (by rw [HN.out]) k (by rw [HN.out]; exact hk)
    by_cases hlt : k < 4
    · obtain ⟨b, off, rfl, hb, hcx⟩ := (HL.out.below hbw).2 (by omega)
      have hx := hcx k hlt
      have HJ := Lib.hid (joinN_take 4 (l := l) (k := k) (by rw [HN.out]; exact hlt))
      have hc := HLT.out k (by rw [HN.out]; exact hlt)
      generalize joinN 4 (l.take k) = s at *
      generalize l.getD k 0 = y at *
      have ez : y.z = ((y.v : Nat) : Int) := rfl
      rw [ez] at hx
      clear hcx ez
      generalize y.v = n at *
      have HP0 := Lib.hid (partN_zero s 4 n)
      go_wp2_with fail
      refine (rBits4' n _ hc).mono ?_
      rintro e w1 ⟨A1, rfl, hR, hb1⟩
      have HR := Lib.hid hR
      have hbw1 := Bw.step hbw hb1
      clear hR
      go_wp2
      go_loop [5, 8] (fun v i => ∃ j : Nat, j ≤ 2 ∧ i = .int .i64 j ∧ v = .int .i64 (partN s 4 n j : Nat)) (fun _ i => 2 - (intOf i).toNat)
      case atStart => exact ⟨0, by omega, rfl, by rw [HP0.out]⟩
      case round =>
        obtain ⟨j, hjw, rfl, rfl⟩ := hrel
        by_cases hlj : j < 2
        · obtain ⟨b1, o1, rfl, hlb, hcb⟩ := HR.out.at hlj
          rw [bitsT_at4 n j hlj] at hcb
          have HS := Lib.hid (partN_at4 s n j hlj)
          have hp := partN_lt (lv := 4) (j := j) hj (show n < 4 by omega)
          have hbt := bitN_lt (lv := 4) (i := j) (by omega) hc
          generalize partN s 4 n j = q at *
          generalize bitN n 4 j = bb at *
          go_wp2
          go_round
          case rel => exact ⟨j + 1, by omega, by go_num, by rw [HS.out]; go_num⟩
          case measure => simp [intOf] <;> omega
        · obtain rfl : j = 2 := by omega
          rw [partN_end4 s n hc]
          go_wp2
          go_roundw
          case rel => exact ⟨k + 1, by omega, by go_num, by rw [HJ.out], hbw1⟩
          case measure => simp [intOf]; omega
    · obtain rfl : k = 4 := by omega
      rw [List.take_of_length_le (by rw [HN.out]; omega)] at hj ⊢
      go_wp2
      go_ret
      exact ⟨rfl, hbw⟩
end Go.Proofs.Ytbhcjgjeedhnaaa
