/- Walks of the package tint. -/
import Derived.Test.YtbhcjgjeedhnaaaTi
import Derived.Test.YtbhcjgjeedhnaaaRow
namespace Go.Proofs.Ytbhcjgjeedhnaaa
open Go.RowKit
set_option linter.unusedVariables false

set_option maxHeartbeats 400000 in
theorem tiFault_any (c i : Int) (w : World) :
    Calls Try.prog 21 #[.int .i64 c, .int .i64 i] w fun e w' => e = .returned (.agg #[.int .i64 c, .int .i64 i]) ∧ w.alloc (.cells #[.int .i64 c, .int .i64 i] 23) = w' := by
  go_enter Try.func21, Try.ntmps21
  go_wp2
  exact bodyPost_ret (v := .agg #[.int .i64 c, .int .i64 i]) (by simp [results, Try.results21, go_sem]) rfl ⟨rfl, rfl⟩
set_option maxHeartbeats 400000 in
theorem tiCheck_ok (lv : Int) (w : World) (h : lv = 2 ∨ lv = 4) :
    Calls Try.prog 20 #[.int .i64 lv] w fun e w' => e = .returned (.agg #[.int .i64 0, .int .i64 0]) ∧ Below w.heap.size w w' := by
  rcases h with rfl | rfl
  all_goals
    go_enter Try.func20, Try.ntmps20
    go_wp2
    exact bodyPost_ret (v := .agg #[.int .i64 0, .int .i64 0]) (by simp [results, Try.results20, go_sem]) rfl ⟨rfl, below_new _ _⟩
set_option maxHeartbeats 400000 in
theorem tiCheck_bad (lv : Int) (w : World) (h2 : lv ≠ 2) (h4 : lv ≠ 4) :
    Calls Try.prog 20 #[.int .i64 lv] w fun e w' => e = .returned (.agg #[.int .i64 4, .int .i64 (-2)]) ∧ Below w.heap.size w w' := by
  have x2 : (lv != 2) = true := by simpa using h2
  have x4 : (lv != 4) = true := by simpa using h4
  go_enter Try.func20, Try.ntmps20
  go_wp2_with (go_at_call 21; refine (tiFault_any _ _ _).mono ?_; rintro e w' ⟨rfl, rfl⟩)
  exact bodyPost_ret (v := .agg #[.int .i64 4, .int .i64 (-2)]) (by simp [results, Try.results20, go_sem]) rfl ⟨rfl, below_new2 _ _ _⟩
theorem grayN_4 (n : Nat) (h : 2 ≤ n) (hn : n < 4) : ((grayN n 4 : Nat) : Int) = 5 - n := by unfold grayN; rw [if_pos ⟨rfl, h⟩]; omega
theorem grayN_4' (n : Nat) (h : ¬ 2 ≤ n) : grayN n 4 = n := by unfold grayN; rw [if_neg (by omega)]
theorem grayN_2 (n : Nat) : grayN n 2 = n := by unfold grayN; rw [if_neg (by omega)]
set_option maxHeartbeats 400000 in
theorem tiGray4 (n : Nat) (w : World) (hn : n < 4) :
    Calls Try.prog 23 #[.int .i64 n, .int .i64 4] w fun e w' => e = .returned (.int .i64 (grayN n 4 : Nat)) ∧ w = w' := by
  by_cases h : 2 ≤ n
  · rw [grayN_4 n h hn]
    go_enter Try.func23, Try.ntmps23
    go_wp2
    go_ret
    exact ⟨rfl, rfl⟩
  · rw [grayN_4' n h]
    have x : decide (2 ≤ n) = false := by simpa using h
    go_enter Try.func23, Try.ntmps23
    go_wp2
    go_ret
    exact ⟨rfl, rfl⟩
set_option maxHeartbeats 400000 in
theorem tiGray2 (n : Nat) (w : World) :
    Calls Try.prog 23 #[.int .i64 n, .int .i64 2] w fun e w' => e = .returned (.int .i64 (grayN n 2 : Nat)) ∧ w = w' := by
  rw [grayN_2 n]
  go_enter Try.func23, Try.ntmps23
  go_wp2
  go_ret
  exact ⟨rfl, rfl⟩
theorem and3_i64 (n : Nat) (hn : n < 256) : bits .and .i64 (n : Int) 3 = ((n % 4 : Nat) : Int) := by
  rw [show (3 : Int) = ((3 : Nat) : Int) from rfl, and_i64 n 3 (by omega) (by omega)]
  congr 1
  exact Nat.and_two_pow_sub_one_eq_mod n 2
theorem and1_i64 (n : Nat) (hn : n < 256) : bits .and .i64 (n : Int) 1 = ((n % 2 : Nat) : Int) := low_i64 n (by omega)
theorem z_div (b : GF) (m : Nat) : b.z / 2 ^ m = ((b.v / 2 ^ m : Nat) : Int) := by
  unfold GF.z; rw [cast_pow2, ← Int.natCast_ediv]
theorem div_lt256 (b : GF) (m : Nat) : b.v / 2 ^ m < 256 := Nat.lt_of_le_of_lt (Nat.div_le_self _ _) b.lt
theorem OwB.len {w : World} {B n c : Nat} {A : Option Addr} {l : List GF} (h : OwB w B (.slice A n c) l) : n = l.length := h.rd.2
theorem OwB.low' {w : World} {B : Nat} {v : Value} {l : List GF} (h : OwB w B v l) {p : Addr} (hp : p.block < B) (u : Value) : OwB (w.setCell p u) B v l := by
  rcases h.2 with h' | ⟨g, cap, cur, hv, hB, hh⟩
  · exact ⟨h.1, .inl h'⟩
  · subst hv; exact own_far h (by omega) u
theorem Has.lower {w w' : World} {b B : Nat} {c i : Int} (h : Has w b c i) (hb : Below B w w') (hB : b < B) : Has w' b c i := by
  obtain ⟨h1, h2, h3, h4, h5⟩ := h
  exact ⟨Nat.lt_of_lt_of_le h1 hb.size, (hb.cell (p := ⟨b, 0, none⟩) hB).trans h2, (hb.cell (p := ⟨b, 1, none⟩) hB).trans h3, (hb.frozen (p := ⟨b, 0, none⟩) hB).trans h4, (hb.frozen (p := ⟨b, 1, none⟩) hB).trans h5⟩
theorem and4_walk (n : Nat) (hn : n < 256) : bits .and .i64 (n : Int) 3 = ((n % 4 : Nat) : Int) := and3_i64 n hn
theorem and2_walk (n : Nat) (hn : n < 256) : bits .and .i64 (n : Int) 1 = ((n % 2 : Nat) : Int) := and1_i64 n hn
theorem tiGray2' (n : Nat) (w : World) (hn : n < 2) : Calls Try.prog 23 #[.int .i64 n, .int .i64 2] w fun e w' => e = .returned (.int .i64 (grayN n 2 : Nat)) ∧ w = w' := tiGray2 n w
theorem tiGray4' (n : Nat) (w : World) (hn : n < 4) : Calls Try.prog 23 #[.int .i64 n, .int .i64 4] w fun e w' => e = .returned (.int .i64 (grayN n 4 : Nat)) ∧ w = w' := tiGray4 n w hn
set_option maxHeartbeats 1000000 in
theorem tiSplit2 (b : GF) (w : World) :
    Calls Try.prog 15 #[.int .u8 b.z, .int .i64 2] w fun e w' => ∃ A c, e = .returned (.tuple #[.slice A 8 c, .agg #[.int .i64 0, .int .i64 0]]) ∧ OwB w' w.heap.size (.slice A 8 c) (cellsT b 2) ∧ Below w.heap.size w w' := by
  have zb := GF.z_bd b
  go_enter Try.func15, Try.ntmps15
  go_wp2_with fail
  refine (tiCheck_ok 2 _ (by omega)).mono ?_
  rintro e w1 ⟨rfl, hb1⟩
  have F0 := ((Has.new w 0 0 23).below hb1).al (.cells #[.int .i64 0, .int .i64 0] 23)
  have B1 := Bw.al (Bw.step (below_new w (.cells #[.int .i64 0, .int .i64 0] 23)) hb1) (.cells #[.int .i64 0, .int .i64 0] 23)
  go_wp2
  generalize w1.alloc (.cells #[.int .i64 0, .int .i64 0] 23) = W at *
  generalize w1.heap.size = s1 at *
  go_loopw [8, 9] (fun v i wr => ∃ k : Nat, k ≤ 8 ∧ i = .int .i64 (8 - 1 - 1 * (k : Int)) ∧ OwB wr (w.heap.size + 1) v (cellsUp b 2 k) ∧ Has wr w.heap.size 0 0 ∧ Below w.heap.size w wr) (fun _ i _ => (intOf i + 1).toNat)
  case atStart => exact ⟨0, by omega, rfl, OwB.nil _ _, F0, B1⟩
  case round =>
    obtain ⟨k, hk, rfl, ho, hF, hbw⟩ := hrel
    by_cases hlt : k < 8
    · obtain ⟨m, hm⟩ : ∃ m : Nat, m = 8 - 1 - 1 * k := ⟨_, rfl⟩
      have e1 : (8 - 1 - 1 * (k : Int)) = (m : Int) := by omega
      have HS := Lib.hid (show 8 - 1 - 1 * ((k + 1 : Nat) : Int) = (m : Int) - 1 by omega)
      rw [e1]
      have hm8 : m ≤ 8 := by omega
      have hd := z_div b m
      have hd2 := div_lt256 b m
      have hc : (grayN (b.v / 2 ^ m % 2) 2 : Nat) = (cellG b 2 k).v := by
        rw [cellG_v (by omega)]; unfold cellN; congr 3; rw [hm]; congr 1; omega
      have HC := Lib.hid hc
      have HU := Lib.hid (cellsUp_succ b 2 k)
      have hl := cellsUp_len b 2 k
      have hsz := hbw.size
      have hs1 := hF.1
      have z2 := GF.z_bd (cellG b 2 k)
      have ez : ((grayN (b.v / 2 ^ m % 2) 2 : Nat) : Int) = (cellG b 2 k).z := by unfold GF.z; rw [hc]
      clear hc
      generalize cellsUp b 2 k = L at *
      generalize cellG b 2 k = y at *
      generalize b.v / 2 ^ m = q at *
      have ha := and2_walk q hd2
      have hr := Nat.mod_lt q (show 0 < 2 by omega)
      generalize q % 2 = r at *
      clear e1 hm
      go_wp2_with (first
        | (go_at_call 23; refine (tiGray2' _ _ (by omega)).mono ?_; rw [ez]; rintro e w' ⟨rfl, rfl⟩)
        | (at_builtin; refine wpList_app1 wr rfl (.tmp 25) (.tmp 36) rfl (w.heap.size + 1) _ L ho rfl y _ rfl (by omega) (by omega) ?_; intro v1 w2 ho2 hc2))
      have hb2 : Below w.heap.size w w2 := hbw.trans (hc2.mono (by omega))
      have hF2 := hF.lower hc2 (by omega)
      go_wp2
      go_roundw
      case rel => exact ⟨k + 1, by omega, by rw [HS.out], by rw [HU.out]; exact ho2, hF2, hb2⟩
      case measure => simp [intOf] <;> omega
    · obtain rfl : k = 8 := by omega
      obtain ⟨A1, c1, rfl⟩ := ho.form
      obtain ⟨l0, c00, c01, f00, f01⟩ := id hF
      have hl : (cellsUp b 2 8).length = 8 := cellsUp_len b 2 8
      rw [hl] at ho ⊢
      go_wp2
      exact bodyPost_ret (resF2 rfl rfl (hF.set2 0 0)) rfl ⟨A1, c1, rfl, own_base ((ho.low' (p := ⟨w.heap.size, 0, none⟩) (Nat.lt_succ_self _) _).low' (p := ⟨w.heap.size, 1, none⟩) (Nat.lt_succ_self _) _) (Nat.le_succ _), Bw.set (Bw.set hbw (Nat.le_refl _) _) (Nat.le_refl _) _⟩
set_option maxHeartbeats 1000000 in
theorem tiSplit4 (b : GF) (w : World) :
    Calls Try.prog 15 #[.int .u8 b.z, .int .i64 4] w fun e w' => ∃ A c, e = .returned (.tuple #[.slice A 4 c, .agg #[.int .i64 0, .int .i64 0]]) ∧ OwB w' w.heap.size (.slice A 4 c) (cellsT b 4) ∧ Below w.heap.size w w' := by
  have zb := GF.z_bd b
  go_enter Try.func15, Try.ntmps15
  go_wp2_with fail
  refine (tiCheck_ok 4 _ (by omega)).mono ?_
  rintro e w1 ⟨rfl, hb1⟩
  have F0 := ((Has.new w 0 0 23).below hb1).al (.cells #[.int .i64 0, .int .i64 0] 23)
  have B1 := Bw.al (Bw.step (below_new w (.cells #[.int .i64 0, .int .i64 0] 23)) hb1) (.cells #[.int .i64 0, .int .i64 0] 23)
  go_wp2
  generalize w1.alloc (.cells #[.int .i64 0, .int .i64 0] 23) = W at *
  generalize w1.heap.size = s1 at *
  go_loopw [8, 9] (fun v i wr => ∃ k : Nat, k ≤ 4 ∧ i = .int .i64 (8 - 2 - 2 * (k : Int)) ∧ OwB wr (w.heap.size + 1) v (cellsUp b 4 k) ∧ Has wr w.heap.size 0 0 ∧ Below w.heap.size w wr) (fun _ i _ => (intOf i + 2).toNat)
  case atStart => exact ⟨0, by omega, rfl, OwB.nil _ _, F0, B1⟩
  case round =>
    obtain ⟨k, hk, rfl, ho, hF, hbw⟩ := hrel
    by_cases hlt : k < 4
    · obtain ⟨m, hm⟩ : ∃ m : Nat, m = 8 - 2 - 2 * k := ⟨_, rfl⟩
      have e1 : (8 - 2 - 2 * (k : Int)) = (m : Int) := by omega
      have HS := Lib.hid (show 8 - 2 - 2 * ((k + 1 : Nat) : Int) = (m : Int) - 2 by omega)
      rw [e1]
      have hm8 : m ≤ 8 := by omega
      have hd := z_div b m
      have hd2 := div_lt256 b m
      have hc : (grayN (b.v / 2 ^ m % 4) 4 : Nat) = (cellG b 4 k).v := by
        rw [cellG_v (by omega)]; unfold cellN; congr 3; rw [hm]; congr 1; omega
      have HC := Lib.hid hc
      have HU := Lib.hid (cellsUp_succ b 4 k)
      have hl := cellsUp_len b 4 k
      have hsz := hbw.size
      have hs1 := hF.1
      have z2 := GF.z_bd (cellG b 4 k)
      have ez : ((grayN (b.v / 2 ^ m % 4) 4 : Nat) : Int) = (cellG b 4 k).z := by unfold GF.z; rw [hc]
      clear hc
      generalize cellsUp b 4 k = L at *
      generalize cellG b 4 k = y at *
      generalize b.v / 2 ^ m = q at *
      have ha := and4_walk q hd2
      have hr := Nat.mod_lt q (show 0 < 4 by omega)
      generalize q % 4 = r at *
      clear e1 hm
      go_wp2_with (first
        | (go_at_call 23; refine (tiGray4' _ _ (by omega)).mono ?_; rw [ez]; rintro e w' ⟨rfl, rfl⟩)
        | (at_builtin; refine wpList_app1 wr rfl (.tmp 25) (.tmp 36) rfl (w.heap.size + 1) _ L ho rfl y _ rfl (by omega) (by omega) ?_; intro v1 w2 ho2 hc2))
      have hb2 : Below w.heap.size w w2 := hbw.trans (hc2.mono (by omega))
      have hF2 := hF.lower hc2 (by omega)
      go_wp2
      go_roundw
      case rel => exact ⟨k + 1, by omega, by rw [HS.out], by rw [HU.out]; exact ho2, hF2, hb2⟩
      case measure => simp [intOf] <;> omega
    · obtain rfl : k = 4 := by omega
      obtain ⟨A1, c1, rfl⟩ := ho.form
      obtain ⟨l0, c00, c01, f00, f01⟩ := id hF
      have hl : (cellsUp b 4 4).length = 4 := cellsUp_len b 4 4
      rw [hl] at ho ⊢
      go_wp2
      exact bodyPost_ret (resF2 rfl rfl (hF.set2 0 0)) rfl ⟨A1, c1, rfl, own_base ((ho.low' (p := ⟨w.heap.size, 0, none⟩) (Nat.lt_succ_self _) _).low' (p := ⟨w.heap.size, 1, none⟩) (Nat.lt_succ_self _) _) (Nat.le_succ _), Bw.set (Bw.set hbw (Nat.le_refl _) _) (Nat.le_refl _) _⟩
end Go.Proofs.Ytbhcjgjeedhnaaa
