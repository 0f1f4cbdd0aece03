/- Walks of the package tint: Split with a wrong number of levels, Join, Shade, Level. -/
import Derived.Test.YtbhcjgjeedhnaaaTiA
import Derived.Deep.RegionWith
namespace Go.Proofs.Ytbhcjgjeedhnaaa
open Go.RowKit
set_option linter.unusedVariables false

set_option maxHeartbeats 1000000 in
theorem tiSplit_bad (b lv : Int) (w : World) (h2 : lv ≠ 2) (h4 : lv ≠ 4) :
    Calls Try.prog 15 #[.int .u8 b, .int .i64 lv] w fun e w' => e = .returned (.tuple #[.slice none 0 0, .agg #[.int .i64 4, .int .i64 (-2)]]) ∧ Below w.heap.size w w' := by
  go_enter Try.func15, Try.ntmps15
  go_wp2_with fail
  refine (tiCheck_bad lv _ h2 h4).mono ?_
  rintro e w1 ⟨rfl, hb1⟩
  have F0 := ((Has.new w 0 0 23).below hb1).al (.cells #[.int .i64 4, .int .i64 (-2)] 23)
  have F6 := Has.new w1 4 (-2) 23
  have B1 := Bw.al (Bw.step (below_new w (.cells #[.int .i64 0, .int .i64 0] 23)) hb1) (.cells #[.int .i64 4, .int .i64 (-2)] 23)
  obtain ⟨l0, c00, c01, f00, f01⟩ := id F0
  obtain ⟨l6, c60, c61, f60, f61⟩ := id F6
  go_wp2
  go_region
  all_goals
    go_wp2
    exact bodyPost_ret (resF2 rfl rfl (F0.set2 4 (-2))) rfl ⟨rfl, Bw.drew (Bw.set (Bw.set B1 (Nat.le_refl _) _) (Nat.le_refl _) _)⟩
set_option maxHeartbeats 1000000 in
theorem tiJoin_bad (A : Option Addr) (n c : Nat) (lv : Int) (w : World) (h2 : lv ≠ 2) (h4 : lv ≠ 4) :
    Calls Try.prog 16 #[.slice A n c, .int .i64 lv] w fun e w' => e = .returned (.tuple #[.int .u8 0, .agg #[.int .i64 4, .int .i64 (-2)]]) ∧ Below w.heap.size w w' := by
  go_enter Try.func16, Try.ntmps16
  go_wp2_with fail
  refine (tiCheck_bad lv _ h2 h4).mono ?_
  rintro e w1 ⟨rfl, hb1⟩
  have F0 := ((Has.new w 0 0 23).below hb1).al (.cells #[.int .i64 4, .int .i64 (-2)] 23)
  have F6 := Has.new w1 4 (-2) 23
  have B1 := Bw.al (Bw.step (below_new w (.cells #[.int .i64 0, .int .i64 0] 23)) hb1) (.cells #[.int .i64 4, .int .i64 (-2)] 23)
  obtain ⟨l0, c00, c01, f00, f01⟩ := id F0
  obtain ⟨l6, c60, c61, f60, f61⟩ := id F6
  go_wp2
  go_region
  all_goals
    go_wp2
    exact bodyPost_ret (resF2 rfl rfl (F0.set2 4 (-2))) rfl ⟨rfl, Bw.drew (Bw.set (Bw.set B1 (Nat.le_refl _) _) (Nat.le_refl _) _)⟩
theorem or_i64 (a b : Nat) (ha : a < 9223372036854775808) (hb : b < 9223372036854775808) : bits .or .i64 (a : Int) (b : Int) = ((a ||| b : Nat) : Int) := by
  have hx : a ||| b < 2 ^ 63 := Nat.or_lt_two_pow (by omega) (by omega)
  show IntKind.i64.wrap ((BitVec.ofInt 64 (a : Int) ||| BitVec.ofInt 64 (b : Int)).toNat : Int) = _
  rw [BitVec.toNat_or, natOf_i64 a ha, natOf_i64 b hb, IntKind.wrap_i64]
  omega
theorem or2_walk (n g : Nat) (hn : n < 256) (hg : g < 2) : bits .or .i64 ((n : Int) * 2) (g : Int) = ((n * 2 + g : Nat) : Int) := by
  rw [show (n : Int) * 2 = ((n * 2 : Nat) : Int) by omega, or_i64 _ _ (by omega) (by omega)]
  congr 1
  have := Nat.shiftLeft_add_eq_or_of_lt (i := 1) (b := g) hg n
  rw [Nat.shiftLeft_eq] at this
  exact this.symm
theorem or4_walk (n g : Nat) (hn : n < 256) (hg : g < 4) : bits .or .i64 ((n : Int) * 4) (g : Int) = ((n * 4 + g : Nat) : Int) := by
  rw [show (n : Int) * 4 = ((n * 4 : Nat) : Int) by omega, or_i64 _ _ (by omega) (by omega)]
  congr 1
  have := Nat.shiftLeft_add_eq_or_of_lt (i := 2) (b := g) hg n
  rw [Nat.shiftLeft_eq] at this
  exact this.symm
set_option maxHeartbeats 1000000 in
theorem tiJoinLen2 (A : Option Addr) (n c : Nat) (w : World) (hn : n ≠ 8) (hm : n ≤ 9223372036854775807) :
    Calls Try.prog 16 #[.slice A n c, .int .i64 2] w fun e w' => e = .returned (.tuple #[.int .u8 0, .agg #[.int .i64 9, .int .i64 (-1)]]) ∧ Below w.heap.size w w' := by
  have x1 : ((n : Int) != 8) = true := by simp only [bne_iff_ne, ne_eq]; omega
  go_enter Try.func16, Try.ntmps16
  go_wp2_with fail
  refine (tiCheck_ok 2 _ (by omega)).mono ?_
  rintro e w1 ⟨rfl, hb1⟩
  have F0 := ((Has.new w 0 0 23).below hb1).al (.cells #[.int .i64 0, .int .i64 0] 23)
  have B1 := Bw.al (Bw.step (below_new w (.cells #[.int .i64 0, .int .i64 0] 23)) hb1) (.cells #[.int .i64 0, .int .i64 0] 23)
  go_wp2_with fail
  refine (tiFault_any _ _ _).mono ?_; rintro e w' ⟨rfl, rfl⟩
  have F1 := F0.al (.cells #[.int .i64 9, .int .i64 (-1)] 23)
  obtain ⟨l0, c00, c01, f00, f01⟩ := id F1
  go_wp2
  exact bodyPost_ret (resF2 rfl rfl (F1.set2 9 (-1))) rfl ⟨rfl, Bw.set (Bw.set (Bw.al B1 _) (Nat.le_refl _) _) (Nat.le_refl _) _⟩
set_option maxHeartbeats 1000000 in
theorem tiJoin2 (A : Option Addr) (c : Nat) (l : List GF) (w : World) (hl : RdB w A 8 l) (hlt : ∀ i, i < l.length → (l.getD i 0).v < 2) :
    Calls Try.prog 16 #[.slice A 8 c, .int .i64 2] w fun e w' => e = .returned (.tuple #[.int .u8 (joinN 2 l : Nat), .agg #[.int .i64 0, .int .i64 0]]) ∧ Below w.heap.size w w' := by
  have HL := Lib.hid hl
  have HN := Lib.hid hl.1
  have HLT := Lib.hid hlt
  clear hl hlt
  go_enter Try.func16, Try.ntmps16
  go_wp2_with fail
  refine (tiCheck_ok 2 _ (by omega)).mono ?_
  rintro e w1 ⟨rfl, hb1⟩
  have F0 := ((Has.new w 0 0 23).below hb1).al (.cells #[.int .i64 0, .int .i64 0] 23)
  have B1 := Bw.al (Bw.step (below_new w (.cells #[.int .i64 0, .int .i64 0] 23)) hb1) (.cells #[.int .i64 0, .int .i64 0] 23)
  go_wp2
  generalize w1.alloc (.cells #[.int .i64 0, .int .i64 0] 23) = W at *
  generalize w1.heap.size = s1 at *
  go_loopw [8, 27] (fun v i wr => ∃ k : Nat, k ≤ 8 ∧ i = .int .i64 k ∧ v = .int .i64 (joinN 2 (l.take k) : Nat) ∧ Has wr w.heap.size 0 0 ∧ Below w.heap.size w wr) (fun _ i _ => 8 - (intOf i).toNat)
  case atStart => exact ⟨0, by omega, rfl, rfl, F0, B1⟩
  case round =>
    obtain ⟨k, hk, rfl, rfl, hF, hbw⟩ := hrel
    have hj := joinN_bd (lv := 2) (by omega) l HLT.out (by rw [HN.out]) k (by rw [HN.out]; exact hk)
    by_cases hlt : k < 8
    · obtain ⟨b, off, rfl, hb, hcx⟩ := (HL.out.below hbw).2 (by omega)
      have hx := hcx k hlt
      have HJ := Lib.hid (joinN_take 2 (l := l) (k := k) (by rw [HN.out]; exact hlt))
      have hc := HLT.out k (by rw [HN.out]; exact hlt)
      generalize joinN 2 (l.take k) = s at *
      generalize l.getD k 0 = y at *
      have ez : y.z = ((y.v : Nat) : Int) := rfl
      have hg := gray_lt (lv := 2) (by omega) hc
      have ho := or2_walk s (grayN y.v 2) hj hg
      rw [ez] at hx
      have EZ := Lib.hid ez
      have ws : IntKind.i64.wrap ((s : Int) * 2) = (s : Int) * 2 := IntWalk.i64_in _ (by omega)
      clear hcx ez
      go_wp2
      (refine wp_region_ext (by kernel_rfl) (by kernel_rfl) ?_; (repeat (go_big_quiet_step ((go_at_call 23; exact ext_same (tiGray2' _ _ hc))))); refine wpQuiet_nil ?_; intro W5 hw'; have hW5 := ext_below hw'; clear hw')
      go_wp2
      go_roundw
      case rel => exact ⟨k + 1, by omega, by go_num, by (rw [HJ.out]; go_num), hF.below hW5, Bw.step hbw hW5⟩
      case measure => simp [intOf]; omega
    · obtain rfl : k = 8 := by omega
      obtain ⟨l0, c00, c01, f00, f01⟩ := id hF
      rw [List.take_of_length_le (by rw [HN.out]; omega)] at hj ⊢
      go_wp2
      exact bodyPost_ret (resF2 rfl rfl (hF.set2 0 0)) rfl ⟨rfl, Bw.set (Bw.set hbw (Nat.le_refl _) _) (Nat.le_refl _) _⟩
set_option maxHeartbeats 1000000 in
theorem tiJoinBad2 (A : Option Addr) (c : Nat) (l : List GF) (w : World) (hl : RdB w A 8 l) (j : Nat) (hj : j < 8) (hlt : ∀ i, i < j → (l.getD i 0).v < 2) (hbad : ¬ (l.getD j 0).v < 2) :
    Calls Try.prog 16 #[.slice A 8 c, .int .i64 2] w fun e w' => e = .returned (.tuple #[.int .u8 0, .agg #[.int .i64 4, .int .i64 j]]) ∧ Below w.heap.size w w' := by
  have HL := Lib.hid hl
  have HN := Lib.hid hl.1
  have HLT := Lib.hid hlt
  have HBD := Lib.hid hbad
  clear hl hlt hbad
  go_enter Try.func16, Try.ntmps16
  go_wp2_with fail
  refine (tiCheck_ok 2 _ (by omega)).mono ?_
  rintro e w1 ⟨rfl, hb1⟩
  have F0 := ((Has.new w 0 0 23).below hb1).al (.cells #[.int .i64 0, .int .i64 0] 23)
  have B1 := Bw.al (Bw.step (below_new w (.cells #[.int .i64 0, .int .i64 0] 23)) hb1) (.cells #[.int .i64 0, .int .i64 0] 23)
  go_wp2
  generalize w1.alloc (.cells #[.int .i64 0, .int .i64 0] 23) = W at *
  generalize w1.heap.size = s1 at *
  go_loopw [8, 27] (fun v i wr => ∃ k n : Nat, k ≤ j ∧ n < 2 ^ k ∧ i = .int .i64 k ∧ v = .int .i64 n ∧ Has wr w.heap.size 0 0 ∧ Below w.heap.size w wr) (fun _ i _ => 8 - (intOf i).toNat)
  case atStart => exact ⟨0, 0, by omega, by decide, rfl, rfl, F0, B1⟩
  case round =>
    obtain ⟨k, s, hk, hs, rfl, rfl, hF, hbw⟩ := hrel
    have hs2 : s < 256 := by
      have h2 : 2 ^ k ≤ 2 ^ 8 := Nat.pow_le_pow_right (by omega) (by omega)
      have h3 : 2 ^ 8 = 256 := rfl
      omega
    have HS := Lib.hid hs
    obtain ⟨b, off, rfl, hb, hcx⟩ := (HL.out.below hbw).2 (by omega)
    have hx := hcx k (by omega)
    clear hs
    by_cases hlt : k < j
    · have hc := HLT.out k hlt
      generalize l.getD k 0 = y at *
      have ez : y.z = ((y.v : Nat) : Int) := rfl
      have hg := gray_lt (lv := 2) (by omega) hc
      have HG := Lib.hid hg
      have ho := or2_walk s (grayN y.v 2) hs2 hg
      rw [ez] at hx
      have ws : IntKind.i64.wrap ((s : Int) * 2) = (s : Int) * 2 := IntWalk.i64_in _ (by omega)
      clear hcx ez
      go_wp2
      (refine wp_region_ext (by kernel_rfl) (by kernel_rfl) ?_; (repeat (go_big_quiet_step ((go_at_call 23; exact ext_same (tiGray2' _ _ hc))))); refine wpQuiet_nil ?_; intro W5 hw'; have hW5 := ext_below hw'; clear hw')
      go_wp2
      go_roundw
      case rel => exact ⟨k + 1, s * 2 + grayN y.v 2, by omega, by (rw [Nat.pow_succ]; have := HS.out; have := HG.out; omega), by go_num, by go_num, hF.below hW5, Bw.step hbw hW5⟩
      case measure => simp [intOf]; omega
    · obtain rfl : k = j := by omega
      have hc := HBD.out
      have hy := GF.lt (l.getD k 0)
      generalize l.getD k 0 = y at *
      have ez : y.z = ((y.v : Nat) : Int) := rfl
      rw [ez] at hx
      clear hcx ez HBD
      go_wp2_with fail
      refine (tiFault_any _ _ _).mono ?_; rintro e w' ⟨rfl, rfl⟩
      have F1 := hF.al (.cells #[.int .i64 4, .int .i64 k] 23)
      obtain ⟨l0, c00, c01, f00, f01⟩ := id F1
      go_wp2
      exact bodyPost_ret (resF2 rfl rfl (F1.set2 4 k)) rfl ⟨rfl, Bw.set (Bw.set (Bw.al hbw _) (Nat.le_refl _) _) (Nat.le_refl _) _⟩
set_option maxHeartbeats 1000000 in
theorem tiJoinLen4 (A : Option Addr) (n c : Nat) (w : World) (hn : n ≠ 4) (hm : n ≤ 9223372036854775807) :
    Calls Try.prog 16 #[.slice A n c, .int .i64 4] w fun e w' => e = .returned (.tuple #[.int .u8 0, .agg #[.int .i64 9, .int .i64 (-1)]]) ∧ Below w.heap.size w w' := by
  have x1 : ((n : Int) != 4) = true := by simp only [bne_iff_ne, ne_eq]; omega
  go_enter Try.func16, Try.ntmps16
  go_wp2_with fail
  refine (tiCheck_ok 4 _ (by omega)).mono ?_
  rintro e w1 ⟨rfl, hb1⟩
  have F0 := ((Has.new w 0 0 23).below hb1).al (.cells #[.int .i64 0, .int .i64 0] 23)
  have B1 := Bw.al (Bw.step (below_new w (.cells #[.int .i64 0, .int .i64 0] 23)) hb1) (.cells #[.int .i64 0, .int .i64 0] 23)
  go_wp2_with fail
  refine (tiFault_any _ _ _).mono ?_; rintro e w' ⟨rfl, rfl⟩
  have F1 := F0.al (.cells #[.int .i64 9, .int .i64 (-1)] 23)
  obtain ⟨l0, c00, c01, f00, f01⟩ := id F1
  go_wp2
  exact bodyPost_ret (resF2 rfl rfl (F1.set2 9 (-1))) rfl ⟨rfl, Bw.set (Bw.set (Bw.al B1 _) (Nat.le_refl _) _) (Nat.le_refl _) _⟩
set_option maxHeartbeats 1000000 in
theorem tiJoin4 (A : Option Addr) (c : Nat) (l : List GF) (w : World) (hl : RdB w A 4 l) (hlt : ∀ i, i < l.length → (l.getD i 0).v < 4) :
    Calls Try.prog 16 #[.slice A 4 c, .int .i64 4] w fun e w' => e = .returned (.tuple #[.int .u8 (joinN 4 l : Nat), .agg #[.int .i64 0, .int .i64 0]]) ∧ Below w.heap.size w w' := by
  have HL := Lib.hid hl
  have HN := Lib.hid hl.1
  have HLT := Lib.hid hlt
  clear hl hlt
  go_enter Try.func16, Try.ntmps16
  go_wp2_with fail
  refine (tiCheck_ok 4 _ (by omega)).mono ?_
  rintro e w1 ⟨rfl, hb1⟩
  have F0 := ((Has.new w 0 0 23).below hb1).al (.cells #[.int .i64 0, .int .i64 0] 23)
  have B1 := Bw.al (Bw.step (below_new w (.cells #[.int .i64 0, .int .i64 0] 23)) hb1) (.cells #[.int .i64 0, .int .i64 0] 23)
  go_wp2
  generalize w1.alloc (.cells #[.int .i64 0, .int .i64 0] 23) = W at *
  generalize w1.heap.size = s1 at *
  go_loopw [8, 27] (fun v i wr => ∃ k : Nat, k ≤ 4 ∧ i = .int .i64 k ∧ v = .int .i64 (joinN 4 (l.take k) : Nat) ∧ Has wr w.heap.size 0 0 ∧ Below w.heap.size w wr) (fun _ i _ => 4 - (intOf i).toNat)
  case atStart => exact ⟨0, by omega, rfl, rfl, F0, B1⟩
  case round =>
    obtain ⟨k, hk, rfl, rfl, hF, hbw⟩ := hrel
    have hj := joinN_bd (lv := 4) (by omega) l HLT.out (by rw [HN.out]) k (by rw [HN.out]; exact hk)
    by_cases hlt : k < 4
    · obtain ⟨b, off, rfl, hb, hcx⟩ := (HL.out.below hbw).2 (by omega)
      have hx := hcx k hlt
      have HJ := Lib.hid (joinN_take 4 (l := l) (k := k) (by rw [HN.out]; exact hlt))
      have hc := HLT.out k (by rw [HN.out]; exact hlt)
      generalize joinN 4 (l.take k) = s at *
      generalize l.getD k 0 = y at *
      have ez : y.z = ((y.v : Nat) : Int) := rfl
      have hg := gray_lt (lv := 4) (by omega) hc
      have ho := or4_walk s (grayN y.v 4) hj hg
      rw [ez] at hx
      have EZ := Lib.hid ez
      have ws : IntKind.i64.wrap ((s : Int) * 4) = (s : Int) * 4 := IntWalk.i64_in _ (by omega)
      clear hcx ez
      go_wp2
      (refine wp_region_ext (by kernel_rfl) (by kernel_rfl) ?_; (repeat (go_big_quiet_step ((go_at_call 23; exact ext_same (tiGray4' _ _ hc))))); refine wpQuiet_nil ?_; intro W5 hw'; have hW5 := ext_below hw'; clear hw')
      go_wp2
      go_roundw
      case rel => exact ⟨k + 1, by omega, by go_num, by (rw [HJ.out]; go_num), hF.below hW5, Bw.step hbw hW5⟩
      case measure => simp [intOf]; omega
    · obtain rfl : k = 4 := by omega
      obtain ⟨l0, c00, c01, f00, f01⟩ := id hF
      rw [List.take_of_length_le (by rw [HN.out]; omega)] at hj ⊢
      go_wp2
      exact bodyPost_ret (resF2 rfl rfl (hF.set2 0 0)) rfl ⟨rfl, Bw.set (Bw.set hbw (Nat.le_refl _) _) (Nat.le_refl _) _⟩
set_option maxHeartbeats 1000000 in
theorem tiJoinBad4 (A : Option Addr) (c : Nat) (l : List GF) (w : World) (hl : RdB w A 4 l) (j : Nat) (hj : j < 4) (hlt : ∀ i, i < j → (l.getD i 0).v < 4) (hbad : ¬ (l.getD j 0).v < 4) :
    Calls Try.prog 16 #[.slice A 4 c, .int .i64 4] w fun e w' => e = .returned (.tuple #[.int .u8 0, .agg #[.int .i64 4, .int .i64 j]]) ∧ Below w.heap.size w w' := by
  have HL := Lib.hid hl
  have HN := Lib.hid hl.1
  have HLT := Lib.hid hlt
  have HBD := Lib.hid hbad
  clear hl hlt hbad
  go_enter Try.func16, Try.ntmps16
  go_wp2_with fail
  refine (tiCheck_ok 4 _ (by omega)).mono ?_
  rintro e w1 ⟨rfl, hb1⟩
  have F0 := ((Has.new w 0 0 23).below hb1).al (.cells #[.int .i64 0, .int .i64 0] 23)
  have B1 := Bw.al (Bw.step (below_new w (.cells #[.int .i64 0, .int .i64 0] 23)) hb1) (.cells #[.int .i64 0, .int .i64 0] 23)
  go_wp2
  generalize w1.alloc (.cells #[.int .i64 0, .int .i64 0] 23) = W at *
  generalize w1.heap.size = s1 at *
  go_loopw [8, 27] (fun v i wr => ∃ k n : Nat, k ≤ j ∧ n < 4 ^ k ∧ i = .int .i64 k ∧ v = .int .i64 n ∧ Has wr w.heap.size 0 0 ∧ Below w.heap.size w wr) (fun _ i _ => 4 - (intOf i).toNat)
  case atStart => exact ⟨0, 0, by omega, by decide, rfl, rfl, F0, B1⟩
  case round =>
    obtain ⟨k, s, hk, hs, rfl, rfl, hF, hbw⟩ := hrel
    have hs2 : s < 256 := by
      have h2 : 4 ^ k ≤ 4 ^ 4 := Nat.pow_le_pow_right (by omega) (by omega)
      have h3 : 4 ^ 4 = 256 := rfl
      omega
    have HS := Lib.hid hs
    obtain ⟨b, off, rfl, hb, hcx⟩ := (HL.out.below hbw).2 (by omega)
    have hx := hcx k (by omega)
    clear hs
    by_cases hlt : k < j
    · have hc := HLT.out k hlt
      generalize l.getD k 0 = y at *
      have ez : y.z = ((y.v : Nat) : Int) := rfl
      have hg := gray_lt (lv := 4) (by omega) hc
      have HG := Lib.hid hg
      have ho := or4_walk s (grayN y.v 4) hs2 hg
      rw [ez] at hx
      have ws : IntKind.i64.wrap ((s : Int) * 4) = (s : Int) * 4 := IntWalk.i64_in _ (by omega)
      clear hcx ez
      go_wp2
      (refine wp_region_ext (by kernel_rfl) (by kernel_rfl) ?_; (repeat (go_big_quiet_step ((go_at_call 23; exact ext_same (tiGray4' _ _ hc))))); refine wpQuiet_nil ?_; intro W5 hw'; have hW5 := ext_below hw'; clear hw')
      go_wp2
      go_roundw
      case rel => exact ⟨k + 1, s * 4 + grayN y.v 4, by omega, by (rw [Nat.pow_succ]; have := HS.out; have := HG.out; omega), by go_num, by go_num, hF.below hW5, Bw.step hbw hW5⟩
      case measure => simp [intOf]; omega
    · obtain rfl : k = j := by omega
      have hc := HBD.out
      have hy := GF.lt (l.getD k 0)
      generalize l.getD k 0 = y at *
      have ez : y.z = ((y.v : Nat) : Int) := rfl
      rw [ez] at hx
      clear hcx ez HBD
      go_wp2_with fail
      refine (tiFault_any _ _ _).mono ?_; rintro e w' ⟨rfl, rfl⟩
      have F1 := hF.al (.cells #[.int .i64 4, .int .i64 k] 23)
      obtain ⟨l0, c00, c01, f00, f01⟩ := id F1
      go_wp2
      exact bodyPost_ret (resF2 rfl rfl (F1.set2 4 k)) rfl ⟨rfl, Bw.set (Bw.set (Bw.al hbw _) (Nat.le_refl _) _) (Nat.le_refl _) _⟩
end Go.Proofs.Ytbhcjgjeedhnaaa
