/- The walk of the statement TintToleratesNoise. -/
import Derived.Test.YtbhcjgjeedhnaaaTiI
namespace Go.Proofs.Ytbhcjgjeedhnaaa
open Go.RowKit
set_option linter.unusedVariables false

theorem wf_i64' {a : Int} (h : (Lit.int .i64 a).wf = true) : -9223372036854775808 ≤ a ∧ a ≤ 9223372036854775807 := by
  simp [Lit.wf, IntKind.min, IntKind.max, IntKind.signed, IntKind.bits] at h
  omega
/-- A slice of integers that came in. -/
theorem IsRow.ints {w : World} {a : Option Addr} {len cap : Nat} {zs : List Int} (h : IsRow .i64 w a len cap zs) : ∃ l : List Int, RdI w a len l ∧ len ≤ 9223372036854775807 ∧ len ≤ cap ∧ ∀ n ∈ l, -9223372036854775808 ≤ n ∧ n ≤ 9223372036854775807 := by
  rcases h with ⟨rfl, rfl, rfl, rfl⟩ | ⟨x, rfl, hl, hm, hz, hcell, hwz⟩
  · exact ⟨[], ⟨rfl, fun h => by omega⟩, Nat.zero_le _, Nat.le_refl _, fun n hn => by simp at hn⟩
  · refine ⟨zs.take len, ⟨by rw [List.length_take]; omega, fun hn => ?_⟩, by unfold maxLen at hm; omega, hl, fun n hn => wf_i64' (hwz n (List.mem_of_mem_take hn))⟩
    obtain ⟨b, off, spot⟩ := x
    have hc0 := hcell 0 (by omega)
    have hspot : spot = none := by simpa [Addr.add] using World.cell?_spot hc0
    subst hspot
    have hlt : b < w.heap.size := by
      have h0 := hcell 0 (by omega)
      rw [addr_add] at h0
      rcases Nat.lt_or_ge b w.heap.size with h | h
      · exact h
      · simp [World.cell?, Array.getElem?_eq_none h] at h0
    refine ⟨b, off, rfl, hlt, fun i hi => ?_⟩
    rw [← addr_add, hcell i (by omega)]
    simp [List.getD, hi]
def noiseB (lv q : Nat) (t K : Int) : Bool := if 0 ≤ t + K ∧ t + K ≤ 255 then decide (near (t + K).toNat lv lv = (q, K.natAbs)) else decide (0 ≤ t - K) && decide (t - K ≤ 255) && decide (near (t - K).toNat lv lv = (q, K.natAbs))
theorem noiseB_of {lv q : Nat} {t K : Int} (h : noiseB lv q t K = true) : (0 ≤ t + K ∧ t + K ≤ 255 → near (t + K).toNat lv lv = (q, K.natAbs)) ∧ (¬ (0 ≤ t + K ∧ t + K ≤ 255) → 0 ≤ t - K ∧ t - K ≤ 255 ∧ near (t - K).toNat lv lv = (q, K.natAbs)) := by
  unfold noiseB at h
  by_cases c : 0 ≤ t + K ∧ t + K ≤ 255
  · rw [if_pos c] at h
    exact ⟨fun _ => by simpa using h, fun hc => absurd c hc⟩
  · rw [if_neg c] at h
    simp only [Bool.and_eq_true, decide_eq_true_eq] at h
    exact ⟨fun hc => absurd hc c, fun _ => ⟨h.1.1, h.1.2, h.2⟩⟩
theorem noise4 {q j : Nat} (hq : q < 4) (hj : j < 81) : noiseB 4 q ((shN q 4 : Nat) : Int) ((j : Int) - 40) = true := by
  have key : allN 4 (fun q => allN 81 fun j => noiseB 4 q ((shN q 4 : Nat) : Int) ((j : Int) - 40)) = true := by decide +kernel
  exact allN_of (allN_of key hq) hj
theorem noise2 {q j : Nat} (hq : q < 2) (hj : j < 81) : noiseB 2 q ((shN q 2 : Nat) : Int) ((j : Int) - 40) = true := by
  have key : allN 2 (fun q => allN 81 fun j => noiseB 2 q ((shN q 2 : Nat) : Int) ((j : Int) - 40)) = true := by decide +kernel
  exact allN_of (allN_of key hq) hj
theorem cellsUp_full (b : GF) (lv : Nat) {n : Nat} (h : 16 / lv = n) : cellsUp b lv n = cellsT b lv := by subst h; rfl
theorem tiLevelI2 (s : Int) (w : World) (hs : 0 ≤ s ∧ s ≤ 255) :
    Calls Try.prog 9 #[.int .i64 s, .int .i64 2] w fun e w' => e = .returned (.tuple #[.int .i64 ((near s.toNat 2 2).1 : Nat), .int .i64 ((near s.toNat 2 2).2 : Nat), .agg #[.int .i64 0, .int .i64 0]]) ∧ Below w.heap.size w w' := by
  have := tiLevel2 s.toNat w (by omega)
  rwa [Int.toNat_of_nonneg hs.1] at this
theorem noiseN2 {q : Nat} {K : Int} (hq : q < 2) (hK : -40 ≤ K ∧ K ≤ 40) : (0 ≤ ((shN q 2 : Nat) : Int) + K ∧ ((shN q 2 : Nat) : Int) + K ≤ 255 → near (((shN q 2 : Nat) : Int) + K).toNat 2 2 = (q, K.natAbs)) ∧ (¬ (0 ≤ ((shN q 2 : Nat) : Int) + K ∧ ((shN q 2 : Nat) : Int) + K ≤ 255) → 0 ≤ ((shN q 2 : Nat) : Int) - K ∧ ((shN q 2 : Nat) : Int) - K ≤ 255 ∧ near (((shN q 2 : Nat) : Int) - K).toNat 2 2 = (q, K.natAbs)) := by
  obtain ⟨j, hj⟩ := Int.eq_ofNat_of_zero_le (show 0 ≤ K + 40 by omega)
  have e : K = (j : Int) - 40 := by omega
  subst e
  exact noiseB_of (noise2 hq (by omega))
set_option maxRecDepth 100000 in
set_option maxHeartbeats 4000000 in
theorem walkNoise2 (b : GF) (A : Option Addr) (n c : Nat) (ns : List Int) (w : World) (RA : RdI w A n ns) (hn : n ≤ 9223372036854775807) :
    Calls Try.prog 7 #[.int .u8 b.z, .slice A n c, .int .i64 2] w fun e w' => e = .returned (.bool true) ∧ Below w.heap.size w w' := by
  have BJ := Lib.hid (join_cells (lv := 2) (by omega) b)
  have CL := Lib.hid (cells_lt (lv := 2) (by omega) b)
  have ez : b.z = ((b.v : Nat) : Int) := rfl
  have EZ := Lib.hid ez
  have HRA := Lib.hid RA
  have HLN := Lib.hid RA.1
  clear RA ez
  go_enter Try.func7, Try.ntmps7
  go_wp2_with fail
  refine (tiSplit2 b _).mono ?_; rintro e w1 ⟨A1, c1, rfl, ho1, hb1⟩
  have F1 := Has.new w1 0 0 23
  have R1 := Lib.hid (ho1.rd.1.al (.cells #[.int .i64 0, .int .i64 0] 23))
  have BW := Bw.al hb1 (.cells #[.int .i64 0, .int .i64 0] 23)
  have hb1s := hb1.size
  have O1 := Lib.hid (ho1.below (below_new w1 (.cells #[.int .i64 0, .int .i64 0] 23)))
  clear ho1 hb1
  go_wp2
  generalize hW0 : w1.alloc (.cells #[.int .i64 0, .int .i64 0] 23) = W0 at *
  clear hW0 hb1s O1
  generalize w1.heap.size = b1 at *
  go_loopw [9, 10] (fun v i wr => ∃ k : Nat, k ≤ 8 ∧ i = .int .i64 k ∧ OwB wr W0.heap.size v (cellsUp b 2 k) ∧ Below W0.heap.size W0 wr) (fun _ i _ => 8 - (intOf i).toNat)
  case atStart => exact ⟨0, Nat.zero_le _, rfl, OwB.nil _ _, Below.refl _ _⟩
  case round =>
    obtain ⟨k, hk, rfl, ho, hbr⟩ := hrel
    by_cases hlt : k < 8
    · obtain ⟨bb, oo, rfl, hlb, hcc⟩ := (R1.out.below hbr).2 (by omega)
      have hx := hcc k hlt
      rw [cells_get (lv := 2) b (by omega)] at hx
      have hq : cellN b.v 2 k < 2 := cellN_lt (by omega) _ _
      have ey : (cellG b 2 k).z = ((cellN b.v 2 k : Nat) : Int) := by unfold GF.z; rw [cellG_v (by omega)]
      rw [ey] at hx
      have HQ := Lib.hid (show cellN b.v 2 k < 256 by omega)
      have HU := Lib.hid (show cellsUp b 2 (k + 1) = cellsUp b 2 k ++ [GF.mk (cellN b.v 2 k) HQ.out] by
        rw [cellsUp_succ]; congr 2; exact GF.ext (cellG_v (by omega) b k))
      have hl := cellsUp_len b 2 k
      have HO := Lib.hid ho
      generalize cellN b.v 2 k = q at *
      generalize cellsUp b 2 k = L at *
      have hsh := shN_le q 2
      have iq := inT (n := (q : Int)) (lo := 0) (hi := 1) (by omega)
      clear hcc ey
      by_cases hin : k < n ∧ -40 ≤ ns.getD k 0 ∧ ns.getD k 0 ≤ 40
      · obtain ⟨hkn, hK⟩ := hin
        obtain ⟨b9, o9, rfl, hl9, hc9⟩ := (HRA.out.below (Bw.step BW hbr)).at hkn
        generalize ns.getD k 0 = K at *
        have i1 := inT hK
        have NZ := Lib.hid (noiseN2 hq hK)
        have HSH := Lib.hid (fun w => tiShade2 q w hq)
        generalize shN q 2 = t at *
        have hD : ((K.natAbs : Nat) : Int) = K ∨ ((K.natAbs : Nat) : Int) = -K := by omega
        have hD2 : ((K.natAbs : Nat) : Int) ≤ 40 := by omega
        by_cases hz : 0 ≤ (t : Int) + K ∧ (t : Int) + K ≤ 255
        · have NR := Lib.hid (NZ.out.1 hz)
          have i2 := inT hz
          generalize K.natAbs = D at *
          clear NZ
          go_wp2_with (go_at_call 12; refine (refIn_any _ _ _ _).mono ?_; rintro e w' ⟨rfl, rfl⟩)
          refine (HSH.out _).mono ?_; rintro e w3 ⟨rfl, hb3⟩
          have F3 := Has.new w3 0 0 23
          have BW3 := Bw.al (Bw.step hbr hb3) (.cells #[.int .i64 0, .int .i64 0] 23)
          have HO3 := Lib.hid ((HO.out.below hb3).below (below_new w3 (.cells #[.int .i64 0, .int .i64 0] 23)))
          clear ho
          go_wp2_with (go_at_call 12; refine (refIn_any _ _ _ _).mono ?_; rintro e w' ⟨rfl, rfl⟩)
          rcases hD with hD | hD
          · have x1 : ((D : Int) != K) = false := by simp only [bne_eq_false_iff_eq]; exact hD
            clear hD
            refine (tiLevelI2 _ _ hz).mono ?_
            rw [NR.out]
            rintro e w4 ⟨rfl, hb4⟩
            dsimp only
            have F4 := Has.new w4 0 0 23
            have F3' := (F3.below hb4).al (.cells #[.int .i64 0, .int .i64 0] 23)
            have BW4 := Bw.al (Bw.step BW3 hb4) (.cells #[.int .i64 0, .int .i64 0] 23)
            have HO4 := Lib.hid ((HO3.out.below hb4).below (below_new w4 (.cells #[.int .i64 0, .int .i64 0] 23)))
            have hsz := BW4.size
            obtain ⟨l3, c30, c31, f30, f31⟩ := id F3'
            obtain ⟨l4, c40, c41, f40, f41⟩ := id F4
            go_wp2_with fail
            refine (refIn_any _ _ _ _).mono ?_; rintro e w' ⟨rfl, rfl⟩
            clear l3 c30 c31 f30 f31 l4 c40 c41 f40 f41 F3' F4 hb4
            generalize w4.alloc (.cells #[.int .i64 0, .int .i64 0] 23) = W4 at *
            generalize w4.heap.size = b4 at *
            go_wp2_with (at_builtin; refine wpList_app1 W4 rfl (.tmp 114) (.tmp 117) rfl W0.heap.size _ L HO4.out rfl (GF.mk q HQ.out) _ rfl (by omega) hsz ?_; intro v6 w6 ho6 hc6)
            have hb6 := BW4.trans hc6
            go_wp2
            go_roundw
            case rel => first | exact ⟨k + 1, by omega, by go_num, by (rw [HU.out]; exact ho6), hb6⟩ | ((repeat apply Exists.intro); exact ⟨⟨k + 1, by omega, by go_num, by (rw [HU.out]; exact ho6), hb6⟩, rfl⟩)
            case measure => simp [intOf]; omega
          · by_cases hd0 : (D : Int) = K
            · have x1 : ((D : Int) != K) = false := by simp only [bne_eq_false_iff_eq]; exact hd0
              clear hD hd0
              refine (tiLevelI2 _ _ hz).mono ?_
              rw [NR.out]
              rintro e w4 ⟨rfl, hb4⟩
              dsimp only
              have F4 := Has.new w4 0 0 23
              have F3' := (F3.below hb4).al (.cells #[.int .i64 0, .int .i64 0] 23)
              have BW4 := Bw.al (Bw.step BW3 hb4) (.cells #[.int .i64 0, .int .i64 0] 23)
              have HO4 := Lib.hid ((HO3.out.below hb4).below (below_new w4 (.cells #[.int .i64 0, .int .i64 0] 23)))
              have hsz := BW4.size
              obtain ⟨l3, c30, c31, f30, f31⟩ := id F3'
              obtain ⟨l4, c40, c41, f40, f41⟩ := id F4
              go_wp2_with fail
              refine (refIn_any _ _ _ _).mono ?_; rintro e w' ⟨rfl, rfl⟩
              clear l3 c30 c31 f30 f31 l4 c40 c41 f40 f41 F3' F4 hb4
              generalize w4.alloc (.cells #[.int .i64 0, .int .i64 0] 23) = W4 at *
              generalize w4.heap.size = b4 at *
              go_wp2_with (at_builtin; refine wpList_app1 W4 rfl (.tmp 114) (.tmp 117) rfl W0.heap.size _ L HO4.out rfl (GF.mk q HQ.out) _ rfl (by omega) hsz ?_; intro v6 w6 ho6 hc6)
              have hb6 := BW4.trans hc6
              go_wp2
              go_roundw
              case rel => first | exact ⟨k + 1, by omega, by go_num, by (rw [HU.out]; exact ho6), hb6⟩ | ((repeat apply Exists.intro); exact ⟨⟨k + 1, by omega, by go_num, by (rw [HU.out]; exact ho6), hb6⟩, rfl⟩)
              case measure => simp [intOf]; omega
            · have x1 : ((D : Int) != K) = true := by simp only [bne_iff_ne, ne_eq]; exact hd0
              have x2 : ((D : Int) != -K) = false := by simp only [bne_eq_false_iff_eq]; exact hD
              clear hD hd0
              refine (tiLevelI2 _ _ hz).mono ?_
              rw [NR.out]
              rintro e w4 ⟨rfl, hb4⟩
              dsimp only
              have F4 := Has.new w4 0 0 23
              have F3' := (F3.below hb4).al (.cells #[.int .i64 0, .int .i64 0] 23)
              have BW4 := Bw.al (Bw.step BW3 hb4) (.cells #[.int .i64 0, .int .i64 0] 23)
              have HO4 := Lib.hid ((HO3.out.below hb4).below (below_new w4 (.cells #[.int .i64 0, .int .i64 0] 23)))
              have hsz := BW4.size
              obtain ⟨l3, c30, c31, f30, f31⟩ := id F3'
              obtain ⟨l4, c40, c41, f40, f41⟩ := id F4
              go_wp2_with fail
              refine (refIn_any _ _ _ _).mono ?_; rintro e w' ⟨rfl, rfl⟩
              clear l3 c30 c31 f30 f31 l4 c40 c41 f40 f41 F3' F4 hb4
              generalize w4.alloc (.cells #[.int .i64 0, .int .i64 0] 23) = W4 at *
              generalize w4.heap.size = b4 at *
              go_wp2_with (at_builtin; refine wpList_app1 W4 rfl (.tmp 114) (.tmp 117) rfl W0.heap.size _ L HO4.out rfl (GF.mk q HQ.out) _ rfl (by omega) hsz ?_; intro v6 w6 ho6 hc6)
              have hb6 := BW4.trans hc6
              go_wp2
              go_roundw
              case rel => first | exact ⟨k + 1, by omega, by go_num, by (rw [HU.out]; exact ho6), hb6⟩ | ((repeat apply Exists.intro); exact ⟨⟨k + 1, by omega, by go_num, by (rw [HU.out]; exact ho6), hb6⟩, rfl⟩)
              case measure => simp [intOf]; omega
        · obtain ⟨hz1, hz2, hz3⟩ := NZ.out.2 hz
          have NR := Lib.hid hz3
          have i2 := inF hz
          generalize K.natAbs = D at *
          clear NZ hz3
          go_wp2_with (go_at_call 12; refine (refIn_any _ _ _ _).mono ?_; rintro e w' ⟨rfl, rfl⟩)
          refine (HSH.out _).mono ?_; rintro e w3 ⟨rfl, hb3⟩
          have F3 := Has.new w3 0 0 23
          have BW3 := Bw.al (Bw.step hbr hb3) (.cells #[.int .i64 0, .int .i64 0] 23)
          have HO3 := Lib.hid ((HO.out.below hb3).below (below_new w3 (.cells #[.int .i64 0, .int .i64 0] 23)))
          clear ho
          go_wp2_with (go_at_call 12; refine (refIn_any _ _ _ _).mono ?_; rintro e w' ⟨rfl, rfl⟩)
          rcases hD with hD | hD
          · by_cases hd0 : (D : Int) = -K
            · have x1 : ((D : Int) != -K) = false := by simp only [bne_eq_false_iff_eq]; exact hd0
              clear hD hd0
              refine (tiLevelI2 _ _ ⟨hz1, hz2⟩).mono ?_
              rw [NR.out]
              rintro e w4 ⟨rfl, hb4⟩
              dsimp only
              have F4 := Has.new w4 0 0 23
              have F3' := (F3.below hb4).al (.cells #[.int .i64 0, .int .i64 0] 23)
              have BW4 := Bw.al (Bw.step BW3 hb4) (.cells #[.int .i64 0, .int .i64 0] 23)
              have HO4 := Lib.hid ((HO3.out.below hb4).below (below_new w4 (.cells #[.int .i64 0, .int .i64 0] 23)))
              have hsz := BW4.size
              obtain ⟨l3, c30, c31, f30, f31⟩ := id F3'
              obtain ⟨l4, c40, c41, f40, f41⟩ := id F4
              go_wp2_with fail
              refine (refIn_any _ _ _ _).mono ?_; rintro e w' ⟨rfl, rfl⟩
              clear l3 c30 c31 f30 f31 l4 c40 c41 f40 f41 F3' F4 hb4
              generalize w4.alloc (.cells #[.int .i64 0, .int .i64 0] 23) = W4 at *
              generalize w4.heap.size = b4 at *
              go_wp2_with (at_builtin; refine wpList_app1 W4 rfl (.tmp 114) (.tmp 117) rfl W0.heap.size _ L HO4.out rfl (GF.mk q HQ.out) _ rfl (by omega) hsz ?_; intro v6 w6 ho6 hc6)
              have hb6 := BW4.trans hc6
              go_wp2
              go_roundw
              case rel => first | exact ⟨k + 1, by omega, by go_num, by (rw [HU.out]; exact ho6), hb6⟩ | ((repeat apply Exists.intro); exact ⟨⟨k + 1, by omega, by go_num, by (rw [HU.out]; exact ho6), hb6⟩, rfl⟩)
              case measure => simp [intOf]; omega
            · have x1 : ((D : Int) != -K) = true := by simp only [bne_iff_ne, ne_eq]; exact hd0
              have x2 : ((D : Int) != K) = false := by simp only [bne_eq_false_iff_eq]; exact hD
              clear hD hd0
              refine (tiLevelI2 _ _ ⟨hz1, hz2⟩).mono ?_
              rw [NR.out]
              rintro e w4 ⟨rfl, hb4⟩
              dsimp only
              have F4 := Has.new w4 0 0 23
              have F3' := (F3.below hb4).al (.cells #[.int .i64 0, .int .i64 0] 23)
              have BW4 := Bw.al (Bw.step BW3 hb4) (.cells #[.int .i64 0, .int .i64 0] 23)
              have HO4 := Lib.hid ((HO3.out.below hb4).below (below_new w4 (.cells #[.int .i64 0, .int .i64 0] 23)))
              have hsz := BW4.size
              obtain ⟨l3, c30, c31, f30, f31⟩ := id F3'
              obtain ⟨l4, c40, c41, f40, f41⟩ := id F4
              go_wp2_with fail
              refine (refIn_any _ _ _ _).mono ?_; rintro e w' ⟨rfl, rfl⟩
              clear l3 c30 c31 f30 f31 l4 c40 c41 f40 f41 F3' F4 hb4
              generalize w4.alloc (.cells #[.int .i64 0, .int .i64 0] 23) = W4 at *
              generalize w4.heap.size = b4 at *
              go_wp2_with (at_builtin; refine wpList_app1 W4 rfl (.tmp 114) (.tmp 117) rfl W0.heap.size _ L HO4.out rfl (GF.mk q HQ.out) _ rfl (by omega) hsz ?_; intro v6 w6 ho6 hc6)
              have hb6 := BW4.trans hc6
              go_wp2
              go_roundw
              case rel => first | exact ⟨k + 1, by omega, by go_num, by (rw [HU.out]; exact ho6), hb6⟩ | ((repeat apply Exists.intro); exact ⟨⟨k + 1, by omega, by go_num, by (rw [HU.out]; exact ho6), hb6⟩, rfl⟩)
              case measure => simp [intOf]; omega
          · have x1 : ((D : Int) != -K) = false := by simp only [bne_eq_false_iff_eq]; exact hD
            clear hD
            refine (tiLevelI2 _ _ ⟨hz1, hz2⟩).mono ?_
            rw [NR.out]
            rintro e w4 ⟨rfl, hb4⟩
            dsimp only
            have F4 := Has.new w4 0 0 23
            have F3' := (F3.below hb4).al (.cells #[.int .i64 0, .int .i64 0] 23)
            have BW4 := Bw.al (Bw.step BW3 hb4) (.cells #[.int .i64 0, .int .i64 0] 23)
            have HO4 := Lib.hid ((HO3.out.below hb4).below (below_new w4 (.cells #[.int .i64 0, .int .i64 0] 23)))
            have hsz := BW4.size
            obtain ⟨l3, c30, c31, f30, f31⟩ := id F3'
            obtain ⟨l4, c40, c41, f40, f41⟩ := id F4
            go_wp2_with fail
            refine (refIn_any _ _ _ _).mono ?_; rintro e w' ⟨rfl, rfl⟩
            clear l3 c30 c31 f30 f31 l4 c40 c41 f40 f41 F3' F4 hb4
            generalize w4.alloc (.cells #[.int .i64 0, .int .i64 0] 23) = W4 at *
            generalize w4.heap.size = b4 at *
            go_wp2_with (at_builtin; refine wpList_app1 W4 rfl (.tmp 114) (.tmp 117) rfl W0.heap.size _ L HO4.out rfl (GF.mk q HQ.out) _ rfl (by omega) hsz ?_; intro v6 w6 ho6 hc6)
            have hb6 := BW4.trans hc6
            go_wp2
            go_roundw
            case rel => first | exact ⟨k + 1, by omega, by go_num, by (rw [HU.out]; exact ho6), hb6⟩ | ((repeat apply Exists.intro); exact ⟨⟨k + 1, by omega, by go_num, by (rw [HU.out]; exact ho6), hb6⟩, rfl⟩)
            case measure => simp [intOf]; omega
      · have NZ := noiseN2 (q := q) (K := 0) hq (by omega)
        rw [Int.add_zero] at NZ
        have NR := Lib.hid (NZ.1 (by omega))
        have HSH := Lib.hid (fun w => tiShade2 q w hq)
        generalize shN q 2 = t at *
        have hz : 0 ≤ (t : Int) ∧ (t : Int) ≤ 255 := by omega
        have i2 := inT hz
        clear NZ
        by_cases hkn : k < n
        · obtain ⟨b9, o9, rfl, hl9, hc9⟩ := (HRA.out.below (Bw.step BW hbr)).at hkn
          have hK : ¬ (-40 ≤ ns.getD k 0 ∧ ns.getD k 0 ≤ 40) := fun h => hin ⟨hkn, h⟩
          generalize ns.getD k 0 = K at *
          have i1 := inF hK
          clear hK hin
          go_wp2_with (go_at_call 12; refine (refIn_any _ _ _ _).mono ?_; rintro e w' ⟨rfl, rfl⟩)
          refine (HSH.out _).mono ?_; rintro e w3 ⟨rfl, hb3⟩
          have F3 := Has.new w3 0 0 23
          have BW3 := Bw.al (Bw.step hbr hb3) (.cells #[.int .i64 0, .int .i64 0] 23)
          have HO3 := Lib.hid ((HO.out.below hb3).below (below_new w3 (.cells #[.int .i64 0, .int .i64 0] 23)))
          clear ho
          go_wp2_with (go_at_call 12; refine (refIn_any _ _ _ _).mono ?_; rintro e w' ⟨rfl, rfl⟩)
          refine (tiLevelI2 _ _ hz).mono ?_
          rw [NR.out]
          rintro e w4 ⟨rfl, hb4⟩
          dsimp only
          have F4 := Has.new w4 0 0 23
          have F3' := (F3.below hb4).al (.cells #[.int .i64 0, .int .i64 0] 23)
          have BW4 := Bw.al (Bw.step BW3 hb4) (.cells #[.int .i64 0, .int .i64 0] 23)
          have HO4 := Lib.hid ((HO3.out.below hb4).below (below_new w4 (.cells #[.int .i64 0, .int .i64 0] 23)))
          have hsz := BW4.size
          obtain ⟨l3, c30, c31, f30, f31⟩ := id F3'
          obtain ⟨l4, c40, c41, f40, f41⟩ := id F4
          go_wp2_with fail
          refine (refIn_any _ _ _ _).mono ?_; rintro e w' ⟨rfl, rfl⟩
          clear l3 c30 c31 f30 f31 l4 c40 c41 f40 f41 F3' F4 hb4
          generalize w4.alloc (.cells #[.int .i64 0, .int .i64 0] 23) = W4 at *
          generalize w4.heap.size = b4 at *
          go_wp2_with (at_builtin; refine wpList_app1 W4 rfl (.tmp 114) (.tmp 117) rfl W0.heap.size _ L HO4.out rfl (GF.mk q HQ.out) _ rfl (by omega) hsz ?_; intro v6 w6 ho6 hc6)
          have hb6 := BW4.trans hc6
          go_wp2
          go_roundw
          case rel => first | exact ⟨k + 1, by omega, by go_num, by (rw [HU.out]; exact ho6), hb6⟩ | ((repeat apply Exists.intro); exact ⟨⟨k + 1, by omega, by go_num, by (rw [HU.out]; exact ho6), hb6⟩, rfl⟩)
          case measure => simp [intOf]; omega
        · have dn : decide ((k : Int) < n) = false := by simp only [decide_eq_false_iff_not]; omega
          clear hin
          go_wp2_with (go_at_call 12; refine (refIn_any _ _ _ _).mono ?_; rintro e w' ⟨rfl, rfl⟩)
          refine (HSH.out _).mono ?_; rintro e w3 ⟨rfl, hb3⟩
          have F3 := Has.new w3 0 0 23
          have BW3 := Bw.al (Bw.step hbr hb3) (.cells #[.int .i64 0, .int .i64 0] 23)
          have HO3 := Lib.hid ((HO.out.below hb3).below (below_new w3 (.cells #[.int .i64 0, .int .i64 0] 23)))
          clear ho
          go_wp2_with (go_at_call 12; refine (refIn_any _ _ _ _).mono ?_; rintro e w' ⟨rfl, rfl⟩)
          refine (tiLevelI2 _ _ hz).mono ?_
          rw [NR.out]
          rintro e w4 ⟨rfl, hb4⟩
          dsimp only
          have F4 := Has.new w4 0 0 23
          have F3' := (F3.below hb4).al (.cells #[.int .i64 0, .int .i64 0] 23)
          have BW4 := Bw.al (Bw.step BW3 hb4) (.cells #[.int .i64 0, .int .i64 0] 23)
          have HO4 := Lib.hid ((HO3.out.below hb4).below (below_new w4 (.cells #[.int .i64 0, .int .i64 0] 23)))
          have hsz := BW4.size
          obtain ⟨l3, c30, c31, f30, f31⟩ := id F3'
          obtain ⟨l4, c40, c41, f40, f41⟩ := id F4
          go_wp2_with fail
          refine (refIn_any _ _ _ _).mono ?_; rintro e w' ⟨rfl, rfl⟩
          clear l3 c30 c31 f30 f31 l4 c40 c41 f40 f41 F3' F4 hb4
          generalize w4.alloc (.cells #[.int .i64 0, .int .i64 0] 23) = W4 at *
          generalize w4.heap.size = b4 at *
          go_wp2_with (at_builtin; refine wpList_app1 W4 rfl (.tmp 114) (.tmp 117) rfl W0.heap.size _ L HO4.out rfl (GF.mk q HQ.out) _ rfl (by omega) hsz ?_; intro v6 w6 ho6 hc6)
          have hb6 := BW4.trans hc6
          go_wp2
          go_roundw
          case rel => first | exact ⟨k + 1, by omega, by go_num, by (rw [HU.out]; exact ho6), hb6⟩ | ((repeat apply Exists.intro); exact ⟨⟨k + 1, by omega, by go_num, by (rw [HU.out]; exact ho6), hb6⟩, rfl⟩)
          case measure => simp [intOf]; omega
    · obtain rfl : k = 8 := by omega
      rw [cellsUp_full b 2 rfl] at ho
      obtain ⟨A9, c9, rfl⟩ := ho.form
      have hl : (cellsT b 2).length = 8 := cellsT_len b 2
      rw [hl] at ho ⊢
      have R9 := ho.rd.1
      have BW9 := Bw.step BW hbr
      have F9 := F1.below hbr
      clear ho
      go_wp2_with fail
      refine (tiJoin2 _ _ _ _ R9 CL.out).mono ?_
      rw [BJ.out, ← EZ.out]
      rintro e w3 ⟨rfl, hb3⟩
      have F3 := Has.new w3 0 0 23
      have F10 := (F9.below hb3).al (.cells #[.int .i64 0, .int .i64 0] 23)
      have BW3 := Bw.al (Bw.step BW9 hb3) (.cells #[.int .i64 0, .int .i64 0] 23)
      obtain ⟨l3, c30, c31, f30, f31⟩ := id F10
      go_wp2_with (go_at_call 11; refine (tinted_any _).mono ?_; rintro e w' ⟨rfl, hb6⟩)
      go_ret
      exact ⟨rfl, Bw.step BW3 hb6⟩
theorem tiLevelI4 (s : Int) (w : World) (hs : 0 ≤ s ∧ s ≤ 255) :
    Calls Try.prog 9 #[.int .i64 s, .int .i64 4] w fun e w' => e = .returned (.tuple #[.int .i64 ((near s.toNat 4 4).1 : Nat), .int .i64 ((near s.toNat 4 4).2 : Nat), .agg #[.int .i64 0, .int .i64 0]]) ∧ Below w.heap.size w w' := by
  have := tiLevel4 s.toNat w (by omega)
  rwa [Int.toNat_of_nonneg hs.1] at this
theorem noiseN4 {q : Nat} {K : Int} (hq : q < 4) (hK : -40 ≤ K ∧ K ≤ 40) : (0 ≤ ((shN q 4 : Nat) : Int) + K ∧ ((shN q 4 : Nat) : Int) + K ≤ 255 → near (((shN q 4 : Nat) : Int) + K).toNat 4 4 = (q, K.natAbs)) ∧ (¬ (0 ≤ ((shN q 4 : Nat) : Int) + K ∧ ((shN q 4 : Nat) : Int) + K ≤ 255) → 0 ≤ ((shN q 4 : Nat) : Int) - K ∧ ((shN q 4 : Nat) : Int) - K ≤ 255 ∧ near (((shN q 4 : Nat) : Int) - K).toNat 4 4 = (q, K.natAbs)) := by
  obtain ⟨j, hj⟩ := Int.eq_ofNat_of_zero_le (show 0 ≤ K + 40 by omega)
  have e : K = (j : Int) - 40 := by omega
  subst e
  exact noiseB_of (noise4 hq (by omega))
set_option maxRecDepth 100000 in
set_option maxHeartbeats 4000000 in
theorem walkNoise4 (b : GF) (A : Option Addr) (n c : Nat) (ns : List Int) (w : World) (RA : RdI w A n ns) (hn : n ≤ 9223372036854775807) :
    Calls Try.prog 7 #[.int .u8 b.z, .slice A n c, .int .i64 4] w fun e w' => e = .returned (.bool true) ∧ Below w.heap.size w w' := by
  have BJ := Lib.hid (join_cells (lv := 4) (by omega) b)
  have CL := Lib.hid (cells_lt (lv := 4) (by omega) b)
  have ez : b.z = ((b.v : Nat) : Int) := rfl
  have EZ := Lib.hid ez
  have HRA := Lib.hid RA
  have HLN := Lib.hid RA.1
  clear RA ez
  go_enter Try.func7, Try.ntmps7
  go_wp2_with fail
  refine (tiSplit4 b _).mono ?_; rintro e w1 ⟨A1, c1, rfl, ho1, hb1⟩
  have F1 := Has.new w1 0 0 23
  have R1 := Lib.hid (ho1.rd.1.al (.cells #[.int .i64 0, .int .i64 0] 23))
  have BW := Bw.al hb1 (.cells #[.int .i64 0, .int .i64 0] 23)
  have hb1s := hb1.size
  have O1 := Lib.hid (ho1.below (below_new w1 (.cells #[.int .i64 0, .int .i64 0] 23)))
  clear ho1 hb1
  go_wp2
  generalize hW0 : w1.alloc (.cells #[.int .i64 0, .int .i64 0] 23) = W0 at *
  clear hW0 hb1s O1
  generalize w1.heap.size = b1 at *
  go_loopw [9, 10] (fun v i wr => ∃ k : Nat, k ≤ 4 ∧ i = .int .i64 k ∧ OwB wr W0.heap.size v (cellsUp b 4 k) ∧ Below W0.heap.size W0 wr) (fun _ i _ => 4 - (intOf i).toNat)
  case atStart => exact ⟨0, Nat.zero_le _, rfl, OwB.nil _ _, Below.refl _ _⟩
  case round =>
    obtain ⟨k, hk, rfl, ho, hbr⟩ := hrel
    by_cases hlt : k < 4
    · obtain ⟨bb, oo, rfl, hlb, hcc⟩ := (R1.out.below hbr).2 (by omega)
      have hx := hcc k hlt
      rw [cells_get (lv := 4) b (by omega)] at hx
      have hq : cellN b.v 4 k < 4 := cellN_lt (by omega) _ _
      have ey : (cellG b 4 k).z = ((cellN b.v 4 k : Nat) : Int) := by unfold GF.z; rw [cellG_v (by omega)]
      rw [ey] at hx
      have HQ := Lib.hid (show cellN b.v 4 k < 256 by omega)
      have HU := Lib.hid (show cellsUp b 4 (k + 1) = cellsUp b 4 k ++ [GF.mk (cellN b.v 4 k) HQ.out] by
        rw [cellsUp_succ]; congr 2; exact GF.ext (cellG_v (by omega) b k))
      have hl := cellsUp_len b 4 k
      have HO := Lib.hid ho
      generalize cellN b.v 4 k = q at *
      generalize cellsUp b 4 k = L at *
      have hsh := shN_le q 4
      have iq := inT (n := (q : Int)) (lo := 0) (hi := 3) (by omega)
      clear hcc ey
      by_cases hin : k < n ∧ -40 ≤ ns.getD k 0 ∧ ns.getD k 0 ≤ 40
      · obtain ⟨hkn, hK⟩ := hin
        obtain ⟨b9, o9, rfl, hl9, hc9⟩ := (HRA.out.below (Bw.step BW hbr)).at hkn
        generalize ns.getD k 0 = K at *
        have i1 := inT hK
        have NZ := Lib.hid (noiseN4 hq hK)
        have HSH := Lib.hid (fun w => tiShade4 q w hq)
        generalize shN q 4 = t at *
        have hD : ((K.natAbs : Nat) : Int) = K ∨ ((K.natAbs : Nat) : Int) = -K := by omega
        have hD2 : ((K.natAbs : Nat) : Int) ≤ 40 := by omega
        by_cases hz : 0 ≤ (t : Int) + K ∧ (t : Int) + K ≤ 255
        · have NR := Lib.hid (NZ.out.1 hz)
          have i2 := inT hz
          generalize K.natAbs = D at *
          clear NZ
          go_wp2_with (go_at_call 12; refine (refIn_any _ _ _ _).mono ?_; rintro e w' ⟨rfl, rfl⟩)
          refine (HSH.out _).mono ?_; rintro e w3 ⟨rfl, hb3⟩
          have F3 := Has.new w3 0 0 23
          have BW3 := Bw.al (Bw.step hbr hb3) (.cells #[.int .i64 0, .int .i64 0] 23)
          have HO3 := Lib.hid ((HO.out.below hb3).below (below_new w3 (.cells #[.int .i64 0, .int .i64 0] 23)))
          clear ho
          go_wp2_with (go_at_call 12; refine (refIn_any _ _ _ _).mono ?_; rintro e w' ⟨rfl, rfl⟩)
          rcases hD with hD | hD
          · have x1 : ((D : Int) != K) = false := by simp only [bne_eq_false_iff_eq]; exact hD
            clear hD
            refine (tiLevelI4 _ _ hz).mono ?_
            rw [NR.out]
            rintro e w4 ⟨rfl, hb4⟩
            dsimp only
            have F4 := Has.new w4 0 0 23
            have F3' := (F3.below hb4).al (.cells #[.int .i64 0, .int .i64 0] 23)
            have BW4 := Bw.al (Bw.step BW3 hb4) (.cells #[.int .i64 0, .int .i64 0] 23)
            have HO4 := Lib.hid ((HO3.out.below hb4).below (below_new w4 (.cells #[.int .i64 0, .int .i64 0] 23)))
            have hsz := BW4.size
            obtain ⟨l3, c30, c31, f30, f31⟩ := id F3'
            obtain ⟨l4, c40, c41, f40, f41⟩ := id F4
            go_wp2_with fail
            refine (refIn_any _ _ _ _).mono ?_; rintro e w' ⟨rfl, rfl⟩
            clear l3 c30 c31 f30 f31 l4 c40 c41 f40 f41 F3' F4 hb4
            generalize w4.alloc (.cells #[.int .i64 0, .int .i64 0] 23) = W4 at *
            generalize w4.heap.size = b4 at *
            go_wp2_with (at_builtin; refine wpList_app1 W4 rfl (.tmp 114) (.tmp 117) rfl W0.heap.size _ L HO4.out rfl (GF.mk q HQ.out) _ rfl (by omega) hsz ?_; intro v6 w6 ho6 hc6)
            have hb6 := BW4.trans hc6
            go_wp2
            go_roundw
            case rel => first | exact ⟨k + 1, by omega, by go_num, by (rw [HU.out]; exact ho6), hb6⟩ | ((repeat apply Exists.intro); exact ⟨⟨k + 1, by omega, by go_num, by (rw [HU.out]; exact ho6), hb6⟩, rfl⟩)
            case measure => simp [intOf]; omega
          · by_cases hd0 : (D : Int) = K
            · have x1 : ((D : Int) != K) = false := by simp only [bne_eq_false_iff_eq]; exact hd0
              clear hD hd0
              refine (tiLevelI4 _ _ hz).mono ?_
              rw [NR.out]
              rintro e w4 ⟨rfl, hb4⟩
              dsimp only
              have F4 := Has.new w4 0 0 23
              have F3' := (F3.below hb4).al (.cells #[.int .i64 0, .int .i64 0] 23)
              have BW4 := Bw.al (Bw.step BW3 hb4) (.cells #[.int .i64 0, .int .i64 0] 23)
              have HO4 := Lib.hid ((HO3.out.below hb4).below (below_new w4 (.cells #[.int .i64 0, .int .i64 0] 23)))
              have hsz := BW4.size
              obtain ⟨l3, c30, c31, f30, f31⟩ := id F3'
              obtain ⟨l4, c40, c41, f40, f41⟩ := id F4
              go_wp2_with fail
              refine (refIn_any _ _ _ _).mono ?_; rintro e w' ⟨rfl, rfl⟩
              clear l3 c30 c31 f30 f31 l4 c40 c41 f40 f41 F3' F4 hb4
              generalize w4.alloc (.cells #[.int .i64 0, .int .i64 0] 23) = W4 at *
              generalize w4.heap.size = b4 at *
              go_wp2_with (at_builtin; refine wpList_app1 W4 rfl (.tmp 114) (.tmp 117) rfl W0.heap.size _ L HO4.out rfl (GF.mk q HQ.out) _ rfl (by omega) hsz ?_; intro v6 w6 ho6 hc6)
              have hb6 := BW4.trans hc6
              go_wp2
              go_roundw
              case rel => first | exact ⟨k + 1, by omega, by go_num, by (rw [HU.out]; exact ho6), hb6⟩ | ((repeat apply Exists.intro); exact ⟨⟨k + 1, by omega, by go_num, by (rw [HU.out]; exact ho6), hb6⟩, rfl⟩)
              case measure => simp [intOf]; omega
            · have x1 : ((D : Int) != K) = true := by simp only [bne_iff_ne, ne_eq]; exact hd0
              have x2 : ((D : Int) != -K) = false := by simp only [bne_eq_false_iff_eq]; exact hD
              clear hD hd0
              refine (tiLevelI4 _ _ hz).mono ?_
              rw [NR.out]
              rintro e w4 ⟨rfl, hb4⟩
              dsimp only
              have F4 := Has.new w4 0 0 23
              have F3' := (F3.below hb4).al (.cells #[.int .i64 0, .int .i64 0] 23)
              have BW4 := Bw.al (Bw.step BW3 hb4) (.cells #[.int .i64 0, .int .i64 0] 23)
              have HO4 := Lib.hid ((HO3.out.below hb4).below (below_new w4 (.cells #[.int .i64 0, .int .i64 0] 23)))
              have hsz := BW4.size
              obtain ⟨l3, c30, c31, f30, f31⟩ := id F3'
              obtain ⟨l4, c40, c41, f40, f41⟩ := id F4
              go_wp2_with fail
              refine (refIn_any _ _ _ _).mono ?_; rintro e w' ⟨rfl, rfl⟩
              clear l3 c30 c31 f30 f31 l4 c40 c41 f40 f41 F3' F4 hb4
              generalize w4.alloc (.cells #[.int .i64 0, .int .i64 0] 23) = W4 at *
              generalize w4.heap.size = b4 at *
              go_wp2_with (at_builtin; refine wpList_app1 W4 rfl (.tmp 114) (.tmp 117) rfl W0.heap.size _ L HO4.out rfl (GF.mk q HQ.out) _ rfl (by omega) hsz ?_; intro v6 w6 ho6 hc6)
              have hb6 := BW4.trans hc6
              go_wp2
              go_roundw
              case rel => first | exact ⟨k + 1, by omega, by go_num, by (rw [HU.out]; exact ho6), hb6⟩ | ((repeat apply Exists.intro); exact ⟨⟨k + 1, by omega, by go_num, by (rw [HU.out]; exact ho6), hb6⟩, rfl⟩)
              case measure => simp [intOf]; omega
        · obtain ⟨hz1, hz2, hz3⟩ := NZ.out.2 hz
          have NR := Lib.hid hz3
          have i2 := inF hz
          generalize K.natAbs = D at *
          clear NZ hz3
          go_wp2_with (go_at_call 12; refine (refIn_any _ _ _ _).mono ?_; rintro e w' ⟨rfl, rfl⟩)
          refine (HSH.out _).mono ?_; rintro e w3 ⟨rfl, hb3⟩
          have F3 := Has.new w3 0 0 23
          have BW3 := Bw.al (Bw.step hbr hb3) (.cells #[.int .i64 0, .int .i64 0] 23)
          have HO3 := Lib.hid ((HO.out.below hb3).below (below_new w3 (.cells #[.int .i64 0, .int .i64 0] 23)))
          clear ho
          go_wp2_with (go_at_call 12; refine (refIn_any _ _ _ _).mono ?_; rintro e w' ⟨rfl, rfl⟩)
          rcases hD with hD | hD
          · by_cases hd0 : (D : Int) = -K
            · have x1 : ((D : Int) != -K) = false := by simp only [bne_eq_false_iff_eq]; exact hd0
              clear hD hd0
              refine (tiLevelI4 _ _ ⟨hz1, hz2⟩).mono ?_
              rw [NR.out]
              rintro e w4 ⟨rfl, hb4⟩
              dsimp only
              have F4 := Has.new w4 0 0 23
              have F3' := (F3.below hb4).al (.cells #[.int .i64 0, .int .i64 0] 23)
              have BW4 := Bw.al (Bw.step BW3 hb4) (.cells #[.int .i64 0, .int .i64 0] 23)
              have HO4 := Lib.hid ((HO3.out.below hb4).below (below_new w4 (.cells #[.int .i64 0, .int .i64 0] 23)))
              have hsz := BW4.size
              obtain ⟨l3, c30, c31, f30, f31⟩ := id F3'
              obtain ⟨l4, c40, c41, f40, f41⟩ := id F4
              go_wp2_with fail
              refine (refIn_any _ _ _ _).mono ?_; rintro e w' ⟨rfl, rfl⟩
              clear l3 c30 c31 f30 f31 l4 c40 c41 f40 f41 F3' F4 hb4
              generalize w4.alloc (.cells #[.int .i64 0, .int .i64 0] 23) = W4 at *
              generalize w4.heap.size = b4 at *
              go_wp2_with (at_builtin; refine wpList_app1 W4 rfl (.tmp 114) (.tmp 117) rfl W0.heap.size _ L HO4.out rfl (GF.mk q HQ.out) _ rfl (by omega) hsz ?_; intro v6 w6 ho6 hc6)
              have hb6 := BW4.trans hc6
              go_wp2
              go_roundw
              case rel => first | exact ⟨k + 1, by omega, by go_num, by (rw [HU.out]; exact ho6), hb6⟩ | ((repeat apply Exists.intro); exact ⟨⟨k + 1, by omega, by go_num, by (rw [HU.out]; exact ho6), hb6⟩, rfl⟩)
              case measure => simp [intOf]; omega
            · have x1 : ((D : Int) != -K) = true := by simp only [bne_iff_ne, ne_eq]; exact hd0
              have x2 : ((D : Int) != K) = false := by simp only [bne_eq_false_iff_eq]; exact hD
              clear hD hd0
              refine (tiLevelI4 _ _ ⟨hz1, hz2⟩).mono ?_
              rw [NR.out]
              rintro e w4 ⟨rfl, hb4⟩
              dsimp only
              have F4 := Has.new w4 0 0 23
              have F3' := (F3.below hb4).al (.cells #[.int .i64 0, .int .i64 0] 23)
              have BW4 := Bw.al (Bw.step BW3 hb4) (.cells #[.int .i64 0, .int .i64 0] 23)
              have HO4 := Lib.hid ((HO3.out.below hb4).below (below_new w4 (.cells #[.int .i64 0, .int .i64 0] 23)))
              have hsz := BW4.size
              obtain ⟨l3, c30, c31, f30, f31⟩ := id F3'
              obtain ⟨l4, c40, c41, f40, f41⟩ := id F4
              go_wp2_with fail
              refine (refIn_any _ _ _ _).mono ?_; rintro e w' ⟨rfl, rfl⟩
              clear l3 c30 c31 f30 f31 l4 c40 c41 f40 f41 F3' F4 hb4
              generalize w4.alloc (.cells #[.int .i64 0, .int .i64 0] 23) = W4 at *
              generalize w4.heap.size = b4 at *
              go_wp2_with (at_builtin; refine wpList_app1 W4 rfl (.tmp 114) (.tmp 117) rfl W0.heap.size _ L HO4.out rfl (GF.mk q HQ.out) _ rfl (by omega) hsz ?_; intro v6 w6 ho6 hc6)
              have hb6 := BW4.trans hc6
              go_wp2
              go_roundw
              case rel => first | exact ⟨k + 1, by omega, by go_num, by (rw [HU.out]; exact ho6), hb6⟩ | ((repeat apply Exists.intro); exact ⟨⟨k + 1, by omega, by go_num, by (rw [HU.out]; exact ho6), hb6⟩, rfl⟩)
              case measure => simp [intOf]; omega
          · have x1 : ((D : Int) != -K) = false := by simp only [bne_eq_false_iff_eq]; exact hD
            clear hD
            refine (tiLevelI4 _ _ ⟨hz1, hz2⟩).mono ?_
            rw [NR.out]
            rintro e w4 ⟨rfl, hb4⟩
            dsimp only
            have F4 := Has.new w4 0 0 23
            have F3' := (F3.below hb4).al (.cells #[.int .i64 0, .int .i64 0] 23)
            have BW4 := Bw.al (Bw.step BW3 hb4) (.cells #[.int .i64 0, .int .i64 0] 23)
            have HO4 := Lib.hid ((HO3.out.below hb4).below (below_new w4 (.cells #[.int .i64 0, .int .i64 0] 23)))
            have hsz := BW4.size
            obtain ⟨l3, c30, c31, f30, f31⟩ := id F3'
            obtain ⟨l4, c40, c41, f40, f41⟩ := id F4
            go_wp2_with fail
            refine (refIn_any _ _ _ _).mono ?_; rintro e w' ⟨rfl, rfl⟩
            clear l3 c30 c31 f30 f31 l4 c40 c41 f40 f41 F3' F4 hb4
            generalize w4.alloc (.cells #[.int .i64 0, .int .i64 0] 23) = W4 at *
            generalize w4.heap.size = b4 at *
            go_wp2_with (at_builtin; refine wpList_app1 W4 rfl (.tmp 114) (.tmp 117) rfl W0.heap.size _ L HO4.out rfl (GF.mk q HQ.out) _ rfl (by omega) hsz ?_; intro v6 w6 ho6 hc6)
            have hb6 := BW4.trans hc6
            go_wp2
            go_roundw
            case rel => first | exact ⟨k + 1, by omega, by go_num, by (rw [HU.out]; exact ho6), hb6⟩ | ((repeat apply Exists.intro); exact ⟨⟨k + 1, by omega, by go_num, by (rw [HU.out]; exact ho6), hb6⟩, rfl⟩)
            case measure => simp [intOf]; omega
      · have NZ := noiseN4 (q := q) (K := 0) hq (by omega)
        rw [Int.add_zero] at NZ
        have NR := Lib.hid (NZ.1 (by omega))
        have HSH := Lib.hid (fun w => tiShade4 q w hq)
        generalize shN q 4 = t at *
        have hz : 0 ≤ (t : Int) ∧ (t : Int) ≤ 255 := by omega
        have i2 := inT hz
        clear NZ
        by_cases hkn : k < n
        · obtain ⟨b9, o9, rfl, hl9, hc9⟩ := (HRA.out.below (Bw.step BW hbr)).at hkn
          have hK : ¬ (-40 ≤ ns.getD k 0 ∧ ns.getD k 0 ≤ 40) := fun h => hin ⟨hkn, h⟩
          generalize ns.getD k 0 = K at *
          have i1 := inF hK
          clear hK hin
          go_wp2_with (go_at_call 12; refine (refIn_any _ _ _ _).mono ?_; rintro e w' ⟨rfl, rfl⟩)
          refine (HSH.out _).mono ?_; rintro e w3 ⟨rfl, hb3⟩
          have F3 := Has.new w3 0 0 23
          have BW3 := Bw.al (Bw.step hbr hb3) (.cells #[.int .i64 0, .int .i64 0] 23)
          have HO3 := Lib.hid ((HO.out.below hb3).below (below_new w3 (.cells #[.int .i64 0, .int .i64 0] 23)))
          clear ho
          go_wp2_with (go_at_call 12; refine (refIn_any _ _ _ _).mono ?_; rintro e w' ⟨rfl, rfl⟩)
          refine (tiLevelI4 _ _ hz).mono ?_
          rw [NR.out]
          rintro e w4 ⟨rfl, hb4⟩
          dsimp only
          have F4 := Has.new w4 0 0 23
          have F3' := (F3.below hb4).al (.cells #[.int .i64 0, .int .i64 0] 23)
          have BW4 := Bw.al (Bw.step BW3 hb4) (.cells #[.int .i64 0, .int .i64 0] 23)
          have HO4 := Lib.hid ((HO3.out.below hb4).below (below_new w4 (.cells #[.int .i64 0, .int .i64 0] 23)))
          have hsz := BW4.size
          obtain ⟨l3, c30, c31, f30, f31⟩ := id F3'
          obtain ⟨l4, c40, c41, f40, f41⟩ := id F4
          go_wp2_with fail
          refine (refIn_any _ _ _ _).mono ?_; rintro e w' ⟨rfl, rfl⟩
          clear l3 c30 c31 f30 f31 l4 c40 c41 f40 f41 F3' F4 hb4
          generalize w4.alloc (.cells #[.int .i64 0, .int .i64 0] 23) = W4 at *
          generalize w4.heap.size = b4 at *
          go_wp2_with (at_builtin; refine wpList_app1 W4 rfl (.tmp 114) (.tmp 117) rfl W0.heap.size _ L HO4.out rfl (GF.mk q HQ.out) _ rfl (by omega) hsz ?_; intro v6 w6 ho6 hc6)
          have hb6 := BW4.trans hc6
          go_wp2
          go_roundw
          case rel => first | exact ⟨k + 1, by omega, by go_num, by (rw [HU.out]; exact ho6), hb6⟩ | ((repeat apply Exists.intro); exact ⟨⟨k + 1, by omega, by go_num, by (rw [HU.out]; exact ho6), hb6⟩, rfl⟩)
          case measure => simp [intOf]; omega
        · have dn : decide ((k : Int) < n) = false := by simp only [decide_eq_false_iff_not]; omega
          clear hin
          go_wp2_with (go_at_call 12; refine (refIn_any _ _ _ _).mono ?_; rintro e w' ⟨rfl, rfl⟩)
          refine (HSH.out _).mono ?_; rintro e w3 ⟨rfl, hb3⟩
          have F3 := Has.new w3 0 0 23
          have BW3 := Bw.al (Bw.step hbr hb3) (.cells #[.int .i64 0, .int .i64 0] 23)
          have HO3 := Lib.hid ((HO.out.below hb3).below (below_new w3 (.cells #[.int .i64 0, .int .i64 0] 23)))
          clear ho
          go_wp2_with (go_at_call 12; refine (refIn_any _ _ _ _).mono ?_; rintro e w' ⟨rfl, rfl⟩)
          refine (tiLevelI4 _ _ hz).mono ?_
          rw [NR.out]
          rintro e w4 ⟨rfl, hb4⟩
          dsimp only
          have F4 := Has.new w4 0 0 23
          have F3' := (F3.below hb4).al (.cells #[.int .i64 0, .int .i64 0] 23)
          have BW4 := Bw.al (Bw.step BW3 hb4) (.cells #[.int .i64 0, .int .i64 0] 23)
          have HO4 := Lib.hid ((HO3.out.below hb4).below (below_new w4 (.cells #[.int .i64 0, .int .i64 0] 23)))
          have hsz := BW4.size
          obtain ⟨l3, c30, c31, f30, f31⟩ := id F3'
          obtain ⟨l4, c40, c41, f40, f41⟩ := id F4
          go_wp2_with fail
          refine (refIn_any _ _ _ _).mono ?_; rintro e w' ⟨rfl, rfl⟩
          clear l3 c30 c31 f30 f31 l4 c40 c41 f40 f41 F3' F4 hb4
          generalize w4.alloc (.cells #[.int .i64 0, .int .i64 0] 23) = W4 at *
          generalize w4.heap.size = b4 at *
          go_wp2_with (at_builtin; refine wpList_app1 W4 rfl (.tmp 114) (.tmp 117) rfl W0.heap.size _ L HO4.out rfl (GF.mk q HQ.out) _ rfl (by omega) hsz ?_; intro v6 w6 ho6 hc6)
          have hb6 := BW4.trans hc6
          go_wp2
          go_roundw
          case rel => first | exact ⟨k + 1, by omega, by go_num, by (rw [HU.out]; exact ho6), hb6⟩ | ((repeat apply Exists.intro); exact ⟨⟨k + 1, by omega, by go_num, by (rw [HU.out]; exact ho6), hb6⟩, rfl⟩)
          case measure => simp [intOf]; omega
    · obtain rfl : k = 4 := by omega
      rw [cellsUp_full b 4 rfl] at ho
      obtain ⟨A9, c9, rfl⟩ := ho.form
      have hl : (cellsT b 4).length = 4 := cellsT_len b 4
      rw [hl] at ho ⊢
      have R9 := ho.rd.1
      have BW9 := Bw.step BW hbr
      have F9 := F1.below hbr
      clear ho
      go_wp2_with fail
      refine (tiJoin4 _ _ _ _ R9 CL.out).mono ?_
      rw [BJ.out, ← EZ.out]
      rintro e w3 ⟨rfl, hb3⟩
      have F3 := Has.new w3 0 0 23
      have F10 := (F9.below hb3).al (.cells #[.int .i64 0, .int .i64 0] 23)
      have BW3 := Bw.al (Bw.step BW9 hb3) (.cells #[.int .i64 0, .int .i64 0] 23)
      obtain ⟨l3, c30, c31, f30, f31⟩ := id F10
      go_wp2_with (go_at_call 11; refine (tinted_any _).mono ?_; rintro e w' ⟨rfl, hb6⟩)
      go_ret
      exact ⟨rfl, Bw.step BW3 hb6⟩
set_option maxRecDepth 100000 in
set_option maxHeartbeats 1000000 in
theorem walkNoiseBad (b lv : Int) (A : Option Addr) (n c : Nat) (w : World) (h2 : lv ≠ 2) (h4 : lv ≠ 4) :
    Calls Try.prog 7 #[.int .u8 b, .slice A n c, .int .i64 lv] w fun e w' => e = .returned (.bool true) ∧ Below w.heap.size w w' := by
  have x2 : (lv != 2) = true := by simpa using h2
  have x4 : (lv != 4) = true := by simpa using h4
  go_enter Try.func7, Try.ntmps7
  go_wp2_with fail
  refine (tiSplit_bad _ _ _ h2 h4).mono ?_; rintro e w1 ⟨rfl, hb1⟩
  go_wp2_with (go_at_call 11; refine (tinted_any _).mono ?_; rintro e w' ⟨rfl, hb6⟩)
  go_ret
  exact ⟨rfl, by (repeat (first | exact Below.refl _ _ | assumption | refine Bw.al ?_ _ | refine Bw.step ?_ (by assumption) | refine Bw.drew ?_))⟩
theorem walkTintToleratesNoise (b : Int) (A : Option Addr) (n c : Nat) (zs : List Int) (lv : Int) (w : World) (w0 : (Lit.int .u8 b).wf = true) (w1 : IsRow .i64 w A n c zs) (w2 : (Lit.int .i64 lv).wf = true) :
    Calls Try.prog 7 #[.int .u8 b, .slice A n c, .int .i64 lv] w fun e w' => e = .returned (.bool true) ∧ Below w.heap.size w w' := by
  obtain ⟨b, rfl⟩ := GF.of_z (wfu8 w0)
  obtain ⟨l, hR, hn, hc, _⟩ := w1.ints
  by_cases h2 : lv = 2
  · subst h2; exact walkNoise2 b A n c l w hR hn
  · by_cases h4 : lv = 4
    · subst h4; exact walkNoise4 b A n c l w hR hn
    · exact walkNoiseBad _ lv A n c w h2 h4
end Go.Proofs.Ytbhcjgjeedhnaaa
