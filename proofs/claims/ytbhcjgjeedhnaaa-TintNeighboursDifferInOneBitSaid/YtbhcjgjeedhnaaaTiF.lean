/- The walk of the statement TintShadesMatchSpec, with Shade, Shades, Nearest and the known examples. -/
import Derived.Test.YtbhcjgjeedhnaaaTiE
namespace Go.Proofs.Ytbhcjgjeedhnaaa
open Go.RowKit
set_option linter.unusedVariables false

def shadesT (lv : Nat) : List Int := (List.range lv).map fun k => ((shN k lv : Nat) : Int)
theorem shadesT_get {lv k : Nat} (h : k < lv) : (shadesT lv).getD k 0 = ((shN k lv : Nat) : Int) := by simp [shadesT, List.getD, h]
theorem dist_iff {s t d : Nat} (h : dist s t = d) : ((t : Int) = s + d) ∨ (t : Int) = s - d := by unfold dist at h; split at h <;> omega
theorem dist_ne {s t d : Nat} (h : dist s t ≠ d) : ((t : Int) ≠ s + d) ∧ (t : Int) ≠ s - d := by
  unfold dist at h
  constructor
  · intro e; split at h <;> omega
  · intro e; split at h <;> omega
theorem ex_cells : cellsT (GF.mk 27 (by decide)) 4 = [GF.mk 0 (by decide), GF.mk 1 (by decide), GF.mk 3 (by decide), GF.mk 2 (by decide)] := by decide +kernel
theorem ex_near : near 130 4 4 = (1, 40) := by decide +kernel
theorem RdB.l4 (w : World) (g : Nat) (x y z u : Int) (a b c d : GF) (t : TypeId) (hg : g = w.heap.size) (h : x = a.z ∧ y = b.z ∧ z = c.z ∧ u = d.z) : RdB (w.alloc (.cells #[.int .u8 x, .int .u8 y, .int .u8 z, .int .u8 u] t)) (some ⟨g, 0, none⟩) 4 [a, b, c, d] := by
  subst hg
  obtain ⟨rfl, rfl, rfl, rfl⟩ := h
  refine ⟨rfl, fun hn => ⟨_, 0, rfl, by simp, fun i hi => ?_⟩⟩
  obtain rfl | rfl | rfl | rfl : i = 0 ∨ i = 1 ∨ i = 2 ∨ i = 3 := by omega
  all_goals simp [go_sem]
set_option maxRecDepth 100000 in
set_option maxHeartbeats 1000000 in
theorem tinted_any (w : World) : Calls Try.prog 11 #[] w fun e w' => e = .returned (.bool true) ∧ Below w.heap.size w w' := by
  have s1 := Lib.hid (sameB_self [GF.mk 0 (by decide), GF.mk 1 (by decide), GF.mk 3 (by decide), GF.mk 2 (by decide)])
  go_enter Try.func11, Try.ntmps11
  go_wp2_with fail
  refine (tiSplit4 (GF.mk 27 (by decide)) _).mono ?_
  rw [ex_cells]
  rintro e w1 ⟨A1, c1, rfl, ho1, hb1⟩
  have F1 := Has.new w1 0 0 23
  have R1 := ho1.rd.1
  clear ho1
  go_wp2_with fail
  refine (tiLevel4 130 _ (by omega)).mono ?_
  rw [ex_near]
  rintro e w2 ⟨rfl, hb2⟩
  have F1 := F1.below hb2
  have R1 := (R1.al _).below hb2
  have F1 := F1.al (.cells #[.int .i64 0, .int .i64 0] 23)
  have F2 := Has.new w2 0 0 23
  have R1 := R1.al (.cells #[.int .i64 0, .int .i64 0] 23)
  obtain ⟨l1, c10, c11, f10, f11⟩ := id F1
  obtain ⟨l2, c20, c21, f20, f21⟩ := id F2
  go_wp2_with fail
  refine (refSame_any _ _ _ _ _ _ _ _ _ (R1.al _) (RdB.l4 _ _ 0 1 3 2 (GF.mk 0 (by decide)) (GF.mk 1 (by decide)) (GF.mk 3 (by decide)) (GF.mk 2 (by decide)) _ (by first | rfl | simp) ⟨rfl, rfl, rfl, rfl⟩)).mono ?_
  rw [s1.out]
  rintro e w3 ⟨rfl, rfl⟩
  go_wp2
  go_ret
  exact ⟨rfl, by (repeat (first | exact Below.refl _ _ | assumption | refine Bw.al ?_ _ | refine Bw.step ?_ (by assumption) | refine Bw.drew ?_))⟩
set_option maxHeartbeats 1000000 in
theorem rShades2 (w : World) : Calls Try.prog 13 #[.int .i64 2] w fun e w' => ∃ A, e = .returned (.slice A 2 2) ∧ RdI w' A 2 (shadesT 2) ∧ Below w.heap.size w w' := by
  go_enter Try.func13, Try.ntmps13
  go_wp2
  go_ret
  exact ⟨_, rfl, RdI.lits w _ [255,0] _ rfl, below_new _ _⟩
set_option maxHeartbeats 1000000 in
theorem tiShade2 (k : Nat) (w : World) (hk : k < 2) :
    Calls Try.prog 8 #[.int .i64 k, .int .i64 2] w fun e w' => e = .returned (.tuple #[.int .i64 (shN k 2 : Nat), .agg #[.int .i64 0, .int .i64 0]]) ∧ Below w.heap.size w w' := by
  go_enter Try.func8, Try.ntmps8
  go_wp2_with fail
  refine (tiCheck_ok 2 _ (by omega)).mono ?_
  rintro e w1 ⟨rfl, hb1⟩
  have F0 := ((Has.new w 0 0 23).below hb1).al (.cells #[.int .i64 0, .int .i64 0] 23)
  have B1 := Bw.al (Bw.step (below_new w (.cells #[.int .i64 0, .int .i64 0] 23)) hb1) (.cells #[.int .i64 0, .int .i64 0] 23)
  go_wp2_with fail
  refine (tiShadeI2 _ _ hk).mono ?_; rintro e w2 ⟨rfl, rfl⟩
  obtain ⟨l0, c00, c01, f00, f01⟩ := id F0
  go_wp2
  exact bodyPost_ret (resF2 rfl rfl (F0.set2 0 0)) rfl ⟨rfl, Bw.set (Bw.set B1 (Nat.le_refl _) _) (Nat.le_refl _) _⟩
set_option maxHeartbeats 1000000 in
theorem tiShadeOut2 (k : Int) (w : World) (hk : ¬ (0 ≤ k ∧ k < 2)) :
    Calls Try.prog 8 #[.int .i64 k, .int .i64 2] w fun e w' => e = .returned (.tuple #[.int .i64 0, .agg #[.int .i64 4, .int .i64 (-1)]]) ∧ Below w.heap.size w w' := by
  rcases Int.lt_or_le k 0 with h | h
  all_goals
    first | (have x1 : decide (k < 0) = true := by simpa using h) | (have x1 : decide (k < 0) = false := by simpa using h
                                                                     have x2 : 2 ≤ k := by omega)
    go_enter Try.func8, Try.ntmps8
    go_wp2_with fail
    refine (tiCheck_ok 2 _ (by omega)).mono ?_
    rintro e w1 ⟨rfl, hb1⟩
    have F0 := ((Has.new w 0 0 23).below hb1).al (.cells #[.int .i64 0, .int .i64 0] 23)
    have B1 := Bw.al (Bw.step (below_new w (.cells #[.int .i64 0, .int .i64 0] 23)) hb1) (.cells #[.int .i64 0, .int .i64 0] 23)
    go_wp2_with fail
    refine (tiFault_any _ _ _).mono ?_; rintro e w2 ⟨rfl, rfl⟩
    have F1 := F0.al (.cells #[.int .i64 4, .int .i64 (-1)] 23)
    obtain ⟨l0, c00, c01, f00, f01⟩ := id F1
    go_wp2
    exact bodyPost_ret (resF2 rfl rfl (F1.set2 4 (-1))) rfl ⟨rfl, Bw.set (Bw.set (Bw.al B1 _) (Nat.le_refl _) _) (Nat.le_refl _) _⟩
set_option maxHeartbeats 1000000 in
theorem tiLevelOut2 (k : Int) (w : World) (hk : ¬ (0 ≤ k ∧ k ≤ 255)) :
    Calls Try.prog 9 #[.int .i64 k, .int .i64 2] w fun e w' => e = .returned (.tuple #[.int .i64 0, .int .i64 0, .agg #[.int .i64 4, .int .i64 (-1)]]) ∧ Below w.heap.size w w' := by
  rcases Int.lt_or_le k 0 with h | h
  all_goals
    first | (have x1 : decide (k < 0) = true := by simpa using h) | (have x1 : decide (k < 0) = false := by simpa using h
                                                                     have x2 : 255 < k := by omega)
    go_enter Try.func9, Try.ntmps9
    go_wp2_with fail
    refine (tiCheck_ok 2 _ (by omega)).mono ?_
    rintro e w1 ⟨rfl, hb1⟩
    have F0 := ((Has.new w 0 0 23).below hb1).al (.cells #[.int .i64 0, .int .i64 0] 23)
    have B1 := Bw.al (Bw.step (below_new w (.cells #[.int .i64 0, .int .i64 0] 23)) hb1) (.cells #[.int .i64 0, .int .i64 0] 23)
    go_wp2_with fail
    refine (tiFault_any _ _ _).mono ?_; rintro e w2 ⟨rfl, rfl⟩
    have F1 := F0.al (.cells #[.int .i64 4, .int .i64 (-1)] 23)
    obtain ⟨l0, c00, c01, f00, f01⟩ := id F1
    go_wp2
    exact bodyPost_ret (resF3 rfl rfl (F1.set2 4 (-1))) rfl ⟨rfl, Bw.set (Bw.set (Bw.al B1 _) (Nat.le_refl _) _) (Nat.le_refl _) _⟩
set_option maxRecDepth 100000 in
set_option maxHeartbeats 1000000 in
theorem rNearest2 (s : Nat) (w : World) (hs : s < 256) :
    Calls Try.prog 14 #[.int .i64 s, .int .i64 2] w fun e w' => e = .returned (.tuple #[.int .i64 ((near s 2 2).1 : Nat), .int .i64 ((near s 2 2).2 : Nat)]) ∧ Below w.heap.size w w' := by
  obtain ⟨h1, h2, h3, h4, h5⟩ := near_first (s := s) (lv := 2) (by omega) hs
  generalize near s 2 2 = nr at *
  obtain ⟨m, e⟩ := nr
  dsimp only at h1 h2 h3 h4 h5 ⊢
  have H3 := Lib.hid h3
  have H4 := Lib.hid h4
  have H5 := Lib.hid h5
  clear h3 h4 h5
  go_enter Try.func14, Try.ntmps14
  go_wp2_with fail
  refine (rShades2 _).mono ?_
  rintro e1 w1 ⟨A1, rfl, hR, hb1⟩
  have HR := Lib.hid hR
  clear hR
  go_wp2
  go_loop [7] (fun i => ∃ d : Nat, d ≤ e ∧ i = .int .i64 d) (fun i => 256 - (intOf i).toNat)
  case atStart => exact ⟨0, by omega, rfl⟩
  case round =>
    obtain ⟨d, hd, rfl⟩ := hrel
    have dd : decide ((d : Int) < 256) = true := by simp only [decide_eq_true_eq]; omega
    go_wp2
    go_loop [8] (fun i => ∃ p : Nat, p ≤ 2 ∧ (d = e → p ≤ m) ∧ i = .int .i64 p) (fun i => 2 - (intOf i).toNat)
    case atStart => exact ⟨0, by omega, fun _ => Nat.zero_le _, rfl⟩
    case round =>
      obtain ⟨p, hp, hpe, rfl⟩ := hrel
      by_cases hlp : p < 2
      · obtain ⟨b, off, rfl, hb, hcx⟩ := HR.out.at hlp
        rw [shadesT_get hlp] at hcx
        have hsh := shN_le p 2
        by_cases hf : dist s (shN p 2) = d
        · have hde : d = e := by
            rcases Nat.lt_or_ge d e with h | h
            · exact absurd hf (H3.out d h p hlp)
            · omega
          have hpm : p = m := by
            rcases Nat.lt_or_ge p m with h | h
            · exact absurd (hf.trans hde) (H4.out p h)
            · have := hpe hde; omega
          subst hde hpm
          have hor := dist_iff hf
          generalize shN p 2 = t at *
          clear hf hpe
          by_cases ho : (t : Int) = s + d
          · have x1 : ((t : Int) == s + d) = true := by simpa using ho
            clear ho hor
            go_wp2
            go_ret2
            exact ⟨rfl, hb1⟩
          · have x1 : ((t : Int) == s + d) = false := by simpa using ho
            have x2 : ((t : Int) == s - d) = true := by simp only [beq_iff_eq]; omega
            clear ho hor
            go_wp2
            go_ret2
            exact ⟨rfl, hb1⟩
        · obtain ⟨n1, n2⟩ := dist_ne hf
          have HPE := Lib.hid (show d = e → p + 1 ≤ m from fun h => by
            have h6 := hpe h
            rcases Nat.lt_or_ge p m with h7 | h7
            · exact h7
            · obtain rfl : p = m := by omega
              subst h; exact absurd H5.out hf)
          generalize shN p 2 = t at *
          have x1 : ((t : Int) == s + d) = false := by simpa using n1
          have x2 : ((t : Int) == s - d) = false := by simpa using n2
          clear hf hpe n1 n2
          go_wp2
          go_round
          case rel => exact ⟨p + 1, by omega, HPE.out, by go_num⟩
          case measure => simp [intOf]; omega
      · obtain rfl : p = 2 := by omega
        have hne : d ≠ e := fun h => by have := hpe h; omega
        have hlt : d < e := by omega
        clear hpe hne
        go_wp2
        go_round
        case rel => first | exact ⟨d + 1, by omega, by go_num⟩ | ((repeat apply Exists.intro); exact ⟨⟨d + 1, by omega, by go_num⟩, rfl⟩)
        case measure => simp [intOf]; omega
set_option maxHeartbeats 1000000 in
theorem rShades4 (w : World) : Calls Try.prog 13 #[.int .i64 4] w fun e w' => ∃ A, e = .returned (.slice A 4 4) ∧ RdI w' A 4 (shadesT 4) ∧ Below w.heap.size w w' := by
  go_enter Try.func13, Try.ntmps13
  go_wp2
  go_ret
  exact ⟨_, rfl, RdI.lits w _ [255,170,85,0] _ rfl, below_new _ _⟩
set_option maxHeartbeats 1000000 in
theorem tiShade4 (k : Nat) (w : World) (hk : k < 4) :
    Calls Try.prog 8 #[.int .i64 k, .int .i64 4] w fun e w' => e = .returned (.tuple #[.int .i64 (shN k 4 : Nat), .agg #[.int .i64 0, .int .i64 0]]) ∧ Below w.heap.size w w' := by
  go_enter Try.func8, Try.ntmps8
  go_wp2_with fail
  refine (tiCheck_ok 4 _ (by omega)).mono ?_
  rintro e w1 ⟨rfl, hb1⟩
  have F0 := ((Has.new w 0 0 23).below hb1).al (.cells #[.int .i64 0, .int .i64 0] 23)
  have B1 := Bw.al (Bw.step (below_new w (.cells #[.int .i64 0, .int .i64 0] 23)) hb1) (.cells #[.int .i64 0, .int .i64 0] 23)
  go_wp2_with fail
  refine (tiShadeI4 _ _ hk).mono ?_; rintro e w2 ⟨rfl, rfl⟩
  obtain ⟨l0, c00, c01, f00, f01⟩ := id F0
  go_wp2
  exact bodyPost_ret (resF2 rfl rfl (F0.set2 0 0)) rfl ⟨rfl, Bw.set (Bw.set B1 (Nat.le_refl _) _) (Nat.le_refl _) _⟩
set_option maxHeartbeats 1000000 in
theorem tiShadeOut4 (k : Int) (w : World) (hk : ¬ (0 ≤ k ∧ k < 4)) :
    Calls Try.prog 8 #[.int .i64 k, .int .i64 4] w fun e w' => e = .returned (.tuple #[.int .i64 0, .agg #[.int .i64 4, .int .i64 (-1)]]) ∧ Below w.heap.size w w' := by
  rcases Int.lt_or_le k 0 with h | h
  all_goals
    first | (have x1 : decide (k < 0) = true := by simpa using h) | (have x1 : decide (k < 0) = false := by simpa using h
                                                                     have x2 : 4 ≤ k := by omega)
    go_enter Try.func8, Try.ntmps8
    go_wp2_with fail
    refine (tiCheck_ok 4 _ (by omega)).mono ?_
    rintro e w1 ⟨rfl, hb1⟩
    have F0 := ((Has.new w 0 0 23).below hb1).al (.cells #[.int .i64 0, .int .i64 0] 23)
    have B1 := Bw.al (Bw.step (below_new w (.cells #[.int .i64 0, .int .i64 0] 23)) hb1) (.cells #[.int .i64 0, .int .i64 0] 23)
    go_wp2_with fail
    refine (tiFault_any _ _ _).mono ?_; rintro e w2 ⟨rfl, rfl⟩
    have F1 := F0.al (.cells #[.int .i64 4, .int .i64 (-1)] 23)
    obtain ⟨l0, c00, c01, f00, f01⟩ := id F1
    go_wp2
    exact bodyPost_ret (resF2 rfl rfl (F1.set2 4 (-1))) rfl ⟨rfl, Bw.set (Bw.set (Bw.al B1 _) (Nat.le_refl _) _) (Nat.le_refl _) _⟩
set_option maxHeartbeats 1000000 in
theorem tiLevelOut4 (k : Int) (w : World) (hk : ¬ (0 ≤ k ∧ k ≤ 255)) :
    Calls Try.prog 9 #[.int .i64 k, .int .i64 4] w fun e w' => e = .returned (.tuple #[.int .i64 0, .int .i64 0, .agg #[.int .i64 4, .int .i64 (-1)]]) ∧ Below w.heap.size w w' := by
  rcases Int.lt_or_le k 0 with h | h
  all_goals
    first | (have x1 : decide (k < 0) = true := by simpa using h) | (have x1 : decide (k < 0) = false := by simpa using h
                                                                     have x2 : 255 < k := by omega)
    go_enter Try.func9, Try.ntmps9
    go_wp2_with fail
    refine (tiCheck_ok 4 _ (by omega)).mono ?_
    rintro e w1 ⟨rfl, hb1⟩
    have F0 := ((Has.new w 0 0 23).below hb1).al (.cells #[.int .i64 0, .int .i64 0] 23)
    have B1 := Bw.al (Bw.step (below_new w (.cells #[.int .i64 0, .int .i64 0] 23)) hb1) (.cells #[.int .i64 0, .int .i64 0] 23)
    go_wp2_with fail
    refine (tiFault_any _ _ _).mono ?_; rintro e w2 ⟨rfl, rfl⟩
    have F1 := F0.al (.cells #[.int .i64 4, .int .i64 (-1)] 23)
    obtain ⟨l0, c00, c01, f00, f01⟩ := id F1
    go_wp2
    exact bodyPost_ret (resF3 rfl rfl (F1.set2 4 (-1))) rfl ⟨rfl, Bw.set (Bw.set (Bw.al B1 _) (Nat.le_refl _) _) (Nat.le_refl _) _⟩
set_option maxRecDepth 100000 in
set_option maxHeartbeats 1000000 in
theorem rNearest4 (s : Nat) (w : World) (hs : s < 256) :
    Calls Try.prog 14 #[.int .i64 s, .int .i64 4] w fun e w' => e = .returned (.tuple #[.int .i64 ((near s 4 4).1 : Nat), .int .i64 ((near s 4 4).2 : Nat)]) ∧ Below w.heap.size w w' := by
  obtain ⟨h1, h2, h3, h4, h5⟩ := near_first (s := s) (lv := 4) (by omega) hs
  generalize near s 4 4 = nr at *
  obtain ⟨m, e⟩ := nr
  dsimp only at h1 h2 h3 h4 h5 ⊢
  have H3 := Lib.hid h3
  have H4 := Lib.hid h4
  have H5 := Lib.hid h5
  clear h3 h4 h5
  go_enter Try.func14, Try.ntmps14
  go_wp2_with fail
  refine (rShades4 _).mono ?_
  rintro e1 w1 ⟨A1, rfl, hR, hb1⟩
  have HR := Lib.hid hR
  clear hR
  go_wp2
  go_loop [7] (fun i => ∃ d : Nat, d ≤ e ∧ i = .int .i64 d) (fun i => 256 - (intOf i).toNat)
  case atStart => exact ⟨0, by omega, rfl⟩
  case round =>
    obtain ⟨d, hd, rfl⟩ := hrel
    have dd : decide ((d : Int) < 256) = true := by simp only [decide_eq_true_eq]; omega
    go_wp2
    go_loop [8] (fun i => ∃ p : Nat, p ≤ 4 ∧ (d = e → p ≤ m) ∧ i = .int .i64 p) (fun i => 4 - (intOf i).toNat)
    case atStart => exact ⟨0, by omega, fun _ => Nat.zero_le _, rfl⟩
    case round =>
      obtain ⟨p, hp, hpe, rfl⟩ := hrel
      by_cases hlp : p < 4
      · obtain ⟨b, off, rfl, hb, hcx⟩ := HR.out.at hlp
        rw [shadesT_get hlp] at hcx
        have hsh := shN_le p 4
        by_cases hf : dist s (shN p 4) = d
        · have hde : d = e := by
            rcases Nat.lt_or_ge d e with h | h
            · exact absurd hf (H3.out d h p hlp)
            · omega
          have hpm : p = m := by
            rcases Nat.lt_or_ge p m with h | h
            · exact absurd (hf.trans hde) (H4.out p h)
            · have := hpe hde; omega
          subst hde hpm
          have hor := dist_iff hf
          generalize shN p 4 = t at *
          clear hf hpe
          by_cases ho : (t : Int) = s + d
          · have x1 : ((t : Int) == s + d) = true := by simpa using ho
            clear ho hor
            go_wp2
            go_ret2
            exact ⟨rfl, hb1⟩
          · have x1 : ((t : Int) == s + d) = false := by simpa using ho
            have x2 : ((t : Int) == s - d) = true := by simp only [beq_iff_eq]; omega
            clear ho hor
            go_wp2
            go_ret2
            exact ⟨rfl, hb1⟩
        · obtain ⟨n1, n2⟩ := dist_ne hf
          have HPE := Lib.hid (show d = e → p + 1 ≤ m from fun h => by
            have h6 := hpe h
            rcases Nat.lt_or_ge p m with h7 | h7
            · exact h7
            · obtain rfl : p = m := by omega
              subst h; exact absurd H5.out hf)
          generalize shN p 4 = t at *
          have x1 : ((t : Int) == s + d) = false := by simpa using n1
          have x2 : ((t : Int) == s - d) = false := by simpa using n2
          clear hf hpe n1 n2
          go_wp2
          go_round
          case rel => exact ⟨p + 1, by omega, HPE.out, by go_num⟩
          case measure => simp [intOf]; omega
      · obtain rfl : p = 4 := by omega
        have hne : d ≠ e := fun h => by have := hpe h; omega
        have hlt : d < e := by omega
        clear hpe hne
        go_wp2
        go_round
        case rel => first | exact ⟨d + 1, by omega, by go_num⟩ | ((repeat apply Exists.intro); exact ⟨⟨d + 1, by omega, by go_num⟩, rfl⟩)
        case measure => simp [intOf]; omega
end Go.Proofs.Ytbhcjgjeedhnaaa
