/- Walks of the statements' helpers long and expanded. -/
import Derived.Test.YtpkaaiefnabfbaaPoE
namespace Go.Proofs.Ytpkaaiefnabfbaa
open Go.RowKit
set_option linter.unusedVariables false

theorem RdB.lits (w : World) (g : Nat) (zs : List Int) (l : List GF) (t : TypeId) (hg : g = w.heap.size) (h : zs = l.map GF.z) : RdB (w.alloc (.cells (zs.map fun z => Value.int .u8 z).toArray t)) (some ⟨g, 0, none⟩) l.length l := by
  subst h hg
  refine ⟨rfl, fun hn => ⟨_, 0, rfl, by simp, fun i hi => ?_⟩⟩
  simp [go_sem, hi, List.getD]
def b1 : GF := GF.mk 1 (by decide)
def b2 : GF := GF.mk 2 (by decide)
def b3 : GF := GF.mk 3 (by decide)
theorem RdB.l2 (w : World) (g : Nat) (x y : Int) (a b : GF) (t : TypeId) (hg : g = w.heap.size) (h : x = a.z ∧ y = b.z) : RdB (w.alloc (.cells #[.int .u8 x, .int .u8 y] t)) (some ⟨g, 0, none⟩) 2 [a, b] := RdB.lits w g [x, y] [a, b] t hg (by rw [h.1, h.2]; rfl)
theorem RdB.l3 (w : World) (g : Nat) (x y z : Int) (a b c : GF) (t : TypeId) (hg : g = w.heap.size) (h : x = a.z ∧ y = b.z ∧ z = c.z) : RdB (w.alloc (.cells #[.int .u8 x, .int .u8 y, .int .u8 z] t)) (some ⟨g, 0, none⟩) 3 [a, b, c] := RdB.lits w g [x, y, z] [a, b, c] t hg (by rw [h.1, h.2.1, h.2.2]; rfl)
theorem RdB.l1 (w : World) (g : Nat) (x : Int) (a : GF) (t : TypeId) (hg : g = w.heap.size) (h : x = a.z) : RdB (w.alloc (.cells #[.int .u8 x] t)) (some ⟨g, 0, none⟩) 1 [a] := RdB.lits w g [x] [a] t hg (by rw [h]; rfl)
theorem ex_prod : prodP [b1, b1] [b2, b1] = [b2, b3, b1] := by decide +kernel
theorem ex_trim : trimL [b1, b1] = [b1, b1] := by decide +kernel
theorem ex_val : valL [b2, b3, b1] 0 = b2 := by decide +kernel
theorem ex_div {q r : List GF} (h : Div [b3, b3, b1] [b1, b1] q r) : q = [b2, b1] ∧ r = [b1] := by
  refine Div_unique (.inr (by decide +kernel)) (by simp) h ⟨.inr (by decide +kernel), .inr (by decide +kernel), by decide, fun i => ?_⟩
  rcases Nat.lt_or_ge i 3 with h | h
  · have : ∀ i, i < 3 → cf [b3, b3, b1] i = cv (cf [b2, b1]) (cf [b1, b1]) i + cf [b1] i := by decide +kernel
    exact this i h
  · rw [degB_cf [b3, b3, b1] i h, degB_cf [b1] i (by simp; omega), degB_cv (m := 1) (n := 1) (degB_cf [b2, b1]) (degB_cf [b1, b1]) i h]; rfl
theorem z_b2 : b2.z = 2 := rfl
set_option maxHeartbeats 1000000 in
theorem long_any (A B : Option Addr) (n m c d : Nat) (w : World) (hn : n ≤ 9223372036854775807) (hm : m ≤ 9223372036854775807) :
    Calls Try.prog 14 #[.slice A n c, .slice B m d] w fun e w' => e = .returned (.agg #[.int .i64 (lC n m), .int .i64 (lI n m)]) ∧ Below w.heap.size w w' := by
  have F0 := Has.new w 0 0 24
  have B0 := below_new w (.cells #[.int .i64 0, .int .i64 0] 24)
  obtain ⟨C, hC⟩ : ∃ C, C = lC n m := ⟨_, rfl⟩
  obtain ⟨I, hI⟩ : ∃ I, I = lI n m := ⟨_, rfl⟩
  rw [← hC, ← hI]
  by_cases h1 : 512 < n
  · unfold lC at hC; unfold lI at hI
    rw [if_pos (.inl h1)] at hC; rw [if_pos h1] at hI
    subst hC hI
    have x1 : decide ((n : Int) > 512) = true := by simp only [decide_eq_true_eq]; omega
    go_enter Try.func14, Try.ntmps14
    go_wp2_with fail
    refine (refAt_any _ _ _).mono ?_; rintro e w1 ⟨rfl, rfl⟩
    have F1 := F0.al (.cells #[.int .i64 3, .int .i64 (-1)] 24)
    have B1 := Bw.al B0 (.cells #[.int .i64 3, .int .i64 (-1)] 24)
    obtain ⟨l0, c00, c01, f00, f01⟩ := id F1
    go_wp2
    exact bodyPost_ret (resF1 rfl rfl ((Has.new w 3 (-1) _).al _)) rfl ⟨rfl, Bw.al (below_new w _) _⟩
  · by_cases h2 : 512 < m
    · unfold lC at hC; unfold lI at hI
      rw [if_pos (.inr h2)] at hC; rw [if_neg h1, if_pos h2] at hI
      subst hC hI
      go_enter Try.func14, Try.ntmps14
      go_wp2_with fail
      refine (refAt_any _ _ _).mono ?_; rintro e w1 ⟨rfl, rfl⟩
      have F1 := F0.al (.cells #[.int .i64 3, .int .i64 (-2)] 24)
      have B1 := Bw.al B0 (.cells #[.int .i64 3, .int .i64 (-2)] 24)
      obtain ⟨l0, c00, c01, f00, f01⟩ := id F1
      go_wp2
      exact bodyPost_ret (resF1 rfl rfl ((Has.new w 3 (-2) _).al _)) rfl ⟨rfl, Bw.al (below_new w _) _⟩
    · unfold lC at hC; unfold lI at hI
      rw [if_neg (by omega)] at hC; rw [if_neg h1, if_neg h2] at hI
      subst hC hI
      go_enter Try.func14, Try.ntmps14
      go_wp2_with fail
      refine (refAt_any _ _ _).mono ?_; rintro e w1 ⟨rfl, rfl⟩
      have F1 := F0.al (.cells #[.int .i64 0, .int .i64 0] 24)
      have B1 := Bw.al B0 (.cells #[.int .i64 0, .int .i64 0] 24)
      obtain ⟨l0, c00, c01, f00, f01⟩ := id F1
      go_wp2
      exact bodyPost_ret (resF1 rfl rfl ((Has.new w 0 0 _).al _)) rfl ⟨rfl, Bw.al (below_new w _) _⟩
set_option maxRecDepth 100000 in
set_option maxHeartbeats 2000000 in
theorem expanded_any (w : World) : Calls Try.prog 17 #[] w fun e w' => e = .returned (.bool true) ∧ Below w.heap.size w w' := by
  have s1 := Lib.hid (sameB_self [b2, b3, b1])
  have s2 := Lib.hid (sameB_self [b2, b1])
  have s3 := Lib.hid (sameB_self [b1])
  go_enter Try.func17, Try.ntmps17
  go_wp2_with fail
  refine (poMulP_ok _ _ _ _ _ _ [b1, b1] [b2, b1] _ ((RdB.l2 w _ 1 1 b1 b1 _ rfl ⟨rfl, rfl⟩).al _) (RdB.l2 _ _ 2 1 b2 b1 _ (by first | rfl | simp) ⟨rfl, rfl⟩) (by omega) (by omega)).mono ?_
  rw [ex_prod]
  rintro e w1 ⟨A1, c1, rfl, ho1, hb1⟩
  have B1 := Bw.step (Bw.al (below_new w _) _) hb1
  have F1 := Has.new w1 0 0 24
  have R1 := ho1.rd.1
  clear ho1
  go_wp2_with fail
  refine (poDivideP_ok _ _ _ _ _ _ [b3, b3, b1] [b1, b1] _ ((RdB.l3 _ _ 3 3 1 b3 b3 b1 _ (by first | rfl | simp) ⟨rfl, rfl, rfl⟩).al _) (RdB.l2 _ _ 1 1 b1 b1 _ (by first | rfl | simp) ⟨rfl, rfl⟩) (by omega) (by omega) (by omega) (by omega) (by rw [ex_trim]; simp)).mono ?_
  rw [ex_trim]
  rintro e w2 ⟨A2, c2, A3, c3, q, r, rfl, ho2, ho3, hdv, hb2⟩
  obtain ⟨rfl, rfl⟩ := ex_div hdv
  have B2 := Bw.step (Bw.al (Bw.al (Bw.al B1 _) _) _) hb2
  have F1 := ((F1.al _).al _).below hb2
  have F2 := Has.new w2 0 0 24
  have R1 := (((R1.al _).al _).al _).below hb2
  have R2 := ho2.rd.1
  have R3 := ho3.rd.1
  clear ho2 ho3 hdv
  go_wp2_with fail
  refine (poValueP_ok _ _ _ [b2, b3, b1] 0 _ (RdB.l3 _ _ 2 3 1 b2 b3 b1 _ (by first | rfl | simp) ⟨rfl, rfl, rfl⟩) (by omega)).mono ?_
  rw [ex_val]
  rintro e w3 ⟨rfl, hb3⟩
  have B3 := Bw.step (Bw.al (Bw.al B2 _) _) hb3
  have F1 := ((F1.al _).al _).below hb3
  have F2 := (F2.al _).below hb3
  have F3 := Has.new w3 0 0 24
  have R1 := ((R1.al _).al _).below hb3
  have R2 := ((R2.al _).al _).below hb3
  have R3 := ((R3.al _).al _).below hb3
  have B4 := Bw.al B3 (.cells #[.int .i64 0, .int .i64 0] 24)
  have F1 := F1.al (.cells #[.int .i64 0, .int .i64 0] 24)
  have F2 := F2.al (.cells #[.int .i64 0, .int .i64 0] 24)
  have R1 := R1.al (.cells #[.int .i64 0, .int .i64 0] 24)
  have R2 := R2.al (.cells #[.int .i64 0, .int .i64 0] 24)
  have R3 := R3.al (.cells #[.int .i64 0, .int .i64 0] 24)
  obtain ⟨l1, c10, c11, f10, f11⟩ := id F1
  obtain ⟨l2, c20, c21, f20, f21⟩ := id F2
  obtain ⟨l3, c30, c31, f30, f31⟩ := id F3
  have zb := z_b2
  go_wp2_with fail
  refine (refSame_any _ _ _ _ _ _ _ _ _ (R1.al _) (RdB.l3 _ _ 2 3 1 b2 b3 b1 _ (by first | rfl | simp) ⟨rfl, rfl, rfl⟩)).mono ?_
  rw [s1.out]
  rintro e w4 ⟨rfl, rfl⟩
  go_wp2_with fail
  refine (refSame_any _ _ _ _ _ _ _ _ _ ((R2.al _).al _) (RdB.l2 _ _ 2 1 b2 b1 _ (by first | rfl | simp) ⟨rfl, rfl⟩)).mono ?_
  rw [s2.out]
  rintro e w4 ⟨rfl, rfl⟩
  go_wp2_with fail
  refine (refSame_any _ _ _ _ _ _ _ _ _ (((R3.al _).al _).al _) (RdB.l1 _ _ 1 b1 _ (by first | rfl | simp) rfl)).mono ?_
  rw [s3.out]
  rintro e w4 ⟨rfl, rfl⟩
  go_wp2
  go_ret
  exact ⟨rfl, Bw.al (Bw.al (Bw.al B4 _) _) _⟩
end Go.Proofs.Ytpkaaiefnabfbaa
