/- Walks of the package poly: Derive and Roots. -/
import Derived.Test.YtpkaaiefnabfbaaPoG
import Derived.Test.YtpkaaiefnabfbaaPlB
namespace Go.Proofs.Ytpkaaiefnabfbaa
open Go.RowKit
set_option linter.unusedVariables false

theorem Has.far {w : World} {b : Nat} {c i : Int} (h : Has w b c i) {p : Addr} (hp : p.block ≠ b) (u : Value) : Has (w.setCell p u) b c i := by
  obtain ⟨l, c0, c1, f0, f1⟩ := h
  refine ⟨by simpa [World.setCell] using l, ?_, ?_, by simpa using f0, by simpa using f1⟩
  · rw [World.cell?_setCell_other _ _ _ _ (by intro e; apply hp; rw [e])]; exact c0
  · rw [World.cell?_setCell_other _ _ _ _ (by intro e; apply hp; rw [e])]; exact c1
theorem Has.under {w w' : World} {b B : Nat} {c i : Int} (h : Has w b c i) (hb : Below B w w') (hB : b < B) : Has w' b c i := by
  obtain ⟨h1, h2, h3, h4, h5⟩ := h
  exact ⟨Nat.lt_of_lt_of_le h1 hb.size, (hb.cell (p := ⟨b, 0, none⟩) hB).trans h2, (hb.cell (p := ⟨b, 1, none⟩) hB).trans h3, (hb.frozen (p := ⟨b, 0, none⟩) hB).trans h4, (hb.frozen (p := ⟨b, 1, none⟩) hB).trans h5⟩
/-- The derivative as far as it was computed: the coefficients below k. -/
def drMid (a : List GF) (k : Nat) : List GF := (List.range (a.length - 1)).map fun i => if i < k then dvS (cf a) i else 0
theorem drMid_len (a : List GF) (k : Nat) : (drMid a k).length = a.length - 1 := by simp [drMid]
theorem drMid_get (a : List GF) (k : Nat) {i : Nat} (hi : i < a.length - 1) : (drMid a k).getD i 0 = if i < k then dvS (cf a) i else 0 := by simp [drMid, List.getD, hi]
theorem drMid_zero (a : List GF) : drMid a 0 = List.replicate (a.length - 1) 0 := by
  refine list_eq_getD (by rw [drMid_len, List.length_replicate]) fun i hi => ?_
  rw [drMid_len] at hi
  rw [drMid_get _ _ hi, if_neg (by omega)]; simp [List.getD, hi]
theorem drMid_step (a : List GF) {k : Nat} (hk : k < a.length - 1) (he : k % 2 = 0) : (drMid a k).set k (cf a (k + 1)) = drMid a (k + 2) := by
  refine list_eq_getD (by rw [List.length_set, drMid_len, drMid_len]) fun i hi => ?_
  rw [List.length_set, drMid_len] at hi
  rw [drMid_get _ _ hi]
  by_cases e : k = i
  · subst e
    rw [if_pos (by omega)]
    unfold dvS; rw [if_pos he]
    simp [List.getD, drMid_len, hk]
  · have h1 : ((drMid a k).set k (cf a (k + 1))).getD i 0 = (drMid a k).getD i 0 := by simp [List.getD, e]
    rw [h1, drMid_get _ _ hi]
    by_cases h2 : i < k
    · rw [if_pos h2, if_pos (by omega)]
    · rw [if_neg h2]
      by_cases h3 : i = k + 1
      · rw [if_pos (by omega)]; unfold dvS; rw [if_neg (by omega)]
      · rw [if_neg (by omega)]
theorem drMid_end (a : List GF) {k : Nat} (hk : a.length - 1 ≤ k) : trimL (drMid a k) = derP a := by
  refine trim_ofF (degB_der a) fun i => ?_
  show (drMid a k).getD i 0 = _
  by_cases hi : i < a.length - 1
  · rw [drMid_get _ _ hi, if_pos (by omega)]
  · rw [degB_der a i (by omega)]; simp [List.getD, drMid, hi]
set_option maxRecDepth 100000 in
set_option maxHeartbeats 2000000 in
theorem poDeriveP_ok (A : Option Addr) (n c : Nat) (a : List GF) (w : World) (ha : RdB w A n a) (hn : n ≤ 512) :
    Calls Try.prog 30 #[.slice A n c] w fun e w' => ∃ A' c', e = .returned (.tuple #[.slice A' (derP a).length c', .agg #[.int .i64 0, .int .i64 0]]) ∧ OwB w' w.heap.size (.slice A' (derP a).length c') (derP a) ∧ Below w.heap.size w w' := by
  have la := ha.1
  subst la
  have HA := Lib.hid ha
  clear ha
  obtain ⟨N, hN⟩ : ∃ N, N = a.length - 1 := ⟨_, rfl⟩
  have HN := Lib.hid hN
  have hN5 : N ≤ 512 := by omega
  have hmk := run_makeB N (by omega)
  have hmax : (if (a.length : Int) - 1 < 0 then (0 : Int) else (a.length : Int) - 1) = (N : Int) := by split <;> omega
  rcases Nat.eq_zero_or_pos a.length with h0 | h0
  all_goals
    first
      | (have h9 : (N : Int) = 0 := by omega
         rw [h9] at hmk
         have hlt : (a.length : Int) - 1 < 0 := by omega)
      | (have h9 : (N : Int) = (a.length : Int) - 1 := by omega
         rw [h9] at hmk
         have hlt : 0 ≤ (a.length : Int) - 1 := by omega)
    clear hN h9 hmax h0
    go_enter Try.func30, Try.ntmps30
    go_wp2_with fail
    refine (chk1 (w.alloc _) _ A a.length c _ (by simp) (by omega)).mono ?_
    rw [(lC_ok hn (Nat.zero_le _)).1, (lC_ok hn (Nat.zero_le _)).2]
    rintro e w1 ⟨rfl, hb1⟩
    have F0 := (Has.new w 0 0 24).below hb1
    have B1 := Bw.step (below_new w (.cells #[.int .i64 0, .int .i64 0] 24)) hb1
    have hs1 := F0.1
    have F1 := Lib.hid ((F0.al (.cells #[.int .i64 0, .int .i64 0] 24)).al (.cells (zerosB N) 5))
    have B2 := Lib.hid (Bw.al (Bw.al B1 (.cells #[.int .i64 0, .int .i64 0] 24)) (.cells (zerosB N) 5))
    have O1 := OwB.new (w1.alloc (.cells #[.int .i64 0, .int .i64 0] 24)) w.heap.size N (by simp; omega) (by unfold maxLen; omega)
    rw [World.size_alloc] at O1
    have HO1 := Lib.hid O1
    have hg : w.heap.size < w1.heap.size + 1 := by omega
    clear O1 F0 B1 hb1
    go_wp2
    generalize (w1.alloc (.cells #[.int .i64 0, .int .i64 0] 24)).alloc (.cells (zerosB N) 5) = W at *
    generalize w1.heap.size + 1 = g at *
    generalize w1.heap.size = s1 at *
    clear hmk hlt hs1
    go_loopw [6] (fun i wr => ∃ k : Nat, k % 2 = 0 ∧ k ≤ N + 1 ∧ i = .int .i64 k ∧ OwB wr w.heap.size (.slice (some ⟨g, 0, none⟩) N N) (drMid a k) ∧ Has wr w.heap.size 0 0 ∧ Below w.heap.size w wr) (fun i _ => N + 2 - (intOf i).toNat)
    case atStart => exact ⟨0, rfl, Nat.zero_le _, rfl, by rw [drMid_zero, ← HN.out]; exact HO1.out, F1.out, B2.out⟩
    case round =>
      obtain ⟨k, hev, hk, rfl, ho, hF, hbw⟩ := hrel
      by_cases hlt : k < N
      · have hcell := ho.cellAt (i := k) hlt
        have hfz := ho.frozenAt k
        have hst := ho.set k (cf a (k + 1))
        rw [drMid_step a (by rw [← HN.out]; exact hlt) hev] at hst
        have HST := Lib.hid hst
        have HLT := Lib.hid ho.lt
        have hN2 := HN.out
        obtain ⟨ba, oa, rfl, hla, hca⟩ := rd_cell (HA.out.below hbw) (i := k + 1) (by omega)
        have hne : g ≠ w.heap.size := by omega
        have HV := Lib.hid hev
        clear ho hst hev
        generalize cf a (k + 1) = y at *
        go_wp2
        go_roundw
        case rel => exact ⟨k + 2, by have := HV.out; omega, by omega, by go_num, HST.out, hF.far hne _, Bw.set hbw HLT.out.1 _⟩
        case measure => simp [intOf]; omega
      · have HT := Lib.hid (poTrim_any _ _ _ _ _ ho.rd.1 (Nat.le_refl _) (by omega))
        rw [drMid_end a (k := k) (by rw [← HN.out]; omega)] at HT
        clear ho hev
        go_wp2_with fail
        refine HT.out.mono ?_
        rintro e w3 ⟨A3, c3, rfl, ho3, hb3⟩
        have F3 := hF.below hb3
        have B3 := Bw.step hbw hb3
        obtain ⟨l0, c00, c01, f00, f01⟩ := id F3
        have hl := hF.1
        go_wp2
        exact bodyPost_ret (resF2 rfl rfl (F3.set2 0 0)) rfl ⟨A3, c3, rfl, own_base ((ho3.low (p := ⟨w.heap.size, 0, none⟩) hl _).low (p := ⟨w.heap.size, 1, none⟩) hl _) (Nat.le_of_lt hl), Bw.set (Bw.set B3 (Nat.le_refl _) _) (Nat.le_refl _) _⟩
set_option maxHeartbeats 1000000 in
theorem poDeriveP_bad (A : Option Addr) (n c : Nat) (w : World) (hn : n ≤ 9223372036854775807) (hbad : ¬ n ≤ 512) :
    Calls Try.prog 30 #[.slice A n c] w fun e w' => e = .returned (.tuple #[.slice none 0 0, .agg #[.int .i64 3, .int .i64 (lI n 0)]]) ∧ Below w.heap.size w w' := by
  have HC := Lib.hid (lC_bad (n := n) (m := 0) (fun h => hbad h.1))
  clear hbad
  generalize hx : lI n 0 = x
  have HX := Lib.hid hx
  clear hx
  go_enter Try.func30, Try.ntmps30
  go_wp2_with fail
  refine (chk1 (w.alloc _) _ A n c _ (by simp) hn).mono ?_
  rw [HC.out, HX.out]
  rintro e w1 ⟨rfl, hb1⟩
  have F0 := (Has.new w 0 0 24).below hb1
  have B1 := Bw.step (below_new w (.cells #[.int .i64 0, .int .i64 0] 24)) hb1
  have F1 := F0.al (.cells #[.int .i64 3, .int .i64 x] 24)
  have F6 := Has.new w1 3 x 24
  have B2 := Bw.al B1 (.cells #[.int .i64 3, .int .i64 x] 24)
  obtain ⟨l0, c00, c01, f00, f01⟩ := id F1
  obtain ⟨l6, c60, c61, f60, f61⟩ := id F6
  go_wp2
  go_region
  all_goals
    go_wp2
    exact bodyPost_ret (resF2 rfl rfl (F1.set2 3 x)) rfl ⟨rfl, Bw.drew (Bw.set (Bw.set B2 (Nat.le_refl _) _) (Nat.le_refl _) _)⟩
end Go.Proofs.Ytpkaaiefnabfbaa
