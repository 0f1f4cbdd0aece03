/- The walks of the statements InterleaveSpreadMatchesSpec and InterleaveGatherUndoesSpread. -/
import Derived.Test.YtoepcbpmbekpgaaSpA
import Derived.Test.YtoepcbpmbekpgaaIlD
namespace Go.Proofs.Ytoepcbpmbekpgaa
open Go.RowKit
set_option linter.unusedVariables false

/-- What the walk is told of a slice of integers that came in. -/
def IsRow (k : IntKind) (w : World) (a : Option Addr) (len cap : Nat) (zs : List Int) : Prop :=
  (a = none ∧ len = 0 ∧ cap = 0 ∧ zs = []) ∨
  ∃ x, a = some x ∧ len ≤ cap ∧ cap ≤ maxLen ∧ zs.length = cap ∧ (∀ i, i < zs.length → w.cell? (x.add i) = some (.int k (zs.getD i 0))) ∧ ∀ n ∈ zs, (Lit.int k n).wf = true
theorem getD_mem {zs : List Int} {i : Nat} (h : i < zs.length) : zs.getD i 0 ∈ zs := by
  simp [List.getD, List.getElem?_eq_getElem h]
/-- A slice of bytes that came in, as a list of bytes. -/
theorem IsRow.bytes {w : World} {a : Option Addr} {len cap : Nat} {zs : List Int} (h : IsRow .u8 w a len cap zs) : ∃ l : List GF, RdB w a len l ∧ len ≤ maxLen := by
  rcases h with ⟨rfl, rfl, rfl, rfl⟩ | ⟨x, rfl, hl, hm, hz, hcell, hwz⟩
  · exact ⟨[], ⟨rfl, fun h => by omega⟩, Nat.zero_le _⟩
  · refine ⟨(List.range len).map fun i => GF.mk (zs.getD i 0).toNat.succ.pred (by
      by_cases hi : i < zs.length
      · have := wf_u8 (hwz _ (getD_mem hi)); simp only [Nat.pred_succ]; omega
      · simp [List.getD, List.getElem?_eq_none (Nat.le_of_not_lt hi)]), ⟨by simp, fun hn => ?_⟩, by omega⟩
    obtain ⟨b, off, spot⟩ := x
    have hc0 := hcell 0 (by omega)
    have hspot : spot = none := by simpa [Addr.add] using World.cell?_spot hc0
    subst hspot
    have hadd : ∀ i, (⟨b, off, none⟩ : Addr).add i = ⟨b, off + i, none⟩ := fun i => by unfold Addr.add; split <;> simp_all
    have hlt : b < w.heap.size := by
      have h0 := hcell 0 (by omega)
      rw [hadd] at h0
      rcases Nat.lt_or_ge b w.heap.size with h | h
      · exact h
      · simp [World.cell?, Array.getElem?_eq_none h] at h0
    refine ⟨b, off, rfl, hlt, fun i hi => ?_⟩
    have hi2 : i < zs.length := by omega
    rw [← hadd, hcell i hi2]
    have hwf := wf_u8 (hwz _ (getD_mem hi2))
    simp only [List.getD, List.getElem?_map, List.getElem?_range hi, Option.map_some, Option.getD_some]
    unfold GF.z
    rw [GF.v_mk]
    simp only [Nat.pred_succ]
    congr 2
    simp only [List.getD] at hwf
    omega

set_option maxRecDepth 100000 in
set_option maxHeartbeats 1000000 in
theorem walkInterleaveSpreadMatchesSpec (a : Option Addr) (len cap : Nat) (zs : List Int) (w : World) (w0 : IsRow .u8 w a len cap zs) :
    Calls Try.prog 12 #[.slice a len cap] w fun e w' => e = .returned (.bool true) ∧ Below w.heap.size w w' := by
  obtain ⟨l, hl, hm⟩ := w0.bytes
  clear w0
  by_cases hn : len = 384
  · subst hn
    have hs := sameB_self (spreadL l)
    have x1 : ((384 : Int) != 384) = false := by decide
    go_enter Try.func12, Try.ntmps12
    go_wp2_with fail
    refine (ilSpread_ok _ _ _ _ hl).mono ?_; rintro e w1 ⟨g1, rfl, ho1, hb1⟩
    have R1 := ho1.rd.1
    have hl1 := hl.below hb1
    go_wp2_with fail
    refine (refLaid_ok _ _ _ _ (hl1.al _)).mono ?_; rintro e w2 ⟨g2, rfl, ho2, hb2⟩
    have R1 := (R1.al _).below hb2
    go_wp2_with fail
    refine (refSame_any _ _ _ _ _ _ _ _ _ R1 ho2.rd.1).mono ?_; rw [hs]; rintro e w3 ⟨rfl, rfl⟩
    go_wp2_with (go_at_call 24; refine (shifted_any _).mono ?_; rintro e w' ⟨rfl, hb5⟩)
    go_ret
    exact ⟨rfl, by (repeat (first | exact Below.refl _ _ | assumption | refine Bw.al ?_ _ | refine Bw.step ?_ (by assumption) | refine Bw.drew ?_))⟩
  · have x1 : ((len : Int) != 384) = true := by rw [bne_iff_ne]; omega
    go_enter Try.func12, Try.ntmps12
    go_wp2_with fail
    refine (ilSpread_bad _ _ _ _ hn).mono ?_; rintro e w1 ⟨rfl, hb1⟩
    have F1 := Has.new w1 9 (-1) 27
    have BW : Below w.heap.size w (w1.alloc (.cells #[.int .i64 9, .int .i64 (-1)] 27)) := by (repeat (first | exact Below.refl _ _ | assumption | refine Bw.al ?_ _ | refine Bw.step ?_ (by assumption) | refine Bw.drew ?_))
    go_wp2
    generalize w1.alloc (.cells #[.int .i64 9, .int .i64 (-1)] 27) = W at *
    generalize w1.heap.size = b1 at *
    have X1 := F1.ext
    (refine wp_region_ext (by kernel_rfl) (by kernel_rfl) ?_; (repeat (go_big_quiet_step ((first | (go_at_call 31; exact ext_alloc (refAt_any _ _ _)) | (go_at_call 24; exact ext_call (shifted_any _)))))); refine wpQuiet_nil ?_; intro W2 hw'; have hW2 := ext_below hw'; clear hw')
    go_wp2
    go_ret
    exact ⟨rfl, Bw.step BW hW2⟩
set_option maxRecDepth 100000 in
set_option maxHeartbeats 1000000 in
theorem walkInterleaveGatherUndoesSpread (a : Option Addr) (len cap : Nat) (zs : List Int) (w : World) (w0 : IsRow .u8 w a len cap zs) :
    Calls Try.prog 14 #[.slice a len cap] w fun e w' => e = .returned (.bool true) ∧ Below w.heap.size w w' := by
  obtain ⟨l, hl, hm⟩ := w0.bytes
  clear w0
  by_cases hn : len = 384
  · subst hn
    have s1 : sameB (gatherL (spreadL l)) l = true := by rw [gather_spread hl.1]; exact sameB_self _
    have s2 : sameB (spreadL (gatherL l)) l = true := by rw [spread_gather hl.1]; exact sameB_self _
    have x1 : ((384 : Int) != 384) = false := by decide
    go_enter Try.func14, Try.ntmps14
    go_wp2_with fail
    refine (ilSpread_ok _ _ _ _ hl).mono ?_; rintro e w1 ⟨g1, rfl, ho1, hb1⟩
    have L1 := hl.below hb1
    go_wp2_with fail
    refine (ilGather_ok _ _ _ _ (L1.al _)).mono ?_; rintro e w2 ⟨g2, rfl, ho2, hb2⟩
    have F1 := (Has.new w1 0 0 _).below hb2
    have L2 := (L1.al _).below hb2
    have R1 := (ho1.rd.1.al _).below hb2
    go_wp2_with fail
    refine (ilGather_ok _ _ _ _ (R1.al _)).mono ?_; rintro e w3 ⟨g3, rfl, ho3, hb3⟩
    have F1 := (F1.al _).below hb3
    have F2 := (Has.new w2 0 0 _).below hb3
    have L3 := (L2.al _).below hb3
    have R2 := (ho2.rd.1.al _).below hb3
    go_wp2_with fail
    refine (ilSpread_ok _ _ _ _ (R2.al _)).mono ?_; rintro e w4 ⟨g4, rfl, ho4, hb4⟩
    have F1 := (F1.al _).below hb4
    have F2 := (F2.al _).below hb4
    have F3 := (Has.new w3 0 0 _).below hb4
    have L4 := (L3.al _).below hb4
    have R3 := (ho3.rd.1.al _).below hb4
    obtain ⟨l1, c10, c11, f10, f11⟩ := id F1
    obtain ⟨l2, c20, c21, f20, f21⟩ := id F2
    obtain ⟨l3, c30, c31, f30, f31⟩ := id F3
    go_wp2_with fail
    refine (refSame_any _ _ _ _ _ _ _ _ _ (R3.al _) (L4.al _)).mono ?_; rw [s1]; rintro e w5 ⟨rfl, rfl⟩
    go_wp2_with fail
    refine (refSame_any _ _ _ _ _ _ _ _ _ (ho4.rd.1.al _) (L4.al _)).mono ?_; rw [s2]; rintro e w6 ⟨rfl, rfl⟩
    go_wp2_with (go_at_call 24; refine (shifted_any _).mono ?_; rintro e w' ⟨rfl, hb5⟩)
    go_ret
    exact ⟨rfl, by (repeat (first | exact Below.refl _ _ | assumption | refine Bw.al ?_ _ | refine Bw.step ?_ (by assumption) | refine Bw.drew ?_))⟩
  · have x1 : ((len : Int) != 384) = true := by rw [bne_iff_ne]; omega
    go_enter Try.func14, Try.ntmps14
    go_wp2_with fail
    refine (ilSpread_bad _ _ _ _ hn).mono ?_; rintro e w1 ⟨rfl, hb1⟩
    go_wp2_with fail
    refine (ilGather_bad _ _ _ _ hn).mono ?_; rintro e w2 ⟨rfl, hb2⟩
    have F1 := (Has.new w1 9 (-1) _).below hb2
    obtain ⟨l1, c10, c11, f10, f11⟩ := id F1
    go_wp2_with (go_at_call 24; refine (shifted_any _).mono ?_; rintro e w' ⟨rfl, hb5⟩)
    go_ret
    exact ⟨rfl, by (repeat (first | exact Below.refl _ _ | assumption | refine Bw.al ?_ _ | refine Bw.step ?_ (by assumption) | refine Bw.drew ?_))⟩
end Go.Proofs.Ytoepcbpmbekpgaa
