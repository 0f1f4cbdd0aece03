/- Walks of Spread and Gather, and of the reference's Laid. -/
import Derived.Test.YtoepcbpmbekpgaaSp
import Derived.Test.YtoepcbpmbekpgaaIlB
import Derived.Deep.RegionWith
namespace Go.Proofs.Ytoepcbpmbekpgaa
open Go.RowKit
set_option linter.unusedVariables false

/-- What the loops hold: a slice of the call's own, the result's block, and the argument as it was. -/
def SpRel (w wr : World) (g : Nat) (l : List GF) : Prop := OwB wr w.heap.size (.slice (some ⟨g, 0, none⟩) 384 384) l ∧ Has wr w.heap.size 0 0 ∧ Below w.heap.size w wr ∧ g ≠ w.heap.size
theorem SpRel.set {w wr : World} {g : Nat} {l l' : List GF} (h : SpRel w wr g l) (i : Nat) (x : GF) (hl : l.set i x = l') : SpRel w (wr.setCell ⟨g, i, none⟩ (.int .u8 x.z)) g l' := by
  obtain ⟨h1, h2, h3, h4⟩ := h
  exact ⟨hl ▸ h1.set i x, h2.set (by exact h4) _, Bw.set h3 h1.lt.1 _, h4⟩

set_option maxRecDepth 100000 in
set_option maxHeartbeats 1000000 in
theorem ilSpread_bad (A : Option Addr) (n c : Nat) (w : World) (hn : n ≠ 384) :
    Calls Try.prog 34 #[.slice A n c] w fun e w' => e = .returned (.tuple #[.slice none 0 0, .agg #[.int .i64 9, .int .i64 (-1)]]) ∧ Below w.heap.size w w' := by
  have h1 : ((n : Int) != 384) = true := by rw [bne_iff_ne]; omega
  clear hn
  go_enter Try.func34, Try.ntmps34
  go_wp2_with (go_at_call 45; refine (ilFault_any _ _ _).mono ?_; rintro e w' ⟨rfl, rfl⟩)
  exact bodyPost_ret (v := .tuple #[.slice none 0 0, .agg #[.int .i64 9, .int .i64 (-1)]]) (by simp [results, Try.results34, go_sem]) rfl ⟨rfl, below_new2 _ _ _⟩
set_option maxRecDepth 100000 in
set_option maxHeartbeats 1000000 in
theorem ilGather_bad (A : Option Addr) (n c : Nat) (w : World) (hn : n ≠ 384) :
    Calls Try.prog 41 #[.slice A n c] w fun e w' => e = .returned (.tuple #[.slice none 0 0, .agg #[.int .i64 9, .int .i64 (-1)]]) ∧ Below w.heap.size w w' := by
  have h1 : ((n : Int) != 384) = true := by rw [bne_iff_ne]; omega
  clear hn
  go_enter Try.func41, Try.ntmps41
  go_wp2_with (go_at_call 45; refine (ilFault_any _ _ _).mono ?_; rintro e w' ⟨rfl, rfl⟩)
  exact bodyPost_ret (v := .tuple #[.slice none 0 0, .agg #[.int .i64 9, .int .i64 (-1)]]) (by simp [results, Try.results41, go_sem]) rfl ⟨rfl, below_new2 _ _ _⟩

set_option maxRecDepth 100000 in
set_option maxHeartbeats 1000000 in
theorem ilSpread_ok (A : Option Addr) (c : Nat) (l : List GF) (w : World) (hl : RdB w A 384 l) :
    Calls Try.prog 34 #[.slice A 384 c] w fun e w' =>
      ∃ g, e = .returned (.tuple #[.slice (some ⟨g, 0, none⟩) 384 384, .agg #[.int .i64 0, .int .i64 0]]) ∧ OwB w' w.heap.size (.slice (some ⟨g, 0, none⟩) 384 384) (spreadL l) ∧ Below w.heap.size w w' := by
  have hmk : ∀ w : World, (Instr.makeSlice 50 (.int .i64 384) (.int .i64 384)).run Try.prog w = .ok (.slice (some ⟨w.heap.size, 0, none⟩) 384 384) (w.alloc (.cells (zerosB 384) 5)) := run_makeB 384 (by omega)
  have M0 : SpRel w ((w.alloc (.cells #[.int .i64 0, .int .i64 0] 27)).alloc (.cells (zerosB 384) 5)) (w.heap.size + 1) (spMid l 0) := by
    have ho := OwB.new (w.alloc (.cells #[.int .i64 0, .int .i64 0] 27)) w.heap.size 384 (by simp only [World.size_alloc]; omega) (by unfold maxLen; omega)
    rw [World.size_alloc] at ho
    rw [spMid_zero]
    exact ⟨ho, (Has.new w 0 0 _).al _, below_new2 _ _ _, by omega⟩
  have HM := Lib.hid M0
  obtain ⟨ba, oa, rfl, hlt, hca⟩ := hl.2 (by omega)
  have HC := Lib.hid hca
  have HL := Lib.hid hl.1
  clear M0 hca hl
  go_enter Try.func34, Try.ntmps34
  go_wp2
  generalize (w.alloc (.cells #[.int .i64 0, .int .i64 0] 27)).alloc (.cells (zerosB 384) 5) = W at *
  generalize w.heap.size + 1 = g at *
  clear hmk
  go_loopw [17] (fun i wr => ∃ k : Nat, k ≤ 384 ∧ i = .int .i64 k ∧ SpRel w wr g (spMid l k)) (fun i _ => 384 - (intOf i).toNat)
  case atStart => exact ⟨0, by omega, rfl, HM.out⟩
  case round =>
    obtain ⟨k, hk, rfl, M⟩ := hrel
    by_cases hlk : k < 384
    · have hst := M.set (plc k) (l.getD k 0) (spMid_step l hlk)
      have hp := plc_lt hlk
      have hcl := M.1.cellAt (i := plc k) hp
      have hfz := M.1.frozenAt (plc k)
      have hx := (M.2.2.1.cell (p := ⟨ba, oa + k, none⟩) hlt).trans (HC.out k hlk)
      have hpe := plc_eq k hlk
      have hrb : 0 ≤ (k : Int) / 24 ∧ (k : Int) / 24 < 16 := by omega
      have hcb : 0 ≤ (k : Int) % 24 ∧ (k : Int) % 24 < 24 := by omega
      have hlb := ilL_bd ((k : Int) / 24) ((k : Int) % 24)
      have HST := Lib.hid hst
      have hv : ∃ v, (spMid l k).getD (plc k) 0 = v := ⟨_, rfl⟩
      obtain ⟨v, hv⟩ := hv
      rw [hv] at hcl
      generalize l.getD k 0 = x at *
      generalize plc k = p at *
      clear hst hv M
      go_wp2_with (go_at_call 48; refine (ilLine_any _ _ _ hrb hcb).mono ?_; rintro e w' ⟨rfl, rfl⟩)
      go_roundw
      case rel => exact ⟨k + 1, by omega, by go_num, HST.out⟩
      case measure => simp [intOf]; omega
    · have : k = 384 := by omega
      subst this
      rw [spMid_end] at M
      obtain ⟨M1, M2, M3, M4⟩ := M
      obtain ⟨l0, c00, c01, f00, f01⟩ := id M2
      go_wp2
      refine bodyPost_ret (resF2 rfl rfl (M2.set2 0 0)) rfl ⟨g, rfl, ?_, Bw.set (Bw.set M3 (Nat.le_refl _) _) (Nat.le_refl _) _⟩
      exact (M1.far (by simpa using Ne.symm M4) _).far (by simpa using Ne.symm M4) _
set_option maxRecDepth 100000 in
set_option maxHeartbeats 1000000 in
theorem ilGather_ok (A : Option Addr) (c : Nat) (l : List GF) (w : World) (hl : RdB w A 384 l) :
    Calls Try.prog 41 #[.slice A 384 c] w fun e w' =>
      ∃ g, e = .returned (.tuple #[.slice (some ⟨g, 0, none⟩) 384 384, .agg #[.int .i64 0, .int .i64 0]]) ∧ OwB w' w.heap.size (.slice (some ⟨g, 0, none⟩) 384 384) (gatherL l) ∧ Below w.heap.size w w' := by
  have hmk : ∀ w : World, (Instr.makeSlice 50 (.int .i64 384) (.int .i64 384)).run Try.prog w = .ok (.slice (some ⟨w.heap.size, 0, none⟩) 384 384) (w.alloc (.cells (zerosB 384) 5)) := run_makeB 384 (by omega)
  have M0 : SpRel w ((w.alloc (.cells #[.int .i64 0, .int .i64 0] 27)).alloc (.cells (zerosB 384) 5)) (w.heap.size + 1) (gaMid l 0) := by
    have ho := OwB.new (w.alloc (.cells #[.int .i64 0, .int .i64 0] 27)) w.heap.size 384 (by simp only [World.size_alloc]; omega) (by unfold maxLen; omega)
    rw [World.size_alloc] at ho
    rw [gaMid_zero]
    exact ⟨ho, (Has.new w 0 0 _).al _, below_new2 _ _ _, by omega⟩
  have HM := Lib.hid M0
  obtain ⟨ba, oa, rfl, hlt, hca⟩ := hl.2 (by omega)
  have HC := Lib.hid hca
  have HL := Lib.hid hl.1
  clear M0 hca hl
  go_enter Try.func41, Try.ntmps41
  go_wp2
  generalize (w.alloc (.cells #[.int .i64 0, .int .i64 0] 27)).alloc (.cells (zerosB 384) 5) = W at *
  generalize w.heap.size + 1 = g at *
  clear hmk
  go_loopw [17] (fun i wr => ∃ k : Nat, k ≤ 384 ∧ i = .int .i64 k ∧ SpRel w wr g (gaMid l k)) (fun i _ => 384 - (intOf i).toNat)
  case atStart => exact ⟨0, by omega, rfl, HM.out⟩
  case round =>
    obtain ⟨k, hk, rfl, M⟩ := hrel
    by_cases hlk : k < 384
    · have hst := M.set (src k) (l.getD k 0) (gaMid_step l hlk)
      have hp := src_lt hlk
      have hcl := M.1.cellAt (i := src k) hp
      have hfz := M.1.frozenAt (src k)
      have hx := (M.2.2.1.cell (p := ⟨ba, oa + k, none⟩) hlt).trans (HC.out k hlk)
      have hpe := src_eq k hlk
      have hrb : 0 ≤ (k : Int) / 24 ∧ (k : Int) / 24 < 16 := by omega
      have hcb : 0 ≤ (k : Int) % 24 ∧ (k : Int) % 24 < 24 := by omega
      have hlb : 0 ≤ ((k : Int) / 24 + 5 * ((k : Int) % 24)) % 16 ∧ ((k : Int) / 24 + 5 * ((k : Int) % 24)) % 16 < 16 := by omega
      have HST := Lib.hid hst
      have hv : ∃ v, (gaMid l k).getD (src k) 0 = v := ⟨_, rfl⟩
      obtain ⟨v, hv⟩ := hv
      rw [hv] at hcl
      generalize l.getD k 0 = x at *
      generalize src k = p at *
      clear hst hv M
      go_wp2_with (go_at_call 46; refine (ilRow_any _ _ _ (by omega) (by omega)).mono ?_; rintro e w' ⟨rfl, rfl⟩)
      go_roundw
      case rel => exact ⟨k + 1, by omega, by go_num, HST.out⟩
      case measure => simp [intOf]; omega
    · have : k = 384 := by omega
      subst this
      rw [gaMid_end] at M
      obtain ⟨M1, M2, M3, M4⟩ := M
      obtain ⟨l0, c00, c01, f00, f01⟩ := id M2
      go_wp2
      refine bodyPost_ret (resF2 rfl rfl (M2.set2 0 0)) rfl ⟨g, rfl, ?_, Bw.set (Bw.set M3 (Nat.le_refl _) _) (Nat.le_refl _) _⟩
      exact (M1.far (by simpa using Ne.symm M4) _).far (by simpa using Ne.symm M4) _

def LaRel (w wr : World) (g : Nat) (l : List GF) : Prop := OwB wr w.heap.size (.slice (some ⟨g, 0, none⟩) 384 384) l ∧ Below w.heap.size w wr
theorem LaRel.set {w wr : World} {g : Nat} {l l' : List GF} (h : LaRel w wr g l) (i : Nat) (x : GF) (hl : l.set i x = l') : LaRel w (wr.setCell ⟨g, i, none⟩ (.int .u8 x.z)) g l' :=
  ⟨hl ▸ h.1.set i x, Bw.set h.2 h.1.lt.1 _⟩
theorem LaRel.drew {w wr : World} {g : Nat} {l : List GF} (h : LaRel w wr g l) : LaRel w wr.drew g l := ⟨h.1, Bw.drew h.2⟩
set_option maxRecDepth 100000 in
set_option maxHeartbeats 2000000 in
theorem refLaid_ok (A : Option Addr) (c : Nat) (l : List GF) (w : World) (hl : RdB w A 384 l) :
    Calls Try.prog 36 #[.slice A 384 c] w fun e w' =>
      ∃ g, e = .returned (.slice (some ⟨g, 0, none⟩) 384 384) ∧ OwB w' w.heap.size (.slice (some ⟨g, 0, none⟩) 384 384) (spreadL l) ∧ Below w.heap.size w w' := by
  have hmk : ∀ w : World, (Instr.makeSlice 50 (.int .i64 384) (.int .i64 384)).run Try.prog w = .ok (.slice (some ⟨w.heap.size, 0, none⟩) 384 384) (w.alloc (.cells (zerosB 384) 5)) := run_makeB 384 (by omega)
  have M0 : LaRel w (w.alloc (.cells (zerosB 384) 5)) w.heap.size (spMid l 0) := by
    rw [spMid_zero]
    exact ⟨OwB.new w w.heap.size 384 (Nat.le_refl _) (by unfold maxLen; omega), below_new _ _⟩
  have HM := Lib.hid M0
  obtain ⟨ba, oa, rfl, hlt, hca⟩ := hl.2 (by omega)
  have HC := Lib.hid hca
  clear M0 hca hl
  go_enter Try.func36, Try.ntmps36
  go_wp2
  generalize w.alloc (.cells (zerosB 384) 5) = W at *
  generalize hg : w.heap.size = g at *
  have HG := Lib.hid hg
  clear hmk hg
  go_loopw [4, 5] (fun i _ wr => ∃ r : Nat, r ≤ 16 ∧ i = .int .i64 r ∧ LaRel w wr g (spMid l (24 * r))) (fun i _ _ => 16 - (intOf i).toNat)
  case atStart => exact ⟨0, by omega, rfl, HM.out⟩
  case round =>
    obtain ⟨r, hr, rfl, M⟩ := hrel
    by_cases hlr : r < 16
    · have d16 : decide ((r : Int) < 16) = true := by simp only [decide_eq_true_eq]; omega
      obtain ⟨wo, rfl⟩ : ∃ wo : World, wo = wr := ⟨_, rfl⟩
      have HM1 := Lib.hid M
      clear M
      go_wp2
      go_loopw [5] (fun i wr => ∃ c : Nat, c ≤ 24 ∧ i = .int .i64 c ∧ LaRel w wr g (spMid l (24 * r + c))) (fun i _ => 24 - (intOf i).toNat)
      case atStart => exact ⟨0, by omega, rfl, HM1.out⟩
      case round =>
        obtain ⟨c, hc, rfl, M⟩ := hrel
        by_cases hlc : c < 24
        · have hlk : 24 * r + c < 384 := by omega
          have hst := M.set (plc (24 * r + c)) (l.getD (24 * r + c) 0) (spMid_step l hlk)
          have hp := plc_lt hlk
          have hcl := M.1.cellAt (i := plc (24 * r + c)) hp
          have hfz := M.1.frozenAt (plc (24 * r + c))
          have hx := (M.2.cell (p := ⟨ba, oa + (24 * r + c), none⟩) (by rw [HG.out]; exact hlt)).trans (HC.out _ hlk)
          have e1 : (24 * r + c) / 24 = r := by omega
          have e2 : (24 * r + c) % 24 = c := by omega
          have hpe : 24 * ilL r c + c = (plc (24 * r + c) : Nat) := by unfold plc ilL; rw [e1, e2]; omega
          clear e1 e2
          have hlb := ilL_bd r c
          have HST := Lib.hid hst
          have hv : ∃ v, (spMid l (24 * r + c)).getD (plc (24 * r + c)) 0 = v := ⟨_, rfl⟩
          obtain ⟨v, hv⟩ := hv
          rw [hv] at hcl
          generalize l.getD (24 * r + c) 0 = x at *
          generalize plc (24 * r + c) = p at *
          have hw1 : IntKind.i64.wrap (24 * ilL r c) = 24 * ilL r c := IntWalk.i64_in _ (by omega)
          have hw2 : IntKind.i64.wrap (24 * ilL r c + c) = p := by rw [IntWalk.i64_in _ (by omega)]; exact hpe
          have hw3 : IntKind.i64.wrap (24 * (r : Int)) = 24 * r := IntWalk.i64_in _ (by omega)
          have hw4 : IntKind.i64.wrap (24 * (r : Int) + c) = 24 * r + c := IntWalk.i64_in _ (by omega)
          have hn4 : (24 * (r : Int) + c).toNat = 24 * r + c := by omega
          have hi4 : 0 ≤ 24 * (r : Int) + c := by omega
          have hj4 : 24 * (r : Int) + c < 384 := by omega
          have hp1 : (p : Int) < 384 := by omega
          have hp0 : 0 ≤ (p : Int) := by omega
          have hpn : (p : Int).toNat = p := by omega
          have hw5 : IntKind.i64.wrap (p : Int) = p := IntWalk.i64_in _ (by omega)
          clear hst hv M hpe
          go_wp2
          go_region_with ((go_at_call 32; refine (refLine_any _ _ _ (by omega) (by omega)).mono ?_; rintro e w' ⟨rfl, rfl⟩))
          all_goals
            go_wp2
            go_roundw
            case rel => exact ⟨c + 1, by omega, by go_num, HST.out.drew⟩
            case measure => simp [intOf]; omega
        · have : c = 24 := by omega
          subst this
          have HM2 := Lib.hid (show LaRel w wr g (spMid l (24 * (r + 1))) by rw [show 24 * (r + 1) = 24 * r + 24 by omega]; exact M)
          clear M
          go_wp2
          go_roundw
          case rel => exact ⟨r + 1, by omega, by go_num, HM2.out⟩
          case measure => simp [intOf]; omega
    · have : r = 16 := by omega
      subst this
      have HM2 := Lib.hid (show LaRel w wr g (spreadL l) by rw [← spMid_end]; exact M)
      clear M
      go_wp2
      go_ret
      exact ⟨g, rfl, HM2.out.1, HM2.out.2⟩
end Go.Proofs.Ytoepcbpmbekpgaa
