/- Walks of Meets, of the package interleave and of its reference. -/
import Derived.Test.YtnajdmkdkpmdgaaIlA
namespace Go.Proofs.Ytnajdmkdkpmdgaa
open Go.RowKit
set_option linter.unusedVariables false

theorem Has.set {w : World} {b : Nat} {c i : Int} (h : Has w b c i) {p : Addr} (hp : p.block ≠ b) (u : Value) : Has (w.setCell p u) b c i := by
  obtain ⟨l, c0, c1, f0, f1⟩ := h
  refine ⟨by simpa [World.setCell] using l, ?_, ?_, by simpa using f0, by simpa using f1⟩
  · rw [World.cell?_setCell_other _ _ _ _ (by intro e; apply hp; rw [e])]; exact c0
  · rw [World.cell?_setCell_other _ _ _ _ (by intro e; apply hp; rw [e])]; exact c1

/-- What Meets has made: a slice of the call's own, and the result's block. -/
def MeetRel (w wr : World) (g : Nat) (l : List Int) : Prop := OwI wr w.heap.size (.slice (some ⟨g, 0, none⟩) 16 16) l ∧ Has wr w.heap.size 0 0 ∧ Below w.heap.size w wr ∧ g ≠ w.heap.size
theorem MeetRel.set {w wr : World} {g : Nat} {l l' : List Int} (h : MeetRel w wr g l) (i : Nat) (x : Int) (hl : l.set i x = l') : MeetRel w (wr.setCell ⟨g, i, none⟩ (.int .i64 x)) g l' := by
  obtain ⟨h1, h2, h3, h4⟩ := h
  refine ⟨hl ▸ h1.set i x, h2.set (by exact h4) _, Bw.set h3 h1.lt.1 _, h4⟩

set_option maxRecDepth 100000 in
set_option maxHeartbeats 1000000 in
theorem ilMeets_ok (top left : Int) (h wd : Nat) (w : World) (ht : 0 ≤ top ∧ top < 16) (hl : 0 ≤ left ∧ left < 24) (hh : top + h ≤ 16) (hw : left + wd ≤ 24) :
    Calls Try.prog 30 #[.int .i64 top, .int .i64 left, .int .i64 h, .int .i64 wd] w fun e w' =>
      ∃ g, e = .returned (.tuple #[.slice (some ⟨g, 0, none⟩) 16 16, .agg #[.int .i64 0, .int .i64 0]]) ∧ OwI w' w.heap.size (.slice (some ⟨g, 0, none⟩) 16 16) (ilMeets top left h wd) ∧ Below w.heap.size w w' := by
  have h1 : decide ((h : Int) < 0) = false := by simp
  have h2 : decide ((wd : Int) < 0) = false := by simp
  have h3 : decide (16 - top < (h : Int)) = false := by simp; omega
  have h4 : decide (24 - left < (wd : Int)) = false := by simp; omega
  have hmk := run_makeI 16 (by omega)
  have hmk' : ∀ w : World, (Instr.makeSlice 53 (.int .i64 16) (.int .i64 16)).run Try.prog w = .ok (.slice (some ⟨w.heap.size, 0, none⟩) 16 16) (w.alloc (.cells (zerosI 16) 3)) := hmk
  clear hmk
  go_enter Try.func30, Try.ntmps30
  go_wp2_with fail
  refine (ilCheck_ok _ _ _ ht hl).mono ?_; rintro e w1 ⟨rfl, hb1⟩
  have F0 := (Has.new w 0 0 _).below hb1
  obtain ⟨l0, c00, c01, f00, f01⟩ := id F0
  have M0 : MeetRel w ((w1.alloc (.cells #[.int .i64 0, .int .i64 0] 27)).alloc (.cells (zerosI 16) 3)) (w1.heap.size + 1) (ilMid top left 0 wd 0) := by
    have hs := hb1.size
    simp only [World.size_alloc] at hs
    have ho := OwI.new (w1.alloc (.cells #[.int .i64 0, .int .i64 0] 27)) w.heap.size 16 (by simp only [World.size_alloc]; omega) (by unfold maxLen; omega)
    rw [World.size_alloc] at ho
    rw [ilMid_zero]
    exact ⟨ho, (F0.al _).al _, Bw.al (Bw.al (Bw.step (below_new _ _) hb1) _) _, by omega⟩
  go_wp2
  generalize (w1.alloc (.cells #[.int .i64 0, .int .i64 0] 27)).alloc (.cells (zerosI 16) 3) = W at *
  generalize w1.heap.size + 1 = g at *
  generalize w1.heap.size = b1 at *
  clear hb1 F0 l0 c00 c01 f00 f01 hmk'
  have HM := Lib.hid M0
  clear M0
  go_loopw [41] (fun i wr => ∃ r : Nat, r ≤ h ∧ i = .int .i64 r ∧ MeetRel w wr g (ilMid top left r wd 0)) (fun i _ => h - (intOf i).toNat)
  case atStart => exact ⟨0, by omega, rfl, HM.out⟩
  case round =>
    obtain ⟨r, hr, rfl, M⟩ := hrel
    by_cases hlt : r < h
    · obtain ⟨wo, rfl⟩ : ∃ wo : World, wo = wr := ⟨_, rfl⟩
      go_wp2
      go_loopw [45] (fun i wr => ∃ c : Nat, c ≤ wd ∧ i = .int .i64 c ∧ MeetRel w wr g (ilMid top left r wd c)) (fun i _ => wd - (intOf i).toNat)
      case atStart => exact ⟨0, by omega, rfl, M⟩
      case round =>
        obtain ⟨c, hc, rfl, M2⟩ := hrel
        by_cases hlc : c < wd
        · obtain ⟨i, hi⟩ := Int.eq_ofNat_of_zero_le (show 0 ≤ (top + r + 5 * (left + c)) % 16 by omega)
          have hi16 : i < 16 := by omega
          have hst := M2.set i ((ilMid top left r wd c).getD i 0 + 1) (ilMid_step top left r wd c ht.1 (by omega) (by omega) i hi.symm)
          have hcl := M2.1.cellAt hi16
          have hfz := M2.1.frozenAt i
          rw [ilMid_get _ _ _ _ _ hi16] at hcl hst
          have b1 := ilCnt_bd top (top + r) i left wd
          have b2 := ilCnt_bd (top + r) (top + r + 1) i left c
          generalize ilCnt top (top + r) i left wd = x1 at *
          generalize ilCnt (top + r) (top + r + 1) i left c = x2 at *
          have HST := Lib.hid hst
          have HI := Lib.hid hi
          clear hst hi
          go_wp2_with (go_at_call 35; refine (ilRow_any _ _ _ (by omega) (by omega)).mono ?_; rw [HI.out]; rintro e w' ⟨rfl, rfl⟩)
          go_roundw
          case rel => exact ⟨c + 1, by omega, by go_num, HST.out⟩
          case measure => simp [intOf]; omega
        · have : c = wd := by omega
          subst this
          rw [ilMid_row _ _ _ _ (by omega)] at M2
          go_wp2
          go_roundw
          case rel => exact ⟨r + 1, by omega, by go_num, by simpa using M2⟩
          case measure => simp [intOf]; omega
    · have : r = h := by omega
      subst this
      rw [ilMid_end] at M
      obtain ⟨M1, M2, M3, M4⟩ := M
      obtain ⟨l0, c00, c01, f00, f01⟩ := id M2
      go_wp2
      refine bodyPost_ret (resF2 rfl rfl (M2.set2 0 0)) rfl ⟨g, rfl, ?_, Bw.set (Bw.set M3 (Nat.le_refl _) _) (Nat.le_refl _) _⟩
      exact (M1.far (by simpa using Ne.symm M4) _).far (by simpa using Ne.symm M4) _

theorem inB_true {n lo hi : Int} (h : lo ≤ n ∧ n ≤ hi) : inB n lo hi = true := by unfold inB; simp only [decide_eq_true_eq]; exact h
theorem inB_false {n lo hi : Int} (h : ¬ (lo ≤ n ∧ n ≤ hi)) : inB n lo hi = false := by unfold inB; simp only [decide_eq_false_iff_not]; exact h
/-- The fault of a rectangle. -/
def mfI (top left h wd : Int) : Int := if ¬ (0 ≤ top ∧ top ≤ 15) then -1 else if ¬ (0 ≤ left ∧ left ≤ 23) then -2 else if ¬ (0 ≤ h ∧ h ≤ 16 - top) then -3 else if ¬ (0 ≤ wd ∧ wd ≤ 24 - left) then -4 else 0
def mfC (top left h wd : Int) : Int := if mfI top left h wd = 0 then 0 else 4
theorem mf_ok {top left h wd : Int} (h1 : 0 ≤ top ∧ top ≤ 15) (h2 : 0 ≤ left ∧ left ≤ 23) (h3 : 0 ≤ h ∧ h ≤ 16 - top) (h4 : 0 ≤ wd ∧ wd ≤ 24 - left) : mfI top left h wd = 0 ∧ mfC top left h wd = 0 := by
  have : mfI top left h wd = 0 := by unfold mfI; rw [if_neg (by omega), if_neg (by omega), if_neg (by omega), if_neg (by omega)]
  exact ⟨this, by unfold mfC; rw [if_pos this]⟩
theorem mf_bad {top left h wd : Int} (h1 : ¬ ((0 ≤ top ∧ top ≤ 15) ∧ (0 ≤ left ∧ left ≤ 23) ∧ (0 ≤ h ∧ h ≤ 16 - top) ∧ (0 ≤ wd ∧ wd ≤ 24 - left))) : mfC top left h wd = 4 := by
  unfold mfC
  rw [if_neg]
  unfold mfI
  split
  · omega
  · split
    · omega
    · split
      · omega
      · split
        · omega
        · omega
end Go.Proofs.Ytnajdmkdkpmdgaa
