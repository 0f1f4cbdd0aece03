/- Walks of the reference's Meets and of Ints, which compares lists of numbers. -/
import Derived.Test.YtoepcbpmbekpgaaIlB
namespace Go.Proofs.Ytoepcbpmbekpgaa
open Go.RowKit
set_option linter.unusedVariables false

def rmMid (top left h : Int) (w r c : Nat) : List Int := (List.range 16).map fun k => if k < r then ilM top left h w k else if k = r then ilCnt top (top + h) k left c else 0
theorem rmMid_get (top left h : Int) (w r c : Nat) {k : Nat} (hk : k < 16) : (rmMid top left h w r c).getD k 0 = if k < r then ilM top left h w k else if k = r then ilCnt top (top + h) k left c else 0 := by
  simp [rmMid, List.getD, hk]
theorem rmMid_yes (top left h : Int) (w r c : Nat) (hr : r < 16) (hc : top ≤ ilL r (left + c) ∧ ilL r (left + c) < top + h) : (rmMid top left h w r c).set r (ilCnt top (top + h) r left c + 1) = rmMid top left h w r (c + 1) := by
  have e : ilCnt top (top + h) r left c + 1 = (fun (k : Nat) => if k < r then ilM top left h w k else if k = r then ilCnt top (top + h) k left (c + 1) else 0) r := by
    simp only [Nat.lt_irrefl, if_false, if_true, ilCnt]
    rw [if_pos hc]
  rw [e]
  unfold rmMid
  refine map_set_range (g := fun (k : Nat) => if k < r then ilM top left h w k else if k = r then ilCnt top (top + h) k left (c + 1) else 0) hr (fun k hk => ?_)
  by_cases e : k = r
  · subst e; simp
  · simp [e]
theorem rmMid_no (top left h : Int) (w r c : Nat) (hc : ¬ (top ≤ ilL r (left + c) ∧ ilL r (left + c) < top + h)) : rmMid top left h w r c = rmMid top left h w r (c + 1) := by
  unfold rmMid
  apply List.map_congr_left
  intro k _
  by_cases e : k = r
  · subst e
    simp only [Nat.lt_irrefl, if_false, if_true, ilCnt]
    rw [if_neg hc]; omega
  · simp [e]
theorem rmMid_row (top left h : Int) (w r : Nat) : rmMid top left h w r w = rmMid top left h w (r + 1) 0 := by
  unfold rmMid
  apply List.map_congr_left
  intro k _
  by_cases e : k = r
  · subst e; simp [ilM]
  · by_cases e2 : k = r + 1
    · subst e2; simp [ilCnt]; omega
    · have : (k < r + 1) = (k < r) := by rw [eq_iff_iff]; omega
      simp [e, e2, this]
theorem rmMid_zero (top left h : Int) (w : Nat) : rmMid top left h w 0 0 = List.replicate 16 0 := by
  refine List.eq_replicate_iff.2 ⟨by simp [rmMid], fun b hb => ?_⟩
  unfold rmMid at hb
  obtain ⟨k, _, rfl⟩ := List.mem_map.1 hb
  by_cases e : k = 0
  · subst e; simp [ilCnt]
  · simp [e]
theorem rmMid_end (top left h : Int) (w : Nat) : rmMid top left h w 16 0 = ilMeets top left h w := by
  unfold rmMid ilMeets
  apply List.map_congr_left
  intro k hk
  have := List.mem_range.1 hk
  simp [this]

def RMRel (w wr : World) (g : Nat) (l : List Int) : Prop := OwI wr w.heap.size (.slice (some ⟨g, 0, none⟩) 16 16) l ∧ Below w.heap.size w wr
theorem RMRel.set {w wr : World} {g : Nat} {l l' : List Int} (h : RMRel w wr g l) (i : Nat) (x : Int) (hl : l.set i x = l') : RMRel w (wr.setCell ⟨g, i, none⟩ (.int .i64 x)) g l' :=
  ⟨hl ▸ h.1.set i x, Bw.set h.2 h.1.lt.1 _⟩

set_option maxRecDepth 100000 in
set_option maxHeartbeats 1000000 in
theorem refMeets_ok (top left : Int) (h wd : Nat) (w : World) (ht : 0 ≤ top ∧ top < 16) (hl : 0 ≤ left ∧ left < 24) (hh : top + h ≤ 16) (hw : left + wd ≤ 24) :
    Calls Try.prog 26 #[.int .i64 top, .int .i64 left, .int .i64 h, .int .i64 wd] w fun e w' =>
      ∃ g, e = .returned (.slice (some ⟨g, 0, none⟩) 16 16) ∧ OwI w' w.heap.size (.slice (some ⟨g, 0, none⟩) 16 16) (ilMeets top left h wd) ∧ Below w.heap.size w w' := by
  have hmk' : ∀ w : World, (Instr.makeSlice 31 (.int .i64 16) (.int .i64 16)).run Try.prog w = .ok (.slice (some ⟨w.heap.size, 0, none⟩) 16 16) (w.alloc (.cells (zerosI 16) 3)) := run_makeI 16 (by omega)
  have M0 : RMRel w (w.alloc (.cells (zerosI 16) 3)) w.heap.size (rmMid top left h wd 0 0) := by
    rw [rmMid_zero]
    exact ⟨OwI.new w w.heap.size 16 (Nat.le_refl _) (by unfold maxLen; omega), below_new _ _⟩
  have HM := Lib.hid M0
  clear M0
  go_enter Try.func26, Try.ntmps26
  go_wp2
  generalize w.alloc (.cells (zerosI 16) 3) = W at *
  generalize hg : w.heap.size = g at *
  clear hmk'
  go_loopw [10, 11, 12] (fun i _ _ wr => ∃ r : Nat, r ≤ 16 ∧ i = .int .i64 r ∧ RMRel w wr g (rmMid top left h wd r 0)) (fun i _ _ _ => 16 - (intOf i).toNat)
  case atStart => exact ⟨0, by omega, rfl, HM.out⟩
  case round =>
    obtain ⟨r, hr, rfl, M⟩ := hrel
    by_cases hlt : r < 16
    · have d16 : decide ((r : Int) < 16) = true := by simp only [decide_eq_true_eq]; omega
      obtain ⟨wo, rfl⟩ : ∃ wo : World, wo = wr := ⟨_, rfl⟩
      go_wp2
      go_loopw [11, 12] (fun i _ wr => ∃ c : Nat, c ≤ wd ∧ i = .int .i64 (left + c) ∧ RMRel w wr g (rmMid top left h wd r c)) (fun i _ _ => (left + wd - intOf i).toNat)
      case atStart => exact ⟨0, by omega, by simp, M⟩
      case round =>
        obtain ⟨c, hc, rfl, M2⟩ := hrel
        by_cases hlc : c < wd
        · have hL := ilL_bd r (left + c)
          have hcl := M2.1.cellAt hlt
          have hfz := M2.1.frozenAt r
          rw [rmMid_get _ _ _ _ _ _ hlt, if_neg (Nat.lt_irrefl _), if_pos rfl] at hcl
          have b1 := ilCnt_bd top (top + h) r left c
          by_cases hin : top ≤ ilL r (left + c) ∧ ilL r (left + c) < top + h
          · have HST := Lib.hid (M2.set r (ilCnt top (top + h) r left c + 1) (rmMid_yes top left h wd r c hlt hin))
            generalize ilCnt top (top + h) r left c = x1 at *
            have hi1 : top ≤ ilL r (left + c) := hin.1
            have hi2 : ilL r (left + c) < top + h := hin.2
            clear hin
            go_wp2_with (go_at_call 32; refine (refLine_any _ _ _ (by omega) (by omega)).mono ?_; rintro e w' ⟨rfl, rfl⟩)
            go_roundw
            case rel => first | exact ⟨c + 1, by omega, by go_num, HST.out⟩ | ((repeat apply Exists.intro); exact ⟨⟨c + 1, by omega, by go_num, HST.out⟩, rfl⟩)
            case measure => simp [intOf]; omega
          · rw [rmMid_no top left h wd r c hin] at M2
            have HM2 := Lib.hid M2
            clear M2 hcl hfz b1
            by_cases hi1 : top ≤ ilL r (left + c)
            · have hi2 : top + h ≤ ilL r (left + c) := by omega
              have hd : decide (ilL r (left + c) < top + h) = false := by simp; omega
              clear hin
              go_wp2_with (go_at_call 32; refine (refLine_any _ _ _ (by omega) (by omega)).mono ?_; rintro e w' ⟨rfl, rfl⟩)
              go_roundw
              case rel => first | exact ⟨c + 1, by omega, by go_num, HM2.out⟩ | ((repeat apply Exists.intro); exact ⟨⟨c + 1, by omega, by go_num, HM2.out⟩, rfl⟩)
              case measure => simp [intOf]; omega
            · have hd : decide (top ≤ ilL r (left + c)) = false := by simp; omega
              clear hin
              go_wp2_with (go_at_call 32; refine (refLine_any _ _ _ (by omega) (by omega)).mono ?_; rintro e w' ⟨rfl, rfl⟩)
              go_roundw
              case rel => first | exact ⟨c + 1, by omega, by go_num, HM2.out⟩ | ((repeat apply Exists.intro); exact ⟨⟨c + 1, by omega, by go_num, HM2.out⟩, rfl⟩)
              case measure => simp [intOf]; omega
        · have : c = wd := by omega
          subst this
          rw [rmMid_row] at M2
          go_wp2
          go_roundw
          case rel => exact ⟨r + 1, by omega, by go_num, M2⟩
          case measure => simp [intOf]; omega
    · have : r = 16 := by omega
      subst this
      rw [rmMid_end] at M
      have HM3 := Lib.hid M
      clear M
      go_wp2
      go_ret
      exact ⟨g, rfl, HM3.out.1, HM3.out.2⟩

def sameI (a b : List Int) : Bool := decide (a = b)
theorem sameI_self (a : List Int) : sameI a a = true := by simp [sameI]
theorem take_eq_step {a b : List Int} {k : Nat} (ha : k < a.length) (hb : k < b.length) (h : a.take k = b.take k) (e : a.getD k 0 = b.getD k 0) : a.take (k + 1) = b.take (k + 1) := by
  rw [List.take_succ_eq_append_getElem ha, List.take_succ_eq_append_getElem hb, h]
  simp [List.getD, List.getElem?_eq_getElem ha, List.getElem?_eq_getElem hb] at e
  rw [e]
set_option maxRecDepth 100000 in
set_option maxHeartbeats 1000000 in
theorem refInts_any (A B : Option Addr) (n m c d : Nat) (a b : List Int) (w : World) (ha : RdI w A n a) (hb : RdI w B m b) (hn : n ≤ 1099511627776) (hm : m ≤ 1099511627776) :
    Calls Try.prog 25 #[.slice A n c, .slice B m d] w fun e w' => e = .returned (.bool (sameI a b)) ∧ Below w.heap.size w w' := by
  by_cases hnm : n = m
  · subst hnm
    have hx : ((n : Int) != (n : Int)) = false := by simp
    go_enter Try.func25, Try.ntmps25
    go_wp2
    go_loopw [5] (fun i wr => ∃ k : Nat, k ≤ n ∧ i = .int .i64 k ∧ a.take k = b.take k ∧ Below w.heap.size w wr) (fun i _ => n - (intOf i).toNat)
    case atStart => exact ⟨0, by omega, rfl, rfl, Below.refl _ _⟩
    case round =>
      obtain ⟨k, hk, rfl, heq, hbel⟩ := hrel
      by_cases hlt : k < n
      · obtain ⟨b1, o1, rfl, hl1, hc1⟩ := (ha.below hbel).2 (by omega)
        obtain ⟨b2, o2, rfl, hl2, hc2⟩ := (hb.below hbel).2 (by omega)
        have x1 := hc1 k hlt
        have x2 := hc2 k hlt
        have HQ := Lib.hid heq
        have HA := Lib.hid ha.1
        have HB := Lib.hid hb.1
        clear hc1 hc2 heq
        by_cases he : a.getD k 0 = b.getD k 0
        · have HE := Lib.hid (take_eq_step (by rw [HA.out]; exact hlt) (by rw [HB.out]; exact hlt) HQ.out he)
          rw [he] at x1
          have hne : (b.getD k 0 != b.getD k 0) = false := by simp
          clear he
          generalize b.getD k 0 = y at *
          go_wp2
          go_quiet (fail)
          go_wp2
          go_roundw
          case rel => exact ⟨k + 1, by omega, by go_num, HE.out, ⟨hbel.os, hbel.tape, hbel.output, hbel.size, hbel.block⟩⟩
          case measure => simp [intOf]; omega
        · have hs : sameI a b = false := by
            unfold sameI
            rw [decide_eq_false_iff_not]
            intro e
            exact he (by rw [e])
          have HS := Lib.hid hs
          clear hs
          have hne : (a.getD k 0 != b.getD k 0) = true := by rw [bne_iff_ne]; exact he
          clear he
          generalize a.getD k 0 = x at *
          generalize b.getD k 0 = y at *
          go_wp2
          go_quiet (fail)
          go_wp2
          go_ret
          exact ⟨by rw [HS.out]; rfl, ⟨hbel.os, hbel.tape, hbel.output, hbel.size, hbel.block⟩⟩
      · have hkn : k = n := by omega
        subst hkn
        have hs : sameI a b = true := by
          unfold sameI
          rw [decide_eq_true_eq]
          rw [List.take_of_length_le (by rw [ha.1]; exact Nat.le_refl _), List.take_of_length_le (by rw [hb.1]; exact Nat.le_refl _)] at heq
          exact heq
        have HS := Lib.hid hs
        clear hs heq
        go_wp2
        go_ret
        exact ⟨by rw [HS.out]; rfl, hbel⟩
  · have hx : ((n : Int) != (m : Int)) = true := by rw [bne_iff_ne]; omega
    have hs : sameI a b = false := by
      unfold sameI
      rw [decide_eq_false_iff_not]
      intro e
      exact hnm (by rw [← ha.1, ← hb.1, e])
    rw [hs]
    clear hnm
    go_enter Try.func25, Try.ntmps25
    go_wp2
    go_ret
    exact ⟨rfl, Below.refl _ _⟩
end Go.Proofs.Ytoepcbpmbekpgaa
