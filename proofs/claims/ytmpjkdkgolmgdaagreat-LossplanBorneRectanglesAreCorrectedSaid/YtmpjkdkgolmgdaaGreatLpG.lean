/- The walk of lossplan.badRows: the library's sort by its contract. -/
import Derived.Test.YtmpjkdkgolmgdaaGreatMi
import Derived.Test.YtmpjkdkgolmgdaaGreatShelf
import Derived.Test.YtmpjkdkgolmgdaaGreatMa
import Derived.Sort.OwnSortedInts
namespace Go.Proofs.YtmpjkdkgolmgdaaGreat
open Go.RowKit Go.Sort
set_option linter.unusedVariables false

theorem cI_map (l : List Int) : cI l = l.map (Value.int .i64) := rfl
theorem sort_own (B g c : Nat) (L : List Int) (w : World) (ho : OwI w B (.slice (some ⟨g, 0, none⟩) L.length c) L) (hB : B ≤ w.heap.size) (hl : L.length ≤ 1000000) :
    Calls Tryz.prog 57 #[.slice (some ⟨g, 0, none⟩) L.length c] w fun e w' => e = .returned (.tuple #[]) ∧ OwI w' B (.slice (some ⟨g, 0, none⟩) L.length c) (isrt L) ∧ Below B w w' := by
  have ho' := ho
  rcases ho.2 with ⟨h0, _⟩ | ⟨g', cap', cur, hv, hg, hh, hn, hcap, hsz, htk⟩
  · cases h0
  injection hv with e1 e2 e3
  injection e1 with e1
  injection e1 with e1
  subst e1
  subst e3
  refine (Tryz.slices_Sort_int g 0 c L w (holds_of_blockI hh (by rw [cI_map, Nat.mul_one] at htk; exact htk)) ho.lt.2 (by omega)).mono ?_
  rintro e w' ⟨rfl, n, os, rfl⟩
  rw [merge_isrt]
  refine ⟨rfl, ?_, ?_⟩
  · have := ownsRow_sortedI (w := w) (n := n) (os := os) (ss := L) (ts := isrt L) (isrt_len L) hg hh hn hcap (by omega)
    unfold OwI
    rw [cI_map, isrt_len]
    exact this
  · exact grown_below (grownBy_sortedI (isrt L).toArray) ho' hB
theorem rdI_at {w : World} {A : Option Addr} {n : Nat} {l : List Int} (h : RdI w A n l) {i : Nat} (hi : i < n) : ∃ b off, A = some ⟨b, off, none⟩ ∧ b < w.heap.size ∧ w.cell? ⟨b, off + i, none⟩ = some (.int .i64 (l.getD i 0)) := by
  obtain ⟨b, off, e, hb, hc⟩ := h.2 (by omega)
  exact ⟨b, off, e, hb, hc i hi⟩
theorem ownI_head {w : World} {B n c : Nat} {A : Option Addr} {l : List Int} (h : OwI w B (.slice A n c) l) (hn : 0 < n) : ∃ g, A = some ⟨g, 0, none⟩ := by
  rcases h.2 with ⟨h1, h2⟩ | ⟨g, cap, cur, hv, _⟩
  · injection h1 with e1 e2 e3; omega
  · injection hv with e1 e2 e3; exact ⟨g, e1⟩
theorem cntS_stop {s : List Int} (h : ∀ x ∈ s, 0 ≤ x) {m : Int} (hm : 0 ≤ m) {k : Nat} (hk : k < s.length) (h1 : preS s k ≤ m) (h2 : m - preS s k - s.getD k 0 < 0) : cntS s m = k := by
  have a := (cntS_iff h hm k (by omega)).1 h1
  have b := cntS_iff h hm (k + 1) (by omega)
  rw [preS_succ hk] at b
  have : ¬ (k + 1 ≤ cntS s m) := fun hh => by have := b.2 hh; omega
  omega
theorem cntS_end {s : List Int} (h : ∀ x ∈ s, 0 ≤ x) {m : Int} (hm : 0 ≤ m) (h1 : preS s s.length ≤ m) : cntS s m = s.length := by
  have a := (cntS_iff h hm s.length (Nat.le_refl _)).1 h1
  have b := cntS_le s m
  omega
theorem needL_take (t : Int) (h : List Int) {k : Nat} (hk : k < h.length) : needL t (h.take (k + 1)) = needL t (h.take k) ++ [max (t + 1 - h.getD k 0) 0] := by
  unfold needL
  rw [List.take_succ_eq_append_getElem hk, List.map_append]
  simp [hk]
theorem memI_getD {s : List Int} {k : Nat} (hk : k < s.length) : s.getD k 0 ∈ s := by
  have : s.getD k 0 = s[k] := by simp [hk]
  rw [this]; exact List.getElem_mem hk
set_option maxRecDepth 100000 in
set_option maxHeartbeats 2000000 in
theorem badRows_any (A : Option Addr) (n c : Nat) (h : List Int) (t S : Int) (w : World) (hh : RdI w A n h) (hn : 0 < n) (hn2 : n ≤ 1000) (hb : ∀ i, i < n → 0 ≤ h.getD i 0 ∧ h.getD i 0 ≤ 1000) (ht : 0 ≤ t ∧ t ≤ 1000) (hS : 0 ≤ S ∧ S ≤ 1000) :
    Calls Tryz.prog 43 #[.slice A n c, .int .i64 S, .int .i64 t] w fun e w' => e = .returned (.int .i64 (badC h t S : Nat)) ∧ Below w.heap.size w w' := by
  have ll := hh.1
  subst ll
  have HH := Lib.hid hh
  have HB := Lib.hid hb
  clear hh hb
  go_enter Tryz.func43, Tryz.ntmps43
  go_wp2
  go_loopw [7, 15] (fun v i wr => ∃ k : Nat, k ≤ h.length ∧ i = .int .i64 k ∧ OwI wr w.heap.size v (needL t (h.take k)) ∧ Below w.heap.size w wr) (fun _ i _ => h.length - (intOf i).toNat)
  case atStart => exact ⟨0, Nat.zero_le _, rfl, OwI.nil _ _, Below.refl _ _⟩
  case round =>
    obtain ⟨k, hk, rfl, ho, hbw⟩ := hrel
    by_cases hlt : k < h.length
    · obtain ⟨b, off, rfl, hlb, hcc⟩ := rdI_at (HH.out.below hbw) (i := k) hlt
      have hbd := HB.out k hlt
      have HT := Lib.hid (needL_take t h hlt)
      have hol : (needL t (h.take k)).length ≤ 1000 := by rw [needL_len, List.length_take]; omega
      have HO := Lib.hid ho
      have hsz := hbw.size
      generalize needL t (h.take k) = L at *
      generalize h.getD k 0 = x at *
      clear ho
      go_wp2_with (at_builtin; refine wpList_app1I wr rfl (.tmp 19) (.tmp 25) rfl w.heap.size _ L HO.out rfl (max (t + 1 - x) 0) _ rfl (by omega) hsz ?_; intro v1 w1 ho1 hb1)
      go_roundw
      case rel => first | exact ⟨k + 1, by omega, by go_num, by (rw [HT.out]; exact ho1), hbw.trans hb1⟩ | ((repeat apply Exists.intro); exact ⟨⟨k + 1, by omega, by go_num, by (rw [HT.out]; exact ho1), hbw.trans hb1⟩, rfl⟩)
      case measure => simp [intOf]; omega
    · obtain rfl : k = h.length := by omega
      rw [List.take_of_length_le (Nat.le_refl _)] at ho
      have hln := needL_len t h
      obtain ⟨A1, c1, e1⟩ := ho.form
      rw [hln] at e1
      subst e1
      obtain ⟨g, rfl⟩ := ownI_head ho (by omega)
      have hsz := hbw.size
      rw [← hln] at ho
      have HSO := Lib.hid (sort_own w.heap.size g c1 (needL t h) wr ho hsz (by omega))
      rw [hln] at HSO
      have HNN : Hid (∀ x ∈ isrt (needL t h), 0 ≤ x) := Lib.hid fun x hx => needL_nonneg t h x ((isrt_perm _).subset hx)
      have hil := isrt_len (needL t h)
      have HBC : Hid (badC h t S = cntS (isrt (needL t h)) S) := Lib.hid rfl
      have HGB : Hid (∀ x ∈ isrt (needL t h), x ≤ 2000) := Lib.hid fun x hx => by
        have h1 := (isrt_perm _).subset hx
        unfold needL at h1
        obtain ⟨y, hy, rfl⟩ := List.mem_map.1 h1
        obtain ⟨i, hi, e⟩ := List.getElem_of_mem hy
        have := HB.out i hi
        have e2 : h.getD i 0 = y := by simp [hi, e]
        rw [e2] at this
        omega
      clear ho hlt
      go_wp2_with fail
      refine HSO.out.mono ?_
      rintro e w1 ⟨rfl, ho1, hb1⟩
      rw [hln] at hil
      have HO1 := Lib.hid ho1
      generalize isrt (needL t h) = s at *
      have hbw1 := hbw.trans hb1
      clear ho1 HSO
      go_wp2
      go_loopw [1, 10, 32] (fun sc bd i wr => ∃ k : Nat, k ≤ h.length ∧ i = .int .i64 k ∧ bd = .int .i64 k ∧ sc = .int .i64 (S - preS s k) ∧ preS s k ≤ S ∧ 0 ≤ preS s k ∧ OwI wr w.heap.size (.slice (some ⟨g, 0, none⟩) h.length c1) s ∧ Below w.heap.size w wr) (fun _ _ i _ => h.length - (intOf i).toNat)
      case atStart => exact ⟨0, Nat.zero_le _, rfl, rfl, by rw [preS_zero, Int.sub_zero], by rw [preS_zero]; omega, by rw [preS_zero]; exact Int.le_refl _, HO1.out, hbw1⟩
      case round =>
        obtain ⟨k, hk, rfl, rfl, rfl, hp1, hp2, ho, hb2⟩ := hrel
        by_cases hlk : k < h.length
        · have hcc := ho.cellAt (i := k) hlk
          have hx1 := HNN.out _ (memI_getD (s := s) (k := k) (by omega))
          have hx2 := HGB.out _ (memI_getD (s := s) (k := k) (by omega))
          have HPS := Lib.hid (preS_succ (s := s) (k := k) (by omega))
          have HST := Lib.hid (fun h2 => cntS_stop HNN.out hS.1 (k := k) (by omega) hp1 h2)
          have HO := Lib.hid ho
          generalize s.getD k 0 = x at *
          generalize hpk : preS s k = pk at *
          clear ho
          by_cases hst : S - pk - x < 0
          · have d1 : decide (S - pk - x < 0) = true := by simp only [decide_eq_true_eq]; exact hst
            have HC := Lib.hid (HST.out hst)
            clear hst HST
            go_wp2
            go_ret
            exact ⟨by rw [HBC.out, HC.out]; rfl, hb2⟩
          · have d1 : decide (S - pk - x < 0) = false := by simp only [decide_eq_false_iff_not]; exact hst
            clear HST hpk
            go_wp2
            go_roundw
            case rel => first | exact ⟨k + 1, by omega, by go_num, by go_num, by (rw [HPS.out]; congr 1; omega), by (rw [HPS.out]; omega), by (rw [HPS.out]; omega), HO.out, hb2⟩ | ((repeat apply Exists.intro); exact ⟨⟨k + 1, by omega, by go_num, by go_num, by (rw [HPS.out]; congr 1; omega), by (rw [HPS.out]; omega), by (rw [HPS.out]; omega), HO.out, hb2⟩, rfl⟩)
            case measure => simp [intOf]; omega
        · obtain rfl : k = h.length := by omega
          have HC := Lib.hid ((cntS_end HNN.out hS.1 (by rw [hil]; exact hp1)).trans hil)
          clear hlk
          go_wp2
          go_ret
          exact ⟨by rw [HBC.out, HC.out]; rfl, hb2⟩
end Go.Proofs.YtmpjkdkgolmgdaaGreat
