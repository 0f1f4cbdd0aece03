/- The walk of the reference's Beyond. -/
import Derived.Test.YtnajdmkdkpmdgaaLpH
namespace Go.Proofs.Ytnajdmkdkpmdgaa
open Go.RowKit
set_option linter.unusedVariables false

theorem ownI_empty (w : World) (B : Nat) (hB : B ≤ w.heap.size) : OwI (w.alloc (.cells #[] 3)) B (.slice (some ⟨w.heap.size, 0, none⟩) 0 0) [] := World.ownsRow_made w #[] 0 hB (Nat.zero_le _) rfl
theorem preS_le {s : List Int} (h : ∀ x ∈ s, x ≤ 2000) (k : Nat) : preS s k ≤ 2000 * k := by
  induction s generalizing k with
  | nil => rw [preS_nil]; omega
  | cons x s ih =>
    cases k with
    | zero => rw [preS_zero]; omega
    | succ k =>
      rw [preS_cons]
      have h1 := h x (List.mem_cons_self ..)
      have h2 := ih (fun y hy => h y (List.mem_cons_of_mem _ hy)) k
      omega
theorem need_le {t : Int} {h : List Int} (ht : t ≤ 1000) (hb : ∀ x ∈ h, 0 ≤ x) : ∀ x ∈ isrt (needL t h), x ≤ 2000 := by
  intro x hx
  have h1 := (isrt_perm _).subset hx
  unfold needL at h1
  obtain ⟨y, hy, rfl⟩ := List.mem_map.1 h1
  have := hb y hy
  omega
theorem mem_of_getD {h : List Int} (hb : ∀ i, i < h.length → 0 ≤ h.getD i 0) : ∀ x ∈ h, 0 ≤ x := by
  intro x hx
  obtain ⟨i, hi, e⟩ := List.getElem_of_mem hx
  have := hb i hi
  have e2 : h.getD i 0 = x := by simp [hi, e]
  rw [e2] at this; exact this
theorem cellI_ext {w : World} {b off : Nat} {v : Value} (hb : b < w.heap.size) (hc : w.cell? ⟨b, off, none⟩ = some v) (x : Ext w) : x.w.cell? ⟨b, off, none⟩ = some v := (x.below.cell (p := ⟨b, off, none⟩) hb).trans hc
set_option maxRecDepth 100000 in
set_option maxHeartbeats 4000000 in
theorem rBeyond_any (A : Option Addr) (n c : Nat) (h : List Int) (t m : Int) (w : World) (hh : RdI w A n h) (hn2 : n ≤ 100) (hb : ∀ i, i < n → 0 ≤ h.getD i 0 ∧ h.getD i 0 ≤ 1000) (ht : 0 ≤ t ∧ t ≤ 1000) (hm : 0 ≤ m ∧ m ≤ 1000) :
    Calls Try.prog 32 #[.slice A n c, .int .i64 t, .int .i64 m] w fun e w' => e = .returned (.int .i64 (badC h t m : Nat)) ∧ Below w.heap.size w w' := by
  have ll := hh.1
  subst ll
  have HH := Lib.hid hh
  have HB := Lib.hid hb
  have HPO := Lib.hid (mem_of_getD (h := h) fun i hi => (hb i hi).1)
  have R0 := RdI.one w 0 3 1
  clear hh hb
  go_enter Try.func32, Try.ntmps32
  go_wp2
  go_loopw [7, 8] (fun v i wr => ∃ (k : Nat) (A' : Option Addr) (c' : Nat), k ≤ h.length ∧ i = .int .i64 k ∧ v = .slice A' (k + 1) c' ∧ RdI wr A' (k + 1) (tab (needL t (h.take k))) ∧ Below w.heap.size w wr) (fun _ i _ => h.length - (intOf i).toNat)
  case atStart => exact ⟨0, _, _, Nat.zero_le _, rfl, rfl, R0, below_new _ _⟩
  case round =>
    obtain ⟨k, A1, c1, hk, rfl, rfl, hR, hbw⟩ := hrel
    by_cases hlt : k < h.length
    · --[[a
      obtain ⟨b, off, rfl, hlb, hcc⟩ := rdI_at (HH.out.below hbw) (i := k) hlt
      have hbd := HB.out k hlt
      have HT := Lib.hid (needL_take t h hlt)
      have HPT := Lib.hid (need_le ht.2 (h := h.take k) (fun x hx => HPO.out x (List.mem_of_mem_take hx)))
      have HPN : Hid (∀ x ∈ isrt (needL t (h.take k)), 0 ≤ x) := Lib.hid fun x hx => needL_nonneg t (h.take k) x ((isrt_perm _).subset hx)
      have hll : (needL t (h.take k)).length = k := by rw [needL_len, List.length_take]; omega
      have HR := Lib.hid hR
      have hsz := hbw.size
      generalize h.getD k 0 = y at *
      generalize needL t (h.take k) = l at *
      have hlen := tab_len l
      clear hR
      obtain ⟨xx, hxx⟩ : ∃ xx, max (t + 1 - y) 0 = xx := ⟨_, rfl⟩
      rw [hxx] at HT
      have hx0 : 0 ≤ xx ∧ xx ≤ 1001 := by omega
      have hpk := preS_nonneg HPN.out k
      have hpk2 := preS_le HPT.out k
      obtain ⟨bl, ol, rfl, hll2, hcl⟩ := rdI_at HR.out (i := k) (by omega)
      rw [tab_get l (by omega)] at hcl
      have HLAST : Hid (∀ W, Below wr.heap.size wr W → W.cell? ⟨bl, ol + k, none⟩ = some (.int .i64 (preS (isrt l) k))) := Lib.hid fun W hb => (hb.cell (p := ⟨bl, ol + k, none⟩) hll2).trans hcl
      have HE := Lib.hid (ownI_empty wr wr.heap.size (Nat.le_refl _))
      have HRE := Lib.hid (HR.out.below (below_new wr (.cells #[] 3)))
      have HST := Lib.hid (tabMid_start l xx)
      rw [hll] at HST
      by_cases hneg : t + 1 - y < 0
      · have d1 : decide (t + 1 - y < 0) = true := by simp only [decide_eq_true_eq]; exact hneg
        obtain rfl : xx = 0 := by omega
        clear hneg hxx hcl
        rw [Int.add_zero] at HST
        go_wp2_with (first
          | (at_builtin; refine wpList_appI _ rfl (.tmp 30) (.tmp 31) rfl wr.heap.size (.slice (some ⟨wr.heap.size, 0, none⟩) 0 0) [] rfl HE.out (some ⟨bl, ol, none⟩) (k + 1) c1 (tab l) rfl HRE.out (by simp; omega) (by simp) ?_; intro v1 w1 ho1 hg1 hat1; have hb1 : Below wr.heap.size wr w1 := (below_new wr _).trans (grown_below hg1 HE.out (by simp)); have hcl := HLAST.out _ hb1; rw [List.nil_append] at ho1)
          | (at_builtin; refine wpList_app1I w1 rfl (.tmp 33) (.tmp 42) rfl wr.heap.size v1 (tab l) ho1 rfl (preS (isrt l) k) _ rfl (by omega) hb1.size ?_; intro v2 w2 ho2 hb2))
        rw [HST.out] at ho2
        obtain ⟨A2, c2, e2⟩ := ho2.form
        rw [tabMid_len, hll] at e2
        subst e2
        have HO2 := Lib.hid ho2
        have hb3 := hb1.trans hb2
        clear ho1 ho2 hg1 hat1 hb1 hb2 hcl HE HRE HST
        go_wp2
        go_loopw [11] (fun i wr' => ∃ j : Nat, 1 ≤ j ∧ j ≤ k + 1 ∧ i = .int .i64 j ∧ OwI wr' wr.heap.size (.slice A2 (k + 2) c2) (tabMid l 0 j) ∧ Below wr.heap.size wr wr') (fun i _ => k + 1 - (intOf i).toNat)
        case atStart => exact ⟨1, Nat.le_refl _, by omega, rfl, HO2.out, hb3⟩
        case round =>
          obtain ⟨j, hj1, hj2, rfl, ho, hb4⟩ := hrel
          rename World => wrj
          by_cases hlj : j < k + 1
          · obtain ⟨i, rfl⟩ : ∃ i, j = i + 1 := ⟨j - 1, by omega⟩
            obtain ⟨g2, rfl⟩ := ownI_head ho (by omega)
            have hco := ho.cellAt (i := i + 1) (by omega)
            rw [tabMid_get l 0 (i + 1) (by omega), if_neg (by omega), if_neg (by omega)] at hco
            obtain ⟨bl', ol', e', hlb', hci⟩ := rdI_at (HR.out.below hb4) (i := i) (by omega)
            injection e' with e'
            injection e' with e1' e2'
            subst e1'
            subst e2'
            rw [tab_get l (by omega)] at hci
            have hfo := ho.frozenAt (i + 1)
            have hgl := ho.lt
            have p1 := preS_nonneg HPN.out i
            have p2 := preS_le HPT.out i
            have p3 := preS_nonneg HPN.out (i + 1)
            have p4 := preS_le HPT.out (i + 1)
            have HSET := Lib.hid (fun h => tabMid_set l 0 (k := i + 1) (by omega) (by omega) h)
            have HKEEP := Lib.hid (fun h => tabMid_keep l 0 (k := i + 1) (by omega) (by omega) h)
            rw [Nat.add_sub_cancel] at HSET HKEEP
            have HPUT := Lib.hid (fun W (hb : Below wrj.heap.size wrj W) => And.intro ((ho.below hb).set (i + 1) (preS (isrt l) i + 0)) (And.intro ((ho.below hb).cellAt (i := i + 1) (by omega)) ((ho.below hb).frozenAt (i + 1))))
            have HOJ := Lib.hid ho
            have hx1 := cellI_ext hlb' hci
            have hx2 := cellI_ext hgl.2 hco
            clear ho
            by_cases hcmp : preS (isrt l) i + 0 < preS (isrt l) (i + 1)
            · rw [HSET.out hcmp] at HPUT
              generalize preS (isrt l) i = pa at *
              generalize preS (isrt l) (i + 1) = pb at *
              have d2 : decide (pa < pb) = true := by simp only [decide_eq_true_eq]; omega
              simp only [Int.add_zero] at HPUT
              clear hcmp HSET HKEEP
              go_wp2
              (refine wp_region_ext (by kernel_rfl) (by kernel_rfl) ?_; (repeat (go_big_quiet_step ((fail)))); refine wpQuiet_nil ?_; intro W5 hw'; have hW5 := ext_below hw'; clear hw')
              obtain ⟨hn1, hn2, hn3⟩ := HPUT.out _ hW5
              have hci5 := (hW5.cell (p := ⟨bl, ol + i, none⟩) hlb').trans hci
              have hb5 := (hb4.trans (hW5.mono hb4.size)).setCell (p := ⟨g2, i + 1, none⟩) hgl.1 (.int .i64 pa)
              clear HPUT hx1 hx2
              go_wp2
              go_roundw
              case rel => first | exact ⟨i + 1 + 1, by omega, by omega, by go_num, hn1, hb5⟩ | ((repeat apply Exists.intro); exact ⟨⟨i + 1 + 1, by omega, by omega, by go_num, hn1, hb5⟩, rfl⟩)
              case measure => simp [intOf]; omega
            · have HK := Lib.hid (HKEEP.out hcmp)
              generalize preS (isrt l) i = pa at *
              generalize preS (isrt l) (i + 1) = pb at *
              have d2 : decide (pa < pb) = false := by simp only [decide_eq_false_iff_not]; omega
              clear hcmp HSET HKEEP HPUT
              go_wp2
              (refine wp_region_ext (by kernel_rfl) (by kernel_rfl) ?_; (repeat (go_big_quiet_step ((fail)))); refine wpQuiet_nil ?_; intro W5 hw'; have hW5 := ext_below hw'; clear hw')
              have hn1 := HOJ.out.below hW5
              have hb5 := hb4.trans (hW5.mono hb4.size)
              clear hx1 hx2
              go_wp2
              go_roundw
              case rel => first | exact ⟨i + 1 + 1, by omega, by omega, by go_num, by (rw [HK.out]; exact hn1), hb5⟩ | ((repeat apply Exists.intro); exact ⟨⟨i + 1 + 1, by omega, by omega, by go_num, by (rw [HK.out]; exact hn1), hb5⟩, rfl⟩)
              case measure => simp [intOf]; omega
          · obtain rfl : j = k + 1 := by omega
            have HEND := Lib.hid (tabMid_end l 0)
            rw [hll] at HEND
            rw [HEND.out, ← HT.out] at ho
            have hR2 := ho.rd.1
            clear ho HO2
            go_wp2
            go_roundw
            case rel => first | exact ⟨k + 1, A2, c2, by omega, by go_num, rfl, hR2, hbw.trans (hb4.mono hsz)⟩ | ((repeat apply Exists.intro); exact ⟨⟨k + 1, A2, c2, by omega, by go_num, rfl, hR2, hbw.trans (hb4.mono hsz)⟩, rfl⟩)
            case measure => simp [intOf]; omega
      · have d1 : decide (t + 1 - y < 0) = false := by simp only [decide_eq_false_iff_not]; exact hneg
        have hxx' : t + 1 - y = xx := by omega
        clear hneg hxx hcl
        go_wp2_with (first
          | (at_builtin; refine wpList_appI _ rfl (.tmp 30) (.tmp 31) rfl wr.heap.size (.slice (some ⟨wr.heap.size, 0, none⟩) 0 0) [] rfl HE.out (some ⟨bl, ol, none⟩) (k + 1) c1 (tab l) rfl HRE.out (by simp; omega) (by simp) ?_; intro v1 w1 ho1 hg1 hat1; have hb1 : Below wr.heap.size wr w1 := (below_new wr _).trans (grown_below hg1 HE.out (by simp)); have hcl := HLAST.out _ hb1; rw [List.nil_append] at ho1)
          | (at_builtin; refine wpList_app1I w1 rfl (.tmp 33) (.tmp 42) rfl wr.heap.size v1 (tab l) ho1 rfl (preS (isrt l) k + xx) _ rfl (by omega) hb1.size ?_; intro v2 w2 ho2 hb2))
        rw [HST.out] at ho2
        obtain ⟨A2, c2, e2⟩ := ho2.form
        rw [tabMid_len, hll] at e2
        subst e2
        have HO2 := Lib.hid ho2
        have hb3 := hb1.trans hb2
        clear ho1 ho2 hg1 hat1 hb1 hb2 hcl HE HRE HST
        go_wp2
        go_loopw [11] (fun i wr' => ∃ j : Nat, 1 ≤ j ∧ j ≤ k + 1 ∧ i = .int .i64 j ∧ OwI wr' wr.heap.size (.slice A2 (k + 2) c2) (tabMid l xx j) ∧ Below wr.heap.size wr wr') (fun i _ => k + 1 - (intOf i).toNat)
        case atStart => exact ⟨1, Nat.le_refl _, by omega, rfl, HO2.out, hb3⟩
        case round =>
          obtain ⟨j, hj1, hj2, rfl, ho, hb4⟩ := hrel
          rename World => wrj
          by_cases hlj : j < k + 1
          · obtain ⟨i, rfl⟩ : ∃ i, j = i + 1 := ⟨j - 1, by omega⟩
            obtain ⟨g2, rfl⟩ := ownI_head ho (by omega)
            have hco := ho.cellAt (i := i + 1) (by omega)
            rw [tabMid_get l xx (i + 1) (by omega), if_neg (by omega), if_neg (by omega)] at hco
            obtain ⟨bl', ol', e', hlb', hci⟩ := rdI_at (HR.out.below hb4) (i := i) (by omega)
            injection e' with e'
            injection e' with e1' e2'
            subst e1'
            subst e2'
            rw [tab_get l (by omega)] at hci
            have hfo := ho.frozenAt (i + 1)
            have hgl := ho.lt
            have p1 := preS_nonneg HPN.out i
            have p2 := preS_le HPT.out i
            have p3 := preS_nonneg HPN.out (i + 1)
            have p4 := preS_le HPT.out (i + 1)
            have HSET := Lib.hid (fun h => tabMid_set l xx (k := i + 1) (by omega) (by omega) h)
            have HKEEP := Lib.hid (fun h => tabMid_keep l xx (k := i + 1) (by omega) (by omega) h)
            rw [Nat.add_sub_cancel] at HSET HKEEP
            have HPUT := Lib.hid (fun W (hb : Below wrj.heap.size wrj W) => And.intro ((ho.below hb).set (i + 1) (preS (isrt l) i + xx)) (And.intro ((ho.below hb).cellAt (i := i + 1) (by omega)) ((ho.below hb).frozenAt (i + 1))))
            have HOJ := Lib.hid ho
            have hx1 := cellI_ext hlb' hci
            have hx2 := cellI_ext hgl.2 hco
            clear ho
            by_cases hcmp : preS (isrt l) i + xx < preS (isrt l) (i + 1)
            · rw [HSET.out hcmp] at HPUT
              generalize preS (isrt l) i = pa at *
              generalize preS (isrt l) (i + 1) = pb at *
              have d2 : decide (pa + xx < pb) = true := by simp only [decide_eq_true_eq]; omega
              clear hcmp HSET HKEEP
              go_wp2
              (refine wp_region_ext (by kernel_rfl) (by kernel_rfl) ?_; (repeat (go_big_quiet_step ((fail)))); refine wpQuiet_nil ?_; intro W5 hw'; have hW5 := ext_below hw'; clear hw')
              obtain ⟨hn1, hn2, hn3⟩ := HPUT.out _ hW5
              have hci5 := (hW5.cell (p := ⟨bl, ol + i, none⟩) hlb').trans hci
              have hb5 := (hb4.trans (hW5.mono hb4.size)).setCell (p := ⟨g2, i + 1, none⟩) hgl.1 (.int .i64 (pa + xx))
              clear HPUT hx1 hx2
              go_wp2
              go_roundw
              case rel => first | exact ⟨i + 1 + 1, by omega, by omega, by go_num, hn1, hb5⟩ | ((repeat apply Exists.intro); exact ⟨⟨i + 1 + 1, by omega, by omega, by go_num, hn1, hb5⟩, rfl⟩)
              case measure => simp [intOf]; omega
            · have HK := Lib.hid (HKEEP.out hcmp)
              generalize preS (isrt l) i = pa at *
              generalize preS (isrt l) (i + 1) = pb at *
              have d2 : decide (pa + xx < pb) = false := by simp only [decide_eq_false_iff_not]; omega
              clear hcmp HSET HKEEP HPUT
              go_wp2
              (refine wp_region_ext (by kernel_rfl) (by kernel_rfl) ?_; (repeat (go_big_quiet_step ((fail)))); refine wpQuiet_nil ?_; intro W5 hw'; have hW5 := ext_below hw'; clear hw')
              have hn1 := HOJ.out.below hW5
              have hb5 := hb4.trans (hW5.mono hb4.size)
              clear hx1 hx2
              go_wp2
              go_roundw
              case rel => first | exact ⟨i + 1 + 1, by omega, by omega, by go_num, by (rw [HK.out]; exact hn1), hb5⟩ | ((repeat apply Exists.intro); exact ⟨⟨i + 1 + 1, by omega, by omega, by go_num, by (rw [HK.out]; exact hn1), hb5⟩, rfl⟩)
              case measure => simp [intOf]; omega
          · obtain rfl : j = k + 1 := by omega
            have HEND := Lib.hid (tabMid_end l xx)
            rw [hll] at HEND
            rw [HEND.out, ← HT.out] at ho
            have hR2 := ho.rd.1
            clear ho HO2
            go_wp2
            go_roundw
            case rel => first | exact ⟨k + 1, A2, c2, by omega, by go_num, rfl, hR2, hbw.trans (hb4.mono hsz)⟩ | ((repeat apply Exists.intro); exact ⟨⟨k + 1, A2, c2, by omega, by go_num, rfl, hR2, hbw.trans (hb4.mono hsz)⟩, rfl⟩)
            case measure => simp [intOf]; omega
    · obtain rfl : k = h.length := by omega
      rw [List.take_of_length_le (Nat.le_refl _)] at hR
      have hln := needL_len t h
      have HBT := Lib.hid (bestT_cnt (needL_nonneg t h) hm.1)
      rw [hln] at HBT
      have HBC : Hid (badC h t m = cntS (isrt (needL t h)) m) := Lib.hid rfl
      have HTG := Lib.hid (fun k (hk : k ≤ h.length) => tab_get (needL t h) (k := k) (by rw [hln]; exact hk))
      have HR := Lib.hid hR
      generalize tab (needL t h) = T at *
      generalize isrt (needL t h) = s at *
      clear hR hlt
      go_wp2
      go_loopw [12, 13] (fun b i wr' => ∃ j : Nat, j ≤ h.length + 1 ∧ i = .int .i64 j ∧ b = .int .i64 ((bestT (preS s) m j : Nat) : Int) ∧ wr' = wr) (fun _ i _ => h.length + 1 - (intOf i).toNat)
      case atStart => exact ⟨0, Nat.zero_le _, rfl, rfl, rfl⟩
      case round =>
        obtain ⟨j, hj, rfl, rfl, rfl⟩ := hrel
        by_cases hlj : j < h.length + 1
        · obtain ⟨bl, ol, rfl, hlb, hcl⟩ := rdI_at HR.out (i := j) hlj
          rw [HTG.out j (by omega)] at hcl
          have HS := Lib.hid (show bestT (preS s) m (j + 1) = if preS s j ≤ m then j else bestT (preS s) m j from rfl)
          generalize bestT (preS s) m j = bj at *
          by_cases hle : preS s j ≤ m
          · rw [if_pos hle] at HS
            generalize preS s j = pj at *
            have d1 : decide (pj ≤ m) = true := by simp only [decide_eq_true_eq]; exact hle
            clear hle
            go_wp2
            go_roundw
            case rel => first | exact ⟨j + 1, by omega, by go_num, by rw [HS.out], by first | rfl | trivial⟩ | ((repeat apply Exists.intro); exact ⟨⟨j + 1, by omega, by go_num, by rw [HS.out], by first | rfl | trivial⟩, rfl⟩)
            case measure => simp [intOf]; omega
          · rw [if_neg hle] at HS
            generalize preS s j = pj at *
            have d1 : decide (pj ≤ m) = false := by simp only [decide_eq_false_iff_not]; exact hle
            clear hle
            go_wp2
            go_roundw
            case rel => first | exact ⟨j + 1, by omega, by go_num, by rw [HS.out], by first | rfl | trivial⟩ | ((repeat apply Exists.intro); exact ⟨⟨j + 1, by omega, by go_num, by rw [HS.out], by first | rfl | trivial⟩, rfl⟩)
            case measure => simp [intOf]; omega
        · obtain rfl : j = h.length + 1 := by omega
          clear hlj
          go_wp2
          go_ret
          exact ⟨by rw [HBC.out, ← HBT.out]; rfl, hbw⟩
end Go.Proofs.Ytnajdmkdkpmdgaa
