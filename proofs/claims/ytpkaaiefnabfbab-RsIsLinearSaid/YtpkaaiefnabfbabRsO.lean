/- Walks of the law's 'differences' and 'changed'. -/
import Derived.Test.YtpkaaiefnabfbabRsN
namespace Go.Proofs.Ytpkaaiefnabfbab
open Go.RowKit
set_option linter.unusedVariables false

/-- append of bytes, of any length that fits. -/
theorem wpList_appB47 (w : World) {ops : Array Oper} {rest : List Oper} {o : Oper} {a : Act} {Q : Exit → Act → World → Prop} (hgd : o.guard = none) (s x : Operand)
    (ho : o.op = .call { callee := .builtin .append, args := #[s, x], argTypes := #[22, 22] }) (B : Nat)
    (v : Value) (l : List GF) (hs : a.eval s = v) (hown : OwB w B v l) (A : Option Addr) (m c : Nat) (r : List GF) (hx : a.eval x = .slice A m c) (hr : RdB w A m r)
    (hlen : l.length + r.length ≤ 140737488355328) (hbase : B ≤ w.heap.size)
    (h : ∀ v' w', OwB w' B v' (l ++ r) → w.grownBy w' v.ownBlock → (v'.ownBlock = v.ownBlock ∨ v'.ownBlock = some w.heap.size) → wpList Try.prog ops Q rest (a.put o.dst v') w') : wpList Try.prog ops Q (o :: rest) a w := by
  refine wpList_app w hgd s x _ ho B 5 (.int .u8 0) 1 Try.underlying22 infoB rfl v l.length (cB l) hs hown A m c (cB r) hx hr.rdV (cB_one r) (by have := hr.1; unfold maxLen; omega) (by have := hr.1; omega) hbase (fun v' w' h1 h2 h3 => h v' w' ?_ h2 h3)
  unfold OwB
  have e : cB (l ++ r) = cB l ++ cB r := by unfold cB; rw [List.map_append]
  rw [e, List.length_append, hr.1]; exact h1
theorem hasI_yes {es : List Nat} {k : Nat} (h : k ∈ es) : hasI (toI es) k = true := decide_eq_true (mem_toI.2 h)
theorem hasI_no {es : List Nat} {k : Nat} (h : k ∉ es) : hasI (toI es) k = false := decide_eq_false fun e => h (mem_toI.1 e)
set_option maxRecDepth 100000 in
set_option maxHeartbeats 2000000 in
theorem differences_any (A B I : Option Addr) (n ca cb ci m me : Nat) (a b : List GF) (es : List Nat) (w : World) (ha : RdB w A n a) (hb : RdB w B m b) (hi : RdI w I me (toI es)) (hm : n ≤ m) (hn : n ≤ 4611686018427387904) (he : me ≤ 9223372036854775807) :
    Calls Try.prog 24 #[.slice A n ca, .slice B m cb, .slice I me ci] w fun e w' => e = .returned (.int .i64 ((dcnt a b es n : Nat) : Int)) ∧ Below w.heap.size w w' := by
  have HA := Lib.hid ha
  have HB := Lib.hid hb
  have HI := Lib.hid hi
  clear ha hb hi
  go_enter Try.func24, Try.ntmps24
  go_wp2
  go_loopw [7, 8] (fun d i wr => ∃ k : Nat, k ≤ n ∧ i = .int .i64 k ∧ d = .int .i64 (dcnt a b es k : Nat) ∧ Below w.heap.size w wr) (fun _ i _ => n - (intOf i).toNat)
  case atStart => exact ⟨0, Nat.zero_le _, rfl, by rw [dcnt_zero]; rfl, Below.refl _ _⟩
  case round =>
    obtain ⟨k, hk, rfl, rfl, hb3⟩ := hrel
    have hdl := dcnt_le a b es k
    by_cases hlt : k < n
    · obtain ⟨b3, o3, rfl, hl3, hc3⟩ := rd_cell (HA.out.below hb3) (i := k) hlt
      obtain ⟨b4, o4, rfl, hl4, hc4⟩ := rd_cell (HB.out.below hb3) (i := k) (by omega)
      have hx3 := fun x => cell_ext hl3 hc3 x
      have hx4 := fun x => cell_ext hl4 hc4 x
      have hlm : k < m := by omega
      have HH := Lib.hid (fun w (h : RdI w I me (toI es)) => rHas_any I me ci (toI es) (k : Int) w h (by omega))
      have HI2 := Lib.hid (HI.out.below hb3)
      by_cases hq : cf a k = cf b k
      · have z0 := z_eq hq
        have z1 : ((cf a k).z != (cf b k).z) = false := by unfold bne; rw [z0]; rfl
        have HD := Lib.hid (dcnt_no (er := es) (.inl hq))
        generalize cf a k = y at *
        generalize cf b k = z at *
        clear hq
        go_wp2
        (refine wp_region_ext (by kernel_rfl) (by kernel_rfl) ?_; (repeat (go_big_quiet_step ((fail)))); refine wpQuiet_nil ?_; intro W5 hw'; have hW5 := ext_below hw'; clear hw')
        go_wp2
        go_roundw
        case rel => exact ⟨k + 1, by omega, by go_num, by rw [HD.out], Bw.step hb3 hW5⟩
        case measure => simp [intOf]; omega
      · have z0 := z_ne hq
        have z1 : ((cf a k).z != (cf b k).z) = true := by unfold bne; rw [z0]; rfl
        by_cases hm2 : k ∈ es
        · rw [hasI_yes hm2] at HH
          have HD := Lib.hid (dcnt_no (a := a) (b := b) (.inr hm2))
          generalize cf a k = y at *
          generalize cf b k = z at *
          clear hq hm2
          go_wp2
          (refine wp_region_ext (by kernel_rfl) (by kernel_rfl) ?_; (repeat (go_big_quiet_step ((go_at_call 45; exact ext_same (HH.out _ (HI2.out.below (Ext.below _))))))); refine wpQuiet_nil ?_; intro W5 hw'; have hW5 := ext_below hw'; clear hw')
          go_wp2
          go_roundw
          case rel => exact ⟨k + 1, by omega, by go_num, by rw [HD.out], Bw.step hb3 hW5⟩
          case measure => simp [intOf]; omega
        · rw [hasI_no hm2] at HH
          have HD := Lib.hid (dcnt_yes hq hm2)
          generalize cf a k = y at *
          generalize cf b k = z at *
          clear hq hm2
          go_wp2
          (refine wp_region_ext (by kernel_rfl) (by kernel_rfl) ?_; (repeat (go_big_quiet_step ((go_at_call 45; exact ext_same (HH.out _ (HI2.out.below (Ext.below _))))))); refine wpQuiet_nil ?_; intro W5 hw'; have hW5 := ext_below hw'; clear hw')
          go_wp2
          go_roundw
          case rel => exact ⟨k + 1, by omega, by go_num, by rw [HD.out]; go_num, Bw.step hb3 hW5⟩
          case measure => simp [intOf]; omega
    · obtain rfl : k = n := by omega
      go_wp2
      go_ret
      exact ⟨rfl, hb3⟩
/-! ### The law's changed words -/
def chg (l : List GF) (ps : List Int) (vs : List GF) : Nat → List GF
  | 0 => l
  | k + 1 => if 0 ≤ ps.getD k 0 ∧ 0 < l.length then (chg l ps vs k).set (ps.getD k 0 % (l.length : Int)).toNat ((chg l ps vs k).getD (ps.getD k 0 % (l.length : Int)).toNat 0 + vs.getD k 0) else chg l ps vs k
theorem chg_len (l : List GF) (ps : List Int) (vs : List GF) (k : Nat) : (chg l ps vs k).length = l.length := by
  induction k with
  | zero => rfl
  | succ k ih =>
    unfold chg
    split
    · rw [List.length_set, ih]
    · exact ih
def changedL (l : List GF) (ps : List Int) (vs : List GF) : List GF := chg l ps vs (min ps.length vs.length)
theorem changedL_len (l : List GF) (ps : List Int) (vs : List GF) : (changedL l ps vs).length = l.length := chg_len _ _ _ _
theorem chg_yes {l : List GF} {ps : List Int} {vs : List GF} {k : Nat} (h1 : 0 ≤ ps.getD k 0) (h2 : 0 < l.length) : chg l ps vs (k + 1) = (chg l ps vs k).set (ps.getD k 0 % (l.length : Int)).toNat ((chg l ps vs k).getD (ps.getD k 0 % (l.length : Int)).toNat 0 + vs.getD k 0) := by
  rw [chg, if_pos ⟨h1, h2⟩]
theorem chg_no {l : List GF} {ps : List Int} {vs : List GF} {k : Nat} (h : ¬ (0 ≤ ps.getD k 0 ∧ 0 < l.length)) : chg l ps vs (k + 1) = chg l ps vs k := by
  rw [chg, if_neg h]
attribute [irreducible] chg
set_option maxRecDepth 100000 in
set_option maxHeartbeats 4000000 in
theorem changed_any (A I V : Option Addr) (n ca mi ci mv cq : Nat) (l : List GF) (ps : List Int) (vs : List GF) (w : World) (hl : RdB w A n l) (hp : RdI w I mi ps) (hv : RdB w V mv vs) (hn : n ≤ 140737488355328) (hi : mi ≤ 9223372036854775807) (hm : mv ≤ 9223372036854775807) :
    Calls Try.prog 23 #[.slice A n ca, .slice I mi ci, .slice V mv cq] w fun e w' => ∃ A' c', e = .returned (.slice A' n c') ∧ OwB w' w.heap.size (.slice A' n c') (changedL l ps vs) ∧ Below w.heap.size w w' := by
  have ll := hl.1
  subst ll
  have HL := Lib.hid hl
  have HP := Lib.hid hp
  have HV := Lib.hid hv
  have HE : Hid (changedL l ps vs = chg l ps vs (min mi mv)) := Lib.hid (by unfold changedL; rw [hp.1, hv.1])
  have H0 : Hid (chg l ps vs 0 = l) := Lib.hid (by unfold chg; rfl)
  clear hl hp hv
  go_enter Try.func23, Try.ntmps23
  go_wp2_with (at_builtin; refine wpList_appB47 _ rfl (.tmp 9) (.tmp 10) rfl w.heap.size (.slice (some ⟨w.heap.size, 0, none⟩) 0 0) [] rfl (OwB.empty w _ (Nat.le_refl _)) A l.length ca l rfl (HL.out.al _) ?_ ?_ ?_; (simp; omega); (simp); intro v1 w1 ho1 hg1 hat1)
  have B1 := Lib.hid (show Below w.heap.size w w1 from (below_new w (.cells #[] 5)).trans (grown_below hg1 (OwB.empty w _ (Nat.le_refl _)) (by simp)))
  rw [List.nil_append] at ho1
  obtain ⟨A1, c1, rfl⟩ := ho1.form
  have HO1 := Lib.hid ho1
  clear hg1 hat1 ho1
  go_wp2
  go_loopw [8] (fun i wr => ∃ k : Nat, k ≤ min mi mv ∧ i = .int .i64 k ∧ OwB wr w.heap.size (.slice A1 l.length c1) (chg l ps vs k) ∧ Below w.heap.size w wr) (fun i _ => min mi mv - (intOf i).toNat)
  case atStart => exact ⟨0, Nat.zero_le _, rfl, by rw [H0.out]; exact HO1.out, B1.out⟩
  case round =>
    obtain ⟨k, hk, rfl, ho, hbw⟩ := hrel
    by_cases hlt : k < min mi mv
    · have hk1 : k < mi := by omega
      have hk2 : k < mv := by omega
      obtain ⟨b, off, rfl, hlb, hcc⟩ := rdI_cell (HP.out.below hbw) (i := k) hk1
      by_cases hy : 0 ≤ ps.getD k 0
      · by_cases hl0 : 0 < l.length
        · have hst := chg_yes (vs := vs) hy hl0
          obtain ⟨b2, off2, rfl, hlb2, hcc2⟩ := rd_cell (HV.out.below hbw) (i := k) hk2
          obtain ⟨g, rfl⟩ := ho.head hl0
          have hj0 : 0 ≤ ps.getD k 0 % (l.length : Int) ∧ ps.getD k 0 % (l.length : Int) < l.length := ⟨Int.emod_nonneg _ (by omega), Int.emod_lt_of_pos _ (by omega)⟩
          obtain ⟨j, hj⟩ := Int.eq_ofNat_of_zero_le hj0.1
          have hjl : j < l.length := by omega
          rw [hj, Int.toNat_natCast] at hst
          have htm : (ps.getD k 0).tmod (l.length : Int) = (j : Int) := by rw [Int.tmod_eq_emod_of_nonneg hy]; exact hj
          have HST := Lib.hid hst
          have hcg := ho.cellAt (i := j) hjl
          have hlg := ho.lt
          have hx1 := fun x => cell_ext hlb hcc x
          have hx2 := fun x => cell_ext hlb2 hcc2 x
          have hx3 := fun x => cell_ext hlg.2 hcg x
          have HO := Lib.hid ho
          have d1 : decide (0 ≤ ps.getD k 0) = true := by simp only [decide_eq_true_eq]; exact hy
          have d2 : decide ((0 : Int) < l.length) = true := by simp only [decide_eq_true_eq]; omega
          have d3 : decide (0 < l.length) = true := by simp only [decide_eq_true_eq]; omega
          have hlz : ((l.length : Int) == 0) = false := by rw [beq_eq_false_iff_ne]; omega
          have hlne : l.length ≠ 0 := by omega
          clear ho hst hj hj0
          generalize hyy : ps.getD k 0 = y at *
          generalize hoo : (chg l ps vs k).getD j 0 = oo at *
          generalize hvv : cf vs k = vv at *
          go_wp2
          (refine wp_region_extail 24 (by kernel_rfl) (by kernel_rfl) ?_; simp only [List.take_succ_cons, List.take_zero, List.drop_succ_cons, List.drop_zero]; (repeat (go_big_quiet_step ((fail)))); refine wpQuiet_nil ?_; intro W5 hw'; have hW5 := ext_below hw'; clear hw')
          have HO5 := Lib.hid (HO.out.below hW5)
          have hc5 := HO5.out.cellAt (i := j) hjl
          have hf5 := HO5.out.frozenAt j
          have hb5 := Bw.step hbw hW5
          have xz := xorZ oo vv
          have HXX := Lib.hid hoo
          have HVV : Hid (vs.getD k 0 = vv) := Lib.hid hvv
          clear hoo hvv hyy
          go_wp2
          go_roundw
          case rel => exact ⟨k + 1, by omega, by go_num, by rw [HST.out, HVV.out]; exact HO5.out.set j _, Bw.set hb5 hlg.1 _⟩
          case measure => simp [intOf]; omega
        · have HST := Lib.hid (chg_no (ps := ps) (vs := vs) (k := k) (fun h => hl0 h.2))
          have HO := Lib.hid ho
          have d2 : decide ((0 : Int) < l.length) = false := by simp only [decide_eq_false_iff_not]; omega
          have d3 : decide (0 < l.length) = false := by simp only [decide_eq_false_iff_not]; omega
          have d1 : decide (0 ≤ ps.getD k 0) = true := by simp only [decide_eq_true_eq]; exact hy
          clear ho
          generalize hyy : ps.getD k 0 = y at *
          clear hyy
          go_wp2
          go_roundw
          case rel => exact ⟨k + 1, by omega, by go_num, by rw [HST.out]; exact HO.out, hbw⟩
          case measure => simp [intOf]; omega
      · have HST := Lib.hid (chg_no (l := l) (ps := ps) (vs := vs) (k := k) (fun h => hy h.1))
        have HO := Lib.hid ho
        have d1 : decide (0 ≤ ps.getD k 0) = false := by simp only [decide_eq_false_iff_not]; exact hy
        clear ho
        generalize hyy : ps.getD k 0 = y at *
        clear hyy
        go_wp2
        go_roundw
        case rel => exact ⟨k + 1, by omega, by go_num, by rw [HST.out]; exact HO.out, hbw⟩
        case measure => simp [intOf]; omega
    · have hkk : k = min mi mv := by omega
      have HO := Lib.hid (show OwB wr w.heap.size (.slice A1 l.length c1) (changedL l ps vs) by rw [HE.out, ← hkk]; exact ho)
      clear ho
      by_cases hq : k < mi
      · have hq2 : ¬ k < mv := by omega
        clear hkk hlt
        go_wp2
        go_ret
        exact ⟨A1, c1, rfl, HO.out, hbw⟩
      · clear hkk hlt
        go_wp2
        go_ret
        exact ⟨A1, c1, rfl, HO.out, hbw⟩
end Go.Proofs.Ytpkaaiefnabfbab
