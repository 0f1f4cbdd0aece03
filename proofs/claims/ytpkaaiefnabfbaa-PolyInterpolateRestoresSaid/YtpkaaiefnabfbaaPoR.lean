/- Walks of the reference's InterpolateFault and Interpolate (the formula of Lagrange). -/
import Derived.Test.YtpkaaiefnabfbaaPoQ
namespace Go.Proofs.Ytpkaaiefnabfbaa
open Go.RowKit
set_option linter.unusedVariables false

theorem mem_take_at {xs : List GF} {i j : Nat} (hj : j < i) (hi : i ≤ xs.length) : xs.getD j 0 ∈ xs.take i := by
  have hl : j < (xs.take i).length := by rw [List.length_take]; omega
  have e2 : xs.getD j 0 = (xs.take i)[j] := by simp [List.getD, show j < xs.length by omega]
  rw [e2]; exact List.getElem_mem hl
theorem take_at_mem {xs : List GF} {x : GF} {i : Nat} (h : ∀ j, j < i → x ≠ xs.getD j 0) (hi : i ≤ xs.length) : x ∉ xs.take i := by
  intro hm
  obtain ⟨j, hj, e⟩ := List.mem_iff_getElem.1 hm
  rw [List.length_take] at hj
  refine h j (by omega) ?_
  rw [← e]
  simp [List.getD, show j < xs.length by omega]
set_option maxRecDepth 100000 in
set_option maxHeartbeats 2000000 in
theorem rInterFault_any (A B : Option Addr) (n m c d : Nat) (xs : List GF) (w : World) (hx : RdB w A n xs) (hn : n ≤ 9223372036854775807) (hm : m ≤ 9223372036854775807) :
    Calls Try.prog 34 #[.slice A n c, .slice B m d] w fun e w' => e = .returned (.agg #[.int .i64 (ipF xs m).1, .int .i64 (ipF xs m).2]) ∧ Below w.heap.size w w' := by
  have lx := hx.1
  subst lx
  have HX := Lib.hid hx
  clear hx
  by_cases h1 : 255 < xs.length
  · rw [show ipF xs m = (2, -1) by unfold ipF; rw [if_pos h1]]
    go_enter Try.func34, Try.ntmps34
    go_wp2_with (go_at_call 16; refine (refAt_any _ _ _).mono ?_; rintro e w' ⟨rfl, rfl⟩)
    exact bodyPost_ret (resF1 rfl rfl ((Has.new w 2 (-1) _).al _)) rfl ⟨rfl, Bw.al (below_new w _) _⟩
  · by_cases h2 : m = xs.length
    · have hF : ipF xs m = repR xs xs.length := by unfold ipF; rw [if_neg h1, if_neg (by simpa using h2)]
      rw [hF]
      subst h2
      have HS : Hid (repR xs xs.length = repR xs (xs.length - 0)) := Lib.hid rfl
      clear hF
      go_enter Try.func34, Try.ntmps34
      go_wp2
      go_loopw [5] (fun i wr => ∃ k : Nat, k ≤ xs.length ∧ i = .int .i64 k ∧ repR xs xs.length = repR xs (xs.length - k) ∧ Has wr w.heap.size 0 0 ∧ Below w.heap.size w wr) (fun i _ => xs.length - (intOf i).toNat)
      case atStart => exact ⟨0, Nat.zero_le _, rfl, HS.out, Has.new _ _ _ _, below_new _ _⟩
      case round =>
        obtain ⟨k, hk, rfl, hs, hF, hbw⟩ := hrel
        by_cases hlt : k < xs.length
        · rw [repR_at xs hlt] at hs
          have HSS := Lib.hid hs
          have HFF := Lib.hid hF
          have HBW := Lib.hid hbw
          clear hs hF hbw
          go_wp2
          go_loopw [6] (fun j wr => ∃ t : Nat, t ≤ k ∧ j = .int .i64 t ∧ (∀ s, s < t → xs.getD k 0 ≠ xs.getD s 0) ∧ Has wr w.heap.size 0 0 ∧ Below w.heap.size w wr) (fun j _ => k - (intOf j).toNat)
          case atStart => exact ⟨0, Nat.zero_le _, rfl, fun s hs => absurd hs (Nat.not_lt_zero _), HFF.out, HBW.out⟩
          case round =>
            obtain ⟨t, ht, rfl, hne, hF, hbw⟩ := hrel
            have HNE := Lib.hid hne
            clear hne
            by_cases hlk : t < k
            · obtain ⟨b, off, rfl, hlb, hcc⟩ := rd_cell (HX.out.below hbw) (i := k) hlt
              obtain ⟨b', off', e', hlb', hcd⟩ := rd_cell (HX.out.below hbw) (i := t) (by omega)
              cases e'
              have hx1 := fun x => cell_ext hlb hcc x
              have hx2 := fun x => cell_ext hlb' hcd x
              have htn : t < xs.length := by omega
              by_cases hq : cf xs k = cf xs t
              · have z0 := z_eq hq
                have HM : Hid (repR xs xs.length = (8, (k : Int))) := Lib.hid (by
                  rw [HSS.out, if_pos]
                  rw [show xs.getD k 0 = xs.getD t 0 from hq]; exact mem_take_at hlk (by omega))
                clear hcc hcd hq
                generalize cf xs k = y at *
                generalize cf xs t = z at *
                go_wp2
                (refine wp_region_ext (by kernel_rfl) (by kernel_rfl) ?_; (repeat (go_big_quiet_step ((fail)))); refine wpQuiet_nil ?_; intro W5 hw'; have hW5 := ext_below hw'; clear hw')
                have F5 := hF.below hW5
                have B5 := Bw.step hbw hW5
                obtain ⟨l5, c50, c51, f50, f51⟩ := id F5
                clear hx1 hx2
                go_wp2_with (go_at_call 16; refine (refAt_any _ _ _).mono ?_; rintro e w' ⟨rfl, rfl⟩)
                rw [HM.out]
                exact bodyPost_ret (resF1 rfl rfl ((F5.set2 8 k).al _)) rfl ⟨rfl, Bw.al (Bw.set (Bw.set B5 (Nat.le_refl _) _) (Nat.le_refl _) _) _⟩
              · have z0 := z_ne hq
                have HQ : Hid (xs.getD k 0 ≠ xs.getD t 0) := Lib.hid hq
                clear hcc hcd hq
                generalize cf xs k = y at *
                generalize cf xs t = z at *
                go_wp2
                (refine wp_region_ext (by kernel_rfl) (by kernel_rfl) ?_; (repeat (go_big_quiet_step ((fail)))); refine wpQuiet_nil ?_; intro W5 hw'; have hW5 := ext_below hw'; clear hw')
                go_wp2
                go_roundw
                case rel => exact ⟨t + 1, by omega, by go_num, fun s hs => by
                  by_cases e : s = t
                  · subst e; exact HQ.out
                  · exact HNE.out s (by omega), hF.below hW5, Bw.step hbw hW5⟩
                case measure => simp [intOf]; omega
            · obtain rfl : t = k := by omega
              have HM : Hid (repR xs xs.length = repR xs (xs.length - (t + 1))) := Lib.hid (by
                rw [HSS.out, if_neg (take_at_mem HNE.out (by omega))])
              go_wp2
              go_roundw
              case rel => first | exact ⟨t + 1, by omega, by go_num, HM.out, hF, hbw⟩ | ((repeat apply Exists.intro); exact ⟨⟨t + 1, by omega, by go_num, HM.out, hF, hbw⟩, rfl⟩)
              case measure => simp [intOf]; omega
        · obtain rfl : k = xs.length := by omega
          rw [repR_end] at hs
          have HSS := Lib.hid hs
          obtain ⟨l0, c00, c01, f00, f01⟩ := id hF
          clear hs
          go_wp2_with (go_at_call 16; refine (refAt_any _ _ _).mono ?_; rintro e w' ⟨rfl, rfl⟩)
          rw [HSS.out]
          exact bodyPost_ret (resF1 rfl rfl ((hF.set2 0 0).al _)) rfl ⟨rfl, Bw.al (Bw.set (Bw.set hbw (Nat.le_refl _) _) (Nat.le_refl _) _) _⟩
    · rw [show ipF xs m = (9, -2) by unfold ipF; rw [if_neg h1, if_pos h2]]
      have h4 : ¬ (m : Int) = xs.length := by omega
      go_enter Try.func34, Try.ntmps34
      go_wp2_with (go_at_call 16; refine (refAt_any _ _ _).mono ?_; rintro e w' ⟨rfl, rfl⟩)
      exact bodyPost_ret (resF1 rfl rfl ((Has.new w 9 (-2) _).al _)) rfl ⟨rfl, Bw.al (below_new w _) _⟩
/-! ### The formula of Lagrange -/
/-- What the inner loop holds: the factors below k but the one for i. -/
def LgI (xs ys : List GF) (i k : Nat) (p : List GF) : Prop :=
  p.length ≤ (if i < k then k - 1 else k) + 1 ∧ valL p (xs.getD i 0) = ys.getD i 0 ∧ ∀ j, j < k → j ≠ i → valL p (xs.getD j 0) = 0
theorem LgI.start (xs ys : List GF) (i : Nat) : LgI xs ys i 0 [ys.getD i 0] :=
  ⟨by simp, valL_const _ _, fun j hj => absurd hj (Nat.not_lt_zero _)⟩
theorem LgI.skip {xs ys : List GF} {i : Nat} {p : List GF} (h : LgI xs ys i i p) : LgI xs ys i (i + 1) p := by
  obtain ⟨h1, h2, h3⟩ := h
  rw [if_neg (Nat.lt_irrefl i)] at h1
  exact ⟨by rw [if_pos (by omega)]; omega, h2, fun j hj hne => h3 j (by omega) hne⟩
theorem valL_fac (c a x : GF) : valL [c * a, c] x = c * (x + a) := by
  show (0 * x + c) * x + c * a = _
  rw [GF.zero_mul, GF.zero_add, ← GF.mul_add]
theorem LgI.step {xs ys : List GF} {i k : Nat} {p : List GF} (h : LgI xs ys i k p) (hk : k ≠ i) (hne : xs.getD i 0 ≠ xs.getD k 0) : LgI xs ys i (k + 1) (prodP p [(xs.getD i 0 + xs.getD k 0).inv * xs.getD k 0, (xs.getD i 0 + xs.getD k 0).inv]) := by
  obtain ⟨h1, h2, h3⟩ := h
  have hs : xs.getD i 0 + xs.getD k 0 ≠ 0 := fun e => hne (GF.eq_of_add e)
  refine ⟨?_, ?_, fun j hj hji => ?_⟩
  · refine Nat.le_trans (len_le_degB (Tr_ofF _ _) ?_) (show (if i < k then k - 1 else k) + 1 + 1 ≤ _ from ?_)
    · show degB _ (cf (prodP p _))
      rw [cf_prodP]
      exact degB_cv (m := if i < k then k - 1 else k) (n := 1) (degB_mono (degB_cf p) h1) (degB_cf [(xs.getD i 0 + xs.getD k 0).inv * xs.getD k 0, (xs.getD i 0 + xs.getD k 0).inv])
    · by_cases e : i < k
      · rw [if_pos e, if_pos (by omega)]; omega
      · rw [if_neg e, if_neg (by omega)]; omega
  · rw [valL_prod, valL_fac, GF.inv_mul hs, GF.mul_one, h2]
  · rw [valL_prod, valL_fac]
    by_cases e : j = k
    · subst e; rw [GF.add_self, GF.mul_zero, GF.mul_zero]
    · rw [h3 j (by omega) hji, GF.zero_mul]
/-- What the outer loop holds. -/
def LgO (xs ys : List GF) (i : Nat) (p : List GF) : Prop :=
  Tr p ∧ p.length ≤ xs.length ∧ ∀ k, k < xs.length → valL p (xs.getD k 0) = if k < i then ys.getD k 0 else 0
theorem LgO.start (xs ys : List GF) : LgO xs ys 0 [] := ⟨.inl rfl, Nat.zero_le _, fun k _ => by rw [if_neg (Nat.not_lt_zero _)]; rfl⟩
theorem LgO.step {xs ys : List GF} {i : Nat} {p q : List GF} (h : LgO xs ys i p) (hq : LgI xs ys i xs.length q) (hi : i < xs.length) : LgO xs ys (i + 1) (sumP p q) := by
  obtain ⟨h1, h2, h3⟩ := h
  obtain ⟨q1, q2, q3⟩ := hq
  rw [if_pos hi] at q1
  refine ⟨Tr_ofF _ _, ?_, fun k hk => ?_⟩
  · have := sumP_len p q
    omega
  · rw [valL_sum, h3 k hk]
    by_cases e : k = i
    · subst e; rw [if_neg (Nat.lt_irrefl k), q2, if_pos (by omega), GF.zero_add]
    · rw [q3 k hk e, GF.add_zero]
      by_cases e2 : k < i
      · rw [if_pos e2, if_pos (by omega)]
      · rw [if_neg e2, if_neg (by omega)]
theorem LgO.done {xs ys : List GF} {p : List GF} (h : LgO xs ys xs.length p) : IntU xs ys xs.length p :=
  ⟨h.1, h.2.1, fun k hk => by rw [h.2.2 k hk, if_pos hk]⟩
set_option maxRecDepth 100000 in
set_option maxHeartbeats 4000000 in
theorem rInter_any (A B : Option Addr) (n c d : Nat) (xs ys : List GF) (w : World) (hx : RdB w A n xs) (hy : RdB w B n ys) (hn : n ≤ 255) (hnd : ∀ i j, i < n → j < n → i ≠ j → xs.getD i 0 ≠ xs.getD j 0) :
    Calls Try.prog 35 #[.slice A n c, .slice B n d] w fun e w' => ∃ A' c' p, e = .returned (.slice A' (List.length p) c') ∧ RdB w' A' (List.length p) p ∧ IntU xs ys n p ∧ Below w.heap.size w w' := by
  have lx := hx.1
  subst lx
  have HX := Lib.hid hx
  have HY := Lib.hid hy
  have HND := Lib.hid hnd
  have H0 := Lib.hid (LgO.start xs ys)
  clear hx hy hnd
  go_enter Try.func35, Try.ntmps35
  go_wp2
  go_loopw [5, 6] (fun u i wr => ∃ (k : Nat) (A1 : Option Addr) (c1 : Nat) (p : List GF), k ≤ xs.length ∧ i = .int .i64 k ∧ u = .slice A1 (List.length p) c1 ∧ RdB wr A1 p.length p ∧ LgO xs ys k p ∧ Below w.heap.size w wr) (fun _ i _ => xs.length - (intOf i).toNat)
  case atStart => exact ⟨0, none, 0, [], Nat.zero_le _, rfl, rfl, ⟨rfl, fun h => absurd h (Nat.lt_irrefl 0)⟩, H0.out, Below.refl _ _⟩
  case round =>
    obtain ⟨k, A1, c1, p, hk, rfl, rfl, hR, hL, hbw⟩ := hrel
    by_cases hlt : k < xs.length
    · obtain ⟨b', off', rfl, hlb', hcd⟩ := rd_cell (HY.out.below hbw) (i := k) hlt
      rw [show cf ys k = ys.getD k 0 from rfl] at hcd
      have HL := Lib.hid hL
      have hpl := hL.2.1
      have HR := Lib.hid (hR.al (.cells #[.int .u8 (ys.getD k 0).z] 5))
      have HP := Lib.hid (RdB.l1 wr wr.heap.size (ys.getD k 0).z (ys.getD k 0) 5 rfl rfl)
      have HI := Lib.hid (LgI.start xs ys k)
      have HB := Lib.hid (Bw.al hbw (.cells #[.int .u8 (ys.getD k 0).z] 5))
      clear hL hR
      generalize hyk : ys.getD k 0 = y at *
      go_wp2
      generalize wr.alloc (.cells #[.int .u8 y.z] 5) = W at *
      clear hcd hbw hyk
      go_loopw [7, 8] (fun v j wr => ∃ (t : Nat) (A2 : Option Addr) (c2 : Nat) (q : List GF), t ≤ xs.length ∧ j = .int .i64 t ∧ v = .slice A2 (List.length q) c2 ∧ RdB wr A2 q.length q ∧ LgI xs ys k t q ∧ Below W.heap.size W wr) (fun _ j _ => xs.length - (intOf j).toNat)
      case atStart => exact ⟨0, _, 1, [y], Nat.zero_le _, rfl, rfl, HP.out, HI.out, Below.refl _ _⟩
      case round =>
        obtain ⟨t, A2, c2, q, ht, rfl, rfl, hRq, hLq, hb2⟩ := hrel
        by_cases hlk : t < xs.length
        · by_cases htk : t = k
          · have HS : Hid (LgI xs ys k (t + 1) q) := Lib.hid (by subst htk; exact hLq.skip)
            have z0 : ((t : Int) == (k : Int)) = true := by rw [beq_iff_eq]; omega
            have z1 : (t == k) = true := by rw [beq_iff_eq]; exact htk
            have z2 : ((t : Int) != (k : Int)) = false := by simp [htk]
            have z3 : (t != k) = false := by simp [htk]
            clear hLq htk
            go_wp2
            go_roundw
            case rel => exact ⟨t + 1, A2, c2, q, by omega, by go_num, rfl, hRq, HS.out, hb2⟩
            case measure => simp [intOf]; omega
          · have hne := HND.out k t hlt hlk (fun e => htk e.symm)
            have hq1 := hLq.1
            have hql : q.length ≤ 256 := by split at hq1 <;> omega
            have HS := Lib.hid (hLq.step htk hne)
            have hs0 : xs.getD k 0 + xs.getD t 0 ≠ 0 := fun e => hne (GF.eq_of_add e)
            have HS0 := Lib.hid hs0
            obtain ⟨b, off, rfl, hlb, hcc⟩ := rd_cell ((HX.out.below HB.out).below hb2) (i := k) hlt
            obtain ⟨b4, off4, e4, hlb4, hcc4⟩ := rd_cell ((HX.out.below HB.out).below hb2) (i := t) hlk
            cases e4
            rw [show cf xs k = xs.getD k 0 from rfl] at hcc
            rw [show cf xs t = xs.getD t 0 from rfl] at hcc4
            have z0 : ((t : Int) == (k : Int)) = false := by rw [beq_eq_false_iff_ne]; omega
            have z1 : (t == k) = false := by rw [beq_eq_false_iff_ne]; exact htk
            have z2 : ((t : Int) != (k : Int)) = true := by rw [bne_iff_ne]; omega
            have z3 : (t != k) = true := by rw [bne_iff_ne]; exact htk
            generalize xs.getD k 0 = x at *
            generalize xs.getD t 0 = u at *
            have hx1 := fun x => cell_ext hlb hcc x
            have hx2 := fun x => cell_ext hlb4 hcc4 x
            have xz := xorZ x u
            have HRQ := Lib.hid hRq
            clear hne hs0 htk hLq hRq
            go_wp2
            (refine wp_region_ext (by kernel_rfl) (by kernel_rfl) ?_; (repeat (go_big_quiet_step ((go_at_call 41; exact ext_same (rInvZ _ _ HS0.out))))); refine wpQuiet_nil ?_; intro W5 hw'; have hW5 := ext_below hw'; clear hw')
            have hb5 := Bw.step hb2 hW5
            have hcc6 := hb5.cell (p := ⟨b, off + t, none⟩)
            have hc6 : W5.cell? ⟨b, off + t, none⟩ = some (.int .u8 u.z) := (Below.cell hW5 (p := ⟨b, off + t, none⟩) hlb4).trans hcc4
            have HRQ5 := Lib.hid (HRQ.out.below hW5)
            clear hcc6 hx1 hx2 hcc hcc4 xz
            go_wp2_with fail
            refine (rMulZ (x + u).inv u _).mono ?_
            rintro e w' ⟨rfl, rfl⟩
            go_wp2_with fail
            refine (rProd_any A2 _ _ _ c2 2 q [(x + u).inv * u, (x + u).inv] _ (HRQ5.out.al _) (RdB.l2 _ _ _ _ ((x + u).inv * u) (x + u).inv _ (by first | rfl | simp) ⟨rfl, rfl⟩) (by omega) (by omega)).mono ?_
            rintro e w7 ⟨A7, c7, rfl, ho7, hb7⟩
            have R7 := ho7.rd.1
            clear ho7
            go_wp2
            go_roundw
            case rel => first | exact ⟨t + 1, A7, c7, prodP q [(x + u).inv * u, (x + u).inv], by omega, by go_num, rfl, R7, HS.out, Bw.step (Bw.al hb5 _) hb7⟩ | ((repeat apply Exists.intro); exact ⟨⟨t + 1, A7, c7, prodP q [(x + u).inv * u, (x + u).inv], by omega, by go_num, rfl, R7, HS.out, Bw.step (Bw.al hb5 _) hb7⟩, rfl⟩)
            case measure => simp [intOf]; omega
        · obtain rfl : t = xs.length := by omega
          have HS := Lib.hid (HL.out.step hLq hlt)
          have hq1 := hLq.1
          have hql : q.length ≤ 256 := by split at hq1 <;> omega
          clear hLq hq1
          go_wp2_with fail
          refine (rSum_any A1 A2 _ _ c1 c2 p q _ (HR.out.below hb2) hRq (by omega) (by omega)).mono ?_
          rintro e w7 ⟨A7, c7, rfl, ho7, hb7⟩
          have R7 := ho7.rd.1
          clear ho7
          go_wp2
          go_roundw
          case rel => first | exact ⟨k + 1, A7, c7, sumP p q, by omega, by go_num, rfl, R7, HS.out, Bw.step (Bw.step HB.out hb2) hb7⟩ | ((repeat apply Exists.intro); exact ⟨⟨k + 1, A7, c7, sumP p q, by omega, by go_num, rfl, R7, HS.out, Bw.step (Bw.step HB.out hb2) hb7⟩, rfl⟩)
          case measure => simp [intOf]; omega
    · obtain rfl : k = xs.length := by omega
      have HS := Lib.hid hL.done
      clear hL
      go_wp2
      go_ret
      exact ⟨A1, c1, p, rfl, hR, HS.out, hbw⟩
end Go.Proofs.Ytpkaaiefnabfbaa
