/- Walk of the reference's Rest, and of the statement PolyDivideMatchesSpec. -/
import Derived.Test.YtpkaaiefnabfbaaPoK
namespace Go.Proofs.Ytpkaaiefnabfbaa
open Go.RowKit
set_option linter.unusedVariables false

/-- A multiple of b, shifted: as far as it was laid. -/
def shB (b : List GF) (c : GF) (d j : Nat) : List GF := List.replicate d 0 ++ (b.take j).map fun y => y * c
theorem shB_len (b : List GF) (c : GF) (d j : Nat) (hj : j ≤ b.length) : (shB b c d j).length = d + j := by simp [shB]; omega
theorem shB_zero (b : List GF) (c : GF) (d : Nat) : shB b c d 0 = List.replicate d 0 := by simp [shB]
theorem shB_succ (b : List GF) (c : GF) (d : Nat) {j : Nat} (hj : j < b.length) : shB b c d (j + 1) = shB b c d j ++ [cf b j * c] := by
  unfold shB
  rw [trim_take hj, List.map_append, ← List.append_assoc]; rfl
theorem shB_cf (b : List GF) (c : GF) (d : Nat) : cf (shB b c d b.length) = pxn d (psc c (cf b)) := by
  funext i
  rw [pxn_get]
  unfold shB
  rw [List.take_of_length_le (Nat.le_refl _)]
  unfold cf
  by_cases h : i < d
  · rw [if_pos h]; simp [List.getD, List.getElem?_append, h]
  · rw [if_neg h]
    show _ = c * b.getD (i - d) 0
    simp only [List.getD, List.getElem?_append, List.length_replicate, if_neg h, List.getElem?_map]
    cases b[i - d]? with
    | none => simp [GF.mul_zero]
    | some y => simp [GF.mul_comm]
def RestInv (a b r : List GF) : Prop := Tr r ∧ ∃ (q : PS) (N : Nat), degB N q ∧ ∀ i, cf a i = cv q (cf b) i + cf r i
theorem degB_pxn {N : Nat} {f : PS} (k : Nat) (h : degB N f) : degB (k + N) (pxn k f) := fun i hi => by
  rw [pxn_get, if_neg (by omega)]; exact h _ (by omega)
theorem pxn_padd (k : Nat) (f g : PS) : pxn k (padd f g) = padd (pxn k f) (pxn k g) := by
  funext i
  show _ = pxn k f i + pxn k g i
  rw [pxn_get, pxn_get, pxn_get]
  split
  · exact (GF.add_zero 0).symm
  · rfl
theorem rest_step {a b r : List GF} {c : GF} {d : Nat} (h : RestInv a b r) : RestInv a b (sumP r (shB b c d b.length)) := by
  obtain ⟨hT, q, N, hq, e⟩ := h
  refine ⟨Tr_ofF _ _, padd q (pxn d (psc c pone)), _, degB_padd hq (degB_pxn d (degB_psc c degB_pone)), fun i => ?_⟩
  rw [cv_add_left, cv_pxn, cf_sumP, shB_cf]
  have e1 : cv (psc c pone) (cf b) = psc c (cf b) := by
    funext j; rw [cv_sc_left, cv_one_left]; rfl
  rw [e1, e i]
  show _ = cv q (cf b) i + pxn d (psc c (cf b)) i + (cf r i + pxn d (psc c (cf b)) i)
  rw [GF.add_comm (cf r i), GF.add_assoc, ← GF.add_assoc (pxn d (psc c (cf b)) i), GF.add_self, GF.zero_add]
theorem rest_short {b r : List GF} {n d : Nat} (hn : b.length = n + 1) (h : d + b.length = r.length) (htop : cf b n ≠ 0) : (sumP r (shB b (cf r (r.length - 1) * (cf b n).inv) d b.length)).length < r.length := by
  have hd : degB (r.length - 1) (cf (sumP r (shB b (cf r (r.length - 1) * (cf b n).inv) d b.length))) := by
    intro j hj
    rw [cf_sumP, shB_cf]
    show cf r j + pxn d _ j = 0
    rw [pxn_get, if_neg (by omega)]
    by_cases e : j = r.length - 1
    · subst e
      show cf r (r.length - 1) + (cf r (r.length - 1) * (cf b n).inv) * cf b (r.length - 1 - d) = 0
      rw [show r.length - 1 - d = n by omega, GF.mul_assoc, GF.inv_mul htop, GF.mul_one, GF.add_self]
    · rw [degB_cf r j (by omega)]
      show 0 + (cf r (r.length - 1) * (cf b n).inv) * cf b (j - d) = 0
      rw [degB_cf b (j - d) (by omega), GF.mul_zero, GF.add_zero]
  have := Tr_len (Tr_ofF _ _) hd
  have h2 : (sumP r (shB b (cf r (r.length - 1) * (cf b n).inv) d b.length)).length ≤ r.length - 1 := this
  omega
theorem RestInv.div {a b r : List GF} (h : RestInv a b r) (hl : r.length < b.length) : ∃ q, Div a b q r := by
  obtain ⟨hT, q, N, hq, e⟩ := h
  exact ⟨ofF N q, Tr_ofF _ _, hT, hl, fun i => by rw [cf_ofF hq]; exact e i⟩
theorem RestInv.start (a b : List GF) : RestInv a b (trimL a) := ⟨Tr_trim a, pz, 0, degB_pz 0, fun i => by rw [cv_pz, GF.zero_add, cf_trim]⟩
def RestRel (a b : List GF) (w2 wr : World) (A : Option Addr) (r : List GF) : Prop := RdB wr A r.length r ∧ RestInv a b r ∧ Below w2.heap.size w2 wr
set_option maxRecDepth 100000 in
set_option maxHeartbeats 4000000 in
theorem rRest_any (A B : Option Addr) (n m c d : Nat) (a b : List GF) (w : World) (ha : RdB w A n a) (hb : RdB w B m b) (hc : n ≤ c) (hd : m ≤ d) (hn : n ≤ 100000) (hm : m ≤ 100000) (h0 : trimL b ≠ []) :
    Calls Try.prog 19 #[.slice A n c, .slice B m d] w fun e w' => ∃ A' c' q r, e = .returned (.slice A' (List.length r) c') ∧ RdB w' A' (List.length r) r ∧ List.length r ≤ c' ∧ Div a (trimL b) q r ∧ Below w.heap.size w w' := by
  have HA := Lib.hid ha
  have HB := Lib.hid hb
  obtain ⟨nb, hnb, htop, hdb⟩ := Tr_top (Tr_trim b) h0
  have HTOP := Lib.hid htop
  have HNB := Lib.hid hnb
  have lb := trim_len_le b
  have la := trim_len_le a
  rw [ha.1] at la
  rw [hb.1] at lb
  have hb0 : 0 < (trimL b).length := by omega
  clear ha hb htop hdb h0 hnb
  go_enter Try.func19, Try.ntmps19
  go_wp2_with fail
  refine (rTrim_any _ _ _ _ _ HA.out hc (by omega)).mono ?_; rintro e w1 ⟨A1, c1, rfl, ho1, hb1⟩
  go_wp2_with fail
  refine (rTrim_any _ _ _ _ _ (HB.out.below hb1) hd (by omega)).mono ?_; rintro e w2 ⟨A2, c2, rfl, ho2, hb2⟩
  have R1 := ho1.rd.1.below hb2
  have R2 := Lib.hid ho2.rd.1
  have C1 := ho1.cap.1
  have BW := Lib.hid (Bw.step hb1 hb2)
  have I0 := Lib.hid (RestInv.start a (trimL b))
  clear ho1 ho2 hb1 hb2
  generalize hbb : trimL b = b' at *
  have HBB := Lib.hid hbb
  clear hbb
  generalize trimL a = r0 at *
  obtain ⟨b0, o0, rfl, hlb0, hcb0⟩ := R2.out.2 (by omega)
  have S0 := Lib.hid (show RestRel a b' w2 w2 A1 r0 from ⟨R1, I0.out, Below.refl _ _⟩)
  clear R1 hcb0
  go_wp2
  go_loopw [0] (fun v wr => ∃ A c r, v = .slice A (List.length r) c ∧ List.length r ≤ c ∧ List.length r ≤ 100000 ∧ RestRel a b' w2 wr A r) (fun v _ => match v with | .slice _ n _ => n | _ => 0)
  case atStart => exact ⟨A1, c1, r0, rfl, C1, by omega, S0.out⟩
  case round =>
    obtain ⟨A3, c3, r, rfl, hrc, hrl, hD⟩ := hrel
    have HD := Lib.hid hD
    clear hD
    by_cases hge : b'.length ≤ r.length
    · obtain ⟨dd, hdd⟩ : ∃ dd : Nat, dd + b'.length = r.length := ⟨r.length - b'.length, by omega⟩
      obtain ⟨br, or', rfl, hlr, hcr⟩ := rd_cell HD.out.1 (i := r.length - 1) (by omega)
      obtain ⟨b1, o1, hBB, hl1, hc1⟩ := rd_cell (R2.out.below HD.out.2.2) (i := b'.length - 1) (by omega)
      cases hBB
      have hbn : b'.length - 1 = nb := by have := HNB.out; omega
      rw [hbn] at hc1
      have HSH := Lib.hid (rest_short HNB.out hdd HTOP.out)
      have HTP := Lib.hid (show cf b' nb ≠ 0 from HTOP.out)
      have HSTEP := Lib.hid (fun cc => rest_step (c := cc) (d := dd) HD.out.2.1)
      have hcx1 := fun x => cell_ext hlr hcr x
      have hcx2 := fun x => cell_ext hl1 hc1 x
      have e1 : (r.length : Int) - 1 = ((r.length - 1 : Nat) : Int) := by omega
      have e2 : (b'.length : Int) - 1 = (nb : Int) := by omega
      have w1 : IntKind.i64.wrap ((r.length : Int) - 1) = ((r.length - 1 : Nat) : Int) := by rw [IntWalk.i64_in _ (by omega)]; exact e1
      have w2' : IntKind.i64.wrap ((b'.length : Int) - 1) = (nb : Int) := by rw [IntWalk.i64_in _ (by omega)]; exact e2
      have hnb2 : nb < b'.length := by omega
      have hrr : r.length - 1 < r.length := by omega
      have dge : decide ((b'.length : Int) ≤ r.length) = true := by simp only [decide_eq_true_eq]; omega
      generalize hx : cf r (r.length - 1) = x at *
      generalize hy : cf b' nb = y at *
      have HX := Lib.hid hx
      have HY := Lib.hid hy
      have HDD := Lib.hid hdd
      have hdl : dd ≤ 100000 := by omega
      clear hx hy hbn e1 e2 hcr hc1 hdd
      go_wp2
      (refine wp_region_ext (by kernel_rfl) (by kernel_rfl) ?_; (repeat (go_big_quiet_step ((first | (go_at_call 41; exact ext_same (rInvZ _ _ HTP.out)) | (go_at_call 40; exact ext_same (rMulZ _ _ _)))))); refine wpQuiet_nil ?_; intro W3 hw'; have hW3 := ext_below hw'; clear hw')
      clear hcx1 hcx2 w1 w2' hrr
      generalize x * y.inv = q at *
      have B3 := Bw.step HD.out.2.2 hW3
      have RR := Lib.hid (HD.out.1.below hW3)
      have hs3 := B3.size
      go_wp2
      go_loopw [6, 7] (fun v i wr => ∃ k : Nat, k ≤ dd ∧ i = .int .i64 (b'.length + k : Nat) ∧ OwB wr W3.heap.size v (List.replicate k 0) ∧ Below W3.heap.size W3 wr) (fun _ i _ => r.length - (intOf i).toNat)
      case atStart => exact ⟨0, Nat.zero_le _, rfl, OwB.nil _ _, Below.refl _ _⟩
      case round =>
        obtain ⟨k, hk, rfl, ho, hbr⟩ := hrel
        have hdd2 := HDD.out
        by_cases hlk : k < dd
        · have HO := Lib.hid ho
          have hsz := hbr.size
          have hrep : (List.replicate k (0 : GF)).length = k := List.length_replicate
          have HREP := Lib.hid (show List.replicate (k + 1) (0 : GF) = List.replicate k 0 ++ [0] from List.replicate_succ')
          have hlt : b'.length + k < r.length := by omega
          have HBK := Lib.hid (show ((b'.length + (k + 1) : Nat) : Int) = ((b'.length + k : Nat) : Int) + 1 by omega)
          generalize b'.length + k = bk at *
          generalize List.replicate k (0 : GF) = L at *
          clear ho hdd2
          go_wp2_with (at_builtin; refine wpList_app1 wr rfl (.tmp 40) (.tmp 41) rfl W3.heap.size _ L HO.out rfl 0 _ rfl (by omega) hsz ?_; intro v6 w6 ho6 hc6)
          have hb6 := hbr.trans hc6
          go_wp2
          go_roundw
          case rel => exact ⟨k + 1, by omega, by rw [HBK.out], by rw [HREP.out]; exact ho6, hb6⟩
          case measure => simp [intOf]; omega
        · obtain rfl : k = dd := by omega
          rw [← shB_zero b' q] at ho
          have HO := Lib.hid ho
          have hlt : ¬ b'.length + k < r.length := by omega
          generalize b'.length + k = bk at *
          obtain ⟨wo, rfl⟩ : ∃ wo : World, wo = wr := ⟨_, rfl⟩
          clear ho hdd2
          go_wp2
          go_loopw [6, 8] (fun v i wr => ∃ j : Nat, j ≤ b'.length ∧ i = .int .i64 j ∧ OwB wr W3.heap.size v (shB b' q k j) ∧ Below W3.heap.size W3 wr) (fun _ i _ => b'.length - (intOf i).toNat)
          case atStart => exact ⟨0, Nat.zero_le _, rfl, HO.out, hbr⟩
          case round =>
            obtain ⟨j, hj, rfl, ho2, hbr2⟩ := hrel
            have hsl := shB_len b' q k j hj
            by_cases hlj : j < b'.length
            · have HO2 := Lib.hid ho2
              obtain ⟨b9, o9, hBB, hl9, hc9⟩ := rd_cell (R2.out.below (Bw.step B3 hbr2)) (i := j) hlj
              cases hBB
              have HSU := Lib.hid (shB_succ b' q k hlj)
              have hsz := hbr2.size
              generalize shB b' q k j = L at *
              generalize cf b' j = z at *
              clear ho2
              go_wp2_with (first
                | (go_at_call 40; refine (rMulZ z q _).mono ?_; rintro e w' ⟨rfl, rfl⟩)
                | (at_builtin; refine wpList_app1 wr rfl (.tmp 49) (.tmp 56) rfl W3.heap.size _ L HO2.out rfl (z * q) _ rfl (by omega) hsz ?_; intro v6 w6 ho6 hc6))
              have hb6 := hbr2.trans hc6
              go_wp2
              go_roundw
              case rel => exact ⟨j + 1, by omega, by go_num, by rw [HSU.out]; exact ho6, hb6⟩
              case measure => simp [intOf]; omega
            · obtain rfl : j = b'.length := by omega
              obtain ⟨A6, c6, rfl⟩ := ho2.form
              have HSUM := Lib.hid (rSum_any _ _ _ _ c3 c6 _ _ _ (RR.out.below hbr2) ho2.rd.1 (by omega) (by omega))
              have HLE := HSH.out
              have HST := Lib.hid (HSTEP.out q)
              have B4 := Bw.step B3 hbr2
              generalize sumP r (shB b' q k b'.length) = r3 at *
              clear ho2 hsl
              go_wp2_with fail
              refine HSUM.out.mono ?_
              rintro e w7 ⟨A7, c7, rfl, ho7, hb7⟩
              have HRR := Lib.hid (show RestRel a b' w2 w7 A7 r3 from ⟨ho7.rd.1, HST.out, Bw.step B4 hb7⟩)
              have hcap := ho7.cap.1
              clear ho7
              go_wp2
              go_roundw
              case rel => exact ⟨A7, c7, r3, rfl, hcap, by omega, HRR.out⟩
              case measure => omega
    · obtain ⟨h1, h2, h3⟩ := HD.out
      have H2 := Lib.hid h2
      have H1 := Lib.hid h1
      clear h1 h2
      go_wp2
      go_ret
      obtain ⟨q, hq⟩ := H2.out.div (by omega)
      exact ⟨A3, c3, q, r, rfl, H1.out, hrc, by rw [HBB.out]; exact hq, Bw.step BW.out h3⟩
theorem sum_prod_div {a b q r : List GF} (h : Div a (trimL b) q r) : sumP (prodP q b) r = trimL a := by
  refine Tr_ext (Tr_ofF _ _) (Tr_trim a) ?_
  rw [cf_sumP, cf_prodP, cf_trim]
  funext i
  have := h.2.2.2 i
  rw [cf_trim] at this
  exact this.symm
theorem Tr_trim_eq {a : List GF} (h : Tr a) : trimL a = a := Tr_ext (Tr_trim a) h (cf_trim a)
theorem Div_len {a b q r : List GF} (hb : Tr b) (hne : b ≠ []) (h : Div a b q r) : q.length ≤ (trimL a).length + 1 := by
  by_cases hq : q = []
  · rw [hq]; simp
  · obtain ⟨h1, h2, h3, e⟩ := h
    obtain ⟨m, hm, tm, dm⟩ := Tr_top h1 hq
    obtain ⟨n, hn, tn, dn⟩ := Tr_top hb hne
    have h4 := cv_top dm dn
    have h5 := e (m + n)
    rw [h4, degB_cf r (m + n) (by omega), GF.add_zero, ← cf_trim] at h5
    rcases Nat.lt_or_ge (m + n) (trimL a).length with h6 | h6
    · omega
    · rw [degB_cf (trimL a) _ h6] at h5
      rcases GF.mul_eq_zero h5.symm with h | h
      · exact absurd h tm
      · exact absurd h tn
set_option maxRecDepth 100000 in
set_option maxHeartbeats 2000000 in
theorem walkPolyDivideMatchesSpec (A : Option Addr) (n c : Nat) (zs : List Int) (B : Option Addr) (m d : Nat) (ys : List Int) (w : World) (w0 : IsRow .u8 w A n c zs) (w1 : IsRow .u8 w B m d ys) :
    Calls Try.prog 3 #[.slice A n c, .slice B m d] w fun e w' => e = .returned (.bool true) ∧ Below w.heap.size w w' := by
  obtain ⟨a, RA, hn, hc⟩ := w0.bytes2
  obtain ⟨b, RB, hm, hd⟩ := w1.bytes2
  clear w0 w1
  have BW := Below.refl w.heap.size w
  by_cases hok : n ≤ 512 ∧ m ≤ 512
  · obtain ⟨h1, h2⟩ := hok
    by_cases h0 : trimL b = []
    · go_enter Try.func3, Try.ntmps3
      go_wp2_with fail
      refine (poDivideP_zero _ _ _ _ _ _ _ _ RB h1 h2 hd h0).mono ?_; rintro e w1 ⟨rfl, hb1⟩
      ((first | replace BW := Bw.step BW hb1 | replace BW := Bw.step (Bw.al BW _) hb1 | replace BW := Bw.step (Bw.al (Bw.al BW _) _) hb1 | replace BW := Bw.step (Bw.al (Bw.al (Bw.al BW _) _) _) hb1 | replace BW := Bw.step (Bw.al (Bw.al (Bw.al (Bw.al BW _) _) _) _) hb1 | replace BW := Bw.step (Bw.al (Bw.al (Bw.al (Bw.al (Bw.al BW _) _) _) _) _) hb1 | replace BW := Bw.step (Bw.al (Bw.al (Bw.al (Bw.al (Bw.al (Bw.al BW _) _) _) _) _) _) hb1); (first | replace RB := RB.below hb1 | replace RB := (RB.al _).below hb1 | replace RB := ((RB.al _).al _).below hb1 | replace RB := (((RB.al _).al _).al _).below hb1 | replace RB := ((((RB.al _).al _).al _).al _).below hb1 | replace RB := (((((RB.al _).al _).al _).al _).al _).below hb1 | replace RB := ((((((RB.al _).al _).al _).al _).al _).al _).below hb1))
      have F1 := Has.new w1 26 (-2) 24
      go_wp2_with fail
      refine (long_any _ _ _ _ _ _ _ hn hm).mono ?_
      rw [(lC_ok h1 h2).1, (lC_ok h1 h2).2]
      rintro e w2 ⟨rfl, hb2⟩
      ((first | replace BW := Bw.step BW hb2 | replace BW := Bw.step (Bw.al BW _) hb2 | replace BW := Bw.step (Bw.al (Bw.al BW _) _) hb2 | replace BW := Bw.step (Bw.al (Bw.al (Bw.al BW _) _) _) hb2 | replace BW := Bw.step (Bw.al (Bw.al (Bw.al (Bw.al BW _) _) _) _) hb2 | replace BW := Bw.step (Bw.al (Bw.al (Bw.al (Bw.al (Bw.al BW _) _) _) _) _) hb2 | replace BW := Bw.step (Bw.al (Bw.al (Bw.al (Bw.al (Bw.al (Bw.al BW _) _) _) _) _) _) hb2); (first | replace RB := RB.below hb2 | replace RB := (RB.al _).below hb2 | replace RB := ((RB.al _).al _).below hb2 | replace RB := (((RB.al _).al _).al _).below hb2 | replace RB := ((((RB.al _).al _).al _).al _).below hb2 | replace RB := (((((RB.al _).al _).al _).al _).al _).below hb2 | replace RB := ((((((RB.al _).al _).al _).al _).al _).al _).below hb2); (first | replace F1 := F1.below hb2 | replace F1 := (F1.al _).below hb2 | replace F1 := ((F1.al _).al _).below hb2 | replace F1 := (((F1.al _).al _).al _).below hb2 | replace F1 := ((((F1.al _).al _).al _).al _).below hb2 | replace F1 := (((((F1.al _).al _).al _).al _).al _).below hb2 | replace F1 := ((((((F1.al _).al _).al _).al _).al _).al _).below hb2))
      have F2 := Has.new w2 0 0 24
      go_wp2_with fail
      refine (rTrim_any _ _ _ _ _ (RB.al _) hd (by omega)).mono ?_
      rw [h0]
      rintro e w3 ⟨A3, c3, rfl, ho3, hb3⟩
      have hz := F1.1
      ((first | replace BW := Bw.step BW hb3 | replace BW := Bw.step (Bw.al BW _) hb3 | replace BW := Bw.step (Bw.al (Bw.al BW _) _) hb3 | replace BW := Bw.step (Bw.al (Bw.al (Bw.al BW _) _) _) hb3 | replace BW := Bw.step (Bw.al (Bw.al (Bw.al (Bw.al BW _) _) _) _) hb3 | replace BW := Bw.step (Bw.al (Bw.al (Bw.al (Bw.al (Bw.al BW _) _) _) _) _) hb3 | replace BW := Bw.step (Bw.al (Bw.al (Bw.al (Bw.al (Bw.al (Bw.al BW _) _) _) _) _) _) hb3); (first | replace F1 := F1.below hb3 | replace F1 := (F1.al _).below hb3 | replace F1 := ((F1.al _).al _).below hb3 | replace F1 := (((F1.al _).al _).al _).below hb3 | replace F1 := ((((F1.al _).al _).al _).al _).below hb3 | replace F1 := (((((F1.al _).al _).al _).al _).al _).below hb3 | replace F1 := ((((((F1.al _).al _).al _).al _).al _).al _).below hb3); (first | replace F2 := F2.below hb3 | replace F2 := (F2.al _).below hb3 | replace F2 := ((F2.al _).al _).below hb3 | replace F2 := (((F2.al _).al _).al _).below hb3 | replace F2 := ((((F2.al _).al _).al _).al _).below hb3 | replace F2 := (((((F2.al _).al _).al _).al _).al _).below hb3 | replace F2 := ((((((F2.al _).al _).al _).al _).al _).al _).below hb3))
      clear ho3 h0
      go_wp2_with fail
      refine (refAt_any _ _ _).mono ?_; rintro e w' ⟨rfl, rfl⟩
      have F1 := F1.al (.cells #[.int .i64 26, .int .i64 (-2)] 24)
      have F2 := F2.al (.cells #[.int .i64 26, .int .i64 (-2)] 24)
      have BW := Bw.al BW (.cells #[.int .i64 26, .int .i64 (-2)] 24)
      have hne : w1.heap.size ≠ w2.heap.size := by omega
      have G2 := F2.set2 26 (-2)
      have G1 := (F1.far (p := ⟨w2.heap.size, 0, none⟩) (Ne.symm hne) (.int .i64 26)).far (p := ⟨w2.heap.size, 1, none⟩) (Ne.symm hne) (.int .i64 (-2))
      have hsz : w.heap.size ≤ w2.heap.size := by
        have := hb1.size; omega
      have GB := Bw.set (p := ⟨w2.heap.size, 1, none⟩) (Bw.set (p := ⟨w2.heap.size, 0, none⟩) BW hsz (.int .i64 26)) hsz (.int .i64 (-2))
      have HG1 := Lib.hid G1
      have HG2 := Lib.hid G2
      obtain ⟨l2, c20, c21, f20, f21⟩ := id F2
      obtain ⟨k1, d10, d11, g10, g11⟩ := id G1
      obtain ⟨k2, d20, d21, g20, g21⟩ := id G2
      clear F1 hne hz
      go_wp2_with (go_at_call 17; refine (expanded_any _).mono ?_; rintro e w' ⟨rfl, hb8⟩)
      go_ret
      exact ⟨rfl, Bw.step GB hb8⟩
    · have hpos : 0 < (trimL b).length := List.length_pos_iff.2 h0
      have hT := Tr_trim b
      have htb := trim_len_le b
      have hta := trim_len_le a
      rw [RB.1] at htb
      rw [RA.1] at hta
      have x0 : (((trimL b).length : Int) == 0) = false := by rw [beq_eq_false_iff_ne]; omega
      have HTB := Lib.hid (fun w (h : RdB w B m b) => rTrim_any B m d b w h hd (by omega))
      have HRT := Lib.hid (fun w (ha : RdB w A n a) (h : RdB w B m b) => rRest_any A B n m c d a b w ha h hc hd (by omega) (by omega) h0)
      have HDV := Lib.hid (fun w (ha : RdB w A n a) (h : RdB w B m b) => poDivideP_ok A B n m c d a b w ha h h1 h2 hc hd h0)
      have H0 := Lib.hid h0
      have HT := Lib.hid hT
      have HSUM := Lib.hid (fun q r => sum_prod_div (a := a) (b := b) (q := q) (r := r))
      have HLA := Lib.hid RA.1
      have HLB := Lib.hid RB.1
      have sA := Lib.hid (sameB_self (trimL a))
      clear h0 hT
      generalize hbb : trimL b = b' at *
      clear hbb
      go_enter Try.func3, Try.ntmps3
      go_wp2_with fail
      refine (HDV.out _ RA RB).mono ?_; rintro e w1 ⟨A1, c1, A2, c2, q, r, rfl, ho1, ho2, hdv, hb1⟩
      have R1 := ho1.rd.1
      have R2 := ho2.rd.1
      have C1 := ho1.cap.1
      have hql := Div_len HT.out H0.out hdv
      have hrl := hdv.2.2.1
      have HD := Lib.hid hdv
      have sQ := Lib.hid (show sameB q (trimL q) = true by rw [Tr_trim_eq hdv.1]; exact sameB_self q)
      have sR := Lib.hid (sameB_self r)
      clear ho1 ho2 hdv
      ((first | replace BW := Bw.step BW hb1 | replace BW := Bw.step (Bw.al BW _) hb1 | replace BW := Bw.step (Bw.al (Bw.al BW _) _) hb1 | replace BW := Bw.step (Bw.al (Bw.al (Bw.al BW _) _) _) hb1 | replace BW := Bw.step (Bw.al (Bw.al (Bw.al (Bw.al BW _) _) _) _) hb1 | replace BW := Bw.step (Bw.al (Bw.al (Bw.al (Bw.al (Bw.al BW _) _) _) _) _) hb1 | replace BW := Bw.step (Bw.al (Bw.al (Bw.al (Bw.al (Bw.al (Bw.al BW _) _) _) _) _) _) hb1); (first | replace RA := RA.below hb1 | replace RA := (RA.al _).below hb1 | replace RA := ((RA.al _).al _).below hb1 | replace RA := (((RA.al _).al _).al _).below hb1 | replace RA := ((((RA.al _).al _).al _).al _).below hb1 | replace RA := (((((RA.al _).al _).al _).al _).al _).below hb1 | replace RA := ((((((RA.al _).al _).al _).al _).al _).al _).below hb1); (first | replace RB := RB.below hb1 | replace RB := (RB.al _).below hb1 | replace RB := ((RB.al _).al _).below hb1 | replace RB := (((RB.al _).al _).al _).below hb1 | replace RB := ((((RB.al _).al _).al _).al _).below hb1 | replace RB := (((((RB.al _).al _).al _).al _).al _).below hb1 | replace RB := ((((((RB.al _).al _).al _).al _).al _).al _).below hb1))
      have F1 := Has.new w1 0 0 24
      go_wp2_with fail
      refine (long_any _ _ _ _ _ _ _ hn hm).mono ?_
      rw [(lC_ok h1 h2).1, (lC_ok h1 h2).2]
      rintro e w2 ⟨rfl, hb2⟩
      ((first | replace BW := Bw.step BW hb2 | replace BW := Bw.step (Bw.al BW _) hb2 | replace BW := Bw.step (Bw.al (Bw.al BW _) _) hb2 | replace BW := Bw.step (Bw.al (Bw.al (Bw.al BW _) _) _) hb2 | replace BW := Bw.step (Bw.al (Bw.al (Bw.al (Bw.al BW _) _) _) _) hb2 | replace BW := Bw.step (Bw.al (Bw.al (Bw.al (Bw.al (Bw.al BW _) _) _) _) _) hb2 | replace BW := Bw.step (Bw.al (Bw.al (Bw.al (Bw.al (Bw.al (Bw.al BW _) _) _) _) _) _) hb2); (first | replace RA := RA.below hb2 | replace RA := (RA.al _).below hb2 | replace RA := ((RA.al _).al _).below hb2 | replace RA := (((RA.al _).al _).al _).below hb2 | replace RA := ((((RA.al _).al _).al _).al _).below hb2 | replace RA := (((((RA.al _).al _).al _).al _).al _).below hb2 | replace RA := ((((((RA.al _).al _).al _).al _).al _).al _).below hb2); (first | replace RB := RB.below hb2 | replace RB := (RB.al _).below hb2 | replace RB := ((RB.al _).al _).below hb2 | replace RB := (((RB.al _).al _).al _).below hb2 | replace RB := ((((RB.al _).al _).al _).al _).below hb2 | replace RB := (((((RB.al _).al _).al _).al _).al _).below hb2 | replace RB := ((((((RB.al _).al _).al _).al _).al _).al _).below hb2); (first | replace R1 := R1.below hb2 | replace R1 := (R1.al _).below hb2 | replace R1 := ((R1.al _).al _).below hb2 | replace R1 := (((R1.al _).al _).al _).below hb2 | replace R1 := ((((R1.al _).al _).al _).al _).below hb2 | replace R1 := (((((R1.al _).al _).al _).al _).al _).below hb2 | replace R1 := ((((((R1.al _).al _).al _).al _).al _).al _).below hb2); (first | replace R2 := R2.below hb2 | replace R2 := (R2.al _).below hb2 | replace R2 := ((R2.al _).al _).below hb2 | replace R2 := (((R2.al _).al _).al _).below hb2 | replace R2 := ((((R2.al _).al _).al _).al _).below hb2 | replace R2 := (((((R2.al _).al _).al _).al _).al _).below hb2 | replace R2 := ((((((R2.al _).al _).al _).al _).al _).al _).below hb2); (first | replace F1 := F1.below hb2 | replace F1 := (F1.al _).below hb2 | replace F1 := ((F1.al _).al _).below hb2 | replace F1 := (((F1.al _).al _).al _).below hb2 | replace F1 := ((((F1.al _).al _).al _).al _).below hb2 | replace F1 := (((((F1.al _).al _).al _).al _).al _).below hb2 | replace F1 := ((((((F1.al _).al _).al _).al _).al _).al _).below hb2))
      have F2 := Has.new w2 0 0 24
      go_wp2_with fail
      refine (HTB.out _ (RB.al _)).mono ?_; rintro e w3 ⟨A3, c3, rfl, ho3, hb3⟩
      clear ho3
      ((first | replace BW := Bw.step BW hb3 | replace BW := Bw.step (Bw.al BW _) hb3 | replace BW := Bw.step (Bw.al (Bw.al BW _) _) hb3 | replace BW := Bw.step (Bw.al (Bw.al (Bw.al BW _) _) _) hb3 | replace BW := Bw.step (Bw.al (Bw.al (Bw.al (Bw.al BW _) _) _) _) hb3 | replace BW := Bw.step (Bw.al (Bw.al (Bw.al (Bw.al (Bw.al BW _) _) _) _) _) hb3 | replace BW := Bw.step (Bw.al (Bw.al (Bw.al (Bw.al (Bw.al (Bw.al BW _) _) _) _) _) _) hb3); (first | replace RA := RA.below hb3 | replace RA := (RA.al _).below hb3 | replace RA := ((RA.al _).al _).below hb3 | replace RA := (((RA.al _).al _).al _).below hb3 | replace RA := ((((RA.al _).al _).al _).al _).below hb3 | replace RA := (((((RA.al _).al _).al _).al _).al _).below hb3 | replace RA := ((((((RA.al _).al _).al _).al _).al _).al _).below hb3); (first | replace RB := RB.below hb3 | replace RB := (RB.al _).below hb3 | replace RB := ((RB.al _).al _).below hb3 | replace RB := (((RB.al _).al _).al _).below hb3 | replace RB := ((((RB.al _).al _).al _).al _).below hb3 | replace RB := (((((RB.al _).al _).al _).al _).al _).below hb3 | replace RB := ((((((RB.al _).al _).al _).al _).al _).al _).below hb3); (first | replace R1 := R1.below hb3 | replace R1 := (R1.al _).below hb3 | replace R1 := ((R1.al _).al _).below hb3 | replace R1 := (((R1.al _).al _).al _).below hb3 | replace R1 := ((((R1.al _).al _).al _).al _).below hb3 | replace R1 := (((((R1.al _).al _).al _).al _).al _).below hb3 | replace R1 := ((((((R1.al _).al _).al _).al _).al _).al _).below hb3); (first | replace R2 := R2.below hb3 | replace R2 := (R2.al _).below hb3 | replace R2 := ((R2.al _).al _).below hb3 | replace R2 := (((R2.al _).al _).al _).below hb3 | replace R2 := ((((R2.al _).al _).al _).al _).below hb3 | replace R2 := (((((R2.al _).al _).al _).al _).al _).below hb3 | replace R2 := ((((((R2.al _).al _).al _).al _).al _).al _).below hb3); (first | replace F1 := F1.below hb3 | replace F1 := (F1.al _).below hb3 | replace F1 := ((F1.al _).al _).below hb3 | replace F1 := (((F1.al _).al _).al _).below hb3 | replace F1 := ((((F1.al _).al _).al _).al _).below hb3 | replace F1 := (((((F1.al _).al _).al _).al _).al _).below hb3 | replace F1 := ((((((F1.al _).al _).al _).al _).al _).al _).below hb3); (first | replace F2 := F2.below hb3 | replace F2 := (F2.al _).below hb3 | replace F2 := ((F2.al _).al _).below hb3 | replace F2 := (((F2.al _).al _).al _).below hb3 | replace F2 := ((((F2.al _).al _).al _).al _).below hb3 | replace F2 := (((((F2.al _).al _).al _).al _).al _).below hb3 | replace F2 := ((((((F2.al _).al _).al _).al _).al _).al _).below hb3))
      obtain ⟨l1, c10, c11, f10, f11⟩ := id F1
      obtain ⟨l2, c20, c21, f20, f21⟩ := id F2
      go_wp2_with fail
      refine (HRT.out _ RA RB).mono ?_; rintro e w4 ⟨A4, c4, q4, r4, rfl, R4, _, hdv4, hb4⟩
      obtain rfl := (Div_unique HT.out H0.out HD.out hdv4).2
      clear hdv4 l1 c10 c11 f10 f11 l2 c20 c21 f20 f21 F1 F2
      ((first | replace BW := Bw.step BW hb4 | replace BW := Bw.step (Bw.al BW _) hb4 | replace BW := Bw.step (Bw.al (Bw.al BW _) _) hb4 | replace BW := Bw.step (Bw.al (Bw.al (Bw.al BW _) _) _) hb4 | replace BW := Bw.step (Bw.al (Bw.al (Bw.al (Bw.al BW _) _) _) _) hb4 | replace BW := Bw.step (Bw.al (Bw.al (Bw.al (Bw.al (Bw.al BW _) _) _) _) _) hb4 | replace BW := Bw.step (Bw.al (Bw.al (Bw.al (Bw.al (Bw.al (Bw.al BW _) _) _) _) _) _) hb4); (first | replace RA := RA.below hb4 | replace RA := (RA.al _).below hb4 | replace RA := ((RA.al _).al _).below hb4 | replace RA := (((RA.al _).al _).al _).below hb4 | replace RA := ((((RA.al _).al _).al _).al _).below hb4 | replace RA := (((((RA.al _).al _).al _).al _).al _).below hb4 | replace RA := ((((((RA.al _).al _).al _).al _).al _).al _).below hb4); (first | replace RB := RB.below hb4 | replace RB := (RB.al _).below hb4 | replace RB := ((RB.al _).al _).below hb4 | replace RB := (((RB.al _).al _).al _).below hb4 | replace RB := ((((RB.al _).al _).al _).al _).below hb4 | replace RB := (((((RB.al _).al _).al _).al _).al _).below hb4 | replace RB := ((((((RB.al _).al _).al _).al _).al _).al _).below hb4); (first | replace R1 := R1.below hb4 | replace R1 := (R1.al _).below hb4 | replace R1 := ((R1.al _).al _).below hb4 | replace R1 := (((R1.al _).al _).al _).below hb4 | replace R1 := ((((R1.al _).al _).al _).al _).below hb4 | replace R1 := (((((R1.al _).al _).al _).al _).al _).below hb4 | replace R1 := ((((((R1.al _).al _).al _).al _).al _).al _).below hb4); (first | replace R2 := R2.below hb4 | replace R2 := (R2.al _).below hb4 | replace R2 := ((R2.al _).al _).below hb4 | replace R2 := (((R2.al _).al _).al _).below hb4 | replace R2 := ((((R2.al _).al _).al _).al _).below hb4 | replace R2 := (((((R2.al _).al _).al _).al _).al _).below hb4 | replace R2 := ((((((R2.al _).al _).al _).al _).al _).al _).below hb4))
      go_wp2_with fail
      refine (refSame_any _ _ _ _ _ _ _ _ _ R2 R4).mono ?_
      rw [sR.out]
      rintro e w5 ⟨rfl, rfl⟩
      clear R4
      go_wp2_with fail
      refine (HTB.out _ RB).mono ?_; rintro e w5 ⟨A5, c5, rfl, ho5, hb5⟩
      clear ho5
      ((first | replace BW := Bw.step BW hb5 | replace BW := Bw.step (Bw.al BW _) hb5 | replace BW := Bw.step (Bw.al (Bw.al BW _) _) hb5 | replace BW := Bw.step (Bw.al (Bw.al (Bw.al BW _) _) _) hb5 | replace BW := Bw.step (Bw.al (Bw.al (Bw.al (Bw.al BW _) _) _) _) hb5 | replace BW := Bw.step (Bw.al (Bw.al (Bw.al (Bw.al (Bw.al BW _) _) _) _) _) hb5 | replace BW := Bw.step (Bw.al (Bw.al (Bw.al (Bw.al (Bw.al (Bw.al BW _) _) _) _) _) _) hb5); (first | replace RA := RA.below hb5 | replace RA := (RA.al _).below hb5 | replace RA := ((RA.al _).al _).below hb5 | replace RA := (((RA.al _).al _).al _).below hb5 | replace RA := ((((RA.al _).al _).al _).al _).below hb5 | replace RA := (((((RA.al _).al _).al _).al _).al _).below hb5 | replace RA := ((((((RA.al _).al _).al _).al _).al _).al _).below hb5); (first | replace RB := RB.below hb5 | replace RB := (RB.al _).below hb5 | replace RB := ((RB.al _).al _).below hb5 | replace RB := (((RB.al _).al _).al _).below hb5 | replace RB := ((((RB.al _).al _).al _).al _).below hb5 | replace RB := (((((RB.al _).al _).al _).al _).al _).below hb5 | replace RB := ((((((RB.al _).al _).al _).al _).al _).al _).below hb5); (first | replace R1 := R1.below hb5 | replace R1 := (R1.al _).below hb5 | replace R1 := ((R1.al _).al _).below hb5 | replace R1 := (((R1.al _).al _).al _).below hb5 | replace R1 := ((((R1.al _).al _).al _).al _).below hb5 | replace R1 := (((((R1.al _).al _).al _).al _).al _).below hb5 | replace R1 := ((((((R1.al _).al _).al _).al _).al _).al _).below hb5); (first | replace R2 := R2.below hb5 | replace R2 := (R2.al _).below hb5 | replace R2 := ((R2.al _).al _).below hb5 | replace R2 := (((R2.al _).al _).al _).below hb5 | replace R2 := ((((R2.al _).al _).al _).al _).below hb5 | replace R2 := (((((R2.al _).al _).al _).al _).al _).below hb5 | replace R2 := ((((((R2.al _).al _).al _).al _).al _).al _).below hb5))
      go_wp2_with fail
      refine (rTrim_any _ _ _ _ _ R1 C1 (by omega)).mono ?_; rintro e w6 ⟨A6, c6, rfl, ho6, hb6⟩
      ((first | replace BW := Bw.step BW hb6 | replace BW := Bw.step (Bw.al BW _) hb6 | replace BW := Bw.step (Bw.al (Bw.al BW _) _) hb6 | replace BW := Bw.step (Bw.al (Bw.al (Bw.al BW _) _) _) hb6 | replace BW := Bw.step (Bw.al (Bw.al (Bw.al (Bw.al BW _) _) _) _) hb6 | replace BW := Bw.step (Bw.al (Bw.al (Bw.al (Bw.al (Bw.al BW _) _) _) _) _) hb6 | replace BW := Bw.step (Bw.al (Bw.al (Bw.al (Bw.al (Bw.al (Bw.al BW _) _) _) _) _) _) hb6); (first | replace RA := RA.below hb6 | replace RA := (RA.al _).below hb6 | replace RA := ((RA.al _).al _).below hb6 | replace RA := (((RA.al _).al _).al _).below hb6 | replace RA := ((((RA.al _).al _).al _).al _).below hb6 | replace RA := (((((RA.al _).al _).al _).al _).al _).below hb6 | replace RA := ((((((RA.al _).al _).al _).al _).al _).al _).below hb6); (first | replace RB := RB.below hb6 | replace RB := (RB.al _).below hb6 | replace RB := ((RB.al _).al _).below hb6 | replace RB := (((RB.al _).al _).al _).below hb6 | replace RB := ((((RB.al _).al _).al _).al _).below hb6 | replace RB := (((((RB.al _).al _).al _).al _).al _).below hb6 | replace RB := ((((((RB.al _).al _).al _).al _).al _).al _).below hb6); (first | replace R1 := R1.below hb6 | replace R1 := (R1.al _).below hb6 | replace R1 := ((R1.al _).al _).below hb6 | replace R1 := (((R1.al _).al _).al _).below hb6 | replace R1 := ((((R1.al _).al _).al _).al _).below hb6 | replace R1 := (((((R1.al _).al _).al _).al _).al _).below hb6 | replace R1 := ((((((R1.al _).al _).al _).al _).al _).al _).below hb6); (first | replace R2 := R2.below hb6 | replace R2 := (R2.al _).below hb6 | replace R2 := ((R2.al _).al _).below hb6 | replace R2 := (((R2.al _).al _).al _).below hb6 | replace R2 := ((((R2.al _).al _).al _).al _).below hb6 | replace R2 := (((((R2.al _).al _).al _).al _).al _).below hb6 | replace R2 := ((((((R2.al _).al _).al _).al _).al _).al _).below hb6))
      go_wp2_with fail
      refine (refSame_any _ _ _ _ _ _ _ _ _ R1 ho6.rd.1).mono ?_
      rw [sQ.out]
      rintro e w7 ⟨rfl, rfl⟩
      clear ho6
      go_wp2_with fail
      refine (rProd_any _ _ _ _ _ _ _ _ _ R1 RB (by omega) (by omega)).mono ?_; rintro e w7 ⟨A7, c7, rfl, ho7, hb7⟩
      have R7 := ho7.rd.1
      have hpl : (prodP q b).length ≤ 10000 := by have := prodP_len q b; rw [HLB.out] at this; omega
      clear ho7
      ((first | replace BW := Bw.step BW hb7 | replace BW := Bw.step (Bw.al BW _) hb7 | replace BW := Bw.step (Bw.al (Bw.al BW _) _) hb7 | replace BW := Bw.step (Bw.al (Bw.al (Bw.al BW _) _) _) hb7 | replace BW := Bw.step (Bw.al (Bw.al (Bw.al (Bw.al BW _) _) _) _) hb7 | replace BW := Bw.step (Bw.al (Bw.al (Bw.al (Bw.al (Bw.al BW _) _) _) _) _) hb7 | replace BW := Bw.step (Bw.al (Bw.al (Bw.al (Bw.al (Bw.al (Bw.al BW _) _) _) _) _) _) hb7); (first | replace RA := RA.below hb7 | replace RA := (RA.al _).below hb7 | replace RA := ((RA.al _).al _).below hb7 | replace RA := (((RA.al _).al _).al _).below hb7 | replace RA := ((((RA.al _).al _).al _).al _).below hb7 | replace RA := (((((RA.al _).al _).al _).al _).al _).below hb7 | replace RA := ((((((RA.al _).al _).al _).al _).al _).al _).below hb7); (first | replace R2 := R2.below hb7 | replace R2 := (R2.al _).below hb7 | replace R2 := ((R2.al _).al _).below hb7 | replace R2 := (((R2.al _).al _).al _).below hb7 | replace R2 := ((((R2.al _).al _).al _).al _).below hb7 | replace R2 := (((((R2.al _).al _).al _).al _).al _).below hb7 | replace R2 := ((((((R2.al _).al _).al _).al _).al _).al _).below hb7))
      go_wp2_with fail
      refine (rSum_any _ _ _ _ _ _ _ _ _ R7 R2 (by omega) (by omega)).mono ?_
      rw [HSUM.out q r HD.out]
      rintro e w8 ⟨A8, c8, rfl, ho8, hb8⟩
      have R8 := ho8.rd.1
      clear ho8
      ((first | replace BW := Bw.step BW hb8 | replace BW := Bw.step (Bw.al BW _) hb8 | replace BW := Bw.step (Bw.al (Bw.al BW _) _) hb8 | replace BW := Bw.step (Bw.al (Bw.al (Bw.al BW _) _) _) hb8 | replace BW := Bw.step (Bw.al (Bw.al (Bw.al (Bw.al BW _) _) _) _) hb8 | replace BW := Bw.step (Bw.al (Bw.al (Bw.al (Bw.al (Bw.al BW _) _) _) _) _) hb8 | replace BW := Bw.step (Bw.al (Bw.al (Bw.al (Bw.al (Bw.al (Bw.al BW _) _) _) _) _) _) hb8); (first | replace RA := RA.below hb8 | replace RA := (RA.al _).below hb8 | replace RA := ((RA.al _).al _).below hb8 | replace RA := (((RA.al _).al _).al _).below hb8 | replace RA := ((((RA.al _).al _).al _).al _).below hb8 | replace RA := (((((RA.al _).al _).al _).al _).al _).below hb8 | replace RA := ((((((RA.al _).al _).al _).al _).al _).al _).below hb8))
      go_wp2_with fail
      refine (rTrim_any _ _ _ _ _ RA hc (by omega)).mono ?_; rintro e w9 ⟨A9, c9, rfl, ho9, hb9⟩
      ((first | replace BW := Bw.step BW hb9 | replace BW := Bw.step (Bw.al BW _) hb9 | replace BW := Bw.step (Bw.al (Bw.al BW _) _) hb9 | replace BW := Bw.step (Bw.al (Bw.al (Bw.al BW _) _) _) hb9 | replace BW := Bw.step (Bw.al (Bw.al (Bw.al (Bw.al BW _) _) _) _) hb9 | replace BW := Bw.step (Bw.al (Bw.al (Bw.al (Bw.al (Bw.al BW _) _) _) _) _) hb9 | replace BW := Bw.step (Bw.al (Bw.al (Bw.al (Bw.al (Bw.al (Bw.al BW _) _) _) _) _) _) hb9); (first | replace R8 := R8.below hb9 | replace R8 := (R8.al _).below hb9 | replace R8 := ((R8.al _).al _).below hb9 | replace R8 := (((R8.al _).al _).al _).below hb9 | replace R8 := ((((R8.al _).al _).al _).al _).below hb9 | replace R8 := (((((R8.al _).al _).al _).al _).al _).below hb9 | replace R8 := ((((((R8.al _).al _).al _).al _).al _).al _).below hb9))
      go_wp2_with fail
      refine (refSame_any _ _ _ _ _ _ _ _ _ R8 ho9.rd.1).mono ?_
      rw [sA.out]
      rintro e w10 ⟨rfl, rfl⟩
      go_wp2_with (go_at_call 17; refine (expanded_any _).mono ?_; rintro e w' ⟨rfl, hb10⟩)
      go_ret
      exact ⟨rfl, Bw.step BW hb10⟩
  · have hne := Lib.hid (lC_bad hok)
    go_enter Try.func3, Try.ntmps3
    go_wp2_with fail
    refine (poDivideP_bad _ _ _ _ _ _ _ hn hm hok).mono ?_; rintro e w1 ⟨rfl, hb1⟩
    ((first | replace BW := Bw.step BW hb1 | replace BW := Bw.step (Bw.al BW _) hb1 | replace BW := Bw.step (Bw.al (Bw.al BW _) _) hb1 | replace BW := Bw.step (Bw.al (Bw.al (Bw.al BW _) _) _) hb1 | replace BW := Bw.step (Bw.al (Bw.al (Bw.al (Bw.al BW _) _) _) _) hb1 | replace BW := Bw.step (Bw.al (Bw.al (Bw.al (Bw.al (Bw.al BW _) _) _) _) _) hb1 | replace BW := Bw.step (Bw.al (Bw.al (Bw.al (Bw.al (Bw.al (Bw.al BW _) _) _) _) _) _) hb1))
    have F1 := Has.new w1 3 (lI n m) 24
    go_wp2_with fail
    refine (long_any _ _ _ _ _ _ _ hn hm).mono ?_
    rw [hne.out]
    rintro e w3 ⟨rfl, hb3⟩
    ((first | replace BW := Bw.step BW hb3 | replace BW := Bw.step (Bw.al BW _) hb3 | replace BW := Bw.step (Bw.al (Bw.al BW _) _) hb3 | replace BW := Bw.step (Bw.al (Bw.al (Bw.al BW _) _) _) hb3 | replace BW := Bw.step (Bw.al (Bw.al (Bw.al (Bw.al BW _) _) _) _) hb3 | replace BW := Bw.step (Bw.al (Bw.al (Bw.al (Bw.al (Bw.al BW _) _) _) _) _) hb3 | replace BW := Bw.step (Bw.al (Bw.al (Bw.al (Bw.al (Bw.al (Bw.al BW _) _) _) _) _) _) hb3); (first | replace F1 := F1.below hb3 | replace F1 := (F1.al _).below hb3 | replace F1 := ((F1.al _).al _).below hb3 | replace F1 := (((F1.al _).al _).al _).below hb3 | replace F1 := ((((F1.al _).al _).al _).al _).below hb3 | replace F1 := (((((F1.al _).al _).al _).al _).al _).below hb3 | replace F1 := ((((((F1.al _).al _).al _).al _).al _).al _).below hb3))
    have F3 := Has.new w3 3 (lI n m) 24
    have F1 := F1.al (.cells #[.int .i64 3, .int .i64 (lI n m)] 24)
    generalize lI n m = I at *
    obtain ⟨l1, c10, c11, f10, f11⟩ := id F1
    obtain ⟨l3, c30, c31, f30, f31⟩ := id F3
    go_wp2_with fail
    refine (expanded_any _).mono ?_; rintro e w8 ⟨rfl, hb8⟩
    go_wp2
    go_ret
    exact ⟨rfl, Bw.step (Bw.al BW _) hb8⟩
end Go.Proofs.Ytpkaaiefnabfbaa
