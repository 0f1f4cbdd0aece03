/- The walks of the laws RsWordsAreFarApart, RsErasuresAreFree, RsIsLinear. -/
import Derived.Test.YtpkaaiefnabfbabRsR
namespace Go.Proofs.Ytpkaaiefnabfbab
open Go.RowKit
set_option linter.unusedVariables false

theorem farApart {a b x y : List GF} {p : Nat} (hn : a.length + p ≤ 255) (hl : b.length = a.length) (hx : IsEnc a p x) (hy : IsEnc b p y) (hne : a ≠ b) : p < dcnt x y [] x.length := by
  rw [dcnt_full]
  rcases Nat.lt_or_ge p (wrongs x y []).length with h | h
  · exact h
  · exfalso
    have e : x = y := cw_unique (p := p) (by rw [hx.1, hy.1, hl]) (by rw [hx.1]; exact hn) hx.2.2 hy.2.2 (wrongs x y []) (wrongs_nodup _ _ _) (fun i hi => (mem_wrongs.1 hi).1) h
      (fun i hi hni => Classical.byContradiction fun hd => hni (mem_wrongs.2 ⟨hi, hd, by simp⟩))
    exact hne (by rw [← hx.2.1, ← hy.2.1, e, hl])
set_option maxRecDepth 100000 in
set_option maxHeartbeats 4000000 in
theorem walkRsWordsAreFarApart (A : Option Addr) (n c : Nat) (zs : List Int) (p : Int) (I : Option Addr) (mi di : Nat) (is : List Int) (V : Option Addr) (mv dv : Nat) (vz : List Int) (w : World)
    (w0 : IsRow .u8 w A n c zs) (w1 : (Lit.int .i64 p).wf = true) (w2 : IsRow .i64 w I mi di is) (w3 : IsRow .u8 w V mv dv vz) (r0 : n * 1 ≤ 140737488355328) (r2 : mi * 8 ≤ 140737488355328) (r3 : mv * 1 ≤ 140737488355328) :
    Calls Try.prog 7 #[.slice A n c, .int .i64 p, .slice I mi di, .slice V mv dv] w fun e w' => e = .returned (.bool true) ∧ Below w.heap.size w w' := by
  obtain ⟨l, RL, hn⟩ := w0.rdB
  obtain ⟨ps, RI, hmi, _, hbi⟩ := w2.rdI
  obtain ⟨vs, RV, hmv⟩ := w3.rdB
  have hp := wf64 w1
  clear w0 w1 w2 w3 hbi
  have HXL := Lib.hid (show (changedL l ps vs).length = n by rw [changedL_len, RL.1])
  have ll := Lib.hid RL.1
  have HRL := Lib.hid RL
  have HCH := Lib.hid (changed_any _ _ _ _ c _ di _ dv _ ps vs _ RL RI RV (by omega) hmi hmv)
  clear RL RI RV
  generalize changedL l ps vs = x at *
  by_cases hbad : dF n p = (0, 0)
  · rcases dF_cases n p with ⟨r, rfl, h1, h2, h3, h⟩ | ⟨_, h⟩ | ⟨_, _, h⟩
    · clear h hbad
      go_enter Try.func7, Try.ntmps7
      go_wp2_with fail
      refine HCH.out.mono ?_
      rintro e w1 ⟨A1, c1, rfl, ho1, BW⟩
      have R1 := ho1.rd.1
      clear ho1
      go_wp2_with fail
      refine (Encode_ok _ _ _ _ _ _ (HRL.out.below BW) h1 h2 h3).mono ?_
      rintro e w2 ⟨A2, c2, xa, rfl, ho2, hE2, hb2⟩
      ((first | replace BW := Bw.step BW hb2 | replace BW := Bw.step (Bw.al BW _) hb2 | replace BW := Bw.step (Bw.al (Bw.al BW _) _) hb2 | replace BW := Bw.step (Bw.al (Bw.al (Bw.al BW _) _) _) hb2 | replace BW := Bw.step (Bw.al (Bw.al (Bw.al (Bw.al BW _) _) _) _) hb2 | replace BW := Bw.step (Bw.al (Bw.al (Bw.al (Bw.al (Bw.al BW _) _) _) _) _) hb2 | replace BW := Bw.step (Bw.al (Bw.al (Bw.al (Bw.al (Bw.al (Bw.al BW _) _) _) _) _) _) hb2); (first | replace R1 := R1.below hb2 | replace R1 := (R1.al _).below hb2 | replace R1 := ((R1.al _).al _).below hb2 | replace R1 := (((R1.al _).al _).al _).below hb2 | replace R1 := ((((R1.al _).al _).al _).al _).below hb2 | replace R1 := (((((R1.al _).al _).al _).al _).al _).below hb2 | replace R1 := ((((((R1.al _).al _).al _).al _).al _).al _).below hb2))
      have R2 := ho2.rd.1
      have F2 := Has.new w2 0 0 24
      have HL2 : Hid (xa.length = n + r) := Lib.hid (by rw [hE2.1, ll.out])
      have HE2 := Lib.hid hE2
      clear ho2 hE2
      go_wp2_with fail
      refine (Encode_ok _ _ _ _ _ _ (R1.al _) h1 h2 h3).mono ?_
      rintro e w3 ⟨A3, c3, xb, rfl, ho3, hE3, hb3⟩
      ((first | replace BW := Bw.step BW hb3 | replace BW := Bw.step (Bw.al BW _) hb3 | replace BW := Bw.step (Bw.al (Bw.al BW _) _) hb3 | replace BW := Bw.step (Bw.al (Bw.al (Bw.al BW _) _) _) hb3 | replace BW := Bw.step (Bw.al (Bw.al (Bw.al (Bw.al BW _) _) _) _) hb3 | replace BW := Bw.step (Bw.al (Bw.al (Bw.al (Bw.al (Bw.al BW _) _) _) _) _) hb3 | replace BW := Bw.step (Bw.al (Bw.al (Bw.al (Bw.al (Bw.al (Bw.al BW _) _) _) _) _) _) hb3); (first | replace R1 := R1.below hb3 | replace R1 := (R1.al _).below hb3 | replace R1 := ((R1.al _).al _).below hb3 | replace R1 := (((R1.al _).al _).al _).below hb3 | replace R1 := ((((R1.al _).al _).al _).al _).below hb3 | replace R1 := (((((R1.al _).al _).al _).al _).al _).below hb3 | replace R1 := ((((((R1.al _).al _).al _).al _).al _).al _).below hb3); (first | replace R2 := R2.below hb3 | replace R2 := (R2.al _).below hb3 | replace R2 := ((R2.al _).al _).below hb3 | replace R2 := (((R2.al _).al _).al _).below hb3 | replace R2 := ((((R2.al _).al _).al _).al _).below hb3 | replace R2 := (((((R2.al _).al _).al _).al _).al _).below hb3 | replace R2 := ((((((R2.al _).al _).al _).al _).al _).al _).below hb3); (first | replace F2 := F2.below hb3 | replace F2 := (F2.al _).below hb3 | replace F2 := ((F2.al _).al _).below hb3 | replace F2 := (((F2.al _).al _).al _).below hb3 | replace F2 := ((((F2.al _).al _).al _).al _).below hb3 | replace F2 := (((((F2.al _).al _).al _).al _).al _).below hb3 | replace F2 := ((((((F2.al _).al _).al _).al _).al _).al _).below hb3))
      have R3 := ho3.rd.1
      have F3 := Has.new w3 0 0 24
      have HL3 : Hid (xb.length = n + r) := Lib.hid (by rw [hE3.1, HXL.out])
      have HE3 := Lib.hid hE3
      have F2 := F2.al (.cells #[.int .i64 0, .int .i64 0] 24)
      obtain ⟨l2, c20, c21, f20, f21⟩ := id F2
      obtain ⟨l3, c30, c31, f30, f31⟩ := id F3
      clear ho3 hE3
      rw [HL2.out] at R2
      rw [HL3.out] at R3
      rw [HL2.out, HL3.out]
      obtain ⟨N, hN⟩ : ∃ N, N = n + r := ⟨_, rfl⟩
      have HN := Lib.hid hN
      have hN2 : N ≤ 255 := by omega
      rw [← hN] at R2 R3 ⊢
      clear hN
      have HFA : Hid (l ≠ x → (r : Int) < (dcnt xa xb [] N : Nat)) := Lib.hid fun h => by
        have := farApart (by rw [ll.out]; exact h3) (by rw [ll.out, HXL.out]) HE2.out HE3.out h
        rw [HL2.out, ← HN.out] at this
        omega
      have HRA := Lib.hid ((HRL.out.below BW).al (.cells #[.int .i64 0, .int .i64 0] 24))
      by_cases hs : l = x
      · have hs' : sameB l x = true := decide_eq_true hs
        have HS := Lib.hid hs'
        clear hs hs' HFA
        go_wp2_with fail
        refine (refSame_any _ _ _ _ _ _ _ _ _ HRA.out (R1.al _)).mono ?_
        rw [HS.out]
        rintro e w' ⟨rfl, rfl⟩
        go_wp2_with (go_at_call 15; refine (coded_any _).mono ?_; rintro e w' ⟨rfl, hb9⟩)
        go_ret
        exact ⟨rfl, Bw.step (Bw.al BW _) hb9⟩
      · have hs' : sameB l x = false := decide_eq_false hs
        have HS := Lib.hid hs'
        have hfa := HFA.out hs
        have hdl := dcnt_le xa xb [] N
        clear hs hs' HFA
        go_wp2_with fail
        refine (refSame_any _ _ _ _ _ _ _ _ _ HRA.out (R1.al _)).mono ?_
        rw [HS.out]
        rintro e w' ⟨rfl, rfl⟩
        go_wp2_with fail
        refine (differences_any _ _ none _ _ _ 0 _ 0 _ _ [] _ (R2.al _) (R3.al _) (RdI.nil _ _) (Nat.le_refl _) (by omega) (by omega)).mono ?_
        rintro e w4 ⟨rfl, hb4⟩
        generalize dcnt xa xb [] N = dd at *
        go_wp2_with (go_at_call 15; refine (coded_any _).mono ?_; rintro e w' ⟨rfl, hb9⟩)
        go_ret
        exact ⟨rfl, Bw.step (Bw.step (Bw.al BW _) hb4) hb9⟩
    · rw [h] at hbad; cases hbad
    · rw [h] at hbad; cases hbad
  · have HS := Lib.hid (fun A c w => Encode_bad A n c p w hn hp hbad)
    have hc := dF_code hbad
    generalize (dF n p).1 = C at *
    generalize (dF n p).2 = F at *
    have xC : (C == 0) = false := by rw [beq_eq_false_iff_ne]; omega
    have xC2 : (C != 0) = true := by rw [bne_iff_ne]; omega
    clear hbad hc
    go_enter Try.func7, Try.ntmps7
    go_wp2_with fail
    refine HCH.out.mono ?_
    rintro e w1 ⟨A1, c1, rfl, ho1, BW⟩
    clear ho1
    go_wp2_with fail
    refine (HS.out _ _ _).mono ?_
    rintro e w2 ⟨rfl, hb2⟩
    have BW := Bw.step BW hb2
    have F2 := Has.new w2 C F 24
    go_wp2_with fail
    refine (HS.out _ _ _).mono ?_
    rintro e w3 ⟨rfl, hb3⟩
    ((first | replace BW := Bw.step BW hb3 | replace BW := Bw.step (Bw.al BW _) hb3 | replace BW := Bw.step (Bw.al (Bw.al BW _) _) hb3 | replace BW := Bw.step (Bw.al (Bw.al (Bw.al BW _) _) _) hb3 | replace BW := Bw.step (Bw.al (Bw.al (Bw.al (Bw.al BW _) _) _) _) hb3 | replace BW := Bw.step (Bw.al (Bw.al (Bw.al (Bw.al (Bw.al BW _) _) _) _) _) hb3 | replace BW := Bw.step (Bw.al (Bw.al (Bw.al (Bw.al (Bw.al (Bw.al BW _) _) _) _) _) _) hb3); (first | replace F2 := F2.below hb3 | replace F2 := (F2.al _).below hb3 | replace F2 := ((F2.al _).al _).below hb3 | replace F2 := (((F2.al _).al _).al _).below hb3 | replace F2 := ((((F2.al _).al _).al _).al _).below hb3 | replace F2 := (((((F2.al _).al _).al _).al _).al _).below hb3 | replace F2 := ((((((F2.al _).al _).al _).al _).al _).al _).below hb3))
    have F3 := Has.new w3 C F 24
    have F2 := F2.al (.cells #[.int .i64 C, .int .i64 F] 24)
    obtain ⟨l2, c20, c21, f20, f21⟩ := id F2
    obtain ⟨l3, c30, c31, f30, f31⟩ := id F3
    go_wp2_with (go_at_call 15; refine (coded_any _).mono ?_; rintro e w' ⟨rfl, hb9⟩)
    go_ret
    exact ⟨rfl, Bw.step (Bw.al BW _) hb9⟩
theorem chg_other {l : List GF} {es : List Nat} {vs : List GF} (hlt : ∀ i ∈ es, i < l.length) {i : Nat} (hi : i ∉ es) : ∀ k, k ≤ es.length → (chg l (toI es) vs k).getD i 0 = l.getD i 0 := by
  intro k
  induction k with
  | zero => intro _; unfold chg; rfl
  | succ k ih =>
    intro hk
    have hm : es.getD k 0 ∈ es := by simp [List.getD, show k < es.length by omega]
    have hl := hlt _ hm
    rw [chg_yes (by rw [toI_get]; omega) (by omega), toI_get]
    have e : (((es.getD k 0 : Nat) : Int) % (l.length : Int)).toNat = es.getD k 0 := by rw [Int.emod_eq_of_lt (by omega) (by omega)]; rfl
    rw [e, getD_set_other (fun h : es.getD k 0 = i => hi (by rw [← h]; exact hm)), ih (by omega)]
theorem changedL_other {l : List GF} {es : List Nat} (vs : List GF) (hlt : ∀ i ∈ es, i < l.length) {i : Nat} (hi : i ∉ es) : (changedL l (toI es) vs).getD i 0 = l.getD i 0 :=
  chg_other hlt hi _ (by rw [toI_len]; exact Nat.min_le_left _ _)
theorem within_free {l m c : List GF} {es : List Nat} {p : Nat} (hl : m.length = l.length) (h : ∀ i, i ∉ es → m.getD i 0 = l.getD i 0) (hw : Within p l es c) : Within p m es c := by
  refine ⟨by rw [hw.1, hl], hw.2.1, ?_⟩
  have e : wrongs m c es = wrongs l c es := by
    unfold wrongs
    rw [hl]
    apply List.filter_congr
    intro i _
    by_cases hi : i ∈ es
    · rw [decide_eq_false (p := i ∉ es) (fun hn => hn hi), Bool.and_false, Bool.and_false]
    · rw [h i hi]
  rw [e]; exact hw.2.2
set_option maxRecDepth 100000 in
set_option maxHeartbeats 4000000 in
theorem walkRsErasuresAreFree (A : Option Addr) (n c : Nat) (zs : List Int) (p : Int) (E : Option Addr) (me de : Nat) (ez : List Int) (V : Option Addr) (mv dv : Nat) (vz : List Int) (w : World)
    (w0 : IsRow .u8 w A n c zs) (w1 : (Lit.int .i64 p).wf = true) (w2 : IsRow .i64 w E me de ez) (w3 : IsRow .u8 w V mv dv vz) (r0 : n * 1 ≤ 140737488355328) (r2 : me * 8 ≤ 140737488355328) (r3 : mv * 1 ≤ 140737488355328) :
    Calls Try.prog 9 #[.slice A n c, .int .i64 p, .slice E me de, .slice V mv dv] w fun e w' => e = .returned (.bool true) ∧ Below w.heap.size w w' := by
  obtain ⟨l, RL, hn⟩ := w0.rdB
  obtain ⟨er, RE, hme, _, hbi⟩ := w2.rdI
  obtain ⟨vs, RV, hmv⟩ := w3.rdB
  have hp := wf64 w1
  clear w0 w1 w2 w3 hbi
  have HXL := Lib.hid (show (changedL l er vs).length = n by rw [changedL_len, RL.1])
  have ll := Lib.hid RL.1
  have HRL := Lib.hid RL
  have HRE := Lib.hid RE
  have HRV := Lib.hid RV
  clear RL RE RV
  have HCH := Lib.hid (fun w h1 h2 h3 => changed_any A E V n c me de mv dv l er vs w h1 h2 h3 (by omega) hme hmv)
  by_cases hbad : wF n p = (0, 0)
  · rcases wF_cases n p with ⟨r, rfl, h1, h2, h3, h⟩ | ⟨_, h⟩ | ⟨_, _, h⟩
    · clear h hbad
      go_enter Try.func9, Try.ntmps9
      go_wp2_with fail
      refine (Decode_ok _ _ _ _ _ _ _ _ _ _ HRL.out HRE.out hme h1 h2 h3).mono ?_
      rintro e w1 hp1
      by_cases hF : incF er n 0 = (0, 0)
      · obtain ⟨es, rfl, hnd, hlt, hel, hP⟩ := incF_nat hF
        rw [← ll.out] at hlt
        have hfree := fun i hi => changedL_other (i := i) vs hlt hi
        have hlt' : ∀ i ∈ es, i < (changedL l (toI es) vs).length := by rw [changedL_len]; exact hlt
        by_cases hW : ∃ cw, Within r l es cw
        · obtain ⟨cw, hW⟩ := hW
          have hW2 := within_free (by rw [changedL_len]) hfree hW
          obtain ⟨A1, c1, rfl, ho1, BW⟩ := hp1.hit (by rw [ll.out]; exact h3) hlt hP hW
          have H2 := Lib.hid (fun w0 w e (h : DecPost (changedL l (toI es) vs) r (toI es) w0 e w) => h.hit (by rw [HXL.out]; exact h3) hlt' hP hW2)
          rw [ll.out] at ho1 ⊢
          rw [HXL.out] at H2
          have R1 := ho1.rd.1
          have F1 := Has.new w1 0 0 24
          have s1 := Lib.hid (sameB_self cw)
          clear ho1 hp1 hF hnd hlt hP hfree hlt' hW hW2
          generalize dcnt l cw [] n = d1 at *
          go_wp2_with fail
          refine (HCH.out _ ((HRL.out.below BW).al _) ((HRE.out.below BW).al _) ((HRV.out.below BW).al _)).mono ?_
          rintro e w2 ⟨A2, c2, rfl, ho2, hb2⟩
          ((first | replace BW := Bw.step BW hb2 | replace BW := Bw.step (Bw.al BW _) hb2 | replace BW := Bw.step (Bw.al (Bw.al BW _) _) hb2 | replace BW := Bw.step (Bw.al (Bw.al (Bw.al BW _) _) _) hb2 | replace BW := Bw.step (Bw.al (Bw.al (Bw.al (Bw.al BW _) _) _) _) hb2 | replace BW := Bw.step (Bw.al (Bw.al (Bw.al (Bw.al (Bw.al BW _) _) _) _) _) hb2 | replace BW := Bw.step (Bw.al (Bw.al (Bw.al (Bw.al (Bw.al (Bw.al BW _) _) _) _) _) _) hb2); (first | replace R1 := R1.below hb2 | replace R1 := (R1.al _).below hb2 | replace R1 := ((R1.al _).al _).below hb2 | replace R1 := (((R1.al _).al _).al _).below hb2 | replace R1 := ((((R1.al _).al _).al _).al _).below hb2 | replace R1 := (((((R1.al _).al _).al _).al _).al _).below hb2 | replace R1 := ((((((R1.al _).al _).al _).al _).al _).al _).below hb2); (first | replace F1 := F1.below hb2 | replace F1 := (F1.al _).below hb2 | replace F1 := ((F1.al _).al _).below hb2 | replace F1 := (((F1.al _).al _).al _).below hb2 | replace F1 := ((((F1.al _).al _).al _).al _).below hb2 | replace F1 := (((((F1.al _).al _).al _).al _).al _).below hb2 | replace F1 := ((((((F1.al _).al _).al _).al _).al _).al _).below hb2))
          have R2 := ho2.rd.1
          clear ho2
          go_wp2_with fail
          refine (Decode_ok _ _ _ _ _ _ _ _ _ _ R2 (HRE.out.below BW) hme h1 h2 h3).mono ?_
          rintro e w3 hp3
          obtain ⟨A3, c3, rfl, ho3, hb3⟩ := H2.out _ _ _ hp3
          ((first | replace BW := Bw.step BW hb3 | replace BW := Bw.step (Bw.al BW _) hb3 | replace BW := Bw.step (Bw.al (Bw.al BW _) _) hb3 | replace BW := Bw.step (Bw.al (Bw.al (Bw.al BW _) _) _) hb3 | replace BW := Bw.step (Bw.al (Bw.al (Bw.al (Bw.al BW _) _) _) _) hb3 | replace BW := Bw.step (Bw.al (Bw.al (Bw.al (Bw.al (Bw.al BW _) _) _) _) _) hb3 | replace BW := Bw.step (Bw.al (Bw.al (Bw.al (Bw.al (Bw.al (Bw.al BW _) _) _) _) _) _) hb3); (first | replace R1 := R1.below hb3 | replace R1 := (R1.al _).below hb3 | replace R1 := ((R1.al _).al _).below hb3 | replace R1 := (((R1.al _).al _).al _).below hb3 | replace R1 := ((((R1.al _).al _).al _).al _).below hb3 | replace R1 := (((((R1.al _).al _).al _).al _).al _).below hb3 | replace R1 := ((((((R1.al _).al _).al _).al _).al _).al _).below hb3); (first | replace F1 := F1.below hb3 | replace F1 := (F1.al _).below hb3 | replace F1 := ((F1.al _).al _).below hb3 | replace F1 := (((F1.al _).al _).al _).below hb3 | replace F1 := ((((F1.al _).al _).al _).al _).below hb3 | replace F1 := (((((F1.al _).al _).al _).al _).al _).below hb3 | replace F1 := ((((((F1.al _).al _).al _).al _).al _).al _).below hb3))
          have R3 := ho3.rd.1
          have F3 := Has.new w3 0 0 24
          have F1 := F1.al (.cells #[.int .i64 0, .int .i64 0] 24)
          obtain ⟨l1, c10, c11, f10, f11⟩ := id F1
          obtain ⟨l3, c30, c31, f30, f31⟩ := id F3
          clear ho3 hp3
          go_wp2_with fail
          refine (refSame_any _ _ _ _ _ _ _ _ _ (R1.al _) (R3.al _)).mono ?_
          rw [s1.out]
          rintro e w' ⟨rfl, rfl⟩
          go_wp2_with (go_at_call 15; refine (coded_any _).mono ?_; rintro e w' ⟨rfl, hb9⟩)
          go_ret
          exact ⟨rfl, Bw.step (Bw.al BW _) hb9⟩
        · have hW1 : ∀ cw, ¬ Within r l es cw := fun cw h => hW ⟨cw, h⟩
          have hW2 : ∀ cw, ¬ Within r (changedL l (toI es) vs) es cw := fun cw h => hW ⟨cw, within_free (by rw [changedL_len]) (fun i hi => (hfree i hi).symm) h⟩
          obtain ⟨rfl, BW⟩ := hp1.miss hlt hP hW1
          have H2 := Lib.hid (fun w0 w e (h : DecPost (changedL l (toI es) vs) r (toI es) w0 e w) => h.miss hlt' hP hW2)
          have F1 := Has.new w1 16 (-1) 24
          have s1 := Lib.hid (sameB_self [])
          clear hp1 hF hnd hlt hP hfree hlt' hW hW2 hW1
          go_wp2_with fail
          refine (HCH.out _ ((HRL.out.below BW).al _) ((HRE.out.below BW).al _) ((HRV.out.below BW).al _)).mono ?_
          rintro e w2 ⟨A2, c2, rfl, ho2, hb2⟩
          ((first | replace BW := Bw.step BW hb2 | replace BW := Bw.step (Bw.al BW _) hb2 | replace BW := Bw.step (Bw.al (Bw.al BW _) _) hb2 | replace BW := Bw.step (Bw.al (Bw.al (Bw.al BW _) _) _) hb2 | replace BW := Bw.step (Bw.al (Bw.al (Bw.al (Bw.al BW _) _) _) _) hb2 | replace BW := Bw.step (Bw.al (Bw.al (Bw.al (Bw.al (Bw.al BW _) _) _) _) _) hb2 | replace BW := Bw.step (Bw.al (Bw.al (Bw.al (Bw.al (Bw.al (Bw.al BW _) _) _) _) _) _) hb2); (first | replace F1 := F1.below hb2 | replace F1 := (F1.al _).below hb2 | replace F1 := ((F1.al _).al _).below hb2 | replace F1 := (((F1.al _).al _).al _).below hb2 | replace F1 := ((((F1.al _).al _).al _).al _).below hb2 | replace F1 := (((((F1.al _).al _).al _).al _).al _).below hb2 | replace F1 := ((((((F1.al _).al _).al _).al _).al _).al _).below hb2))
          have R2 := ho2.rd.1
          clear ho2
          go_wp2_with fail
          refine (Decode_ok _ _ _ _ _ _ _ _ _ _ R2 (HRE.out.below BW) hme h1 h2 h3).mono ?_
          rintro e w3 hp3
          obtain ⟨rfl, hb3⟩ := H2.out _ _ _ hp3
          ((first | replace BW := Bw.step BW hb3 | replace BW := Bw.step (Bw.al BW _) hb3 | replace BW := Bw.step (Bw.al (Bw.al BW _) _) hb3 | replace BW := Bw.step (Bw.al (Bw.al (Bw.al BW _) _) _) hb3 | replace BW := Bw.step (Bw.al (Bw.al (Bw.al (Bw.al BW _) _) _) _) hb3 | replace BW := Bw.step (Bw.al (Bw.al (Bw.al (Bw.al (Bw.al BW _) _) _) _) _) hb3 | replace BW := Bw.step (Bw.al (Bw.al (Bw.al (Bw.al (Bw.al (Bw.al BW _) _) _) _) _) _) hb3); (first | replace F1 := F1.below hb3 | replace F1 := (F1.al _).below hb3 | replace F1 := ((F1.al _).al _).below hb3 | replace F1 := (((F1.al _).al _).al _).below hb3 | replace F1 := ((((F1.al _).al _).al _).al _).below hb3 | replace F1 := (((((F1.al _).al _).al _).al _).al _).below hb3 | replace F1 := ((((((F1.al _).al _).al _).al _).al _).al _).below hb3))
          have F3 := Has.new w3 16 (-1) 24
          have F1 := F1.al (.cells #[.int .i64 16, .int .i64 (-1)] 24)
          obtain ⟨l1, c10, c11, f10, f11⟩ := id F1
          obtain ⟨l3, c30, c31, f30, f31⟩ := id F3
          clear hp3
          go_wp2_with fail
          refine (refSame_any _ _ _ _ _ _ [] [] _ (RdB.nil _ _) (RdB.nil _ _)).mono ?_
          rw [s1.out]
          rintro e w' ⟨rfl, rfl⟩
          go_wp2_with (go_at_call 15; refine (coded_any _).mono ?_; rintro e w' ⟨rfl, hb9⟩)
          go_ret
          exact ⟨rfl, Bw.step (Bw.al BW _) hb9⟩
      · obtain ⟨rfl, BW⟩ := hp1.bad (by rw [ll.out]; exact hF)
        have H2 := Lib.hid (fun w0 w e (h : DecPost (changedL l er vs) r er w0 e w) => h.bad (by rw [HXL.out]; exact hF))
        rw [ll.out]
        rw [HXL.out] at H2
        generalize (incF er n 0).1 = C at *
        generalize (incF er n 0).2 = F at *
        have F1 := Has.new w1 C F 24
        have s1 := Lib.hid (sameB_self [])
        clear hp1 hF
        go_wp2_with fail
        refine (HCH.out _ ((HRL.out.below BW).al _) ((HRE.out.below BW).al _) ((HRV.out.below BW).al _)).mono ?_
        rintro e w2 ⟨A2, c2, rfl, ho2, hb2⟩
        ((first | replace BW := Bw.step BW hb2 | replace BW := Bw.step (Bw.al BW _) hb2 | replace BW := Bw.step (Bw.al (Bw.al BW _) _) hb2 | replace BW := Bw.step (Bw.al (Bw.al (Bw.al BW _) _) _) hb2 | replace BW := Bw.step (Bw.al (Bw.al (Bw.al (Bw.al BW _) _) _) _) hb2 | replace BW := Bw.step (Bw.al (Bw.al (Bw.al (Bw.al (Bw.al BW _) _) _) _) _) hb2 | replace BW := Bw.step (Bw.al (Bw.al (Bw.al (Bw.al (Bw.al (Bw.al BW _) _) _) _) _) _) hb2); (first | replace F1 := F1.below hb2 | replace F1 := (F1.al _).below hb2 | replace F1 := ((F1.al _).al _).below hb2 | replace F1 := (((F1.al _).al _).al _).below hb2 | replace F1 := ((((F1.al _).al _).al _).al _).below hb2 | replace F1 := (((((F1.al _).al _).al _).al _).al _).below hb2 | replace F1 := ((((((F1.al _).al _).al _).al _).al _).al _).below hb2))
        have R2 := ho2.rd.1
        clear ho2
        go_wp2_with fail
        refine (Decode_ok _ _ _ _ _ _ _ _ _ _ R2 (HRE.out.below BW) hme h1 h2 h3).mono ?_
        rintro e w3 hp3
        obtain ⟨rfl, hb3⟩ := H2.out _ _ _ hp3
        ((first | replace BW := Bw.step BW hb3 | replace BW := Bw.step (Bw.al BW _) hb3 | replace BW := Bw.step (Bw.al (Bw.al BW _) _) hb3 | replace BW := Bw.step (Bw.al (Bw.al (Bw.al BW _) _) _) hb3 | replace BW := Bw.step (Bw.al (Bw.al (Bw.al (Bw.al BW _) _) _) _) hb3 | replace BW := Bw.step (Bw.al (Bw.al (Bw.al (Bw.al (Bw.al BW _) _) _) _) _) hb3 | replace BW := Bw.step (Bw.al (Bw.al (Bw.al (Bw.al (Bw.al (Bw.al BW _) _) _) _) _) _) hb3); (first | replace F1 := F1.below hb3 | replace F1 := (F1.al _).below hb3 | replace F1 := ((F1.al _).al _).below hb3 | replace F1 := (((F1.al _).al _).al _).below hb3 | replace F1 := ((((F1.al _).al _).al _).al _).below hb3 | replace F1 := (((((F1.al _).al _).al _).al _).al _).below hb3 | replace F1 := ((((((F1.al _).al _).al _).al _).al _).al _).below hb3))
        have F3 := Has.new w3 C F 24
        have F1 := F1.al (.cells #[.int .i64 C, .int .i64 F] 24)
        obtain ⟨l1, c10, c11, f10, f11⟩ := id F1
        obtain ⟨l3, c30, c31, f30, f31⟩ := id F3
        clear hp3
        go_wp2_with fail
        refine (refSame_any _ _ _ _ _ _ [] [] _ (RdB.nil _ _) (RdB.nil _ _)).mono ?_
        rw [s1.out]
        rintro e w' ⟨rfl, rfl⟩
        go_wp2_with (go_at_call 15; refine (coded_any _).mono ?_; rintro e w' ⟨rfl, hb9⟩)
        go_ret
        exact ⟨rfl, Bw.step (Bw.al BW _) hb9⟩
    · rw [h] at hbad; cases hbad
    · rw [h] at hbad; cases hbad
  · have HS := Lib.hid (fun A c w => Decode_bad A E n c me de p w hn hp hbad)
    have s1 := Lib.hid (sameB_self [])
    generalize (wF n p).1 = C at *
    generalize (wF n p).2 = F at *
    clear hbad
    go_enter Try.func9, Try.ntmps9
    go_wp2_with fail
    refine (HS.out _ _ _).mono ?_
    rintro e w1 ⟨rfl, BW⟩
    have F1 := Has.new w1 C F 24
    go_wp2_with fail
    refine (HCH.out _ ((HRL.out.below BW).al _) ((HRE.out.below BW).al _) ((HRV.out.below BW).al _)).mono ?_
    rintro e w2 ⟨A2, c2, rfl, ho2, hb2⟩
    ((first | replace BW := Bw.step BW hb2 | replace BW := Bw.step (Bw.al BW _) hb2 | replace BW := Bw.step (Bw.al (Bw.al BW _) _) hb2 | replace BW := Bw.step (Bw.al (Bw.al (Bw.al BW _) _) _) hb2 | replace BW := Bw.step (Bw.al (Bw.al (Bw.al (Bw.al BW _) _) _) _) hb2 | replace BW := Bw.step (Bw.al (Bw.al (Bw.al (Bw.al (Bw.al BW _) _) _) _) _) hb2 | replace BW := Bw.step (Bw.al (Bw.al (Bw.al (Bw.al (Bw.al (Bw.al BW _) _) _) _) _) _) hb2); (first | replace F1 := F1.below hb2 | replace F1 := (F1.al _).below hb2 | replace F1 := ((F1.al _).al _).below hb2 | replace F1 := (((F1.al _).al _).al _).below hb2 | replace F1 := ((((F1.al _).al _).al _).al _).below hb2 | replace F1 := (((((F1.al _).al _).al _).al _).al _).below hb2 | replace F1 := ((((((F1.al _).al _).al _).al _).al _).al _).below hb2))
    clear ho2
    go_wp2_with fail
    refine (HS.out _ _ _).mono ?_
    rintro e w3 ⟨rfl, hb3⟩
    ((first | replace BW := Bw.step BW hb3 | replace BW := Bw.step (Bw.al BW _) hb3 | replace BW := Bw.step (Bw.al (Bw.al BW _) _) hb3 | replace BW := Bw.step (Bw.al (Bw.al (Bw.al BW _) _) _) hb3 | replace BW := Bw.step (Bw.al (Bw.al (Bw.al (Bw.al BW _) _) _) _) hb3 | replace BW := Bw.step (Bw.al (Bw.al (Bw.al (Bw.al (Bw.al BW _) _) _) _) _) hb3 | replace BW := Bw.step (Bw.al (Bw.al (Bw.al (Bw.al (Bw.al (Bw.al BW _) _) _) _) _) _) hb3); (first | replace F1 := F1.below hb3 | replace F1 := (F1.al _).below hb3 | replace F1 := ((F1.al _).al _).below hb3 | replace F1 := (((F1.al _).al _).al _).below hb3 | replace F1 := ((((F1.al _).al _).al _).al _).below hb3 | replace F1 := (((((F1.al _).al _).al _).al _).al _).below hb3 | replace F1 := ((((((F1.al _).al _).al _).al _).al _).al _).below hb3))
    have F3 := Has.new w3 C F 24
    have F1 := F1.al (.cells #[.int .i64 C, .int .i64 F] 24)
    obtain ⟨l1, c10, c11, f10, f11⟩ := id F1
    obtain ⟨l3, c30, c31, f30, f31⟩ := id F3
    go_wp2_with fail
    refine (refSame_any _ _ _ _ _ _ [] [] _ (RdB.nil _ _) (RdB.nil _ _)).mono ?_
    rw [s1.out]
    rintro e w' ⟨rfl, rfl⟩
    go_wp2_with (go_at_call 15; refine (coded_any _).mono ?_; rintro e w' ⟨rfl, hb9⟩)
    go_ret
    exact ⟨rfl, Bw.step (Bw.al BW _) hb9⟩
/-! ### Combinations -/
theorem lin_enc {a b x y : List GF} {p : Nat} (c : GF) (hl : a.length = b.length) (hx : IsEnc a p x) (hy : IsEnc b p y) : IsEnc (addW (scW c a) b) p (addW (scW c x) y) := by
  have hxy : x.length = y.length := by rw [hx.1, hy.1, hl]
  refine ⟨by rw [addW_len, scW_len, addW_len, scW_len, hx.1], ?_, isCW_add (by rw [scW_len, hxy]) (isCW_sc c hx.2.2) hy.2.2⟩
  apply eq_of_getD
  · rw [List.length_take, addW_len, scW_len, addW_len, scW_len, hx.1]; omega
  · intro i hi
    rw [List.length_take, addW_len, scW_len, addW_len, scW_len] at hi
    have h1 : i < a.length := by omega
    have h2 : i < x.length := by rw [hx.1]; omega
    have e1 : ((addW (scW c x) y).take (addW (scW c a) b).length).getD i 0 = (addW (scW c x) y).getD i 0 := by
      simp only [List.getD, List.getElem?_take]
      rw [if_pos (by rw [addW_len, scW_len]; exact h1)]
    rw [e1, addW_get _ _ (by rw [scW_len]; exact h2), addW_get _ _ (by rw [scW_len]; exact h1), scW_get, scW_get]
    rw [take_getD hx.2.1 rfl h1, take_getD hy.2.1 rfl (by rw [← hl]; exact h1)]
theorem addW_snoc (a b : List GF) (c : GF) {k : Nat} (hk : k < a.length) : addW (scW c (a.take (k + 1))) b = addW (scW c (a.take k)) b ++ [c * a.getD k 0 + b.getD k 0] := by
  unfold addW
  rw [scW_len, scW_len, List.length_take, List.length_take, Nat.min_eq_left (by omega), Nat.min_eq_left (by omega), List.range_succ, List.map_append]
  have e : ∀ i, i ≤ k → (scW c (a.take (k + 1))).getD i 0 = c * a.getD i 0 := fun i hi => by
    rw [scW_get]; congr 1; simp only [List.getD, List.getElem?_take]; rw [if_pos (by omega)]
  have e' : ∀ i, i < k → (scW c (a.take k)).getD i 0 = c * a.getD i 0 := fun i hi => by
    rw [scW_get]; congr 1; simp only [List.getD, List.getElem?_take]; rw [if_pos hi]
  congr 1
  · apply List.map_congr_left
    intro i hi
    rw [List.mem_range] at hi
    rw [e i (by omega), e' i hi]
  · rw [List.map_singleton, e k (Nat.le_refl _)]
theorem addW_take (a b : List GF) (h : a.length ≤ b.length) : addW a (b.take a.length) = addW a b := by
  refine eq_of_getD (by rw [addW_len, addW_len]) fun i hi => ?_
  rw [addW_len] at hi
  rw [addW_get _ _ hi, addW_get _ _ hi]
  congr 1
  simp only [List.getD, List.getElem?_take]; rw [if_pos hi]
theorem wfu8' {a : Int} (h : (Lit.int .u8 a).wf = true) : ∃ x : GF, x.z = a := GF.of_z (wfu8 h)
end Go.Proofs.Ytpkaaiefnabfbab
