/- Cross pages: the reference's Restored. -/
import Derived.Test.YtcinfkmekkdhfaaCqG
import Derived.Test.YtcinfkmekkdhfaaSvJ
namespace Go.Proofs.Ytcinfkmekkdhfaa
open Go.RowKit Go.Shelf
set_option linter.unusedVariables false
attribute [local go_sem] Oper.semAt_some

theorem Two.grow1p {V W : World} {U : Nat → Prop} {B o1 o2 d : Nat} {hv hg : List Value} {L : List (List GF)} {G : List (List Int)} (h : Two V U B o1 o2 d hv hg L G W) {i : Nat} (hi : i < d) (w1 : World) (v1 : Value) (l' : List GF) (ho : OwB w1 B v1 l') (hgr : W.grownBy w1 (hv.getD i undef).ownBlock) (hat : v1.ownBlock = (hv.getD i undef).ownBlock ∨ v1.ownBlock = some W.heap.size) :
    w1.cell? ⟨o1, i, none⟩ = some (hv.getD i undef) ∧ w1.frozen? ⟨o1, i, none⟩ = false ∧ Two V U B o1 o2 d (hv.set i v1) hg (L.set i l') G (w1.setCell ⟨o1, i, none⟩ v1) := by
  have e1 := hgr.block o1 h.lt1 (fun e => (h.f1 i hi o1 e.symm).1 rfl)
  exact ⟨(World.cell?_of_block (a := ⟨o1, i, none⟩) e1).trans (h.cell1 hi), (World.frozen?_of_block (a := ⟨o1, i, none⟩) e1).trans (h.frozen1 i), h.push1 hi ho hgr hat⟩
theorem Two.grow2p {V W : World} {U : Nat → Prop} {B o1 o2 d : Nat} {hv hg : List Value} {L : List (List GF)} {G : List (List Int)} (h : Two V U B o1 o2 d hv hg L G W) {i : Nat} (hi : i < d) (w1 : World) (v1 : Value) (l' : List Int) (ho : OwI w1 B v1 l') (hgr : W.grownBy w1 (hg.getD i undef).ownBlock) (hat : v1.ownBlock = (hg.getD i undef).ownBlock ∨ v1.ownBlock = some W.heap.size) :
    w1.cell? ⟨o2, i, none⟩ = some (hg.getD i undef) ∧ w1.frozen? ⟨o2, i, none⟩ = false ∧ Two V U B o1 o2 d hv (hg.set i v1) L (G.set i l') (w1.setCell ⟨o2, i, none⟩ v1) := by
  have e1 := hgr.block o2 h.lt2 (fun e => (h.f2 i hi o2 e.symm).2.1 rfl)
  exact ⟨(World.cell?_of_block (a := ⟨o2, i, none⟩) e1).trans (h.cell2 hi), (World.frozen?_of_block (a := ⟨o2, i, none⟩) e1).trans (h.frozen2 i), h.push2 hi ho hgr hat⟩
theorem own_at {V W : World} {U : Nat → Prop} (hk : ∀ b, U b → W.heap[b]? = V.heap[b]?) {B n s : Nat} {e : TypeId} {v : Value} {xs : List Value} (h : V.ownsRow B e s v n xs) (hb : ∀ g, v.ownBlock = some g → U g) : W.ownsRow B e s v n xs := by
  refine ⟨h.1, ?_⟩
  rcases h.2 with h' | ⟨g, cap, cur, hv', hB, hh, hn⟩
  · exact .inl h'
  · exact .inr ⟨g, cap, cur, hv', hB, (hk g (hb g (by rw [hv']; rfl))).trans hh, hn⟩
set_option maxRecDepth 100000 in
set_option maxHeartbeats 8000000 in
theorem rRestored_ok (A B : Option Addr) (m c c' p n b d : Nat) (hd : m - p = d) (P : List (List GF)) (Z : List (List Int)) (w : World) (hP : RdM w A m P) (hZ : RdMI w B m Z) (hg : PgsOk P m p n b) (hlz : ∀ i, i < m → (Z.getD i []).length ≤ 100000) :
    Calls Try.prog 16 #[.slice A m c, .slice B m c', .int .i64 p] w fun e w' => ∃ o1 o2 L G, e = .returned (.tuple #[.slice (some ⟨o1, 0, none⟩) d d, .slice (some ⟨o2, 0, none⟩) d d]) ∧ RdM w' (some ⟨o1, 0, none⟩) d L ∧ RdMI w' (some ⟨o2, 0, none⟩) d G ∧ ResOK P Z m p n L G ∧ Below w.heap.size w w' := by
  have hPm : P.length = m := hP.1
  have HP := Lib.hid hP
  have HZ := Lib.hid hZ
  have HLZ := Lib.hid hlz
  obtain ⟨hp, h1, h2, hb, hn, hn1, hn2, hbad, hl⟩ := hg
  have HL := Lib.hid hl
  have HBAD := Lib.hid hbad
  have HN := Lib.hid hn
  obtain ⟨ba, oa, rfl, hba, -⟩ := hP.2 (by omega)
  obtain ⟨bz, oz, rfl, hbz, -⟩ := hZ.2 (by omega)
  have ed : (m : Int) - (p : Int) = (d : Int) := by omega
  have ed2 : IntKind.i64.wrap ((m : Int) - p) = (d : Int) := by rw [IntWalk.i64_in _ (by omega)]; exact ed
  have hd1 : 1 ≤ d ∧ d ≤ 64 := by omega
  have hdm : d ≤ m := by omega
  have HD := Lib.hid hd
  have HMK := run_makeM d (by omega)
  have HMI := run_makeMI d (by omega)
  have T0 := Two.start (o1 := w.heap.size) (o2 := w.heap.size + 1) (B := w.heap.size) (d := d) (W := (w.alloc (.cells (nilsM d) 41)).alloc (.cells (nilsM d) 40))
    (own_below (own_nils w w.heap.size d 41 (Nat.le_refl _) (by omega)) (below_new _ _)) (by have := own_nils (w.alloc (.cells (nilsM d) 41)) w.heap.size d 40 (by simp) (by omega); rw [World.size_alloc] at this; exact this) (by omega) (by rw [World.size_alloc, World.size_alloc]; omega)
  have I0 : ResI ((w.alloc (.cells (nilsM d) 41)).alloc (.cells (nilsM d) 40)) w.heap.size w.heap.size (w.heap.size + 1) d P Z m p 0 ((w.alloc (.cells (nilsM d) 41)).alloc (.cells (nilsM d) 40)) := ⟨_, _, _, _, T0, by have := ResOK.start P Z m p; rw [hd] at this; exact this⟩
  have HI0 := Lib.hid I0
  have B2 : Below w.heap.size w ((w.alloc (.cells (nilsM d) 41)).alloc (.cells (nilsM d) 40)) := Bw.al (below_new w _) _
  have HB2 := Lib.hid B2
  clear hP hZ hlz hn hbad hl hd T0 I0 B2
  go_enter Try.func16, Try.ntmps16
  go_wp2
  clear HMK HMI ed ed2
  generalize (w.alloc (.cells (nilsM d) 41)).alloc (.cells (nilsM d) 40) = W2 at *
  obtain ⟨o2, ho2⟩ : ∃ o2, w.heap.size + 1 = o2 := ⟨_, rfl⟩
  obtain ⟨o1, ho1⟩ : ∃ o1, w.heap.size = o1 := ⟨_, rfl⟩
  have HI1 : Hid (ResI W2 w.heap.size o1 o2 d P Z m p 0 W2) := Lib.hid (by rw [← ho1, ← ho2]; exact HI0.out)
  rw [ho2]
  conv in (occs := *) (Value.slice (some { block := w.heap.size, off := 0, spot := none }) d d) => all_goals rw [ho1]
  clear HI0 ho1 ho2
  go_loopw [11] (fun i wr => ∃ k : Nat, k ≤ n ∧ i = .int .i64 k ∧ ResI W2 w.heap.size o1 o2 d P Z m p k wr) (fun i _ => n - (intOf i).toNat)
  case atStart => exact ⟨0, Nat.zero_le _, rfl, HI1.out⟩
  case round =>
    obtain ⟨k, hk, rfl, hI⟩ := hrel
    obtain ⟨wo, rfl⟩ : ∃ wo : World, wo = wr := ⟨_, rfl⟩
    have hWB : Below w.heap.size w wo := by
      obtain ⟨_, _, _, _, T, _⟩ := hI
      exact HB2.out.trans T.bl
    have HPW := Lib.hid (HP.out.below hWB)
    have HZW := Lib.hid (HZ.out.below hWB)
    have hwz := hWB.size
    have HI := Lib.hid hI
    have HWB := Lib.hid hWB
    clear hI hWB
    have HPS := Lib.hid (show ∀ W, Below wo.heap.size wo W → Calls Try.prog 21 #[.slice (some ⟨ba, oa, none⟩) m c] W fun e w' => e = .returned (.int .i64 (n : Int)) ∧ Below W.heap.size W w' from fun W hW => by
      have := pageSize_hit (some ⟨ba, oa, none⟩) m c b P W (HPW.out.below hW) (by omega) hb (by rw [HN.out]; omega) HBAD.out
      rw [HN.out] at this
      exact this)
    by_cases hlt : k < n
    · have HTL : Hid (∀ j, j < m → (wordP P k).take (j + 1) = (wordP P k).take j ++ [(P.getD j []).getD k 0]) := Lib.hid fun j hj => wordP_take P k (by rw [hPm]; exact hj)
      have hwl : (wordP P k).length = m := by rw [wordP_len, hPm]
      have HWL := Lib.hid hwl
      clear hwl
      go_wp2_with (go_at_call 21; refine (HPS.out _ (Below.refl _ _)).mono ?_; rintro e w' ⟨rfl, hb0⟩)
      have HB0 := Lib.hid hb0
      clear hb0
      go_loopw [12, 13, 14] (fun v u i wr => ∃ j : Nat, j ≤ m ∧ i = .int .i64 j ∧ OwB wr wo.heap.size v ((wordP P k).take j) ∧ OwI wr wo.heap.size u (toI (erN P Z j k)) ∧ Apt v u ∧ Below wo.heap.size wo wr) (fun _ _ i _ => m - (intOf i).toNat)
      case atStart => exact ⟨0, Nat.zero_le _, rfl, OwB.nil _ _, OwI.nil _ _, .inl rfl, HB0.out⟩
      case round =>
        obtain ⟨j, hj, rfl, ho, hi, hap, hbw⟩ := hrel
        have hsz := hbw.size
        by_cases hlj : j < m
        · skip
          obtain ⟨bm', om', e0, hbm', hcm⟩ := (HPW.out.below hbw).2 (by omega)
          injection e0 with e0
          injection e0 with e1 e2
          subst e1 e2
          obtain ⟨bz', oz', e0, hbz', hcz⟩ := (HZW.out.below hbw).2 (by omega)
          injection e0 with e0
          injection e0 with e1 e2
          subst e1 e2
          obtain ⟨Ai, ci, hci, hri⟩ := hcm j hlj
          obtain ⟨Bi, cj, hcj, hrj⟩ := hcz j hlj
          have HT := Lib.hid (HTL.out j hlj)
          have HO := Lib.hid ho
          have HIE := Lib.hid hi
          have HAP := Lib.hid hap
          have HBW := Lib.hid hbw
          have hl2 : ((wordP P k).take j).length ≤ 64 := by rw [List.length_take]; omega
          have hel : (toI (erN P Z j k)).length ≤ 64 := by rw [toI_len]; have := erN_len P Z j k; omega
          clear ho hi hap hbw hcm hcz
          generalize (wordP P k).take j = Lr at *
          rcases HL.out j hlj with h0 | h0
          · skip
            have HE := Lib.hid (show toI (erN P Z (j + 1) k) = toI (erN P Z j k) ++ [(j : Int)] by rw [erN_yes (.inl h0), toI_append]; rfl)
            rw [h0] at hci
            have hz : (P.getD j []).getD k 0 = 0 := by rw [List.eq_nil_of_length_eq_zero h0]; rfl
            rw [hz] at HT
            clear hri hrj hcj h0 hz
            generalize toI (erN P Z j k) = E at *
            go_wp2_with (first
              | (at_builtin; refine wpList_app1IK wr rfl (.tmp 67) (.tmp 69) rfl wo.heap.size _ E HIE.out rfl (j : Int) _ rfl (by omega) hsz ?_; intro v2 w2 ho2 hb2 hk2)
              | (at_builtin; refine wpList_app1K w2 rfl (.tmp 71) (.tmp 73) rfl wo.heap.size _ Lr (hk2 _ _ _ _ _ _ HO.out HAP.out).1 rfl 0 _ rfl (by omega) (Nat.le_trans hsz hb2.size) ?_; intro v3 w3 ho3 hb3 hk3))
            have hf := hk3 _ _ _ _ _ _ ho2 (hk2 _ _ _ _ _ _ HO.out HAP.out).2.symm
            go_roundw
            case rel => first | exact ⟨j + 1, by omega, by go_num, by (rw [HT.out]; exact ho3), by (rw [HE.out]; exact hf.1), hf.2.symm, (HBW.out.trans hb2).trans hb3⟩ | ((repeat apply Exists.intro); exact ⟨⟨j + 1, by omega, by go_num, by (rw [HT.out]; exact ho3), by (rw [HE.out]; exact hf.1), hf.2.symm, (HBW.out.trans hb2).trans hb3⟩, rfl⟩)
            case measure => simp [intOf]; omega
          · rw [h0] at hci hri
            obtain ⟨bi, oi, rfl, hbi, hcc⟩ := hri.2 (by omega)
            have hcell := hcc k hlt
            have hn0 : ((n : Int) == 0) = false := by rw [beq_eq_false_iff_ne]; omega
            have hn3 : decide (0 < (n : Int)) = true := by simp only [decide_eq_true_eq]; omega
            have hn4 : decide (0 < n) = true := by simp only [decide_eq_true_eq]; omega
            have HHA := Lib.hid (fun W (hW : wr = W) => (show Calls Try.prog 18 #[.slice Bi (Z.getD j []).length cj, .int .i64 (k : Int)] wr fun e w' => e = .returned (.bool (hasI (Z.getD j []) (k : Int))) ∧ wr = w' from rHas_any Bi (Z.getD j []).length cj (Z.getD j []) (k : Int) wr hrj (by have := HLZ.out j hlj; omega)))
            have hun : unkP P Z j k ↔ (k : Int) ∈ Z.getD j [] := ⟨fun h => h.resolve_left (by rw [h0]; omega), .inr⟩
            clear hri hcc hrj
            by_cases hu : (k : Int) ∈ Z.getD j []
            · skip
              have HE := Lib.hid (show toI (erN P Z (j + 1) k) = toI (erN P Z j k) ++ [(j : Int)] by rw [erN_yes (hun.2 hu), toI_append]; rfl)
              have hha : hasI (Z.getD j []) (k : Int) = true := decide_eq_true hu
              rw [hha] at HHA
              clear hun hu hha h0
              generalize toI (erN P Z j k) = E at *
              generalize (P.getD j []).getD k 0 = y at *
              generalize (Z.getD j []).length = lzj at *
              go_wp2_with (first
                | (go_at_call 18; refine (HHA.out _ rfl).mono ?_; rintro e w' ⟨rfl, rfl⟩)
                | (at_builtin; refine wpList_app1IK wr rfl (.tmp 67) (.tmp 69) rfl wo.heap.size _ E HIE.out rfl (j : Int) _ rfl (by omega) hsz ?_; intro v2 w2 ho2 hb2 hk2)
                | (at_builtin; refine wpList_app1K w2 rfl (.tmp 71) (.tmp 73) rfl wo.heap.size _ Lr (hk2 _ _ _ _ _ _ HO.out HAP.out).1 rfl y _ rfl (by omega) (Nat.le_trans hsz hb2.size) ?_; intro v3 w3 ho3 hb3 hk3))
              have hf := hk3 _ _ _ _ _ _ ho2 (hk2 _ _ _ _ _ _ HO.out HAP.out).2.symm
              go_roundw
              case rel => first | exact ⟨j + 1, by omega, by go_num, by (rw [HT.out]; exact ho3), by (rw [HE.out]; exact hf.1), hf.2.symm, (HBW.out.trans hb2).trans hb3⟩ | ((repeat apply Exists.intro); exact ⟨⟨j + 1, by omega, by go_num, by (rw [HT.out]; exact ho3), by (rw [HE.out]; exact hf.1), hf.2.symm, (HBW.out.trans hb2).trans hb3⟩, rfl⟩)
              case measure => simp [intOf]; omega
            · skip
              have HE := Lib.hid (show toI (erN P Z (j + 1) k) = toI (erN P Z j k) by rw [erN_no (fun h => hu (hun.1 h))])
              have hha : hasI (Z.getD j []) (k : Int) = false := decide_eq_false hu
              rw [hha] at HHA
              clear hun hu hha h0
              generalize toI (erN P Z j k) = E at *
              generalize (P.getD j []).getD k 0 = y at *
              generalize (Z.getD j []).length = lzj at *
              go_wp2_with (first
                | (go_at_call 18; refine (HHA.out _ rfl).mono ?_; rintro e w' ⟨rfl, rfl⟩)
                | (at_builtin; refine wpList_app1K wr rfl (.tmp 71) (.tmp 73) rfl wo.heap.size _ Lr HO.out rfl y _ rfl (by omega) hsz ?_; intro v3 w3 ho3 hb3 hk3))
              have hf := hk3 _ _ _ _ _ _ HIE.out HAP.out.symm
              go_roundw
              case rel => first | exact ⟨j + 1, by omega, by go_num, by (rw [HT.out]; exact ho3), by (rw [HE.out]; exact hf.1), hf.2.symm, HBW.out.trans hb3⟩ | ((repeat apply Exists.intro); exact ⟨⟨j + 1, by omega, by go_num, by (rw [HT.out]; exact ho3), by (rw [HE.out]; exact hf.1), hf.2.symm, HBW.out.trans hb3⟩, rfl⟩)
              case measure => simp [intOf]; omega
        · obtain ⟨wm, rfl⟩ : ∃ wm : World, wm = wr := ⟨_, rfl⟩
          obtain rfl : m = j := by omega
          rw [List.take_of_length_le (by rw [HWL.out]; exact Nat.le_refl _)] at ho
          obtain ⟨A1, c1, e1⟩ := ho.form
          rw [HWL.out] at e1
          subst e1
          obtain ⟨g1, rfl⟩ := ho.head (by omega)
          obtain ⟨A2, c2, e2⟩ := hi.form
          rw [toI_len] at e2
          subst e2
          have hlt' : ∀ i ∈ erN P Z m k, i < m := fun i hi => (mem_erN.1 hi).1
          have hnem : (erN P Z m k).length ≤ m := erN_len P Z m k
          have HDEC := Lib.hid (rDecode_any (some ⟨g1, 0, none⟩) A2 m c1 c2 (erN P Z m k).length p (wordP P k) (erN P Z m k) wm ho.rd.1 hi.rd.1 (by omega) (by omega) hlt' (erN_sorted _ _ _ _) (by omega))
          have HOW := Lib.hid ho
          have HIW := Lib.hid hi
          have HBW := Lib.hid hbw
          have HLT := Lib.hid hlt'
          have hg1 := ho.lt
          have HWP : Hid (∀ j, wipeP P Z m p k j ↔ (erN P Z m k).length ≤ p ∨ unkP P Z j k) := Lib.hid fun j => Iff.rfl
          have HUK : Hid (∀ j, j < m → hasI (toI (erN P Z m k)) (j : Int) = decide (unkP P Z j k)) := Lib.hid fun j hj => decide_eq_decide.2 (by rw [mem_toI, mem_erN]; exact ⟨fun h => h.2, fun h => ⟨hj, h⟩⟩)
          clear ho hi hap hbw hlt' hlj hj
          by_cases hh : hitP P Z m p k
          · skip
            obtain ⟨cw, hcw⟩ := hh
            have HCW := Lib.hid hcw
            clear hcw
            generalize hne : (erN P Z m k).length = ne at *
            have HNE := Lib.hid hne
            clear hne
            go_wp2_with (go_at_call 34; refine HDEC.out.mono ?_; rintro e w' ⟨hb2, hres⟩; obtain ⟨cz, A3, c3, hcz, rfl, ho3⟩ := hres.resolve_right (fun h => h.1 cw HCW.out); rw [HWL.out] at ho3 ⊢; obtain ⟨g3, rfl⟩ := ho3.head (by omega); generalize dcnt (wordP P k) cz [] m = dd at *; have hdd : decide ((0 : Int) ≤ (dd : Int)) = true := (by simp only [decide_eq_true_eq]; omega); have HO3 := Lib.hid ho3; have HCZ := Lib.hid hcz; have HB2 := Lib.hid hb2; clear ho3 hcz hb2 hres)
            have hb4 : Below wo.heap.size wo w' := HBW.out.trans (HB2.out.mono hsz)
            obtain ⟨hv0, hg0, L0, G0, hE0, hJ0, hnew, hold, hleave⟩ := ResI.enter HI.out HI.out (fun _ _ _ _ _ _ h => h) hb4
            have hz2 := HB2.out.size
            have hg3 := HO3.out.lt
            have HG1 := Lib.hid (hnew g1 hg1.1 (by omega))
            have HG3 := Lib.hid (hnew g3 (by omega) (by omega))
            have HW1 := Lib.hid (HOW.out.below HB2.out)
            rw [HD.out] at hleave
            have HLV := Lib.hid hleave
            have HE0 := Lib.hid hE0
            have HJ0 := Lib.hid hJ0
            clear hb4 hE0 hJ0 hnew hold hleave hz2 hg3 hg1
            go_loopw [18] (fun i wr => ∃ j : Nat, j ≤ d ∧ i = .int .i64 j ∧ ResJ w' w.heap.size o1 o2 d hv0 hg0 P Z m p k j L0 G0 wr) (fun i _ => d - (intOf i).toNat)
            case atStart => exact ⟨0, Nat.zero_le _, rfl, HJ0.out⟩
            case round =>
              obtain ⟨j, hj, rfl, hv, hg, L, G, T, hM⟩ := hrel
              by_cases hjd : j < d
              · skip
                have hjm : j < m := by omega
                have cw1 := T.out HG1.out (HW1.out.cellAt hjm)
                have cc1 := T.out HG3.out (HO3.out.cellAt hjm)
                have hll : (L.getD j []).length ≤ 384 := by
                  rw [(hM.row HE0.out (by rw [HD.out]; exact hjd)).1]; omega
                have HM := Lib.hid hM
                have HBY : Hid (byteP P Z m p k j (cz.getD j 0)) := Lib.hid ⟨fun cx hcx => by
                  have hnd : (erN P Z m k).Nodup := (erN_sorted P Z m k).imp (fun h => Nat.ne_of_lt h)
                  rw [within_unique (by rw [HWL.out]; omega) hnd (by rw [HWL.out]; exact HLT.out) hcx HCZ.out], fun hn => absurd ⟨cz, HCZ.out⟩ hn⟩
                have HNG : Hid (¬ goneP P Z m p k j) := Lib.hid fun h => h.1 ⟨cz, HCZ.out⟩
                clear hM
                generalize cz.getD j 0 = y at *
                generalize (wordP P k).getD j 0 = yw at *
                have hrowB := T.cell1 hjd
                have HROWB := Lib.hid (T.row1 j hjd)
                have HT := Lib.hid T
                generalize hrvB : hv.getD j undef = rvB at hrowB HROWB
                have HRVB := Lib.hid hrvB
                clear hrvB T
                go_wp2_with (at_builtin; refine wpList_appB (wr.alloc (.cells #[.int .u8 y.z] 5)) rfl (.tmp 121) (.tmp 123) rfl w.heap.size rvB (L.getD j []) rfl (HROWB.out.below (below_new _ _)) (some ⟨wr.heap.size, 0, none⟩) 1 1 [y] rfl (RdB.one wr y _ 1) (by rw [List.length_singleton]; omega) (by rw [World.size_alloc]; have := HT.out.hB; have := HT.out.hS; omega) ?_; intro v1 w1 ho1 hg1 hat1; obtain ⟨hce1B, hfz1B, hT7⟩ := (HT.out.below (below_new wr (.cells #[.int .u8 y.z] 5))).grow1p hjd w1 v1 (L.getD j [] ++ [y]) ho1 (by rw [HRVB.out]; exact hg1) (by rw [HRVB.out]; exact hat1); obtain ⟨A7B, c7B, rfl⟩ := ho1.form; generalize (L.getD j [] ++ [y]).length = n7B at *; have HT7B := Lib.hid hT7; clear hat1 hg1 ho1 hT7)
                go_roundw
                case rel => first | exact ⟨j + 1, by omega, by go_num, _, _, _, _, HT7B.out, HM.out.step (by rw [HD.out]; exact hjd) HBY.out HNG.out⟩ | ((repeat apply Exists.intro); exact ⟨⟨j + 1, by omega, by go_num, _, _, _, _, HT7B.out, HM.out.step (by rw [HD.out]; exact hjd) HBY.out HNG.out⟩, rfl⟩)
                case measure => simp [intOf]; omega
              · obtain rfl : j = d := by omega
                have HQ4 := Lib.hid (HLV.out wr ⟨hv, hg, L, G, T, hM⟩).2.2.2
                clear T hM
                go_wp2
                go_roundw
                case rel => first | exact ⟨k + 1, by omega, by go_num, HQ4.out⟩ | ((repeat apply Exists.intro); exact ⟨⟨k + 1, by omega, by go_num, HQ4.out⟩, rfl⟩)
                case measure => simp [intOf]; omega
          · skip
            have HMS : Hid (∀ cz, ¬ Within p (wordP P k) (erN P Z m k) cz) := Lib.hid fun cz hcz => hh ⟨cz, hcz⟩
            have HH := Lib.hid hh
            generalize hne : (erN P Z m k).length = ne at *
            clear hh hne
            go_wp2_with (go_at_call 34; refine HDEC.out.mono ?_; rintro e w' ⟨hb2, hres⟩; obtain ⟨_, rfl⟩ := hres.resolve_left (fun ⟨cz, _, _, h, _⟩ => HMS.out cz h); have HB2 := Lib.hid hb2; clear hb2 hres)
            have hb4 : Below wo.heap.size wo w' := HBW.out.trans (HB2.out.mono hsz)
            obtain ⟨hv0, hg0, L0, G0, hE0, hJ0, hnew, hold, hleave⟩ := ResI.enter HI.out HI.out (fun _ _ _ _ _ _ h => h) hb4
            have hz2 := HB2.out.size
            have HG1 := Lib.hid (hnew g1 hg1.1 (by omega))
            have HW1 := Lib.hid (HOW.out.below HB2.out)
            have hri2 : ∀ g, Value.ownBlock (.slice A2 ne c2) = some g → rest w' o1 o2 d hv0 hg0 g := fun g hg => by
              have := own_lt HIW.out hg
              exact hnew g this.1 (by omega)
            rw [HD.out] at hleave
            have HLV := Lib.hid hleave
            have HE0 := Lib.hid hE0
            have HJ0 := Lib.hid hJ0
            clear hb4 hE0 hJ0 hnew hold hleave hz2 hg1
            have HIW1 := Lib.hid (HIW.out.below HB2.out)
            have HRI : Hid (∀ g, Value.ownBlock (.slice A2 ne c2) = some g → rest w' o1 o2 d hv0 hg0 g) := Lib.hid hri2
            clear hri2
            go_loopw [18] (fun i wr => ∃ j : Nat, j ≤ d ∧ i = .int .i64 j ∧ ResJ w' w.heap.size o1 o2 d hv0 hg0 P Z m p k j L0 G0 wr) (fun i _ => d - (intOf i).toNat)
            case atStart => exact ⟨0, Nat.zero_le _, rfl, HJ0.out⟩
            case round =>
              obtain ⟨j, hj, rfl, hv, hg, L, G, T, hM⟩ := hrel
              by_cases hjd : j < d
              · have hjm : j < m := by omega
                have cw1 := T.out HG1.out (HW1.out.cellAt hjm)
                have hrw := hM.row HE0.out (by rw [HD.out]; exact hjd)
                have hll : (L.getD j []).length ≤ 384 := by rw [hrw.1]; omega
                have hlg : (G.getD j []).length ≤ 384 := by have := hrw.2; omega
                have HM := Lib.hid hM
                have hwj := HWP.out j
                have HHA := Lib.hid (rHas_any A2 ne c2 (toI (erN P Z m k)) (j : Int) wr (show OwI wr _ (.slice A2 ne c2) (toI (erN P Z m k)) from own_at T.fix HIW1.out HRI.out).rd.1 (by omega))
                rw [HUK.out j hjm] at HHA
                clear hM hrw
                by_cases hq : ne ≤ p
                · skip
                  have hdq : decide (ne ≤ p) = true := decide_eq_true hq
                  have hdi : decide ((ne : Int) ≤ (p : Int)) = true := by simp only [decide_eq_true_eq]; omega
                  have HBY : Hid (byteP P Z m p k j 0) := Lib.hid ⟨fun cz hcz => absurd hcz (HMS.out cz), fun _ => ⟨fun _ => rfl, fun h => absurd (hwj.2 (.inl hq)) h⟩⟩
                  have HGN : Hid (goneP P Z m p k j) := Lib.hid ⟨HH.out, hwj.2 (.inl hq)⟩
                  clear hwj hq HHA
                  generalize (wordP P k).getD j 0 = yw at *
                  have hrowI := T.cell2 hjd
                  have HROWI := Lib.hid (T.row2 j hjd)
                  generalize hrvI : hg.getD j undef = rvI at hrowI HROWI
                  have HRVI := Lib.hid hrvI
                  clear hrvI
                  have hrowB := T.cell1 hjd
                  have HROWB := Lib.hid (T.row1 j hjd)
                  generalize hrvB : hv.getD j undef = rvB at hrowB HROWB
                  have HRVB := Lib.hid hrvB
                  clear hrvB
                  have HTI := Lib.hid T
                  clear T
                  go_wp2_with (first | (go_at_call 18; refine (HHA.out).mono ?_; rintro e w7 ⟨rfl, rfl⟩) | (at_builtin; refine wpList_appB ((w1.setCell ⟨o2, j, none⟩ (.slice A7I n7I c7I)).alloc (.cells #[.int .u8 (0 : GF).z] 5)) rfl (.tmp 121) (.tmp 123) rfl w.heap.size rvB (L.getD j []) rfl (HRB2.out.below (below_new _ _)) (some ⟨w1.heap.size, 0, none⟩) 1 1 [0] rfl (by have := RdB.one (w1.setCell ⟨o2, j, none⟩ (.slice A7I n7I c7I)) (0 : GF) 5 1; rw [World.size_setCell] at this; exact this) (by rw [List.length_singleton]; omega) (by rw [World.size_alloc]; have := HX.out.hB; have := HX.out.hS; omega) ?_; intro v2 w2 ho2 hg2 hat2; obtain ⟨hce2, hfz2, hT8⟩ := (HX.out.below (below_new (w1.setCell ⟨o2, j, none⟩ (.slice A7I n7I c7I)) (.cells #[.int .u8 (0 : GF).z] 5))).grow1p hjd w2 v2 (L.getD j [] ++ [0]) ho2 (by rw [HRVB.out]; exact hg2) (by rw [HRVB.out]; exact hat2); obtain ⟨A7B, c7B, rfl⟩ := ho2.form; generalize (L.getD j [] ++ [(0 : GF)]).length = n7B at *; have HT8 := Lib.hid hT8; clear hat2 hg2 ho2 hT8) | (at_builtin; refine wpList_appI (wr.alloc (.cells #[.int .i64 (k : Int)] 3)) rfl (.tmp 111) (.tmp 113) rfl w.heap.size rvI (G.getD j []) rfl (HROWI.out.below (below_new _ _)) (some ⟨wr.heap.size, 0, none⟩) 1 1 [(k : Int)] rfl (RdI.one wr (k : Int) _ 1) (by rw [List.length_singleton]; omega) (by rw [World.size_alloc]; have := HTI.out.hB; have := HTI.out.hS; omega) ?_; intro v1 w1 ho1 hg1 hat1; have T6 := HTI.out.below (below_new wr (.cells #[.int .i64 (k : Int)] 3)); obtain ⟨hce1I, hfz1I, hT7⟩ := T6.grow2p hjd w1 v1 (G.getD j [] ++ [(k : Int)]) ho1 (by rw [HRVI.out]; exact hg1) (by rw [HRVI.out]; exact hat1); have hrB0 := (World.cell?_of_block (a := ⟨o1, j, none⟩) (hg1.block o1 T6.lt1 (fun e => (T6.f2 j hjd o1 (by rw [HRVI.out]; exact e.symm)).1 rfl))).trans (T6.cell1 hjd); rw [HRVB.out] at hrB0; obtain ⟨A7I, c7I, rfl⟩ := ho1.form; generalize (G.getD j [] ++ [(k : Int)]).length = n7I at *; have hrB1 := hT7.cell1 hjd; have hrB2 := hT7.row1 j hjd; rw [HRVB.out] at hrB1 hrB2; have HRB2 := Lib.hid hrB2; have HX := Lib.hid hT7; clear hat1 hg1 ho1 hT7 T6 hrB2 hrowB))
                  go_roundw
                  case rel => first | exact ⟨j + 1, by omega, by go_num, _, _, _, _, HT8.out, HM.out.stepG (by rw [HD.out]; exact hjd) HBY.out HGN.out⟩ | ((repeat apply Exists.intro); exact ⟨⟨j + 1, by omega, by go_num, _, _, _, _, HT8.out, HM.out.stepG (by rw [HD.out]; exact hjd) HBY.out HGN.out⟩, rfl⟩)
                  case measure => simp [intOf]; omega
                · have hdq : decide (ne ≤ p) = false := decide_eq_false hq
                  have hdi : decide ((ne : Int) ≤ (p : Int)) = false := by simp only [decide_eq_false_iff_not]; omega
                  by_cases hu : unkP P Z j k
                  · skip
                    have hd : decide (unkP P Z j k) = true := decide_eq_true hu
                    rw [hd] at HHA
                    have HBY : Hid (byteP P Z m p k j 0) := Lib.hid ⟨fun cz hcz => absurd hcz (HMS.out cz), fun _ => ⟨fun _ => rfl, fun h => absurd (hwj.2 (.inr hu)) h⟩⟩
                    have HGN : Hid (goneP P Z m p k j) := Lib.hid ⟨HH.out, hwj.2 (.inr hu)⟩
                    clear hwj hq hd hu
                    generalize (wordP P k).getD j 0 = yw at *
                    have hrowI := T.cell2 hjd
                    have HROWI := Lib.hid (T.row2 j hjd)
                    generalize hrvI : hg.getD j undef = rvI at hrowI HROWI
                    have HRVI := Lib.hid hrvI
                    clear hrvI
                    have hrowB := T.cell1 hjd
                    have HROWB := Lib.hid (T.row1 j hjd)
                    generalize hrvB : hv.getD j undef = rvB at hrowB HROWB
                    have HRVB := Lib.hid hrvB
                    clear hrvB
                    have HTI := Lib.hid T
                    clear T
                    go_wp2_with (first | (go_at_call 18; refine (HHA.out).mono ?_; rintro e w7 ⟨rfl, rfl⟩) | (at_builtin; refine wpList_appB ((w1.setCell ⟨o2, j, none⟩ (.slice A7I n7I c7I)).alloc (.cells #[.int .u8 (0 : GF).z] 5)) rfl (.tmp 121) (.tmp 123) rfl w.heap.size rvB (L.getD j []) rfl (HRB2.out.below (below_new _ _)) (some ⟨w1.heap.size, 0, none⟩) 1 1 [0] rfl (by have := RdB.one (w1.setCell ⟨o2, j, none⟩ (.slice A7I n7I c7I)) (0 : GF) 5 1; rw [World.size_setCell] at this; exact this) (by rw [List.length_singleton]; omega) (by rw [World.size_alloc]; have := HX.out.hB; have := HX.out.hS; omega) ?_; intro v2 w2 ho2 hg2 hat2; obtain ⟨hce2, hfz2, hT8⟩ := (HX.out.below (below_new (w1.setCell ⟨o2, j, none⟩ (.slice A7I n7I c7I)) (.cells #[.int .u8 (0 : GF).z] 5))).grow1p hjd w2 v2 (L.getD j [] ++ [0]) ho2 (by rw [HRVB.out]; exact hg2) (by rw [HRVB.out]; exact hat2); obtain ⟨A7B, c7B, rfl⟩ := ho2.form; generalize (L.getD j [] ++ [(0 : GF)]).length = n7B at *; have HT8 := Lib.hid hT8; clear hat2 hg2 ho2 hT8) | (at_builtin; refine wpList_appI (wr.alloc (.cells #[.int .i64 (k : Int)] 3)) rfl (.tmp 111) (.tmp 113) rfl w.heap.size rvI (G.getD j []) rfl (HROWI.out.below (below_new _ _)) (some ⟨wr.heap.size, 0, none⟩) 1 1 [(k : Int)] rfl (RdI.one wr (k : Int) _ 1) (by rw [List.length_singleton]; omega) (by rw [World.size_alloc]; have := HTI.out.hB; have := HTI.out.hS; omega) ?_; intro v1 w1 ho1 hg1 hat1; have T6 := HTI.out.below (below_new wr (.cells #[.int .i64 (k : Int)] 3)); obtain ⟨hce1I, hfz1I, hT7⟩ := T6.grow2p hjd w1 v1 (G.getD j [] ++ [(k : Int)]) ho1 (by rw [HRVI.out]; exact hg1) (by rw [HRVI.out]; exact hat1); have hrB0 := (World.cell?_of_block (a := ⟨o1, j, none⟩) (hg1.block o1 T6.lt1 (fun e => (T6.f2 j hjd o1 (by rw [HRVI.out]; exact e.symm)).1 rfl))).trans (T6.cell1 hjd); rw [HRVB.out] at hrB0; obtain ⟨A7I, c7I, rfl⟩ := ho1.form; generalize (G.getD j [] ++ [(k : Int)]).length = n7I at *; have hrB1 := hT7.cell1 hjd; have hrB2 := hT7.row1 j hjd; rw [HRVB.out] at hrB1 hrB2; have HRB2 := Lib.hid hrB2; have HX := Lib.hid hT7; clear hat1 hg1 ho1 hT7 T6 hrB2 hrowB))
                    go_roundw
                    case rel => first | exact ⟨j + 1, by omega, by go_num, _, _, _, _, HT8.out, HM.out.stepG (by rw [HD.out]; exact hjd) HBY.out HGN.out⟩ | ((repeat apply Exists.intro); exact ⟨⟨j + 1, by omega, by go_num, _, _, _, _, HT8.out, HM.out.stepG (by rw [HD.out]; exact hjd) HBY.out HGN.out⟩, rfl⟩)
                    case measure => simp [intOf]; omega
                  · skip
                    have hd : decide (unkP P Z j k) = false := decide_eq_false hu
                    rw [hd] at HHA
                    have hnw : ¬ wipeP P Z m p k j := fun h => (hwj.1 h).elim hq hu
                    have HBY : Hid (byteP P Z m p k j ((wordP P k).getD j 0)) := Lib.hid ⟨fun cz hcz => absurd hcz (HMS.out cz), fun _ => ⟨fun h => absurd h hnw, fun _ => rfl⟩⟩
                    have HGN : Hid (¬ goneP P Z m p k j) := Lib.hid fun h => hnw h.2
                    clear hwj hq hd hu hnw
                    generalize (wordP P k).getD j 0 = y at *
                    have hrowB := T.cell1 hjd
                    have HROWB := Lib.hid (T.row1 j hjd)
                    generalize hrvB : hv.getD j undef = rvB at hrowB HROWB
                    have HRVB := Lib.hid hrvB
                    clear hrvB
                    have HT := Lib.hid T
                    clear T
                    go_wp2_with (first | (go_at_call 18; refine (HHA.out).mono ?_; rintro e w7 ⟨rfl, rfl⟩) | (at_builtin; refine wpList_appB (wr.alloc (.cells #[.int .u8 y.z] 5)) rfl (.tmp 121) (.tmp 123) rfl w.heap.size rvB (L.getD j []) rfl (HROWB.out.below (below_new _ _)) (some ⟨wr.heap.size, 0, none⟩) 1 1 [y] rfl (RdB.one wr y _ 1) (by rw [List.length_singleton]; omega) (by rw [World.size_alloc]; have := HT.out.hB; have := HT.out.hS; omega) ?_; intro v1 w1 ho1 hg1 hat1; obtain ⟨hce1B, hfz1B, hT7⟩ := (HT.out.below (below_new wr (.cells #[.int .u8 y.z] 5))).grow1p hjd w1 v1 (L.getD j [] ++ [y]) ho1 (by rw [HRVB.out]; exact hg1) (by rw [HRVB.out]; exact hat1); obtain ⟨A7B, c7B, rfl⟩ := ho1.form; generalize (L.getD j [] ++ [y]).length = n7B at *; have HT7B := Lib.hid hT7; clear hat1 hg1 ho1 hT7))
                    go_roundw
                    case rel => first | exact ⟨j + 1, by omega, by go_num, _, _, _, _, HT7B.out, HM.out.step (by rw [HD.out]; exact hjd) HBY.out HGN.out⟩ | ((repeat apply Exists.intro); exact ⟨⟨j + 1, by omega, by go_num, _, _, _, _, HT7B.out, HM.out.step (by rw [HD.out]; exact hjd) HBY.out HGN.out⟩, rfl⟩)
                    case measure => simp [intOf]; omega
              · obtain rfl : j = d := by omega
                have HQ4 := Lib.hid (HLV.out wr ⟨hv, hg, L, G, T, hM⟩).2.2.2
                clear T hM
                go_wp2
                go_roundw
                case rel => first | exact ⟨k + 1, by omega, by go_num, HQ4.out⟩ | ((repeat apply Exists.intro); exact ⟨⟨k + 1, by omega, by go_num, HQ4.out⟩, rfl⟩)
                case measure => simp [intOf]; omega
    · obtain rfl : n = k := by omega
      obtain ⟨hv, hg, L, G, T, hE⟩ := HI.out
      have HTT := Lib.hid T
      have HE := Lib.hid hE
      clear T hE
      go_wp2_with (go_at_call 21; refine (HPS.out _ (Below.refl _ _)).mono ?_; rintro e w' ⟨rfl, hb0⟩; have T2 := HTT.out.below hb0; have HT2 := Lib.hid T2; clear hb0 T2)
      go_ret2
      exact ⟨o1, o2, L, G, rfl, HT2.out.rd.1, HT2.out.rd.2, HE.out, HB2.out.trans HT2.out.bl⟩
end Go.Proofs.Ytcinfkmekkdhfaa
