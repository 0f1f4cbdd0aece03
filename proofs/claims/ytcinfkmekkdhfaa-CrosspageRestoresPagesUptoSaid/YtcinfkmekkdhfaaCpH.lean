/- Cross pages: the reference's Extended. -/
import Derived.Test.YtcinfkmekkdhfaaCpG
namespace Go.Proofs.Ytcinfkmekkdhfaa
open Go.RowKit Go.Shelf
set_option linter.unusedVariables false
attribute [local go_sem] Oper.semAt_some

/-- What the outer rounds keep. -/
structure RI (w wr : World) (o p : Nat) (P : List (List GF)) (k : Nat) : Prop where
  S : o < wr.heap.size
  M : ∃ hv L, OwM wr w.heap.size (.slice (some ⟨o, 0, none⟩) L.length p) hv L ∧ ExtOK P p k L
  B : Below w.heap.size w wr
theorem RI.below {w wr wr' : World} {o p k : Nat} {P : List (List GF)} (h : RI w wr o p P k) (hb : Below wr.heap.size wr wr') : RI w wr' o p P k := by
  obtain ⟨hv, L, h1, h2⟩ := h.M
  exact ⟨Nat.lt_of_lt_of_le h.S hb.size, ⟨hv, L, h1.below hb, h2⟩, Bw.step h.B hb⟩
/-- What the inner rounds keep. -/
structure RJ (w wr : World) (o p m : Nat) (P : List (List GF)) (k j : Nat) (wd : List GF) (L0 : List (List GF)) (gc cc : Nat) : Prop where
  S : o < wr.heap.size
  M : ∃ hv L, OwM wr w.heap.size (.slice (some ⟨o, 0, none⟩) L.length p) hv L ∧ ExtMid P p k j wd L0 L ∧ ∀ i, i < p → Apt (hv.getD i undef) (.slice (some ⟨gc, 0, none⟩) (m + p) cc)
  C : ∃ B, OwB wr B (.slice (some ⟨gc, 0, none⟩) (m + p) cc) wd
  Cg : gc ≠ o
  B : Below w.heap.size w wr
theorem RJ.below {w wr wr' : World} {o p m k j gc cc : Nat} {P L0 : List (List GF)} {wd : List GF} (h : RJ w wr o p m P k j wd L0 gc cc) (hb : Below wr.heap.size wr wr') : RJ w wr' o p m P k j wd L0 gc cc := by
  obtain ⟨hv, L, h1, h2, h3⟩ := h.M
  obtain ⟨B, hC⟩ := h.C
  exact ⟨Nat.lt_of_lt_of_le h.S hb.size, ⟨hv, L, h1.below hb, h2, h3⟩, ⟨B, hC.below hb⟩, h.Cg, Bw.step h.B hb⟩
theorem own_lower {w : World} {v : Value} {l : List GF} {B : Nat} (h : OwB w B v l) {g : Nat} (hg : v.ownBlock = some g) : B ≤ g ∧ g < w.heap.size := own_lt h hg
theorem RI.enter {w W wr : World} {o p m k gc cc : Nat} {P : List (List GF)} {wd : List GF} (h : RI w W o p P k) (hb : Below W.heap.size W wr) (hwo : OwB wr W.heap.size (.slice (some ⟨gc, 0, none⟩) (m + p) cc) wd) :
    ∃ L0, ExtOK P p k L0 ∧ RJ w wr o p m P k 0 wd L0 gc cc := by
  have hS := h.S
  obtain ⟨hv, L, h1, h2⟩ := h.M
  have hgc : W.heap.size ≤ gc := (own_lt hwo (rfl : Value.ownBlock (.slice (some ⟨gc, 0, none⟩) (m + p) cc) = some gc)).1
  refine ⟨L, h2, Nat.lt_of_lt_of_le hS hb.size, ⟨hv, L, h1.below hb, ExtMid.start h2.1, fun i hi => ?_⟩, ⟨_, hwo⟩, by omega, Bw.step h.B hb⟩
  cases hbk : (hv.getD i undef).ownBlock with
  | none => exact .inl hbk
  | some g =>
    refine .inr fun e => ?_
    have h5 := own_lt (h1.row i (by rw [h2.1]; exact hi)) hbk
    rw [hbk] at e
    have : g = gc := Option.some.inj e
    omega
theorem RJ.leave {w wr : World} {o p m k gc cc : Nat} {P L0 : List (List GF)} {wd : List GF} (h0 : ExtOK P p k L0) (h : RJ w wr o p m P k p wd L0 gc cc) (hw : IsEnc (wordP P k) p wd) (hlen : P.length + p ≤ 255) : RI w wr o p P (k + 1) := by
  obtain ⟨hv, L, h1, h2, _⟩ := h.M
  exact ⟨h.S, ⟨hv, L, h1, ExtMid.done h0 h2 hw hlen⟩, h.B⟩
theorem RJ.step {w wr : World} {o p m k j gc cc : Nat} {P L0 : List (List GF)} {wd : List GF} (h : RJ w wr o p m P k j wd L0 gc cc) (hos : w.heap.size ≤ o) {hv : List Value} {L : List (List GF)}
    (hM : OwM wr w.heap.size (.slice (some ⟨o, 0, none⟩) L.length p) hv L) (hE : ExtMid P p k j wd L0 L) (hA : ∀ i, i < p → Apt (hv.getD i undef) (.slice (some ⟨gc, 0, none⟩) (m + p) cc)) (hj : j < p)
    {w' : World} {v' : Value} (ho : OwB w' w.heap.size v' (L.getD j [] ++ [wd.getD (P.length + j) 0])) (hg : wr.grownBy w' (hv.getD j undef).ownBlock) (hat : v'.ownBlock = (hv.getD j undef).ownBlock ∨ v'.ownBlock = some wr.heap.size) :
    RJ w (w'.setCell ⟨o, j, none⟩ v') o p m P k (j + 1) wd L0 gc cc := by
  have hk := keeps_grown hg hat
  obtain ⟨B, hC⟩ := h.C
  have hLl : L.length = p := hE.1
  have hlv : hv.length = p := by rw [hM.len, hLl]
  have hC2 := hk _ _ _ _ _ _ hC (hA j hj).symm
  have hbb : Below w.heap.size wr w' := grown_below hg (hM.row j (by omega)) h.B.size
  refine ⟨by rw [World.size_setCell]; exact Nat.lt_of_lt_of_le h.S hg.size, ⟨hv.set j v', L.set j (L.getD j [] ++ [wd.getD (P.length + j) 0]), by rw [List.length_set]; exact hM.grow (by omega) hk ho, hE.step hj, fun i hi => ?_⟩, ⟨B, own_off hC2.1 (fun g hg => ?_) v'⟩, h.Cg, (h.B.trans hbb).setCell (p := ⟨o, j, none⟩) hos _⟩
  · by_cases e : i = j
    · subst e
      rw [getD_set_eq (by omega)]
      exact hC2.2.symm
    · rw [getD_set_neq (fun e' => e e'.symm)]
      exact hA i hi
  · have : gc = g := Option.some.inj hg
    have := h.Cg
    show g ≠ o
    omega
set_option maxRecDepth 100000 in
set_option maxHeartbeats 4000000 in
theorem rExtended_ok (A : Option Addr) (m cap p n : Nat) (P : List (List GF)) (w : World) (hM : RdM w A m P) (h1 : 1 ≤ m) (h2 : m ≤ 48) (hp : p ≤ 16) (hn1 : 1 ≤ n) (hn2 : n ≤ 384) (hl : ∀ i, i < m → (P.getD i []).length = n) :
    Calls Try.prog 13 #[.slice A m cap, .int .i64 p] w fun e w' => ∃ A' c' hv L, e = .returned (.slice A' p c') ∧ OwM w' w.heap.size (.slice A' p c') hv L ∧ ExtOK P p n L ∧ Below w.heap.size w w' := by
  have hPm : P.length = m := hM.1
  have HMM := Lib.hid hM
  have HL := Lib.hid hl
  obtain ⟨bm, om, rfl, hbm, hcm⟩ := hM.2 (by omega)
  clear hM hcm hl
  have HMK := run_makeM p (by omega)
  have I0 : RI w (w.alloc (.cells (nilsM p) 41)) w.heap.size p P 0 := ⟨by simp, ⟨_, _, by rw [List.length_replicate]; exact OwM.new w w.heap.size p (Nat.le_refl _) (by omega), ExtOK.start P p⟩, below_new w _⟩
  have HI0 := Lib.hid I0
  clear I0
  go_enter Try.func13, Try.ntmps13
  go_wp2
  generalize w.alloc (.cells (nilsM p) 41) = W1 at *
  obtain ⟨o, ho⟩ : ∃ o, w.heap.size = o := ⟨_, rfl⟩
  rw [ho] at HI0 ⊢
  clear HMK
  have hbo : bm < o := by omega
  have HO := Lib.hid ho
  clear ho hbm
  go_loopw [6] (fun i wr => ∃ k : Nat, k ≤ n ∧ i = .int .i64 k ∧ RI w wr o p P k) (fun i _ => n - (intOf i).toNat)
  case atStart => exact ⟨0, Nat.zero_le _, rfl, HI0.out⟩
  case round =>
    obtain ⟨k, hk, rfl, hI⟩ := hrel
    have hbw : bm < wr.heap.size := by have := hI.S; omega
    have HMW := Lib.hid (HMM.out.below (hI.B.mono (Nat.le_refl _)))
    obtain ⟨b0, o0, e0, hb0, hcm0⟩ := HMW.out.2 (by omega)
    injection e0 with e0
    injection e0 with e1 e2
    subst e1 e2
    obtain ⟨A0, c0, hc0, _⟩ := hcm0 0 (by omega)
    rw [HL.out 0 (by omega), Nat.add_zero] at hc0
    have HI := Lib.hid hI
    clear hI hcm0 hb0
    by_cases hlt : k < n
    · have HTL : Hid (∀ j, j < m → (wordP P k).take (j + 1) = (wordP P k).take j ++ [(P.getD j []).getD k 0]) := Lib.hid fun j hj => wordP_take P k (by rw [hPm]; exact hj)
      have hwl : (wordP P k).length = m := by rw [wordP_len, hPm]
      go_wp2
      clear hc0
      obtain ⟨wo, rfl⟩ : ∃ wo : World, wo = wr := ⟨_, rfl⟩
      go_loopw [7, 8] (fun v u wr => ∃ j : Nat, j ≤ m ∧ u = .int .i64 j ∧ OwB wr wo.heap.size v ((wordP P k).take j) ∧ Below wo.heap.size wo wr) (fun _ u _ => m - (intOf u).toNat)
      case atStart => exact ⟨0, Nat.zero_le _, rfl, OwB.nil _ _, Below.refl _ _⟩
      case round =>
        obtain ⟨j, hj, rfl, hown, hb1⟩ := hrel
        by_cases hlj : j < m
        · have HOW := Lib.hid hown
          have HT := Lib.hid (HTL.out j hlj)
          obtain ⟨bm', om', e0, hbm', hcm⟩ := (HMW.out.below hb1).2 (by omega)
          injection e0 with e0
          injection e0 with e1 e2
          subst e1 e2
          obtain ⟨Ai, ci, hci, hri⟩ := hcm j hlj
          rw [HL.out j hlj] at hci hri
          have hl2 : ((wordP P k).take j).length ≤ 64 := by rw [List.length_take]; omega
          have hsz2 := hb1.size
          obtain ⟨bi, oi, rfl, hbi, hcc⟩ := hri.2 (by omega)
          have hcell := hcc k hlt
          clear hri hcc hown hcm
          generalize (wordP P k).take j = Lr at *
          generalize (P.getD j []).getD k 0 = y at *
          go_wp2_with (at_builtin; refine wpList_app1 wr rfl (.tmp 27) (.tmp 35) rfl wo.heap.size _ Lr HOW.out rfl y _ rfl (by omega) hsz2 ?_; intro v1 w1 ho1 hb2)
          go_roundw
          case rel => first | exact ⟨j + 1, by omega, by go_num, by (rw [HT.out]; exact ho1), hb1.trans hb2⟩ | ((repeat apply Exists.intro); exact ⟨⟨j + 1, by omega, by go_num, by (rw [HT.out]; exact ho1), hb1.trans hb2⟩, rfl⟩)
          case measure => simp [intOf]; omega
        · obtain rfl : m = j := by omega
          rw [List.take_of_length_le (by rw [hwl]; exact Nat.le_refl _)] at hown
          obtain ⟨A1, c1, e1⟩ := hown.form
          rw [hwl] at e1
          subst e1
          have hwrd := hown.rd.1
          have HI2 := Lib.hid (HI.out.below hb1)
          clear hown hb1 HTL
          go_wp2_with (go_at_call 28; refine (rEncode_any A1 m c1 p (wordP P k) wr hwrd (by omega) (by omega)).mono ?_; rintro e w2 ⟨A2, c2, wd, rfl, ho2, hen, hb2⟩; obtain ⟨gc, rfl⟩ := ho2.head (by omega); obtain ⟨L0, hL0, hJ0⟩ := HI2.out.enter hb2 ho2; have HJ0 := Lib.hid hJ0; have HL0 := Lib.hid hL0; have HEN := Lib.hid hen; clear hJ0 hL0 hen ho2 hb2)
          clear hwrd
          go_loopw [10] (fun i wr => ∃ j : Nat, j ≤ p ∧ i = .int .i64 j ∧ RJ w wr o p m P k j wd L0 gc c2) (fun i _ => p - (intOf i).toNat)
          case atStart => exact ⟨0, Nat.zero_le _, rfl, HJ0.out⟩
          case round =>
            obtain ⟨j, hj, rfl, hJ⟩ := hrel
            obtain ⟨hv, L, hM, hE, hA⟩ := hJ.M
            obtain ⟨BC, hC⟩ := hJ.C
            by_cases hlt : j < p
            · have hS := hJ.S
              have hLl : L.length = p := hE.1
              have hrow := hM.cellAt (i := j) (by omega)
              have hcd := hC.cellAt (i := m + j) (by omega)
              have hbg := (own_lt hC (rfl : Value.ownBlock (.slice (some ⟨gc, 0, none⟩) (m + p) c2) = some gc)).2
              have HROW := Lib.hid (hM.row j (by omega))
              have HJJ := Lib.hid hJ
              have HM2 := Lib.hid hM
              have HE := Lib.hid hE
              have HA := Lib.hid hA
              have HLL := Lib.hid hLl
              have hll : (L.getD j []).length ≤ 384 := by
                rw [hE.2 j hlt, if_neg (Nat.lt_irrefl j), (HL0.out.2 j hlt).1]; omega
              clear hJ hM hE hA hC hLl
              generalize hrv : hv.getD j undef = rv at *
              generalize hyy : wd.getD (m + j) 0 = y at *
              have HRV := Lib.hid hrv
              have HYY := Lib.hid hyy
              clear hrv hyy
              go_wp2
              (apply wp_region_free [0, 1] [2, 3, 4, 5, 6, 7, 8, 9, 10, 11, 12] [13] [14, 15, 16] (by kernel_rfl) (by kernel_rfl) (by kernel_rfl); (case hq0 => (intro z; simp only [pick, List.getElem?_cons_succ, List.getElem?_cons_zero]; (repeat (go_big_quiet_step (fail))); refine wpQuiet_nil ?_; exact rfl)); (case hd => kernel_rfl); (case hq => (intro z hz; simp only [pick, List.getElem?_cons_succ, List.getElem?_cons_zero]; (have hx3 := fun x => cell_extz hz hS hrow x; have hx4 := fun x => cell_extz hz hbg hcd x); (repeat (go_big_quiet_step ((fail)))); refine wpQuiet_nil ?_; exact rfl)); (case' hc => (simp only [pick, List.getElem?_cons_succ, List.getElem?_cons_zero]; intro W5 hW5; simp only [chainJ, chainK])))
              go_wp2
              refine ⟨below_new _ _, fun W6 hW6 => ?_⟩
              have hb6 : Below wr.heap.size wr W6 := Bw.step (Bw.al hW5 _) hW6
              have hJ6 := HJJ.out.below hb6
              have hM6 := HM2.out.below hb6
              have hS6 := hJ6.S
              have hro6 := HROW.out.below hb6
              have hone := (RdB.one W5 y 5 1).below hW6
              have hfz6 := hM6.frozenAt j
              have hce6 := hM6.cellAt (i := j) (by have := HLL.out; omega)
              rw [HRV.out] at hce6
              have hz6 : w.heap.size ≤ W6.heap.size := hJ6.B.size
              have hfar := hM6.far j (by have := HLL.out; omega)
              rw [HRV.out] at hfar
              have key7 : ∀ v1 w1, OwB w1 w.heap.size v1 (L.getD j [] ++ [y]) → W6.grownBy w1 rv.ownBlock → (v1.ownBlock = rv.ownBlock ∨ v1.ownBlock = some W6.heap.size) → w1.cell? ⟨o, j, none⟩ = some rv ∧ w1.frozen? ⟨o, j, none⟩ = false ∧ RJ w (w1.setCell ⟨o, j, none⟩ v1) o p m P k (j + 1) wd L0 gc c2 := fun v1 w1 ho1 hg1 hat1 => by
                have hne : some o ≠ rv.ownBlock := fun e => by
                  rcases hfar with h | h
                  · rw [h] at e; cases e
                  · exact h e.symm
                have hk1 := hg1.block o hS6 hne
                exact ⟨(World.cell?_of_block (a := ⟨o, j, none⟩) hk1).trans hce6, (World.frozen?_of_block (a := ⟨o, j, none⟩) hk1).trans hfz6, hJ6.step (by rw [HO.out]; exact Nat.le_refl _) hM6 HE.out HA.out hlt (by rw [hPm, HYY.out]; exact ho1) (by rw [HRV.out]; exact hg1) (by rw [HRV.out]; exact hat1)⟩
              have HK7 := Lib.hid key7
              clear key7 hce6 hfz6 hJ6 hM6 hb6 hfar hW5 hW6 hrow hcd
              go_wp2_with (at_builtin; refine wpList_appB W6 rfl (.tmp 50) (.tmp 58) rfl w.heap.size rv (L.getD j []) rfl hro6 _ 1 1 [y] rfl hone (by rw [List.length_singleton]; omega) (by omega) ?_; intro v1 w1 ho1 hg1 hat1; obtain ⟨hce1, hfz1, hJ7⟩ := HK7.out v1 w1 ho1 hg1 hat1; obtain ⟨A7, c7, rfl⟩ := ho1.form; generalize (L.getD j [] ++ [y]).length = n7 at *; have HJ7 := Lib.hid hJ7; clear hat1 hg1 ho1 hJ7)
              go_roundw
              case rel => exact ⟨j + 1, by omega, by go_num, HJ7.out⟩
              case measure => simp [intOf]; omega
            · obtain rfl : p = j := by omega
              have HI3 := Lib.hid (hJ.leave HL0.out HEN.out (by omega))
              clear hJ hM hE hA hC
              go_wp2
              go_roundw
              case rel => first | exact ⟨k + 1, by omega, by go_num, HI3.out⟩ | ((repeat apply Exists.intro); exact ⟨⟨k + 1, by omega, by go_num, HI3.out⟩, rfl⟩)
              case measure => simp [intOf]; omega
    · obtain rfl : n = k := by omega
      obtain ⟨hv, L, q1, q2⟩ := HI.out.M
      have q3 := HI.out.B
      rw [q2.1] at q1
      have HQ := Lib.hid (And.intro q1 (And.intro q2 q3))
      clear q1 q2 q3
      go_wp2
      go_ret
      first | exact ⟨_, _, hv, L, rfl, HQ.out.1, HQ.out.2.1, HQ.out.2.2⟩ | exact ⟨_, _, rfl, hv, L, HQ.out.1, HQ.out.2.1, HQ.out.2.2⟩ | exact ⟨_, _, rfl, hv, ⟨L, HQ.out.1, HQ.out.2.1⟩, HQ.out.2.2⟩ | exact ⟨_, _, rfl, ⟨hv, L, HQ.out.1, HQ.out.2.1⟩, HQ.out.2.2⟩ | trace_state
end Go.Proofs.Ytcinfkmekkdhfaa
