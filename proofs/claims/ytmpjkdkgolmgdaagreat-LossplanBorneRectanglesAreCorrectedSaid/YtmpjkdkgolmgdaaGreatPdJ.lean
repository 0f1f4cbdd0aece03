/- Product codes: the walk of a decoder's results. -/
import Derived.Test.YtmpjkdkgolmgdaaGreatPdI
import Derived.Test.YtmpjkdkgolmgdaaGreatMf
namespace Go.Proofs.YtmpjkdkgolmgdaaGreat
open Go.RowKit
set_option linter.unusedVariables false

theorem goneB_al {m : List Bool} {i : Nat} : goneB true m i = true := rfl
theorem goneB_mk {m : List Bool} {i : Nat} {t : Bool} (h : m.getD i false = t) : goneB false m i = t := by unfold goneB; rw [h]; rfl
theorem fix_gone {al : Bool} {code b : List GF} {m : List Bool} {i n : Nat} (h : goneB al m i = true) : fixN al code b m i n = n := by unfold fixN; rw [if_neg (fun h' => by rw [h] at h'; cases h'.1)]
theorem fix_diff {al : Bool} {code b : List GF} {m : List Bool} {i n : Nat} (h : goneB al m i = false) (hd : b.getD i 0 ≠ code.getD i 0) : fixN al code b m i n = n + 1 := by unfold fixN; rw [if_pos ⟨h, hd⟩]
theorem fix_same {al : Bool} {code b : List GF} {m : List Bool} {i n : Nat} (hd : b.getD i 0 = code.getD i 0) : fixN al code b m i n = n := by unfold fixN; rw [if_neg (fun h' => h'.2 hd)]
theorem inD_yes {R C p q i : Nat} (h1 : i / C < R - q) (h2 : i % C < C - p) : inData R C p q i = true := by unfold inData; rw [decide_eq_true h1, decide_eq_true h2]; rfl
theorem inD_row {R C p q i : Nat} (h1 : ¬ i / C < R - q) : inData R C p q i = false := by unfold inData; rw [decide_eq_false h1]; rfl
theorem inD_col {R C p q i : Nat} (h2 : ¬ i % C < C - p) : inData R C p q i = false := by unfold inData; rw [decide_eq_false h2, Bool.and_false]
theorem lost_len {R C p q : Nat} (hC : 0 < C) (hp : p ≤ C) (al : Bool) (code b : List GF) (m : List Bool) : ∀ i, (resN R C p q al code b m i).lost.length ≤ i ∧ (resN R C p q al code b m i).data.length ≤ i := by
  intro i
  induction i with
  | zero => exact ⟨Nat.le_refl _, Nat.le_refl _⟩
  | succ i ih =>
    cases hd : inData R C p q i with
    | true =>
      cases hg : goneB al m i with
      | true => rw [res_gone hd hg]; simp only [List.length_append, List.length_singleton]; omega
      | false => rw [res_kept hd hg]; simp only [List.length_append, List.length_singleton]; omega
    | false => rw [res_out hd]; exact ⟨Nat.le_succ_of_le ih.1, Nat.le_succ_of_le ih.2⟩
theorem OwB.base {w : World} {B B' : Nat} {v : Value} {l : List GF} (h : OwB w B v l) (hB : B' ≤ B) : OwB w B' v l := own_base h hB
theorem OwT.base {w : World} {B B' : Nat} {v : Value} {l : List Bool} (h : OwT w B v l) (hB : B' ≤ B) : OwT w B' v l := own_base h hB
structure RsR (w wr : World) (y g1 g2 n c1 c2 ca : Nat) (R C p q : Nat) (A : Option Addr) (code b : List GF) (m : List Bool) : Prop where
  v : S6 wr y R C p q (.slice (some ⟨g1, 0, none⟩) n c1) (.slice (some ⟨g2, 0, none⟩) n c2)
  b : OwB wr 0 (.slice (some ⟨g1, 0, none⟩) n c1) b
  m : OwT wr 0 (.slice (some ⟨g2, 0, none⟩) n c2) m
  c : RdB wr A n code
  bw : Below w.heap.size w wr
theorem RsR.below {w wr wr' : World} {y g1 g2 n c1 c2 ca R C p q : Nat} {A : Option Addr} {code b : List GF} {m : List Bool} (r : RsR w wr y g1 g2 n c1 c2 ca R C p q A code b m) (hb : Below wr.heap.size wr wr') : RsR w wr' y g1 g2 n c1 c2 ca R C p q A code b m :=
  ⟨r.v.below hb, r.b.below hb, r.m.below hb, r.c.below hb, Bw.step r.bw hb⟩
theorem RdB.underg {w w' : World} {A : Option Addr} {n B : Nat} {l : List GF} (h : RdB w A n l) (hb : Below B w w') (hA : ∀ b o, A = some ⟨b, o, none⟩ → b < B) : RdB w' A n l :=
  ⟨h.1, fun hn => by
    obtain ⟨b, off, e, hlt, hc⟩ := h.2 hn
    exact ⟨b, off, e, Nat.lt_of_lt_of_le hlt hb.size, fun i hi => (hb.cell (p := ⟨b, off + i, none⟩) (hA b off e)).trans (hc i hi)⟩⟩
theorem RsR.under {w wr wr' : World} {y g1 g2 n c1 c2 ca R C p q B : Nat} {A : Option Addr} {code b : List GF} {m : List Bool} (r : RsR w wr y g1 g2 n c1 c2 ca R C p q A code b m) (hb : Below B wr wr') (hy : y < B) (h1 : g1 < B) (h2 : g2 < B) (hA : ∀ b o, A = some ⟨b, o, none⟩ → b < B) (hw : w.heap.size ≤ B) : RsR w wr' y g1 g2 n c1 c2 ca R C p q A code b m :=
  ⟨r.v.under hb hy, r.b.underg hb h1, r.m.under hb h2, r.c.underg hb hA, r.bw.trans (hb.mono hw)⟩
set_option maxRecDepth 100000 in
set_option maxHeartbeats 16000000 in
theorem results_r1 (rb0 : Bool) (R C p q B1 B2 g1 g2 n c1 c2 ca : Nat) (A : Option Addr) (code b : List GF) (m : List Bool) (w : World) (hb : OwB w B1 (.slice (some ⟨g1, 0, none⟩) n c1) b) (hm : OwT w B2 (.slice (some ⟨g2, 0, none⟩) n c2) m) (hc : RdB w A n code)
    (hn : n = R * C) (h1 : 1 ≤ R) (h2 : R ≤ 32) (h3 : 1 ≤ C) (h4 : C ≤ 32) (h5 : p < C) (h6 : q < R) (hdm : dirtyB m = true) (hrb : rightB R C p b = rb0) :
    Calls Tryz.prog 40 #[decV R C p q (.slice (some ⟨g1, 0, none⟩) n c1) (.slice (some ⟨g2, 0, none⟩) n c2), .slice A n ca] w fun e w' => ∃ A1 d1 A2 d2, e = .returned (.tuple #[.slice A1 (resN R C p q (allLostB R C p (b, m)) code b m n).data.length d1, .slice A2 (resN R C p q (allLostB R C p (b, m)) code b m n).lost.length d2, .int .i64 ((resN R C p q (allLostB R C p (b, m)) code b m n).fixed : Nat)]) ∧
      OwB w' w.heap.size (.slice A1 (resN R C p q (allLostB R C p (b, m)) code b m n).data.length d1) (resN R C p q (allLostB R C p (b, m)) code b m n).data ∧
      OwI w' w.heap.size (.slice A2 (resN R C p q (allLostB R C p (b, m)) code b m n).lost.length d2) (toI (resN R C p q (allLostB R C p (b, m)) code b m n).lost) ∧ Below w.heap.size w w' := by
  have hN : n ≤ 1024 := by have := (mul32 h2 h4).2; rw [← Int.natCast_mul, ← hn] at this; omega
  have hn1 : 1 ≤ n := by rw [hn]; exact Nat.mul_pos h1 h3
  have HN := Lib.hid hn
  have hg1 := hb.lt.2
  have hg2 := hm.lt.2
  obtain ⟨bc, oc, rfl, hbc, _⟩ := hc.2 hn1
  have R0 : RsR w (w.alloc (decC R C p q (.slice (some ⟨g1, 0, none⟩) n c1) (.slice (some ⟨g2, 0, none⟩) n c2))) w.heap.size g1 g2 n c1 c2 ca R C p q (some ⟨bc, oc, none⟩) code b m :=
    ⟨S6.new w R C p q _ _, (hb.base (Nat.zero_le _)).below (below_new _ _), (hm.base (Nat.zero_le _)).below (below_new _ _), hc.al _, below_new _ _⟩
  have HALV : Hid (allLostB R C p (b, m) = false) := Lib.hid (by show (!dirtyB m && !rightB R C p b) = _; rw [hdm, hrb]; rfl)
  have HCT := Lib.hid (fun W (h : OwT W 0 (.slice (some ⟨g2, 0, none⟩) n c2) m) => containsT_any 0 g2 n c2 m W h hN)
  have HRR := Lib.hid (fun W (h : OwB W 0 (.slice (some ⟨g1, 0, none⟩) n c1) b) => rowsRight_any (some ⟨g1, 0, none⟩) n c1 R C p q b W h.rd.1 hn h2 h4 h5)
  rw [hdm] at HCT
  rw [hrb] at HRR
  generalize allLostB R C p (b, m) = al at *
  have HLL := Lib.hid (lost_len (R := R) (q := q) h3 (Nat.le_of_lt h5) al code b m)
  have HFX := Lib.hid (res_fixed R C p q al code b m)
  have hz1 : w.heap.size + 1 ≤ (w.alloc (decC R C p q (.slice (some ⟨g1, 0, none⟩) n c1) (.slice (some ⟨g2, 0, none⟩) n c2))).heap.size := by rw [World.size_alloc]; exact Nat.le_refl _
  clear hb hm hc hn hdm hrb
  go_enter Tryz.func40, Tryz.ntmps40
  go_wp2_with fail
  generalize w.alloc (decC R C p q (.slice (some ⟨g1, 0, none⟩) n c1) (.slice (some ⟨g2, 0, none⟩) n c2)) = W0 at *
  refine (HCT.out _ R0.m).mono ?_
  rintro e w' ⟨rfl, rfl⟩
  obtain ⟨⟨⟨ls, s0, s1, s2, s3⟩, s4⟩, s5⟩ := id R0.v
  go_wp2_with fail
  have HNX : ∃ W1 : World, RsR w W1 w.heap.size g1 g2 n c1 c2 ca R C p q (some ⟨bc, oc, none⟩) code b m ∧ w.heap.size + 1 ≤ W1.heap.size := ⟨_, R0, hz1⟩
  clear HNX
  first
    | (refine (HRR.out _ R0.b).mono ?_
       rintro e W1 ⟨rfl, hb1⟩
       have R1 := R0.below hb1
       have hz2 := Nat.le_trans hz1 hb1.size
       clear ls s0 s1 s2 s3 s4 s5
       obtain ⟨⟨⟨ls, s0, s1, s2, s3⟩, s4⟩, s5⟩ := id R1.v
       go_wp2)
    | (have R1 := R0
       have hz2 := hz1)
  have HR1 := Lib.hid R1
  clear R1 R0 HCT HRR ls s0 s1 s2 s3 s4 s5
  go_loopw [8, 9, 10, 28] (fun u8 u9 u10 i wr => ∃ k : Nat, k ≤ n ∧ i = .int .i64 k ∧ OwB wr (w.heap.size + 1) u8 (resN R C p q al code b m k).data ∧ OwI wr (w.heap.size + 1) u9 (toI (resN R C p q al code b m k).lost) ∧ u10 = .int .i64 ((resN R C p q al code b m k).fixed : Nat) ∧ Apt u8 u9 ∧ RsR w wr w.heap.size g1 g2 n c1 c2 ca R C p q (some ⟨bc, oc, none⟩) code b m ∧ w.heap.size + 1 ≤ wr.heap.size) (fun _ _ _ i _ => n - (intOf i).toNat)
  case atStart => exact ⟨0, Nat.zero_le _, rfl, OwB.nil _ _, OwI.nil _ _, rfl, .inl rfl, HR1.out, hz2⟩
  case round =>
    obtain ⟨k, hk, rfl, hd, hl, rfl, hap, hR, hsz⟩ := hrel
    by_cases hlt : k < n
    · have HD := Lib.hid hd
      have HL := Lib.hid hl
      have HAP := Lib.hid hap
      have HR := Lib.hid hR
      obtain ⟨A8, e8, rfl⟩ := hd.form
      obtain ⟨A9, e9, rfl⟩ := hl.form
      obtain ⟨hll, hdl⟩ := HLL.out k
      have hfx := HFX.out k
      have hlt' : (toI (resN R C p q al code b m k).lost).length ≤ 1024 := by rw [toI_len]; omega
      have hdt : (resN R C p q al code b m k).data.length ≤ 1024 := by omega
      have hcb := hR.b.cellAt (i := k) hlt
      have hcm := hR.m.cellAt (i := k) hlt
      obtain ⟨b', o', e', hlb', hcc⟩ := hR.c.2 hn1
      cases e'
      have hcd := hcc k hlt
      have hcl : bc < wr.heap.size := hlb'
      obtain ⟨⟨⟨ls, s0, s1, s2, s3⟩, s4⟩, s5⟩ := id hR.v
      have hq := place_of (R := R) (C := C) (i := k) (by rw [← HN.out]; exact hlt)
      have kd1 : ((k : Int)).tdiv (C : Int) = ((k / C : Nat) : Int) := by rw [Int.tdiv_eq_ediv_of_nonneg (by omega)]; rfl
      have kd2 : ((k : Int)) / (C : Int) = ((k / C : Nat) : Int) := rfl
      have km1 : ((k : Int)).tmod (C : Int) = ((k % C : Nat) : Int) := by rw [Int.tmod_eq_emod_of_nonneg (by omega)]; rfl
      have km2 : ((k : Int)) % (C : Int) = ((k % C : Nat) : Int) := rfl
      have wt1 : (R : Int) - q = ((R - q : Nat) : Int) := by omega
      have wt2 : IntKind.i64.wrap ((R : Int) - q) = ((R - q : Nat) : Int) := by rw [IntWalk.i64_in _ (by omega)]; exact wt1
      have ws1 : (C : Int) - p = ((C - p : Nat) : Int) := by omega
      have ws2 : IntKind.i64.wrap ((C : Int) - p) = ((C - p : Nat) : Int) := by rw [IntWalk.i64_in _ (by omega)]; exact ws1
      have HOUT := Lib.hid (fun h => res_out (R := R) (C := C) (p := p) (q := q) (al := al) (code := code) (b := b) (m := m) (i := k) h)
      have HGO := Lib.hid (fun h h' => res_gone (R := R) (C := C) (p := p) (q := q) (al := al) (code := code) (b := b) (m := m) (i := k) h h')
      have HKE := Lib.hid (fun h h' => res_kept (R := R) (C := C) (p := p) (q := q) (al := al) (code := code) (b := b) (m := m) (i := k) h h')
      clear hd hl hap hR hcc HR1
      have hcz : ((C : Int) == 0) = false := by rw [beq_eq_false_iff_ne]; omega
      have hbd : b.getD k 0 = code.getD k 0 ∨ b.getD k 0 ≠ code.getD k 0 := Classical.em _
      have HINR := Lib.hid (inD_row (R := R) (C := C) (p := p) (q := q) (i := k))
      have HINC := Lib.hid (inD_col (R := R) (C := C) (p := p) (q := q) (i := k))
      have HINY := Lib.hid (inD_yes (R := R) (C := C) (p := p) (q := q) (i := k))
      have hK1 : k / C ≤ 1024 := Nat.le_trans (Nat.div_le_self _ _) (by omega)
      have hK2 : k % C ≤ 1024 := Nat.le_trans (Nat.mod_le _ _) (by omega)
      clear hq
      generalize k / C = K1 at *
      generalize k % C = K2 at *
      generalize hHd : R - q = Hd at *
      generalize hWd : C - p = Wd at *
      have hHb : Hd ≤ 32 := by omega
      have hWb : Wd ≤ 32 := by omega
      clear hHd hWd
      have hplace : (¬ K1 < Hd ∧ decide (Hd ≤ K1) = true) ∨ (K1 < Hd ∧ ¬ K2 < Wd ∧ decide (Hd ≤ K1) = false ∧ decide (Wd ≤ K2) = true) ∨
          (K1 < Hd ∧ K2 < Wd ∧ decide (Hd ≤ K1) = false ∧ decide (Wd ≤ K2) = false) := by
        by_cases i1 : K1 < Hd
        · by_cases i2 : K2 < Wd
          · exact .inr (.inr ⟨i1, i2, decide_eq_false (by omega), decide_eq_false (by omega)⟩)
          · exact .inr (.inl ⟨i1, i2, decide_eq_false (by omega), decide_eq_true (by omega)⟩)
        · exact .inl ⟨i1, decide_eq_true (by omega)⟩
      have hx0 := fun (x : Ext wr) => (HR.out.v.below x.below).1.1.2.1
      have hx1 := fun (x : Ext wr) => (HR.out.v.below x.below).1.1.2.2.1
      have hx2 := fun (x : Ext wr) => (HR.out.v.below x.below).1.1.2.2.2.1
      have hx3 := fun (x : Ext wr) => (HR.out.v.below x.below).1.1.2.2.2.2
      have HPL := Lib.hid hplace
      clear hplace
      have HAPB : Hid (∀ W, Below (w.heap.size + 1) wr W → RsR w W w.heap.size g1 g2 n c1 c2 ca R C p q (some ⟨bc, oc, none⟩) code b m) := Lib.hid fun W hW => HR.out.under hW (Nat.lt_succ_self _) (by omega) (by omega) (fun b o e => by cases e; omega) (Nat.le_succ _)
      cases hg : goneB al m k with
      | true =>
        have HG := Lib.hid hg
        have HFI := Lib.hid (fix_gone (code := code) (b := b) (n := (resN R C p q al code b m k).fixed) hg)
        try (have hmk : m.getD k false = true := (by have h9 := hg; rw [HALV.out] at h9; exact h9); rw [hmk] at hcm; clear hmk)
        clear hg hbd
        generalize b.getD k 0 = bb at *
        generalize code.getD k 0 = dd at *
        rcases HPL.out with ⟨i1, x1⟩ | ⟨i1, i2, x1, x2⟩ | ⟨i1, i2, x1, x2⟩
        · have HRES := Lib.hid (HOUT.out (HINR.out i1))
          go_wp2
          (refine wp_region_ext (by kernel_rfl) (by kernel_rfl) ?_; (repeat (go_big_quiet_step ((fail)))); refine wpQuiet_nil ?_; intro W5 hw'; have hW5 := ext_below hw'; clear hw')
          have hsz5 : w.heap.size + 1 ≤ W5.heap.size := Nat.le_trans hsz hW5.size
          have HB5 := Lib.hid (hW5.mono hsz)
          have HD5 := Lib.hid (HD.out.below hW5)
          have HL5 := Lib.hid (own_below HL.out hW5)
          clear hW5 hx0 hx1 hx2 hx3
          go_wp2
          go_roundw
          case rel => first | exact ⟨k + 1, by omega, by go_num, by (rw [HRES.out]; exact HD5.out), by (rw [HRES.out]; exact HL5.out), by (rw [HRES.out]; refine Eq.trans ?_ (congrArg (fun n : Nat => Value.int .i64 (n : Int)) HFI.out).symm; first | rfl | go_num), HAP.out, HAPB.out _ HB5.out, hsz5⟩ | ((repeat apply Exists.intro); exact ⟨⟨k + 1, by omega, by go_num, by (rw [HRES.out]; exact HD5.out), by (rw [HRES.out]; exact HL5.out), by (rw [HRES.out]; refine Eq.trans ?_ (congrArg (fun n : Nat => Value.int .i64 (n : Int)) HFI.out).symm; first | rfl | go_num), HAP.out, HAPB.out _ HB5.out, hsz5⟩, rfl⟩)
          case measure => simp [intOf]; omega
        · have HRES := Lib.hid (HOUT.out (HINC.out i2))
          go_wp2
          (refine wp_region_ext (by kernel_rfl) (by kernel_rfl) ?_; (repeat (go_big_quiet_step ((fail)))); refine wpQuiet_nil ?_; intro W5 hw'; have hW5 := ext_below hw'; clear hw')
          have hsz5 : w.heap.size + 1 ≤ W5.heap.size := Nat.le_trans hsz hW5.size
          have HB5 := Lib.hid (hW5.mono hsz)
          have HD5 := Lib.hid (HD.out.below hW5)
          have HL5 := Lib.hid (own_below HL.out hW5)
          clear hW5 hx0 hx1 hx2 hx3
          go_wp2
          go_roundw
          case rel => first | exact ⟨k + 1, by omega, by go_num, by (rw [HRES.out]; exact HD5.out), by (rw [HRES.out]; exact HL5.out), by (rw [HRES.out]; refine Eq.trans ?_ (congrArg (fun n : Nat => Value.int .i64 (n : Int)) HFI.out).symm; first | rfl | go_num), HAP.out, HAPB.out _ HB5.out, hsz5⟩ | ((repeat apply Exists.intro); exact ⟨⟨k + 1, by omega, by go_num, by (rw [HRES.out]; exact HD5.out), by (rw [HRES.out]; exact HL5.out), by (rw [HRES.out]; refine Eq.trans ?_ (congrArg (fun n : Nat => Value.int .i64 (n : Int)) HFI.out).symm; first | rfl | go_num), HAP.out, HAPB.out _ HB5.out, hsz5⟩, rfl⟩)
          case measure => simp [intOf]; omega
        · have HRES := Lib.hid (HGO.out (HINY.out i1 i2) HG.out)
          go_wp2
          (refine wp_region_ext (by kernel_rfl) (by kernel_rfl) ?_; (repeat (go_big_quiet_step ((fail)))); refine wpQuiet_nil ?_; intro W5 hw'; have hW5 := ext_below hw'; clear hw')
          have hsz5 : w.heap.size + 1 ≤ W5.heap.size := Nat.le_trans hsz hW5.size
          have HB5 := Lib.hid (hW5.mono hsz)
          have HD5 := Lib.hid (HD.out.below hW5)
          have HL5 := Lib.hid (own_below HL.out hW5)
          clear hW5 hx0 hx1 hx2 hx3
          go_wp2_with (first
            | (at_builtin; refine wpList_app1IK W5 rfl (.tmp 88) (.tmp 91) rfl (w.heap.size + 1) _ (toI (resN R C p q al code b m k).lost) HL5.out rfl _ _ rfl (by omega) hsz5 ?_; intro v1 w1 ho1 hb1 hk1)
            | (at_builtin; refine wpList_app1K w1 rfl (.tmp 93) (.tmp 95) rfl (w.heap.size + 1) _ (resN R C p q al code b m k).data (hk1 _ _ _ _ _ _ HD5.out HAP.out).1 rfl 0 _ rfl (by omega) (Nat.le_trans hsz5 hb1.size) ?_; intro v2 w2 ho2 hb2 hk2))
          have HF := Lib.hid (hk2 _ _ _ _ _ _ ho1 (hk1 _ _ _ _ _ _ HD5.out HAP.out).2.symm)
          have HO2 := Lib.hid ho2
          clear ho2 hk2 ho1 hk1
          go_roundw
          case rel => first | exact ⟨k + 1, by omega, by go_num, by (rw [HRES.out]; exact HO2.out), by (rw [HRES.out]; show OwI _ _ _ (toI ((resN R C p q al code b m k).lost ++ [(resN R C p q al code b m k).data.length])); rw [toI_append]; exact HF.out.1), by (rw [HRES.out]; refine Eq.trans ?_ (congrArg (fun n : Nat => Value.int .i64 (n : Int)) HFI.out).symm; first | rfl | go_num), HF.out.2.symm, HAPB.out _ ((HB5.out.trans hb1).trans hb2), Nat.le_trans (Nat.le_trans hsz5 hb1.size) hb2.size⟩ | ((repeat apply Exists.intro); exact ⟨⟨k + 1, by omega, by go_num, by (rw [HRES.out]; exact HO2.out), by (rw [HRES.out]; show OwI _ _ _ (toI ((resN R C p q al code b m k).lost ++ [(resN R C p q al code b m k).data.length])); rw [toI_append]; exact HF.out.1), by (rw [HRES.out]; refine Eq.trans ?_ (congrArg (fun n : Nat => Value.int .i64 (n : Int)) HFI.out).symm; first | rfl | go_num), HF.out.2.symm, HAPB.out _ ((HB5.out.trans hb1).trans hb2), Nat.le_trans (Nat.le_trans hsz5 hb1.size) hb2.size⟩, rfl⟩)
          case measure => simp [intOf]; omega
      | false =>
        first
          | (exfalso; have h9 := hg; rw [HALV.out] at h9; exact Bool.noConfusion (show true = false from h9))
          | skip
        all_goals
          have HG := Lib.hid hg
          have hmk : m.getD k false = false := (by have h9 := hg; rw [HALV.out] at h9; exact h9)
          rw [hmk] at hcm
          clear hmk
          rcases hbd with hbe | hbe
          · have HFI := Lib.hid (fix_same (al := al) (m := m) (n := (resN R C p q al code b m k).fixed) hbe)
            have xz := z_eq hbe
            clear hg hbe
            generalize b.getD k 0 = bb at *
            generalize code.getD k 0 = dd at *
            rcases HPL.out with ⟨i1, x1⟩ | ⟨i1, i2, x1, x2⟩ | ⟨i1, i2, x1, x2⟩
            · have HRES := Lib.hid (HOUT.out (HINR.out i1))
              go_wp2
              (refine wp_region_ext (by kernel_rfl) (by kernel_rfl) ?_; (repeat (go_big_quiet_step ((fail)))); refine wpQuiet_nil ?_; intro W5 hw'; have hW5 := ext_below hw'; clear hw')
              have hsz5 : w.heap.size + 1 ≤ W5.heap.size := Nat.le_trans hsz hW5.size
              have HB5 := Lib.hid (hW5.mono hsz)
              have HD5 := Lib.hid (HD.out.below hW5)
              have HL5 := Lib.hid (own_below HL.out hW5)
              clear hW5 hx0 hx1 hx2 hx3
              go_wp2
              go_roundw
              case rel => first | exact ⟨k + 1, by omega, by go_num, by (rw [HRES.out]; exact HD5.out), by (rw [HRES.out]; exact HL5.out), by (rw [HRES.out]; refine Eq.trans ?_ (congrArg (fun n : Nat => Value.int .i64 (n : Int)) HFI.out).symm; first | rfl | go_num), HAP.out, HAPB.out _ HB5.out, hsz5⟩ | ((repeat apply Exists.intro); exact ⟨⟨k + 1, by omega, by go_num, by (rw [HRES.out]; exact HD5.out), by (rw [HRES.out]; exact HL5.out), by (rw [HRES.out]; refine Eq.trans ?_ (congrArg (fun n : Nat => Value.int .i64 (n : Int)) HFI.out).symm; first | rfl | go_num), HAP.out, HAPB.out _ HB5.out, hsz5⟩, rfl⟩)
              case measure => simp [intOf]; omega
            · have HRES := Lib.hid (HOUT.out (HINC.out i2))
              go_wp2
              (refine wp_region_ext (by kernel_rfl) (by kernel_rfl) ?_; (repeat (go_big_quiet_step ((fail)))); refine wpQuiet_nil ?_; intro W5 hw'; have hW5 := ext_below hw'; clear hw')
              have hsz5 : w.heap.size + 1 ≤ W5.heap.size := Nat.le_trans hsz hW5.size
              have HB5 := Lib.hid (hW5.mono hsz)
              have HD5 := Lib.hid (HD.out.below hW5)
              have HL5 := Lib.hid (own_below HL.out hW5)
              clear hW5 hx0 hx1 hx2 hx3
              go_wp2
              go_roundw
              case rel => first | exact ⟨k + 1, by omega, by go_num, by (rw [HRES.out]; exact HD5.out), by (rw [HRES.out]; exact HL5.out), by (rw [HRES.out]; refine Eq.trans ?_ (congrArg (fun n : Nat => Value.int .i64 (n : Int)) HFI.out).symm; first | rfl | go_num), HAP.out, HAPB.out _ HB5.out, hsz5⟩ | ((repeat apply Exists.intro); exact ⟨⟨k + 1, by omega, by go_num, by (rw [HRES.out]; exact HD5.out), by (rw [HRES.out]; exact HL5.out), by (rw [HRES.out]; refine Eq.trans ?_ (congrArg (fun n : Nat => Value.int .i64 (n : Int)) HFI.out).symm; first | rfl | go_num), HAP.out, HAPB.out _ HB5.out, hsz5⟩, rfl⟩)
              case measure => simp [intOf]; omega
            · have HRES := Lib.hid (HKE.out (HINY.out i1 i2) HG.out)
              go_wp2
              (refine wp_region_ext (by kernel_rfl) (by kernel_rfl) ?_; (repeat (go_big_quiet_step ((fail)))); refine wpQuiet_nil ?_; intro W5 hw'; have hW5 := ext_below hw'; clear hw')
              have hsz5 : w.heap.size + 1 ≤ W5.heap.size := Nat.le_trans hsz hW5.size
              have HB5 := Lib.hid (hW5.mono hsz)
              have HD5 := Lib.hid (HD.out.below hW5)
              have HL5 := Lib.hid (own_below HL.out hW5)
              clear hW5 hx0 hx1 hx2 hx3
              go_wp2_with (at_builtin; refine wpList_app1K W5 rfl (.tmp 93) (.tmp 95) rfl (w.heap.size + 1) _ (resN R C p q al code b m k).data HD5.out rfl bb _ rfl (by omega) hsz5 ?_; intro v2 w2 ho2 hb2 hk2)
              have hf := hk2 _ _ _ _ _ _ HL5.out HAP.out.symm
              have HF := Lib.hid hf
              have HO2 := Lib.hid ho2
              clear hf ho2 hk2
              go_roundw
              case rel => first | exact ⟨k + 1, by omega, by go_num, by (rw [HRES.out]; exact HO2.out), by (rw [HRES.out]; exact HF.out.1), by (rw [HRES.out]; refine Eq.trans ?_ (congrArg (fun n : Nat => Value.int .i64 (n : Int)) HFI.out).symm; first | rfl | go_num), HF.out.2.symm, HAPB.out _ (HB5.out.trans hb2), Nat.le_trans hsz5 hb2.size⟩ | ((repeat apply Exists.intro); exact ⟨⟨k + 1, by omega, by go_num, by (rw [HRES.out]; exact HO2.out), by (rw [HRES.out]; exact HF.out.1), by (rw [HRES.out]; refine Eq.trans ?_ (congrArg (fun n : Nat => Value.int .i64 (n : Int)) HFI.out).symm; first | rfl | go_num), HF.out.2.symm, HAPB.out _ (HB5.out.trans hb2), Nat.le_trans hsz5 hb2.size⟩, rfl⟩)
              case measure => simp [intOf]; omega
          · have HFI := Lib.hid (fix_diff (code := code) (b := b) (n := (resN R C p q al code b m k).fixed) hg hbe)
            have xz := z_ne hbe
            clear hg hbe
            generalize b.getD k 0 = bb at *
            generalize code.getD k 0 = dd at *
            rcases HPL.out with ⟨i1, x1⟩ | ⟨i1, i2, x1, x2⟩ | ⟨i1, i2, x1, x2⟩
            · have HRES := Lib.hid (HOUT.out (HINR.out i1))
              go_wp2
              (refine wp_region_ext (by kernel_rfl) (by kernel_rfl) ?_; (repeat (go_big_quiet_step ((fail)))); refine wpQuiet_nil ?_; intro W5 hw'; have hW5 := ext_below hw'; clear hw')
              have hsz5 : w.heap.size + 1 ≤ W5.heap.size := Nat.le_trans hsz hW5.size
              have HB5 := Lib.hid (hW5.mono hsz)
              have HD5 := Lib.hid (HD.out.below hW5)
              have HL5 := Lib.hid (own_below HL.out hW5)
              clear hW5 hx0 hx1 hx2 hx3
              go_wp2
              go_roundw
              case rel => first | exact ⟨k + 1, by omega, by go_num, by (rw [HRES.out]; exact HD5.out), by (rw [HRES.out]; exact HL5.out), by (rw [HRES.out]; refine Eq.trans ?_ (congrArg (fun n : Nat => Value.int .i64 (n : Int)) HFI.out).symm; first | rfl | go_num), HAP.out, HAPB.out _ HB5.out, hsz5⟩ | ((repeat apply Exists.intro); exact ⟨⟨k + 1, by omega, by go_num, by (rw [HRES.out]; exact HD5.out), by (rw [HRES.out]; exact HL5.out), by (rw [HRES.out]; refine Eq.trans ?_ (congrArg (fun n : Nat => Value.int .i64 (n : Int)) HFI.out).symm; first | rfl | go_num), HAP.out, HAPB.out _ HB5.out, hsz5⟩, rfl⟩)
              case measure => simp [intOf]; omega
            · have HRES := Lib.hid (HOUT.out (HINC.out i2))
              go_wp2
              (refine wp_region_ext (by kernel_rfl) (by kernel_rfl) ?_; (repeat (go_big_quiet_step ((fail)))); refine wpQuiet_nil ?_; intro W5 hw'; have hW5 := ext_below hw'; clear hw')
              have hsz5 : w.heap.size + 1 ≤ W5.heap.size := Nat.le_trans hsz hW5.size
              have HB5 := Lib.hid (hW5.mono hsz)
              have HD5 := Lib.hid (HD.out.below hW5)
              have HL5 := Lib.hid (own_below HL.out hW5)
              clear hW5 hx0 hx1 hx2 hx3
              go_wp2
              go_roundw
              case rel => first | exact ⟨k + 1, by omega, by go_num, by (rw [HRES.out]; exact HD5.out), by (rw [HRES.out]; exact HL5.out), by (rw [HRES.out]; refine Eq.trans ?_ (congrArg (fun n : Nat => Value.int .i64 (n : Int)) HFI.out).symm; first | rfl | go_num), HAP.out, HAPB.out _ HB5.out, hsz5⟩ | ((repeat apply Exists.intro); exact ⟨⟨k + 1, by omega, by go_num, by (rw [HRES.out]; exact HD5.out), by (rw [HRES.out]; exact HL5.out), by (rw [HRES.out]; refine Eq.trans ?_ (congrArg (fun n : Nat => Value.int .i64 (n : Int)) HFI.out).symm; first | rfl | go_num), HAP.out, HAPB.out _ HB5.out, hsz5⟩, rfl⟩)
              case measure => simp [intOf]; omega
            · have HRES := Lib.hid (HKE.out (HINY.out i1 i2) HG.out)
              go_wp2
              (refine wp_region_ext (by kernel_rfl) (by kernel_rfl) ?_; (repeat (go_big_quiet_step ((fail)))); refine wpQuiet_nil ?_; intro W5 hw'; have hW5 := ext_below hw'; clear hw')
              have hsz5 : w.heap.size + 1 ≤ W5.heap.size := Nat.le_trans hsz hW5.size
              have HB5 := Lib.hid (hW5.mono hsz)
              have HD5 := Lib.hid (HD.out.below hW5)
              have HL5 := Lib.hid (own_below HL.out hW5)
              clear hW5 hx0 hx1 hx2 hx3
              go_wp2_with (at_builtin; refine wpList_app1K W5 rfl (.tmp 93) (.tmp 95) rfl (w.heap.size + 1) _ (resN R C p q al code b m k).data HD5.out rfl bb _ rfl (by omega) hsz5 ?_; intro v2 w2 ho2 hb2 hk2)
              have hf := hk2 _ _ _ _ _ _ HL5.out HAP.out.symm
              have HF := Lib.hid hf
              have HO2 := Lib.hid ho2
              clear hf ho2 hk2
              go_roundw
              case rel => first | exact ⟨k + 1, by omega, by go_num, by (rw [HRES.out]; exact HO2.out), by (rw [HRES.out]; exact HF.out.1), by (rw [HRES.out]; refine Eq.trans ?_ (congrArg (fun n : Nat => Value.int .i64 (n : Int)) HFI.out).symm; first | rfl | go_num), HF.out.2.symm, HAPB.out _ (HB5.out.trans hb2), Nat.le_trans hsz5 hb2.size⟩ | ((repeat apply Exists.intro); exact ⟨⟨k + 1, by omega, by go_num, by (rw [HRES.out]; exact HO2.out), by (rw [HRES.out]; exact HF.out.1), by (rw [HRES.out]; refine Eq.trans ?_ (congrArg (fun n : Nat => Value.int .i64 (n : Int)) HFI.out).symm; first | rfl | go_num), HF.out.2.symm, HAPB.out _ (HB5.out.trans hb2), Nat.le_trans hsz5 hb2.size⟩, rfl⟩)
              case measure => simp [intOf]; omega
    · obtain rfl : k = n := by omega
      obtain ⟨A8, e8, rfl⟩ := hd.form
      obtain ⟨A9, e9, rfl⟩ := hl.form
      rw [toI_len] at hl
      have hbw := hR.bw
      rw [toI_len]
      clear HR1
      go_wp2
      exact bodyPost_ret (v := .tuple #[.slice A8 (resN R C p q al code b m k).data.length e8, .slice A9 (resN R C p q al code b m k).lost.length e9, .int .i64 ((resN R C p q al code b m k).fixed : Nat)]) (by simp [results, Tryz.results40, go_sem]) rfl ⟨A8, e8, A9, e9, rfl, hd.base (Nat.le_succ _), own_base hl (Nat.le_succ _), hbw⟩
set_option maxRecDepth 100000 in
set_option maxHeartbeats 16000000 in
theorem results_r01 (rb0 : Bool) (R C p q B1 B2 g1 g2 n c1 c2 ca : Nat) (A : Option Addr) (code b : List GF) (m : List Bool) (w : World) (hb : OwB w B1 (.slice (some ⟨g1, 0, none⟩) n c1) b) (hm : OwT w B2 (.slice (some ⟨g2, 0, none⟩) n c2) m) (hc : RdB w A n code)
    (hn : n = R * C) (h1 : 1 ≤ R) (h2 : R ≤ 32) (h3 : 1 ≤ C) (h4 : C ≤ 32) (h5 : p < C) (h6 : q < R) (hdm : dirtyB m = false) (hrb : rightB R C p b = true) :
    Calls Tryz.prog 40 #[decV R C p q (.slice (some ⟨g1, 0, none⟩) n c1) (.slice (some ⟨g2, 0, none⟩) n c2), .slice A n ca] w fun e w' => ∃ A1 d1 A2 d2, e = .returned (.tuple #[.slice A1 (resN R C p q (allLostB R C p (b, m)) code b m n).data.length d1, .slice A2 (resN R C p q (allLostB R C p (b, m)) code b m n).lost.length d2, .int .i64 ((resN R C p q (allLostB R C p (b, m)) code b m n).fixed : Nat)]) ∧
      OwB w' w.heap.size (.slice A1 (resN R C p q (allLostB R C p (b, m)) code b m n).data.length d1) (resN R C p q (allLostB R C p (b, m)) code b m n).data ∧
      OwI w' w.heap.size (.slice A2 (resN R C p q (allLostB R C p (b, m)) code b m n).lost.length d2) (toI (resN R C p q (allLostB R C p (b, m)) code b m n).lost) ∧ Below w.heap.size w w' := by
  have hN : n ≤ 1024 := by have := (mul32 h2 h4).2; rw [← Int.natCast_mul, ← hn] at this; omega
  have hn1 : 1 ≤ n := by rw [hn]; exact Nat.mul_pos h1 h3
  have HN := Lib.hid hn
  have hg1 := hb.lt.2
  have hg2 := hm.lt.2
  obtain ⟨bc, oc, rfl, hbc, _⟩ := hc.2 hn1
  have R0 : RsR w (w.alloc (decC R C p q (.slice (some ⟨g1, 0, none⟩) n c1) (.slice (some ⟨g2, 0, none⟩) n c2))) w.heap.size g1 g2 n c1 c2 ca R C p q (some ⟨bc, oc, none⟩) code b m :=
    ⟨S6.new w R C p q _ _, (hb.base (Nat.zero_le _)).below (below_new _ _), (hm.base (Nat.zero_le _)).below (below_new _ _), hc.al _, below_new _ _⟩
  have HALV : Hid (allLostB R C p (b, m) = false) := Lib.hid (by show (!dirtyB m && !rightB R C p b) = _; rw [hdm, hrb]; rfl)
  have HCT := Lib.hid (fun W (h : OwT W 0 (.slice (some ⟨g2, 0, none⟩) n c2) m) => containsT_any 0 g2 n c2 m W h hN)
  have HRR := Lib.hid (fun W (h : OwB W 0 (.slice (some ⟨g1, 0, none⟩) n c1) b) => rowsRight_any (some ⟨g1, 0, none⟩) n c1 R C p q b W h.rd.1 hn h2 h4 h5)
  rw [hdm] at HCT
  rw [hrb] at HRR
  generalize allLostB R C p (b, m) = al at *
  have HLL := Lib.hid (lost_len (R := R) (q := q) h3 (Nat.le_of_lt h5) al code b m)
  have HFX := Lib.hid (res_fixed R C p q al code b m)
  have hz1 : w.heap.size + 1 ≤ (w.alloc (decC R C p q (.slice (some ⟨g1, 0, none⟩) n c1) (.slice (some ⟨g2, 0, none⟩) n c2))).heap.size := by rw [World.size_alloc]; exact Nat.le_refl _
  clear hb hm hc hn hdm hrb
  go_enter Tryz.func40, Tryz.ntmps40
  go_wp2_with fail
  generalize w.alloc (decC R C p q (.slice (some ⟨g1, 0, none⟩) n c1) (.slice (some ⟨g2, 0, none⟩) n c2)) = W0 at *
  refine (HCT.out _ R0.m).mono ?_
  rintro e w' ⟨rfl, rfl⟩
  obtain ⟨⟨⟨ls, s0, s1, s2, s3⟩, s4⟩, s5⟩ := id R0.v
  go_wp2_with fail
  have HNX : ∃ W1 : World, RsR w W1 w.heap.size g1 g2 n c1 c2 ca R C p q (some ⟨bc, oc, none⟩) code b m ∧ w.heap.size + 1 ≤ W1.heap.size := ⟨_, R0, hz1⟩
  clear HNX
  first
    | (refine (HRR.out _ R0.b).mono ?_
       rintro e W1 ⟨rfl, hb1⟩
       have R1 := R0.below hb1
       have hz2 := Nat.le_trans hz1 hb1.size
       clear ls s0 s1 s2 s3 s4 s5
       obtain ⟨⟨⟨ls, s0, s1, s2, s3⟩, s4⟩, s5⟩ := id R1.v
       go_wp2)
    | (have R1 := R0
       have hz2 := hz1)
  have HR1 := Lib.hid R1
  clear R1 R0 HCT HRR ls s0 s1 s2 s3 s4 s5
  go_loopw [8, 9, 10, 28] (fun u8 u9 u10 i wr => ∃ k : Nat, k ≤ n ∧ i = .int .i64 k ∧ OwB wr (w.heap.size + 1) u8 (resN R C p q al code b m k).data ∧ OwI wr (w.heap.size + 1) u9 (toI (resN R C p q al code b m k).lost) ∧ u10 = .int .i64 ((resN R C p q al code b m k).fixed : Nat) ∧ Apt u8 u9 ∧ RsR w wr w.heap.size g1 g2 n c1 c2 ca R C p q (some ⟨bc, oc, none⟩) code b m ∧ w.heap.size + 1 ≤ wr.heap.size) (fun _ _ _ i _ => n - (intOf i).toNat)
  case atStart => exact ⟨0, Nat.zero_le _, rfl, OwB.nil _ _, OwI.nil _ _, rfl, .inl rfl, HR1.out, hz2⟩
  case round =>
    obtain ⟨k, hk, rfl, hd, hl, rfl, hap, hR, hsz⟩ := hrel
    by_cases hlt : k < n
    · have HD := Lib.hid hd
      have HL := Lib.hid hl
      have HAP := Lib.hid hap
      have HR := Lib.hid hR
      obtain ⟨A8, e8, rfl⟩ := hd.form
      obtain ⟨A9, e9, rfl⟩ := hl.form
      obtain ⟨hll, hdl⟩ := HLL.out k
      have hfx := HFX.out k
      have hlt' : (toI (resN R C p q al code b m k).lost).length ≤ 1024 := by rw [toI_len]; omega
      have hdt : (resN R C p q al code b m k).data.length ≤ 1024 := by omega
      have hcb := hR.b.cellAt (i := k) hlt
      have hcm := hR.m.cellAt (i := k) hlt
      obtain ⟨b', o', e', hlb', hcc⟩ := hR.c.2 hn1
      cases e'
      have hcd := hcc k hlt
      have hcl : bc < wr.heap.size := hlb'
      obtain ⟨⟨⟨ls, s0, s1, s2, s3⟩, s4⟩, s5⟩ := id hR.v
      have hq := place_of (R := R) (C := C) (i := k) (by rw [← HN.out]; exact hlt)
      have kd1 : ((k : Int)).tdiv (C : Int) = ((k / C : Nat) : Int) := by rw [Int.tdiv_eq_ediv_of_nonneg (by omega)]; rfl
      have kd2 : ((k : Int)) / (C : Int) = ((k / C : Nat) : Int) := rfl
      have km1 : ((k : Int)).tmod (C : Int) = ((k % C : Nat) : Int) := by rw [Int.tmod_eq_emod_of_nonneg (by omega)]; rfl
      have km2 : ((k : Int)) % (C : Int) = ((k % C : Nat) : Int) := rfl
      have wt1 : (R : Int) - q = ((R - q : Nat) : Int) := by omega
      have wt2 : IntKind.i64.wrap ((R : Int) - q) = ((R - q : Nat) : Int) := by rw [IntWalk.i64_in _ (by omega)]; exact wt1
      have ws1 : (C : Int) - p = ((C - p : Nat) : Int) := by omega
      have ws2 : IntKind.i64.wrap ((C : Int) - p) = ((C - p : Nat) : Int) := by rw [IntWalk.i64_in _ (by omega)]; exact ws1
      have HOUT := Lib.hid (fun h => res_out (R := R) (C := C) (p := p) (q := q) (al := al) (code := code) (b := b) (m := m) (i := k) h)
      have HGO := Lib.hid (fun h h' => res_gone (R := R) (C := C) (p := p) (q := q) (al := al) (code := code) (b := b) (m := m) (i := k) h h')
      have HKE := Lib.hid (fun h h' => res_kept (R := R) (C := C) (p := p) (q := q) (al := al) (code := code) (b := b) (m := m) (i := k) h h')
      clear hd hl hap hR hcc HR1
      have hcz : ((C : Int) == 0) = false := by rw [beq_eq_false_iff_ne]; omega
      have hbd : b.getD k 0 = code.getD k 0 ∨ b.getD k 0 ≠ code.getD k 0 := Classical.em _
      have HINR := Lib.hid (inD_row (R := R) (C := C) (p := p) (q := q) (i := k))
      have HINC := Lib.hid (inD_col (R := R) (C := C) (p := p) (q := q) (i := k))
      have HINY := Lib.hid (inD_yes (R := R) (C := C) (p := p) (q := q) (i := k))
      have hK1 : k / C ≤ 1024 := Nat.le_trans (Nat.div_le_self _ _) (by omega)
      have hK2 : k % C ≤ 1024 := Nat.le_trans (Nat.mod_le _ _) (by omega)
      clear hq
      generalize k / C = K1 at *
      generalize k % C = K2 at *
      generalize hHd : R - q = Hd at *
      generalize hWd : C - p = Wd at *
      have hHb : Hd ≤ 32 := by omega
      have hWb : Wd ≤ 32 := by omega
      clear hHd hWd
      have hplace : (¬ K1 < Hd ∧ decide (Hd ≤ K1) = true) ∨ (K1 < Hd ∧ ¬ K2 < Wd ∧ decide (Hd ≤ K1) = false ∧ decide (Wd ≤ K2) = true) ∨
          (K1 < Hd ∧ K2 < Wd ∧ decide (Hd ≤ K1) = false ∧ decide (Wd ≤ K2) = false) := by
        by_cases i1 : K1 < Hd
        · by_cases i2 : K2 < Wd
          · exact .inr (.inr ⟨i1, i2, decide_eq_false (by omega), decide_eq_false (by omega)⟩)
          · exact .inr (.inl ⟨i1, i2, decide_eq_false (by omega), decide_eq_true (by omega)⟩)
        · exact .inl ⟨i1, decide_eq_true (by omega)⟩
      have hx0 := fun (x : Ext wr) => (HR.out.v.below x.below).1.1.2.1
      have hx1 := fun (x : Ext wr) => (HR.out.v.below x.below).1.1.2.2.1
      have hx2 := fun (x : Ext wr) => (HR.out.v.below x.below).1.1.2.2.2.1
      have hx3 := fun (x : Ext wr) => (HR.out.v.below x.below).1.1.2.2.2.2
      have HPL := Lib.hid hplace
      clear hplace
      have HAPB : Hid (∀ W, Below (w.heap.size + 1) wr W → RsR w W w.heap.size g1 g2 n c1 c2 ca R C p q (some ⟨bc, oc, none⟩) code b m) := Lib.hid fun W hW => HR.out.under hW (Nat.lt_succ_self _) (by omega) (by omega) (fun b o e => by cases e; omega) (Nat.le_succ _)
      cases hg : goneB al m k with
      | true =>
        have HG := Lib.hid hg
        have HFI := Lib.hid (fix_gone (code := code) (b := b) (n := (resN R C p q al code b m k).fixed) hg)
        try (have hmk : m.getD k false = true := (by have h9 := hg; rw [HALV.out] at h9; exact h9); rw [hmk] at hcm; clear hmk)
        clear hg hbd
        generalize b.getD k 0 = bb at *
        generalize code.getD k 0 = dd at *
        rcases HPL.out with ⟨i1, x1⟩ | ⟨i1, i2, x1, x2⟩ | ⟨i1, i2, x1, x2⟩
        · have HRES := Lib.hid (HOUT.out (HINR.out i1))
          go_wp2
          (refine wp_region_ext (by kernel_rfl) (by kernel_rfl) ?_; (repeat (go_big_quiet_step ((fail)))); refine wpQuiet_nil ?_; intro W5 hw'; have hW5 := ext_below hw'; clear hw')
          have hsz5 : w.heap.size + 1 ≤ W5.heap.size := Nat.le_trans hsz hW5.size
          have HB5 := Lib.hid (hW5.mono hsz)
          have HD5 := Lib.hid (HD.out.below hW5)
          have HL5 := Lib.hid (own_below HL.out hW5)
          clear hW5 hx0 hx1 hx2 hx3
          go_wp2
          go_roundw
          case rel => first | exact ⟨k + 1, by omega, by go_num, by (rw [HRES.out]; exact HD5.out), by (rw [HRES.out]; exact HL5.out), by (rw [HRES.out]; refine Eq.trans ?_ (congrArg (fun n : Nat => Value.int .i64 (n : Int)) HFI.out).symm; first | rfl | go_num), HAP.out, HAPB.out _ HB5.out, hsz5⟩ | ((repeat apply Exists.intro); exact ⟨⟨k + 1, by omega, by go_num, by (rw [HRES.out]; exact HD5.out), by (rw [HRES.out]; exact HL5.out), by (rw [HRES.out]; refine Eq.trans ?_ (congrArg (fun n : Nat => Value.int .i64 (n : Int)) HFI.out).symm; first | rfl | go_num), HAP.out, HAPB.out _ HB5.out, hsz5⟩, rfl⟩)
          case measure => simp [intOf]; omega
        · have HRES := Lib.hid (HOUT.out (HINC.out i2))
          go_wp2
          (refine wp_region_ext (by kernel_rfl) (by kernel_rfl) ?_; (repeat (go_big_quiet_step ((fail)))); refine wpQuiet_nil ?_; intro W5 hw'; have hW5 := ext_below hw'; clear hw')
          have hsz5 : w.heap.size + 1 ≤ W5.heap.size := Nat.le_trans hsz hW5.size
          have HB5 := Lib.hid (hW5.mono hsz)
          have HD5 := Lib.hid (HD.out.below hW5)
          have HL5 := Lib.hid (own_below HL.out hW5)
          clear hW5 hx0 hx1 hx2 hx3
          go_wp2
          go_roundw
          case rel => first | exact ⟨k + 1, by omega, by go_num, by (rw [HRES.out]; exact HD5.out), by (rw [HRES.out]; exact HL5.out), by (rw [HRES.out]; refine Eq.trans ?_ (congrArg (fun n : Nat => Value.int .i64 (n : Int)) HFI.out).symm; first | rfl | go_num), HAP.out, HAPB.out _ HB5.out, hsz5⟩ | ((repeat apply Exists.intro); exact ⟨⟨k + 1, by omega, by go_num, by (rw [HRES.out]; exact HD5.out), by (rw [HRES.out]; exact HL5.out), by (rw [HRES.out]; refine Eq.trans ?_ (congrArg (fun n : Nat => Value.int .i64 (n : Int)) HFI.out).symm; first | rfl | go_num), HAP.out, HAPB.out _ HB5.out, hsz5⟩, rfl⟩)
          case measure => simp [intOf]; omega
        · have HRES := Lib.hid (HGO.out (HINY.out i1 i2) HG.out)
          go_wp2
          (refine wp_region_ext (by kernel_rfl) (by kernel_rfl) ?_; (repeat (go_big_quiet_step ((fail)))); refine wpQuiet_nil ?_; intro W5 hw'; have hW5 := ext_below hw'; clear hw')
          have hsz5 : w.heap.size + 1 ≤ W5.heap.size := Nat.le_trans hsz hW5.size
          have HB5 := Lib.hid (hW5.mono hsz)
          have HD5 := Lib.hid (HD.out.below hW5)
          have HL5 := Lib.hid (own_below HL.out hW5)
          clear hW5 hx0 hx1 hx2 hx3
          go_wp2_with (first
            | (at_builtin; refine wpList_app1IK W5 rfl (.tmp 88) (.tmp 91) rfl (w.heap.size + 1) _ (toI (resN R C p q al code b m k).lost) HL5.out rfl _ _ rfl (by omega) hsz5 ?_; intro v1 w1 ho1 hb1 hk1)
            | (at_builtin; refine wpList_app1K w1 rfl (.tmp 93) (.tmp 95) rfl (w.heap.size + 1) _ (resN R C p q al code b m k).data (hk1 _ _ _ _ _ _ HD5.out HAP.out).1 rfl 0 _ rfl (by omega) (Nat.le_trans hsz5 hb1.size) ?_; intro v2 w2 ho2 hb2 hk2))
          have HF := Lib.hid (hk2 _ _ _ _ _ _ ho1 (hk1 _ _ _ _ _ _ HD5.out HAP.out).2.symm)
          have HO2 := Lib.hid ho2
          clear ho2 hk2 ho1 hk1
          go_roundw
          case rel => first | exact ⟨k + 1, by omega, by go_num, by (rw [HRES.out]; exact HO2.out), by (rw [HRES.out]; show OwI _ _ _ (toI ((resN R C p q al code b m k).lost ++ [(resN R C p q al code b m k).data.length])); rw [toI_append]; exact HF.out.1), by (rw [HRES.out]; refine Eq.trans ?_ (congrArg (fun n : Nat => Value.int .i64 (n : Int)) HFI.out).symm; first | rfl | go_num), HF.out.2.symm, HAPB.out _ ((HB5.out.trans hb1).trans hb2), Nat.le_trans (Nat.le_trans hsz5 hb1.size) hb2.size⟩ | ((repeat apply Exists.intro); exact ⟨⟨k + 1, by omega, by go_num, by (rw [HRES.out]; exact HO2.out), by (rw [HRES.out]; show OwI _ _ _ (toI ((resN R C p q al code b m k).lost ++ [(resN R C p q al code b m k).data.length])); rw [toI_append]; exact HF.out.1), by (rw [HRES.out]; refine Eq.trans ?_ (congrArg (fun n : Nat => Value.int .i64 (n : Int)) HFI.out).symm; first | rfl | go_num), HF.out.2.symm, HAPB.out _ ((HB5.out.trans hb1).trans hb2), Nat.le_trans (Nat.le_trans hsz5 hb1.size) hb2.size⟩, rfl⟩)
          case measure => simp [intOf]; omega
      | false =>
        first
          | (exfalso; have h9 := hg; rw [HALV.out] at h9; exact Bool.noConfusion (show true = false from h9))
          | skip
        all_goals
          have HG := Lib.hid hg
          have hmk : m.getD k false = false := (by have h9 := hg; rw [HALV.out] at h9; exact h9)
          rw [hmk] at hcm
          clear hmk
          rcases hbd with hbe | hbe
          · have HFI := Lib.hid (fix_same (al := al) (m := m) (n := (resN R C p q al code b m k).fixed) hbe)
            have xz := z_eq hbe
            clear hg hbe
            generalize b.getD k 0 = bb at *
            generalize code.getD k 0 = dd at *
            rcases HPL.out with ⟨i1, x1⟩ | ⟨i1, i2, x1, x2⟩ | ⟨i1, i2, x1, x2⟩
            · have HRES := Lib.hid (HOUT.out (HINR.out i1))
              go_wp2
              (refine wp_region_ext (by kernel_rfl) (by kernel_rfl) ?_; (repeat (go_big_quiet_step ((fail)))); refine wpQuiet_nil ?_; intro W5 hw'; have hW5 := ext_below hw'; clear hw')
              have hsz5 : w.heap.size + 1 ≤ W5.heap.size := Nat.le_trans hsz hW5.size
              have HB5 := Lib.hid (hW5.mono hsz)
              have HD5 := Lib.hid (HD.out.below hW5)
              have HL5 := Lib.hid (own_below HL.out hW5)
              clear hW5 hx0 hx1 hx2 hx3
              go_wp2
              go_roundw
              case rel => first | exact ⟨k + 1, by omega, by go_num, by (rw [HRES.out]; exact HD5.out), by (rw [HRES.out]; exact HL5.out), by (rw [HRES.out]; refine Eq.trans ?_ (congrArg (fun n : Nat => Value.int .i64 (n : Int)) HFI.out).symm; first | rfl | go_num), HAP.out, HAPB.out _ HB5.out, hsz5⟩ | ((repeat apply Exists.intro); exact ⟨⟨k + 1, by omega, by go_num, by (rw [HRES.out]; exact HD5.out), by (rw [HRES.out]; exact HL5.out), by (rw [HRES.out]; refine Eq.trans ?_ (congrArg (fun n : Nat => Value.int .i64 (n : Int)) HFI.out).symm; first | rfl | go_num), HAP.out, HAPB.out _ HB5.out, hsz5⟩, rfl⟩)
              case measure => simp [intOf]; omega
            · have HRES := Lib.hid (HOUT.out (HINC.out i2))
              go_wp2
              (refine wp_region_ext (by kernel_rfl) (by kernel_rfl) ?_; (repeat (go_big_quiet_step ((fail)))); refine wpQuiet_nil ?_; intro W5 hw'; have hW5 := ext_below hw'; clear hw')
              have hsz5 : w.heap.size + 1 ≤ W5.heap.size := Nat.le_trans hsz hW5.size
              have HB5 := Lib.hid (hW5.mono hsz)
              have HD5 := Lib.hid (HD.out.below hW5)
              have HL5 := Lib.hid (own_below HL.out hW5)
              clear hW5 hx0 hx1 hx2 hx3
              go_wp2
              go_roundw
              case rel => first | exact ⟨k + 1, by omega, by go_num, by (rw [HRES.out]; exact HD5.out), by (rw [HRES.out]; exact HL5.out), by (rw [HRES.out]; refine Eq.trans ?_ (congrArg (fun n : Nat => Value.int .i64 (n : Int)) HFI.out).symm; first | rfl | go_num), HAP.out, HAPB.out _ HB5.out, hsz5⟩ | ((repeat apply Exists.intro); exact ⟨⟨k + 1, by omega, by go_num, by (rw [HRES.out]; exact HD5.out), by (rw [HRES.out]; exact HL5.out), by (rw [HRES.out]; refine Eq.trans ?_ (congrArg (fun n : Nat => Value.int .i64 (n : Int)) HFI.out).symm; first | rfl | go_num), HAP.out, HAPB.out _ HB5.out, hsz5⟩, rfl⟩)
              case measure => simp [intOf]; omega
            · have HRES := Lib.hid (HKE.out (HINY.out i1 i2) HG.out)
              go_wp2
              (refine wp_region_ext (by kernel_rfl) (by kernel_rfl) ?_; (repeat (go_big_quiet_step ((fail)))); refine wpQuiet_nil ?_; intro W5 hw'; have hW5 := ext_below hw'; clear hw')
              have hsz5 : w.heap.size + 1 ≤ W5.heap.size := Nat.le_trans hsz hW5.size
              have HB5 := Lib.hid (hW5.mono hsz)
              have HD5 := Lib.hid (HD.out.below hW5)
              have HL5 := Lib.hid (own_below HL.out hW5)
              clear hW5 hx0 hx1 hx2 hx3
              go_wp2_with (at_builtin; refine wpList_app1K W5 rfl (.tmp 93) (.tmp 95) rfl (w.heap.size + 1) _ (resN R C p q al code b m k).data HD5.out rfl bb _ rfl (by omega) hsz5 ?_; intro v2 w2 ho2 hb2 hk2)
              have hf := hk2 _ _ _ _ _ _ HL5.out HAP.out.symm
              have HF := Lib.hid hf
              have HO2 := Lib.hid ho2
              clear hf ho2 hk2
              go_roundw
              case rel => first | exact ⟨k + 1, by omega, by go_num, by (rw [HRES.out]; exact HO2.out), by (rw [HRES.out]; exact HF.out.1), by (rw [HRES.out]; refine Eq.trans ?_ (congrArg (fun n : Nat => Value.int .i64 (n : Int)) HFI.out).symm; first | rfl | go_num), HF.out.2.symm, HAPB.out _ (HB5.out.trans hb2), Nat.le_trans hsz5 hb2.size⟩ | ((repeat apply Exists.intro); exact ⟨⟨k + 1, by omega, by go_num, by (rw [HRES.out]; exact HO2.out), by (rw [HRES.out]; exact HF.out.1), by (rw [HRES.out]; refine Eq.trans ?_ (congrArg (fun n : Nat => Value.int .i64 (n : Int)) HFI.out).symm; first | rfl | go_num), HF.out.2.symm, HAPB.out _ (HB5.out.trans hb2), Nat.le_trans hsz5 hb2.size⟩, rfl⟩)
              case measure => simp [intOf]; omega
          · have HFI := Lib.hid (fix_diff (code := code) (b := b) (n := (resN R C p q al code b m k).fixed) hg hbe)
            have xz := z_ne hbe
            clear hg hbe
            generalize b.getD k 0 = bb at *
            generalize code.getD k 0 = dd at *
            rcases HPL.out with ⟨i1, x1⟩ | ⟨i1, i2, x1, x2⟩ | ⟨i1, i2, x1, x2⟩
            · have HRES := Lib.hid (HOUT.out (HINR.out i1))
              go_wp2
              (refine wp_region_ext (by kernel_rfl) (by kernel_rfl) ?_; (repeat (go_big_quiet_step ((fail)))); refine wpQuiet_nil ?_; intro W5 hw'; have hW5 := ext_below hw'; clear hw')
              have hsz5 : w.heap.size + 1 ≤ W5.heap.size := Nat.le_trans hsz hW5.size
              have HB5 := Lib.hid (hW5.mono hsz)
              have HD5 := Lib.hid (HD.out.below hW5)
              have HL5 := Lib.hid (own_below HL.out hW5)
              clear hW5 hx0 hx1 hx2 hx3
              go_wp2
              go_roundw
              case rel => first | exact ⟨k + 1, by omega, by go_num, by (rw [HRES.out]; exact HD5.out), by (rw [HRES.out]; exact HL5.out), by (rw [HRES.out]; refine Eq.trans ?_ (congrArg (fun n : Nat => Value.int .i64 (n : Int)) HFI.out).symm; first | rfl | go_num), HAP.out, HAPB.out _ HB5.out, hsz5⟩ | ((repeat apply Exists.intro); exact ⟨⟨k + 1, by omega, by go_num, by (rw [HRES.out]; exact HD5.out), by (rw [HRES.out]; exact HL5.out), by (rw [HRES.out]; refine Eq.trans ?_ (congrArg (fun n : Nat => Value.int .i64 (n : Int)) HFI.out).symm; first | rfl | go_num), HAP.out, HAPB.out _ HB5.out, hsz5⟩, rfl⟩)
              case measure => simp [intOf]; omega
            · have HRES := Lib.hid (HOUT.out (HINC.out i2))
              go_wp2
              (refine wp_region_ext (by kernel_rfl) (by kernel_rfl) ?_; (repeat (go_big_quiet_step ((fail)))); refine wpQuiet_nil ?_; intro W5 hw'; have hW5 := ext_below hw'; clear hw')
              have hsz5 : w.heap.size + 1 ≤ W5.heap.size := Nat.le_trans hsz hW5.size
              have HB5 := Lib.hid (hW5.mono hsz)
              have HD5 := Lib.hid (HD.out.below hW5)
              have HL5 := Lib.hid (own_below HL.out hW5)
              clear hW5 hx0 hx1 hx2 hx3
              go_wp2
              go_roundw
              case rel => first | exact ⟨k + 1, by omega, by go_num, by (rw [HRES.out]; exact HD5.out), by (rw [HRES.out]; exact HL5.out), by (rw [HRES.out]; refine Eq.trans ?_ (congrArg (fun n : Nat => Value.int .i64 (n : Int)) HFI.out).symm; first | rfl | go_num), HAP.out, HAPB.out _ HB5.out, hsz5⟩ | ((repeat apply Exists.intro); exact ⟨⟨k + 1, by omega, by go_num, by (rw [HRES.out]; exact HD5.out), by (rw [HRES.out]; exact HL5.out), by (rw [HRES.out]; refine Eq.trans ?_ (congrArg (fun n : Nat => Value.int .i64 (n : Int)) HFI.out).symm; first | rfl | go_num), HAP.out, HAPB.out _ HB5.out, hsz5⟩, rfl⟩)
              case measure => simp [intOf]; omega
            · have HRES := Lib.hid (HKE.out (HINY.out i1 i2) HG.out)
              go_wp2
              (refine wp_region_ext (by kernel_rfl) (by kernel_rfl) ?_; (repeat (go_big_quiet_step ((fail)))); refine wpQuiet_nil ?_; intro W5 hw'; have hW5 := ext_below hw'; clear hw')
              have hsz5 : w.heap.size + 1 ≤ W5.heap.size := Nat.le_trans hsz hW5.size
              have HB5 := Lib.hid (hW5.mono hsz)
              have HD5 := Lib.hid (HD.out.below hW5)
              have HL5 := Lib.hid (own_below HL.out hW5)
              clear hW5 hx0 hx1 hx2 hx3
              go_wp2_with (at_builtin; refine wpList_app1K W5 rfl (.tmp 93) (.tmp 95) rfl (w.heap.size + 1) _ (resN R C p q al code b m k).data HD5.out rfl bb _ rfl (by omega) hsz5 ?_; intro v2 w2 ho2 hb2 hk2)
              have hf := hk2 _ _ _ _ _ _ HL5.out HAP.out.symm
              have HF := Lib.hid hf
              have HO2 := Lib.hid ho2
              clear hf ho2 hk2
              go_roundw
              case rel => first | exact ⟨k + 1, by omega, by go_num, by (rw [HRES.out]; exact HO2.out), by (rw [HRES.out]; exact HF.out.1), by (rw [HRES.out]; refine Eq.trans ?_ (congrArg (fun n : Nat => Value.int .i64 (n : Int)) HFI.out).symm; first | rfl | go_num), HF.out.2.symm, HAPB.out _ (HB5.out.trans hb2), Nat.le_trans hsz5 hb2.size⟩ | ((repeat apply Exists.intro); exact ⟨⟨k + 1, by omega, by go_num, by (rw [HRES.out]; exact HO2.out), by (rw [HRES.out]; exact HF.out.1), by (rw [HRES.out]; refine Eq.trans ?_ (congrArg (fun n : Nat => Value.int .i64 (n : Int)) HFI.out).symm; first | rfl | go_num), HF.out.2.symm, HAPB.out _ (HB5.out.trans hb2), Nat.le_trans hsz5 hb2.size⟩, rfl⟩)
              case measure => simp [intOf]; omega
    · obtain rfl : k = n := by omega
      obtain ⟨A8, e8, rfl⟩ := hd.form
      obtain ⟨A9, e9, rfl⟩ := hl.form
      rw [toI_len] at hl
      have hbw := hR.bw
      rw [toI_len]
      clear HR1
      go_wp2
      exact bodyPost_ret (v := .tuple #[.slice A8 (resN R C p q al code b m k).data.length e8, .slice A9 (resN R C p q al code b m k).lost.length e9, .int .i64 ((resN R C p q al code b m k).fixed : Nat)]) (by simp [results, Tryz.results40, go_sem]) rfl ⟨A8, e8, A9, e9, rfl, hd.base (Nat.le_succ _), own_base hl (Nat.le_succ _), hbw⟩
set_option maxRecDepth 100000 in
set_option maxHeartbeats 16000000 in
theorem results_r00 (rb0 : Bool) (R C p q B1 B2 g1 g2 n c1 c2 ca : Nat) (A : Option Addr) (code b : List GF) (m : List Bool) (w : World) (hb : OwB w B1 (.slice (some ⟨g1, 0, none⟩) n c1) b) (hm : OwT w B2 (.slice (some ⟨g2, 0, none⟩) n c2) m) (hc : RdB w A n code)
    (hn : n = R * C) (h1 : 1 ≤ R) (h2 : R ≤ 32) (h3 : 1 ≤ C) (h4 : C ≤ 32) (h5 : p < C) (h6 : q < R) (hdm : dirtyB m = false) (hrb : rightB R C p b = false) :
    Calls Tryz.prog 40 #[decV R C p q (.slice (some ⟨g1, 0, none⟩) n c1) (.slice (some ⟨g2, 0, none⟩) n c2), .slice A n ca] w fun e w' => ∃ A1 d1 A2 d2, e = .returned (.tuple #[.slice A1 (resN R C p q (allLostB R C p (b, m)) code b m n).data.length d1, .slice A2 (resN R C p q (allLostB R C p (b, m)) code b m n).lost.length d2, .int .i64 ((resN R C p q (allLostB R C p (b, m)) code b m n).fixed : Nat)]) ∧
      OwB w' w.heap.size (.slice A1 (resN R C p q (allLostB R C p (b, m)) code b m n).data.length d1) (resN R C p q (allLostB R C p (b, m)) code b m n).data ∧
      OwI w' w.heap.size (.slice A2 (resN R C p q (allLostB R C p (b, m)) code b m n).lost.length d2) (toI (resN R C p q (allLostB R C p (b, m)) code b m n).lost) ∧ Below w.heap.size w w' := by
  have hN : n ≤ 1024 := by have := (mul32 h2 h4).2; rw [← Int.natCast_mul, ← hn] at this; omega
  have hn1 : 1 ≤ n := by rw [hn]; exact Nat.mul_pos h1 h3
  have HN := Lib.hid hn
  have hg1 := hb.lt.2
  have hg2 := hm.lt.2
  obtain ⟨bc, oc, rfl, hbc, _⟩ := hc.2 hn1
  have R0 : RsR w (w.alloc (decC R C p q (.slice (some ⟨g1, 0, none⟩) n c1) (.slice (some ⟨g2, 0, none⟩) n c2))) w.heap.size g1 g2 n c1 c2 ca R C p q (some ⟨bc, oc, none⟩) code b m :=
    ⟨S6.new w R C p q _ _, (hb.base (Nat.zero_le _)).below (below_new _ _), (hm.base (Nat.zero_le _)).below (below_new _ _), hc.al _, below_new _ _⟩
  have HALV : Hid (allLostB R C p (b, m) = true) := Lib.hid (by show (!dirtyB m && !rightB R C p b) = _; rw [hdm, hrb]; rfl)
  have HCT := Lib.hid (fun W (h : OwT W 0 (.slice (some ⟨g2, 0, none⟩) n c2) m) => containsT_any 0 g2 n c2 m W h hN)
  have HRR := Lib.hid (fun W (h : OwB W 0 (.slice (some ⟨g1, 0, none⟩) n c1) b) => rowsRight_any (some ⟨g1, 0, none⟩) n c1 R C p q b W h.rd.1 hn h2 h4 h5)
  rw [hdm] at HCT
  rw [hrb] at HRR
  generalize allLostB R C p (b, m) = al at *
  have HLL := Lib.hid (lost_len (R := R) (q := q) h3 (Nat.le_of_lt h5) al code b m)
  have HFX := Lib.hid (res_fixed R C p q al code b m)
  have hz1 : w.heap.size + 1 ≤ (w.alloc (decC R C p q (.slice (some ⟨g1, 0, none⟩) n c1) (.slice (some ⟨g2, 0, none⟩) n c2))).heap.size := by rw [World.size_alloc]; exact Nat.le_refl _
  clear hb hm hc hn hdm hrb
  go_enter Tryz.func40, Tryz.ntmps40
  go_wp2_with fail
  generalize w.alloc (decC R C p q (.slice (some ⟨g1, 0, none⟩) n c1) (.slice (some ⟨g2, 0, none⟩) n c2)) = W0 at *
  refine (HCT.out _ R0.m).mono ?_
  rintro e w' ⟨rfl, rfl⟩
  obtain ⟨⟨⟨ls, s0, s1, s2, s3⟩, s4⟩, s5⟩ := id R0.v
  go_wp2_with fail
  have HNX : ∃ W1 : World, RsR w W1 w.heap.size g1 g2 n c1 c2 ca R C p q (some ⟨bc, oc, none⟩) code b m ∧ w.heap.size + 1 ≤ W1.heap.size := ⟨_, R0, hz1⟩
  clear HNX
  first
    | (refine (HRR.out _ R0.b).mono ?_
       rintro e W1 ⟨rfl, hb1⟩
       have R1 := R0.below hb1
       have hz2 := Nat.le_trans hz1 hb1.size
       clear ls s0 s1 s2 s3 s4 s5
       obtain ⟨⟨⟨ls, s0, s1, s2, s3⟩, s4⟩, s5⟩ := id R1.v
       go_wp2)
    | (have R1 := R0
       have hz2 := hz1)
  have HR1 := Lib.hid R1
  clear R1 R0 HCT HRR ls s0 s1 s2 s3 s4 s5
  go_loopw [8, 9, 10, 28] (fun u8 u9 u10 i wr => ∃ k : Nat, k ≤ n ∧ i = .int .i64 k ∧ OwB wr (w.heap.size + 1) u8 (resN R C p q al code b m k).data ∧ OwI wr (w.heap.size + 1) u9 (toI (resN R C p q al code b m k).lost) ∧ u10 = .int .i64 ((resN R C p q al code b m k).fixed : Nat) ∧ Apt u8 u9 ∧ RsR w wr w.heap.size g1 g2 n c1 c2 ca R C p q (some ⟨bc, oc, none⟩) code b m ∧ w.heap.size + 1 ≤ wr.heap.size) (fun _ _ _ i _ => n - (intOf i).toNat)
  case atStart => exact ⟨0, Nat.zero_le _, rfl, OwB.nil _ _, OwI.nil _ _, rfl, .inl rfl, HR1.out, hz2⟩
  case round =>
    obtain ⟨k, hk, rfl, hd, hl, rfl, hap, hR, hsz⟩ := hrel
    by_cases hlt : k < n
    · have HD := Lib.hid hd
      have HL := Lib.hid hl
      have HAP := Lib.hid hap
      have HR := Lib.hid hR
      obtain ⟨A8, e8, rfl⟩ := hd.form
      obtain ⟨A9, e9, rfl⟩ := hl.form
      obtain ⟨hll, hdl⟩ := HLL.out k
      have hfx := HFX.out k
      have hlt' : (toI (resN R C p q al code b m k).lost).length ≤ 1024 := by rw [toI_len]; omega
      have hdt : (resN R C p q al code b m k).data.length ≤ 1024 := by omega
      have hcb := hR.b.cellAt (i := k) hlt
      have hcm := hR.m.cellAt (i := k) hlt
      obtain ⟨b', o', e', hlb', hcc⟩ := hR.c.2 hn1
      cases e'
      have hcd := hcc k hlt
      have hcl : bc < wr.heap.size := hlb'
      obtain ⟨⟨⟨ls, s0, s1, s2, s3⟩, s4⟩, s5⟩ := id hR.v
      have hq := place_of (R := R) (C := C) (i := k) (by rw [← HN.out]; exact hlt)
      have kd1 : ((k : Int)).tdiv (C : Int) = ((k / C : Nat) : Int) := by rw [Int.tdiv_eq_ediv_of_nonneg (by omega)]; rfl
      have kd2 : ((k : Int)) / (C : Int) = ((k / C : Nat) : Int) := rfl
      have km1 : ((k : Int)).tmod (C : Int) = ((k % C : Nat) : Int) := by rw [Int.tmod_eq_emod_of_nonneg (by omega)]; rfl
      have km2 : ((k : Int)) % (C : Int) = ((k % C : Nat) : Int) := rfl
      have wt1 : (R : Int) - q = ((R - q : Nat) : Int) := by omega
      have wt2 : IntKind.i64.wrap ((R : Int) - q) = ((R - q : Nat) : Int) := by rw [IntWalk.i64_in _ (by omega)]; exact wt1
      have ws1 : (C : Int) - p = ((C - p : Nat) : Int) := by omega
      have ws2 : IntKind.i64.wrap ((C : Int) - p) = ((C - p : Nat) : Int) := by rw [IntWalk.i64_in _ (by omega)]; exact ws1
      have HOUT := Lib.hid (fun h => res_out (R := R) (C := C) (p := p) (q := q) (al := al) (code := code) (b := b) (m := m) (i := k) h)
      have HGO := Lib.hid (fun h h' => res_gone (R := R) (C := C) (p := p) (q := q) (al := al) (code := code) (b := b) (m := m) (i := k) h h')
      have HKE := Lib.hid (fun h h' => res_kept (R := R) (C := C) (p := p) (q := q) (al := al) (code := code) (b := b) (m := m) (i := k) h h')
      clear hd hl hap hR hcc HR1
      have hcz : ((C : Int) == 0) = false := by rw [beq_eq_false_iff_ne]; omega
      have hbd : b.getD k 0 = code.getD k 0 ∨ b.getD k 0 ≠ code.getD k 0 := Classical.em _
      have HINR := Lib.hid (inD_row (R := R) (C := C) (p := p) (q := q) (i := k))
      have HINC := Lib.hid (inD_col (R := R) (C := C) (p := p) (q := q) (i := k))
      have HINY := Lib.hid (inD_yes (R := R) (C := C) (p := p) (q := q) (i := k))
      have hK1 : k / C ≤ 1024 := Nat.le_trans (Nat.div_le_self _ _) (by omega)
      have hK2 : k % C ≤ 1024 := Nat.le_trans (Nat.mod_le _ _) (by omega)
      clear hq
      generalize k / C = K1 at *
      generalize k % C = K2 at *
      generalize hHd : R - q = Hd at *
      generalize hWd : C - p = Wd at *
      have hHb : Hd ≤ 32 := by omega
      have hWb : Wd ≤ 32 := by omega
      clear hHd hWd
      have hplace : (¬ K1 < Hd ∧ decide (Hd ≤ K1) = true) ∨ (K1 < Hd ∧ ¬ K2 < Wd ∧ decide (Hd ≤ K1) = false ∧ decide (Wd ≤ K2) = true) ∨
          (K1 < Hd ∧ K2 < Wd ∧ decide (Hd ≤ K1) = false ∧ decide (Wd ≤ K2) = false) := by
        by_cases i1 : K1 < Hd
        · by_cases i2 : K2 < Wd
          · exact .inr (.inr ⟨i1, i2, decide_eq_false (by omega), decide_eq_false (by omega)⟩)
          · exact .inr (.inl ⟨i1, i2, decide_eq_false (by omega), decide_eq_true (by omega)⟩)
        · exact .inl ⟨i1, decide_eq_true (by omega)⟩
      have hx0 := fun (x : Ext wr) => (HR.out.v.below x.below).1.1.2.1
      have hx1 := fun (x : Ext wr) => (HR.out.v.below x.below).1.1.2.2.1
      have hx2 := fun (x : Ext wr) => (HR.out.v.below x.below).1.1.2.2.2.1
      have hx3 := fun (x : Ext wr) => (HR.out.v.below x.below).1.1.2.2.2.2
      have HPL := Lib.hid hplace
      clear hplace
      have HAPB : Hid (∀ W, Below (w.heap.size + 1) wr W → RsR w W w.heap.size g1 g2 n c1 c2 ca R C p q (some ⟨bc, oc, none⟩) code b m) := Lib.hid fun W hW => HR.out.under hW (Nat.lt_succ_self _) (by omega) (by omega) (fun b o e => by cases e; omega) (Nat.le_succ _)
      cases hg : goneB al m k with
      | true =>
        have HG := Lib.hid hg
        have HFI := Lib.hid (fix_gone (code := code) (b := b) (n := (resN R C p q al code b m k).fixed) hg)
        try (have hmk : m.getD k false = true := (by have h9 := hg; rw [HALV.out] at h9; exact h9); rw [hmk] at hcm; clear hmk)
        clear hg hbd
        generalize b.getD k 0 = bb at *
        generalize code.getD k 0 = dd at *
        rcases HPL.out with ⟨i1, x1⟩ | ⟨i1, i2, x1, x2⟩ | ⟨i1, i2, x1, x2⟩
        · have HRES := Lib.hid (HOUT.out (HINR.out i1))
          go_wp2
          (refine wp_region_ext (by kernel_rfl) (by kernel_rfl) ?_; (repeat (go_big_quiet_step ((fail)))); refine wpQuiet_nil ?_; intro W5 hw'; have hW5 := ext_below hw'; clear hw')
          have hsz5 : w.heap.size + 1 ≤ W5.heap.size := Nat.le_trans hsz hW5.size
          have HB5 := Lib.hid (hW5.mono hsz)
          have HD5 := Lib.hid (HD.out.below hW5)
          have HL5 := Lib.hid (own_below HL.out hW5)
          clear hW5 hx0 hx1 hx2 hx3
          go_wp2
          go_roundw
          case rel => first | exact ⟨k + 1, by omega, by go_num, by (rw [HRES.out]; exact HD5.out), by (rw [HRES.out]; exact HL5.out), by (rw [HRES.out]; refine Eq.trans ?_ (congrArg (fun n : Nat => Value.int .i64 (n : Int)) HFI.out).symm; first | rfl | go_num), HAP.out, HAPB.out _ HB5.out, hsz5⟩ | ((repeat apply Exists.intro); exact ⟨⟨k + 1, by omega, by go_num, by (rw [HRES.out]; exact HD5.out), by (rw [HRES.out]; exact HL5.out), by (rw [HRES.out]; refine Eq.trans ?_ (congrArg (fun n : Nat => Value.int .i64 (n : Int)) HFI.out).symm; first | rfl | go_num), HAP.out, HAPB.out _ HB5.out, hsz5⟩, rfl⟩)
          case measure => simp [intOf]; omega
        · have HRES := Lib.hid (HOUT.out (HINC.out i2))
          go_wp2
          (refine wp_region_ext (by kernel_rfl) (by kernel_rfl) ?_; (repeat (go_big_quiet_step ((fail)))); refine wpQuiet_nil ?_; intro W5 hw'; have hW5 := ext_below hw'; clear hw')
          have hsz5 : w.heap.size + 1 ≤ W5.heap.size := Nat.le_trans hsz hW5.size
          have HB5 := Lib.hid (hW5.mono hsz)
          have HD5 := Lib.hid (HD.out.below hW5)
          have HL5 := Lib.hid (own_below HL.out hW5)
          clear hW5 hx0 hx1 hx2 hx3
          go_wp2
          go_roundw
          case rel => first | exact ⟨k + 1, by omega, by go_num, by (rw [HRES.out]; exact HD5.out), by (rw [HRES.out]; exact HL5.out), by (rw [HRES.out]; refine Eq.trans ?_ (congrArg (fun n : Nat => Value.int .i64 (n : Int)) HFI.out).symm; first | rfl | go_num), HAP.out, HAPB.out _ HB5.out, hsz5⟩ | ((repeat apply Exists.intro); exact ⟨⟨k + 1, by omega, by go_num, by (rw [HRES.out]; exact HD5.out), by (rw [HRES.out]; exact HL5.out), by (rw [HRES.out]; refine Eq.trans ?_ (congrArg (fun n : Nat => Value.int .i64 (n : Int)) HFI.out).symm; first | rfl | go_num), HAP.out, HAPB.out _ HB5.out, hsz5⟩, rfl⟩)
          case measure => simp [intOf]; omega
        · have HRES := Lib.hid (HGO.out (HINY.out i1 i2) HG.out)
          go_wp2
          (refine wp_region_ext (by kernel_rfl) (by kernel_rfl) ?_; (repeat (go_big_quiet_step ((fail)))); refine wpQuiet_nil ?_; intro W5 hw'; have hW5 := ext_below hw'; clear hw')
          have hsz5 : w.heap.size + 1 ≤ W5.heap.size := Nat.le_trans hsz hW5.size
          have HB5 := Lib.hid (hW5.mono hsz)
          have HD5 := Lib.hid (HD.out.below hW5)
          have HL5 := Lib.hid (own_below HL.out hW5)
          clear hW5 hx0 hx1 hx2 hx3
          go_wp2_with (first
            | (at_builtin; refine wpList_app1IK W5 rfl (.tmp 88) (.tmp 91) rfl (w.heap.size + 1) _ (toI (resN R C p q al code b m k).lost) HL5.out rfl _ _ rfl (by omega) hsz5 ?_; intro v1 w1 ho1 hb1 hk1)
            | (at_builtin; refine wpList_app1K w1 rfl (.tmp 93) (.tmp 95) rfl (w.heap.size + 1) _ (resN R C p q al code b m k).data (hk1 _ _ _ _ _ _ HD5.out HAP.out).1 rfl 0 _ rfl (by omega) (Nat.le_trans hsz5 hb1.size) ?_; intro v2 w2 ho2 hb2 hk2))
          have HF := Lib.hid (hk2 _ _ _ _ _ _ ho1 (hk1 _ _ _ _ _ _ HD5.out HAP.out).2.symm)
          have HO2 := Lib.hid ho2
          clear ho2 hk2 ho1 hk1
          go_roundw
          case rel => first | exact ⟨k + 1, by omega, by go_num, by (rw [HRES.out]; exact HO2.out), by (rw [HRES.out]; show OwI _ _ _ (toI ((resN R C p q al code b m k).lost ++ [(resN R C p q al code b m k).data.length])); rw [toI_append]; exact HF.out.1), by (rw [HRES.out]; refine Eq.trans ?_ (congrArg (fun n : Nat => Value.int .i64 (n : Int)) HFI.out).symm; first | rfl | go_num), HF.out.2.symm, HAPB.out _ ((HB5.out.trans hb1).trans hb2), Nat.le_trans (Nat.le_trans hsz5 hb1.size) hb2.size⟩ | ((repeat apply Exists.intro); exact ⟨⟨k + 1, by omega, by go_num, by (rw [HRES.out]; exact HO2.out), by (rw [HRES.out]; show OwI _ _ _ (toI ((resN R C p q al code b m k).lost ++ [(resN R C p q al code b m k).data.length])); rw [toI_append]; exact HF.out.1), by (rw [HRES.out]; refine Eq.trans ?_ (congrArg (fun n : Nat => Value.int .i64 (n : Int)) HFI.out).symm; first | rfl | go_num), HF.out.2.symm, HAPB.out _ ((HB5.out.trans hb1).trans hb2), Nat.le_trans (Nat.le_trans hsz5 hb1.size) hb2.size⟩, rfl⟩)
          case measure => simp [intOf]; omega
      | false =>
        first
          | (exfalso; have h9 := hg; rw [HALV.out] at h9; exact Bool.noConfusion (show true = false from h9))
          | skip
        all_goals
          have HG := Lib.hid hg
          have hmk : m.getD k false = false := (by have h9 := hg; rw [HALV.out] at h9; exact h9)
          rw [hmk] at hcm
          clear hmk
          rcases hbd with hbe | hbe
          · have HFI := Lib.hid (fix_same (al := al) (m := m) (n := (resN R C p q al code b m k).fixed) hbe)
            have xz := z_eq hbe
            clear hg hbe
            generalize b.getD k 0 = bb at *
            generalize code.getD k 0 = dd at *
            rcases HPL.out with ⟨i1, x1⟩ | ⟨i1, i2, x1, x2⟩ | ⟨i1, i2, x1, x2⟩
            · have HRES := Lib.hid (HOUT.out (HINR.out i1))
              go_wp2
              (refine wp_region_ext (by kernel_rfl) (by kernel_rfl) ?_; (repeat (go_big_quiet_step ((fail)))); refine wpQuiet_nil ?_; intro W5 hw'; have hW5 := ext_below hw'; clear hw')
              have hsz5 : w.heap.size + 1 ≤ W5.heap.size := Nat.le_trans hsz hW5.size
              have HB5 := Lib.hid (hW5.mono hsz)
              have HD5 := Lib.hid (HD.out.below hW5)
              have HL5 := Lib.hid (own_below HL.out hW5)
              clear hW5 hx0 hx1 hx2 hx3
              go_wp2
              go_roundw
              case rel => first | exact ⟨k + 1, by omega, by go_num, by (rw [HRES.out]; exact HD5.out), by (rw [HRES.out]; exact HL5.out), by (rw [HRES.out]; refine Eq.trans ?_ (congrArg (fun n : Nat => Value.int .i64 (n : Int)) HFI.out).symm; first | rfl | go_num), HAP.out, HAPB.out _ HB5.out, hsz5⟩ | ((repeat apply Exists.intro); exact ⟨⟨k + 1, by omega, by go_num, by (rw [HRES.out]; exact HD5.out), by (rw [HRES.out]; exact HL5.out), by (rw [HRES.out]; refine Eq.trans ?_ (congrArg (fun n : Nat => Value.int .i64 (n : Int)) HFI.out).symm; first | rfl | go_num), HAP.out, HAPB.out _ HB5.out, hsz5⟩, rfl⟩)
              case measure => simp [intOf]; omega
            · have HRES := Lib.hid (HOUT.out (HINC.out i2))
              go_wp2
              (refine wp_region_ext (by kernel_rfl) (by kernel_rfl) ?_; (repeat (go_big_quiet_step ((fail)))); refine wpQuiet_nil ?_; intro W5 hw'; have hW5 := ext_below hw'; clear hw')
              have hsz5 : w.heap.size + 1 ≤ W5.heap.size := Nat.le_trans hsz hW5.size
              have HB5 := Lib.hid (hW5.mono hsz)
              have HD5 := Lib.hid (HD.out.below hW5)
              have HL5 := Lib.hid (own_below HL.out hW5)
              clear hW5 hx0 hx1 hx2 hx3
              go_wp2
              go_roundw
              case rel => first | exact ⟨k + 1, by omega, by go_num, by (rw [HRES.out]; exact HD5.out), by (rw [HRES.out]; exact HL5.out), by (rw [HRES.out]; refine Eq.trans ?_ (congrArg (fun n : Nat => Value.int .i64 (n : Int)) HFI.out).symm; first | rfl | go_num), HAP.out, HAPB.out _ HB5.out, hsz5⟩ | ((repeat apply Exists.intro); exact ⟨⟨k + 1, by omega, by go_num, by (rw [HRES.out]; exact HD5.out), by (rw [HRES.out]; exact HL5.out), by (rw [HRES.out]; refine Eq.trans ?_ (congrArg (fun n : Nat => Value.int .i64 (n : Int)) HFI.out).symm; first | rfl | go_num), HAP.out, HAPB.out _ HB5.out, hsz5⟩, rfl⟩)
              case measure => simp [intOf]; omega
            · have HRES := Lib.hid (HKE.out (HINY.out i1 i2) HG.out)
              go_wp2
              (refine wp_region_ext (by kernel_rfl) (by kernel_rfl) ?_; (repeat (go_big_quiet_step ((fail)))); refine wpQuiet_nil ?_; intro W5 hw'; have hW5 := ext_below hw'; clear hw')
              have hsz5 : w.heap.size + 1 ≤ W5.heap.size := Nat.le_trans hsz hW5.size
              have HB5 := Lib.hid (hW5.mono hsz)
              have HD5 := Lib.hid (HD.out.below hW5)
              have HL5 := Lib.hid (own_below HL.out hW5)
              clear hW5 hx0 hx1 hx2 hx3
              go_wp2_with (at_builtin; refine wpList_app1K W5 rfl (.tmp 93) (.tmp 95) rfl (w.heap.size + 1) _ (resN R C p q al code b m k).data HD5.out rfl bb _ rfl (by omega) hsz5 ?_; intro v2 w2 ho2 hb2 hk2)
              have hf := hk2 _ _ _ _ _ _ HL5.out HAP.out.symm
              have HF := Lib.hid hf
              have HO2 := Lib.hid ho2
              clear hf ho2 hk2
              go_roundw
              case rel => first | exact ⟨k + 1, by omega, by go_num, by (rw [HRES.out]; exact HO2.out), by (rw [HRES.out]; exact HF.out.1), by (rw [HRES.out]; refine Eq.trans ?_ (congrArg (fun n : Nat => Value.int .i64 (n : Int)) HFI.out).symm; first | rfl | go_num), HF.out.2.symm, HAPB.out _ (HB5.out.trans hb2), Nat.le_trans hsz5 hb2.size⟩ | ((repeat apply Exists.intro); exact ⟨⟨k + 1, by omega, by go_num, by (rw [HRES.out]; exact HO2.out), by (rw [HRES.out]; exact HF.out.1), by (rw [HRES.out]; refine Eq.trans ?_ (congrArg (fun n : Nat => Value.int .i64 (n : Int)) HFI.out).symm; first | rfl | go_num), HF.out.2.symm, HAPB.out _ (HB5.out.trans hb2), Nat.le_trans hsz5 hb2.size⟩, rfl⟩)
              case measure => simp [intOf]; omega
          · have HFI := Lib.hid (fix_diff (code := code) (b := b) (n := (resN R C p q al code b m k).fixed) hg hbe)
            have xz := z_ne hbe
            clear hg hbe
            generalize b.getD k 0 = bb at *
            generalize code.getD k 0 = dd at *
            rcases HPL.out with ⟨i1, x1⟩ | ⟨i1, i2, x1, x2⟩ | ⟨i1, i2, x1, x2⟩
            · have HRES := Lib.hid (HOUT.out (HINR.out i1))
              go_wp2
              (refine wp_region_ext (by kernel_rfl) (by kernel_rfl) ?_; (repeat (go_big_quiet_step ((fail)))); refine wpQuiet_nil ?_; intro W5 hw'; have hW5 := ext_below hw'; clear hw')
              have hsz5 : w.heap.size + 1 ≤ W5.heap.size := Nat.le_trans hsz hW5.size
              have HB5 := Lib.hid (hW5.mono hsz)
              have HD5 := Lib.hid (HD.out.below hW5)
              have HL5 := Lib.hid (own_below HL.out hW5)
              clear hW5 hx0 hx1 hx2 hx3
              go_wp2
              go_roundw
              case rel => first | exact ⟨k + 1, by omega, by go_num, by (rw [HRES.out]; exact HD5.out), by (rw [HRES.out]; exact HL5.out), by (rw [HRES.out]; refine Eq.trans ?_ (congrArg (fun n : Nat => Value.int .i64 (n : Int)) HFI.out).symm; first | rfl | go_num), HAP.out, HAPB.out _ HB5.out, hsz5⟩ | ((repeat apply Exists.intro); exact ⟨⟨k + 1, by omega, by go_num, by (rw [HRES.out]; exact HD5.out), by (rw [HRES.out]; exact HL5.out), by (rw [HRES.out]; refine Eq.trans ?_ (congrArg (fun n : Nat => Value.int .i64 (n : Int)) HFI.out).symm; first | rfl | go_num), HAP.out, HAPB.out _ HB5.out, hsz5⟩, rfl⟩)
              case measure => simp [intOf]; omega
            · have HRES := Lib.hid (HOUT.out (HINC.out i2))
              go_wp2
              (refine wp_region_ext (by kernel_rfl) (by kernel_rfl) ?_; (repeat (go_big_quiet_step ((fail)))); refine wpQuiet_nil ?_; intro W5 hw'; have hW5 := ext_below hw'; clear hw')
              have hsz5 : w.heap.size + 1 ≤ W5.heap.size := Nat.le_trans hsz hW5.size
              have HB5 := Lib.hid (hW5.mono hsz)
              have HD5 := Lib.hid (HD.out.below hW5)
              have HL5 := Lib.hid (own_below HL.out hW5)
              clear hW5 hx0 hx1 hx2 hx3
              go_wp2
              go_roundw
              case rel => first | exact ⟨k + 1, by omega, by go_num, by (rw [HRES.out]; exact HD5.out), by (rw [HRES.out]; exact HL5.out), by (rw [HRES.out]; refine Eq.trans ?_ (congrArg (fun n : Nat => Value.int .i64 (n : Int)) HFI.out).symm; first | rfl | go_num), HAP.out, HAPB.out _ HB5.out, hsz5⟩ | ((repeat apply Exists.intro); exact ⟨⟨k + 1, by omega, by go_num, by (rw [HRES.out]; exact HD5.out), by (rw [HRES.out]; exact HL5.out), by (rw [HRES.out]; refine Eq.trans ?_ (congrArg (fun n : Nat => Value.int .i64 (n : Int)) HFI.out).symm; first | rfl | go_num), HAP.out, HAPB.out _ HB5.out, hsz5⟩, rfl⟩)
              case measure => simp [intOf]; omega
            · have HRES := Lib.hid (HKE.out (HINY.out i1 i2) HG.out)
              go_wp2
              (refine wp_region_ext (by kernel_rfl) (by kernel_rfl) ?_; (repeat (go_big_quiet_step ((fail)))); refine wpQuiet_nil ?_; intro W5 hw'; have hW5 := ext_below hw'; clear hw')
              have hsz5 : w.heap.size + 1 ≤ W5.heap.size := Nat.le_trans hsz hW5.size
              have HB5 := Lib.hid (hW5.mono hsz)
              have HD5 := Lib.hid (HD.out.below hW5)
              have HL5 := Lib.hid (own_below HL.out hW5)
              clear hW5 hx0 hx1 hx2 hx3
              go_wp2_with (at_builtin; refine wpList_app1K W5 rfl (.tmp 93) (.tmp 95) rfl (w.heap.size + 1) _ (resN R C p q al code b m k).data HD5.out rfl bb _ rfl (by omega) hsz5 ?_; intro v2 w2 ho2 hb2 hk2)
              have hf := hk2 _ _ _ _ _ _ HL5.out HAP.out.symm
              have HF := Lib.hid hf
              have HO2 := Lib.hid ho2
              clear hf ho2 hk2
              go_roundw
              case rel => first | exact ⟨k + 1, by omega, by go_num, by (rw [HRES.out]; exact HO2.out), by (rw [HRES.out]; exact HF.out.1), by (rw [HRES.out]; refine Eq.trans ?_ (congrArg (fun n : Nat => Value.int .i64 (n : Int)) HFI.out).symm; first | rfl | go_num), HF.out.2.symm, HAPB.out _ (HB5.out.trans hb2), Nat.le_trans hsz5 hb2.size⟩ | ((repeat apply Exists.intro); exact ⟨⟨k + 1, by omega, by go_num, by (rw [HRES.out]; exact HO2.out), by (rw [HRES.out]; exact HF.out.1), by (rw [HRES.out]; refine Eq.trans ?_ (congrArg (fun n : Nat => Value.int .i64 (n : Int)) HFI.out).symm; first | rfl | go_num), HF.out.2.symm, HAPB.out _ (HB5.out.trans hb2), Nat.le_trans hsz5 hb2.size⟩, rfl⟩)
              case measure => simp [intOf]; omega
    · obtain rfl : k = n := by omega
      obtain ⟨A8, e8, rfl⟩ := hd.form
      obtain ⟨A9, e9, rfl⟩ := hl.form
      rw [toI_len] at hl
      have hbw := hR.bw
      rw [toI_len]
      clear HR1
      go_wp2
      exact bodyPost_ret (v := .tuple #[.slice A8 (resN R C p q al code b m k).data.length e8, .slice A9 (resN R C p q al code b m k).lost.length e9, .int .i64 ((resN R C p q al code b m k).fixed : Nat)]) (by simp [results, Tryz.results40, go_sem]) rfl ⟨A8, e8, A9, e9, rfl, hd.base (Nat.le_succ _), own_base hl (Nat.le_succ _), hbw⟩
theorem results_any (R C p q B1 B2 g1 g2 n c1 c2 ca : Nat) (A : Option Addr) (code b : List GF) (m : List Bool) (w : World) (hb : OwB w B1 (.slice (some ⟨g1, 0, none⟩) n c1) b) (hm : OwT w B2 (.slice (some ⟨g2, 0, none⟩) n c2) m) (hc : RdB w A n code)
    (hn : n = R * C) (h1 : 1 ≤ R) (h2 : R ≤ 32) (h3 : 1 ≤ C) (h4 : C ≤ 32) (h5 : p < C) (h6 : q < R) :
    Calls Tryz.prog 40 #[decV R C p q (.slice (some ⟨g1, 0, none⟩) n c1) (.slice (some ⟨g2, 0, none⟩) n c2), .slice A n ca] w fun e w' => ∃ A1 d1 A2 d2, e = .returned (.tuple #[.slice A1 (resN R C p q (allLostB R C p (b, m)) code b m n).data.length d1, .slice A2 (resN R C p q (allLostB R C p (b, m)) code b m n).lost.length d2, .int .i64 ((resN R C p q (allLostB R C p (b, m)) code b m n).fixed : Nat)]) ∧
      OwB w' w.heap.size (.slice A1 (resN R C p q (allLostB R C p (b, m)) code b m n).data.length d1) (resN R C p q (allLostB R C p (b, m)) code b m n).data ∧
      OwI w' w.heap.size (.slice A2 (resN R C p q (allLostB R C p (b, m)) code b m n).lost.length d2) (toI (resN R C p q (allLostB R C p (b, m)) code b m n).lost) ∧ Below w.heap.size w w' := by
  cases hdm : dirtyB m with
  | true => exact results_r1 _ R C p q B1 B2 g1 g2 n c1 c2 ca A code b m w hb hm hc hn h1 h2 h3 h4 h5 h6 hdm rfl
  | false =>
    cases hrb : rightB R C p b with
    | true => exact results_r01 true R C p q B1 B2 g1 g2 n c1 c2 ca A code b m w hb hm hc hn h1 h2 h3 h4 h5 h6 hdm hrb
    | false => exact results_r00 true R C p q B1 B2 g1 g2 n c1 c2 ca A code b m w hb hm hc hn h1 h2 h3 h4 h5 h6 hdm hrb
end Go.Proofs.YtmpjkdkgolmgdaaGreat
