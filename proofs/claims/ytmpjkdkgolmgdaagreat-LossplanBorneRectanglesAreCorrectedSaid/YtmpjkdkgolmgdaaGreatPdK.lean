/- Product codes: the walk of Decode. -/
import Derived.Test.YtmpjkdkgolmgdaaGreatPdJ
namespace Go.Proofs.YtmpjkdkgolmgdaaGreat
open Go.RowKit
set_option linter.unusedVariables false

set_option maxHeartbeats 2000000 in
theorem pdDecode_bad (A I : Option Addr) (n c me ce : Nat) (R C p q : Int) (w : World) (hn : n ≤ 9223372036854775807) (hf : cdF n R C p q ≠ (0, 0)) :
    Calls Tryz.prog 13 #[.slice A n c, shpV R C p q, .slice I me ce] w fun e w' => e = .returned (.tuple #[.slice none 0 0, .slice none 0 0, .int .i64 0, .agg #[.int .i64 (cdF n R C p q).1, .int .i64 (cdF n R C p q).2]]) ∧ Below w.heap.size w w' := by
  have HV := Lib.hid (fun w => pdBegin_any A n c R C p q w hn)
  have hc := (cdF_code n R C p q).resolve_left hf
  generalize (cdF n R C p q).1 = f at *
  generalize (cdF n R C p q).2 = i at *
  have xC : (f == 0) = false := by rw [beq_eq_false_iff_ne]; exact hc
  clear hf hc
  have S0 := (S4.new w R C p q).al (fltC 0 0)
  have F0 := Has.new (w.alloc (shpC R C p q)) 0 0 27
  have B0 : Below w.heap.size w ((w.alloc (shpC R C p q)).alloc (fltC 0 0)) := by (repeat (first | exact Below.refl _ _ | assumption | refine Bw.al ?_ _ | refine Bw.step ?_ (by assumption) | refine Bw.drew ?_))
  rw [World.size_alloc] at F0
  have hw1 : w.heap.size ≤ w.heap.size + 1 := Nat.le_succ _
  obtain ⟨ls, s0, s1, s2, s3⟩ := id S0
  go_enter Tryz.func13, Tryz.ntmps13
  go_wp2_with fail
  refine (HV.out _).mono ?_
  rintro e w1 ⟨rfl, hb1⟩
  have F1 := (F0.below hb1).al (fltC f i)
  have F2 := Has.new w1 f i 27
  have B1 := Bw.al (Bw.step B0 hb1) (fltC f i)
  clear ls s0 s1 s2 s3
  obtain ⟨l2, c20, c21, f20, f21⟩ := id F2
  go_wp2
  generalize w1.alloc (fltC f i) = W at *
  generalize w1.heap.size = b1 at *
  have X1 := F2.ext
  (refine wp_region_extail 4 (by kernel_rfl) (by kernel_rfl) ?_; simp only [List.take_succ_cons, List.take_zero, List.drop_succ_cons, List.drop_zero]; (repeat (go_big_quiet_step ((fail)))); refine wpQuiet_nil ?_; intro W5 hw'; have hW5 := ext_below hw'; clear hw')
  have F5 := F1.below hW5
  have B5 := Bw.step B1 hW5
  clear X1 c20 c21 f20 f21
  obtain ⟨l1, c10, c11, f10, f11⟩ := id F5
  go_wp2
  exact bodyPost_ret (resF4 rfl rfl (F5.set2 f i)) rfl ⟨rfl, Bw.set (Bw.set B5 (p := ⟨w.heap.size + 1, 0, none⟩) hw1 _) (p := ⟨w.heap.size + 1, 1, none⟩) hw1 _⟩
/-! ### A new decoder variable -/
def N6 (w : World) (b : Nat) : Prop := b < w.heap.size ∧ (w.cell? ⟨b, 0, none⟩ = some (.int .i64 0) ∧ w.cell? ⟨b, 1, none⟩ = some (.int .i64 0) ∧ w.cell? ⟨b, 2, none⟩ = some (.int .i64 0) ∧ w.cell? ⟨b, 3, none⟩ = some (.int .i64 0) ∧ w.cell? ⟨b, 4, none⟩ = some (.slice none 0 0) ∧ w.cell? ⟨b, 5, none⟩ = some (.slice none 0 0)) ∧
  w.frozen? ⟨b, 0, none⟩ = false ∧ w.frozen? ⟨b, 1, none⟩ = false ∧ w.frozen? ⟨b, 2, none⟩ = false ∧ w.frozen? ⟨b, 3, none⟩ = false ∧ w.frozen? ⟨b, 4, none⟩ = false ∧ w.frozen? ⟨b, 5, none⟩ = false
theorem N6.new (w : World) (t : TypeId) : N6 (w.alloc (.cells #[.int .i64 0, .int .i64 0, .int .i64 0, .int .i64 0, .slice none 0 0, .slice none 0 0] t)) w.heap.size :=
  ⟨by simp, ⟨by simp [go_sem], by simp [go_sem], by simp [go_sem], by simp [go_sem], by simp [go_sem], by simp [go_sem]⟩, by simp [go_sem], by simp [go_sem], by simp [go_sem], by simp [go_sem], by simp [go_sem], by simp [go_sem]⟩
theorem N6.below {w w' : World} {b : Nat} (h : N6 w b) (hb : Below w.heap.size w w') : N6 w' b := by
  obtain ⟨l, ⟨c0, c1, c2, c3, c4, c5⟩, f0, f1, f2, f3, f4, f5⟩ := h
  exact ⟨Nat.lt_of_lt_of_le l hb.size, ⟨(hb.cell (p := ⟨b, 0, none⟩) l).trans c0, (hb.cell (p := ⟨b, 1, none⟩) l).trans c1, (hb.cell (p := ⟨b, 2, none⟩) l).trans c2, (hb.cell (p := ⟨b, 3, none⟩) l).trans c3, (hb.cell (p := ⟨b, 4, none⟩) l).trans c4, (hb.cell (p := ⟨b, 5, none⟩) l).trans c5⟩,
    (hb.frozen (p := ⟨b, 0, none⟩) l).trans f0, (hb.frozen (p := ⟨b, 1, none⟩) l).trans f1, (hb.frozen (p := ⟨b, 2, none⟩) l).trans f2, (hb.frozen (p := ⟨b, 3, none⟩) l).trans f3, (hb.frozen (p := ⟨b, 4, none⟩) l).trans f4, (hb.frozen (p := ⟨b, 5, none⟩) l).trans f5⟩
theorem N6.store {w : World} {b : Nat} (h : N6 w b) (R C p q : Int) (v m : Value) :
    S6 ((((((w.setCell ⟨b, 0, none⟩ (.int .i64 R)).setCell ⟨b, 1, none⟩ (.int .i64 C)).setCell ⟨b, 2, none⟩ (.int .i64 p)).setCell ⟨b, 3, none⟩ (.int .i64 q)).setCell ⟨b, 4, none⟩ v).setCell ⟨b, 5, none⟩ m) b R C p q v m := by
  obtain ⟨l, ⟨c0, c1, c2, c3, c4, c5⟩, _⟩ := h
  have oth : ∀ (w : World) (i j : Nat) (u : Value), i ≠ j → (w.setCell ⟨b, i, none⟩ u).cell? ⟨b, j, none⟩ = w.cell? ⟨b, j, none⟩ := fun w i j u h => World.cell?_setCell_other _ _ _ _ (by simp <;> omega)
  refine ⟨⟨⟨by simpa [World.setCell] using l, ?_, ?_, ?_, ?_⟩, ?_⟩, ?_⟩
  · rw [oth _ 5 0 _ (by decide), oth _ 4 0 _ (by decide), oth _ 3 0 _ (by decide), oth _ 2 0 _ (by decide), oth _ 1 0 _ (by decide)]; exact cell_set_same c0
  · rw [oth _ 5 1 _ (by decide), oth _ 4 1 _ (by decide), oth _ 3 1 _ (by decide), oth _ 2 1 _ (by decide)]; exact cell_set_same ((oth _ 0 1 _ (by decide)).trans c1)
  · rw [oth _ 5 2 _ (by decide), oth _ 4 2 _ (by decide), oth _ 3 2 _ (by decide)]; exact cell_set_same (((oth _ 1 2 _ (by decide)).trans (oth _ 0 2 _ (by decide))).trans c2)
  · rw [oth _ 5 3 _ (by decide), oth _ 4 3 _ (by decide)]; exact cell_set_same ((((oth _ 2 3 _ (by decide)).trans (oth _ 1 3 _ (by decide))).trans (oth _ 0 3 _ (by decide))).trans c3)
  · rw [oth _ 5 4 _ (by decide)]; exact cell_set_same (((((oth _ 3 4 _ (by decide)).trans (oth _ 2 4 _ (by decide))).trans (oth _ 1 4 _ (by decide))).trans (oth _ 0 4 _ (by decide))).trans c4)
  · exact cell_set_same ((((((oth _ 4 5 _ (by decide)).trans (oth _ 3 5 _ (by decide))).trans (oth _ 2 5 _ (by decide))).trans (oth _ 1 5 _ (by decide))).trans (oth _ 0 5 _ (by decide))).trans c5)
theorem Exc.set6 {w : World} {b : Nat} (u0 u1 u2 u3 u4 u5 : Value) : Exc [b] w ((((((w.setCell ⟨b, 0, none⟩ u0).setCell ⟨b, 1, none⟩ u1).setCell ⟨b, 2, none⟩ u2).setCell ⟨b, 3, none⟩ u3).setCell ⟨b, 4, none⟩ u4).setCell ⟨b, 5, none⟩ u5) :=
  (Exc.set5 u0 u1 u2 u3 u4).set (p := ⟨b, 5, none⟩) (List.mem_singleton.2 rfl) u5
/-! ### The state of Decode -/
structure DcR (w wr : World) (y g1 g2 : Nat) (R C p q : Int) (n c1 : Nat) (s : St) : Prop where
  sh : S4 wr w.heap.size R C p q
  f : Has wr (w.heap.size + 1) 0 0
  v : S6 wr y R C p q (.slice (some ⟨g1, 0, none⟩) n c1) (.slice (some ⟨g2, 0, none⟩) n n)
  b : OwB wr w.heap.size (.slice (some ⟨g1, 0, none⟩) n c1) s.1
  m : OwT wr w.heap.size (.slice (some ⟨g2, 0, none⟩) n n) s.2
  bw : Below w.heap.size w wr
  ne : g1 ≠ g2
  y1 : y ≠ g1
  y2 : y ≠ g2
  l1 : w.heap.size + 1 < g1
  l2 : w.heap.size + 1 < g2
  ly : w.heap.size + 1 < y
theorem DcR.below {w wr wr' : World} {y g1 g2 : Nat} {R C p q : Int} {n c1 : Nat} {s : St} (r : DcR w wr y g1 g2 R C p q n c1 s) (hb : Below wr.heap.size wr wr') : DcR w wr' y g1 g2 R C p q n c1 s :=
  ⟨r.sh.below hb, r.f.below hb, r.v.below hb, r.b.below hb, r.m.below hb, Bw.step r.bw hb, r.ne, r.y1, r.y2, r.l1, r.l2, r.ly⟩
theorem DcR.upd {w wr W : World} {y g1 g2 : Nat} {R C p q : Int} {n c1 : Nat} {s s' : St} (r : DcR w wr y g1 g2 R C p q n c1 s) (hx : Exc [g1, g2] wr W) (h1 : OwB W w.heap.size (.slice (some ⟨g1, 0, none⟩) n c1) s'.1) (h2 : OwT W w.heap.size (.slice (some ⟨g2, 0, none⟩) n n) s'.2) : DcR w W y g1 g2 R C p q n c1 s' :=
  ⟨r.sh.exc hx (by have := r.l1; have := r.l2; simp; omega), r.f.exc hx (by have := r.l1; have := r.l2; simp; omega), r.v.exc hx (by have := r.y1; have := r.y2; simp; omega), h1, h2, r.bw.trans (hx.below r.bw.size (by have := r.l1; have := r.l2; simp; omega)), r.ne, r.y1, r.y2, r.l1, r.l2, r.ly⟩
theorem DcR.setM {w wr : World} {y g1 g2 : Nat} {R C p q : Int} {n c1 : Nat} {b : List GF} {m : List Bool} (r : DcR w wr y g1 g2 R C p q n c1 (b, m)) (i : Nat) (t : Bool) : DcR w (wr.setCell ⟨g2, i, none⟩ (.bool t)) y g1 g2 R C p q n c1 (b, m.set i t) :=
  have X := (Exc.refl [g2] wr).set (p := ⟨g2, i, none⟩) (List.mem_singleton.2 rfl) (.bool t)
  r.upd (X.more (by simp)) (r.b.exc X (by have := r.ne; simp; omega)) (r.m.set i t)
theorem DcR.put {w W : World} {y g1 g2 : Nat} {R C p q : Int} {n c1 : Nat} {b : List GF} {m : List Bool} (hs : S4 W w.heap.size R C p q) (hf : Has W (w.heap.size + 1) 0 0) (h1 : OwB W w.heap.size (.slice (some ⟨g1, 0, none⟩) n c1) b) (h2 : OwT W w.heap.size (.slice (some ⟨g2, 0, none⟩) n n) m) (hy : N6 W y) (hb : Below w.heap.size w W)
    (ne : g1 ≠ g2) (y1 : y ≠ g1) (y2 : y ≠ g2) (l1 : w.heap.size + 1 < g1) (l2 : w.heap.size + 1 < g2) (ly : w.heap.size + 1 < y) :
    DcR w ((((((W.setCell ⟨y, 0, none⟩ (.int .i64 R)).setCell ⟨y, 1, none⟩ (.int .i64 C)).setCell ⟨y, 2, none⟩ (.int .i64 p)).setCell ⟨y, 3, none⟩ (.int .i64 q)).setCell ⟨y, 4, none⟩ (.slice (some ⟨g1, 0, none⟩) n c1)).setCell ⟨y, 5, none⟩ (.slice (some ⟨g2, 0, none⟩) n n)) y g1 g2 R C p q n c1 (b, m) :=
  have X := Exc.set6 (w := W) (b := y) (.int .i64 R) (.int .i64 C) (.int .i64 p) (.int .i64 q) (.slice (some ⟨g1, 0, none⟩) n c1) (.slice (some ⟨g2, 0, none⟩) n n)
  ⟨hs.exc X (by simp; omega), hf.exc X (by simp; omega), hy.store _ _ _ _ _ _, h1.exc X (by simp; omega), h2.exc X (by simp; omega), hb.trans (X.below hb.size (by simp; omega)), ne, y1, y2, l1, l2, ly⟩
/-- What Decode returns for a block of the right size. -/
def PdPost (n R C p q : Nat) (code : List GF) (er : List Int) (w0 : World) (e : Ending) (w : World) : Prop :=
  Below w0.heap.size w0 w ∧
  ((incF er (n : Nat) 10 ≠ (0, 0) ∧ e = .returned (.tuple #[.slice none 0 0, .slice none 0 0, .int .i64 0, .agg #[.int .i64 (incF er (n : Nat) 10).1, .int .i64 (incF er (n : Nat) 10).2]])) ∨
   ∃ es, er = toI es ∧ es.Nodup ∧ (∀ i ∈ es, i < n) ∧ es.Pairwise (· < ·) ∧
     ∃ A1 d1 A2 d2, e = .returned (.tuple #[.slice A1 (unblockL R C p q code es).data.length d1, .slice A2 (unblockL R C p q code es).lost.length d2, .int .i64 ((unblockL R C p q code es).fixed : Nat), .agg #[.int .i64 0, .int .i64 0]]) ∧
       OwB w w0.heap.size (.slice A1 (unblockL R C p q code es).data.length d1) (unblockL R C p q code es).data ∧ OwI w w0.heap.size (.slice A2 (unblockL R C p q code es).lost.length d2) (toI (unblockL R C p q code es).lost))
def mkI (n : Nat) (er : List Int) : Nat → List Bool
  | 0 => List.replicate n false
  | k + 1 => (mkI n er k).set (er.getD k 0).toNat true
theorem mkI_toI (n : Nat) (es : List Nat) : ∀ k, mkI n (toI es) k = markN n es k := by
  intro k
  induction k with
  | zero => rfl
  | succ k ih => show (mkI n (toI es) k).set _ true = (markN n es k).set _ true; rw [ih, toI_getD]; rfl
set_option maxRecDepth 100000 in
set_option maxHeartbeats 16000000 in
theorem pdDecode_ok (A I : Option Addr) (n c me ce R C p q : Nat) (code : List GF) (er : List Int) (w : World) (hl : RdB w A n code) (hi : RdI w I me er) (hme : me ≤ 9223372036854775700) (hn : n = R * C) (h1 : 1 ≤ R) (h2 : R ≤ 32) (h3 : 1 ≤ C) (h4 : C ≤ 32) (h5 : p < C) (h6 : q < R) :
    Calls Tryz.prog 13 #[.slice A n c, shpV R C p q, .slice I me ce] w fun e w' => PdPost n R C p q code er w e w' := by
  have li : me = er.length := hi.1.symm
  subst li
  have hN : n ≤ 1024 := by have := (mul32 h2 h4).2; rw [← Int.natCast_mul, ← hn] at this; omega
  have hn1 : 1 ≤ n := by rw [hn]; exact Nat.mul_pos h1 h3
  have HV := Lib.hid (fun w => pdBegin_any A n c R C p q w (by omega))
  rw [cdF_ok h1 h2 h3 h4 h5 h6 hn] at HV
  have HL := Lib.hid hl
  have HI := Lib.hid hi
  have HN := Lib.hid hn
  clear hn hl hi
  have S0 := (S4.new w R C p q).al (fltC 0 0)
  have F0 := Has.new (w.alloc (shpC R C p q)) 0 0 27
  have B0 : Below w.heap.size w ((w.alloc (shpC R C p q)).alloc (fltC 0 0)) := by (repeat (first | exact Below.refl _ _ | assumption | refine Bw.al ?_ _ | refine Bw.step ?_ (by assumption) | refine Bw.drew ?_))
  rw [World.size_alloc] at F0
  have hw1 : w.heap.size ≤ w.heap.size + 1 := Nat.le_succ _
  obtain ⟨ls, s0, s1, s2, s3⟩ := id S0
  go_enter Tryz.func13, Tryz.ntmps13
  go_wp2_with fail
  refine (HV.out _).mono ?_
  rintro e w1 ⟨rfl, hb1⟩
  have hz1 : w.heap.size + 1 < w1.heap.size := Nat.lt_of_lt_of_le F0.1 hb1.size
  have S1 := (S0.below hb1).al (fltC 0 0)
  have F1 := (F0.below hb1).al (fltC 0 0)
  have F2 := Has.new w1 0 0 27
  have B1 := Bw.al (Bw.step B0 hb1) (fltC 0 0)
  clear ls s0 s1 s2 s3
  obtain ⟨l2, c20, c21, f20, f21⟩ := id F2
  have HMT := fun w => run_makeT n (by omega) w
  go_wp2
  have hzr : w.heap.size + 1 < (w1.alloc (fltC 0 0)).heap.size := by rw [World.size_alloc]; omega
  generalize w1.alloc (fltC 0 0) = wr at *
  clear l2 c20 c21 f20 f21
  have hwr : w.heap.size ≤ wr.heap.size := by omega
  have HCL := Lib.hid (fun W (hG : Gr wr W) => (cloneB_any A n c code W ((HL.out.below B1).below hG) (by omega)).mono (fun e w' ⟨A', c', he, ho, hb⟩ =>
    show ∃ g1 c1, e = Ending.returned (.slice (some ⟨g1, 0, none⟩) n c1) ∧ OwB w' W.heap.size (.slice (some ⟨g1, 0, none⟩) n c1) code ∧ Below W.heap.size W w' from by
      have hcl := HL.out.1
      rw [hcl] at he ho
      obtain ⟨g1, rfl⟩ := ho.head hn1
      exact ⟨g1, c', he, ho, hb⟩))
  apply wp_region_mid4 (α := Nat) (β := Nat) (γ := Nat) (δ := Nat) (fun g1 c1 g2 y W => DcR w W y g1 g2 R C p q n c1 (code, List.replicate n false))
  case h =>
    intro QQ HQ
    have hx0 := fun z (hz : Gr wr z) x => cell_extz hz S1.1 S1.2.1 x
    have hx1 := fun z (hz : Gr wr z) x => cell_extz hz S1.1 S1.2.2.1 x
    have hx2 := fun z (hz : Gr wr z) x => cell_extz hz S1.1 S1.2.2.2.1 x
    have hx3 := fun z (hz : Gr wr z) x => cell_extz hz S1.1 S1.2.2.2.2 x
    (refine wp_region_tree [0, 1, 2, 3, 4, 5, 6, 7, 8] [9] 9 (by kernel_rfl) (by kernel_rfl) (by kernel_rfl) ?_; intro Va ga)
    (apply tree_quiet [0, 1, 4, 5] (r := 5) (by kernel_rfl) (by kernel_rfl) (by kernel_rfl) (by kernel_rfl); (case hq => (intro z hz; simp only [pick, List.getElem?_cons_succ, List.getElem?_cons_zero]; (have hx0 := hx0 z (ga.trans hz); have hx1 := hx1 z (ga.trans hz); have hx2 := hx2 z (ga.trans hz); have hx3 := hx3 z (ga.trans hz)); (repeat (go_big_quiet_step ((fail)))); refine wpQuiet_nil ?_; exact rfl)); (case' h => intro V0 gc))
    have G := ga.trans gc
    clear ga gc hx0 hx1 hx2 hx3
    (refine tree_three 2 6 8 rfl rfl rfl (by kernel_rfl) ?_ ?_ ?_)
    · skip
      go_wp2_with (go_at_call 36; refine (HCL.out _ G).mono ?_; rintro e w' ⟨g1, c1, rfl, ho, hb⟩)
      refine ⟨hb, fun V1 hg => ?_⟩
      have O1 : OwB V1 w.heap.size (.slice (some ⟨g1, 0, none⟩) n c1) code := own_base (ho.below hg) (Nat.le_trans hwr G.size)
      have gb1 : wr.heap.size ≤ g1 := Nat.le_trans G.size ho.lt.1
      replace hg : Gr V0 V1 := hb.trans (hg.mono hb.size)
      have G := Gr.trans G hg
      clear ho hb hg
      (apply tree_quiet [3] (r := 3) (by kernel_rfl) (by kernel_rfl) (by kernel_rfl) (by kernel_rfl); (case hq => (intro z hz; simp only [pick, List.getElem?_cons_succ, List.getElem?_cons_zero]; (skip); (repeat (go_big_quiet_step ((fail)))); refine wpQuiet_nil ?_; exact rfl)); (case' h => intro U1 hg))
      have O1 := O1.below hg
      have G := Gr.trans G hg
      clear hg
      (refine tree_two 6 8 rfl rfl (by kernel_rfl) ?_ ?_)
      · skip
        go_wp2
        refine ⟨below_new _ _, fun V2 hg => ?_⟩
        have O2 := (OwT.new U1 w.heap.size n (Nat.le_trans hwr G.size) (by unfold maxLen; omega)).below hg
        have gb2 : wr.heap.size ≤ U1.heap.size := G.size
        have n2g1 := O1.lt.2
        replace hg : Gr U1 V2 := Bw.step (below_new _ _) hg
        have O1 := O1.below hg
        have G := Gr.trans G hg
        clear hg
        generalize U1.heap.size = g2 at *
        (apply tree_quiet [7] (r := 1) (by kernel_rfl) (by kernel_rfl) (by kernel_rfl) (by kernel_rfl); (case hq => (intro z hz; simp only [pick, List.getElem?_cons_succ, List.getElem?_cons_zero]; (skip); (repeat (go_big_quiet_step ((fail)))); refine wpQuiet_nil ?_; exact rfl)); (case' h => intro T2 hg))
        have O1 := O1.below hg
        have O2 := O2.below hg
        have G := Gr.trans G hg
        clear hg
        (refine tree_one 8 rfl (by kernel_rfl) ?_)
        go_wp2
        refine ⟨below_new _ _, fun V3 hg => ?_⟩
        have N6 := (N6.new T2 70).below hg
        have gb3 : wr.heap.size ≤ T2.heap.size := G.size
        have n3g1 := O1.lt.2
        have n3g2 := O2.lt.2
        replace hg : Gr T2 V3 := Bw.step (below_new _ _) hg
        have O1 := O1.below hg
        have O2 := O2.below hg
        have G := Gr.trans G hg
        clear hg
        generalize T2.heap.size = y at *
        obtain ⟨ly, ⟨y0, y1, y2, y3, y4, y5⟩, z0, z1, z2, z3, z4, z5⟩ := id N6
        (refine tree_end (by kernel_rfl) ?_; simp only [pick, List.getElem?_cons_succ, List.getElem?_cons_zero])
        go_wp2
        exact HQ.out g1 c1 g2 y _ (DcR.put (S1.below G) (F1.below G) O1 O2 N6 (B1.trans (G.mono hwr)) (by omega) (by omega) (by omega) (by omega) (by omega) (by omega))
      · skip
        go_wp2
        refine ⟨below_new _ _, fun V4 hg => ?_⟩
        have N6 := (N6.new U1 70).below hg
        have gb3 : wr.heap.size ≤ U1.heap.size := G.size
        have n3g1 := O1.lt.2
        replace hg : Gr U1 V4 := Bw.step (below_new _ _) hg
        have O1 := O1.below hg
        have G := Gr.trans G hg
        clear hg
        generalize U1.heap.size = y at *
        (refine tree_one 6 rfl (by kernel_rfl) ?_)
        go_wp2
        refine ⟨below_new _ _, fun V5 hg => ?_⟩
        have O2 := (OwT.new V4 w.heap.size n (Nat.le_trans hwr G.size) (by unfold maxLen; omega)).below hg
        have gb2 : wr.heap.size ≤ V4.heap.size := G.size
        have n2g1 := O1.lt.2
        have n2y := N6.1
        replace hg : Gr V4 V5 := Bw.step (below_new _ _) hg
        have O1 := O1.below hg
        have N6 := N6.below hg
        have G := Gr.trans G hg
        clear hg
        generalize V4.heap.size = g2 at *
        (apply tree_quiet [7] (r := 0) (by kernel_rfl) (by kernel_rfl) (by kernel_rfl) (by kernel_rfl); (case hq => (intro z hz; simp only [pick, List.getElem?_cons_succ, List.getElem?_cons_zero]; (skip); (repeat (go_big_quiet_step ((fail)))); refine wpQuiet_nil ?_; exact rfl)); (case' h => intro T5 hg))
        have O1 := O1.below hg
        have N6 := N6.below hg
        have O2 := O2.below hg
        have G := Gr.trans G hg
        clear hg
        obtain ⟨ly, ⟨y0, y1, y2, y3, y4, y5⟩, z0, z1, z2, z3, z4, z5⟩ := id N6
        (refine tree_end (by kernel_rfl) ?_; simp only [pick, List.getElem?_cons_succ, List.getElem?_cons_zero])
        go_wp2
        exact HQ.out g1 c1 g2 y _ (DcR.put (S1.below G) (F1.below G) O1 O2 N6 (B1.trans (G.mono hwr)) (by omega) (by omega) (by omega) (by omega) (by omega) (by omega))
    · skip
      go_wp2
      refine ⟨below_new _ _, fun V6 hg => ?_⟩
      have O2 := (OwT.new V0 w.heap.size n (Nat.le_trans hwr G.size) (by unfold maxLen; omega)).below hg
      have gb2 : wr.heap.size ≤ V0.heap.size := G.size
      replace hg : Gr V0 V6 := Bw.step (below_new _ _) hg
      have G := Gr.trans G hg
      clear hg
      generalize V0.heap.size = g2 at *
      (refine tree_two 2 8 rfl rfl (by kernel_rfl) ?_ ?_)
      · skip
        go_wp2_with (go_at_call 36; refine (HCL.out _ G).mono ?_; rintro e w' ⟨g1, c1, rfl, ho, hb⟩)
        refine ⟨hb, fun V7 hg => ?_⟩
        have O1 : OwB V7 w.heap.size (.slice (some ⟨g1, 0, none⟩) n c1) code := own_base (ho.below hg) (Nat.le_trans hwr G.size)
        have gb1 : wr.heap.size ≤ g1 := Nat.le_trans G.size ho.lt.1
        have n1g2 : g2 < g1 := Nat.lt_of_lt_of_le O2.lt.2 ho.lt.1
        replace hg : Gr V6 V7 := hb.trans (hg.mono hb.size)
        have O2 := O2.below hg
        have G := Gr.trans G hg
        clear ho hb hg
        (apply tree_quiet [3] (r := 2) (by kernel_rfl) (by kernel_rfl) (by kernel_rfl) (by kernel_rfl); (case hq => (intro z hz; simp only [pick, List.getElem?_cons_succ, List.getElem?_cons_zero]; (skip); (repeat (go_big_quiet_step ((fail)))); refine wpQuiet_nil ?_; exact rfl)); (case' h => intro U7 hg))
        have O2 := O2.below hg
        have O1 := O1.below hg
        have G := Gr.trans G hg
        clear hg
        (apply tree_quiet [7] (r := 1) (by kernel_rfl) (by kernel_rfl) (by kernel_rfl) (by kernel_rfl); (case hq => (intro z hz; simp only [pick, List.getElem?_cons_succ, List.getElem?_cons_zero]; (skip); (repeat (go_big_quiet_step ((fail)))); refine wpQuiet_nil ?_; exact rfl)); (case' h => intro T7 hg))
        have O2 := O2.below hg
        have O1 := O1.below hg
        have G := Gr.trans G hg
        clear hg
        (refine tree_one 8 rfl (by kernel_rfl) ?_)
        go_wp2
        refine ⟨below_new _ _, fun V8 hg => ?_⟩
        have N6 := (N6.new T7 70).below hg
        have gb3 : wr.heap.size ≤ T7.heap.size := G.size
        have n3g2 := O2.lt.2
        have n3g1 := O1.lt.2
        replace hg : Gr T7 V8 := Bw.step (below_new _ _) hg
        have O2 := O2.below hg
        have O1 := O1.below hg
        have G := Gr.trans G hg
        clear hg
        generalize T7.heap.size = y at *
        obtain ⟨ly, ⟨y0, y1, y2, y3, y4, y5⟩, z0, z1, z2, z3, z4, z5⟩ := id N6
        (refine tree_end (by kernel_rfl) ?_; simp only [pick, List.getElem?_cons_succ, List.getElem?_cons_zero])
        go_wp2
        exact HQ.out g1 c1 g2 y _ (DcR.put (S1.below G) (F1.below G) O1 O2 N6 (B1.trans (G.mono hwr)) (by omega) (by omega) (by omega) (by omega) (by omega) (by omega))
      · skip
        go_wp2
        refine ⟨below_new _ _, fun V9 hg => ?_⟩
        have N6 := (N6.new V6 70).below hg
        have gb3 : wr.heap.size ≤ V6.heap.size := G.size
        have n3g2 := O2.lt.2
        replace hg : Gr V6 V9 := Bw.step (below_new _ _) hg
        have O2 := O2.below hg
        have G := Gr.trans G hg
        clear hg
        generalize V6.heap.size = y at *
        (refine tree_one 2 rfl (by kernel_rfl) ?_)
        go_wp2_with (go_at_call 36; refine (HCL.out _ G).mono ?_; rintro e w' ⟨g1, c1, rfl, ho, hb⟩)
        refine ⟨hb, fun V10 hg => ?_⟩
        have O1 : OwB V10 w.heap.size (.slice (some ⟨g1, 0, none⟩) n c1) code := own_base (ho.below hg) (Nat.le_trans hwr G.size)
        have gb1 : wr.heap.size ≤ g1 := Nat.le_trans G.size ho.lt.1
        have n1g2 : g2 < g1 := Nat.lt_of_lt_of_le O2.lt.2 ho.lt.1
        have n1y : y < g1 := Nat.lt_of_lt_of_le N6.1 ho.lt.1
        replace hg : Gr V9 V10 := hb.trans (hg.mono hb.size)
        have O2 := O2.below hg
        have N6 := N6.below hg
        have G := Gr.trans G hg
        clear ho hb hg
        (apply tree_quiet [3] (r := 1) (by kernel_rfl) (by kernel_rfl) (by kernel_rfl) (by kernel_rfl); (case hq => (intro z hz; simp only [pick, List.getElem?_cons_succ, List.getElem?_cons_zero]; (skip); (repeat (go_big_quiet_step ((fail)))); refine wpQuiet_nil ?_; exact rfl)); (case' h => intro U10 hg))
        have O2 := O2.below hg
        have N6 := N6.below hg
        have O1 := O1.below hg
        have G := Gr.trans G hg
        clear hg
        (apply tree_quiet [7] (r := 0) (by kernel_rfl) (by kernel_rfl) (by kernel_rfl) (by kernel_rfl); (case hq => (intro z hz; simp only [pick, List.getElem?_cons_succ, List.getElem?_cons_zero]; (skip); (repeat (go_big_quiet_step ((fail)))); refine wpQuiet_nil ?_; exact rfl)); (case' h => intro T10 hg))
        have O2 := O2.below hg
        have N6 := N6.below hg
        have O1 := O1.below hg
        have G := Gr.trans G hg
        clear hg
        obtain ⟨ly, ⟨y0, y1, y2, y3, y4, y5⟩, z0, z1, z2, z3, z4, z5⟩ := id N6
        (refine tree_end (by kernel_rfl) ?_; simp only [pick, List.getElem?_cons_succ, List.getElem?_cons_zero])
        go_wp2
        exact HQ.out g1 c1 g2 y _ (DcR.put (S1.below G) (F1.below G) O1 O2 N6 (B1.trans (G.mono hwr)) (by omega) (by omega) (by omega) (by omega) (by omega) (by omega))
    · skip
      go_wp2
      refine ⟨below_new _ _, fun V11 hg => ?_⟩
      have N6 := (N6.new V0 70).below hg
      have gb3 : wr.heap.size ≤ V0.heap.size := G.size
      replace hg : Gr V0 V11 := Bw.step (below_new _ _) hg
      have G := Gr.trans G hg
      clear hg
      generalize V0.heap.size = y at *
      (refine tree_two 2 6 rfl rfl (by kernel_rfl) ?_ ?_)
      · skip
        go_wp2_with (go_at_call 36; refine (HCL.out _ G).mono ?_; rintro e w' ⟨g1, c1, rfl, ho, hb⟩)
        refine ⟨hb, fun V12 hg => ?_⟩
        have O1 : OwB V12 w.heap.size (.slice (some ⟨g1, 0, none⟩) n c1) code := own_base (ho.below hg) (Nat.le_trans hwr G.size)
        have gb1 : wr.heap.size ≤ g1 := Nat.le_trans G.size ho.lt.1
        have n1y : y < g1 := Nat.lt_of_lt_of_le N6.1 ho.lt.1
        replace hg : Gr V11 V12 := hb.trans (hg.mono hb.size)
        have N6 := N6.below hg
        have G := Gr.trans G hg
        clear ho hb hg
        (apply tree_quiet [3] (r := 2) (by kernel_rfl) (by kernel_rfl) (by kernel_rfl) (by kernel_rfl); (case hq => (intro z hz; simp only [pick, List.getElem?_cons_succ, List.getElem?_cons_zero]; (skip); (repeat (go_big_quiet_step ((fail)))); refine wpQuiet_nil ?_; exact rfl)); (case' h => intro U12 hg))
        have N6 := N6.below hg
        have O1 := O1.below hg
        have G := Gr.trans G hg
        clear hg
        (refine tree_one 6 rfl (by kernel_rfl) ?_)
        go_wp2
        refine ⟨below_new _ _, fun V13 hg => ?_⟩
        have O2 := (OwT.new U12 w.heap.size n (Nat.le_trans hwr G.size) (by unfold maxLen; omega)).below hg
        have gb2 : wr.heap.size ≤ U12.heap.size := G.size
        have n2y := N6.1
        have n2g1 := O1.lt.2
        replace hg : Gr U12 V13 := Bw.step (below_new _ _) hg
        have N6 := N6.below hg
        have O1 := O1.below hg
        have G := Gr.trans G hg
        clear hg
        generalize U12.heap.size = g2 at *
        (apply tree_quiet [7] (r := 0) (by kernel_rfl) (by kernel_rfl) (by kernel_rfl) (by kernel_rfl); (case hq => (intro z hz; simp only [pick, List.getElem?_cons_succ, List.getElem?_cons_zero]; (skip); (repeat (go_big_quiet_step ((fail)))); refine wpQuiet_nil ?_; exact rfl)); (case' h => intro T13 hg))
        have N6 := N6.below hg
        have O1 := O1.below hg
        have O2 := O2.below hg
        have G := Gr.trans G hg
        clear hg
        obtain ⟨ly, ⟨y0, y1, y2, y3, y4, y5⟩, z0, z1, z2, z3, z4, z5⟩ := id N6
        (refine tree_end (by kernel_rfl) ?_; simp only [pick, List.getElem?_cons_succ, List.getElem?_cons_zero])
        go_wp2
        exact HQ.out g1 c1 g2 y _ (DcR.put (S1.below G) (F1.below G) O1 O2 N6 (B1.trans (G.mono hwr)) (by omega) (by omega) (by omega) (by omega) (by omega) (by omega))
      · skip
        go_wp2
        refine ⟨below_new _ _, fun V14 hg => ?_⟩
        have O2 := (OwT.new V11 w.heap.size n (Nat.le_trans hwr G.size) (by unfold maxLen; omega)).below hg
        have gb2 : wr.heap.size ≤ V11.heap.size := G.size
        have n2y := N6.1
        replace hg : Gr V11 V14 := Bw.step (below_new _ _) hg
        have N6 := N6.below hg
        have G := Gr.trans G hg
        clear hg
        generalize V11.heap.size = g2 at *
        (refine tree_one 2 rfl (by kernel_rfl) ?_)
        go_wp2_with (go_at_call 36; refine (HCL.out _ G).mono ?_; rintro e w' ⟨g1, c1, rfl, ho, hb⟩)
        refine ⟨hb, fun V15 hg => ?_⟩
        have O1 : OwB V15 w.heap.size (.slice (some ⟨g1, 0, none⟩) n c1) code := own_base (ho.below hg) (Nat.le_trans hwr G.size)
        have gb1 : wr.heap.size ≤ g1 := Nat.le_trans G.size ho.lt.1
        have n1y : y < g1 := Nat.lt_of_lt_of_le N6.1 ho.lt.1
        have n1g2 : g2 < g1 := Nat.lt_of_lt_of_le O2.lt.2 ho.lt.1
        replace hg : Gr V14 V15 := hb.trans (hg.mono hb.size)
        have N6 := N6.below hg
        have O2 := O2.below hg
        have G := Gr.trans G hg
        clear ho hb hg
        (apply tree_quiet [3] (r := 1) (by kernel_rfl) (by kernel_rfl) (by kernel_rfl) (by kernel_rfl); (case hq => (intro z hz; simp only [pick, List.getElem?_cons_succ, List.getElem?_cons_zero]; (skip); (repeat (go_big_quiet_step ((fail)))); refine wpQuiet_nil ?_; exact rfl)); (case' h => intro U15 hg))
        have N6 := N6.below hg
        have O2 := O2.below hg
        have O1 := O1.below hg
        have G := Gr.trans G hg
        clear hg
        (apply tree_quiet [7] (r := 0) (by kernel_rfl) (by kernel_rfl) (by kernel_rfl) (by kernel_rfl); (case hq => (intro z hz; simp only [pick, List.getElem?_cons_succ, List.getElem?_cons_zero]; (skip); (repeat (go_big_quiet_step ((fail)))); refine wpQuiet_nil ?_; exact rfl)); (case' h => intro T15 hg))
        have N6 := N6.below hg
        have O2 := O2.below hg
        have O1 := O1.below hg
        have G := Gr.trans G hg
        clear hg
        obtain ⟨ly, ⟨y0, y1, y2, y3, y4, y5⟩, z0, z1, z2, z3, z4, z5⟩ := id N6
        (refine tree_end (by kernel_rfl) ?_; simp only [pick, List.getElem?_cons_succ, List.getElem?_cons_zero])
        go_wp2
        exact HQ.out g1 c1 g2 y _ (DcR.put (S1.below G) (F1.below G) O1 O2 N6 (B1.trans (G.mono hwr)) (by omega) (by omega) (by omega) (by omega) (by omega) (by omega))
  case h2 =>
    intro g1 c1 g2 y W hD
    have HD0 := Lib.hid hD
    have HS := Lib.hid (show incF er (n : Nat) 10 = incR er (n : Nat) 10 (er.length - 0) by unfold incF; rfl)
    have HPO := Lib.hid (fun (P : Prop) (h : P) => h)
    clear hD S1 F1 B1 F2 HMT HCL S0 F0 B0 HV HPO
    go_wp2
    go_loopw [34] (fun i wr => ∃ k : Nat, k ≤ er.length ∧ i = .int .i64 k ∧ Hid (incF er (n : Nat) 10 = incR er (n : Nat) 10 (er.length - k)) ∧ DcR w wr y g1 g2 R C p q n c1 (code, mkI n er k)) (fun i _ => er.length - (intOf i).toNat)
    case atStart => exact ⟨0, Nat.zero_le _, rfl, HS, HD0.out⟩
    case round =>
      obtain ⟨k, hk, rfl, hs', hD⟩ := hrel
      have hs := hs'.out
      clear hs' HD0 HS
      by_cases hlt : k < er.length
      · --[[er
        rw [incR_at er _ 10 hlt] at hs
        have hl1 := HI.out.below hD.bw
        obtain ⟨bi, oi, rfl, hlb, hcc⟩ := rdI_cell hl1 (i := k) hlt
        obtain ⟨lf, f0, f1, f2, f3⟩ := id hD.f
        have hF := Lib.hid hD.f
        have hBW := Lib.hid hD.bw
        by_cases cc1 : 0 ≤ er.getD k 0 ∧ er.getD k 0 ≤ (n : Int) - 1
        · rw [if_neg (by simpa using cc1)] at hs
          obtain ⟨j, hj⟩ := Int.eq_ofNat_of_zero_le cc1.1
          have hjn : j < n := by omega
          have HMK : Hid (mkI n er (k + 1) = (mkI n er k).set j true) := Lib.hid (by show (mkI n er k).set (er.getD k 0).toNat true = _; rw [hj]; rfl)
          have HNX := Lib.hid (hD.setM j true)
          have hco := hD.m.cellAt (i := j) hjn
          have hfo := hD.m.frozenAt j
          obtain ⟨⟨⟨ls, s0, s1, s2, s3⟩, s4⟩, s5⟩ := id hD.v
          rw [hj] at hcc hs
          have hco2 : wr.cell? ⟨g2, j, none⟩ = some (.bool ((mkI n er k).getD j false)) := hco
          clear hco
          generalize (mkI n er k).getD j false = mo at *
          clear cc1 hD
          by_cases hk0 : k = 0
          · rw [if_neg (fun h => absurd h.1 (by omega))] at hs
            have HSS := Lib.hid hs
            have dk : decide (0 < k) = false := by simp only [decide_eq_false_iff_not]; omega
            clear hs hk0 hj
            go_wp2
            go_roundw
            case rel => first | exact ⟨k + 1, by omega, by go_num, HSS, by (rw [HMK.out]; exact HNX.out)⟩ | ((repeat apply Exists.intro); exact ⟨⟨k + 1, by omega, by go_num, HSS, by (rw [HMK.out]; exact HNX.out)⟩, rfl⟩)
            case measure => simp [intOf]; omega
          · obtain ⟨b', off', e', _, hcd⟩ := rdI_cell hl1 (i := k - 1) (by omega)
            cases e'
            have ws : IntKind.i64.wrap ((k : Int) - 1) = ((k - 1 : Nat) : Int) := by rw [IntWalk.i64_in _ (by omega)]; omega
            have ws2 : (k : Int) - 1 = ((k - 1 : Nat) : Int) := by omega
            have hk1 : k - 1 < er.length := by omega
            have dk : decide (0 < k) = true := by simp only [decide_eq_true_eq]; omega
            by_cases c2 : (j : Int) ≤ er.getD (k - 1) 0
            · rw [if_pos ⟨by omega, c2⟩] at hs
              have HSS := Lib.hid hs
              have dc : decide ((j : Int) ≤ er.getD (k - 1) 0) = true := by simp only [decide_eq_true_eq]; exact c2
              clear hs c2 hj
              generalize er.getD (k - 1) 0 = z at *
              go_wp2_with fail
              refine (pdFault_any _ _ _).mono ?_
              rintro e w9 ⟨rfl, hb9⟩
              have hF9 := hF.out.below hb9
              clear lf f0 f1 f2 f3
              obtain ⟨lf, f0, f1, f2, f3⟩ := id hF9
              go_wp2
              exact bodyPost_ret (resF4 rfl rfl (hF9.set2 11 _)) rfl ⟨Bw.set (Bw.set (Bw.step hBW.out hb9) (p := ⟨w.heap.size + 1, 0, none⟩) hw1 _) (p := ⟨w.heap.size + 1, 1, none⟩) hw1 _, .inl ⟨by rw [HSS.out]; simp, by rw [HSS.out]; rfl⟩⟩
            · rw [if_neg (fun h => c2 h.2)] at hs
              have HSS := Lib.hid hs
              have dc : decide ((j : Int) ≤ er.getD (k - 1) 0) = false := by simp only [decide_eq_false_iff_not]; exact c2
              clear hs c2 hj
              generalize er.getD (k - 1) 0 = z at *
              go_wp2
              go_roundw
              case rel => first | exact ⟨k + 1, by omega, by go_num, HSS, by (rw [HMK.out]; exact HNX.out)⟩ | ((repeat apply Exists.intro); exact ⟨⟨k + 1, by omega, by go_num, HSS, by (rw [HMK.out]; exact HNX.out)⟩, rfl⟩)
              case measure => simp [intOf]; omega
        · rw [if_pos cc1] at hs
          have HSS := Lib.hid hs
          by_cases c2 : er.getD k 0 < 0
          all_goals
            clear hs hD
            generalize er.getD k 0 = v at *
            first
              | (have d1 : decide (v < 0) = true := by simp only [decide_eq_true_eq]; omega)
              | (have d1 : decide (v < 0) = false := by simp only [decide_eq_false_iff_not]; omega
                 have d2 : decide ((n : Int) ≤ v) = true := by simp only [decide_eq_true_eq]; omega)
            clear cc1 c2
            go_wp2_with fail
            refine (pdFault_any _ _ _).mono ?_
            rintro e w9 ⟨rfl, hb9⟩
            have hF9 := hF.out.below hb9
            clear lf f0 f1 f2 f3
            obtain ⟨lf, f0, f1, f2, f3⟩ := id hF9
            go_wp2
            exact bodyPost_ret (resF4 rfl rfl (hF9.set2 4 _)) rfl ⟨Bw.set (Bw.set (Bw.step hBW.out hb9) (p := ⟨w.heap.size + 1, 0, none⟩) hw1 _) (p := ⟨w.heap.size + 1, 1, none⟩) hw1 _, .inl ⟨by rw [HSS.out]; simp, by rw [HSS.out]; rfl⟩⟩
      · --[[rounds
        obtain rfl : k = er.length := by omega
        rw [incR_end] at hs
        obtain ⟨es, rfl, hnd, hel, hen, hP⟩ := incF_nat hs
        have HES := Lib.hid (⟨hnd, hel, hP⟩ : es.Nodup ∧ (∀ i ∈ es, i < n) ∧ es.Pairwise (· < ·))
        rw [toI_len, mkI_toI] at hD
        have HFIN : Hid (∀ b m, runL R C p q 4 (code, markN n es es.length) = (b, m) → unblockL R C p q code es = resN R C p q (allLostB R C p (b, m)) code b m n) := Lib.hid fun b m h => by
          unfold unblockL
          rw [HL.out.1, h, HN.out]
        have HD0 := Lib.hid hD
        generalize markN n es es.length = m0 at *
        clear hs hnd hel hen hP hD hlt hk
        go_wp2
        go_loopw [71] (fun i wr => ∃ (j : Nat) (b : List GF) (m : List Bool), j ≤ 4 ∧ i = .int .i64 j ∧ Hid (runL R C p q 4 (code, m0) = runL R C p q (4 - j) (b, m)) ∧ DcR w wr y g1 g2 R C p q n c1 (b, m)) (fun i _ => 4 - (intOf i).toNat)
        case atStart => exact ⟨0, code, m0, Nat.zero_le _, rfl, Lib.hid rfl, HD0.out⟩
        case round =>
          obtain ⟨j, b, m, hj, rfl, HR, hD⟩ := hrel
          clear HD0
          by_cases hlj : j < 4
          · have HRD := Lib.hid (round_any R C p q w.heap.size g1 g2 n c1 n b m _ hD.b hD.m hD.ne HN.out h2 h4 h5 h6)
            have HUP := Lib.hid (fun W (s' : St) h1 h2 h3 => hD.upd (W := W) (s' := s') h1 h2 h3)
            have HGO := Lib.hid (fun h => run_go (n := 4 - (j + 1)) (R := R) (C := C) (p := p) (q := q) (s := (b, m)) h)
            have HST := Lib.hid (fun h => run_stop (n := 4 - (j + 1)) (R := R) (C := C) (p := p) (q := q) (s := (b, m)) h)
            have h4j : 4 - j = 4 - (j + 1) + 1 := by omega
            rw [h4j] at HR
            have HDN : Hid (doneB R C p (roundL R C p q (b, m)) = (!dirtyB (roundL R C p q (b, m)).2 && rightB R C p (roundL R C p q (b, m)).1)) := Lib.hid rfl
            generalize roundL R C p q (b, m) = s' at *
            obtain ⟨b', m'⟩ := s'
            obtain ⟨⟨⟨ls, s0, s1, s2, s3⟩, s4⟩, s5⟩ := id hD.v
            clear h4j hD
            go_wp2_with fail
            refine HRD.out.mono ?_
            rintro e W3 ⟨rfl, hb2, hm2, hx2⟩
            have HD3 := Lib.hid (HUP.out W3 (b', m') hx2 hb2 hm2)
            have HCT := Lib.hid (containsT_any w.heap.size g2 n n m' W3 hm2 hN)
            have HRR := Lib.hid (rowsRight_any (some ⟨g1, 0, none⟩) n c1 R C p q b' W3 hb2.rd.1 HN.out h2 h4 h5)
            clear ls s0 s1 s2 s3 s4 s5 hb2 hm2 hx2 HUP HRD
            obtain ⟨⟨⟨ls, s0, s1, s2, s3⟩, s4⟩, s5⟩ := id HD3.out.v
            have HDN2 : Hid (doneB R C p (b', m') = (!dirtyB m' && rightB R C p b')) := HDN
            clear HDN
            cases hdm : dirtyB m' with
            | true =>
              rw [hdm] at HCT HDN2
              have HRN : Hid (runL R C p q 4 (code, m0) = runL R C p q (4 - (j + 1)) (b', m')) := Lib.hid (HR.out.trans (HGO.out (HDN2.out.trans rfl)))
              clear hdm HRR
              go_wp2_with fail
              refine HCT.out.mono ?_
              rintro e w' ⟨rfl, rfl⟩
              go_wp2
              go_roundw
              case rel => first | exact ⟨j + 1, b', m', by omega, by go_num, HRN, HD3.out⟩ | ((repeat apply Exists.intro); exact ⟨⟨j + 1, b', m', by omega, by go_num, HRN, HD3.out⟩, rfl⟩)
              case measure => simp [intOf]; omega
            | false =>
              rw [hdm] at HCT HDN2
              clear hdm
              go_wp2_with fail
              refine HCT.out.mono ?_
              rintro e w' ⟨rfl, rfl⟩
              cases hrb : rightB R C p b' with
              | false =>
                rw [hrb] at HRR HDN2
                have HRN : Hid (runL R C p q 4 (code, m0) = runL R C p q (4 - (j + 1)) (b', m')) := Lib.hid (HR.out.trans (HGO.out (HDN2.out.trans rfl)))
                clear hrb
                go_wp2_with fail
                refine HRR.out.mono ?_
                rintro e W4 ⟨rfl, hb4⟩
                have HD4 := Lib.hid (HD3.out.below hb4)
                clear ls s0 s1 s2 s3 s4 s5
                go_wp2
                go_roundw
                case rel => first | exact ⟨j + 1, b', m', by omega, by go_num, HRN, HD4.out⟩ | ((repeat apply Exists.intro); exact ⟨⟨j + 1, b', m', by omega, by go_num, HRN, HD4.out⟩, rfl⟩)
                case measure => simp [intOf]; omega
              | true =>
                rw [hrb] at HRR HDN2
                have HRUN : Hid (runL R C p q 4 (code, m0) = (b', m')) := Lib.hid (HR.out.trans (HST.out (HDN2.out.trans rfl)))
                clear hrb
                go_wp2_with fail
                refine HRR.out.mono ?_
                rintro e W4 ⟨rfl, hb4⟩
                have HD3 := Lib.hid (HD3.out.below hb4)
                clear ls s0 s1 s2 s3 s4 s5 HRR
                have HRS := Lib.hid (results_any R C p q w.heap.size w.heap.size g1 g2 n c1 n c A code b' m' _ HD3.out.b HD3.out.m (HL.out.below HD3.out.bw) HN.out h1 h2 h3 h4 h5 h6)
                have HUB := Lib.hid (HFIN.out b' m' HRUN.out)
                rw [← HUB.out] at HRS
                obtain ⟨U, hU⟩ : ∃ U, unblockL R C p q code es = U := ⟨_, rfl⟩
                rw [hU] at HRS
                have HU := Lib.hid hU
                clear hU
                obtain ⟨⟨⟨ls, s0, s1, s2, s3⟩, s4⟩, s5⟩ := id HD3.out.v
                go_wp2_with fail
                refine HRS.out.mono ?_
                rintro e w9 ⟨A1, d1, A2, d2, rfl, ho1, ho2, hb9⟩
                have HD9 := HD3.out.below hb9
                have hs9 : w.heap.size ≤ W4.heap.size := HD3.out.bw.size
                have hl9 : w.heap.size + 1 < W4.heap.size := Nat.lt_trans HD3.out.l1 HD3.out.b.lt.2
                obtain ⟨lf, f0, f1, f2, f3⟩ := id HD9.f
                clear ls s0 s1 s2 s3 s4 s5
                go_wp2
                exact bodyPost_ret (resF4 rfl rfl (HD9.f.set2 0 0)) rfl ⟨Bw.set (Bw.set HD9.bw (p := ⟨w.heap.size + 1, 0, none⟩) hw1 _) (p := ⟨w.heap.size + 1, 1, none⟩) hw1 _, .inr ⟨es, rfl, HES.out.1, HES.out.2.1, HES.out.2.2, by rw [HU.out]; exact ⟨A1, d1, A2, d2, rfl, own_base (own_low (own_low ho1 (p := ⟨w.heap.size + 1, 0, none⟩) hl9 _) (p := ⟨w.heap.size + 1, 1, none⟩) hl9 _) hs9, own_base (own_low (own_low ho2 (p := ⟨w.heap.size + 1, 0, none⟩) hl9 _) (p := ⟨w.heap.size + 1, 1, none⟩) hl9 _) hs9⟩⟩⟩
          · obtain rfl : j = 4 := by omega
            have HRUN : Hid (runL R C p q 4 (code, m0) = (b, m)) := Lib.hid HR.out
            obtain ⟨b', rfl⟩ : ∃ b', b' = b := ⟨_, rfl⟩
            obtain ⟨m', rfl⟩ : ∃ m', m' = m := ⟨_, rfl⟩
            have HD3 := Lib.hid hD
            clear hD HR
            have HRS := Lib.hid (results_any R C p q w.heap.size w.heap.size g1 g2 n c1 n c A code b' m' _ HD3.out.b HD3.out.m (HL.out.below HD3.out.bw) HN.out h1 h2 h3 h4 h5 h6)
            have HUB := Lib.hid (HFIN.out b' m' HRUN.out)
            rw [← HUB.out] at HRS
            obtain ⟨U, hU⟩ : ∃ U, unblockL R C p q code es = U := ⟨_, rfl⟩
            rw [hU] at HRS
            have HU := Lib.hid hU
            clear hU
            obtain ⟨⟨⟨ls, s0, s1, s2, s3⟩, s4⟩, s5⟩ := id HD3.out.v
            go_wp2_with fail
            refine HRS.out.mono ?_
            rintro e w9 ⟨A1, d1, A2, d2, rfl, ho1, ho2, hb9⟩
            have HD9 := HD3.out.below hb9
            have hs9 : w.heap.size ≤ wr.heap.size := HD3.out.bw.size
            have hl9 : w.heap.size + 1 < wr.heap.size := Nat.lt_trans HD3.out.l1 HD3.out.b.lt.2
            obtain ⟨lf, f0, f1, f2, f3⟩ := id HD9.f
            clear ls s0 s1 s2 s3 s4 s5
            go_wp2
            exact bodyPost_ret (resF4 rfl rfl (HD9.f.set2 0 0)) rfl ⟨Bw.set (Bw.set HD9.bw (p := ⟨w.heap.size + 1, 0, none⟩) hw1 _) (p := ⟨w.heap.size + 1, 1, none⟩) hw1 _, .inr ⟨es, rfl, HES.out.1, HES.out.2.1, HES.out.2.2, by rw [HU.out]; exact ⟨A1, d1, A2, d2, rfl, own_base (own_low (own_low ho1 (p := ⟨w.heap.size + 1, 0, none⟩) hl9 _) (p := ⟨w.heap.size + 1, 1, none⟩) hl9 _) hs9, own_base (own_low (own_low ho2 (p := ⟨w.heap.size + 1, 0, none⟩) hl9 _) (p := ⟨w.heap.size + 1, 1, none⟩) hl9 _) hs9⟩⟩⟩
end Go.Proofs.YtmpjkdkgolmgdaaGreat
