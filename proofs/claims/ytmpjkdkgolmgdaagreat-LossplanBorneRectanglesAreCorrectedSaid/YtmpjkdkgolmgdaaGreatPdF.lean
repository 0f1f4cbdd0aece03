/- Product codes: the walk of Encode. -/
import Derived.Test.YtmpjkdkgolmgdaaGreatPdE
import Derived.Test.YtmpjkdkgolmgdaaGreatMe
import Derived.Test.YtmpjkdkgolmgdaaGreatMd
namespace Go.Proofs.YtmpjkdkgolmgdaaGreat
open Go.RowKit
set_option linter.unusedVariables false

/-! ### Rows and columns put, plain -/
theorem put_row {R C r : Nat} {b wd : List GF} (hl : b.length = R * C) (hr : r < R) (hw : wd.length = C) :
    (putN b (rowP C r) (fun k => wd.getD k 0) C).length = R * C ∧ rowW C (putN b (rowP C r) (fun k => wd.getD k 0) C) r = wd ∧ ∀ r', r' ≠ r → ∀ c, c < C → at2 (putN b (rowP C r) (fun k => wd.getD k 0) C) C r' c = at2 b C r' c := by
  refine ⟨by rw [putN_len]; exact hl, lineF_eq hw fun c hc => ?_, fun r' hne c hc => ?_⟩
  · have := putN_at b (rowP C r) (fun k => wd.getD k 0) 0 (rowP_nodup C r) (fun i hi => by rw [hl]; exact rowP_lt hr hi) C (by rw [rowP_len]; exact Nat.le_refl _) c hc
    rw [rowP_get hc] at this
    exact this
  · refine putN_other b (rowP C r) (fun k => wd.getD k 0) 0 C (by rw [rowP_len]; exact Nat.le_refl _) fun j hj e => ?_
    rw [rowP_get hj] at e
    exact hne (place_inj hj hc e).1.symm
theorem put_col {R C c : Nat} {b wd : List GF} (hl : b.length = R * C) (hc : c < C) (hw : wd.length = R) :
    (putN b (colP R C c) (fun k => wd.getD k 0) R).length = R * C ∧ colW R C (putN b (colP R C c) (fun k => wd.getD k 0) R) c = wd ∧ (∀ r, r < R → at2 (putN b (colP R C c) (fun k => wd.getD k 0) R) C r c = wd.getD r 0) ∧ ∀ r, r < R → ∀ c', c' < C → c' ≠ c → at2 (putN b (colP R C c) (fun k => wd.getD k 0) R) C r c' = at2 b C r c' := by
  have hat : ∀ r, r < R → at2 (putN b (colP R C c) (fun k => wd.getD k 0) R) C r c = wd.getD r 0 := fun r hr => by
    have := putN_at b (colP R C c) (fun k => wd.getD k 0) 0 (colP_nodup R hc) (fun i hi => by rw [hl]; exact colP_lt hc hi) R (by rw [colP_len]; exact Nat.le_refl _) r hr
    rw [colP_get hr] at this
    exact this
  refine ⟨by rw [putN_len]; exact hl, lineF_eq hw hat, hat, fun r hr c' hc' hne => ?_⟩
  refine putN_other b (colP R C c) (fun k => wd.getD k 0) 0 R (by rw [colP_len]; exact Nat.le_refl _) fun j hj e => ?_
  rw [colP_get hj] at e
  exact hne (place_inj hc hc' e).2.symm
/-- The data rows below k are extended. -/
def EncR (d : List GF) (R C p k : Nat) (b : List GF) : Prop := b.length = R * C ∧ ∀ r, r < k → isCW p (rowW C b r) ∧ ∀ c, c < C - p → at2 b C r c = d.getD (r * (C - p) + c) 0
theorem EncR.step {d b wd : List GF} {R C p k : Nat} (h : EncR d R C p k b) (hk : k < R) (hp : p ≤ C) (hW : IsEnc ((d.drop (k * (C - p))).take (C - p)) p wd) (hd : k * (C - p) + (C - p) ≤ d.length) : EncR d R C p (k + 1) (putN b (rowP C k) (fun k => wd.getD k 0) C) := by
  have hdl : ((d.drop (k * (C - p))).take (C - p)).length = C - p := by rw [List.length_take, List.length_drop]; omega
  have hwl : wd.length = C := by rw [hW.1, hdl]; omega
  obtain ⟨h1, h2, h3⟩ := put_row (b := b) h.1 hk hwl
  refine ⟨h1, fun r hr => ?_⟩
  by_cases e : r = k
  · subst e
    refine ⟨by rw [h2]; exact hW.2.2, fun c hc => ?_⟩
    have := congrArg (fun l => l.getD c 0) h2
    unfold rowW at this
    simp only [lineF_get (show c < C by omega)] at this
    rw [this]
    have h4 := take_getD hW.2.1 rfl (i := c) (by rw [hdl]; exact hc)
    rw [h4]
    simp [List.getD, hc]
  · obtain ⟨g1, g2⟩ := h.2 r (by omega)
    refine ⟨?_, fun c hc => by rw [h3 r e c (by omega)]; exact g2 c hc⟩
    rw [show rowW C (putN b (rowP C k) (fun k => wd.getD k 0) C) r = rowW C b r from lineF_congr fun c hc => h3 r e c hc]; exact g1
/-- The columns below k are extended. -/
def EncC (d : List GF) (R C p q k : Nat) (b : List GF) : Prop := EncR d R C p (R - q) b ∧ ∀ c, c < k → isCW q (colW R C b c)
theorem EncC.step {d b wd : List GF} {R C p q k : Nat} (h : EncC d R C p q k b) (hk : k < C) (hq : q ≤ R) (hp : p ≤ C) (hW : IsEnc ((colW R C b k).take (R - q)) q wd) : EncC d R C p q (k + 1) (putN b (colP R C k) (fun k => wd.getD k 0) R) := by
  have hcl : (colW R C b k).length = R := by unfold colW; rw [lineF_len]
  have hdl : ((colW R C b k).take (R - q)).length = R - q := by rw [List.length_take]; omega
  have hwl : wd.length = R := by rw [hW.1, hdl]; omega
  obtain ⟨h1, h2, h3, h4⟩ := put_col (b := b) h.1.1 hk hwl
  have same : ∀ r, r < R - q → ∀ c, c < C → at2 (putN b (colP R C k) (fun k => wd.getD k 0) R) C r c = at2 b C r c := fun r hr c hc => by
    by_cases e : c = k
    · subst e
      rw [h3 r (by omega)]
      have := take_getD hW.2.1 rfl (i := r) (by rw [hdl]; exact hr)
      rw [this]
      have e2 : ((colW R C b c).take (R - q)).getD r 0 = (colW R C b c).getD r 0 := by simp [List.getD, hr]
      rw [e2]; unfold colW; rw [lineF_get (by omega)]
    · exact h4 r (by omega) c hc e
  refine ⟨⟨h1, fun r hr => ?_⟩, fun c hc => ?_⟩
  · obtain ⟨g1, g2⟩ := h.1.2 r hr
    refine ⟨?_, fun c hc => by rw [same r hr c (by omega)]; exact g2 c hc⟩
    rw [show rowW C (putN b (colP R C k) (fun k => wd.getD k 0) R) r = rowW C b r from lineF_congr fun c hc => same r hr c hc]; exact g1
  · by_cases e : c = k
    · subst e; rw [h2]; exact hW.2.2
    · rw [show colW R C (putN b (colP R C k) (fun k => wd.getD k 0) R) c = colW R C b c from lineF_congr fun r hr => h4 r hr c (by omega) e]
      exact h.2 c (by omega)
theorem EncC.block {d b : List GF} {R C p q : Nat} (h : EncC d R C p q C b) (hR : R ≤ 255) (hq : q ≤ R) : IsBlock d R C p q b := block_of hR hq h.1.1 h.1.2 h.2
/-! ### New variables, not written yet -/
def N5 (w : World) (b : Nat) : Prop := b < w.heap.size ∧ (w.cell? ⟨b, 0, none⟩ = some (.int .i64 0) ∧ w.cell? ⟨b, 1, none⟩ = some (.int .i64 0) ∧ w.cell? ⟨b, 2, none⟩ = some (.int .i64 0) ∧ w.cell? ⟨b, 3, none⟩ = some (.int .i64 0) ∧ w.cell? ⟨b, 4, none⟩ = some (.slice none 0 0)) ∧
  w.frozen? ⟨b, 0, none⟩ = false ∧ w.frozen? ⟨b, 1, none⟩ = false ∧ w.frozen? ⟨b, 2, none⟩ = false ∧ w.frozen? ⟨b, 3, none⟩ = false ∧ w.frozen? ⟨b, 4, none⟩ = false
theorem N5.new (w : World) (t : TypeId) : N5 (w.alloc (.cells #[.int .i64 0, .int .i64 0, .int .i64 0, .int .i64 0, .slice none 0 0] t)) w.heap.size :=
  ⟨by simp, ⟨by simp [go_sem], by simp [go_sem], by simp [go_sem], by simp [go_sem], by simp [go_sem]⟩, by simp [go_sem], by simp [go_sem], by simp [go_sem], by simp [go_sem], by simp [go_sem]⟩
theorem N5.below {w w' : World} {b : Nat} (h : N5 w b) (hb : Below w.heap.size w w') : N5 w' b := by
  obtain ⟨l, ⟨c0, c1, c2, c3, c4⟩, f0, f1, f2, f3, f4⟩ := h
  exact ⟨Nat.lt_of_lt_of_le l hb.size, ⟨(hb.cell (p := ⟨b, 0, none⟩) l).trans c0, (hb.cell (p := ⟨b, 1, none⟩) l).trans c1, (hb.cell (p := ⟨b, 2, none⟩) l).trans c2, (hb.cell (p := ⟨b, 3, none⟩) l).trans c3, (hb.cell (p := ⟨b, 4, none⟩) l).trans c4⟩,
    (hb.frozen (p := ⟨b, 0, none⟩) l).trans f0, (hb.frozen (p := ⟨b, 1, none⟩) l).trans f1, (hb.frozen (p := ⟨b, 2, none⟩) l).trans f2, (hb.frozen (p := ⟨b, 3, none⟩) l).trans f3, (hb.frozen (p := ⟨b, 4, none⟩) l).trans f4⟩
theorem N5.store {w : World} {b : Nat} (h : N5 w b) (R C p q : Int) (v : Value) :
    S5 (((((w.setCell ⟨b, 0, none⟩ (.int .i64 R)).setCell ⟨b, 1, none⟩ (.int .i64 C)).setCell ⟨b, 2, none⟩ (.int .i64 p)).setCell ⟨b, 3, none⟩ (.int .i64 q)).setCell ⟨b, 4, none⟩ v) b R C p q v := by
  obtain ⟨l, ⟨c0, c1, c2, c3, c4⟩, _⟩ := h
  have oth : ∀ (w : World) (i j : Nat) (u : Value), i ≠ j → (w.setCell ⟨b, i, none⟩ u).cell? ⟨b, j, none⟩ = w.cell? ⟨b, j, none⟩ := fun w i j u h => World.cell?_setCell_other _ _ _ _ (by simp <;> omega)
  refine ⟨⟨by simpa [World.setCell] using l, ?_, ?_, ?_, ?_⟩, ?_⟩
  · rw [oth _ 4 0 _ (by decide), oth _ 3 0 _ (by decide), oth _ 2 0 _ (by decide), oth _ 1 0 _ (by decide)]; exact cell_set_same c0
  · rw [oth _ 4 1 _ (by decide), oth _ 3 1 _ (by decide), oth _ 2 1 _ (by decide)]; exact cell_set_same ((oth _ 0 1 _ (by decide)).trans c1)
  · rw [oth _ 4 2 _ (by decide), oth _ 3 2 _ (by decide)]; exact cell_set_same (((oth _ 1 2 _ (by decide)).trans (oth _ 0 2 _ (by decide))).trans c2)
  · rw [oth _ 4 3 _ (by decide)]; exact cell_set_same ((((oth _ 2 3 _ (by decide)).trans (oth _ 1 3 _ (by decide))).trans (oth _ 0 3 _ (by decide))).trans c3)
  · exact cell_set_same (((((oth _ 3 4 _ (by decide)).trans (oth _ 2 4 _ (by decide))).trans (oth _ 1 4 _ (by decide))).trans (oth _ 0 4 _ (by decide))).trans c4)
theorem Exc.set5 {w : World} {b : Nat} (u0 u1 u2 u3 u4 : Value) : Exc [b] w (((((w.setCell ⟨b, 0, none⟩ u0).setCell ⟨b, 1, none⟩ u1).setCell ⟨b, 2, none⟩ u2).setCell ⟨b, 3, none⟩ u3).setCell ⟨b, 4, none⟩ u4) :=
  (((((Exc.refl [b] w).set (p := ⟨b, 0, none⟩) (List.mem_singleton.2 rfl) u0).set (p := ⟨b, 1, none⟩) (List.mem_singleton.2 rfl) u1).set (p := ⟨b, 2, none⟩) (List.mem_singleton.2 rfl) u2).set (p := ⟨b, 3, none⟩) (List.mem_singleton.2 rfl) u3).set (p := ⟨b, 4, none⟩) (List.mem_singleton.2 rfl) u4
theorem Has.exc {w w' : World} {b : Nat} {c i : Int} {gs : List Nat} (h : Has w b c i) (hx : Exc gs w w') (hn : b ∉ gs) : Has w' b c i := by
  obtain ⟨l, c0, c1, f0, f1⟩ := h
  have hb := hx.block b l hn
  exact ⟨Nat.lt_of_lt_of_le l hx.size, (World.cell?_of_block (w := w) (a := ⟨b, 0, none⟩) hb).trans c0, (World.cell?_of_block (w := w) (a := ⟨b, 1, none⟩) hb).trans c1, (World.frozen?_of_block (w := w) (a := ⟨b, 0, none⟩) hb).trans f0, (World.frozen?_of_block (w := w) (a := ⟨b, 1, none⟩) hb).trans f1⟩
theorem OwB.exc {w w' : World} {B g n c : Nat} {l : List GF} {gs : List Nat} (h : OwB w B (.slice (some ⟨g, 0, none⟩) n c) l) (hx : Exc gs w w') (hn : g ∉ gs) : OwB w' B (.slice (some ⟨g, 0, none⟩) n c) l := own_exc h hx fun g' hg => by injection hg with hg; subst hg; exact hn
/-! ### The walk -/
structure EnR (w wr : World) (x y : Nat) (R C p q : Nat) (A : Option Addr) (n : Nat) (d b : List GF) : Prop where
  d : RdB wr A n d
  s : S4 wr w.heap.size R C p q
  f : Has wr (w.heap.size + 1) 0 0
  v : S5 wr y R C p q (.slice (some ⟨x, 0, none⟩) (R * C) (R * C))
  b : OwB wr w.heap.size (.slice (some ⟨x, 0, none⟩) (R * C) (R * C)) b
  bw : Below w.heap.size w wr
  ax : ∀ b o, A = some ⟨b, o, none⟩ → b ≠ x
  xy : x ≠ y
  xg : w.heap.size + 2 < x
  yg : w.heap.size + 2 < y
theorem EnR.below {w wr wr' : World} {x y R C p q n : Nat} {A : Option Addr} {d b : List GF} (r : EnR w wr x y R C p q A n d b) (hb : Below wr.heap.size wr wr') : EnR w wr' x y R C p q A n d b :=
  ⟨r.d.below hb, r.s.below hb, r.f.below hb, r.v.below hb, r.b.below hb, Bw.step r.bw hb, r.ax, r.xy, r.xg, r.yg⟩
theorem RdB.lt {w : World} {A : Option Addr} {n : Nat} {l : List GF} (h : RdB w A n l) (hn : 0 < n) {b o : Nat} (e : A = some ⟨b, o, none⟩) : b < w.heap.size := by
  obtain ⟨b', o', e', hlt, _⟩ := h.2 hn
  rw [e] at e'
  cases e'
  exact hlt
/-- The bytes are written. -/
theorem EnR.upd {w W wr : World} {x y R C p q n : Nat} {A : Option Addr} {d b b' : List GF} (r : EnR w wr x y R C p q A n d b) (hx : Exc [x] wr W) (ho : OwB W w.heap.size (.slice (some ⟨x, 0, none⟩) (R * C) (R * C)) b') : EnR w W x y R C p q A n d b' :=
  ⟨r.d.exc hx fun b o e hm => r.ax b o e (List.mem_singleton.1 hm), r.s.exc hx (by have := r.xg; simp; omega), r.f.exc hx (by have := r.xg; simp; omega), r.v.exc hx (by have := r.xy; simp; omega), ho,
    r.bw.trans (hx.below r.bw.size (by have := r.xg; simp; omega)), r.ax, r.xy, r.xg, r.yg⟩
theorem own_set2 {w : World} {B : Nat} {e : TypeId} {s : Nat} {v : Value} {n : Nat} {xs : List Value} (h : w.ownsRow B e s v n xs) {z : Nat} (hz : ∀ g, v.ownBlock = some g → g ≠ z) (u u' : Value) : ((w.setCell ⟨z, 0, none⟩ u).setCell ⟨z, 1, none⟩ u').ownsRow B e s v n xs :=
  own_exc h (((Exc.refl [z] w).set (p := ⟨z, 0, none⟩) (List.mem_singleton.2 rfl) u).set (p := ⟨z, 1, none⟩) (List.mem_singleton.2 rfl) u') fun g hg hm => hz g hg (List.mem_singleton.1 hm)
theorem run_midB (g o n c lo hi : Nat) (h1 : lo < hi) (h2 : hi ≤ n) (h3 : n ≤ c) (w : World) : (Instr.slice 24 (.slice (some ⟨g, o, none⟩) n c) (some (.int .i64 (lo : Int))) (some (.int .i64 (hi : Int))) none).run Tryz.prog w = .ok (.slice (some ⟨g, o + lo, none⟩) (hi - lo) (c - lo)) w := by
  have e1 : 0 ≤ (lo : Int) ∧ (lo : Int) ≤ hi := by omega
  have e2 : 0 ≤ (hi : Int) ∧ (hi : Int) ≤ c := by omega
  have e3 : lo ≤ hi := by omega
  have e4 : hi ≤ c := by omega
  have e5 : ¬ c = lo := by omega
  simp [Instr.slice, Instr.sliceBounds, Instr.sliceBound, go_sem, e1, e2, e3, e4, e5]
theorem run_headB (g n c k : Nat) (hk : k ≤ c) (hk0 : 0 < k) (w : World) : (Instr.slice 24 (.slice (some ⟨g, 0, none⟩) n c) none (some (.int .i64 (k : Int))) none).run Tryz.prog w = .ok (.slice (some ⟨g, 0, none⟩) k c) w := by
  have e2 : 0 ≤ (k : Int) ∧ (k : Int) ≤ c := by omega
  simp [Instr.slice, Instr.sliceBounds, Instr.sliceBound, go_sem, e2, hk]
theorem EnR.put {w W : World} {x y R C p q n : Nat} {A : Option Addr} {d b : List GF} (hd : RdB W A n d) (hs : S4 W w.heap.size R C p q) (hf : Has W (w.heap.size + 1) 0 0) (ho : OwB W w.heap.size (.slice (some ⟨x, 0, none⟩) (R * C) (R * C)) b) (hy : N5 W y)
    (hb : Below w.heap.size w W) (hxy : x ≠ y) (hxg : w.heap.size + 2 < x) (hyg : w.heap.size + 2 < y) (hA : ∀ b o, A = some ⟨b, o, none⟩ → b ≠ y) (hA' : ∀ b o, A = some ⟨b, o, none⟩ → b ≠ x) :
    EnR w (((((W.setCell ⟨y, 0, none⟩ (.int .i64 R)).setCell ⟨y, 1, none⟩ (.int .i64 C)).setCell ⟨y, 2, none⟩ (.int .i64 p)).setCell ⟨y, 3, none⟩ (.int .i64 q)).setCell ⟨y, 4, none⟩ (.slice (some ⟨x, 0, none⟩) (R * C) (R * C))) x y R C p q A n d b :=
  have X := Exc.set5 (w := W) (b := y) (.int .i64 R) (.int .i64 C) (.int .i64 p) (.int .i64 q) (.slice (some ⟨x, 0, none⟩) (R * C) (R * C))
  ⟨hd.exc X fun b o e hm => hA b o e (List.mem_singleton.1 hm), hs.exc X (by simp; omega), hf.exc X (by simp; omega), hy.store _ _ _ _ _, ho.exc X (by simp; omega), hb.trans (X.below hb.size (by simp; omega)), hA', hxy, hxg, hyg⟩
set_option maxRecDepth 100000 in
set_option maxHeartbeats 8000000 in
theorem pdEncode_ok (A : Option Addr) (n c R C p q : Nat) (d : List GF) (w : World) (hd : RdB w A n d) (hnc : n ≤ c) (hn : n = (R - q) * (C - p)) (h1 : 1 ≤ R) (h2 : R ≤ 32) (h3 : 1 ≤ C) (h4 : C ≤ 32) (h5 : p < C) (h6 : q < R) :
    Calls Tryz.prog 10 #[.slice A n c, shpV R C p q] w fun e w' => ∃ A' c' b, e = .returned (.tuple #[.slice A' (R * C) c', .agg #[.int .i64 0, .int .i64 0]]) ∧ OwB w' w.heap.size (.slice A' (R * C) c') b ∧ IsBlock d R C p q b ∧ Below w.heap.size w w' := by
  have HSZ := Lib.hid (fun w => pdSize_ok R C p q w h1 h2 h3 h4 h5 h6)
  rw [← hn] at HSZ
  have HN := Lib.hid hn
  have hRC := mul32 h2 h4
  have hN : R * C ≤ 1024 := by have := hRC.2; rw [← Int.natCast_mul] at this; omega
  have HD := Lib.hid hd
  have hnb : n ≤ 1024 := by
    rw [hn]; exact Nat.le_trans (Nat.mul_le_mul (show R - q ≤ 32 by omega) (show C - p ≤ 32 by omega)) (by decide)
  have HNP : Hid (0 < n) := Lib.hid (by rw [hn]; exact Nat.mul_pos (by omega) (by omega))
  clear hd hn
  have S0 := (S4.new w R C p q).al (fltC 0 0)
  have F0 := Has.new (w.alloc (shpC R C p q)) 0 0 27
  have B0 : Below w.heap.size w ((w.alloc (shpC R C p q)).alloc (fltC 0 0)) := by (repeat (first | exact Below.refl _ _ | assumption | refine Bw.al ?_ _ | refine Bw.step ?_ (by assumption) | refine Bw.drew ?_))
  rw [World.size_alloc] at F0
  obtain ⟨ls, s0, s1, s2, s3⟩ := id S0
  go_enter Tryz.func10, Tryz.ntmps10
  go_wp2_with fail
  generalize (w.alloc (shpC R C p q)).alloc (fltC 0 0) = WA at *
  refine (HSZ.out _).mono ?_
  rintro e w1 ⟨rfl, hb1⟩
  have hz1 : w.heap.size + 1 < w1.heap.size := Nat.lt_of_lt_of_le F0.1 hb1.size
  have S1 := (S0.below hb1).al (fltC 0 0)
  have F1 := (F0.below hb1).al (fltC 0 0)
  have F2 := Has.new w1 0 0 27
  have B1 := Bw.al (Bw.step B0 hb1) (fltC 0 0)
  have D1 := Lib.hid ((HD.out.below B1))
  clear ls s0 s1 s2 s3
  obtain ⟨l2, c20, c21, f20, f21⟩ := id F2
  have HMK := fun w => run_makeB (R * C) (by omega) w
  have hNz : (0 : Int) ≤ ((R * C : Nat) : Int) := by omega
  rw [Int.natCast_mul] at HMK
  go_wp2
  have hzW : w.heap.size + 2 < (w1.alloc (fltC 0 0)).heap.size := by rw [World.size_alloc]; omega
  generalize w1.alloc (fltC 0 0) = W1 at *
  clear l2 c20 c21 f20 f21
  apply wp_region_mid2 (α := Nat) (β := Nat) (fun x y W => EnR w W x y R C p q A n d (List.replicate (R * C) 0))
  case h =>
    intro QQ HQ
    have hx0 := fun z (hz : Gr W1 z) x => cell_extz hz S1.1 S1.2.1 x
    have hx1 := fun z (hz : Gr W1 z) x => cell_extz hz S1.1 S1.2.2.1 x
    have hx2 := fun z (hz : Gr W1 z) x => cell_extz hz S1.1 S1.2.2.2.1 x
    have hx3 := fun z (hz : Gr W1 z) x => cell_extz hz S1.1 S1.2.2.2.2 x
    (refine wp_region_tree [0, 1, 2, 3, 4, 5, 6, 7, 8] [9] 9 (by kernel_rfl) (by kernel_rfl) (by kernel_rfl) ?_; intro W2 hW2)
    (apply tree_quiet [0, 1, 2, 3, 4, 5] (r := 3) (by kernel_rfl) (by kernel_rfl) (by kernel_rfl) (by kernel_rfl); (case hq => (intro z hz; simp only [pick, List.getElem?_cons_succ, List.getElem?_cons_zero]; (have hx0 := hx0 z (hW2.trans hz); have hx1 := hx1 z (hW2.trans hz); have hx2 := hx2 z (hW2.trans hz); have hx3 := hx3 z (hW2.trans hz)); (repeat (go_big_quiet_step ((fail)))); refine wpQuiet_nil ?_; exact rfl)); (case' h => intro W3 hW3))
    have D3 := D1.out.below (hW2.trans hW3)
    have S3 := S1.below (hW2.trans hW3)
    have F3 := F1.below (hW2.trans hW3)
    have B3 := Bw.step B1 (hW2.trans hW3)
    have hz3 : w.heap.size + 2 < W3.heap.size := Nat.lt_of_lt_of_le hzW (hW2.trans hW3).size
    have HA3 : Hid (∀ b o, A = some ⟨b, o, none⟩ → b < W3.heap.size) := Lib.hid fun b o e => D3.lt HNP.out e
    clear hx0 hx1 hx2 hx3 hW2 hW3
    (refine tree_two 6 8 rfl rfl (by kernel_rfl) ?_ ?_)
    · go_wp2
      refine ⟨below_new _ _, fun W4 hW4 => ?_⟩
      have O4 := (OwB.new W3 w.heap.size (R * C) (by omega) (by unfold maxLen; omega)).below hW4
      have hxz : W3.heap.size < W4.heap.size := O4.lt.2
      have E4 : Gr W3 W4 := (below_new _ _).trans (hW4.mono (by simp))
      generalize hx3 : W3.heap.size = x at *
      clear hW4
      (apply tree_quiet [7] (r := 1) (by kernel_rfl) (by kernel_rfl) (by kernel_rfl) (by kernel_rfl); (case hq => (intro z hz; simp only [pick, List.getElem?_cons_succ, List.getElem?_cons_zero]; (skip); (repeat (go_big_quiet_step ((fail)))); refine wpQuiet_nil ?_; exact rfl)); (case' h => intro W5 hW5))
      (refine tree_one 8 rfl (by kernel_rfl) ?_)
      go_wp2
      refine ⟨below_new _ _, fun W6 hW6 => ?_⟩
      have Y6 := (N5.new W5 60).below hW6
      have E6 : Gr W4 W6 := Bw.step (Bw.al hW5 _) hW6
      have hyz : x < W5.heap.size := Nat.lt_of_lt_of_le hxz hW5.size
      generalize W5.heap.size = y at *
      obtain ⟨ly, ⟨y0, y1, y2, y3, y4⟩, z0, z1, z2, z3, z4⟩ := id Y6
      (refine tree_end (by kernel_rfl) ?_; simp only [pick, List.getElem?_cons_succ, List.getElem?_cons_zero])
      go_wp2
      have G6 : Gr W3 W6 := E4.trans E6
      refine HQ.out x y _ (EnR.put (D3.below G6) (S3.below G6) (F3.below G6) (O4.below E6) Y6 (Bw.step B3 G6) (by omega) (by omega) (by omega) (fun b o e => by have := HA3.out b o e; omega) (fun b o e => by have := HA3.out b o e; omega))
    · go_wp2
      refine ⟨below_new _ _, fun W4 hW4 => ?_⟩
      have Y4 := (N5.new W3 60).below hW4
      have hyz : W3.heap.size < W4.heap.size := Y4.1
      have E4 : Gr W3 W4 := (below_new _ _).trans (hW4.mono (by simp))
      generalize hy3 : W3.heap.size = y at *
      clear hW4
      (refine tree_one 6 rfl (by kernel_rfl) ?_)
      go_wp2
      refine ⟨below_new _ _, fun W5 hW5 => ?_⟩
      have O5 := (OwB.new W4 w.heap.size (R * C) (by omega) (by unfold maxLen; omega)).below hW5
      have E5 : Gr W4 W5 := (below_new _ _).trans (hW5.mono (by simp))
      generalize W4.heap.size = x at *
      clear hW5
      (apply tree_quiet [7] (r := 0) (by kernel_rfl) (by kernel_rfl) (by kernel_rfl) (by kernel_rfl); (case hq => (intro z hz; simp only [pick, List.getElem?_cons_succ, List.getElem?_cons_zero]; (skip); (repeat (go_big_quiet_step ((fail)))); refine wpQuiet_nil ?_; exact rfl)); (case' h => intro W6 hW6))
      have Y6 := (Y4.below E5).below hW6
      obtain ⟨ly, ⟨y0, y1, y2, y3, y4⟩, z0, z1, z2, z3, z4⟩ := id Y6
      (refine tree_end (by kernel_rfl) ?_; simp only [pick, List.getElem?_cons_succ, List.getElem?_cons_zero])
      go_wp2
      have G6 : Gr W3 W6 := E4.trans (E5.trans hW6)
      refine HQ.out x y _ (EnR.put (D3.below G6) (S3.below G6) (F3.below G6) (O5.below hW6) Y6 (Bw.step B3 G6) (by omega) (by omega) (by omega) (fun b o e => by have := HA3.out b o e; omega) (fun b o e => by have := HA3.out b o e; omega))
  case h2 =>
    intro x y wr hE
    have HE0 := Lib.hid hE
    have hR0 : EncR d R C p 0 (List.replicate (R * C) 0) := ⟨List.length_replicate, fun r hr => absurd hr (Nat.not_lt_zero _)⟩
    have HR0 := Lib.hid hR0
    have ws1 : (C : Int) - p = ((C - p : Nat) : Int) := by omega
    have ws2 : IntKind.i64.wrap ((C : Int) - p) = ((C - p : Nat) : Int) := by rw [IntWalk.i64_in _ (by omega)]; exact ws1
    have wt1 : (R : Int) - q = ((R - q : Nat) : Int) := by omega
    have wt2 : IntKind.i64.wrap ((R : Int) - q) = ((R - q : Nat) : Int) := by rw [IntWalk.i64_in _ (by omega)]; exact wt1
    have hWp : C - p ≤ C ∧ 1 ≤ C - p ∧ C - p + p ≤ C ∧ C ≤ C - p + p := by omega
    have hHq : R - q ≤ R ∧ 1 ≤ R - q ∧ R - q + q ≤ R ∧ R ≤ R - q + q := by omega
    obtain ⟨ls, s0, s1, s2, s3⟩ := id hE.s
    obtain ⟨Wd, hWd⟩ : ∃ Wd, C - p = Wd := ⟨_, rfl⟩
    obtain ⟨Hd, hHd⟩ : ∃ Hd, R - q = Hd := ⟨_, rfl⟩
    rw [hWd] at ws1 ws2 hWp HN
    rw [hHd] at wt1 wt2 hHq HN
    have HWD := Lib.hid hWd
    have HHD := Lib.hid hHd
    clear hE hR0 hWd hHd HSZ HMK hNz F2 F1 S1 B1 D1 S0 F0 B0
    go_wp2
    clear ls s0 s1 s2 s3 ws1 ws2 wt1 wt2
    go_loopw [49] (fun i wr => ∃ (k : Nat) (b : List GF), k ≤ Hd ∧ i = .int .i64 k ∧ EncR d R C p k b ∧ EnR w wr x y R C p q A n d b) (fun i _ => Hd - (intOf i).toNat)
    case atStart => exact ⟨0, _, Nat.zero_le _, rfl, HR0.out, HE0.out⟩
    case round =>
      obtain ⟨k, b, hk, rfl, hR, hE⟩ := hrel
      by_cases hlt : k < Hd
      · --[[rows
        have HR := Lib.hid hR
        have HE := Lib.hid hE
        obtain ⟨ba, oa, rfl, hla, _⟩ := hE.d.2 HNP.out
        have hkw : (k + 1) * Wd ≤ n := by rw [HN.out]; exact Nat.mul_le_mul_right _ hlt
        have hkw0 : k * Wd < (k + 1) * Wd := by rw [Nat.add_mul, Nat.one_mul]; omega
        have hkw1 : (k + 1) * Wd - k * Wd = Wd := by rw [Nat.add_mul, Nat.one_mul]; omega
        have RW : RdB wr (some ⟨ba, oa + k * Wd, none⟩) Wd ((d.drop (k * Wd)).take Wd) := (hE.d.drop (k * Wd)).take (by rw [Nat.add_mul, Nat.one_mul] at hkw; omega)
        have HSL := fun w => run_midB ba oa n c (k * Wd) ((k + 1) * Wd) hkw0 hkw hnc w
        have HMAX := Lib.hid hkw
        rw [hkw1] at HSL
        have ek1 : ((k * Wd : Nat) : Int) = (k : Int) * (Wd : Int) := Int.natCast_mul _ _
        have ek2 : (((k + 1) * Wd : Nat) : Int) = ((k : Int) + 1) * (Wd : Int) := by rw [Int.natCast_mul, Int.natCast_add]; rfl
        have hm1 : 0 ≤ (k : Int) * (Wd : Int) ∧ (k : Int) * (Wd : Int) ≤ 1024 := by omega
        have hm2 : 0 ≤ ((k : Int) + 1) * (Wd : Int) ∧ ((k : Int) + 1) * (Wd : Int) ≤ 1024 := by omega
        rw [ek1, ek2] at HSL
        have HENC := Lib.hid (fun W (h : RdB W (some ⟨ba, oa + k * Wd, none⟩) Wd ((d.drop (k * Wd)).take Wd)) => Encode_ok (some ⟨ba, oa + k * Wd, none⟩) Wd (c - k * Wd) p _ W h (by omega) (by omega) (by omega))
        obtain ⟨lo, hlo⟩ : ∃ lo, k * Wd = lo := ⟨_, rfl⟩
        have HLO := Lib.hid hlo
        rw [hlo] at RW HSL HENC
        clear hlo
        clear ek1 ek2 hkw hkw0 hkw1 hR HR0 HE0
        have hkR : k < R := by omega
        go_wp2
        apply wp_region_mid4 (α := Option Addr) (β := Nat) (γ := List GF) (δ := Nat) (fun A' c' wd z W => EnR w W x y R C p q (some ⟨ba, oa, none⟩) n d b ∧ IsEnc ((d.drop lo).take Wd) p wd ∧ OwB W wr.heap.size (.slice A' wd.length c') wd)
        case h =>
          intro QQ HQ
          (refine wp_region_tree [0, 1, 2, 3, 4, 5, 6, 7, 8, 9, 10, 11, 12, 13, 14, 15, 16] [17] 17 (by kernel_rfl) (by kernel_rfl) (by kernel_rfl) ?_; intro W2 hW2)
          have hx2 := fun z (hz : Gr wr z) x => cell_extz hz hE.s.1 hE.s.2.2.2.1 x
          (apply tree_quiet [0, 1, 2, 3, 4, 5, 6, 7, 8, 9, 10] (r := 6) (by kernel_rfl) (by kernel_rfl) (by kernel_rfl) (by kernel_rfl); (case hq => (intro z hz; simp only [pick, List.getElem?_cons_succ, List.getElem?_cons_zero]; (have hx2 := hx2 z (hW2.trans hz)); (repeat (go_big_quiet_step ((fail)))); refine wpQuiet_nil ?_; exact rfl)); (case' h => intro W3 hW3))
          have hE3 := hE.below (hW2.trans hW3)
          have hz3 : wr.heap.size ≤ W3.heap.size := (hW2.trans hW3).size
          have RW3 := RW.below (hW2.trans hW3)
          have G3 : Gr wr W3 := hW2.trans hW3
          clear hx2 hW2 hW3
          (refine tree_two 11 15 rfl rfl (by kernel_rfl) ?_ ?_)
          · go_wp2_with (go_at_call 27; refine (HENC.out _ RW3).mono ?_; rintro e w' ⟨A', c', wd, rfl, ho, hen, hb⟩)
            refine ⟨hb, fun W5 hW5 => ?_⟩
            have O5 : OwB W5 wr.heap.size (.slice A' wd.length c') wd := own_base (ho.below hW5) hz3
            have G5 : Gr wr W5 := G3.trans (hb.trans (hW5.mono hb.size))
            clear ho hb hW5
            (apply tree_quiet [12, 13, 14] (r := 2) (by kernel_rfl) (by kernel_rfl) (by kernel_rfl) (by kernel_rfl); (case hq => (intro z hz; simp only [pick, List.getElem?_cons_succ, List.getElem?_cons_zero]; (skip); (repeat (go_big_quiet_step ((fail)))); refine wpQuiet_nil ?_; exact rfl)); (case' h => intro W6 hW6))
            (refine tree_one 15 rfl (by kernel_rfl) ?_)
            go_wp2
            refine ⟨below_new _ _, fun W7' hW7' => ?_⟩
            (apply tree_quiet [16] (r := 0) (by kernel_rfl) (by kernel_rfl) (by kernel_rfl) (by kernel_rfl); (case hq => (intro z hz; simp only [pick, List.getElem?_cons_succ, List.getElem?_cons_zero]; (skip); (repeat (go_big_quiet_step ((fail)))); refine wpQuiet_nil ?_; exact rfl)); (case' h => intro W7 hW7''))
            have hW7 := hW7'.trans hW7''
            have Z7 := (Has.new W6 0 0 27).below hW7
            have O7 := (O5.below hW6).below (Bw.step (below_new _ (fltC 0 0)) hW7)
            have G7 : Gr wr W7 := (G5.trans hW6).trans (Bw.step (below_new _ (fltC 0 0)) hW7)
            clear hW7' hW7''
            have hsep : ∀ g, (Value.slice A' wd.length c').ownBlock = some g → g ≠ W6.heap.size := fun g hg => by have := (own_lt (O5.below hW6) hg).2; omega
            have hzz : wr.heap.size ≤ W6.heap.size := (G5.trans hW6).size
            generalize W6.heap.size = z at *
            obtain ⟨lz, z0, z1, y0, y1⟩ := id Z7
            (refine tree_end (by kernel_rfl) ?_; simp only [pick, List.getElem?_cons_succ, List.getElem?_cons_zero])
            go_wp2
            exact HQ.out A' c' wd z _ ⟨hE.below (Bw.set (Bw.set G7 (p := ⟨z, 0, none⟩) hzz _) (p := ⟨z, 1, none⟩) hzz _), hen, own_set2 O7 hsep _ _⟩
          · go_wp2
            refine ⟨below_new _ _, fun W5 hW5 => ?_⟩
            have Z5 := (Has.new W3 0 0 27).below hW5
            have G5 : Gr wr W5 := G3.trans (Bw.step (below_new _ (fltC 0 0)) hW5)
            have RW5 := RW.below G5
            have hzW : W3.heap.size < W5.heap.size := Z5.1
            generalize W3.heap.size = z at *
            (refine tree_one 11 rfl (by kernel_rfl) ?_)
            go_wp2_with (go_at_call 27; refine (HENC.out _ RW5).mono ?_; rintro e w' ⟨A', c', wd, rfl, ho, hen, hb⟩)
            refine ⟨hb, fun W6 hW6 => ?_⟩
            have O6 := ho.below hW6
            have hsep : ∀ g, (Value.slice A' wd.length c').ownBlock = some g → g ≠ z := fun g hg => by have := (own_lt ho hg).1; omega
            have G6 : Gr wr W6 := G5.trans (hb.trans (hW6.mono hb.size))
            have Z6 := Z5.below (hb.trans (hW6.mono hb.size))
            have hz5 : wr.heap.size ≤ W5.heap.size := G5.size
            clear ho hb hW6
            (apply tree_quiet [12, 13, 14, 16] (r := 0) (by kernel_rfl) (by kernel_rfl) (by kernel_rfl) (by kernel_rfl); (case hq => (intro z hz; simp only [pick, List.getElem?_cons_succ, List.getElem?_cons_zero]; (skip); (repeat (go_big_quiet_step ((fail)))); refine wpQuiet_nil ?_; exact rfl)); (case' h => intro W7 hW7))
            have Z7 := Z6.below hW7
            obtain ⟨lz, z0, z1, y0, y1⟩ := id Z7
            (refine tree_end (by kernel_rfl) ?_; simp only [pick, List.getElem?_cons_succ, List.getElem?_cons_zero])
            go_wp2
            exact HQ.out A' c' wd z _ ⟨hE.below (Bw.set (Bw.set (G6.trans hW7) (p := ⟨z, 0, none⟩) hz3 _) (p := ⟨z, 1, none⟩) hz3 _), hen, own_set2 (own_base (O6.below hW7) hz5) hsep _ _⟩
        case h2 =>
          intro A' c' wd z wq ⟨hE2, hen, hO⟩
          have HEN := Lib.hid hen
          have hdl : ((d.drop lo).take Wd).length = Wd := RW.1
          have hwl : wd.length = C := by rw [hen.1, hdl]; omega
          have HST : Hid (EncR d R C p (k + 1) (putN b (rowP C k) (fun k => wd.getD k 0) C)) := Lib.hid (by
            have := HR.out.step hkR (Nat.le_of_lt h5) (wd := wd) (by rw [HWD.out, HLO.out]; exact hen) (by have h1 := HMAX.out; have h2 := hE.d.1; rw [Nat.add_mul, Nat.one_mul] at h1; rw [HWD.out]; omega)
            exact this)
          have hxw := hE.b.lt.2
          have hxq := hE2.b.lt.2
          obtain ⟨N, hNN⟩ : ∃ N, N = wd.length := ⟨_, rfl⟩
          rw [← hNN]
          rw [← hNN] at hwl hO
          subst hwl
          clear hen hNN RW HSL HENC hE
          go_wp2
          have HB := Lib.hid hE2
          (refine wp_region_tree [0, 1, 2, 3, 4] [5] 5 (by kernel_rfl) (by kernel_rfl) (by kernel_rfl) ?_; intro W2 hW2)
          have hx0 := fun z (hz : Gr wq z) x => cell_extz hz hE2.v.1.1 hE2.v.1.2.1 x
          have hx1 := fun z (hz : Gr wq z) x => cell_extz hz hE2.v.1.1 hE2.v.1.2.2.1 x
          have hx2 := fun z (hz : Gr wq z) x => cell_extz hz hE2.v.1.1 hE2.v.1.2.2.2.1 x
          have hx3 := fun z (hz : Gr wq z) x => cell_extz hz hE2.v.1.1 hE2.v.1.2.2.2.2 x
          have hx4 := fun z (hz : Gr wq z) x => cell_extz hz hE2.v.1.1 hE2.v.2 x
          (apply tree_quiet [0, 1, 2, 4] (r := 1) (by kernel_rfl) (by kernel_rfl) (by kernel_rfl) (by kernel_rfl); (case hq => (intro z hz; simp only [pick, List.getElem?_cons_succ, List.getElem?_cons_zero]; (have hx0 := hx0 z (hW2.trans hz); have hx1 := hx1 z (hW2.trans hz); have hx2 := hx2 z (hW2.trans hz); have hx3 := hx3 z (hW2.trans hz); have hx4 := hx4 z (hW2.trans hz)); (repeat (go_big_quiet_step ((fail)))); refine wpQuiet_nil ?_; exact rfl)); (case' h => intro W3 hW3))
          clear hx0 hx1 hx2 hx3 hx4
          (refine tree_one 3 rfl (by kernel_rfl) ?_)
          go_wp2_with (go_at_call 29; refine (row_any R N k p q _ _ h2 h4 hkR).mono ?_; rintro e w' ⟨A3, c3, rfl, hi3, hb3⟩)
          refine ⟨hb3, fun W4 hW4 => ?_⟩
          have G3 : Gr wq W3 := hW2.trans hW3
          have G4 : Gr W3 W4 := hb3.trans (hW4.mono hb3.size)
          have hE4 := (HB.out.below G3).below G4
          have hO4 : OwB W4 (x + 1) (.slice A' N c') wd := own_base ((hO.below G3).below G4) hxw
          have hi4 : OwI W4 (x + 1) (.slice A3 N c3) (toI (rowP N k)) := own_base (hi3.below hW4) (Nat.le_trans hxq G3.size)
          have HSET := Lib.hid (set_any2 R N p q x (R * N) (R * N) N N c3 c' w.heap.size (x + 1) A3 A' b wd (rowP N k) W4 (rowP_len N k).symm hE4.b hi4 hO4 (Nat.lt_succ_self _) (Nat.le_refl _) h4 (fun i hi => rowP_lt hkR hi) hN)
          have HUP := Lib.hid (fun W b' (h1 : Exc [x] W4 W) h2 => hE4.upd (b' := b') h1 h2)
          clear hi4 hO4 hE4 hi3 hO hE2 HB G3 G4 hW4 hW2 hW3 hb3
          (refine tree_end (by kernel_rfl) ?_; simp only [pick, List.getElem?_cons_succ, List.getElem?_cons_zero])
          go_wp2_with fail
          refine HSET.out.mono ?_
          rintro e W6 ⟨rfl, ho6, hx6⟩
          have HE6 := Lib.hid (HUP.out _ _ hx6 ho6)
          clear ho6 hx6 HUP HSET
          go_wp2
          go_roundw
          case rel => first | exact ⟨k + 1, _, by omega, by go_num, HST.out, HE6.out⟩ | ((repeat apply Exists.intro); exact ⟨⟨k + 1, _, by omega, by go_num, HST.out, HE6.out⟩, rfl⟩)
          case measure => simp [intOf]; omega
      · obtain rfl : k = Hd := by omega
        have hC0 : EncC d R C p q 0 b := ⟨by rw [HHD.out]; exact hR, fun c hc => absurd hc (Nat.not_lt_zero _)⟩
        have HC0 := Lib.hid hC0
        have HE0 := Lib.hid hE
        have dqe : decide (k < k) = false := by simp
        obtain ⟨ls, s0, s1, s2, s3⟩ := id hE.s
        clear hC0 hR hE HR0
        go_wp2
        clear ls s0 s1 s2 s3
        go_loopw [76] (fun i wr => ∃ (j : Nat) (b : List GF), j ≤ C ∧ i = .int .i64 j ∧ EncC d R C p q j b ∧ EnR w wr x y R C p q A n d b) (fun i _ => C - (intOf i).toNat)
        case atStart => exact ⟨0, _, Nat.zero_le _, rfl, HC0.out, HE0.out⟩
        case round =>
          obtain ⟨j, b, hj, rfl, hC, hE⟩ := hrel
          by_cases hlj : j < C
          · have HC := Lib.hid hC
            have HE := Lib.hid hE
            obtain ⟨⟨ls, s0, s1, s2, s3⟩, s4⟩ := id hE.v
            clear hC
            go_wp2_with fail
            refine (column_any R C j p q _ _ h2 h4 hlj).mono ?_
            rintro e wc ⟨A3, c3, rfl, hi3, hb3⟩
            have hE := hE.below hb3
            have hxw := hE.b.lt.2
            have hxr := HE.out.b.lt.2
            have HI : Hid (OwI wc (x + 1) (.slice A3 R c3) (toI (colP R C j))) := Lib.hid (own_base hi3 hxr)
            have hi3lt : ∀ g, (Value.slice A3 R c3).ownBlock = some g → g < wc.heap.size := fun g hg => (own_lt hi3 hg).2
            have HI3 := Lib.hid hi3lt
            clear ls s0 s1 s2 s3 s4 hi3 hi3lt hb3
            have HGET := Lib.hid (fun W (hG : Gr wc W) => (get_any R C p q (some ⟨x, 0, none⟩) A3 (R * C) (R * C) R c3 b (colP R C j) W (hE.below hG).b.rd.1 (HI.out.below hG).rd.1 h2 (fun i hi => colP_lt hlj hi) hN).mono (fun e w' ⟨A4, c4, he, ho, hb⟩ =>
              show ∃ g4 c4, e = Ending.returned (.slice (some ⟨g4, 0, none⟩) R c4) ∧ OwB w' W.heap.size (.slice (some ⟨g4, 0, none⟩) R c4) (colW R C b j) ∧ k ≤ c4 ∧ Below W.heap.size W w' from by
                obtain ⟨g4, rfl⟩ := ho.head (by omega)
                rw [getL_col] at ho
                exact ⟨g4, c4, he, ho, Nat.le_trans hHq.1 ho.cap.1, hb⟩))
            have HENC := Lib.hid (fun W B g4 c4 (h : OwB W B (.slice (some ⟨g4, 0, none⟩) R c4) (colW R C b j)) => Encode_ok (some ⟨g4, 0, none⟩) k c4 q _ W (h.rd.1.take hHq.1) (by omega) (by omega) (by omega))
            go_wp2
            apply wp_region_mid6 (α := Nat) (β := Nat) (γ := Option Addr) (δ := Nat) (ε := List GF) (ζ := Nat) (fun g4 c4 A' c' wd z W => EnR w W x y R C p q A n d b ∧ IsEnc ((colW R C b j).take k) q wd ∧ OwB W (x + 1) (.slice A' wd.length c') wd ∧ OwI W (x + 1) (.slice A3 R c3) (toI (colP R C j)))
            case h =>
              intro QQ HQ
              (refine wp_region_tree [0, 1, 2, 3, 4, 5, 6, 7, 8, 9, 10, 11, 12, 13, 14, 15, 16] [17] 17 (by kernel_rfl) (by kernel_rfl) (by kernel_rfl) ?_; intro W2 hW2)
              have wt1 : (R : Int) - q = (k : Int) := by omega
              have wt2 : IntKind.i64.wrap ((R : Int) - q) = (k : Int) := by rw [IntWalk.i64_in _ (by omega)]; exact wt1
              have hx0 := fun z (hz : Gr wc z) x => cell_extz hz hE.v.1.1 hE.v.1.2.1 x
              have hx1 := fun z (hz : Gr wc z) x => cell_extz hz hE.v.1.1 hE.v.1.2.2.1 x
              have hx2 := fun z (hz : Gr wc z) x => cell_extz hz hE.v.1.1 hE.v.1.2.2.2.1 x
              have hx3 := fun z (hz : Gr wc z) x => cell_extz hz hE.v.1.1 hE.v.1.2.2.2.2 x
              have hx4 := fun z (hz : Gr wc z) x => cell_extz hz hE.v.1.1 hE.v.2 x
              have hy0 := fun z (hz : Gr wc z) x => cell_extz hz hE.s.1 hE.s.2.1 x
              have hy3 := fun z (hz : Gr wc z) x => cell_extz hz hE.s.1 hE.s.2.2.2.2 x
              (apply tree_quiet [0, 1, 3, 4, 5, 6, 7, 9, 10] (r := 8) (by kernel_rfl) (by kernel_rfl) (by kernel_rfl) (by kernel_rfl); (case hq => (intro z hz; simp only [pick, List.getElem?_cons_succ, List.getElem?_cons_zero]; (have hx0 := hx0 z (hW2.trans hz); have hx1 := hx1 z (hW2.trans hz); have hx2 := hx2 z (hW2.trans hz); have hx3 := hx3 z (hW2.trans hz); have hx4 := hx4 z (hW2.trans hz); have hy0 := hy0 z (hW2.trans hz); have hy3 := hy3 z (hW2.trans hz)); (repeat (go_big_quiet_step ((fail)))); refine wpQuiet_nil ?_; exact rfl)); (case' h => intro W3 hW3))
              have G3 : Gr wc W3 := hW2.trans hW3
              clear hx0 hx1 hx2 hx3 hx4 hy0 hy3 hW2 hW3 wt1 wt2
              (refine tree_two 2 15 rfl rfl (by kernel_rfl) ?_ ?_)
              · go_wp2_with (go_at_call 31; refine (HGET.out _ G3).mono ?_; rintro e w' ⟨g4, c4, rfl, ho4, hc4, hb4⟩)
                refine ⟨hb4, fun Wb hWb => ?_⟩
                have O4 := Lib.hid (ho4.below hWb)
                have Gb : Gr wc Wb := G3.trans (hb4.trans (hWb.mono hb4.size))
                have hsl := fun w => run_headB g4 R c4 k hc4 (by omega) w
                clear ho4 hb4 hWb
                (apply tree_quiet [8] (r := 6) (by kernel_rfl) (by kernel_rfl) (by kernel_rfl) (by kernel_rfl); (case hq => (intro z hz; simp only [pick, List.getElem?_cons_succ, List.getElem?_cons_zero]; (skip); (repeat (go_big_quiet_step ((fail)))); refine wpQuiet_nil ?_; exact rfl)); (case' h => intro Wc hWc))
                have O5 := Lib.hid (O4.out.below hWc)
                have Gc : Gr wc Wc := Gb.trans hWc
                clear hWc Gb O4
                (refine tree_two 11 15 rfl rfl (by kernel_rfl) ?_ ?_)
                · go_wp2_with (go_at_call 27; refine (HENC.out _ _ _ _ O5.out).mono ?_; rintro e w' ⟨A', c', wd, rfl, ho, hen, hb⟩)
                  refine ⟨hb, fun Wd hWd => ?_⟩
                  have O6 : OwB Wd (x + 1) (.slice A' wd.length c') wd := own_base (ho.below hWd) (Nat.le_trans hxw Gc.size)
                  have Gd : Gr wc Wd := Gc.trans (hb.trans (hWd.mono hb.size))
                  clear ho hb hWd
                  (apply tree_quiet [12, 13, 14] (r := 2) (by kernel_rfl) (by kernel_rfl) (by kernel_rfl) (by kernel_rfl); (case hq => (intro z hz; simp only [pick, List.getElem?_cons_succ, List.getElem?_cons_zero]; (skip); (repeat (go_big_quiet_step ((fail)))); refine wpQuiet_nil ?_; exact rfl)); (case' h => intro We hWe))
                  (refine tree_one 15 rfl (by kernel_rfl) ?_)
                  go_wp2
                  refine ⟨below_new _ _, fun Wf hWf => ?_⟩
                  (apply tree_quiet [16] (r := 0) (by kernel_rfl) (by kernel_rfl) (by kernel_rfl) (by kernel_rfl); (case hq => (intro z hz; simp only [pick, List.getElem?_cons_succ, List.getElem?_cons_zero]; (skip); (repeat (go_big_quiet_step ((fail)))); refine wpQuiet_nil ?_; exact rfl)); (case' h => intro Wg hWg))
                  have Z := (Has.new We 0 0 27).below (hWf.trans hWg)
                  have Ge : Gr wc We := Gd.trans hWe
                  have GZ' : Gr We Wg := Bw.step (below_new _ (fltC 0 0)) (hWf.trans hWg)
                  have OZ := (O6.below hWe).below GZ'
                  have GZ : Gr wc Wg := Ge.trans GZ'
                  have hsep : ∀ g, (Value.slice A' wd.length c').ownBlock = some g → g ≠ We.heap.size := fun g hg => by have := (own_lt (O6.below hWe) hg).2; omega
                  have hzz : wc.heap.size ≤ We.heap.size := Ge.size
                  have hsi : ∀ g, (Value.slice A3 R c3).ownBlock = some g → g ≠ We.heap.size := fun g hg => by have := HI3.out g hg; omega
                  generalize We.heap.size = z at *
                  obtain ⟨lz, z0, z1, y0, y1⟩ := id Z
                  (refine tree_end (by kernel_rfl) ?_; simp only [pick, List.getElem?_cons_succ, List.getElem?_cons_zero])
                  go_wp2
                  exact HQ.out g4 c4 A' c' wd z _ ⟨hE.below (Bw.set (Bw.set GZ (p := ⟨z, 0, none⟩) hzz _) (p := ⟨z, 1, none⟩) hzz _), hen, own_set2 OZ hsep _ _, own_set2 (HI.out.below GZ) hsi _ _⟩

                · go_wp2
                  refine ⟨below_new _ _, fun Wd hWd => ?_⟩
                  have Z4 := (Has.new Wc 0 0 27).below hWd
                  have Gd' : Gr Wc Wd := Bw.step (below_new _ (fltC 0 0)) hWd
                  have Gd : Gr wc Wd := Gc.trans Gd'
                  have O6 := Lib.hid (O5.out.below Gd')
                  have hzW : Wc.heap.size < Wd.heap.size := Z4.1
                  have hzz : wc.heap.size ≤ Wc.heap.size := Gc.size
                  generalize Wc.heap.size = z at *
                  (refine tree_one 11 rfl (by kernel_rfl) ?_)
                  go_wp2_with (go_at_call 27; refine (HENC.out _ _ _ _ O6.out).mono ?_; rintro e w' ⟨A', c', wd, rfl, ho, hen, hb⟩)
                  refine ⟨hb, fun We hWe => ?_⟩
                  have O7 : OwB We (x + 1) (.slice A' wd.length c') wd := own_base (ho.below hWe) (Nat.le_trans hxw Gd.size)
                  have hsep : ∀ g, (Value.slice A' wd.length c').ownBlock = some g → g ≠ z := fun g hg => by have := (own_lt ho hg).1; omega
                  have Ge' : Gr Wd We := hb.trans (hWe.mono hb.size)
                  clear ho hb hWe
                  (apply tree_quiet [12, 13, 14, 16] (r := 0) (by kernel_rfl) (by kernel_rfl) (by kernel_rfl) (by kernel_rfl); (case hq => (intro z hz; simp only [pick, List.getElem?_cons_succ, List.getElem?_cons_zero]; (skip); (repeat (go_big_quiet_step ((fail)))); refine wpQuiet_nil ?_; exact rfl)); (case' h => intro Wg hWg))
                  have Z := Z4.below (Ge'.trans hWg)
                  have OZ := O7.below hWg
                  have GZ : Gr wc Wg := Gd.trans (Ge'.trans hWg)
                  have hsi : ∀ g, (Value.slice A3 R c3).ownBlock = some g → g ≠ z := fun g hg => by have := HI3.out g hg; omega
                  obtain ⟨lz, z0, z1, y0, y1⟩ := id Z
                  (refine tree_end (by kernel_rfl) ?_; simp only [pick, List.getElem?_cons_succ, List.getElem?_cons_zero])
                  go_wp2
                  exact HQ.out g4 c4 A' c' wd z _ ⟨hE.below (Bw.set (Bw.set GZ (p := ⟨z, 0, none⟩) hzz _) (p := ⟨z, 1, none⟩) hzz _), hen, own_set2 OZ hsep _ _, own_set2 (HI.out.below GZ) hsi _ _⟩

              · go_wp2
                refine ⟨below_new _ _, fun Wd hWd => ?_⟩
                have Z4 := (Has.new W3 0 0 27).below hWd
                have Gd' : Gr W3 Wd := Bw.step (below_new _ (fltC 0 0)) hWd
                have Gd : Gr wc Wd := G3.trans Gd'
                have hzW : W3.heap.size < Wd.heap.size := Z4.1
                have hzz : wc.heap.size ≤ W3.heap.size := G3.size
                generalize W3.heap.size = z at *
                (refine tree_one 2 rfl (by kernel_rfl) ?_)
                go_wp2_with (go_at_call 31; refine (HGET.out _ Gd).mono ?_; rintro e w' ⟨g4, c4, rfl, ho4, hc4, hb4⟩)
                refine ⟨hb4, fun Wb hWb => ?_⟩
                have O4 := Lib.hid (ho4.below hWb)
                have Gb' : Gr Wd Wb := hb4.trans (hWb.mono hb4.size)
                have hsl := fun w => run_headB g4 R c4 k hc4 (by omega) w
                clear ho4 hb4 hWb
                (apply tree_quiet [8] (r := 5) (by kernel_rfl) (by kernel_rfl) (by kernel_rfl) (by kernel_rfl); (case hq => (intro z hz; simp only [pick, List.getElem?_cons_succ, List.getElem?_cons_zero]; (skip); (repeat (go_big_quiet_step ((fail)))); refine wpQuiet_nil ?_; exact rfl)); (case' h => intro Wc hWc))
                have O5 := Lib.hid (O4.out.below hWc)
                have Gc' : Gr Wd Wc := Gb'.trans hWc
                clear hWc Gb' O4
                (refine tree_one 11 rfl (by kernel_rfl) ?_)
                go_wp2_with (go_at_call 27; refine (HENC.out _ _ _ _ O5.out).mono ?_; rintro e w' ⟨A', c', wd, rfl, ho, hen, hb⟩)
                refine ⟨hb, fun We hWe => ?_⟩
                have O7 : OwB We (x + 1) (.slice A' wd.length c') wd := own_base (ho.below hWe) (Nat.le_trans hxw (Gd.trans Gc').size)
                have hsep : ∀ g, (Value.slice A' wd.length c').ownBlock = some g → g ≠ z := fun g hg => by have := (own_lt ho hg).1; have := Gc'.size; omega
                have Ge' : Gr Wd We := Gc'.trans (hb.trans (hWe.mono hb.size))
                clear ho hb hWe
                (apply tree_quiet [12, 13, 14, 16] (r := 0) (by kernel_rfl) (by kernel_rfl) (by kernel_rfl) (by kernel_rfl); (case hq => (intro z hz; simp only [pick, List.getElem?_cons_succ, List.getElem?_cons_zero]; (skip); (repeat (go_big_quiet_step ((fail)))); refine wpQuiet_nil ?_; exact rfl)); (case' h => intro Wg hWg))
                have Z := Z4.below (Ge'.trans hWg)
                have OZ := O7.below hWg
                have GZ : Gr wc Wg := Gd.trans (Ge'.trans hWg)
                have hsi : ∀ g, (Value.slice A3 R c3).ownBlock = some g → g ≠ z := fun g hg => by have := HI3.out g hg; omega
                obtain ⟨lz, z0, z1, y0, y1⟩ := id Z
                (refine tree_end (by kernel_rfl) ?_; simp only [pick, List.getElem?_cons_succ, List.getElem?_cons_zero])
                go_wp2
                exact HQ.out g4 c4 A' c' wd z _ ⟨hE.below (Bw.set (Bw.set GZ (p := ⟨z, 0, none⟩) hzz _) (p := ⟨z, 1, none⟩) hzz _), hen, own_set2 OZ hsep _ _, own_set2 (HI.out.below GZ) hsi _ _⟩

            case h2 =>
              intro g4 c4 A' c' wd z wq ⟨hE2, hen, hO, hI⟩
              have hdl : ((colW R C b j).take k).length = k := by rw [List.length_take]; unfold colW; rw [lineF_len]; omega
              have hwl : wd.length = R := by rw [hen.1, hdl]; omega
              have HST : Hid (EncC d R C p q (j + 1) (putN b (colP R C j) (fun k => wd.getD k 0) R)) := Lib.hid (HC.out.step hlj (Nat.le_of_lt h6) (Nat.le_of_lt h5) (by rw [HHD.out]; exact hen))
              obtain ⟨N, hNN⟩ : ∃ N, N = wd.length := ⟨_, rfl⟩
              rw [← hNN]
              rw [← hNN] at hwl hO
              subst hwl
              have HSET := Lib.hid (set_any2 N C p q x (N * C) (N * C) N N c3 c' w.heap.size (x + 1) A3 A' b wd (colP N C j) wq (colP_len N C j).symm hE2.b hI hO (Nat.lt_succ_self _) (Nat.le_refl _) h2 (fun i hi => colP_lt hlj hi) hN)
              have HUP := Lib.hid (fun W b' (h1 : Exc [x] wq W) h2 => hE2.upd (b' := b') h1 h2)
              obtain ⟨⟨ls, s0, s1, s2, s3⟩, s4⟩ := id hE2.v
              clear hen hNN hO hI hE hE2 HGET HENC HI HI3
              go_wp2_with fail
              refine HSET.out.mono ?_
              rintro e W6 ⟨rfl, ho6, hx6⟩
              have HE6 := Lib.hid (HUP.out _ _ hx6 ho6)
              clear ho6 hx6 HUP HSET ls s0 s1 s2 s3 s4
              go_wp2
              go_roundw
              case rel => first | exact ⟨j + 1, _, by omega, by go_num, HST.out, HE6.out⟩ | ((repeat apply Exists.intro); exact ⟨⟨j + 1, _, by omega, by go_num, HST.out, HE6.out⟩, rfl⟩)
              case measure => simp [intOf]; omega
          · obtain rfl : j = C := by omega
            have HBL := Lib.hid (hC.block (by omega) (Nat.le_of_lt h6))
            obtain ⟨⟨ls, s0, s1, s2, s3⟩, s4⟩ := id hE.v
            obtain ⟨lf, f0, f1, g0, g1⟩ := id hE.f
            have HE := Lib.hid hE
            have hxg := hE.xg
            clear hC
            go_wp2
            exact bodyPost_ret (resF2 rfl rfl (hE.f.set2 0 0)) rfl ⟨some ⟨x, 0, none⟩, R * j, b, rfl, (hE.b.far (p := ⟨w.heap.size + 1, 0, none⟩) (show w.heap.size + 1 ≠ x by omega) _).far (p := ⟨w.heap.size + 1, 1, none⟩) (show w.heap.size + 1 ≠ x by omega) _, HBL.out, Bw.set (Bw.set hE.bw (p := ⟨w.heap.size + 1, 0, none⟩) (by show w.heap.size ≤ w.heap.size + 1; omega) _) (p := ⟨w.heap.size + 1, 1, none⟩) (by show w.heap.size ≤ w.heap.size + 1; omega) _⟩
end Go.Proofs.YtmpjkdkgolmgdaaGreat
