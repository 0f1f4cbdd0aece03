/- Cross pages: the walk of Extend where the pages fit. -/
import Derived.Test.YtcinfkmekkdhfaaCpD
namespace Go.Proofs.Ytcinfkmekkdhfaa
open Go.RowKit Go.Shelf
set_option linter.unusedVariables false
attribute [local go_sem] Oper.semAt_some

theorem OwM.grown {w w' : World} {B : Nat} {v : Value} {hv : List Value} {L : List (List GF)} {row : Option Nat} (h : OwM w B v hv L) (hg : w.grownBy w' row) (hr : ∀ r, row = some r → ∃ o : Obj, w.heap[r]? = some o ∧ o.isCells = false) : OwM w' B v hv L := by
  have key : ∀ {e : TypeId} {u : Value} {n : Nat} {xs : List Value}, w.ownsRow B e 1 u n xs → u.ownBlock = none ∨ u.ownBlock ≠ row := fun {e u n xs} hu => by
    cases hb : u.ownBlock with
    | none => exact .inl rfl
    | some g =>
      refine .inr fun e2 => ?_
      obtain ⟨o, ho, hc⟩ := hr g e2.symm
      rcases hu.2 with ⟨h1, _⟩ | ⟨g', cap, cur, hv', _, hh, _⟩
      · rw [h1] at hb; cases hb
      · rw [hv'] at hb
        have : g' = g := Option.some.inj hb
        subst this
        rw [ho] at hh
        cases hh
        cases hc
  exact h.kept hg (key h.out) fun i hi => key (h.row i hi)
/-- What the rounds keep. -/
structure ExtI (w W : World) (o p m cap bm om : Nat) (P : List (List GF)) (k : Nat) : Prop where
  S : o + 4 ≤ W.heap.size
  cB : W.cell? ⟨o + 1, 0, none⟩ = some (.slice (some ⟨o, 0, none⟩) p p)
  cP : W.cell? ⟨w.heap.size, 0, none⟩ = some (.slice (some ⟨bm, om, none⟩) m cap)
  cN : W.cell? ⟨w.heap.size + 1, 0, none⟩ = some (.int .i64 p)
  F : Has W (w.heap.size + 2) 0 0
  M : ∃ hv L, OwM W w.heap.size (.slice (some ⟨o, 0, none⟩) L.length p) hv L ∧ ExtOK P p k L ∧ ∀ i, i < p → ∀ g, (hv.getD i undef).ownBlock = some g → o + 3 < g
  B : Below w.heap.size w W
theorem ExtI.own {w : World} {o p m cap bm om N : Nat} {P : List (List GF)} (hN : w.heap.size ≤ N) : OwnFrom N (fun (pre : List Pos) W => ExtI w W o p m cap bm om P pre.length) := by
  intro s A B row h hg hr
  have hr' : ∀ r, row = some r → ∃ o : Obj, A.heap[r]? = some o ∧ o.isCells = false := fun r e => (hr r e).2
  obtain ⟨hv, L, h1, h2, h3⟩ := h.M
  obtain ⟨lf, f0, f1, g0, g1⟩ := h.F
  exact ⟨Nat.le_trans h.S hg.size, cell_kept h.cB hg hr', cell_kept h.cP hg hr', cell_kept h.cN hg hr', ⟨Nat.lt_of_lt_of_le lf hg.size, cell_kept f0 hg hr', cell_kept f1 hg hr', (frozen_kept f0 hg hr').trans g0, (frozen_kept f1 hg hr').trans g1⟩,
    ⟨hv, L, h1.grown hg hr', h2, h3⟩, ownFrom_below (β := Unit) (Nat.le_refl _) hN () A B row h.B hg hr⟩
theorem own_putObj {W : World} {B : Nat} {e : TypeId} {s : Nat} {u : Value} {k : Nat} {xs : List Value} (h : W.ownsRow B e s u k xs) {l : Nat} {o : Obj} (o' : Obj) (hl : W.heap[l]? = some o) (hc : o.isCells = false) : (W.putObj l o').ownsRow B e s u k xs := by
  refine World.ownsRow.kept h (grownBy_putObj' W l o') ?_
  rcases h.2 with ⟨h1, _⟩ | ⟨g, cap, cur, hv, _, hh, _⟩
  · left; rw [h1]; rfl
  · right
    rw [hv]
    intro e2
    have : g = l := Option.some.inj e2
    subst this
    rw [hl] at hh
    cases hh
    cases hc
theorem FPos.put {P : List (List GF)} {n : Nat} (pre : List Pos) (x : Pos) (W0 W : World) (l : Nat) (o o' : Obj) (hl : W.heap[l]? = some o) (hc : o.isCells = false) (h : FPos P n pre x W0 W) : FPos P n pre x W0 (W.putObj l o') :=
  ⟨h.1, h.2.1, own_putObj h.2.2.1 o' hl hc, fun B e s u k xs hu => own_putObj (h.2.2.2 B e s u k xs hu) o' hl hc⟩
theorem KB2.put {n₀ B1 B2 : Nat} {w : World} (hn : n₀ ≤ w.heap.size) (h1 : B1 < w.heap.size) (h2 : B2 < w.heap.size) (W : World) (l : Nat) (o o' : Obj) (hl : w.heap.size ≤ l) (h : W.heap[l]? = some o) (ha : o.isCells = false) (hb : o.isWalk = false) : KB2 n₀ B1 B2 W (W.putObj l o') :=
  ⟨belowK_b hn W l o o' hl h ha hb, World.putObj_heap_other (by omega), World.putObj_heap_other (by omega)⟩
theorem OwM.off {w : World} {B : Nat} {v : Value} {hv : List Value} {L : List (List GF)} (h : OwM w B v hv L) {p : Addr} (h1 : ∀ g, v.ownBlock = some g → g ≠ p.block) (h2 : ∀ i, i < L.length → ∀ g, (hv.getD i undef).ownBlock = some g → g ≠ p.block) (u : Value) : OwM (w.setCell p u) B v hv L :=
  ⟨h.len, own_off h.out h1 u, fun i hi => own_off (h.row i hi) (h2 i hi) u, h.sep, h.far⟩
theorem ExtI.set2 {w W : World} {o p m cap bm om k : Nat} {P : List (List GF)} (h : ExtI w W o p m cap bm om P k) (hos : o = w.heap.size + 3) : ExtI w ((W.setCell ⟨w.heap.size + 2, 0, none⟩ (.int .i64 0)).setCell ⟨w.heap.size + 2, 1, none⟩ (.int .i64 0)) o p m cap bm om P k := by
  obtain ⟨hv, L, h1, h2, h3⟩ := h.M
  have key : ∀ b, b ≠ w.heap.size + 2 → ((W.setCell ⟨w.heap.size + 2, 0, none⟩ (.int .i64 0)).setCell ⟨w.heap.size + 2, 1, none⟩ (.int .i64 0)).heap[b]? = W.heap[b]? := fun b hb =>
    (Below.heap_setCell _ ⟨w.heap.size + 2, 1, none⟩ _ b hb).trans (Below.heap_setCell _ ⟨w.heap.size + 2, 0, none⟩ _ b hb)
  have ha : ∀ g, Value.ownBlock (.slice (some ⟨o, 0, none⟩) L.length p) = some g → g ≠ w.heap.size + 2 := fun g hg => by
    have : o = g := Option.some.inj hg
    omega
  have hb : ∀ i, i < L.length → ∀ g, (hv.getD i undef).ownBlock = some g → g ≠ w.heap.size + 2 := fun i hi g hg => by
    have := h3 i (by rw [← h2.1]; exact hi) g hg
    omega
  exact ⟨by simpa using h.S, (World.cell?_of_block (a := ⟨o + 1, 0, none⟩) (key (o + 1) (by omega))).trans h.cB, (World.cell?_of_block (a := ⟨w.heap.size, 0, none⟩) (key w.heap.size (by omega))).trans h.cP, (World.cell?_of_block (a := ⟨w.heap.size + 1, 0, none⟩) (key (w.heap.size + 1) (by omega))).trans h.cN,
    h.F.set2 0 0, ⟨hv, L, (h1.off (p := ⟨w.heap.size + 2, 0, none⟩) ha hb _).off (p := ⟨w.heap.size + 2, 1, none⟩) ha hb _, h2, h3⟩, (h.B.setCell (p := ⟨w.heap.size + 2, 0, none⟩) (by simp) _).setCell (p := ⟨w.heap.size + 2, 1, none⟩) (by simp) _⟩
theorem keeps_grown {w w' : World} {v v' : Value} (h2 : w.grownBy w' v.ownBlock) (h3 : v'.ownBlock = v.ownBlock ∨ v'.ownBlock = some w.heap.size) : Keeps w w' v v' := by
  intro B e s u n xs hu hne
  refine ⟨World.ownsRow.kept hu h2 hne, ?_⟩
  unfold Apt at *
  cases hb : u.ownBlock with
  | none => exact .inl rfl
  | some g =>
    right
    rcases h3 with h3 | h3
    · rw [h3]
      rcases hne with e | e
      · rw [e] at hb; cases hb
      · rw [← hb]; exact e
    · rw [h3]
      intro e
      have := own_lt hu hb
      have : g = w.heap.size := Option.some.inj e
      omega
/-- What the inner rounds keep. -/
structure ExtJ (w W wr : World) (o p m cap bm om : Nat) (P : List (List GF)) (k j : Nat) (wd : List GF) (L0 : List (List GF)) (gc cc : Nat) : Prop where
  S : o + 4 ≤ wr.heap.size
  cB : wr.cell? ⟨o + 1, 0, none⟩ = some (.slice (some ⟨o, 0, none⟩) p p)
  cP : wr.cell? ⟨w.heap.size, 0, none⟩ = some (.slice (some ⟨bm, om, none⟩) m cap)
  cN : wr.cell? ⟨w.heap.size + 1, 0, none⟩ = some (.int .i64 p)
  F : Has wr (w.heap.size + 2) 0 0
  M : ∃ hv L, OwM wr w.heap.size (.slice (some ⟨o, 0, none⟩) L.length p) hv L ∧ ExtMid P p k j wd L0 L ∧ (∀ i, i < p → ∀ g, (hv.getD i undef).ownBlock = some g → o + 3 < g) ∧ ∀ i, i < p → Apt (hv.getD i undef) (.slice (some ⟨gc, 0, none⟩) (m + p) cc)
  C : ∃ B, OwB wr B (.slice (some ⟨gc, 0, none⟩) (m + p) cc) wd
  Cg : o < gc
  B : Below w.heap.size w wr
  K : KeepsOthers W wr
  KB : KB2 w.heap.size (o + 3) (o + 2) W wr
theorem keepsO_below {W W' : World} (h : Below W.heap.size W W') : KeepsOthers W W' := KeepsOthers.of_grownBy (below_grown0 h) (fun _ _ e => by cases e)
theorem ExtJ.below {w W wr wr' : World} {o p m cap bm om k j gc cc : Nat} {P L0 : List (List GF)} {wd : List GF} (h : ExtJ w W wr o p m cap bm om P k j wd L0 gc cc) (hos : o = w.heap.size + 3) (hb : Below wr.heap.size wr wr') : ExtJ w W wr' o p m cap bm om P k j wd L0 gc cc := by
  have hS := h.S
  obtain ⟨hv, L, h1, h2, h3, h4⟩ := h.M
  obtain ⟨B, hC⟩ := h.C
  exact ⟨Nat.le_trans hS hb.size, (hb.cell (p := ⟨o + 1, 0, none⟩) (by show o + 1 < wr.heap.size; omega)).trans h.cB, (hb.cell (p := ⟨w.heap.size, 0, none⟩) (by show w.heap.size < wr.heap.size; omega)).trans h.cP, (hb.cell (p := ⟨w.heap.size + 1, 0, none⟩) (by show w.heap.size + 1 < wr.heap.size; omega)).trans h.cN,
    h.F.below hb, ⟨hv, L, h1.below hb, h2, h3, h4⟩, ⟨B, hC.below hb⟩, h.Cg, Bw.step h.B hb, h.K.trans (keepsO_below hb), h.KB.trans (KB2.of hb (by omega) (by omega) (by omega))⟩
theorem ExtJ.step {w W wr : World} {o p m cap bm om k j gc cc : Nat} {P L0 : List (List GF)} {wd : List GF} (h : ExtJ w W wr o p m cap bm om P k j wd L0 gc cc) (hos : o = w.heap.size + 3) {hv : List Value} {L : List (List GF)}
    (hM : OwM wr w.heap.size (.slice (some ⟨o, 0, none⟩) L.length p) hv L) (hE : ExtMid P p k j wd L0 L) (hG : ∀ i, i < p → ∀ g, (hv.getD i undef).ownBlock = some g → o + 3 < g) (hA : ∀ i, i < p → Apt (hv.getD i undef) (.slice (some ⟨gc, 0, none⟩) (m + p) cc)) (hj : j < p)
    {w' : World} {v' : Value} (ho : OwB w' w.heap.size v' (L.getD j [] ++ [wd.getD (P.length + j) 0])) (hg : wr.grownBy w' (hv.getD j undef).ownBlock) (hat : v'.ownBlock = (hv.getD j undef).ownBlock ∨ v'.ownBlock = some wr.heap.size) :
    ExtJ w W (w'.setCell ⟨o, j, none⟩ v') o p m cap bm om P k (j + 1) wd L0 gc cc := by
  have hS := h.S
  have hk := keeps_grown hg hat
  have hz : (w'.setCell ⟨o, j, none⟩ v').heap.size = w'.heap.size := by simp
  have key : ∀ b, b < o + 4 → b ≠ o → (w'.setCell ⟨o, j, none⟩ v').heap[b]? = wr.heap[b]? := fun b hb hbo =>
    (Below.heap_setCell w' ⟨o, j, none⟩ v' b hbo).trans (hg.block b (by omega) fun e => by have := hG j hj b e.symm; omega)
  have hbw : Below w.heap.size wr (w'.setCell ⟨o, j, none⟩ v') := ⟨hg.os, hg.tape, hg.output, by rw [hz]; exact hg.size, fun b hb => key b (by omega) (by omega)⟩
  obtain ⟨lf, f0, f1, g0, g1⟩ := h.F
  obtain ⟨B, hC⟩ := h.C
  have hLl : L.length = p := hE.1
  have hlv : hv.length = p := by rw [hM.len, hLl]
  have hC2 := hk _ _ _ _ _ _ hC (hA j hj).symm
  refine ⟨by rw [hz]; exact Nat.le_trans hS hg.size, (World.cell?_of_block (a := ⟨o + 1, 0, none⟩) (key (o + 1) (by omega) (by omega))).trans h.cB, (World.cell?_of_block (a := ⟨w.heap.size, 0, none⟩) (key w.heap.size (by omega) (by omega))).trans h.cP, (World.cell?_of_block (a := ⟨w.heap.size + 1, 0, none⟩) (key (w.heap.size + 1) (by omega) (by omega))).trans h.cN,
    ⟨by rw [hz]; exact Nat.lt_of_lt_of_le lf hg.size, (World.cell?_of_block (a := ⟨w.heap.size + 2, 0, none⟩) (key (w.heap.size + 2) (by omega) (by omega))).trans f0, (World.cell?_of_block (a := ⟨w.heap.size + 2, 1, none⟩) (key (w.heap.size + 2) (by omega) (by omega))).trans f1, (World.frozen?_of_block (a := ⟨w.heap.size + 2, 0, none⟩) (key (w.heap.size + 2) (by omega) (by omega))).trans g0, (World.frozen?_of_block (a := ⟨w.heap.size + 2, 1, none⟩) (key (w.heap.size + 2) (by omega) (by omega))).trans g1⟩,
    ⟨hv.set j v', L.set j (L.getD j [] ++ [wd.getD (P.length + j) 0]), by rw [List.length_set]; exact hM.grow (by omega) hk ho, hE.step hj, fun i hi g hgi => ?_, fun i hi => ?_⟩, ⟨B, own_off hC2.1 (fun g hg => ?_) v'⟩, h.Cg, h.B.trans hbw,
    h.K.trans ((KeepsOthers.of_grownBy hg fun r ob e hr => ?_).trans (KeepsOthers.setCell _ _ _)), h.KB.trans ⟨hbw, key _ (by omega) (by omega), key _ (by omega) (by omega)⟩⟩
  · by_cases e : i = j
    · subst e
      rw [getD_set_eq (by omega)] at hgi
      rcases hat with h1 | h1
      · exact hG i hi g (by rw [← h1]; exact hgi)
      · rw [h1] at hgi
        have : wr.heap.size = g := Option.some.inj hgi
        omega
    · rw [getD_set_neq (fun e' => e e'.symm)] at hgi
      exact hG i hi g hgi
  · by_cases e : i = j
    · subst e
      rw [getD_set_eq (by omega)]
      exact hC2.2.symm
    · rw [getD_set_neq (fun e' => e e'.symm)]
      exact hA i hi
  · have : gc = g := Option.some.inj hg
    have := h.Cg
    show g ≠ o
    omega
  · rcases (hM.row j (by omega)).2 with ⟨h1, _⟩ | ⟨g', cap', cur, hv', _, hh, _⟩
    · rw [h1] at e; cases e
    · rw [hv'] at e
      have : g' = r := Option.some.inj e
      subst this
      rw [hh] at hr
      cases hr
      rfl
theorem ExtI.enter {w W wr : World} {o p m cap bm om k gc cc : Nat} {P : List (List GF)} {wd : List GF} (h : ExtI w W o p m cap bm om P k) (hos : o = w.heap.size + 3) (hb : Below W.heap.size W wr) (hwo : OwB wr W.heap.size (.slice (some ⟨gc, 0, none⟩) (m + p) cc) wd) :
    ∃ L0, ExtOK P p k L0 ∧ ExtJ w W wr o p m cap bm om P k 0 wd L0 gc cc := by
  have hS := h.S
  obtain ⟨hv, L, h1, h2, h3⟩ := h.M
  have hgc : W.heap.size ≤ gc := by
    rcases hwo.2 with ⟨e, _⟩ | ⟨g, cap', cur, e, hB, _⟩
    · cases e
    · injection e with e1 e2 e3
      injection e1 with e1
      injection e1 with e1
      omega
  refine ⟨L, h2, Nat.le_trans hS hb.size, (hb.cell (p := ⟨o + 1, 0, none⟩) (by show o + 1 < W.heap.size; omega)).trans h.cB, (hb.cell (p := ⟨w.heap.size, 0, none⟩) (by show w.heap.size < W.heap.size; omega)).trans h.cP, (hb.cell (p := ⟨w.heap.size + 1, 0, none⟩) (by show w.heap.size + 1 < W.heap.size; omega)).trans h.cN,
    h.F.below hb, ⟨hv, L, h1.below hb, ExtMid.start h2.1, h3, fun i hi => ?_⟩, ⟨_, hwo⟩, by omega, Bw.step h.B hb, keepsO_below hb, KB2.of hb (by omega) (by omega) (by omega)⟩
  cases hbk : (hv.getD i undef).ownBlock with
  | none => exact .inl hbk
  | some g =>
    refine .inr fun e => ?_
    have h5 := own_lt (h1.row i (by rw [h2.1]; exact hi)) hbk
    rw [hbk] at e
    have : g = gc := Option.some.inj e
    omega
theorem ExtJ.leave {w W wr : World} {o p m cap bm om k gc cc : Nat} {P L0 : List (List GF)} {wd : List GF} (h0 : ExtOK P p k L0) (h : ExtJ w W wr o p m cap bm om P k p wd L0 gc cc) (hw : IsEnc (wordP P k) p wd) (hlen : P.length + p ≤ 255) :
    KeepsOthers W wr ∧ KB2 w.heap.size (o + 3) (o + 2) W wr ∧ ExtI w wr o p m cap bm om P (k + 1) := by
  obtain ⟨hv, L, h1, h2, h3, _⟩ := h.M
  exact ⟨h.K, h.KB, h.S, h.cB, h.cP, h.cN, h.F, ⟨hv, L, h1, ExtMid.done h0 h2 hw hlen, h3⟩, h.B⟩
set_option maxRecDepth 100000 in
set_option maxHeartbeats 4000000 in
theorem extend_in (k0 : Nat) (hk0 : 4 ≤ k0) (A : Option Addr) (m cap p n : Nat) (P : List (List GF)) (w : World) (hM : RdM w A m P) (h1 : 1 ≤ m) (h2 : m ≤ 48) (hp : p ≤ 16) (hn1 : 1 ≤ n) (hn2 : n ≤ 384) (hl : ∀ i, i < m → (P.getD i []).length = n) :
    CallsIn Fence.wide k0 Try.prog 9 #[.slice A m cap, .int .i64 p] w fun e w' => ∃ A' c' hv L, e = .returned (.tuple #[.slice A' p c', .agg #[.int .i64 0, .int .i64 0]]) ∧ OwM w' w.heap.size (.slice A' p c') hv L ∧ ExtOK P p n L ∧ Below w.heap.size w w' := by
  have hPm : P.length = m := hM.1
  have HM := Lib.hid hM
  have HL := Lib.hid hl
  obtain ⟨bm, om, rfl, hbm, hcm⟩ := hM.2 (by omega)
  have HCM := Lib.hid hcm
  clear hM hl hcm
  refine callsIn_of_wp_marks Try.func9 rfl trivial ?_ rfl
  simp only [Try.ntmps9, List.size_toArray, List.length_cons, List.length_nil, Nat.reduceAdd, Nat.reduceSub, Array.replicate_succ, Array.replicate_zero, List.push_toArray, List.append_toArray, List.nil_append, List.cons_append]
  have hfn : ∀ f, Fence.wide.fn f := fun _ => trivial
  have hdp : Fence.wide.depth = none := rfl
  have hm0 : ((m : Int) == 0) = false := by rw [beq_eq_false_iff_ne]; omega
  obtain ⟨A0, c0, hc0, hr0⟩ := HCM.out 0 (by omega)
  rw [HL.out 0 (by omega), Nat.add_zero] at hc0
  clear hr0
  have hc0' : (((w.alloc (.cells #[.slice (some ⟨bm, om, none⟩) m cap] 22)).alloc (.cells #[.int .i64 p] 3)).alloc (.cells #[.int .i64 0, .int .i64 0] 24)).cell? ⟨bm, om, none⟩ = some (.slice A0 n c0) :=
    ((Bw.al (Bw.al (below_new w (.cells #[.slice (some ⟨bm, om, none⟩) m cap] 22)) (.cells #[.int .i64 p] 3)) (.cells #[.int .i64 0, .int .i64 0] 24)).cell (p := ⟨bm, om, none⟩) hbm).trans hc0
  gi_wp2
  obtain ⟨W3, hW3⟩ : ∃ W3 : World, W3 = ((w.alloc (.cells #[.slice (some ⟨bm, om, none⟩) m cap] 22)).alloc (.cells #[.int .i64 p] 3)).alloc (.cells #[.int .i64 0, .int .i64 0] 24) := ⟨_, rfl⟩
  have b3 : Below w.heap.size w W3 := by rw [hW3]; exact Bw.al (Bw.al (below_new w _) _) _
  have z3 : W3.heap.size = w.heap.size + 3 := by rw [hW3]; simp
  have cP : W3.cell? ⟨w.heap.size, 0, none⟩ = some (.slice (some ⟨bm, om, none⟩) m cap) := by rw [hW3]; exact (((Boxed.new w 22 _).alloc _).alloc _).cell
  have cN : W3.cell? ⟨w.heap.size + 1, 0, none⟩ = some (.int .i64 p) := by
    rw [hW3]
    have := Boxed.new (w.alloc (.cells #[.slice (some ⟨bm, om, none⟩) m cap] 22)) 3 (.int .i64 p)
    rw [World.size_alloc] at this
    exact (this.alloc _).cell
  have F3 : Has W3 (w.heap.size + 2) 0 0 := by
    rw [hW3]
    have := Has.new ((w.alloc (.cells #[.slice (some ⟨bm, om, none⟩) m cap] 22)).alloc (.cells #[.int .i64 p] 3)) 0 0 24
    rw [World.size_alloc, World.size_alloc] at this
    exact this
  rw [← hW3]
  rw [← hW3] at hc0'
  clear hc0 hW3
  have HB3 := Lib.hid b3
  have HF3 := Lib.hid F3
  have HcP := Lib.hid cP
  have HcN := Lib.hid cN
  have HZ3 := Lib.hid z3
  clear b3 F3 cP cN z3 hc0'
  refine wpIn_wide.2 ?_
  go_loopw [39] (fun i wr => ∃ k : Nat, k ≤ m ∧ i = .int .i64 k ∧ wr = W3) (fun i _ => m - (intOf i).toNat)
  case atStart => exact ⟨0, Nat.zero_le _, rfl, rfl⟩
  case round =>
    obtain ⟨k, hk, rfl, rfl⟩ := hrel
    by_cases hlk : k < m
    · obtain ⟨Ak, ck, hck, _⟩ := HCM.out k hlk
      rw [HL.out k hlk] at hck
      have hck' := (HB3.out.cell (p := ⟨bm, om + k, none⟩) hbm).trans hck
      have hn0 : ((n : Int) == 0) = false := by rw [beq_eq_false_iff_ne]; omega
      clear hck
      go_wp2
      go_roundw
      case rel => first | exact ⟨k + 1, by omega, by go_num, by first | trivial | rfl⟩ | ((repeat apply Exists.intro); exact ⟨⟨k + 1, by omega, by go_num, by first | trivial | rfl⟩, rfl⟩)
      case measure => simp [intOf]; omega
    · obtain rfl : m = k := by omega
      have cP := HcP.out
      have cN := HcN.out
      have HMK := run_makeM p (by omega) wr
      have b5 : Below wr.heap.size wr ((wr.alloc (.cells (nilsM p) 41)).alloc (.cells #[.slice (some ⟨wr.heap.size, 0, none⟩) p p] 22)) := Bw.al (below_new wr _) _
      have hz5 : w.heap.size < wr.heap.size := by have := HZ3.out; omega
      have cP5 := (b5.cell (p := ⟨w.heap.size, 0, none⟩) hz5).trans HcP.out
      have HB5 := Lib.hid b5
      clear hlk hk b5
      go_wp2
      gi_wp2_with (gi_at_call 24; refine (callsIn_wide.2 (positions_any _ _ _ _ _)).mono ?_; rintro e w' ⟨rfl, rfl⟩)
      obtain ⟨o, ho⟩ : ∃ o, wr.heap.size = o := ⟨_, rfl⟩
      have hos : o = w.heap.size + 3 := by rw [← ho]; exact HZ3.out
      have hI : ExtI w ((((wr.alloc (.cells (nilsM p) 41)).alloc (.cells #[.slice (some ⟨wr.heap.size, 0, none⟩) p p] 22)).alloc (.cells #[.slice (some ⟨bm, om, none⟩) m cap] 22)).alloc (.cells #[.int .i64 n] 3)) o p m cap bm om P 0 := by
        have bx := Boxed.new (wr.alloc (.cells (nilsM p) 41)) 22 (.slice (some ⟨wr.heap.size, 0, none⟩) p p)
        rw [World.size_alloc, ho] at bx
        have om7 := ((((OwM.new wr w.heap.size p (by omega) (by omega)).below (below_new _ (.cells #[.slice (some ⟨wr.heap.size, 0, none⟩) p p] 22))).below (below_new _ (.cells #[.slice (some ⟨bm, om, none⟩) m cap] 22))).below (below_new _ (.cells #[.int .i64 n] 3)))
        rw [ho] at om7 ⊢
        have b7 : Below wr.heap.size wr ((((wr.alloc (.cells (nilsM p) 41)).alloc (.cells #[.slice (some ⟨o, 0, none⟩) p p] 22)).alloc (.cells #[.slice (some ⟨bm, om, none⟩) m cap] 22)).alloc (.cells #[.int .i64 n] 3)) := Bw.al (Bw.al (Bw.al (below_new wr _) _) _) _
        refine ⟨by simp [ho], ((bx.alloc _).alloc _).cell, (b7.cell (p := ⟨w.heap.size, 0, none⟩) (by omega)).trans HcP.out, (b7.cell (p := ⟨w.heap.size + 1, 0, none⟩) (by show w.heap.size + 1 < wr.heap.size; omega)).trans HcN.out, HF3.out.below b7, ⟨_, _, by rw [List.length_replicate]; exact om7, ExtOK.start P p, fun i hi g hg => ?_⟩, Bw.step HB3.out b7⟩
        simp [List.getD, hi, Value.ownBlock] at hg
      have HI := Lib.hid hI
      have B2 := Boxed.new ((wr.alloc (.cells (nilsM p) 41)).alloc (.cells #[.slice (some ⟨wr.heap.size, 0, none⟩) p p] 22)) 22 (.slice (some ⟨bm, om, none⟩) m cap)
      have B1 := Boxed.new (((wr.alloc (.cells (nilsM p) 41)).alloc (.cells #[.slice (some ⟨wr.heap.size, 0, none⟩) p p] 22)).alloc (.cells #[.slice (some ⟨bm, om, none⟩) m cap] 22)) 3 (.int .i64 n)
      have q2 := (B2.alloc (.cells #[.int .i64 n] 3)).cell
      have q1 := B1.cell
      simp only [World.size_alloc] at q1 q2
      have HQ1 := Lib.hid q1
      have HQ2 := Lib.hid q2
      have hz7 : ((((wr.alloc (.cells (nilsM p) 41)).alloc (.cells #[.slice (some ⟨wr.heap.size, 0, none⟩) p p] 22)).alloc (.cells #[.slice (some ⟨bm, om, none⟩) m cap] 22)).alloc (.cells #[.int .i64 n] 3)).heap.size = wr.heap.size + 4 := by simp
      have HZ7 := Lib.hid hz7
      clear hI B1 B2 q1 q2 hz7 HMK cP cN cP5 HB5
      generalize (((wr.alloc (.cells (nilsM p) 41)).alloc (.cells #[.slice (some ⟨wr.heap.size, 0, none⟩) p p] 22)).alloc (.cells #[.slice (some ⟨bm, om, none⟩) m cap] 22)).alloc (.cells #[.int .i64 n] 3) = W7 at *
      have hzz := HZ7.out
      rw [ho] at hzz HQ1 HQ2 ⊢
      have HZZ := Lib.hid hzz
      have h4 : 1 ≤ k0 := by omega
      refine wpIn_each h4 (gf := 35) (lb := #[.pointer (some ⟨o + 1 + 1 + 1, 0, none⟩), .pointer (some ⟨o + 1 + 1, 0, none⟩)]) rfl (enters_of Try.func35 (by kernel_rfl) rfl)
        (pos_each (k0 - 1) (by omega) (o + 3) (o + 2) n m cap _ P (by omega) hn2 w W7 HM.out HI.out.B (by omega) (by omega) HQ1.out HQ2.out (fun i hi => .inr (HL.out i hi))) KB2.trans (KB2.put (by omega) (by omega) (by omega)) (fun pre x W0 W l o o' => FPos.put pre x W0 W l o o') (fun _ => rfl)
        (fun pre W => ExtI w W o p m cap bm om P pre.length) (ExtI.own (by omega)) HI.out ?fr ?assign ?body ?done
      case assign =>
        intro l x W K hK
        gi_wp2
        exact hK
      case body =>
        intro l pre x W0 W hI0 hI hF hlen
        clear hI0
        obtain ⟨x1, x2, x3⟩ := x
        obtain ⟨hx1, hx2, hx3, _⟩ := hF
        replace hx3 := hx3.rd.1
        simp only at hx1 hx3
        rw [hPm] at hx3
        clear HQ1 HQ2 HZ7 hzz HZZ HI HB3 HF3 HcP HcN HZ3 ho
        subst hos
        have cN := hI.cN
        have HIK := Lib.hid hI
        clear hI
        gi_wp2_with (gi_at_call 25; refine (CallsIn.inRound l (callsIn_wide.2 (Encode_ok x2 m x3 p (wordP P x1) W hx3 (by omega) (by omega) (by omega)))).mono ?_; rintro e w' ⟨A1, c1, wd, rfl, hwo, hen, hwb⟩; have hwl : wd.length = m + p := (hen.1.trans (by rw [wordP_len, hPm])); rw [hwl] at hwo ⊢; obtain ⟨gc, rfl⟩ := hwo.head (by omega); obtain ⟨L0, hL0, hJ0⟩ := HIK.out.enter rfl (Bw.al hwb (.cells #[.int .i64 0, .int .i64 0] 24)) (hwo.below (below_new _ _)); have cB0 := hJ0.cB; have HJ0 := Lib.hid hJ0; have HL0 := Lib.hid hL0; have HEN := Lib.hid hen; clear hJ0 hL0 hen hwo hwb)
        rw [← hx1] at HJ0 HL0
        clear cN cB0
        generalize w'.alloc (.cells #[.int .i64 0, .int .i64 0] 24) = W4 at *
        gi_loopw [76] (fun i wr => ∃ j : Nat, j ≤ p ∧ i = .int .i64 j ∧ ExtJ w W wr (w.heap.size + 3) p m cap bm om P x1 j wd L0 gc c1) (fun i _ => p - (intOf i).toNat)
        case atStart => exact ⟨0, Nat.zero_le _, rfl, HJ0.out⟩
        case round =>
          obtain ⟨j, hj, rfl, hJ⟩ := hrel
          obtain ⟨hv, L, hM, hE, hG, hA⟩ := hJ.M
          obtain ⟨BC, hC⟩ := hJ.C
          by_cases hlt : j < p
          · have cB := hJ.cB
            have cP := hJ.cP
            have hS := hJ.S
            have hLl : L.length = p := hE.1
            have hrow := hM.cellAt (i := j) (by omega)
            have hcd := hC.cellAt (i := m + j) (by omega)
            have hbg := own_lt hC (rfl : Value.ownBlock (.slice (some ⟨gc, 0, none⟩) (m + p) c1) = some gc)
            have hb1 : w.heap.size + 3 + 1 < wr.heap.size := by omega
            have hb2 : w.heap.size < wr.heap.size := by omega
            have hb3 : w.heap.size + 3 < wr.heap.size := by omega
            have HROW := Lib.hid (hM.row j (by omega))
            have HJJ := Lib.hid hJ
            have HMM := Lib.hid hM
            have HE := Lib.hid hE
            have HG := Lib.hid hG
            have HA := Lib.hid hA
            have HLL := Lib.hid hLl
            clear hJ hM hE hG hA hC hLl
            generalize hrv : hv.getD j undef = rv at *
            generalize hyy : wd.getD (m + j) 0 = y at *
            have HRV := Lib.hid hrv
            have HYY := Lib.hid hyy
            clear hrv hyy
            gi_wp2
            (apply wpIn_region_held (fun z => w.heap.size + 3 + 1 < z.heap.size ∧ z.cell? ⟨w.heap.size + 3 + 1, 0, none⟩ = some (.slice (some ⟨w.heap.size + 3, 0, none⟩) p p)) [0, 1] [2, 3, 4, 5, 6, 7, 8, 9, 10, 11, 12] [13] [14, 15, 16] rfl (by kernel_rfl) ?hL (by kernel_rfl); (case hd0 => kernel_rfl); (case hq0 => (intro z hz; simp only [pick, List.getElem?_cons_succ, List.getElem?_cons_zero]; (have hx0 := fun (x : Just z) => (show x.w.cell? ⟨w.heap.size + 3 + 1, 0, none⟩ = some (.slice (some ⟨w.heap.size + 3, 0, none⟩) p p) by rw [x.eq]; exact hz.2)); (repeat (go_big_quiet_step (fail))); refine wpQuiet_nil ?_; exact rfl)); (case hd => kernel_rfl); (case hq => (intro z hz; simp only [pick, List.getElem?_cons_succ, List.getElem?_cons_zero]; (have hx1 := fun x => cell_extz hz hb1 cB x; have hx2 := fun x => cell_extz hz hb2 cP x; have hx3 := fun x => cell_extz hz hb3 hrow x; have hx4 := fun x => cell_extz hz hbg.2 hcd x); (repeat (go_big_quiet_step ((fail)))); refine wpQuiet_nil ?_; exact rfl)); (case' hc => (simp only [pick, List.getElem?_cons_succ, List.getElem?_cons_zero]; intro W5 hW5; simp only [chainJ, chainV])))
            case hL => rintro ⟨_, _, h⟩; exact h
            case hI0 => exact ⟨hb1, cB⟩
            case hS =>
              intro U V hUV hI
              exact ⟨Nat.lt_of_lt_of_le hI.1 hUV.size, (hUV.cell (p := ⟨w.heap.size + 3 + 1, 0, none⟩) hI.1).trans hI.2⟩
            go_wp2
            refine ⟨below_new _ _, fun W6 hW6 => ?_⟩
            have hb6 : Below wr.heap.size wr W6 := Bw.step (Bw.al hW5 _) hW6
            have hJ6 := HJJ.out.below rfl hb6
            have hM6 := HMM.out.below hb6
            have hS6 := hJ6.S
            have hro6 := HROW.out.below hb6
            have hone := (RdB.one W5 y 5 1).below hW6
            have hfz6 := hM6.frozenAt j
            have hce6 := hM6.cellAt (i := j) (by have := HLL.out; omega)
            rw [HRV.out] at hce6
            have HJ6 := Lib.hid hJ6
            have HM6 := Lib.hid hM6
            have HB6 := Lib.hid hb6
            have hll : (L.getD j []).length ≤ 384 := by
              rw [HE.out.2 j hlt, if_neg (Nat.lt_irrefl j), (HL0.out.2 j hlt).1]; omega
            clear hJ6 hM6 hb6 hx1 cB cP hrow hcd hW5 hW6
            have key7 : ∀ v1 w1, OwB w1 w.heap.size v1 (L.getD j [] ++ [y]) → W6.grownBy w1 rv.ownBlock → (v1.ownBlock = rv.ownBlock ∨ v1.ownBlock = some W6.heap.size) → w1.cell? ⟨w.heap.size + 3, j, none⟩ = some rv ∧ w1.frozen? ⟨w.heap.size + 3, j, none⟩ = false ∧ w1.cell? ⟨w.heap.size + 3 + 1, 0, none⟩ = some (.slice (some ⟨w.heap.size + 3, 0, none⟩) p p) ∧
                ExtJ w W (w1.setCell ⟨w.heap.size + 3, j, none⟩ v1) (w.heap.size + 3) p m cap bm om P x1 (j + 1) wd L0 gc c1 := fun v1 w1 ho1 hg1 hat1 => by
              have hne : some (w.heap.size + 3) ≠ rv.ownBlock := fun e => by
                have := HG.out j hlt (w.heap.size + 3) (by rw [HRV.out]; exact e.symm)
                omega
              have hne1 : some (w.heap.size + 3 + 1) ≠ rv.ownBlock := fun e => by
                have := HG.out j hlt (w.heap.size + 3 + 1) (by rw [HRV.out]; exact e.symm)
                omega
              have hk1 := hg1.block (w.heap.size + 3) (by omega) hne
              have hk2 := hg1.block (w.heap.size + 3 + 1) (by omega) hne1
              exact ⟨(World.cell?_of_block (a := ⟨w.heap.size + 3, j, none⟩) hk1).trans hce6, (World.frozen?_of_block (a := ⟨w.heap.size + 3, j, none⟩) hk1).trans hfz6, (World.cell?_of_block (a := ⟨w.heap.size + 3 + 1, 0, none⟩) hk2).trans HJ6.out.cB, HJ6.out.step rfl HM6.out HE.out HG.out HA.out hlt (by rw [hPm, HYY.out]; exact ho1) (by rw [HRV.out]; exact hg1) (by rw [HRV.out]; exact hat1)⟩
            have HK7 := Lib.hid key7
            clear key7 hce6 hfz6
            go_wp2_with (at_builtin; refine wpList_appB W6 rfl (.tmp 84) (.tmp 92) rfl w.heap.size rv (L.getD j []) rfl hro6 _ 1 1 [y] rfl hone (by rw [List.length_singleton]; omega) (by omega) ?_; intro v1 w1 ho1 hg1 hat1; obtain ⟨hce1, hfz1, hcb1, hJ7⟩ := HK7.out v1 w1 ho1 hg1 hat1; have hz7 : w.heap.size + 3 + 1 < w1.heap.size := (by have := hg1.size; omega); obtain ⟨A7, c7, rfl⟩ := ho1.form; generalize (L.getD j [] ++ [y]).length = n7 at *; have HJ7 := Lib.hid hJ7; have HIV := Lib.hid (And.intro hz7 hcb1); clear hat1 hg1 ho1 hJ7 hz7 hcb1)
            refine ⟨HIV.out, ?_⟩
            go_wp2
            refine ⟨HIV.out, ?_⟩
            go_wp2
            refine ⟨HIV.out, ?_⟩
            gi_wp2
            go_roundw
            case rel => exact ⟨j + 1, by omega, by go_num, HJ7.out⟩
            case measure => simp [intOf]; omega
          · obtain rfl : j = p := by omega
            gi_wp2
            rw [← hPm] at hwl
            obtain ⟨q1, q2, q3⟩ := hJ.leave HL0.out HEN.out (by omega)
            refine ⟨q1, q2, ?_⟩
            show ExtI w wr _ _ _ _ _ _ _ (pre ++ [(x1, x2, x3)]).length
            rw [List.length_append, ← hx1]
            exact q3
      case done =>
        intro D xs W hD hS hI hK
        have cB := hI.cB
        have hDD : w.heap.size ≤ D := by have := HZZ.out; omega
        obtain ⟨lf, f0, f1, g0, g1⟩ := hI.F
        clear hD HQ1 HQ2 HZ7 hzz HZZ HI HB3 HF3 HcP HcN HZ3
        subst hos
        have HIX := Lib.hid hI
        clear hI
        gi_wp2
        have hI2 := HIX.out.set2 rfl
        have hK2 := ((KeepsOthers.setCell W ⟨w.heap.size + 2, 0, none⟩ (.int .i64 0)).trans (KeepsOthers.setCell _ ⟨w.heap.size + 2, 1, none⟩ (.int .i64 0))).same _ _ hK rfl
        have hI3 := (ExtI.own (w := w) (o := w.heap.size + 3) (p := p) (m := m) (cap := cap) (bm := bm) (om := om) (P := P) (Nat.le_refl w.heap.size)).putObj (s := xs) (.deferred none) hI2 (by omega) hK2 rfl
        obtain ⟨hv, L, q1, q2, q3⟩ := hI3.M
        rw [q2.1] at q1
        rw [hS] at q2
        refine ⟨by simp, .inl ⟨_, _, rfl, run_takeDeferred hK2, ?_⟩⟩
        exact ⟨_, resF2 rfl rfl hI3.F, _, _, hv, L, rfl, q1, q2, hI3.B⟩
end Go.Proofs.Ytcinfkmekkdhfaa
