/- Two matrices that grow side by side: rows of bytes, rows of integers; and what else lies in memory stays. -/
import Derived.Test.YtcinfkmekkdhfaaCpE
import Derived.Test.YtcinfkmekkdhfaaCqA
namespace Go.Proofs.Ytcinfkmekkdhfaa
open Go.RowKit
set_option linter.unusedVariables false

/-- Two matrices in the blocks o1 and o2, their rows in blocks of their own; blocks of U lie as they lay in V. -/
structure Two (V : World) (U : Nat → Prop) (B o1 o2 d : Nat) (hv hg : List Value) (L : List (List GF)) (G : List (List Int)) (W : World) : Prop where
  hS : V.heap.size ≤ W.heap.size
  hB : B ≤ V.heap.size
  bl : Below B V W
  uV : ∀ b, U b → b < V.heap.size
  fix : ∀ b, U b → W.heap[b]? = V.heap[b]?
  u1 : ¬ U o1
  u2 : ¬ U o2
  o12 : o1 ≠ o2
  lL : L.length = d
  lG : G.length = d
  lv : hv.length = d
  lg : hg.length = d
  out1 : W.ownsRow B 41 1 (.slice (some ⟨o1, 0, none⟩) d d) d hv
  out2 : W.ownsRow B 40 1 (.slice (some ⟨o2, 0, none⟩) d d) d hg
  row1 : ∀ i, i < d → OwB W B (hv.getD i undef) (L.getD i [])
  row2 : ∀ i, i < d → OwI W B (hg.getD i undef) (G.getD i [])
  s11 : ∀ i j, i < d → j < d → i ≠ j → Apt (hv.getD i undef) (hv.getD j undef)
  s22 : ∀ i j, i < d → j < d → i ≠ j → Apt (hg.getD i undef) (hg.getD j undef)
  s12 : ∀ i j, i < d → j < d → Apt (hv.getD i undef) (hg.getD j undef)
  f1 : ∀ i, i < d → ∀ g, (hv.getD i undef).ownBlock = some g → g ≠ o1 ∧ g ≠ o2 ∧ ¬ U g
  f2 : ∀ i, i < d → ∀ g, (hg.getD i undef).ownBlock = some g → g ≠ o1 ∧ g ≠ o2 ∧ ¬ U g
theorem own_outs {w : World} {B o n c m : Nat} {e : TypeId} {xs : List Value} (h : w.ownsRow B e 1 (.slice (some ⟨o, 0, none⟩) n c) m xs) : o < w.heap.size ∧ ∃ cur, w.heap[o]? = some (.cells cur e (0, 0)) := by
  rcases h.2 with ⟨h1, _⟩ | ⟨g, cap, cur, hv, _, hh, _⟩
  · cases h1
  · injection hv with e1
    injection e1 with e1
    injection e1 with e1
    subst e1
    exact ⟨(Array.getElem?_eq_some_iff.1 hh).1, cur, hh⟩
theorem own_cells {w : World} {B m s : Nat} {e : TypeId} {v : Value} {xs : List Value} (h : w.ownsRow B e s v m xs) {g : Nat} (hg : v.ownBlock = some g) : ∃ o : Obj, w.heap[g]? = some o ∧ o.isCells = true := by
  rcases h.2 with ⟨h1, _⟩ | ⟨g', cap, cur, hv, _, hh, _⟩
  · rw [h1] at hg; cases hg
  · rw [hv] at hg
    have : g' = g := Option.some.inj hg
    subst this
    exact ⟨_, hh, rfl⟩
section
variable {V W : World} {U : Nat → Prop} {B o1 o2 d : Nat} {hv hg : List Value} {L : List (List GF)} {G : List (List Int)}
theorem Two.below {W' : World} (h : Two V U B o1 o2 d hv hg L G W) (hb : Below W.heap.size W W') : Two V U B o1 o2 d hv hg L G W' :=
  ⟨Nat.le_trans h.hS hb.size, h.hB, h.bl.trans (hb.mono (Nat.le_trans h.hB h.hS)), h.uV, fun b hu => (hb.block b (Nat.lt_of_lt_of_le (h.uV b hu) h.hS)).trans (h.fix b hu), h.u1, h.u2, h.o12, h.lL, h.lG, h.lv, h.lg, own_below h.out1 hb, own_below h.out2 hb, fun i hi => (h.row1 i hi).below hb, fun i hi => (h.row2 i hi).below hb, h.s11, h.s22, h.s12, h.f1, h.f2⟩
theorem own_notcells {w : World} {row : Option Nat} (hr : ∀ r, row = some r → ∃ o : Obj, w.heap[r]? = some o ∧ o.isCells = false) {e : TypeId} {s B n : Nat} {u : Value} {xs : List Value} (hu : w.ownsRow B e s u n xs) : u.ownBlock = none ∨ u.ownBlock ≠ row := by
  cases hb : u.ownBlock with
  | none => exact .inl rfl
  | some g =>
    refine .inr fun e2 => ?_
    obtain ⟨o, ho, hc⟩ := hr g e2.symm
    obtain ⟨o', ho', hc'⟩ := own_cells hu hb
    rw [ho] at ho'
    cases ho'
    rw [hc] at hc'; cases hc'
theorem Two.grown {W' : World} {row : Option Nat} (h : Two V U B o1 o2 d hv hg L G W) (hgr : W.grownBy W' row) (hr : ∀ r, row = some r → V.heap.size ≤ r ∧ ∃ o : Obj, W.heap[r]? = some o ∧ o.isCells = false) : Two V U B o1 o2 d hv hg L G W' := by
  have hr' : ∀ r, row = some r → ∃ o : Obj, W.heap[r]? = some o ∧ o.isCells = false := fun r e => (hr r e).2
  have key : ∀ {e : TypeId} {s n : Nat} {u : Value} {xs : List Value}, W.ownsRow B e s u n xs → W'.ownsRow B e s u n xs := fun {e s n u xs} hu => World.ownsRow.kept hu hgr (own_notcells hr' hu)
  exact ⟨Nat.le_trans h.hS hgr.size, h.hB, h.bl.grown hgr (Nat.le_trans h.hB h.hS) (fun k e => Nat.le_trans h.hB (hr k e).1), h.uV, fun b hu => (hgr.block b (Nat.lt_of_lt_of_le (h.uV b hu) h.hS) (fun e => by have := (hr b e.symm).1; have := h.uV b hu; omega)).trans (h.fix b hu), h.u1, h.u2, h.o12, h.lL, h.lG, h.lv, h.lg, key h.out1, key h.out2, fun i hi => key (h.row1 i hi), fun i hi => key (h.row2 i hi), h.s11, h.s22, h.s12, h.f1, h.f2⟩
/-- The same rows, seen in a world that keeps all that is owned. -/
theorem Two.kept {W' : World} (h : Two V U B o1 o2 d hv hg L G W) (hk : ∀ (B : Nat) (e : TypeId) (s : Nat) (u : Value) (k : Nat) (xs : List Value), W.ownsRow B e s u k xs → W'.ownsRow B e s u k xs) (hf : ∀ b, U b → W'.heap[b]? = V.heap[b]?) (hs : V.heap.size ≤ W'.heap.size) (hbl : Below B V W') : Two V U B o1 o2 d hv hg L G W' :=
  ⟨hs, h.hB, hbl, h.uV, hf, h.u1, h.u2, h.o12, h.lL, h.lG, h.lv, h.lg, hk _ _ _ _ _ _ h.out1, hk _ _ _ _ _ _ h.out2, fun i hi => hk _ _ _ _ _ _ (h.row1 i hi), fun i hi => hk _ _ _ _ _ _ (h.row2 i hi), h.s11, h.s22, h.s12, h.f1, h.f2⟩
theorem Two.lt1 (h : Two V U B o1 o2 d hv hg L G W) : o1 < W.heap.size := (own_outs h.out1).1
theorem Two.lt2 (h : Two V U B o1 o2 d hv hg L G W) : o2 < W.heap.size := (own_outs h.out2).1
theorem Two.cell1 (h : Two V U B o1 o2 d hv hg L G W) {i : Nat} (hi : i < d) : W.cell? ⟨o1, i, none⟩ = some (hv.getD i undef) := by
  rw [World.ownsRow.cellAt (g := o1) (cap := d) h.out1 i (by omega)]
  simp [List.getD, show i < hv.length by rw [h.lv]; exact hi]
theorem Two.cell2 (h : Two V U B o1 o2 d hv hg L G W) {i : Nat} (hi : i < d) : W.cell? ⟨o2, i, none⟩ = some (hg.getD i undef) := by
  rw [World.ownsRow.cellAt (g := o2) (cap := d) h.out2 i (by omega)]
  simp [List.getD, show i < hg.length by rw [h.lg]; exact hi]
theorem Two.frozen1 (h : Two V U B o1 o2 d hv hg L G W) (i : Nat) : W.frozen? ⟨o1, i, none⟩ = false := World.ownsRow.frozenAt (g := o1) (cap := d) h.out1 i
theorem Two.frozen2 (h : Two V U B o1 o2 d hv hg L G W) (i : Nat) : W.frozen? ⟨o2, i, none⟩ = false := World.ownsRow.frozenAt (g := o2) (cap := d) h.out2 i
theorem Two.rd (h : Two V U B o1 o2 d hv hg L G W) : RdM W (some ⟨o1, 0, none⟩) d L ∧ RdMI W (some ⟨o2, 0, none⟩) d G := by
  refine ⟨⟨h.lL, fun hn => ⟨o1, 0, rfl, h.lt1, fun i hi => ?_⟩⟩, ⟨h.lG, fun hn => ⟨o2, 0, rfl, h.lt2, fun i hi => ?_⟩⟩⟩
  · obtain ⟨Ai, ci, hf⟩ := (h.row1 i hi).form
    have hr := h.row1 i hi
    rw [hf] at hr
    exact ⟨Ai, ci, by rw [Nat.zero_add, h.cell1 hi, hf], hr.rd.1⟩
  · obtain ⟨Ai, ci, hf⟩ := (h.row2 i hi).form
    have hr := h.row2 i hi
    rw [hf] at hr
    exact ⟨Ai, ci, by rw [Nat.zero_add, h.cell2 hi, hf], hr.rd.1⟩
/-- A block in U is written. -/
theorem Two.off {W' : World} {f : Nat} (h : Two V U B o1 o2 d hv hg L G W) (hp : U f) (hk : ∀ b, b ≠ f → W'.heap[b]? = W.heap[b]?) (hz : W.heap.size ≤ W'.heap.size) (hbl : Below B W W') : Two V (fun b => U b ∧ b ≠ f) B o1 o2 d hv hg L G W' := by
  have n1 : o1 ≠ f := fun e => h.u1 (by rw [e]; exact hp)
  have n2 : o2 ≠ f := fun e => h.u2 (by rw [e]; exact hp)
  have key : ∀ {e : TypeId} {s n : Nat} {v : Value} {xs : List Value}, W.ownsRow B e s v n xs → (∀ g, v.ownBlock = some g → g ≠ f) → W'.ownsRow B e s v n xs := fun {e s n v xs} hu hne => by
    refine ⟨hu.1, ?_⟩
    rcases hu.2 with h' | ⟨g, cap, cur, hv', hB, hh, hn⟩
    · exact .inl h'
    · exact .inr ⟨g, cap, cur, hv', hB, (hk g (hne g (by rw [hv']; rfl))).trans hh, hn⟩
  refine ⟨Nat.le_trans h.hS hz, h.hB, h.bl.trans hbl, fun b hb => h.uV b hb.1, fun b hb => (hk b hb.2).trans (h.fix b hb.1), fun hb => h.u1 hb.1, fun hb => h.u2 hb.1, h.o12, h.lL, h.lG, h.lv, h.lg, key h.out1 fun g e => ?_, key h.out2 fun g e => ?_,
    fun i hi => key (h.row1 i hi) fun g e => ?_, fun i hi => key (h.row2 i hi) fun g e => ?_, h.s11, h.s22, h.s12, fun i hi g e => ?_, fun i hi g e => ?_⟩
  · have : o1 = g := Option.some.inj e
    omega
  · have : o2 = g := Option.some.inj e
    omega
  · exact fun e2 => (h.f1 i hi g e).2.2 (by rw [e2]; exact hp)
  · exact fun e2 => (h.f2 i hi g e).2.2 (by rw [e2]; exact hp)
  · have := h.f1 i hi g e
    exact ⟨this.1, this.2.1, fun hb => this.2.2 hb.1⟩
  · have := h.f2 i hi g e
    exact ⟨this.1, this.2.1, fun hb => this.2.2 hb.1⟩
theorem apt_ne {u v : Value} {b : Nat} (hu : u.ownBlock = some b) (h : ∀ g, v.ownBlock = some g → g ≠ b) : Apt u v := by
  refine .inr fun e => ?_
  rw [hu] at e
  exact h b e.symm rfl
/-- A row of bytes has grown and is put back. -/
theorem Two.push1 (h : Two V U B o1 o2 d hv hg L G W) {i : Nat} (hi : i < d) {W' : World} {v' : Value} {l' : List GF} (ho : OwB W' B v' l') (hgr : W.grownBy W' (hv.getD i undef).ownBlock) (hat : v'.ownBlock = (hv.getD i undef).ownBlock ∨ v'.ownBlock = some W.heap.size) :
    Two V U B o1 o2 d (hv.set i v') hg (L.set i l') G (W'.setCell ⟨o1, i, none⟩ v') := by
  have hk := keeps_grown hgr hat
  have l1 := h.lt1
  have l2 := h.lt2
  have hS := h.hS
  have lv := h.lv
  have lL := h.lL
  have hv' : ∀ g, v'.ownBlock = some g → g ≠ o1 ∧ g ≠ o2 ∧ ¬ U g := fun g e => by
    rcases hat with h1 | h1
    · exact h.f1 i hi g (by rw [← h1]; exact e)
    · rw [h1] at e
      have : W.heap.size = g := Option.some.inj e
      exact ⟨by omega, by omega, fun hu => by have := h.uV g hu; omega⟩
  have a1 : Apt (.slice (some ⟨o1, 0, none⟩) d d) (hv.getD i undef) := apt_ne rfl fun g e => (h.f1 i hi g e).1
  have a2 : Apt (.slice (some ⟨o2, 0, none⟩) d d) (hv.getD i undef) := apt_ne rfl fun g e => (h.f1 i hi g e).2.1
  have k1 := (hk _ _ _ _ _ _ h.out1 a1).1
  have k2 := (hk _ _ _ _ _ _ h.out2 a2).1
  have kr1 : ∀ j, j < d → j ≠ i → OwB W' B (hv.getD j undef) (L.getD j []) ∧ Apt (hv.getD j undef) v' := fun j hj e => hk _ _ _ _ _ _ (h.row1 j hj) (h.s11 j i hj hi e)
  have kr2 : ∀ j, j < d → OwI W' B (hg.getD j undef) (G.getD j []) ∧ Apt (hg.getD j undef) v' := fun j hj => hk _ _ _ _ _ _ (h.row2 j hj) (h.s12 i j hi hj).symm
  have hsv : ∀ j, j < d → (hv.set i v').getD j undef = if j = i then v' else hv.getD j undef := fun j hj => by
    by_cases e : j = i
    · subst e; rw [getD_set_eq (by omega), if_pos rfl]
    · rw [getD_set_neq (fun e' => e e'.symm), if_neg e]
  have hBW := Nat.le_trans h.hB hS
  have hBo := (own_lt h.out1 (rfl : Value.ownBlock (.slice (some ⟨o1, 0, none⟩) d d) = some o1)).1
  refine ⟨by rw [World.size_setCell]; exact Nat.le_trans hS hgr.size, h.hB, (h.bl.trans (grown_below hgr (h.row1 i hi) hBW)).setCell (p := ⟨o1, i, none⟩) hBo v', h.uV, fun b hu => ?_, h.u1, h.u2, h.o12, by rw [List.length_set]; exact lL, h.lG, by rw [List.length_set]; exact lv, h.lg,
    (World.ownsRow.stored (g := o1) (cap := d) k1 i v').1, own_off k2 (fun g e => ?_) v', fun j hj => ?_, fun j hj => own_off (kr2 j hj).1 (fun g e => (h.f2 j hj g e).1) v', fun a b ha hb hab => ?_, h.s22, fun a b ha hb => ?_, fun j hj g e => ?_, h.f2⟩
  · have hb := h.uV b hu
    refine ((Below.heap_setCell W' ⟨o1, i, none⟩ v' b (fun e => h.u1 (by rw [← (show b = o1 from e)]; exact hu))).trans (hgr.block b (by omega) fun e => ?_)).trans (h.fix b hu)
    exact (h.f1 i hi b e.symm).2.2 hu
  · have : o2 = g := Option.some.inj e
    have := h.o12
    show g ≠ o1
    omega
  · rw [hsv j hj]
    by_cases e : j = i
    · subst e
      rw [if_pos rfl, getD_set_eq (by omega)]
      exact own_off ho (fun g e => (hv' g e).1) v'
    · rw [if_neg e, getD_set_neq (fun e' => e e'.symm)]
      exact own_off (kr1 j hj e).1 (fun g e => (h.f1 j hj g e).1) v'
  · rw [hsv a ha, hsv b hb]
    by_cases e : a = i
    · rw [if_pos e, if_neg (fun e' => hab (by rw [e, e']))]
      exact (kr1 b hb (fun e' => hab (by rw [e, e']))).2.symm
    · rw [if_neg e]
      by_cases e2 : b = i
      · rw [if_pos e2]; exact (kr1 a ha e).2
      · rw [if_neg e2]; exact h.s11 a b ha hb hab
  · rw [hsv a ha]
    by_cases e : a = i
    · rw [if_pos e]; exact (kr2 b hb).2.symm
    · rw [if_neg e]; exact h.s12 a b ha hb
  · rw [hsv j hj] at e
    by_cases e2 : j = i
    · rw [if_pos e2] at e; exact hv' g e
    · rw [if_neg e2] at e; exact h.f1 j hj g e
/-- A row of integers has grown and is put back. -/
theorem Two.push2 (h : Two V U B o1 o2 d hv hg L G W) {i : Nat} (hi : i < d) {W' : World} {v' : Value} {l' : List Int} (ho : OwI W' B v' l') (hgr : W.grownBy W' (hg.getD i undef).ownBlock) (hat : v'.ownBlock = (hg.getD i undef).ownBlock ∨ v'.ownBlock = some W.heap.size) :
    Two V U B o1 o2 d hv (hg.set i v') L (G.set i l') (W'.setCell ⟨o2, i, none⟩ v') := by
  have hk := keeps_grown hgr hat
  have l1 := h.lt1
  have l2 := h.lt2
  have hS := h.hS
  have lg := h.lg
  have lG := h.lG
  have hv' : ∀ g, v'.ownBlock = some g → g ≠ o1 ∧ g ≠ o2 ∧ ¬ U g := fun g e => by
    rcases hat with h1 | h1
    · exact h.f2 i hi g (by rw [← h1]; exact e)
    · rw [h1] at e
      have : W.heap.size = g := Option.some.inj e
      exact ⟨by omega, by omega, fun hu => by have := h.uV g hu; omega⟩
  have a1 : Apt (.slice (some ⟨o1, 0, none⟩) d d) (hg.getD i undef) := apt_ne rfl fun g e => (h.f2 i hi g e).1
  have a2 : Apt (.slice (some ⟨o2, 0, none⟩) d d) (hg.getD i undef) := apt_ne rfl fun g e => (h.f2 i hi g e).2.1
  have k1 := (hk _ _ _ _ _ _ h.out1 a1).1
  have k2 := (hk _ _ _ _ _ _ h.out2 a2).1
  have kr1 : ∀ j, j < d → OwB W' B (hv.getD j undef) (L.getD j []) ∧ Apt (hv.getD j undef) v' := fun j hj => hk _ _ _ _ _ _ (h.row1 j hj) (h.s12 j i hj hi)
  have kr2 : ∀ j, j < d → j ≠ i → OwI W' B (hg.getD j undef) (G.getD j []) ∧ Apt (hg.getD j undef) v' := fun j hj e => hk _ _ _ _ _ _ (h.row2 j hj) (h.s22 j i hj hi e)
  have hsv : ∀ j, j < d → (hg.set i v').getD j undef = if j = i then v' else hg.getD j undef := fun j hj => by
    by_cases e : j = i
    · subst e; rw [getD_set_eq (by omega), if_pos rfl]
    · rw [getD_set_neq (fun e' => e e'.symm), if_neg e]
  have hBW := Nat.le_trans h.hB hS
  have hBo := (own_lt h.out2 (rfl : Value.ownBlock (.slice (some ⟨o2, 0, none⟩) d d) = some o2)).1
  refine ⟨by rw [World.size_setCell]; exact Nat.le_trans hS hgr.size, h.hB, (h.bl.trans (grown_below hgr (h.row2 i hi) hBW)).setCell (p := ⟨o2, i, none⟩) hBo v', h.uV, fun b hu => ?_, h.u1, h.u2, h.o12, h.lL, by rw [List.length_set]; exact lG, h.lv, by rw [List.length_set]; exact lg,
    own_off k1 (fun g e => ?_) v', (World.ownsRow.stored (g := o2) (cap := d) k2 i v').1, fun j hj => own_off (kr1 j hj).1 (fun g e => (h.f1 j hj g e).2.1) v', fun j hj => ?_, h.s11, fun a b ha hb hab => ?_, fun a b ha hb => ?_, h.f1, fun j hj g e => ?_⟩
  · have hb := h.uV b hu
    refine ((Below.heap_setCell W' ⟨o2, i, none⟩ v' b (fun e => h.u2 (by rw [← (show b = o2 from e)]; exact hu))).trans (hgr.block b (by omega) fun e => ?_)).trans (h.fix b hu)
    exact (h.f2 i hi b e.symm).2.2 hu
  · have : o1 = g := Option.some.inj e
    have := h.o12
    show g ≠ o2
    omega
  · rw [hsv j hj]
    by_cases e : j = i
    · subst e
      rw [if_pos rfl, getD_set_eq (by omega)]
      exact own_off ho (fun g e => (hv' g e).2.1) v'
    · rw [if_neg e, getD_set_neq (fun e' => e e'.symm)]
      exact own_off (kr2 j hj e).1 (fun g e => (h.f2 j hj g e).2.1) v'
  · rw [hsv a ha, hsv b hb]
    by_cases e : a = i
    · rw [if_pos e, if_neg (fun e' => hab (by rw [e, e']))]
      exact (kr2 b hb (fun e' => hab (by rw [e, e']))).2.symm
    · rw [if_neg e]
      by_cases e2 : b = i
      · rw [if_pos e2]; exact (kr2 a ha e).2
      · rw [if_neg e2]; exact h.s22 a b ha hb hab
  · rw [hsv b hb]
    by_cases e : b = i
    · rw [if_pos e]; exact (kr1 a ha).2
    · rw [if_neg e]; exact h.s12 a b ha hb
  · rw [hsv j hj] at e
    by_cases e2 : j = i
    · rw [if_pos e2] at e; exact hv' g e
    · rw [if_neg e2] at e; exact h.f2 j hj g e
/-- All other blocks. -/
def rest (W : World) (o1 o2 d : Nat) (hv hg : List Value) (b : Nat) : Prop := b < W.heap.size ∧ b ≠ o1 ∧ b ≠ o2 ∧ ∀ i, i < d → (hv.getD i undef).ownBlock ≠ some b ∧ (hg.getD i undef).ownBlock ≠ some b
theorem Two.enter (h : Two V U B o1 o2 d hv hg L G W) : Two W (rest W o1 o2 d hv hg) B o1 o2 d hv hg L G W :=
  ⟨Nat.le_refl _, Nat.le_trans h.hB h.hS, Below.refl _ _, fun b hb => hb.1, fun _ _ => rfl, fun hb => hb.2.1 rfl, fun hb => hb.2.2.1 rfl, h.o12, h.lL, h.lG, h.lv, h.lg, h.out1, h.out2, h.row1, h.row2, h.s11, h.s22, h.s12,
    fun i hi g e => ⟨(h.f1 i hi g e).1, (h.f1 i hi g e).2.1, fun hb => (hb.2.2.2 i hi).1 e⟩, fun i hi g e => ⟨(h.f2 i hi g e).1, (h.f2 i hi g e).2.1, fun hb => (hb.2.2.2 i hi).2 e⟩⟩
theorem Two.rests (h : Two V U B o1 o2 d hv hg L G W) {b : Nat} (hb : U b) : rest W o1 o2 d hv hg b :=
  ⟨Nat.lt_of_lt_of_le (h.uV b hb) h.hS, fun e => h.u1 (by rw [← e]; exact hb), fun e => h.u2 (by rw [← e]; exact hb), fun i hi => ⟨fun e => (h.f1 i hi b e).2.2 hb, fun e => (h.f2 i hi b e).2.2 hb⟩⟩
theorem Two.leave {W' : World} {hv' hg' : List Value} {L' : List (List GF)} {G' : List (List Int)} (h : Two V U B o1 o2 d hv hg L G W) (h' : Two W (rest W o1 o2 d hv hg) B o1 o2 d hv' hg' L' G' W') : Two V U B o1 o2 d hv' hg' L' G' W' :=
  ⟨Nat.le_trans h.hS h'.hS, h.hB, h.bl.trans h'.bl, h.uV, fun b hb => (h'.fix b (h.rests hb)).trans (h.fix b hb), h.u1, h.u2, h.o12, h'.lL, h'.lG, h'.lv, h'.lg, h'.out1, h'.out2, h'.row1, h'.row2, h'.s11, h'.s22, h'.s12,
    fun i hi g e => ⟨(h'.f1 i hi g e).1, (h'.f1 i hi g e).2.1, fun hb => (h'.f1 i hi g e).2.2 (h.rests hb)⟩, fun i hi g e => ⟨(h'.f2 i hi g e).1, (h'.f2 i hi g e).2.1, fun hb => (h'.f2 i hi g e).2.2 (h.rests hb)⟩⟩
theorem Two.others {W' : World} {hv' hg' : List Value} {L' : List (List GF)} {G' : List (List Int)} (h : Two V U B o1 o2 d hv hg L G W) (h' : Two W (rest W o1 o2 d hv hg) B o1 o2 d hv' hg' L' G' W') : KeepsOthers W W' := by
  refine ⟨h'.hS, fun b o hb hc => (h'.fix b ⟨(Array.getElem?_eq_some_iff.1 hb).1, fun e => ?_, fun e => ?_, fun i hi => ⟨fun e => ?_, fun e => ?_⟩⟩).trans hb⟩
  · obtain ⟨cur, hh⟩ := (own_outs h.out1).2
    subst e
    rw [hb] at hh; cases hh; cases hc
  · obtain ⟨cur, hh⟩ := (own_outs h.out2).2
    subst e
    rw [hb] at hh; cases hh; cases hc
  · obtain ⟨o', h1, h2⟩ := own_cells (h.row1 i hi) e
    rw [hb] at h1; cases h1; rw [hc] at h2; cases h2
  · obtain ⟨o', h1, h2⟩ := own_cells (h.row2 i hi) e
    rw [hb] at h1; cases h1; rw [hc] at h2; cases h2
theorem Two.box {b : Nat} {t : TypeId} {v : Value} (h : Two V U B o1 o2 d hv hg L G W) (hb : U b) (X : Boxed V b t v) : Boxed W b t v := (h.fix b hb).trans X
/-- What was made after all rows is among the others. -/
theorem Two.new (h : Two V U B o1 o2 d hv hg L G W) {W4 : World} {b : Nat} (h1 : W.heap.size ≤ b) (h2 : b < W4.heap.size) : rest W4 o1 o2 d hv hg b := by
  have l1 := h.lt1
  have l2 := h.lt2
  refine ⟨h2, by omega, by omega, fun i hi => ⟨fun e => ?_, fun e => ?_⟩⟩
  · have := own_lt (h.row1 i hi) e
    omega
  · have := own_lt (h.row2 i hi) e
    omega
theorem Two.start {W : World} {B o1 o2 d : Nat} (h1 : W.ownsRow B 41 1 (.slice (some ⟨o1, 0, none⟩) d d) d (List.replicate d (.slice none 0 0))) (h2 : W.ownsRow B 40 1 (.slice (some ⟨o2, 0, none⟩) d d) d (List.replicate d (.slice none 0 0))) (h12 : o1 ≠ o2) (hB : B ≤ W.heap.size) :
    Two W (fun b => b < W.heap.size ∧ b ≠ o1 ∧ b ≠ o2) B o1 o2 d (List.replicate d (.slice none 0 0)) (List.replicate d (.slice none 0 0)) (List.replicate d []) (List.replicate d []) W := by
  have hg : ∀ i, i < d → (List.replicate d (Value.slice none 0 0)).getD i undef = .slice none 0 0 := fun i hi => by simp [List.getD, hi]
  have apt : ∀ i, i < d → ∀ v : Value, Apt ((List.replicate d (Value.slice none 0 0)).getD i undef) v := fun i hi v => by rw [hg i hi]; exact .inl rfl
  have no : ∀ i, i < d → ∀ g, ((List.replicate d (Value.slice none 0 0)).getD i undef).ownBlock = some g → False := fun i hi g e => by
    rw [hg i hi] at e; cases e
  refine ⟨Nat.le_refl _, hB, Below.refl _ _, fun b hb => hb.1, fun _ _ => rfl, fun hb => hb.2.1 rfl, fun hb => hb.2.2 rfl, h12, by simp, by simp, by simp, by simp, h1, h2, fun i hi => ?_, fun i hi => ?_, fun i j hi _ _ => apt i hi _, fun i j hi _ _ => apt i hi _, fun i j hi _ => apt i hi _, fun i hi g e => (no i hi g e).elim, fun i hi g e => (no i hi g e).elim⟩
  · rw [hg i hi, show (List.replicate d ([] : List GF)).getD i [] = [] by simp [List.getD, hi]]
    exact OwB.nil _ _
  · rw [hg i hi, show (List.replicate d ([] : List Int)).getD i [] = [] by simp [List.getD, hi]]
    exact OwI.nil _ _
end
end Go.Proofs.Ytcinfkmekkdhfaa
