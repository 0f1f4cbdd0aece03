/- Cross pages: what the rounds of Restore keep. -/
import Derived.Test.YtcinfkmekkdhfaaCqD
namespace Go.Proofs.Ytcinfkmekkdhfaa
open Go.RowKit Go.Shelf
set_option linter.unusedVariables false
attribute [local go_sem] Oper.semAt_some

/-- What the outer rounds keep. -/
def ResI (V : World) (B o1 o2 d : Nat) (P : List (List GF)) (Z : List (List Int)) (m p k : Nat) (W : World) : Prop :=
  ∃ hv hg L G, Two V (fun b => b < V.heap.size ∧ b ≠ o1 ∧ b ≠ o2) B o1 o2 d hv hg L G W ∧ ResOK P Z m p k L G
theorem ResI.own {V : World} {B o1 o2 d m p : Nat} {P : List (List GF)} {Z : List (List Int)} {N : Nat} (hN : V.heap.size ≤ N) : OwnFrom N (fun (pre : List Pos) W => ResI V B o1 o2 d P Z m p pre.length W) := by
  intro s A A' row h hg hr
  obtain ⟨hv, hgs, L, G, h1, h2⟩ := h
  exact ⟨hv, hgs, L, G, h1.grown hg (fun r e => ⟨Nat.le_trans hN (hr r e).1, (hr r e).2⟩), h2⟩
/-- What the inner rounds keep. -/
def ResJ (W4 : World) (B o1 o2 d : Nat) (hv0 hg0 : List Value) (P : List (List GF)) (Z : List (List Int)) (m p k j : Nat) (L0 : List (List GF)) (G0 : List (List Int)) (W : World) : Prop :=
  ∃ hv hg L G, Two W4 (rest W4 o1 o2 d hv0 hg0) B o1 o2 d hv hg L G W ∧ ResMid P Z m p k j L0 G0 L G
theorem below_two {n : Nat} {w W W' : World} (h : Below n w W) (h' : Below n w W') (hs : W.heap.size ≤ W'.heap.size) (hn : n ≤ w.heap.size) : Below n W W' :=
  ⟨h'.os.trans h.os.symm, h'.tape.trans h.tape.symm, h'.output.trans h.output.symm, hs, fun k hk => (h'.block k hk).trans (h.block k hk).symm⟩
theorem ResI.enter {V W0 W W4 : World} {B o1 o2 d m p k : Nat} {P : List (List GF)} {Z : List (List Int)} (h0 : ResI V B o1 o2 d P Z m p k W0) (h : ResI V B o1 o2 d P Z m p k W) (hk : ∀ (B : Nat) (e : TypeId) (s : Nat) (u : Value) (k : Nat) (xs : List Value), W0.ownsRow B e s u k xs → W.ownsRow B e s u k xs) (hb : Below W.heap.size W W4) :
    ∃ hv0 hg0 L0 G0, ResOK P Z m p k L0 G0 ∧ ResJ W4 B o1 o2 d hv0 hg0 P Z m p k 0 L0 G0 W4 ∧ (∀ b, W0.heap.size ≤ b → b < W4.heap.size → rest W4 o1 o2 d hv0 hg0 b) ∧ (∀ b, b < V.heap.size → b ≠ o1 → b ≠ o2 → rest W4 o1 o2 d hv0 hg0 b ∧ W4.heap[b]? = V.heap[b]?) ∧
      ∀ W', ResJ W4 B o1 o2 d hv0 hg0 P Z m p k (m - p) L0 G0 W' → KeepsOthers W W' ∧ Below B W W' ∧ (∀ b, b < V.heap.size → b ≠ o1 → b ≠ o2 → W'.heap[b]? = W.heap[b]?) ∧ ResI V B o1 o2 d P Z m p (k + 1) W' := by
  obtain ⟨hv0, hg0, L0, G0, T0, E0⟩ := h0
  obtain ⟨_, _, _, _, T, _⟩ := h
  have T1 := (T0.kept hk T.fix T.hS T.bl).below hb
  refine ⟨hv0, hg0, L0, G0, E0, ⟨hv0, hg0, L0, G0, T1.enter, ResMid.start E0.1 E0.2.1⟩, fun b h1 h2 => T0.new h1 h2, fun b h1 h2 h3 => ⟨T1.rests ⟨h1, h2, h3⟩, T1.fix b ⟨h1, h2, h3⟩⟩, fun W' hJ => ?_⟩
  obtain ⟨hv, hg, L, G, T2, hM⟩ := hJ
  have hBW := Nat.le_trans T.hB T.hS
  refine ⟨(keepsO_below hb).trans (T1.others T2), (hb.mono hBW).trans T2.bl, fun b h1 h2 h3 => ((T2.fix b (T1.rests ⟨h1, h2, h3⟩)).trans (T1.fix b ⟨h1, h2, h3⟩)).trans (T.fix b ⟨h1, h2, h3⟩).symm, ⟨hv, hg, L, G, T1.leave T2, hM.done E0⟩⟩
theorem ResJ.below {W4 W W' : World} {B o1 o2 d m p k j : Nat} {hv0 hg0 : List Value} {P L0 : List (List GF)} {Z G0 : List (List Int)} (h : ResJ W4 B o1 o2 d hv0 hg0 P Z m p k j L0 G0 W) (hb : Below W.heap.size W W') : ResJ W4 B o1 o2 d hv0 hg0 P Z m p k j L0 G0 W' := by
  obtain ⟨hv, hg, L, G, T, hM⟩ := h
  exact ⟨hv, hg, L, G, T.below hb, hM⟩
/-- An append to a row, and what lies beside it. -/
theorem Two.grow1 {V W : World} {U : Nat → Prop} {B o1 o2 d : Nat} {hv hg : List Value} {L : List (List GF)} {G : List (List Int)} (h : Two V U B o1 o2 d hv hg L G W) {i : Nat} (hi : i < d) {b : Nat} {v : Value} (hb : U b) (X : W.cell? ⟨b, 0, none⟩ = some v) (w1 : World) (v1 : Value) (l' : List GF) (ho : OwB w1 B v1 l') (hgr : W.grownBy w1 (hv.getD i undef).ownBlock) (hat : v1.ownBlock = (hv.getD i undef).ownBlock ∨ v1.ownBlock = some W.heap.size) :
    w1.cell? ⟨o1, i, none⟩ = some (hv.getD i undef) ∧ w1.frozen? ⟨o1, i, none⟩ = false ∧ (b < w1.heap.size ∧ w1.cell? ⟨b, 0, none⟩ = some v) ∧ Two V U B o1 o2 d (hv.set i v1) hg (L.set i l') G (w1.setCell ⟨o1, i, none⟩ v1) := by
  have hbW : b < W.heap.size := Nat.lt_of_lt_of_le (h.uV b hb) h.hS
  have e1 := hgr.block o1 h.lt1 (fun e => (h.f1 i hi o1 e.symm).1 rfl)
  have e2 := hgr.block b hbW (fun e => (h.f1 i hi b e.symm).2.2 hb)
  exact ⟨(World.cell?_of_block (a := ⟨o1, i, none⟩) e1).trans (h.cell1 hi), (World.frozen?_of_block (a := ⟨o1, i, none⟩) e1).trans (h.frozen1 i), ⟨Nat.lt_of_lt_of_le hbW hgr.size, (World.cell?_of_block (a := ⟨b, 0, none⟩) e2).trans X⟩, h.push1 hi ho hgr hat⟩
theorem Two.grow2 {V W : World} {U : Nat → Prop} {B o1 o2 d : Nat} {hv hg : List Value} {L : List (List GF)} {G : List (List Int)} (h : Two V U B o1 o2 d hv hg L G W) {i : Nat} (hi : i < d) {b : Nat} {v : Value} (hb : U b) (X : W.cell? ⟨b, 0, none⟩ = some v) (w1 : World) (v1 : Value) (l' : List Int) (ho : OwI w1 B v1 l') (hgr : W.grownBy w1 (hg.getD i undef).ownBlock) (hat : v1.ownBlock = (hg.getD i undef).ownBlock ∨ v1.ownBlock = some W.heap.size) :
    w1.cell? ⟨o2, i, none⟩ = some (hg.getD i undef) ∧ w1.frozen? ⟨o2, i, none⟩ = false ∧ (b < w1.heap.size ∧ w1.cell? ⟨b, 0, none⟩ = some v) ∧ Two V U B o1 o2 d hv (hg.set i v1) L (G.set i l') (w1.setCell ⟨o2, i, none⟩ v1) := by
  have hbW : b < W.heap.size := Nat.lt_of_lt_of_le (h.uV b hb) h.hS
  have e1 := hgr.block o2 h.lt2 (fun e => (h.f2 i hi o2 e.symm).2.1 rfl)
  have e2 := hgr.block b hbW (fun e => (h.f2 i hi b e.symm).2.2 hb)
  exact ⟨(World.cell?_of_block (a := ⟨o2, i, none⟩) e1).trans (h.cell2 hi), (World.frozen?_of_block (a := ⟨o2, i, none⟩) e1).trans (h.frozen2 i), ⟨Nat.lt_of_lt_of_le hbW hgr.size, (World.cell?_of_block (a := ⟨b, 0, none⟩) e2).trans X⟩, h.push2 hi ho hgr hat⟩
theorem Two.out {V W : World} {U : Nat → Prop} {B o1 o2 d : Nat} {hv hg : List Value} {L : List (List GF)} {G : List (List Int)} (h : Two V U B o1 o2 d hv hg L G W) {b i : Nat} {v : Value} (hb : U b) (X : V.cell? ⟨b, i, none⟩ = some v) : W.cell? ⟨b, i, none⟩ = some v := (World.cell?_of_block (a := ⟨b, i, none⟩) (h.fix b hb)).trans X
theorem has_kept {W W' : World} {b : Nat} {c i : Int} {row : Option Nat} (h : Has W b c i) (hg : W.grownBy W' row) (hr : ∀ r, row = some r → ∃ o : Obj, W.heap[r]? = some o ∧ o.isCells = false) : Has W' b c i := by
  obtain ⟨lf, f0, f1, g0, g1⟩ := h
  exact ⟨Nat.lt_of_lt_of_le lf hg.size, cell_kept f0 hg hr, cell_kept f1 hg hr, (frozen_kept f0 hg hr).trans g0, (frozen_kept f1 hg hr).trans g1⟩
theorem has_block {W W' : World} {b : Nat} {c i : Int} (h : Has W b c i) (hk : W'.heap[b]? = W.heap[b]?) (hs : W.heap.size ≤ W'.heap.size) : Has W' b c i :=
  ⟨Nat.lt_of_lt_of_le h.1 hs, (World.cell?_of_block (a := ⟨b, 0, none⟩) hk).trans h.2.1, (World.cell?_of_block (a := ⟨b, 1, none⟩) hk).trans h.2.2.1, (World.frozen?_of_block (a := ⟨b, 0, none⟩) hk).trans h.2.2.2.1, (World.frozen?_of_block (a := ⟨b, 1, none⟩) hk).trans h.2.2.2.2⟩
/-- The boxes that Restore reads. -/
structure Bxs (W : World) (a o b1 b2 o1 o2 d : Nat) (A B : Option Addr) (m c c' p : Nat) : Prop where
  x3 : Boxed W a 22 (.slice A m c)
  x4 : Boxed W (a + 1) 32 (.slice B m c')
  x5 : Boxed W (a + 1 + 1) 3 (.int .i64 p)
  x9 : Boxed W o 59 (.func (.func 30) #[] #[.pointer (some ⟨a, 0, none⟩), .pointer (some ⟨a + 1, 0, none⟩)])
  y1 : Boxed W b1 22 (.slice (some ⟨o1, 0, none⟩) d d)
  y2 : Boxed W b2 32 (.slice (some ⟨o2, 0, none⟩) d d)
def Bxs.mem (a o b1 b2 : Nat) (b : Nat) : Prop := b = a ∨ b = a + 1 ∨ b = a + 1 + 1 ∨ b = o ∨ b = b1 ∨ b = b2
theorem Bxs.keep {W W' : World} {a o b1 b2 o1 o2 d : Nat} {A B : Option Addr} {m c c' p : Nat} (h : Bxs W a o b1 b2 o1 o2 d A B m c c' p) (hk : ∀ b, Bxs.mem a o b1 b2 b → W'.heap[b]? = W.heap[b]?) : Bxs W' a o b1 b2 o1 o2 d A B m c c' p :=
  ⟨(hk _ (.inl rfl)).trans h.x3, (hk _ (.inr (.inl rfl))).trans h.x4, (hk _ (.inr (.inr (.inl rfl)))).trans h.x5, (hk _ (.inr (.inr (.inr (.inl rfl))))).trans h.x9, (hk _ (.inr (.inr (.inr (.inr (.inl rfl)))))).trans h.y1, (hk _ (.inr (.inr (.inr (.inr (.inr rfl)))))).trans h.y2⟩
theorem Bxs.below {W W' : World} {a o b1 b2 o1 o2 d : Nat} {A B : Option Addr} {m c c' p : Nat} (h : Bxs W a o b1 b2 o1 o2 d A B m c c' p) (hb : Below W.heap.size W W') : Bxs W' a o b1 b2 o1 o2 d A B m c c' p :=
  ⟨boxed_below h.x3 hb, boxed_below h.x4 hb, boxed_below h.x5 hb, boxed_below h.x9 hb, boxed_below h.y1 hb, boxed_below h.y2 hb⟩
end Go.Proofs.Ytcinfkmekkdhfaa
