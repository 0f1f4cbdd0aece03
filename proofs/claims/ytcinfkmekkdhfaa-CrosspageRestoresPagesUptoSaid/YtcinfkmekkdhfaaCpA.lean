/- A range over a function whose elements lie in memory: the iterator tells each round what it will find there, against a world in which the round's invariant held. -/
import Derived.RangeFuncBox
import Derived.RangeFuncLeaves
import Derived.RangeFuncCalls
import Derived.Test.YtcinfkmekkdhfaaMb
namespace Go.Proofs.Ytcinfkmekkdhfaa
open Go.RowKit
set_option linter.unusedVariables false

/-- The contract of an iterator with such elements, all of whose rounds go on: Fx: what lies in memory when an element is handed over. -/
def SeqEach {α : Type} (n : Nat) (P : Program) (g : Nat) (lb : Array Value) (encs : α → Array Value) (Fx : List α → α → World → World → Prop) (Kp : World → World → Prop) (S : List α → Prop) (N : Nat) (w : World) : Prop :=
  ∀ (l : Nat) (J : List α → World → Prop) (W : World), Below w.heap.size w W → AbidesFrom W.heap.size J →
    (∀ pre x W0 W1, J pre W0 → J pre W1 → Fx pre x W0 W1 → pre.length < N → YieldAt Fence.wide (n - 1) P l (encs x) W1 fun e W' => e = .returned (.bool true) ∧ J (pre ++ [x]) W' ∧ Kp W1 W') →
    J [] W → CallsIn Fence.wide n P g (#[.func (.yield l) #[] #[]] ++ lb) W fun e W' => (∃ v, e = .returned v) ∧ ∃ xs, S xs ∧ J xs W'
/-- How a round is left. -/
def eachPost {α : Type} (Kp : World → World → Prop) (I : List α → World → Prop) (xs : List α) (W : World) : Exit → Act → World → Prop
  | .normal, _, W' => KeepsOthers W W' ∧ Kp W W' ∧ I xs W'
  | _, _, _ => False
section
variable {α : Type} {P : Program} {n : Nat} {g : Operand} {ps : Array Tmp} {assign body : Code} {Q : Exit → Act → World → Prop} {a : Act} {w : World}
/-- The loop's record, and the block of its rounds' deferred calls. -/
def recOf (fn : FuncId) (a : Act) (ps : Array Tmp) (assign body : Code) (D : Nat) (st : LoopState) : Loop := { state := st, pending := none, fn, tmps := a.tmps, params := ps, assign, body, defers := D }
theorem wpIn_each (h1 : 1 ≤ n) {gf : Nat} {lb : Array Value} (hg : a.eval g = .func (.func gf) #[] lb) (eg : ∀ args w, (callFunc gf args).run P w = .ok (.enter gf args) w)
    {encs : α → Array Value} {Fx : List α → α → World → World → Prop} {Kp : World → World → Prop} {S : List α → Prop} {N : Nat} (hseq : SeqEach (n - 1) P gf lb encs Fx Kp S N w)
    (hKt : ∀ {A B C : World}, Kp A B → Kp B C → Kp A C) (hKb : ∀ (W : World) (l : Nat) (o o' : Obj), w.heap.size ≤ l → W.heap[l]? = some o → o.isCells = false → o.isWalk = false → Kp W (W.putObj l o'))
    (hFb : ∀ (pre : List α) (x : α) (W0 W : World) (l : Nat) (o o' : Obj), W.heap[l]? = some o → o.isCells = false → Fx pre x W0 W → Fx pre x W0 (W.putObj l o')) (hps : ∀ x, (encs x).size = ps.size)
    (I : List α → World → Prop) (hI : OwnFrom w.heap.size I) (h0 : I [] w) (a₁ : α → Act)
    (hassign : ∀ (l : Nat) (x : α) (W : World) (K : Act → World → Prop), K (a₁ x) W →
      assign.wpIn (Fence.wide.inRound l) (n - 1 - 1) P (Exit.then K (fun _ _ _ => False)) { tmps := (ps.zip (encs x)).foldl (fun t (p, v) => t.setIfInBounds p v) a.tmps, defers := [] } W)
    (hbody : ∀ (l : Nat) (pre : List α) (x : α) (W0 W : World), I pre W0 → I pre W → Fx pre x W0 W → pre.length < N → body.wpIn (Fence.wide.inRound l) (n - 1 - 1) P (eachPost Kp I (pre ++ [x]) W) (a₁ x) W)
    (hdone : ∀ (D : Nat) (xs : List α) (W : World), w.heap.size ≤ D → S xs → I xs W → W.heap[D]? = some (.deferred (some [])) → Q .normal { a with defers := { target := .collected D, args := #[] } :: a.defers } W) :
    (Code.rangeFunc g ps assign body).wpIn Fence.wide n P Q a w := by
  apply wpIn_rangeFunc
  intro fn hfn
  have hD : ∀ {W : World} {o : Obj} {k : Nat}, W.heap[k]? = some o → k < W.heap.size := fun h => (Array.getElem?_eq_some_iff.1 h).1
  obtain ⟨D, hDe⟩ : ∃ D, w.heap.size = D := ⟨_, rfl⟩
  obtain ⟨R, hR⟩ : ∃ R : LoopState → Obj, R = fun st => .loop (recOf fn a ps assign body D st) := ⟨_, rfl⟩
  obtain ⟨V, hV⟩ : ∃ V, (w.alloc (.deferred (some []))).alloc (R .ready) = V := ⟨_, rfl⟩
  -- what the rounds keep besides the invariant
  have book0 : V.heap[D + 1]? = some (R .ready) ∧ V.heap[D]? = some (.deferred (some [])) := by
    subst hV; subst hDe
    refine ⟨?_, (Below.heap_alloc _ _ _ (by simp)).trans (World.alloc_heap_new w _)⟩
    have := World.alloc_heap_new (w.alloc (.deferred (some []))) (R .ready)
    rwa [World.size_alloc] at this
  have hVs : V.heap.size = D + 2 := by subst hV; subst hDe; simp
  refine ⟨D + 1, [{ target := .collected D, args := #[] }], V, { target := .fn (.func gf) lb, args := #[.func (.yield (D + 1)) #[] #[]] }, V, gf, #[.func (.yield (D + 1)) #[] #[]] ++ lb, V, ?_, ?_, ?_, ?_, fun _ => h1, ?_⟩
  · subst hV; subst hDe; subst hR; exact run_enterLoop_outer _ _ _ _ _
  · simp only [resolve, hg]
    simp [go_sem]
  · intro f' hf'; simp [Target.leads] at hf'; subst hf'; trivial
  · simp [invoke, go_sem, eg]
  · have key : ∀ pre x W0 W1, (I pre W0 ∧ W0.heap[D + 1]? = some (R .ready) ∧ W0.heap[D]? = some (.deferred (some []))) → (I pre W1 ∧ W1.heap[D + 1]? = some (R .ready) ∧ W1.heap[D]? = some (.deferred (some []))) → Fx pre x W0 W1 → pre.length < N →
        YieldAt Fence.wide (n - 1 - 1) P (D + 1) (encs x) W1 fun e W' => e = .returned (.bool true) ∧ (I (pre ++ [x]) W' ∧ W'.heap[D + 1]? = some (R .ready) ∧ W'.heap[D]? = some (.deferred (some []))) ∧ Kp W1 W' := by
      rintro pre x W0 W1 ⟨hi0, _, _⟩ ⟨hi, hl, hd⟩ hx hlen
      have hl' := hl
      rw [hR] at hl'
      have hy := run_yield (P := P) (args := encs x) hl' (hps x)
      refine ⟨fn, _, assign, body, hy, roundIn_of_wpIn hfn (hassign _ x W1 _ ⟨_, run_beginRound hl' rfl, ?_⟩)⟩
      -- the record is busy now
      obtain ⟨W2, hW2⟩ : ∃ W2, W1.putObj (D + 1) (R .busy) = W2 := ⟨_, rfl⟩
      have e2 : W1.putObj (D + 1) (.loop { recOf fn a ps assign body D .ready with state := .busy }) = W2 := by rw [← hW2, hR]; rfl
      rw [e2]
      have c2 : (R .ready).isCells = false ∧ (R .ready).isWalk = false := by rw [hR]; exact ⟨rfl, rfl⟩
      have c3 : (R .busy).isCells = false ∧ (R .busy).isWalk = false := by rw [hR]; exact ⟨rfl, rfl⟩
      have l2 : W2.heap[D + 1]? = some (R .busy) := by subst hW2; exact World.putObj_heap_same (hD hl)
      have d2 : W2.heap[D]? = some (.deferred (some [])) := by subst hW2; exact (World.putObj_heap_other (by omega)).trans hd
      have k2 : Kp W1 W2 := by subst hW2; exact hKb _ _ _ _ (by omega) hl c2.1 c2.2
      have i2 : I pre W2 := by subst hW2; exact hI.putObj _ hi (by omega) hl c2.1
      have x2 : Fx pre x W0 W2 := by subst hW2; exact hFb _ _ _ _ _ _ _ hl c2.1 hx
      refine wpIn_mono (hbody _ pre x W0 W2 hi0 i2 x2 hlen) ?_
      intro e a3 W3 hp
      cases e with
      | normal =>
        obtain ⟨ho, hk, hi3⟩ := hp
        have l3 := ho.same _ _ l2 c3.1
        have l3' := l3
        rw [hR] at l3'
        refine ⟨_, _, run_endRound none l3', rfl, ⟨hI.putObj _ hi3 (by omega) l3 c3.1, ?_, ?_⟩, hKt (hKt k2 hk) (hKb _ _ _ _ (by omega) l3 c3.1 c3.2)⟩
        · rw [World.putObj_heap_same (hD l3), hR]; rfl
        · exact (World.putObj_heap_other (by omega)).trans (ho.same _ _ d2 rfl)
      | ret => exact hp.elim
      | exit id => exact hp.elim
      | goto t => exact hp.elim
      | panic c => exact hp.elim
      | outgrown => exact hp.elim
    have hb : Below w.heap.size w V := by
      subst hV
      exact ((Below.refl _ w).alloc (Nat.le_refl _) _).alloc (by simp) _
    have i0 : I [] V := by subst hV; exact hI.alloc _ (hI.alloc _ h0)
    refine (hseq (D + 1) (fun pre W => I pre W ∧ W.heap[D + 1]? = some (R .ready) ∧ W.heap[D]? = some (.deferred (some []))) V hb ?_ key ⟨i0, book0⟩).mono ?_
    · intro s A B row hs hgr hrow
      refine ⟨hI s A B row hs.1 hgr fun r e => ?_, ?_, ?_⟩
      · obtain ⟨h2, o, ho, hw⟩ := hrow r e
        exact ⟨by omega, o, ho, Obj.not_cells_of_walk hw⟩
      · exact (grownBy_keeps hgr (fun r e => (hrow r e).2) hs.2.1 (by rw [hR]; rfl)).trans hs.2.1
      · exact (grownBy_keeps hgr (fun r e => (hrow r e).2) hs.2.2 rfl).trans hs.2.2
    · rintro e W2 ⟨⟨v, rfl⟩, xs, hS, hi, hl, hd⟩
      have hl' := hl
      rw [hR] at hl'
      refine ⟨none, _, run_endLoop hl' (by simp [recOf]), hdone D xs _ (by omega) hS (hI.putObj _ hi (by omega) hl (by rw [hR]; rfl)) ((World.putObj_heap_other (by omega)).trans hd)⟩
end
end Go.Proofs.Ytcinfkmekkdhfaa
