/- Cross pages: two matrices and their boxes, made in whatever order. -/
import Derived.Test.YtcinfkmekkdhfaaCqC
namespace Go.Proofs.Ytcinfkmekkdhfaa
open Go.RowKit Go.Shelf
set_option linter.unusedVariables false
attribute [local go_sem] Oper.semAt_some

theorem infoSI : (Try.prog.info? 40).map (fun i => (i.zero, i.size, i.bytes)) = some (some (.slice none 0 0), 1, 24) := by kernel_rfl
theorem run_makeMI (n : Nat) (hn : n ≤ 1000) (w : World) : (Instr.makeSlice 32 (.int .i64 (n : Int)) (.int .i64 (n : Int))).run Try.prog w = .ok (.slice (some ⟨w.heap.size, 0, none⟩) n n) (w.alloc (.cells (nilsM n) 40)) :=
  run_make_row' 32 40 (.slice none 0 0) 24 Try.underlying32 infoSI rfl .i64 .i64 n (by omega) (by omega) w
theorem own_nils (w : World) (B n : Nat) (e : TypeId) (hB : B ≤ w.heap.size) (hn : n ≤ 1000) : (w.alloc (.cells (nilsM n) e)).ownsRow B e 1 (.slice (some ⟨w.heap.size, 0, none⟩) n n) n (List.replicate n (.slice none 0 0)) :=
  own_made w B e (.slice none 0 0) n hB (by unfold maxLen; omega)
theorem boxed_below {W W' : World} {B : Nat} {t : TypeId} {v : Value} (h : Boxed W B t v) (hb : Below W.heap.size W W') : Boxed W' B t v := (hb.block B h.lt).trans h
/-- Both are there, and each in its box. -/
structure R5 (w W : World) (B d o1 o2 b1 b2 : Nat) : Prop where
  own1 : W.ownsRow B 41 1 (.slice (some ⟨o1, 0, none⟩) d d) d (List.replicate d (.slice none 0 0))
  own2 : W.ownsRow B 40 1 (.slice (some ⟨o2, 0, none⟩) d d) d (List.replicate d (.slice none 0 0))
  c1 : Boxed W b1 22 (.slice (some ⟨o1, 0, none⟩) d d)
  c2 : Boxed W b2 32 (.slice (some ⟨o2, 0, none⟩) d d)
  ge : w.heap.size ≤ o1 ∧ w.heap.size ≤ o2 ∧ w.heap.size ≤ b1 ∧ w.heap.size ≤ b2
  ne : o1 ≠ o2 ∧ o1 ≠ b1 ∧ o1 ≠ b2 ∧ o2 ≠ b1 ∧ o2 ≠ b2 ∧ b1 ≠ b2
  g : Below w.heap.size w W
theorem R5.put {w V : World} {B d o1 o2 b1 b2 : Nat} {u1 u2 : Value} (h1 : V.ownsRow B 41 1 (.slice (some ⟨o1, 0, none⟩) d d) d (List.replicate d (.slice none 0 0))) (h2 : V.ownsRow B 40 1 (.slice (some ⟨o2, 0, none⟩) d d) d (List.replicate d (.slice none 0 0)))
    (x1 : Boxed V b1 22 u1) (x2 : Boxed V b2 32 u2) (ge : w.heap.size ≤ o1 ∧ w.heap.size ≤ o2 ∧ w.heap.size ≤ b1 ∧ w.heap.size ≤ b2) (ne : o1 ≠ o2 ∧ o1 ≠ b1 ∧ o1 ≠ b2 ∧ o2 ≠ b1 ∧ o2 ≠ b2 ∧ b1 ≠ b2) (g : Gr w V) :
    R5 w ((V.setCell ⟨b1, 0, none⟩ (.slice (some ⟨o1, 0, none⟩) d d)).setCell ⟨b2, 0, none⟩ (.slice (some ⟨o2, 0, none⟩) d d)) B d o1 o2 b1 b2 := by
  obtain ⟨n1, n2, n3, n4, n5, n6⟩ := ne
  refine ⟨own_off (own_off h1 (p := ⟨b1, 0, none⟩) (fun g e => ?_) _) (p := ⟨b2, 0, none⟩) (fun g e => ?_) _, own_off (own_off h2 (p := ⟨b1, 0, none⟩) (fun g e => ?_) _) (p := ⟨b2, 0, none⟩) (fun g e => ?_) _, ?_, ?_, ge, ⟨n1, n2, n3, n4, n5, n6⟩, (Below.setCell (p := ⟨b2, 0, none⟩) (Below.setCell (p := ⟨b1, 0, none⟩) g ge.2.2.1 _) ge.2.2.2 _)⟩
  · have : o1 = g := Option.some.inj e
    show g ≠ b1
    omega
  · have : o1 = g := Option.some.inj e
    show g ≠ b2
    omega
  · have : o2 = g := Option.some.inj e
    show g ≠ b1
    omega
  · have : o2 = g := Option.some.inj e
    show g ≠ b2
    omega
  · exact (Below.heap_setCell _ ⟨b2, 0, none⟩ _ b1 n6).trans (x1.set _)
  · have : Boxed (V.setCell ⟨b1, 0, none⟩ (.slice (some ⟨o1, 0, none⟩) d d)) b2 32 u2 := (Below.heap_setCell _ ⟨b1, 0, none⟩ _ b2 (fun e => n6 e.symm)).trans x2
    exact this.set _
/-- One is in its box. -/
theorem R5.mid {V : World} {b1 b2 : Nat} {t1 t2 : TypeId} {s : Value} {u1 u2 : Value} (x1 : Boxed V b1 t1 u1) (x2 : Boxed V b2 t2 u2) (ne : b1 ≠ b2) : Boxed (V.setCell ⟨b1, 0, none⟩ s) b1 t1 s ∧ Boxed (V.setCell ⟨b1, 0, none⟩ s) b2 t2 u2 :=
  ⟨x1.set _, (Below.heap_setCell V ⟨b1, 0, none⟩ s b2 (fun e => ne e.symm)).trans x2⟩
theorem own_off1 {w : World} {B : Nat} {e : TypeId} {s : Nat} {o k c : Nat} {n : Nat} {xs : List Value} (h : w.ownsRow B e s (.slice (some ⟨o, 0, none⟩) k c) n xs) {b : Nat} (hp : o ≠ b) (u : Value) : (w.setCell ⟨b, 0, none⟩ u).ownsRow B e s (.slice (some ⟨o, 0, none⟩) k c) n xs :=
  own_off h (p := ⟨b, 0, none⟩) (fun g e => by have : o = g := Option.some.inj e; show g ≠ b; omega) u
theorem R5.mk' {w V : World} {B d o1 o2 b1 b2 : Nat} (h1 : V.ownsRow B 41 1 (.slice (some ⟨o1, 0, none⟩) d d) d (List.replicate d (.slice none 0 0))) (h2 : V.ownsRow B 40 1 (.slice (some ⟨o2, 0, none⟩) d d) d (List.replicate d (.slice none 0 0)))
    (x1 : Boxed V b1 22 (.slice (some ⟨o1, 0, none⟩) d d)) {u2 : Value} (x2 : Boxed V b2 32 u2) (ge : w.heap.size ≤ o1 ∧ w.heap.size ≤ o2 ∧ w.heap.size ≤ b1 ∧ w.heap.size ≤ b2) (ne : o1 ≠ o2 ∧ o1 ≠ b1 ∧ o1 ≠ b2 ∧ o2 ≠ b1 ∧ o2 ≠ b2 ∧ b1 ≠ b2) (g : Gr w V) :
    R5 w (V.setCell ⟨b2, 0, none⟩ (.slice (some ⟨o2, 0, none⟩) d d)) B d o1 o2 b1 b2 := by
  obtain ⟨n1, n2, n3, n4, n5, n6⟩ := ne
  exact ⟨own_off1 h1 n3 _, own_off1 h2 n5 _, (Below.heap_setCell V ⟨b2, 0, none⟩ _ b1 n6).trans x1, x2.set _, ge, ⟨n1, n2, n3, n4, n5, n6⟩, Below.setCell (p := ⟨b2, 0, none⟩) g ge.2.2.2 _⟩
/-- append of one integer onto a slice of the call's own, within a fence. -/
theorem wpListIn_app1I {F : Fence} {n0 : Nat} (w : World) {ops : Array Oper} {rest : List Oper} {o : Oper} {a : Act} {Q : Exit → Act → World → Prop} (hgd : o.guard = none) (s x : Operand)
    (ho : o.op = .call { callee := .builtin .append, args := #[s, x], argTypes := #[40, 40] }) (B : Nat)
    (v : Value) (l : List Int) (hown : OwI w B v l) (hs : a.eval s = v) (y : Int) (t : TypeId) (hx : a.eval x = .slice (some ⟨w.heap.size, 0, none⟩) 1 1)
    (hlen : l.length ≤ 1099511627000) (hbase : B ≤ w.heap.size)
    (h : ∀ v' w', OwI w' B v' (l ++ [y]) → Below B w w' → wpListIn F n0 Try.prog ops Q rest (a.put o.dst v') w') : wpListIn F n0 Try.prog ops Q (o :: rest) a (w.alloc (.cells #[.int .i64 y] t)) := by
  refine wpListIn_plain hgd fun K hK => ?_
  have hown' := hown.below (below_new w (.cells #[.int .i64 y] t))
  obtain ⟨v', w', hrun, h2, h3, h4⟩ := run_app (P := Try.prog) (w.alloc (.cells #[.int .i64 y] t)) B 40 o.type 3 (.int .i64 0) 8 Try.underlying40 infoI rfl v l.length (cI l) hown' (some ⟨w.heap.size, 0, none⟩) 1 1 (cI [y]) (RdI.one w y t 1).rdV (cI_one _) (by unfold maxLen; omega) (by omega) (by simp; omega)
  unfold Oper.wpIn
  refine ⟨?_, ?_⟩
  · simp [Oper.about, ho, resolve, Target.leads, Sem.run_pure]
  · rw [Oper.semAt_plain F _ _ (by rw [ho]; intro c hc'; cases hc')]
    simp [execOp, ho, resolve, invoke, builtin, hs, hx, hrun, Result.andThen]
    refine hK _ _ (h v' w' ?_ (((below_new w _).mono hbase).trans (grown_below h3 hown' (by simp; omega))))
    unfold OwI
    have e : cI (l ++ [y]) = cI l ++ cI [y] := by unfold cI; rw [List.map_append]
    rw [e, List.length_append]; exact h2
section
variable {P : Program} {l : List Oper}
/-- What is asked behind the tree of all operations. -/
def endV (l : List Oper) (Q : Exit → Act → World → Prop) : Array Bool → Act → World → Prop := fun s a w => Region.ready .any l.toArray s = [] ∧ Q .normal a w
theorem wpYV_mono {ops : Array Oper} {Inv : World → Prop} {Q Q' : Act → Prop} (h : ∀ a, Q a → Q' a) : ∀ (l : List Oper) (a : Act), wpYV P ops Inv Q l a → wpYV P ops Inv Q' l a := by
  intro l
  induction l with
  | nil => intro a ha; exact h a ha
  | cons o l ih =>
    intro a ha
    obtain ⟨v, hy, hr⟩ := ha
    exact ⟨v, hy, ih _ hr⟩
def headB (l : List Oper) (F : List Nat) (n : Nat) : Bool :=
  Region.noSelect l.toArray && allIn l F && decide (F.length + n = l.length) && ordHead .any l.toArray (fun s' => decide (s' = setsB (Array.replicate l.toArray.size false) F)) F (Array.replicate l.toArray.size false)
/-- A region all of whose operations but some quiet ones (F: they look at the frame alone) are walked in all orders, writers too. -/
theorem wp_region_all {id : Nat} {Q : Exit → Act → World → Prop} {a b0 : Act} {w : World} (F : List Nat) (n : Nat) (hm : P.follows .mixedOrders = true) (hB : headB l F n = true) (hd0 : dstOk a.tmps.size (pick l F) = true)
    (hq0 : ∀ z, wpQuiet P l.toArray (fun w' => ∃ x : Just z, w' = x.w) (fun a' => a' = b0) (pick l F) a)
    (h : ∀ W, Gr w W → headV P .any l.toArray (fun _ => True) (endV l Q) n (setsB (Array.replicate l.toArray.size false) F) b0 W) : (Code.region id l.toArray true).wp P Q a w := by
  simp only [headB, Bool.and_eq_true, decide_eq_true_eq] at hB
  obtain ⟨⟨⟨h1, hF⟩, hlen⟩, hord⟩ := hB
  have H := headV_lex (P := P) (md := .any) (l := l) (Inv := fun _ => True) (g := n) (L := endV l Q) (R := fun s' => decide (s' = setsB (Array.replicate l.toArray.size false) F)) h1 (fun s a w hL => hL.1) F _ a { w with drawn := w.drawn + 1 } trivial hF Clo.start hord
    (wpYV_mono (fun a' he s' hs' _ => by
      subst he
      rw [show s' = _ by simpa using hs']
      exact h _ (Below.refl _ w).drew) _ _ (wpYV_of_quiet (P := P) w trivial (ops := l.toArray) (b := b0) _ _ hd0 fun z _ => hq0 z))
  have K' := headV_any (R := Q) (g := 0) (fun s a' w' hL => (⟨hL.1, hL.2⟩ : wpAny P .any l.toArray Q 0 s a' w')) _ _ _ _ H
  rw [Nat.add_zero, hlen, show l.length = l.toArray.size by simp] at K'
  exact wp_region_any hm K'
/-- wpIn_region_held's twin for the plain walk. -/
theorem wp_region_held {id : Nat} {Q : Exit → Act → World → Prop} {a b0 b : Act} {w : World} (Inv : World → Prop) (F I J K : List Nat) (hm : P.follows .mixedOrders = true) (hB : freeB l F I J K = true) (hI0 : Inv { w with drawn := w.drawn + 1 }) (hS : ∀ w w', Gr w w' → Inv w → Inv w') (hd0 : dstOk a.tmps.size (pick l F) = true)
    (hq0 : ∀ z, Inv z → wpQuiet P l.toArray (fun w' => ∃ x : Just z, w' = x.w) (fun a' => a' = b0) (pick l F) a) (hd : dstOk b0.tmps.size (pick l I) = true)
    (hq : ∀ z, Gr w z → wpQuiet P l.toArray (fun w' => ∃ x : Ext z, w' = x.w) (fun a' => a' = b) (pick l I) b0)
    (hc : ∀ W, Gr w W → chainJ P l.toArray (chainV P l.toArray Inv (fun a' w' => Q .normal a' w') (pick l K)) (pick l J) b W) : (Code.region id l.toArray true).wp P Q a w :=
  wp_region_any hm (wpAny_held Inv F I J K hB hI0 hS hd0 hq0 hd hq hc)
/-- One step, whatever is ready. -/
def nextV (P : Program) (l : List Oper) (Q : Exit → Act → World → Prop) (f : Nat) (s : Array Bool) (a : Act) (w : World) (i : Nat) : Prop :=
  ∃ o, l[i]? = some o ∧ wpList P l.toArray (fun ex a' w' => ex = .normal ∧ a'.defers = a.defers ∧ headV P .any l.toArray (fun _ => True) (endV l Q) f (setsB s [i]) a' w') [o] a w
theorem all_step {Q : Exit → Act → World → Prop} {s : Array Bool} {a : Act} {w : World} {f : Nat} (R : List Nat) (hr : Region.ready .any l.toArray s = R) (hR : R ≠ []) (h : ∀ i ∈ R, nextV P l Q f s a w i) : headV P .any l.toArray (fun _ => True) (endV l Q) (f + 1) s a w := by
  refine ⟨fun e => hR (by rw [← hr]; exact e), fun i hi => ?_⟩
  rw [hr] at hi
  obtain ⟨o, ho, h⟩ := h i hi
  exact gOp_mono (fun a' w' hk => ⟨trivial, hk⟩) (chain_gOp (by simpa using ho) h)
theorem all_end {Q : Exit → Act → World → Prop} {s : Array Bool} {a : Act} {w : World} (hr : Region.ready .any l.toArray s = []) (h : Q .normal a w) : headV P .any l.toArray (fun _ => True) (endV l Q) 0 s a w := ⟨hr, h⟩
theorem all1 {p : Nat → Prop} {i : Nat} (h : p i) : ∀ x ∈ [i], p x := fun x hx => by rw [List.mem_singleton] at hx; subst hx; exact h
theorem allC {p : Nat → Prop} {i : Nat} {R : List Nat} (h : p i) (h' : ∀ x ∈ R, p x) : ∀ x ∈ i :: R, p x := fun x hx => by
  rcases List.mem_cons.1 hx with rfl | hx
  · exact h
  · exact h' x hx
end
end Go.Proofs.Ytcinfkmekkdhfaa
