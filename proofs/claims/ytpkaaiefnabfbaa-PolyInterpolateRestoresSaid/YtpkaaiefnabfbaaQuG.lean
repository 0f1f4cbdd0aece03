/- The same law for any order in which the head, the operations that make memory and the writing tail can be named: lists of the operations' numbers. -/
import Derived.Test.YtpkaaiefnabfbaaQuF
namespace Go.Proofs.Ytpkaaiefnabfbaa
open Go.RowKit
set_option linter.unusedVariables false
section
variable {P : Program} {ops : Array Oper} {md : Region.Mode} {w0 : World}

/-- Whatever an operation that has come up waited for has come up. -/
structure Clo (md : Region.Mode) (ops : Array Oper) (s : Array Bool) : Prop where
  size : s.size = ops.size
  closed : ∀ j oj, ops[j]? = some oj → s.getD j false = true → ∀ e ∈ oj.after, Region.binds md e = true → s.getD e.on false = true
theorem Clo.start : Clo md ops (Array.replicate ops.size false) :=
  ⟨by simp, fun j oj _ hl => (by rw [getD_replicate_false] at hl; cases hl)⟩
theorem getD_set_mono {s : Array Bool} {i j : Nat} (h : s.getD j false = true) : (s.setIfInBounds i true).getD j false = true := by
  by_cases e : i = j
  · subst e
    have hlt : i < s.size := by
      rcases Nat.lt_or_ge i s.size with h' | h'
      · exact h'
      · rw [Array.getD_eq_getD_getElem?, Array.getElem?_eq_none h'] at h; cases h
    simp [Array.getD, hlt]
  · rw [getD_set_ne false e]; exact h
theorem Clo.set {s : Array Bool} {i : Nat} (c : Clo md ops s) (hi : i ∈ Region.ready md ops s) : Clo md ops (s.setIfInBounds i true) := by
  obtain ⟨hun, oi, hoi, hall⟩ := mem_ready.1 hi
  refine ⟨by simp [c.size], fun j oj hj hl e he hb => ?_⟩
  by_cases hij : i = j
  · subst hij
    rw [hoi] at hj
    cases hj
    exact getD_set_mono (hall e he hb)
  · rw [getD_set_ne false hij] at hl
    exact getD_set_mono (c.closed j oj hj hl e he hb)
/-- Operation j waits for i, maybe through others. -/
def reachB (md : Region.Mode) (ops : Array Oper) : Nat → Nat → Nat → Bool
  | 0, _, _ => false
  | f + 1, j, i => match ops[j]? with
    | none => false
    | some oj => oj.after.any fun e => Region.binds md e && (e.on == i || reachB md ops f e.on i)
theorem reach_listed {s : Array Bool} (c : Clo md ops s) : ∀ (f j i : Nat), s.getD j false = true → reachB md ops f j i = true → s.getD i false = true := by
  intro f
  induction f with
  | zero => intro j i _ h; cases h
  | succ f ih =>
    intro j i hj h
    unfold reachB at h
    cases ho : ops[j]? with
    | none => simp only [ho] at h; cases h
    | some oj =>
      simp only [ho] at h
      rw [Array.any_eq_true'] at h
      obtain ⟨e, he, h⟩ := h
      simp only [Bool.and_eq_true, Bool.or_eq_true, beq_iff_eq] at h
      have h1 := c.closed j oj ho hj e he h.1
      rcases h.2 with h2 | h2
      · rw [← h2]; exact h1
      · exact ih _ _ h1 h2
theorem reach_ready {s : Array Bool} (c : Clo md ops s) {f j i : Nat} (hr : j ∈ Region.ready md ops s) (h : reachB md ops f j i = true) : s.getD i false = true := by
  obtain ⟨hun, oj, hoj, hall⟩ := mem_ready.1 hr
  cases f with
  | zero => cases h
  | succ f =>
    unfold reachB at h
    simp only [hoj] at h
    rw [Array.any_eq_true'] at h
    obtain ⟨e, he, h⟩ := h
    simp only [Bool.and_eq_true, Bool.or_eq_true, beq_iff_eq] at h
    have h1 := hall e he h.1
    rcases h.2 with h2 | h2
    · rw [← h2]; exact h1
    · exact reach_listed c f _ _ h1 h2
/-- The numbers in A (the head and what makes memory) come up ahead of all others. -/
def aheadB (md : Region.Mode) (ops : Array Oper) (A : List Nat) : Bool := (List.range ops.size).all fun k => A.contains k || A.all fun i => reachB md ops (ops.size + 1) k i
theorem ahead {A : List Nat} (hA : aheadB md ops A = true) {s : Array Bool} (c : Clo md ops s) {i j : Nat} (hi : i ∈ A) (hun : s.getD i true = false) (hj : j ∈ Region.ready md ops s) : j ∈ A := by
  obtain ⟨_, oj, hoj, _⟩ := mem_ready.1 hj
  have hlt : j < ops.size := (Array.getElem?_eq_some_iff.1 hoj).1
  have h := List.all_eq_true.1 hA j (List.mem_range.2 hlt)
  simp only [Bool.or_eq_true] at h
  rcases h with h | h
  · simpa using h
  · have h2 := reach_ready c hj (List.all_eq_true.1 h i hi)
    rw [getD_both hun] at h2
    cases h2
/-- Whatever order: the operations in A, f of them left; then L. -/
def headG (P : Program) (md : Region.Mode) (ops : Array Oper) (A : List Nat) (L : Array Bool → Act → World → Prop) : Nat → Array Bool → Act → World → Prop
  | 0, s, a, w => L s a w
  | f + 1, s, a, w => Region.ready md ops s ≠ [] ∧ ∀ i ∈ Region.ready md ops s, gOp P ops i (fun a' w' => Gr w w' ∧ ∀ w'', Gr w' w'' → headG P md ops A L f (s.setIfInBounds i true) a' w'') a w
theorem headG_any {A : List Nat} {g : Nat} {L : Array Bool → Act → World → Prop} {R : Exit → Act → World → Prop} (hL : ∀ s a w, L s a w → wpAny P md ops R g s a w) (f : Nat) :
    ∀ (s : Array Bool) (a : Act) (w : World), headG P md ops A L f s a w → wpAny P md ops R (f + g) s a w := by
  induction f with
  | zero => intro s a w h; rw [Nat.zero_add]; exact hL s a w h
  | succ f ih =>
    intro s a w h
    rw [show f + 1 + g = (f + g) + 1 by omega]
    exact ⟨fun h0 => absurd h0 h.1, fun i hi => gOp_wpOp (gOp_mono (fun a' w' hk => ih _ a' w' (hk.2 _ (Gr.refl _))) (h.2 i hi))⟩
theorem headG_first {A : List Nat} {i : Nat} {oi : Oper} {v : Value} {L : Array Bool → Act → World → Prop} (hsel : Region.noSelect ops = true) (hA : aheadB md ops A = true) (hi : ops[i]? = some oi) (hiA : i ∈ A) (hdone : ∀ s a w, L s a w → ∀ j ∈ Region.ready md ops s, j ∉ A) (f : Nat) :
    ∀ (s : Array Bool) (a : Act) (w : World), Clo md ops s →
      (∀ j oj, ops[j]? = some oj → j ≠ i → s.getD j true = false → (∀ e ∈ oj.after, Region.binds md e = true → e.on ≠ i) → oi.apart ops oj = true) →
      i ∈ Region.ready md ops s → YB P ops w0 oi v a → Gr w0 w → (∀ w', Gr w w' → headG P md ops A L f (s.setIfInBounds i true) (a.put oi.dst v) w') → headG P md ops A L (f + 1) s a w := by
  induction f with
  | zero =>
    intro s a w inv _ hr hy hw H
    refine ⟨fun h => (by rw [h] at hr; cases hr), fun j hj => ?_⟩
    have hjA := ahead hA inv hiA (mem_ready.1 hr).1 hj
    by_cases e : j = i
    · subst e; exact hy.gOp hi hw fun w' hg => ⟨hg, fun w'' hg' => H w'' (hg.trans hg')⟩
    · exact absurd hjA (hdone _ _ _ (H w (Gr.refl _)) j (ready_mono hj e))
  | succ f ih =>
    intro s a w inv hfree hr hy hw H
    have hun := (mem_ready.1 hr).1
    refine ⟨fun h => (by rw [h] at hr; cases hr), fun j hj => ?_⟩
    by_cases e : j = i
    · subst e; exact hy.gOp hi hw fun w' hg => ⟨hg, fun w'' hg' => H w'' (hg.trans hg')⟩
    · obtain ⟨hjun, oj, hoj, hall⟩ := mem_ready.1 hj
      have hnot : ∀ d ∈ oj.after, Region.binds md d = true → d.on ≠ i := fun d hd hb he => by
        have h1 := hall d hd hb
        rw [he, getD_both hun] at h1
        cases h1
      have hap := hfree j oj hoj e hjun hnot
      have hsi := fun cs b => Region.noSelect_spec hsel i oi cs b hi
      have hsj := fun cs b => Region.noSelect_spec hsel j oj cs b hoj
      have h2 := (H w (Gr.refl _)).2 j (ready_mono hj e)
      refine gOp_put hoj hap hsj (fun u w' hk => ⟨hk.1, fun w'' hg => ?_⟩) h2
      refine ih _ _ _ (inv.set hj) (fun k ok hk' hki hku hno => hfree k ok hk' hki ?_ hno) (ready_mono hr (Ne.symm e)) (hy.put hap hsi) (hw.trans (hk.1.trans hg)) (fun w3 hg3 => ?_)
      · by_cases hjk : j = k
        · subst hjk; exact hjun
        · rw [getD_set_ne true hjk] at hku; exact hku
      · rw [Array.setIfInBounds_comm _ _ e]; exact hk.2 _ (hg.trans hg3)
/-- One operation after the other. -/
def ordSeq (md : Region.Mode) (ops : Array Oper) (R : Array Bool → Bool) : List Nat → Array Bool → Bool
  | [], s => R s
  | i :: I, s => decide (Region.ready md ops s = [i]) && ordSeq md ops R I (s.setIfInBounds i true)
def ordHead (md : Region.Mode) (ops : Array Oper) (R : Array Bool → Bool) : List Nat → Array Bool → Bool
  | [], s => R s
  | i :: I, s => (Region.ready md ops s).contains i && Region.free md ops s i && ordHead md ops R I (s.setIfInBounds i true)
/-- The operations with these numbers. -/
def pick (l : List Oper) : List Nat → List Oper
  | [] => []
  | i :: I => match l[i]? with
    | some o => o :: pick l I
    | none => pick l I
def allIn (l : List Oper) (I : List Nat) : Bool := I.all fun i => decide (i < l.length)
theorem pick_cons {l : List Oper} {i : Nat} {I : List Nat} (h : allIn l (i :: I) = true) : ∃ o, l[i]? = some o ∧ pick l (i :: I) = o :: pick l I ∧ allIn l I = true := by
  simp only [allIn, List.all_cons, Bool.and_eq_true, decide_eq_true_eq] at h
  exact ⟨l[i], by simp [h.1], by simp [pick, h.1], h.2⟩
end
section
variable {P : Program} {l : List Oper} {md : Region.Mode} {w0 : World}
theorem headG_lex {A : List Nat} {r : Nat} {R : Array Bool → Bool} {L : Array Bool → Act → World → Prop} (hsel : Region.noSelect l.toArray = true) (hA : aheadB md l.toArray A = true) (hdone : ∀ s a w, L s a w → ∀ j ∈ Region.ready md l.toArray s, j ∉ A) :
    ∀ (I : List Nat) (s : Array Bool) (a : Act) (w : World), allIn l I = true → (∀ i ∈ I, i ∈ A) → Clo md l.toArray s → ordHead md l.toArray R I s = true → Gr w0 w →
      wpQB P l.toArray w0 (fun a' => ∀ s', R s' = true → Clo md l.toArray s' → ∀ W, Gr w0 W → headG P md l.toArray A L r s' a' W) (pick l I) a → headG P md l.toArray A L (I.length + r) s a w := by
  intro I
  induction I with
  | nil =>
    intro s a w _ _ inv hB hw h
    rw [List.length_nil, Nat.zero_add]
    exact h s hB inv w hw
  | cons i I ih =>
    intro s a w hin hIA inv hB hw h
    obtain ⟨o, h0, hp, hin'⟩ := pick_cons hin
    have h0' : l.toArray[i]? = some o := by simpa using h0
    simp only [ordHead, Bool.and_eq_true] at hB
    obtain ⟨⟨hr, hf⟩, hB'⟩ := hB
    have hr' : i ∈ Region.ready md l.toArray s := by simpa using hr
    rw [hp] at h
    obtain ⟨v, hy, hK⟩ := h
    rw [List.length_cons, show I.length + 1 + r = (I.length + r) + 1 by omega]
    exact headG_first hsel hA h0' (hIA i (List.mem_cons_self ..)) hdone (I.length + r) s a w inv (Region.free_spec h0' hf) hr' hy hw (fun w' hg => ih _ _ _ hin' (fun k hk => hIA k (List.mem_cons_of_mem _ hk)) (inv.set hr') hB' (hw.trans hg) hK)
theorem headG_chain {A : List Nat} {Q : Exit → Act → World → Prop} {tail : List Oper} {R : Array Bool → Bool} : ∀ (J : List Nat) (s : Array Bool) (a : Act) (w : World), allIn l J = true → ordSeq md l.toArray R J s = true → chainF P l.toArray Q tail (pick l J) a w →
    headG P md l.toArray A (fun s a w => R s = true ∧ wpList P l.toArray Q tail a w) J.length s a w := by
  intro J
  induction J with
  | nil => intro s a w _ hB h; exact ⟨hB, h⟩
  | cons j J ih =>
    intro s a w hin hB h
    obtain ⟨o, h0, hp, hin'⟩ := pick_cons hin
    have h0' : l.toArray[j]? = some o := by simpa using h0
    simp only [ordSeq, Bool.and_eq_true, decide_eq_true_eq] at hB
    obtain ⟨hr, hB'⟩ := hB
    rw [hp] at h
    refine ⟨fun e => (by rw [hr] at e; cases e), fun i hi => ?_⟩
    rw [hr, List.mem_singleton] at hi
    subst hi
    exact gOp_mono (fun a' w' hk' => ⟨hk'.1, fun w'' hg => ih _ a' w'' hin' hB' (hk'.2 w'' hg)⟩) (chain_gOp h0' h)
theorem wpAny_of_ord {Q' : Exit → Act → World → Prop} : ∀ (K : List Nat) (s : Array Bool) (a : Act) (w : World), allIn l K = true → ordSeq md l.toArray (fun s => (Region.ready md l.toArray s).isEmpty) K s = true → wpList P l.toArray Q' (pick l K) a w → wpAny P md l.toArray Q' K.length s a w := by
  intro K
  induction K with
  | nil => intro s a w _ hB h; exact ⟨by simpa [ordSeq] using hB, h⟩
  | cons k K ih =>
    intro s a w hin hB h
    obtain ⟨o, h0, hp, hin'⟩ := pick_cons hin
    have h0' : l.toArray[k]? = some o := by simpa using h0
    simp only [ordSeq, Bool.and_eq_true, decide_eq_true_eq] at hB
    obtain ⟨hr, hB'⟩ := hB
    rw [hp] at h
    refine ⟨fun e => (by rw [hr] at e; cases e), fun i hi => ?_⟩
    rw [hr, List.mem_singleton] at hi
    subst hi
    unfold wpOp
    simp only [h0']
    unfold wpList at h
    split
    · rename_i hw
      simp only [hw, if_true] at h
      rcases h with h | h
      · exact .inl (Oper.wp_mono (fun a' w' hk => ih _ a' w' hin' hB' hk) h)
      · exact .inr h
    · rename_i hw
      simp only [hw] at h
      exact ih _ _ _ hin' hB' h
def orderB (l : List Oper) (I J K : List Nat) : Bool :=
  Region.noSelect l.toArray && aheadB .any l.toArray (I ++ J) && allIn l I && allIn l J && allIn l K && decide (I.length + J.length + K.length = l.length) && K.all (fun k => !(I ++ J).contains k) &&
  ordHead .any l.toArray (ordSeq .any l.toArray (ordSeq .any l.toArray (fun s => (Region.ready .any l.toArray s).isEmpty) K) J) I (Array.replicate l.toArray.size false)
theorem ordSeq_ready {ops : Array Oper} {R : Array Bool → Bool} (hR : ∀ s, R s = true → Region.ready md ops s = []) : ∀ (K : List Nat) (s : Array Bool), ordSeq md ops R K s = true → ∀ j ∈ Region.ready md ops s, j ∈ K
  | [], s, h, j, hj => by rw [hR s h] at hj; cases hj
  | k :: K, s, h, j, hj => by
    simp only [ordSeq, Bool.and_eq_true, decide_eq_true_eq] at h
    rw [h.1, List.mem_singleton] at hj
    subst hj
    exact List.mem_cons_self ..
/-- The law. -/
theorem wp_region_order {id : Nat} {Q : Exit → Act → World → Prop} {a b : Act} {w : World} (I J K : List Nat) (hm : P.follows .mixedOrders = true) (hB : orderB l I J K = true) (hd : dstOk a.tmps.size (pick l I) = true)
    (hq : ∀ z, Gr w z → wpQuiet P l.toArray (fun w' => ∃ x : Ext z, w' = x.w) (fun a' => a' = b) (pick l I) a)
    (hc : ∀ W, Gr w W → chainF P l.toArray Q (pick l K) (pick l J) b W) : (Code.region id l.toArray true).wp P Q a w := by
  simp only [orderB, Bool.and_eq_true, decide_eq_true_eq] at hB
  obtain ⟨⟨⟨⟨⟨⟨⟨h1, hA⟩, hI⟩, hJ⟩, hK⟩, hlen⟩, hKn⟩, hord⟩ := hB
  have hdone : ∀ s, ordSeq .any l.toArray (fun s => (Region.ready .any l.toArray s).isEmpty) K s = true → ∀ j ∈ Region.ready .any l.toArray s, j ∉ I ++ J := fun s hs j hj => by
    have hjK := ordSeq_ready (fun s hs => by simpa using hs) K s hs j hj
    have := List.all_eq_true.1 hKn j hjK
    simpa using this
  have H := headG_lex (P := P) (w0 := w) (md := .any) (A := I ++ J) (r := J.length) (R := ordSeq .any l.toArray (ordSeq .any l.toArray (fun s => (Region.ready .any l.toArray s).isEmpty) K) J)
    (L := fun s a w => ordSeq .any l.toArray (fun s => (Region.ready .any l.toArray s).isEmpty) K s = true ∧ wpList P l.toArray Q (pick l K) a w) h1 hA (fun s a w hL => hdone s hL.1)
    I _ a { w with drawn := w.drawn + 1 } hI (fun i hi => List.mem_append_left _ hi) Clo.start hord (Below.refl _ w).drew
    (wpQB_mono (fun a' he s' hs' _ W hW => by
      subst he
      exact headG_chain J s' a' W hJ hs' (hc W hW)) _ _ (wpQB_of_quiet _ _ hd hq))
  have K' := headG_any (R := Q) (g := K.length) (fun s a' w' hL => wpAny_of_ord K s a' w' hK hL.1 hL.2) _ _ _ _ H
  rw [hlen, show l.length = l.toArray.size by simp] at K'
  exact wp_region_any hm K'
end
end Go.Proofs.Ytpkaaiefnabfbaa
