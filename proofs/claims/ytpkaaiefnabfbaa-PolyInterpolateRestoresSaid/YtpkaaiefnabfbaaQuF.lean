/- A region that draws its order, with operations that make memory floating among those that read: the head (n operations) reads what was there, each with one value in whatever world that extends the first; behind it in the text a chain of operations that make memory alone (up to m), which may come up before the head is done; behind all of them a chain that may write. -/
import Derived.Test.YtpkaaiefnabfbaaQuT
namespace Go.Proofs.Ytpkaaiefnabfbaa
open Go.RowKit

/-- The world has only grown. -/
def Gr (w w' : World) : Prop := Below w.heap.size w w'
theorem Gr.refl (w : World) : Gr w w := Below.refl _ _
theorem Gr.trans {a b c : World} (h : Gr a b) (k : Gr b c) : Gr a c := Bw.step h k
section
variable {P : Program} {ops : Array Oper} {md : Region.Mode} {w0 : World}

def gUpon (P : Program) (o : Oper) (a : Act) (K : Act → World → Prop) : Result Next → Prop
  | .ok (.value v) w' => K (a.put o.dst v) w'
  | .ok .skip w' => K (a.put o.dst undef) w'
  | .ok (.enter f args) w' => Calls P f args w' (fun e w'' => ∃ v, e = .returned v ∧ K (a.put o.dst v) w'')
  | .ok (.row row args) w' => Rows P row args w' (fun v w'' => K (a.put o.dst v) w'')
  | _ => False
/-- Operation i comes up, ends as it should, and then K. -/
def gOp (P : Program) (ops : Array Oper) (i : Nat) (K : Act → World → Prop) (a : Act) (w : World) : Prop :=
  match ops[i]? with
  | none => False
  | some o => if Region.wanted o (yielded ops a.tmps) then gUpon P o a K ((execOp a.eval o).run P w) else K (a.put o.dst undef) w
theorem gOp_wpOp {Q : Exit → Act → World → Prop} {i : Nat} {K : Act → World → Prop} {a : Act} {w : World} (h : gOp P ops i K a w) : wpOp P ops Q i K a w := by
  unfold gOp at h
  unfold wpOp
  cases ho : ops[i]? with
  | none => simp only [ho] at h
  | some o =>
    simp only [ho] at h ⊢
    split
    · rename_i hw
      simp only [hw, if_true] at h
      left
      unfold Oper.wp
      generalize (execOp a.eval o).run P w = r at *
      cases r with
      | ok n w' =>
        cases n <;> simp only [gUpon] at h <;> simp only [Oper.upon] <;> try exact h
        exact h.mono fun e w'' ⟨v, he, hk⟩ => by subst he; exact hk
      | halt x w' => simp only [gUpon] at h
    · rename_i hw; simp only [hw] at h; exact h
theorem gUpon_mono {o : Oper} {a : Act} {K K' : Act → World → Prop} {r : Result Next} (hk : ∀ u w', K (a.put o.dst u) w' → K' (a.put o.dst u) w') (h : gUpon P o a K r) : gUpon P o a K' r := by
  cases r with
  | ok n w' =>
    cases n <;> simp only [gUpon] at h ⊢
    · exact hk _ _ h
    · exact hk _ _ h
    · exact h.mono fun e w'' ⟨v, he, hv⟩ => ⟨v, he, hk _ _ hv⟩
    · exact h.mono fun v w'' hv => hk _ _ hv
  | halt x w' => simp only [gUpon] at h
theorem gOp_put {j : Nat} {oi oj : Oper} {v : Value} (hj : ops[j]? = some oj) (hap : oi.apart ops oj = true) (hsj : ∀ cs b, oj.op ≠ .select cs b) {K K' : Act → World → Prop} {a : Act} {w : World}
    (hk : ∀ u w', K ((a.put oj.dst u).put oi.dst v) w' → K' (a.put oj.dst u) w') (h : gOp P ops j K (a.put oi.dst v) w) : gOp P ops j K' a w := by
  obtain ⟨h1, h2, h3⟩ := Oper.apart_spec hap
  unfold gOp at *
  simp only [hj] at *
  rw [wanted_put oj a oi.dst v h1, execOp_put oj hsj a oi.dst v h1] at h
  have hcomm : ∀ u, (a.put oi.dst v).put oj.dst u = (a.put oj.dst u).put oi.dst v := fun u => Act.put_comm a v u h2
  split
  · rename_i hw
    simp only [hw, if_true] at h
    generalize (execOp a.eval oj).run P w = r at *
    cases r with
    | ok n w' =>
      cases n <;> simp only [gUpon] at h ⊢
      · rw [hcomm] at h; exact hk _ _ h
      · rw [hcomm] at h; exact hk _ _ h
      · exact h.mono fun e w'' ⟨u, he, hu⟩ => ⟨u, he, hk _ _ (by rw [← hcomm]; exact hu)⟩
      · exact h.mono fun u w'' hu => hk _ _ (by rw [← hcomm]; exact hu)
    | halt x w' => simp only [gUpon] at h
  · rename_i hw
    simp only [hw] at h
    simp only [Bool.false_eq_true, if_false] at h
    rw [hcomm] at h; exact hk _ _ h
/-- In every world that extends w0 the operation yields v, and the world has only grown. -/
def YB (P : Program) (ops : Array Oper) (w0 : World) (o : Oper) (v : Value) (a : Act) : Prop :=
  (Region.wanted o (yielded ops a.tmps) = true ∧ ∀ w, Gr w0 w → o.quietAt P a (Gr w) w v) ∨ (Region.wanted o (yielded ops a.tmps) = false ∧ v = undef)
theorem YB.gOp {i : Nat} {o : Oper} {v : Value} {a : Act} {w : World} {K : Act → World → Prop} (hi : ops[i]? = some o) (hy : YB P ops w0 o v a) (hw : Gr w0 w) (hk : ∀ w', Gr w w' → K (a.put o.dst v) w') : gOp P ops i K a w := by
  unfold Proofs.Ytpkaaiefnabfbaa.gOp
  simp only [hi]
  rcases hy with ⟨hwd, hv⟩ | ⟨hwd, rfl⟩
  · simp only [hwd, if_true]
    have h3 := hv w hw
    unfold Oper.quietAt at h3
    generalize (execOp a.eval o).run P w = r at *
    cases r with
    | ok n w' =>
      cases n <;> simp only [Oper.quietUpon] at h3 <;> simp only [gUpon]
      · obtain ⟨rfl, rfl⟩ := h3; exact hk _ (Gr.refl _)
      · obtain ⟨rfl, rfl⟩ := h3; exact hk _ (Gr.refl _)
      · obtain ⟨rfl, hc⟩ := h3
        exact hc.mono fun e w'' ⟨he, hg⟩ => ⟨v, he, hk _ hg⟩
    | halt x w' => simp only [Oper.quietUpon] at h3
  · simp only [hwd, Bool.false_eq_true, if_false]; exact hk _ (Gr.refl _)
theorem YB.put {oi oj : Oper} {v u : Value} {a : Act} (hy : YB P ops w0 oi v a) (hap : oi.apart ops oj = true) (hsi : ∀ cs b, oi.op ≠ .select cs b) : YB P ops w0 oi v (a.put oj.dst u) := by
  obtain ⟨h1, h2, h3⟩ := Oper.apart_spec hap
  unfold YB Oper.quietAt at *
  rw [wanted_put oi a oj.dst u h3, execOp_put oi hsi a oj.dst u h3]
  exact hy
/-- Whatever order: the first m operations, f of them left; then L. -/
def headF (P : Program) (md : Region.Mode) (ops : Array Oper) (m : Nat) (L : Array Bool → Act → World → Prop) : Nat → Array Bool → Act → World → Prop
  | 0, s, a, w => L s a w
  | f + 1, s, a, w => Region.ready md ops s ≠ [] ∧ ∀ i ∈ Region.ready md ops s, i < m ∧ gOp P ops i (fun a' w' => Gr w w' ∧ ∀ w'', Gr w' w'' → headF P md ops m L f (s.setIfInBounds i true) a' w'') a w
theorem gOp_mono {i : Nat} {K K' : Act → World → Prop} {a : Act} {w : World} (hk : ∀ a' w', K a' w' → K' a' w') (h : gOp P ops i K a w) : gOp P ops i K' a w := by
  unfold gOp at *
  cases ho : ops[i]? with
  | none => simp only [ho] at h
  | some o =>
    simp only [ho] at h ⊢
    split
    · rename_i hw; simp only [hw, if_true] at h; exact gUpon_mono (fun u w' => hk _ w') h
    · rename_i hw; simp only [hw] at h; exact hk _ _ h
theorem headF_any {m g : Nat} {L : Array Bool → Act → World → Prop} {R : Exit → Act → World → Prop} (hL : ∀ s a w, L s a w → wpAny P md ops R g s a w) (f : Nat) :
    ∀ (s : Array Bool) (a : Act) (w : World), headF P md ops m L f s a w → wpAny P md ops R (f + g) s a w := by
  induction f with
  | zero => intro s a w h; rw [Nat.zero_add]; exact hL s a w h
  | succ f ih =>
    intro s a w h
    rw [show f + 1 + g = (f + g) + 1 by omega]
    exact ⟨fun h0 => absurd h0 h.1, fun i hi => gOp_wpOp (gOp_mono (fun a' w' hk => ih _ a' w' (hk.2 _ (Gr.refl _))) (h.2 i hi).2)⟩
theorem headF_first {m i : Nat} {oi : Oper} {v : Value} {L : Array Bool → Act → World → Prop} (T : Tailed md ops m) (hi : ops[i]? = some oi) (him : i < m) (hdone : ∀ s a w, L s a w → ∀ j ∈ Region.ready md ops s, m ≤ j) (f : Nat) :
    ∀ (s : Array Bool) (a : Act) (w : World), HeadInv md ops m s →
      (∀ j oj, ops[j]? = some oj → j ≠ i → s.getD j true = false → (∀ e ∈ oj.after, Region.binds md e = true → e.on ≠ i) → oi.apart ops oj = true) →
      i ∈ Region.ready md ops s → YB P ops w0 oi v a → Gr w0 w → (∀ w', Gr w w' → headF P md ops m L f (s.setIfInBounds i true) (a.put oi.dst v) w') → headF P md ops m L (f + 1) s a w := by
  induction f with
  | zero =>
    intro s a w inv _ hr hy hw H
    refine ⟨fun h => (by rw [h] at hr; cases hr), fun j hj => ?_⟩
    have hjm := T.head inv him (mem_ready.1 hr).1 hj
    by_cases e : j = i
    · subst e; exact ⟨hjm, hy.gOp hi hw fun w' hg => ⟨hg, fun w'' hg' => H w'' (hg.trans hg')⟩⟩
    · exact absurd (hdone _ _ _ (H w (Gr.refl _)) j (ready_mono hj e)) (by omega)
  | succ f ih =>
    intro s a w inv hfree hr hy hw H
    have hun := (mem_ready.1 hr).1
    refine ⟨fun h => (by rw [h] at hr; cases hr), fun j hj => ?_⟩
    have hjm := T.head inv him hun hj
    by_cases e : j = i
    · subst e; exact ⟨hjm, hy.gOp hi hw fun w' hg => ⟨hg, fun w'' hg' => H w'' (hg.trans hg')⟩⟩
    · obtain ⟨hjun, oj, hoj, hall⟩ := mem_ready.1 hj
      have hnot : ∀ d ∈ oj.after, Region.binds md d = true → d.on ≠ i := fun d hd hb he => by
        have h1 := hall d hd hb
        rw [he, getD_both hun] at h1
        cases h1
      have hap := hfree j oj hoj e hjun hnot
      have hsi := fun cs b => Region.noSelect_spec T.sel i oi cs b hi
      have hsj := fun cs b => Region.noSelect_spec T.sel j oj cs b hoj
      have h2 := ((H w (Gr.refl _)).2 j (ready_mono hj e)).2
      refine ⟨hjm, gOp_put hoj hap hsj (fun u w' hk => ⟨hk.1, fun w'' hg => ?_⟩) h2⟩
      refine ih _ _ _ (inv.set hj hjm) (fun k ok hk' hki hku hno => hfree k ok hk' hki ?_ hno) (ready_mono hr (Ne.symm e)) (hy.put hap hsi) (hw.trans (hk.1.trans hg)) (fun w3 hg3 => ?_)
      · by_cases hjk : j = k
        · subst hjk; exact hjun
        · rw [getD_set_ne true hjk] at hku; exact hku
      · rw [Array.setIfInBounds_comm _ _ e]; exact hk.2 _ (hg.trans hg3)
/-- The head's walk in the order of the text. -/
def wpQB (P : Program) (ops : Array Oper) (w0 : World) (Q : Act → Prop) : List Oper → Act → Prop
  | [], a => Q a
  | o :: rest, a => ∃ v, YB P ops w0 o v a ∧ wpQB P ops w0 Q rest (a.put o.dst v)
theorem headF_lex {n m g r : Nat} {L : Array Bool → Act → World → Prop} (T : Tailed md ops m) (hnm : n ≤ m) (hdone : ∀ s a w, L s a w → ∀ j ∈ Region.ready md ops s, m ≤ j) :
    ∀ (l : List Oper) (k : Nat) (s : Array Bool) (a : Act) (w : World), (∀ j, j < l.length → l[j]? = ops[k + j]?) → k + l.length = n → HeadInv md ops m s → Region.lexHead md ops g l.length k s = true → Gr w0 w →
      wpQB P ops w0 (fun a' => ∀ s', Region.seqB md ops g n s' = true → HeadInv md ops m s' → ∀ W, Gr w0 W → headF P md ops m L r s' a' W) l a → headF P md ops m L (l.length + r) s a w := by
  intro l
  induction l with
  | nil =>
    intro k s a w _ hk inv hB hw h
    have e : k = n := by simpa using hk
    subst e
    rw [List.length_nil, Nat.zero_add]
    exact h s (by simpa [Region.lexHead] using hB) inv w hw
  | cons o l ih =>
    intro k s a w hl hk inv hB hw h
    have h0 : ops[k]? = some o := by simpa using (hl 0 (by simp)).symm
    simp only [List.length_cons, Region.lexHead, Bool.and_eq_true] at hB
    obtain ⟨⟨hr, hf⟩, hB'⟩ := hB
    have hkn : k < n := by simp only [List.length_cons] at hk; omega
    have hr' : k ∈ Region.ready md ops s := by simpa using hr
    obtain ⟨v, hy, hK⟩ := h
    rw [List.length_cons, show l.length + 1 + r = (l.length + r) + 1 by omega]
    refine headF_first T h0 (by omega) hdone (l.length + r) s a w inv (Region.free_spec h0 hf) hr' hy hw (fun w' hg => ih (k + 1) _ _ _ (fun j hj => ?_) ?_ (inv.set hr' (by omega)) hB' (hw.trans hg) hK)
    · have := hl (j + 1) (by simp; omega)
      simpa [Nat.add_assoc, Nat.add_comm 1 j] using this
    · simp only [List.length_cons] at hk; omega
/-- The chain that makes memory, each operation in whatever world the last one's has grown to; then the tail. -/
def chainF (P : Program) (ops : Array Oper) (Q : Exit → Act → World → Prop) (tail : List Oper) : List Oper → Act → World → Prop
  | [], a, w => wpList P ops Q tail a w
  | o :: rest, a, w => wpList P ops (fun ex a' w' => ex = .normal ∧ a'.defers = a.defers ∧ Gr w w' ∧ ∀ w'', Gr w' w'' → chainF P ops Q tail rest a' w'') [o] a w
theorem put_defers (a : Act) (d : Option Tmp) (v : Value) : (a.put d v).defers = a.defers := by cases d <;> rfl
theorem chain_gOp {i : Nat} {o : Oper} {a : Act} {w : World} {K : Act → World → Prop} (hi : ops[i]? = some o) (h : wpList P ops (fun ex a' w' => ex = .normal ∧ a'.defers = a.defers ∧ K a' w') [o] a w) : gOp P ops i K a w := by
  unfold gOp
  simp only [hi]
  simp only [wpList] at h
  split
  · rename_i hw
    simp only [hw, if_true] at h
    rcases h with h | ⟨_, a', w', h⟩
    · unfold Oper.wp at h
      generalize hr : (execOp a.eval o).run P w = r at *
      cases r with
      | ok n w' =>
        cases n <;> simp only [Oper.upon] at h <;> simp only [gUpon]
        case value => exact h.2.2
        case skip => exact h.2.2
        case defer d =>
          have h1 := h.2.1
          rw [put_defers] at h1
          have := congrArg List.length h1
          simp at this
        case enter f args =>
          refine h.mono fun e w'' he => ?_
          cases e with
          | returned v => exact ⟨v, rfl, he.2.2⟩
          | panicked c => cases he.1
          | outgrown => obtain ⟨_, _, hh, _⟩ := he; cases hh
        case row r args => exact h.mono fun v w'' hv => hv.2.2
      | halt x w' =>
        cases x <;> simp only [Oper.upon] at h
        exact absurd h.1 (by intro hh; cases hh)
    · cases h.1
  · rename_i hw; simp only [hw] at h; exact h.2.2
theorem headF_chain {m g : Nat} {Q : Exit → Act → World → Prop} {tail : List Oper} : ∀ (l : List Oper) (k : Nat) (s : Array Bool) (a : Act) (w : World), (∀ j, j < l.length → l[j]? = ops[k + j]?) → k + l.length = m →
    Region.seqB md ops (l.length + g) k s = true → chainF P ops Q tail l a w → headF P md ops m (fun s a w => Region.seqB md ops g m s = true ∧ wpList P ops Q tail a w) l.length s a w := by
  intro l
  induction l with
  | nil =>
    intro k s a w _ hk hB h
    have e : k = m := by simpa using hk
    subst e
    rw [List.length_nil, Nat.zero_add] at hB
    exact ⟨hB, h⟩
  | cons o l ih =>
    intro k s a w hl hk hB h
    have h0 : ops[k]? = some o := by simpa using (hl 0 (by simp)).symm
    rw [List.length_cons, show l.length + 1 + g = (l.length + g) + 1 by omega] at hB
    simp only [Region.seqB, Bool.and_eq_true, decide_eq_true_eq] at hB
    obtain ⟨hr, hB'⟩ := hB
    refine ⟨fun e => (by rw [hr] at e; cases e), fun i hi => ?_⟩
    rw [hr, List.mem_singleton] at hi
    subst hi
    refine ⟨by simp only [List.length_cons] at hk; omega, gOp_mono (fun a' w' hk' => ⟨hk'.1, fun w'' hg => ih (i + 1) _ a' w'' (fun j hj => ?_) ?_ hB' (hk'.2 w'' hg)⟩) (chain_gOp h0 h)⟩
    · have := hl (j + 1) (by simp; omega)
      simpa [Nat.add_assoc, Nat.add_comm 1 j] using this
    · simp only [List.length_cons] at hk; omega
/-! ### The head's values are the same in every class -/
def dstOk (sz : Nat) : List Oper → Bool
  | [] => true
  | o :: l => (match o.dst with | some d => decide (d < sz) && l.all (fun p => p.dst != some d) | none => false) && dstOk sz l
theorem put_far (a : Act) {x : Option Tmp} {d : Nat} (h : x ≠ some d) (v : Value) : (a.put x v).tmps[d]? = a.tmps[d]? := by
  cases x with
  | none => rfl
  | some e =>
    have : e ≠ d := fun he => h (by rw [he])
    simp [Act.put, this]
theorem put_size (a : Act) (x : Option Tmp) (v : Value) : (a.put x v).tmps.size = a.tmps.size := by cases x <;> simp [Act.put]
theorem put_at (a : Act) {d : Nat} (h : d < a.tmps.size) (v : Value) : (a.put (some d) v).tmps[d]? = some v := by simp [Act.put, h]
theorem quiet_keeps {C : World → Prop} {b : Act} {d : Nat} : ∀ (l : List Oper) (a : Act), (l.all fun p => p.dst != some d) = true → wpQuiet P ops C (fun a' => a' = b) l a → b.tmps[d]? = a.tmps[d]? := by
  intro l
  induction l with
  | nil => intro a _ h; rw [show a = b from h]
  | cons o l ih =>
    intro a hd h
    simp only [List.all_cons, Bool.and_eq_true, bne_iff_ne, ne_eq] at hd
    unfold wpQuiet at h
    split at h
    · obtain ⟨v, _, h⟩ := h
      rw [ih _ hd.2 h, put_far a hd.1]
    · rw [ih _ hd.2 h, put_far a hd.1]
theorem wpQB_of_quiet {b : Act} : ∀ (l : List Oper) (a : Act), dstOk a.tmps.size l = true → (∀ z, Gr w0 z → wpQuiet P ops (fun w' => ∃ x : Ext z, w' = x.w) (fun a' => a' = b) l a) → wpQB P ops w0 (fun a' => a' = b) l a := by
  intro l
  induction l with
  | nil => intro a _ h; exact h w0 (Gr.refl _)
  | cons o l ih =>
    intro a hd h
    unfold dstOk at hd
    simp only [Bool.and_eq_true] at hd
    obtain ⟨hd1, hd2⟩ := hd
    cases hdst : o.dst with
    | none => simp only [hdst] at hd1; cases hd1
    | some d =>
      simp only [hdst, Bool.and_eq_true, decide_eq_true_eq] at hd1
      by_cases hw : Region.wanted o (yielded ops a.tmps) = true
      · have h' : ∀ z, Gr w0 z → ∃ v, (∀ w, (∃ x : Ext z, w = x.w) → o.quietAt P a (fun w' => ∃ x : Ext z, w' = x.w) w v) ∧ wpQuiet P ops (fun w' => ∃ x : Ext z, w' = x.w) (fun a' => a' = b) l (a.put o.dst v) := fun z hz => by
          have := h z hz
          unfold wpQuiet at this
          simp only [hw, if_true] at this
          exact this
        obtain ⟨v, _, hv⟩ := h' w0 (Gr.refl _)
        have hval : ∀ u z, wpQuiet P ops (fun w' => ∃ x : Ext z, w' = x.w) (fun a' => a' = b) l (a.put o.dst u) → b.tmps[d]? = some u := fun u z hu => by
          rw [quiet_keeps l _ hd1.2 hu, hdst, put_at a hd1.1]
        have hsame : ∀ z, Gr w0 z → (o.quietAt P a (fun w' => ∃ x : Ext z, w' = x.w) z v) ∧ wpQuiet P ops (fun w' => ∃ x : Ext z, w' = x.w) (fun a' => a' = b) l (a.put o.dst v) := fun z hz => by
          obtain ⟨u, hu1, hu2⟩ := h' z hz
          have : u = v := by
            have e := (hval u z hu2).symm.trans (hval v w0 hv)
            exact Option.some.inj e
          subst this
          exact ⟨hu1 z ⟨⟨z, Below.refl _ _⟩, rfl⟩, hu2⟩
        refine ⟨v, .inl ⟨hw, fun w hg => ?_⟩, ih _ (by rw [put_size]; exact hd2) fun z hz => (hsame z hz).2⟩
        have h3 := (hsame w hg).1
        unfold Oper.quietAt at *
        generalize (execOp a.eval o).run P w = r at *
        cases r with
        | ok n w' =>
          cases n <;> simp only [Oper.quietUpon] at h3 ⊢ <;> try exact h3
          exact ⟨h3.1, h3.2.mono fun e w'' he => ⟨he.1, ext_below he.2⟩⟩
        | halt x w' => simp only [Oper.quietUpon] at h3
      · refine ⟨undef, .inr ⟨by simpa using hw, rfl⟩, ih _ (by rw [put_size]; exact hd2) fun z hz => ?_⟩
        have := h z hz
        unfold wpQuiet at this
        simp only [hw] at this
        exact this
def floatB (md : Region.Mode) (ops : Array Oper) (n m : Nat) : Bool :=
  Region.noSelect ops && decide (m < ops.size) && decide (n ≤ m) && Region.sinkB md ops m && Region.chainB md ops m && Region.lexHead md ops (ops.size - n) n 0 (Array.replicate ops.size false)
theorem wpQB_mono {Q Q' : Act → Prop} (h : ∀ a, Q a → Q' a) : ∀ (l : List Oper) (a : Act), wpQB P ops w0 Q l a → wpQB P ops w0 Q' l a
  | [], a, hq => h a hq
  | _ :: l, _, ⟨v, hy, hq⟩ => ⟨v, hy, wpQB_mono h l _ hq⟩
end
theorem cell_extz {w z : World} (hz : Gr w z) {b o : Nat} {v : Value} (hb : b < w.heap.size) (h : w.cell? ⟨b, o, none⟩ = some v) (x : Ext z) : x.w.cell? ⟨b, o, none⟩ = some v :=
  ((Bw.step hz x.below).cell (p := ⟨b, o, none⟩) hb).trans h
/-- The law. -/
theorem wp_region_float {P : Program} {id : Nat} {Q : Exit → Act → World → Prop} {a b : Act} {w : World} {l : List Oper} (n m : Nat) (hm : P.follows .mixedOrders = true) (hB : floatB .any l.toArray n m = true) (hd : dstOk a.tmps.size (l.take n) = true)
    (hq : ∀ z, Gr w z → wpQuiet P l.toArray (fun w' => ∃ x : Ext z, w' = x.w) (fun a' => a' = b) (l.take n) a)
    (hc : ∀ W, Gr w W → chainF P l.toArray Q (l.drop m) ((l.drop n).take (m - n)) b W) : (Code.region id l.toArray true).wp P Q a w := by
  simp only [floatB, Bool.and_eq_true, decide_eq_true_eq] at hB
  obtain ⟨⟨⟨⟨⟨h1, h2⟩, hnm⟩, h3⟩, h4⟩, hlex⟩ := hB
  have hsz : m < l.length := by simpa using h2
  have htl : (l.take n).length = n := by simp; omega
  have hml : ((l.drop n).take (m - n)).length = m - n := by simp; omega
  have hdl : (l.drop m).length = l.toArray.size - m := by simp
  have inv0 : HeadInv .any l.toArray m (Array.replicate l.toArray.size false) :=
    ⟨by simp, fun j oj _ hl => (by rw [getD_replicate_false] at hl; cases hl), fun t _ ht => getD_in (by simpa using ht) (getD_replicate_false _ _)⟩
  have T : Tailed .any l.toArray m := ⟨h1, h2, h3, h4⟩
  have H := headF_lex (P := P) (w0 := w) (md := .any) (g := l.toArray.size - n) (n := n) (m := m) (r := m - n) (L := fun s a w => Region.seqB .any l.toArray (l.toArray.size - m) m s = true ∧ wpList P l.toArray Q (l.drop m) a w) T hnm (fun s a w hL => seqB_ready hL.1)
    (l.take n) 0 _ a { w with drawn := w.drawn + 1 } (fun j hj => by
      have hj' : j < n := by rw [htl] at hj; exact hj
      simp [hj']) (by simpa using htl) inv0 (by rw [htl]; exact hlex) (Below.refl _ w).drew
    (wpQB_mono (fun a' he s' hs' _ W hW => by
      subst he
      have := headF_chain (P := P) (md := .any) (ops := l.toArray) (m := m) (g := l.toArray.size - m) (Q := Q) (tail := l.drop m) ((l.drop n).take (m - n)) n s' a' W (fun j hj => by
        have hj' : j < m - n := by rw [hml] at hj; exact hj
        rw [List.getElem?_take, if_pos hj', List.getElem?_drop]; simp) (by rw [hml]; omega) (by rw [hml, show m - n + (l.toArray.size - m) = l.toArray.size - n by omega]; exact hs') (hc W hW)
      rw [hml] at this
      exact this) _ _ (wpQB_of_quiet _ _ hd hq))
  have K := headF_any (R := Q) (g := l.toArray.size - m) (fun s a' w' hL => by
    have := wpAny_of_seq (md := .any) (Q' := Q) (l.drop m) m s a' w' (fun j => by simp [List.getElem?_drop]) (by rw [hdl]; exact hL.1) hL.2
    rwa [hdl] at this) _ _ _ _ H
  rw [htl, show n + (m - n) + (l.toArray.size - m) = l.toArray.size by omega] at K
  exact wp_region_any hm K
end Go.Proofs.Ytpkaaiefnabfbaa
