/- The same law where some operations load what all operations keep: they may come up whenever they can, behind a write too; and within a round. -/
import Derived.Test.YtcinfkmekkdhfaaMe
import Derived.Test.YtcinfkmekkdhfaaQuR
namespace Go.Proofs.Ytcinfkmekkdhfaa
open Go.RowKit
set_option linter.unusedVariables false
section
variable {P : Program} {ops : Array Oper} {md : Region.Mode} {w0 : World} {Inv : World → Prop}

/-- Whatever order, f operations; each ends as it should and keeps Inv; then L. -/
def headV (P : Program) (md : Region.Mode) (ops : Array Oper) (Inv : World → Prop) (L : Array Bool → Act → World → Prop) : Nat → Array Bool → Act → World → Prop
  | 0, s, a, w => L s a w
  | f + 1, s, a, w => Region.ready md ops s ≠ [] ∧ ∀ i ∈ Region.ready md ops s, gOp P ops i (fun a' w' => Inv w' ∧ headV P md ops Inv L f (s.setIfInBounds i true) a' w') a w
theorem headV_any {g : Nat} {L : Array Bool → Act → World → Prop} {R : Exit → Act → World → Prop} (hL : ∀ s a w, L s a w → wpAny P md ops R g s a w) (f : Nat) :
    ∀ (s : Array Bool) (a : Act) (w : World), headV P md ops Inv L f s a w → wpAny P md ops R (f + g) s a w := by
  induction f with
  | zero => intro s a w h; rw [Nat.zero_add]; exact hL s a w h
  | succ f ih =>
    intro s a w h
    rw [show f + 1 + g = (f + g) + 1 by omega]
    exact ⟨fun h0 => absurd h0 h.1, fun i hi => gOp_wpOp (gOp_mono (fun a' w' hk => ih _ a' w' hk.2) (h.2 i hi))⟩
theorem headV_of_G {A : List Nat} {g : Nat} {L : Array Bool → Act → World → Prop} {L1 : Array Bool → Act → World → Prop} (hS : ∀ w w', Gr w w' → Inv w → Inv w') (hL : ∀ s a w, Inv w → L1 s a w → headV P md ops Inv L g s a w) (f : Nat) :
    ∀ (s : Array Bool) (a : Act) (w : World), Inv w → headG P md ops A L1 f s a w → headV P md ops Inv L (f + g) s a w := by
  induction f with
  | zero => intro s a w hI h; rw [Nat.zero_add]; exact hL s a w hI h
  | succ f ih =>
    intro s a w hI h
    rw [show f + 1 + g = (f + g) + 1 by omega]
    exact ⟨h.1, fun i hi => gOp_mono (fun a' w' hk => ⟨hS _ _ hk.1 hI, ih _ a' w' (hS _ _ hk.1 hI) (hk.2 _ (Gr.refl _))⟩) (h.2 i hi)⟩
/-- An operation that yields the same value in every world that keeps Inv. -/
def YV (P : Program) (ops : Array Oper) (Inv : World → Prop) (o : Oper) (v : Value) (a : Act) : Prop :=
  (Region.wanted o (yielded ops a.tmps) = true ∧ ∀ w, Inv w → o.quietAt P a (fun w'' => w'' = w) w v) ∨ (Region.wanted o (yielded ops a.tmps) = false ∧ v = undef)
theorem YV.gOp {i : Nat} {o : Oper} {v : Value} {a : Act} {w : World} {K : Act → World → Prop} (hi : ops[i]? = some o) (hy : YV P ops Inv o v a) (hI : Inv w) (hk : K (a.put o.dst v) w) : gOp P ops i K a w := by
  unfold Proofs.Ytcinfkmekkdhfaa.gOp
  simp only [hi]
  rcases hy with ⟨hwd, hv⟩ | ⟨hwd, rfl⟩
  · simp only [hwd, if_true]
    have h3 := hv w hI
    unfold Oper.quietAt at h3
    generalize (execOp a.eval o).run P w = r at *
    cases r with
    | ok n w' =>
      cases n <;> simp only [Oper.quietUpon] at h3 <;> simp only [gUpon]
      · obtain ⟨rfl, rfl⟩ := h3; exact hk
      · obtain ⟨rfl, rfl⟩ := h3; exact hk
      · obtain ⟨rfl, hc⟩ := h3
        exact hc.mono fun e w'' ⟨he, hg⟩ => ⟨v, he, by rw [hg]; exact hk⟩
    | halt x w' => simp only [Oper.quietUpon] at h3
  · simp only [hwd, Bool.false_eq_true, if_false]; exact hk
theorem YV.put {oi oj : Oper} {v u : Value} {a : Act} (hy : YV P ops Inv oi v a) (hap : oi.apart ops oj = true) (hsi : ∀ cs b, oi.op ≠ .select cs b) : YV P ops Inv oi v (a.put oj.dst u) := by
  obtain ⟨h1, h2, h3⟩ := Oper.apart_spec hap
  unfold YV Oper.quietAt at *
  rw [wanted_put oi a oj.dst u h3, execOp_put oi hsi a oj.dst u h3]
  exact hy
theorem headV_first {i : Nat} {oi : Oper} {v : Value} {L : Array Bool → Act → World → Prop} (hsel : Region.noSelect ops = true) (hi : ops[i]? = some oi) (hdone : ∀ s a w, L s a w → Region.ready md ops s = []) (f : Nat) :
    ∀ (s : Array Bool) (a : Act) (w : World), Inv w →
      (∀ j oj, ops[j]? = some oj → j ≠ i → s.getD j true = false → (∀ e ∈ oj.after, Region.binds md e = true → e.on ≠ i) → oi.apart ops oj = true) →
      i ∈ Region.ready md ops s → YV P ops Inv oi v a → headV P md ops Inv L f (s.setIfInBounds i true) (a.put oi.dst v) w → headV P md ops Inv L (f + 1) s a w := by
  induction f with
  | zero =>
    intro s a w hI _ hr hy H
    refine ⟨fun h => (by rw [h] at hr; cases hr), fun j hj => ?_⟩
    by_cases e : j = i
    · subst e; exact hy.gOp hi hI ⟨hI, H⟩
    · have := ready_mono hj e
      rw [hdone _ _ _ H] at this
      cases this
  | succ f ih =>
    intro s a w hI hfree hr hy H
    have hun := (mem_ready.1 hr).1
    refine ⟨fun h => (by rw [h] at hr; cases hr), fun j hj => ?_⟩
    by_cases e : j = i
    · subst e; exact hy.gOp hi hI ⟨hI, H⟩
    · obtain ⟨hjun, oj, hoj, hall⟩ := mem_ready.1 hj
      have hnot : ∀ d ∈ oj.after, Region.binds md d = true → d.on ≠ i := fun d hd hb he => by
        have h1 := hall d hd hb
        rw [he, getD_both hun] at h1
        cases h1
      have hap := hfree j oj hoj e hjun hnot
      have hsi := fun cs b => Region.noSelect_spec hsel i oi cs b hi
      have hsj := fun cs b => Region.noSelect_spec hsel j oj cs b hoj
      have h2 := H.2 j (ready_mono hj e)
      refine gOp_put hoj hap hsj (fun u w' hk => ?_) h2
      refine ⟨hk.1, ih _ _ _ hk.1 (fun k ok hk' hki hku hno => hfree k ok hk' hki ?_ hno) (ready_mono hr (Ne.symm e)) (hy.put hap hsi) ?_⟩
      · by_cases hjk : j = k
        · subst hjk; exact hjun
        · rw [getD_set_ne true hjk] at hku; exact hku
      · rw [Array.setIfInBounds_comm _ _ e]; exact hk.2
/-- The writing tail, each operation by itself. -/
def chainV (P : Program) (ops : Array Oper) (Inv : World → Prop) (Q : Act → World → Prop) : List Oper → Act → World → Prop
  | [], a, w => Q a w
  | o :: rest, a, w => wpList P ops (fun ex a' w' => ex = .normal ∧ a'.defers = a.defers ∧ Inv w' ∧ chainV P ops Inv Q rest a' w') [o] a w
end
section
variable {P : Program} {l : List Oper} {md : Region.Mode} {w0 : World} {Inv : World → Prop}
theorem headV_chain {Q : Act → World → Prop} : ∀ (K : List Nat) (s : Array Bool) (a : Act) (w : World), allIn l K = true → ordSeq md l.toArray (fun s => (Region.ready md l.toArray s).isEmpty) K s = true → chainV P l.toArray Inv Q (pick l K) a w →
    headV P md l.toArray Inv (fun s a w => Region.ready md l.toArray s = [] ∧ Q a w) K.length s a w := by
  intro K
  induction K with
  | nil => intro s a w _ hB h; exact ⟨by simpa [ordSeq] using hB, h⟩
  | cons k K ih =>
    intro s a w hin hB h
    obtain ⟨o, h0, hp, hin'⟩ := pick_cons hin
    have h0' : l.toArray[k]? = some o := by simpa using h0
    simp only [ordSeq, Bool.and_eq_true, decide_eq_true_eq] at hB
    obtain ⟨hr, hB'⟩ := hB
    rw [hp] at h
    refine ⟨fun e => (by rw [hr] at e; cases e), fun i hi => ?_⟩
    rw [hr, List.mem_singleton] at hi
    subst hi
    exact gOp_mono (fun a' w' hk' => ⟨hk'.1, ih _ a' w' hin' hB' hk'.2⟩) (chain_gOp h0' h)
def wpYV (P : Program) (ops : Array Oper) (Inv : World → Prop) (Q : Act → Prop) : List Oper → Act → Prop
  | [], a => Q a
  | o :: rest, a => ∃ v, YV P ops Inv o v a ∧ wpYV P ops Inv Q rest (a.put o.dst v)
theorem headV_lex {g : Nat} {R : Array Bool → Bool} {L : Array Bool → Act → World → Prop} (hsel : Region.noSelect l.toArray = true) (hdone : ∀ s a w, L s a w → Region.ready md l.toArray s = []) :
    ∀ (I : List Nat) (s : Array Bool) (a : Act) (w : World), Inv w → allIn l I = true → Clo md l.toArray s → ordHead md l.toArray R I s = true →
      wpYV P l.toArray Inv (fun a' => ∀ s', R s' = true → Clo md l.toArray s' → headV P md l.toArray Inv L g s' a' w) (pick l I) a → headV P md l.toArray Inv L (I.length + g) s a w := by
  intro I
  induction I with
  | nil =>
    intro s a w _ _ inv hB h
    rw [List.length_nil, Nat.zero_add]
    exact h s hB inv
  | cons i I ih =>
    intro s a w hI hin inv hB h
    obtain ⟨o, h0, hp, hin'⟩ := pick_cons hin
    have h0' : l.toArray[i]? = some o := by simpa using h0
    simp only [ordHead, Bool.and_eq_true] at hB
    obtain ⟨⟨hr, hf⟩, hB'⟩ := hB
    have hr' : i ∈ Region.ready md l.toArray s := by simpa using hr
    rw [hp] at h
    obtain ⟨v, hy, hK⟩ := h
    rw [List.length_cons, show I.length + 1 + g = (I.length + g) + 1 by omega]
    exact headV_first hsel h0' hdone (I.length + g) s a w hI (Region.free_spec h0' hf) hr' hy (ih _ _ _ hI hin' (inv.set hr') hB' hK)
theorem wpYV_of_quiet (w0 : World) (hw0 : Inv w0) {ops : Array Oper} {b : Act} : ∀ (l : List Oper) (a : Act), dstOk a.tmps.size l = true → (∀ z, Inv z → wpQuiet P ops (fun w' => ∃ x : Just z, w' = x.w) (fun a' => a' = b) l a) → wpYV P ops Inv (fun a' => a' = b) l a := by
  intro l
  induction l with
  | nil => intro a _ h; exact h w0 hw0
  | cons o l ih =>
    intro a hd h
    unfold dstOk at hd
    simp only [Bool.and_eq_true] at hd
    obtain ⟨hd1, hd2⟩ := hd
    cases hdst : o.dst with
    | none => simp only [hdst] at hd1; cases hd1
    | some d =>
      simp only [hdst, Bool.and_eq_true, decide_eq_true_eq] at hd1
      by_cases hw : Region.wanted o (yielded ops a.tmps) = true
      · have h' : ∀ z, Inv z → ∃ v, (∀ w, (∃ x : Just z, w = x.w) → o.quietAt P a (fun w' => ∃ x : Just z, w' = x.w) w v) ∧ wpQuiet P ops (fun w' => ∃ x : Just z, w' = x.w) (fun a' => a' = b) l (a.put o.dst v) := fun z hz => by
          have := h z hz
          unfold wpQuiet at this
          simp only [hw, if_true] at this
          exact this
        obtain ⟨v, _, hv⟩ := h' w0 hw0
        have hval : ∀ u z, wpQuiet P ops (fun w' => ∃ x : Just z, w' = x.w) (fun a' => a' = b) l (a.put o.dst u) → b.tmps[d]? = some u := fun u z hu => by
          rw [quiet_keeps l _ hd1.2 hu, hdst, put_at a hd1.1]
        have hsame : ∀ z, Inv z → (o.quietAt P a (fun w' => ∃ x : Just z, w' = x.w) z v) ∧ wpQuiet P ops (fun w' => ∃ x : Just z, w' = x.w) (fun a' => a' = b) l (a.put o.dst v) := fun z hz => by
          obtain ⟨u, hu1, hu2⟩ := h' z hz
          have : u = v := Option.some.inj ((hval u z hu2).symm.trans (hval v w0 hv))
          subst this
          exact ⟨hu1 z ⟨⟨z, rfl⟩, rfl⟩, hu2⟩
        refine ⟨v, .inl ⟨hw, fun w hI => ?_⟩, ih _ (by rw [put_size]; exact hd2) fun z hz => (hsame z hz).2⟩
        have h3 := (hsame w hI).1
        unfold Oper.quietAt at *
        generalize (execOp a.eval o).run P w = r at *
        cases r with
        | ok n w' =>
          cases n <;> simp only [Oper.quietUpon] at h3 ⊢ <;> try exact h3
          exact ⟨h3.1, h3.2.mono fun e w'' he => ⟨he.1, by obtain ⟨x, hx⟩ := he.2; rw [hx]; exact x.eq⟩⟩
        | halt x w' => simp only [Oper.quietUpon] at h3
      · refine ⟨undef, .inr ⟨by simpa using hw, rfl⟩, ih _ (by rw [put_size]; exact hd2) fun z hz => ?_⟩
        have := h z hz
        unfold wpQuiet at this
        simp only [hw] at this
        exact this
/-- What a region leaves in all orders: F: operations that load what all keep (Inv), I: quiet ones, J: makers in this order, K: writers. -/
theorem wpAny_held {Q : Exit → Act → World → Prop} {a b0 b : Act} {w : World} (Inv : World → Prop) (F I J K : List Nat) (hB : freeB l F I J K = true) (hI0 : Inv { w with drawn := w.drawn + 1 }) (hS : ∀ w w', Gr w w' → Inv w → Inv w') (hd0 : dstOk a.tmps.size (pick l F) = true)
    (hq0 : ∀ z, Inv z → wpQuiet P l.toArray (fun w' => ∃ x : Just z, w' = x.w) (fun a' => a' = b0) (pick l F) a) (hd : dstOk b0.tmps.size (pick l I) = true)
    (hq : ∀ z, Gr w z → wpQuiet P l.toArray (fun w' => ∃ x : Ext z, w' = x.w) (fun a' => a' = b) (pick l I) b0)
    (hc : ∀ W, Gr w W → chainJ P l.toArray (chainV P l.toArray Inv (fun a' w' => Q .normal a' w') (pick l K)) (pick l J) b W) : wpAny P .any l.toArray Q l.toArray.size (Array.replicate l.toArray.size false) a { w with drawn := w.drawn + 1 } := by
  simp only [freeB, Bool.and_eq_true, decide_eq_true_eq] at hB
  obtain ⟨⟨⟨⟨⟨⟨⟨⟨h1, hA⟩, hF⟩, hI⟩, hJ⟩, hK⟩, hlen⟩, hKn⟩, hord⟩ := hB
  have hdone : ∀ s, ordSeq .any l.toArray (fun s => (Region.ready .any l.toArray s).isEmpty) K s = true → ∀ j ∈ Region.ready .any l.toArray s, j ∉ I ++ J := fun s hs j hj => by
    have hjK := ordSeq_ready (fun s hs => by simpa using hs) K s hs j hj
    have := List.all_eq_true.1 hKn j hjK
    simpa using this
  have H := headV_lex (P := P) (md := .any) (l := l) (Inv := Inv) (g := I.length + J.length + K.length) (L := fun s a w => Region.ready .any l.toArray s = [] ∧ Q .normal a w)
    (R := fun s => F.all (fun f => s.getD f false) && ordHead .any l.toArray (ordSeq .any l.toArray (ordSeq .any l.toArray (fun s => (Region.ready .any l.toArray s).isEmpty) K) J) I s) h1 (fun s a w hL => hL.1) F _ a { w with drawn := w.drawn + 1 } hI0 hF Clo.start hord
    (by
      have hY := wpYV_of_quiet (P := P) _ hI0 (ops := l.toArray) (b := b0) _ _ hd0 hq0
      revert hY
      generalize pick l F = lF
      generalize a = a0
      intro hY
      induction lF generalizing a0 with
      | nil =>
        intro s' hs' hcl
        have he : a0 = b0 := hY
        subst he
        simp only [Bool.and_eq_true] at hs'
        have hFs : ∀ f ∈ F, s'.getD f false = true := fun f hf => List.all_eq_true.1 hs'.1 f hf
        have G := headG_lexF (P := P) (w0 := w) (md := .any) (A := I ++ J) (F := F) (r := J.length) (R := ordSeq .any l.toArray (ordSeq .any l.toArray (fun s => (Region.ready .any l.toArray s).isEmpty) K) J)
          (L := fun s a w => ordSeq .any l.toArray (fun s => (Region.ready .any l.toArray s).isEmpty) K s = true ∧ chainV P l.toArray Inv (fun a' w' => Q .normal a' w') (pick l K) a w) h1 hA (fun s a w hL => hdone s hL.1)
          I s' a0 { w with drawn := w.drawn + 1 } hI (fun i hi => List.mem_append_left _ hi) hcl hFs hs'.2 (Below.refl _ w).drew
          (wpQB_mono (fun a' he s'' hs'' _ W hW => by
            subst he
            exact headG_chainJ J s'' a' W hJ hs'' (hc W hW)) _ _ (wpQB_of_quiet _ _ hd hq))
        exact headV_of_G hS (fun s a w _ hL => headV_chain K s a w hK hL.1 hL.2) _ _ _ _ hI0 G
      | cons o lF ih =>
        obtain ⟨v, hy, hr⟩ := hY
        exact ⟨v, hy, ih _ hr⟩)
  have K' := headV_any (R := Q) (g := 0) (fun s a' w' hL => (⟨hL.1, hL.2⟩ : wpAny P .any l.toArray Q 0 s a' w')) _ _ _ _ H
  rw [Nat.add_zero, hlen, show l.length = l.toArray.size by simp] at K'
  exact K'
theorem wpIn_region_held {id : Nat} {Q : Exit → Act → World → Prop} {a b0 b : Act} {w : World} {r n0 : Nat} (Inv : World → Prop) (F I J K : List Nat) (hm : P.follows .mixedOrders = true) (hdf : noDefer l.toArray = true) (hL : ¬ LetsOut Q) (hB : freeB l F I J K = true) (hI0 : Inv { w with drawn := w.drawn + 1 }) (hS : ∀ w w', Gr w w' → Inv w → Inv w') (hd0 : dstOk a.tmps.size (pick l F) = true)
    (hq0 : ∀ z, Inv z → wpQuiet P l.toArray (fun w' => ∃ x : Just z, w' = x.w) (fun a' => a' = b0) (pick l F) a) (hd : dstOk b0.tmps.size (pick l I) = true)
    (hq : ∀ z, Gr w z → wpQuiet P l.toArray (fun w' => ∃ x : Ext z, w' = x.w) (fun a' => a' = b) (pick l I) b0)
    (hc : ∀ W, Gr w W → chainJ P l.toArray (chainV P l.toArray Inv (fun a' w' => Q .normal a' w') (pick l K)) (pick l J) b W) : (Code.region id l.toArray true).wpIn (Fence.wide.inRound r) n0 P Q a w :=
  wpIn_region_any hm (wpAny_round hdf hL _ _ _ _ (wpAny_held Inv F I J K hB hI0 hS hd0 hq0 hd hq hc))
end
end Go.Proofs.Ytcinfkmekkdhfaa
