/- A region that draws its order within a round of a range over a function: what the plain walk shows of all its orders holds there, too. -/
import Derived.Test.YtcinfkmekkdhfaaMe
import Derived.Test.YtcinfkmekkdhfaaMb
import Derived.OrdersIn
namespace Go.Proofs.Ytcinfkmekkdhfaa
open Go.RowKit
set_option linter.unusedVariables false
section
variable {P : Program} {ops : Array Oper} {Q : Exit → Act → World → Prop} {md : Region.Mode} {l n : Nat}

def noDefer (ops : Array Oper) : Bool := ops.toList.all fun o => match o.op with | .defer _ => false | _ => true
theorem noDefer_spec (h : noDefer ops = true) {i : Nat} {o : Oper} (ho : ops[i]? = some o) : ∀ c, o.op ≠ .defer c := by
  intro c e
  have hm : o ∈ ops.toList := by
    have := Array.mem_of_getElem? ho
    simpa using this
  have := List.all_eq_true.1 h o hm
  rw [e] at this
  cases this
theorem wp_round {o : Oper} (hd : ∀ c, o.op ≠ .defer c) {a : Act} {w : World} {K : Act → World → Prop} (h : o.wp P a w K Q) : o.wpIn (Fence.wide.inRound l) n P a w K Q := by
  refine ⟨fun _ _ => trivial, ?_⟩
  rw [Oper.semAt_eq _ _ _ hd]
  unfold Oper.wp at h
  generalize (execOp a.eval o).run P w = r at *
  cases r with
  | ok x w' =>
    cases x <;> simp only [Oper.upon, Oper.uponIn] at h ⊢ <;>
      first
        | exact h
        | exact ⟨fun e => by simp [Fence.wide] at e, CallsIn.inRound l (callsIn_wide.2 h)⟩
        | (refine ⟨fun e => by simp [Fence.wide] at e, fun c cs _ => ?_⟩
           obtain ⟨v, w1, r, s⟩ := h c cs
           exact ⟨v, w1, r, stepsIn_wide.2 s⟩)
  | halt x w' => cases x <;> simp only [Oper.upon, Oper.uponIn] at h ⊢ <;> exact h
theorem wpAny_round (hd : noDefer ops = true) (hL : ¬ LetsOut Q) : ∀ (fuel : Nat) (listed : Array Bool) (a : Act) (w : World), wpAny P md ops Q fuel listed a w → wpAnyIn (Fence.wide.inRound l) n P md ops Q fuel listed a w := by
  intro fuel
  induction fuel with
  | zero => intro listed a w h; exact h
  | succ fuel ih =>
    intro listed a w h
    refine ⟨h.1, fun i hi => ?_⟩
    have h2 := wpOp_mono (fun a w => ih _ a w) (h.2 i hi)
    unfold wpOp at h2
    unfold wpOpIn
    cases ho : ops[i]? with
    | none => rw [ho] at h2; exact h2
    | some o =>
      rw [ho] at h2
      simp only at h2 ⊢
      by_cases hw : Region.wanted o (yielded ops a.tmps) = true
      · rw [if_pos hw] at h2
        rw [if_pos hw]
        rcases h2 with h2 | h2
        · exact wp_round (noDefer_spec hd ho) h2
        · exact absurd h2.2 hL
      · rw [if_neg hw] at h2
        rw [if_neg hw]
        exact ⟨fun _ _ => trivial, h2⟩
end
section
variable {P : Program} {l : List Oper}
/-- The tree of a region, within a round. -/
theorem wpIn_region_tree {id : Nat} {Q : Exit → Act → World → Prop} {a : Act} {w : World} {r n0 : Nat} (A K : List Nat) (n : Nat) (hm : P.follows .mixedOrders = true) (hd : noDefer l.toArray = true) (hL : ¬ LetsOut Q) (hB : treeB l A K = true) (hn : A.length = n)
    (h : ∀ W, Gr w W → headG P .any l.toArray A (endL P l K Q) n (Array.replicate l.toArray.size false) a W) : (Code.region id l.toArray true).wpIn (Fence.wide.inRound r) n0 P Q a w := by
  subst hn
  have hB' := hB
  simp only [treeB, Bool.and_eq_true, decide_eq_true_eq] at hB'
  obtain ⟨⟨⟨⟨h1, hA⟩, hK⟩, hlen⟩, hKn⟩ := hB'
  have H := h { w with drawn := w.drawn + 1 } (Below.refl _ w).drew
  have K' := headG_any (R := Q) (g := K.length) (fun s a' w' hL => wpAny_of_ord K s a' w' hK hL.1 hL.2) _ _ _ _ H
  rw [hlen, show l.length = l.toArray.size by simp] at K'
  exact wpIn_region_any hm (wpAny_round hd hL _ _ _ _ K')
theorem wpIn_region_mid2 {α β : Type} {fr : α → β → Act} {c : Code} {F : Fence} {n : Nat} {Q : Exit → Act → World → Prop} {a : Act} {w : World} (G : α → β → World → Prop)
    (h : ∀ QQ : Exit → Act → World → Prop, ¬ LetsOut QQ → Hid (∀ x y w', G x y w' → QQ .normal (fr x y) w') → c.wpIn F n P QQ a w) (hL : ¬ LetsOut Q) (h2 : ∀ x y w', G x y w' → Q .normal (fr x y) w') : c.wpIn F n P Q a w :=
  h Q hL (Lib.hid h2)
end
end Go.Proofs.Ytcinfkmekkdhfaa
