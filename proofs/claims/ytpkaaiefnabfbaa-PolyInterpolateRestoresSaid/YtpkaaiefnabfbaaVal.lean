/- Walks of the value of a polynomial: a range over slices.Backward. -/
import Derived.Test.YtpkaaiefnabfbaaPs
import Derived.RangeFuncBox
import Derived.RangeFuncLeaves
import Derived.RangeFuncCalls
import Derived.Shelf.Abstract
import Derived.WalkKit
import Derived.OwnWalkIn
import Derived.TacticsInMore
import Derived.LoopNIn
import Derived.LoopIn
namespace Go.Proofs.Ytpkaaiefnabfbaa
open Go.RowKit Go.Shelf
set_option linter.unusedVariables false
attribute [local go_sem] Oper.semAt_some

/-- The k coefficients from the highest one down, with their exponents. -/
def backs (l : List GF) (k : Nat) : List (Nat × GF) := (List.range k).map fun j => (l.length - 1 - j, l.getD (l.length - 1 - j) 0)
theorem backs_succ (l : List GF) (k : Nat) : backs l (k + 1) = backs l k ++ [(l.length - 1 - k, l.getD (l.length - 1 - k) 0)] := by simp [backs, List.range_succ]
theorem backs_len (l : List GF) (k : Nat) : (backs l k).length = k := by simp [backs]
abbrev encB (x : Nat × GF) : Array Value := #[.int .i64 (x.1 : Int), .int .u8 x.2.z]

/-- What a round must keep: all below a block, and the iterator's own box. -/
def KB (n₀ Bs : Nat) (W W' : World) : Prop := Below n₀ W W' ∧ W'.heap[Bs]? = W.heap[Bs]?
theorem KB.refl (n₀ Bs : Nat) (W : World) : KB n₀ Bs W W := ⟨Below.refl _ _, rfl⟩
theorem KB.trans {n₀ Bs : Nat} {A B C : World} (h : KB n₀ Bs A B) (k : KB n₀ Bs B C) : KB n₀ Bs A C := ⟨h.1.trans k.1, k.2.trans h.2⟩
theorem KB.box {n₀ Bs : Nat} {W W' : World} (h : KB n₀ Bs W W') (o : Nat) : W'.cell? ⟨Bs, o, none⟩ = W.cell? ⟨Bs, o, none⟩ := World.cell?_of_block (a := ⟨Bs, o, none⟩) h.2
theorem KB.put {n₀ Bs : Nat} {w : World} (hn : n₀ ≤ w.heap.size) (hB : Bs < w.heap.size) (W : World) (l : Nat) (o o' : Obj) (hl : w.heap.size ≤ l) (h : W.heap[l]? = some o) (h1 : o.isCells = false) (h2 : o.isWalk = false) : KB n₀ Bs W (W.putObj l o') :=
  ⟨belowK_b hn W l o o' hl h h1 h2, (grownBy_putObj' W l o').block Bs (by have := (Array.getElem?_eq_some_iff.1 h).1; omega) (by intro e; injection e with e; omega)⟩
theorem KB.setCell {n₀ Bs : Nat} (W : World) {p : Addr} (h1 : n₀ ≤ p.block) (h2 : Bs ≠ p.block) (u : Value) : KB n₀ Bs W (W.setCell p u) :=
  ⟨(Below.refl _ _).setCell h1 u, Below.heap_setCell W p u Bs h2⟩

set_option maxRecDepth 100000 in
set_option maxHeartbeats 1000000 in
theorem backward1_in (n : Nat) (hn : 1 ≤ n) (l Bs n₀ b off cap : Nat) (zs : List GF) (hreach : zs.length ≤ 140737488351232) (hb : b < n₀) (J Jx : List (Nat × GF) → World → Prop)
    (hY : ∀ pre x W, J pre W → pre.length < zs.length → YieldAt Fence.wide (n - 1) Try.prog l (encB x) W fun e W' =>
      (e = .returned (.bool true) ∧ J (pre ++ [x]) W' ∧ KB n₀ Bs W W') ∨ (e = .returned (.bool false) ∧ Jx (pre ++ [x]) W'))
    (W : World) (hBs : W.cell? ⟨Bs, 0, none⟩ = some (.slice (some ⟨b, off, none⟩) zs.length cap)) (hc : ∀ j, j < zs.length → W.cell? ⟨b, off + j, none⟩ = some (.int .u8 (zs.getD j 0).z)) (h0 : J [] W) :
    CallsIn Fence.wide n Try.prog 56 #[.func (.yield l) #[] #[], .pointer (some ⟨Bs, 0, none⟩)] W fun e W' => (∃ v, e = .returned v) ∧
      ((∃ ys, ys = backs zs zs.length ∧ J ys W') ∨ (∃ pre, (∃ k, k ≤ zs.length ∧ pre = backs zs k) ∧ Jx pre W')) := by
  refine callsIn_of_wp Try.func56 rfl trivial ?_ rfl
  simp only [Try.ntmps56, List.size_toArray, List.length_cons, List.length_nil, Nat.reduceAdd, Nat.reduceSub, Array.replicate_succ, Array.replicate_zero, List.push_toArray, List.append_toArray, List.nil_append, List.cons_append]
  gi_wp2
  gi_loopw [3] (fun i wr => ∃ k : Nat, k ≤ zs.length ∧ i = .int .i64 ((zs.length : Int) - 1 - k) ∧ J (backs zs k) wr ∧ KB n₀ Bs W wr)
    (fun i _ => (intOf i + 1).toNat)
  case atStart => exact ⟨0, Nat.zero_le _, by simp, h0, KB.refl _ _ _⟩
  case round =>
    obtain ⟨k, hk, rfl, hJs, hnx⟩ := hrel
    have hBs' := (hnx.box 0).trans hBs
    by_cases hlt : k < zs.length
    · have hcx := (hnx.1.cell (p := ⟨b, off + (zs.length - 1 - k), none⟩) hb).trans (hc (zs.length - 1 - k) (by omega))
      obtain ⟨fn, tmps, assign, body, hy, hR⟩ := hY _ (zs.length - 1 - k, zs.getD (zs.length - 1 - k) 0) wr hJs (by rw [backs_len]; exact hlt)
      have e1 : (zs.length : Int) - 1 - k = ((zs.length - 1 - k : Nat) : Int) := by omega
      have e2 : (zs.length : Int) - 1 - k - 1 = (zs.length : Int) - 1 - (k + 1 : Nat) := by omega
      have HS := Lib.hid (backs_succ zs k)
      rw [e1]
      generalize hm : zs.length - 1 - k = m at *
      have hm2 : m < zs.length := by omega
      have hm3 : (m : Int) = zs.length - 1 - k := by omega
      have HM := Lib.hid hm3
      generalize zs.getD m 0 = x at *
      clear hm e1 e2 hm3
      unfold encB at hy
      dsimp only at hy
      gi_wp2
      refine hR.mono ?_
      rintro e W3 (⟨rfl, hJ3, hk3⟩ | ⟨rfl, hJx3⟩)
      · gi_wp2
        go_roundw
        case rel => exact ⟨k + 1, by omega, by rw [HM.out]; congr 1; omega, by rw [HS.out]; exact hJ3, hnx.trans hk3⟩
        case measure => simp [intOf]
      · gi_wp2
        refine bodyPost_ret (results_none rfl _ _ _) rfl ?_
        exact ⟨⟨_, rfl⟩, .inr ⟨_, ⟨k + 1, by omega, HS.out.symm⟩, hJx3⟩⟩
    · obtain rfl : k = zs.length := by omega
      have e1 : (zs.length : Int) - 1 - zs.length = -1 := by omega
      rw [e1]
      clear e1
      gi_wp2
      go_end0
      exact ⟨⟨_, rfl⟩, .inl ⟨_, rfl, hJs⟩⟩

set_option maxRecDepth 100000 in
set_option maxHeartbeats 1000000 in
theorem backward1_nil_in (n : Nat) (l Bs : Nat) (A : Option Addr) (c : Nat) (J : List (Nat × GF) → World → Prop) (W : World) (hBs : W.cell? ⟨Bs, 0, none⟩ = some (.slice A 0 c)) (h0 : J [] W) :
    CallsIn Fence.wide n Try.prog 56 #[.func (.yield l) #[] #[], .pointer (some ⟨Bs, 0, none⟩)] W fun e W' => (∃ v, e = .returned v) ∧ J [] W' := by
  refine callsIn_of_wp Try.func56 rfl trivial ?_ rfl
  simp only [Try.ntmps56, List.size_toArray, List.length_cons, List.length_nil, Nat.reduceAdd, Nat.reduceSub, Array.replicate_succ, Array.replicate_zero, List.push_toArray, List.append_toArray, List.nil_append, List.cons_append]
  gi_wp2
  gi_loopw [3] (fun i wr => i = .int .i64 (-1) ∧ J [] wr) (fun _ _ => 0)
  case atStart => exact ⟨rfl, h0⟩
  case round =>
    obtain ⟨rfl, hJs⟩ := hrel
    gi_wp2
    go_end0
    exact ⟨⟨_, rfl⟩, hJs⟩

set_option maxHeartbeats 1000000 in
theorem terms_any (A : Option Addr) (len cap : Nat) (w : World) :
    Calls Try.prog 53 #[.slice A len cap] w fun e w' => e = .returned (.func (.func 56) #[] #[.pointer (some ⟨w.heap.size, 0, none⟩)]) ∧ w.alloc (.cells #[.slice A len cap] 22) = w' := by
  go_enter Try.func53, Try.ntmps53
  go_wp2
  go_ret
  exact ⟨rfl, rfl⟩

/-- A slice of bytes that lies below a block. -/
def RdBB (n₀ : Nat) (W : World) (A : Option Addr) (n : Nat) (l : List GF) : Prop :=
  l.length = n ∧ (0 < n → ∃ b off, A = some ⟨b, off, none⟩ ∧ b < n₀ ∧ ∀ i, i < n → W.cell? ⟨b, off + i, none⟩ = some (.int .u8 (l.getD i 0).z))
theorem RdB.base {w : World} {A : Option Addr} {n : Nat} {l : List GF} (h : RdB w A n l) : RdBB w.heap.size w A n l := h
theorem RdBB.below {n₀ : Nat} {W W' : World} {A : Option Addr} {n : Nat} {l : List GF} (h : RdBB n₀ W A n l) (hb : Below n₀ W W') : RdBB n₀ W' A n l :=
  ⟨h.1, fun hn => by
    obtain ⟨b, off, e, hlt, hc⟩ := h.2 hn
    exact ⟨b, off, e, hlt, fun i hi => (hb.cell (p := ⟨b, off + i, none⟩) hlt).trans (hc i hi)⟩⟩
theorem back_stops (n : Nat) (hn : 1 ≤ n) (Bs n₀ : Nat) (A : Option Addr) (cap : Nat) (zs : List GF) (hreach : zs.length ≤ 140737488351232) (w : World) (hBs : Bs < w.heap.size) (hn₀ : n₀ ≤ w.heap.size)
    (hc : w.cell? ⟨Bs, 0, none⟩ = some (.slice A zs.length cap)) (hI : RdBB n₀ w A zs.length zs) :
    SeqStopsK Fence.wide n Try.prog 56 #[.pointer (some ⟨Bs, 0, none⟩)] encB (KB n₀ Bs) (fun ys => ys = backs zs zs.length)
      (fun pre => ∃ k, k ≤ zs.length ∧ pre = backs zs k) zs.length w := fun l J Jx W hW _ _ hY h0 => by
  have hc' := (hW.cell (p := ⟨Bs, 0, none⟩) hBs).trans hc
  have hI' := hI.below (hW.mono hn₀)
  rcases Nat.eq_zero_or_pos zs.length with h | h
  · have hz : zs = [] := List.eq_nil_of_length_eq_zero h
    subst hz
    exact (backward1_nil_in n l Bs A cap J W hc' h0).mono fun e W' ⟨he, hj⟩ => ⟨he, .inl ⟨_, rfl, hj⟩⟩
  · obtain ⟨b, off, rfl, hb, hcs⟩ := hI'.2 h
    exact backward1_in n hn l Bs n₀ b off cap zs hreach hb J Jx hY W hc' hcs h0

/-- The value of a polynomial. -/
def hor (x : GF) (s : GF) (p : Nat × GF) : GF := s * x + p.2
def horL (x : GF) (pre : List (Nat × GF)) : GF := pre.foldl (hor x) 0
theorem horL_snoc (x : GF) (pre : List (Nat × GF)) (p : Nat × GF) : horL x (pre ++ [p]) = horL x pre * x + p.2 := by simp [horL, hor]
def valL : List GF → GF → GF
  | [], _ => 0
  | c :: a, x => valL a x * x + c
theorem backs_cons (c : GF) (a : List GF) : backs (c :: a) (a.length + 1) = (backs a a.length).map (fun p => (p.1 + 1, p.2)) ++ [(0, c)] := by
  rw [backs_succ]
  congr 1
  · unfold backs
    rw [List.map_map]
    apply List.map_congr_left
    intro j hj
    have := List.mem_range.1 hj
    simp only [List.length_cons, Function.comp]
    rw [show a.length + 1 - 1 - j = (a.length - 1 - j) + 1 by omega]
    simp
  · simp
theorem horL_map (x : GF) (f : Nat × GF → Nat × GF) (hf : ∀ p, (f p).2 = p.2) (l : List (Nat × GF)) : horL x (l.map f) = horL x l := by
  unfold horL
  rw [List.foldl_map]
  congr 1
  funext s p
  simp [hor, hf]
theorem horL_backs (x : GF) (a : List GF) : horL x (backs a a.length) = valL a x := by
  induction a with
  | nil => rfl
  | cons c a ih => rw [List.length_cons, backs_cons, horL_snoc, horL_map x (fun p => (p.1 + 1, p.2)) (fun _ => rfl), ih]; rfl

set_option maxRecDepth 100000 in
set_option maxHeartbeats 2000000 in
theorem polyValue_in (n : Nat) (hn : 3 ≤ n) (A : Option Addr) (cap : Nat) (zs : List GF) (x : GF) (hreach : zs.length ≤ 140737488351232) (w : World) (hI : RdB w A zs.length zs) :
    CallsIn Fence.wide n Try.prog 46 #[.slice A zs.length cap, .int .u8 x.z] w fun e W' => e = .returned (.int .u8 (valL zs x).z) ∧ Below w.heap.size w W' := by
  have h1 : 1 ≤ n := by omega
  refine callsIn_of_wp_marks Try.func46 rfl trivial ?_ rfl
  simp only [Try.ntmps46, List.size_toArray, List.length_cons, List.length_nil, Nat.reduceAdd, Nat.reduceSub, Array.replicate_succ, Array.replicate_zero, List.push_toArray, List.append_toArray, List.nil_append, List.cons_append]
  have hfn : ∀ f, Fence.wide.fn f := fun _ => trivial
  have hdp : Fence.wide.depth = none := rfl
  gi_wp2_with (gi_at_call 53; refine (callsIn_wide.2 (terms_any _ _ _ _)).mono ?_; rintro e w' ⟨rfl, rfl⟩)
  have bX := Boxed.new w 5 (.int .u8 x.z)
  have bS := Boxed.new (w.alloc (.cells #[.int .u8 x.z] 5)) 5 (.int .u8 0)
  have bN := Boxed.new ((w.alloc (.cells #[.int .u8 x.z] 5)).alloc (.cells #[.int .u8 0] 5)) 22 (.slice A zs.length cap)
  rw [World.size_alloc] at bS bN
  rw [World.size_alloc] at bN
  have hB0 : Below w.heap.size w (((w.alloc (.cells #[.int .u8 x.z] 5)).alloc (.cells #[.int .u8 0] 5)).alloc (.cells #[.slice A zs.length cap] 22)) := by (repeat (first | exact Below.refl _ _ | assumption | refine Bw.al ?_ _ | refine Bw.step ?_ (by assumption) | refine Bw.drew ?_))
  refine wpIn_rangeFunc_ownG rfl h1 (gf := 56) (lb := #[.pointer (some ⟨w.heap.size + 1 + 1, 0, none⟩)]) rfl trivial (enters_of Try.func56 (by kernel_rfl) rfl)
    (back_stops (n - 1) (by omega) (w.heap.size + 1 + 1) w.heap.size A cap zs hreach _ (by simp) (by simp; omega) bN.cell (hI.base.below hB0)) KB.trans (KB.put (by simp; omega) (by simp)) (Below.refl _ _) (fun _ => rfl)
    (fun pre W => (W.cell? ⟨w.heap.size + 1, 0, none⟩ = some (.int .u8 (horL x pre).z) ∧ W.frozen? ⟨w.heap.size + 1, 0, none⟩ = false ∧ W.cell? ⟨w.heap.size, 0, none⟩ = some (.int .u8 x.z)) ∧ Below w.heap.size w W)
    (fun _ _ _ => False)
    (OwnFrom.and (Own.from (fun s A B row hs hg hr => ⟨cell_kept hs.1 hg hr, (frozen_kept hs.1 hg hr).trans hs.2.1, cell_kept hs.2.2 hg hr⟩) _) (ownFrom_below (Nat.le_refl _) (by simp; omega)))
    (fun _ _ _ _ _ hs _ _ => hs)
    ⟨⟨(bS.alloc _).cell, (bS.alloc _).frozen, ((bX.alloc _).alloc _).cell⟩, hB0⟩
    (fun p => { tmps := #[.slice A zs.length cap, .int .u8 x.z, undef, .pointer (some ⟨w.heap.size, 0, none⟩), .int .u8 0, .pointer (some ⟨w.heap.size + 1, 0, none⟩), undef, .int .u8 p.2.z, .slice A zs.length cap, .func (.func 56) #[] #[.pointer (some ⟨w.heap.size + 1 + 1, 0, none⟩)], .int .i64 (p.1 : Int), .int .u8 p.2.z, undef, undef, undef, undef, undef, undef], defers := [] }) ?assign ?body ?done ?stop
  case assign =>
    intro l p W K hK
    gi_wp2
    exact hK
  case body =>
    rintro l pre p W ⟨⟨hc, hf, hx⟩, hB⟩ _
    have z1 := GF.z_bd (horL x pre)
    have z2 := GF.z_bd x
    have z3 := GF.z_bd p.2
    have z4 := GF.z_bd (horL x pre * x)
    have m1 := gM_z (horL x pre) x
    have m2 := gA_z (horL x pre * x) p.2
    gi_wp2_with (first
      | (gi_at_call 27; refine (CallsIn.inRound l (callsIn_wide.2 (gfMul_any _ _ _ (by omega) (by omega)))).mono ?_; rintro e w' ⟨rfl, rfl⟩)
      | (gi_at_call 28; refine (CallsIn.inRound l (callsIn_wide.2 (gfAdd_any _ _ _ (by omega) (by omega)))).mono ?_; rintro e w' ⟨rfl, rfl⟩))
    exact ⟨(KeepsOthers.setCell _ _ _).from _, KB.setCell _ (by simp) (by simp) _, ⟨by rw [horL_snoc]; exact World.cell?_setCell_same' _ _ _ (by rw [hc]; rfl), by rw [World.frozen?_setCell]; exact hf, by rw [World.cell?_setCell_other _ _ _ _ (by simp)]; exact hx⟩, hB.setCell (p := ⟨w.heap.size + 1, 0, none⟩) (by simp) _⟩
  case done =>
    rintro D ys W hD rfl ⟨⟨hc, hf, hx⟩, hB⟩ hK
    rw [horL_backs] at hc
    gi_wp2
    refine ⟨by simp, .inl ⟨_, _, rfl, run_takeDeferred hK, ?_⟩⟩
    exact ⟨_, results_tmp rfl _ _ _, rfl, hB.trans (belowK_b (w := w) (Nat.le_refl _) W D _ _ (by simp at hD; omega) hK rfl rfl)⟩
  case stop =>
    rintro D c pre W _ _ h _
    exact h.elim

theorem polyVal_any (A : Option Addr) (cap : Nat) (zs : List GF) (x : GF) (w : World) (hreach : zs.length ≤ 140737488351232) (hI : RdB w A zs.length zs) :
    Calls Try.prog 46 #[.slice A zs.length cap, .int .u8 x.z] w fun e W' => e = .returned (.int .u8 (valL zs x).z) ∧ Below w.heap.size w W' :=
  callsIn_wide.1 (polyValue_in 3 (Nat.le_refl _) A cap zs x hreach w hI)
end Go.Proofs.Ytpkaaiefnabfbaa
