/- Cross pages: the iterator over the positions of pages. -/
import Derived.Test.YtcinfkmekkdhfaaCpA
import Derived.Test.YtcinfkmekkdhfaaMe
import Derived.WalkKit
import Derived.OwnWalkIn
import Derived.TacticsInMore
import Derived.LoopNIn
import Derived.LoopIn
namespace Go.Proofs.Ytcinfkmekkdhfaa
open Go.RowKit Go.Shelf
set_option linter.unusedVariables false
attribute [local go_sem] Oper.semAt_some

/-- The bytes of all pages at a position. -/
def wordP (P : List (List GF)) (i : Nat) : List GF := P.map fun p => p.getD i 0
theorem wordP_len (P : List (List GF)) (i : Nat) : (wordP P i).length = P.length := by simp [wordP]
theorem wordP_take (P : List (List GF)) (i : Nat) {j : Nat} (hj : j < P.length) : (wordP P i).take (j + 1) = (wordP P i).take j ++ [(P.getD j []).getD i 0] := by
  rw [List.take_succ_eq_append_getElem (by rw [wordP_len]; exact hj)]
  congr 2
  simp [wordP, List.getD, hj]
/-- A position, and where its word lies. -/
abbrev Pos : Type := Nat × Option Addr × Nat
abbrev encPos (m : Nat) (x : Pos) : Array Value := #[.int .i64 (x.1 : Int), .slice x.2.1 m x.2.2]
def FPos (P : List (List GF)) (n : Nat) (pre : List Pos) (x : Pos) (W0 W : World) : Prop := x.1 = pre.length ∧ pre.length < n ∧ OwB W W0.heap.size (.slice x.2.1 P.length x.2.2) (wordP P x.1) ∧ ∀ (B : Nat) (e : TypeId) (s : Nat) (u : Value) (k : Nat) (xs : List Value), W0.ownsRow B e s u k xs → W.ownsRow B e s u k xs
/-- What a round must keep: all below a block, and two boxes. -/
def KB2 (n₀ B1 B2 : Nat) (W W' : World) : Prop := Below n₀ W W' ∧ W'.heap[B1]? = W.heap[B1]? ∧ W'.heap[B2]? = W.heap[B2]?
theorem KB2.refl (n₀ B1 B2 : Nat) (W : World) : KB2 n₀ B1 B2 W W := ⟨Below.refl _ _, rfl, rfl⟩
theorem KB2.trans {n₀ B1 B2 : Nat} {A B C : World} (h : KB2 n₀ B1 B2 A B) (k : KB2 n₀ B1 B2 B C) : KB2 n₀ B1 B2 A C := ⟨h.1.trans k.1, k.2.1.trans h.2.1, k.2.2.trans h.2.2⟩
theorem KB2.of {n₀ B1 B2 : Nat} {W W' : World} (h : Below W.heap.size W W') (hn : n₀ ≤ W.heap.size) (h1 : B1 < W.heap.size) (h2 : B2 < W.heap.size) : KB2 n₀ B1 B2 W W' := ⟨h.mono hn, h.block _ h1, h.block _ h2⟩
theorem below_grown0 {W W' : World} (h : Below W.heap.size W W') : W.grownBy W' none := ⟨h.os, h.tape, h.output, h.size, fun k hk _ => h.block k hk⟩
theorem W3size {n₀ B1 B2 : Nat} {W W' : World} (h : KB2 n₀ B1 B2 W W') : W.heap.size ≤ W'.heap.size := h.1.size
set_option maxRecDepth 100000 in
set_option maxHeartbeats 2000000 in
theorem positions1_in (k0 : Nat) (hk0 : 1 ≤ k0) (l B1 B2 n₀ n m cap : Nat) (A : Option Addr) (P : List (List GF)) (hm : m ≤ 64) (hn : n ≤ 384) (J : List Pos → World → Prop) (Kp : World → World → Prop)
    (W : World) (hn0 : n₀ ≤ W.heap.size) (hB1 : B1 < W.heap.size) (hB2 : B2 < W.heap.size)
    (hJ : AbidesFrom W.heap.size J)
    (hY : ∀ pre x W0 W1, J pre W0 → J pre W1 → FPos P n pre x W0 W1 → pre.length < n → YieldAt Fence.wide (k0 - 1) Try.prog l (encPos m x) W1 fun e W' => e = .returned (.bool true) ∧ J (pre ++ [x]) W' ∧ KB2 n₀ B1 B2 W1 W')
    (h1 : W.cell? ⟨B1, 0, none⟩ = some (.int .i64 n)) (h2 : W.cell? ⟨B2, 0, none⟩ = some (.slice A m cap)) (hP : ∀ W', KB2 n₀ B1 B2 W W' → RdM W' A m P) (hl : ∀ i, i < m → (P.getD i []).length = 0 ∨ (P.getD i []).length = n) (h0 : J [] W) :
    CallsIn Fence.wide k0 Try.prog 35 #[.func (.yield l) #[] #[], .pointer (some ⟨B1, 0, none⟩), .pointer (some ⟨B2, 0, none⟩)] W fun e W' => (∃ v, e = .returned v) ∧ ∃ xs : List Pos, xs.length = n ∧ J xs W' := by
  have hPm : P.length = m := (hP W (KB2.refl _ _ _ _)).1
  have HP := Lib.hid hP
  have HY := Lib.hid hY
  have HJ := Lib.hid hJ
  clear hP hY hJ
  refine callsIn_of_wp Try.func35 rfl trivial ?_ rfl
  simp only [Try.ntmps35, List.size_toArray, List.length_cons, List.length_nil, Nat.reduceAdd, Nat.reduceSub, Array.replicate_succ, Array.replicate_zero, List.push_toArray, List.append_toArray, List.nil_append, List.cons_append]
  gi_wp2
  gi_loopw [9] (fun i wr => ∃ xs : List Pos, xs.length ≤ n ∧ i = .int .i64 (xs.length : Int) ∧ J xs wr ∧ KB2 n₀ B1 B2 W wr ∧ W.heap.size ≤ wr.heap.size)
    (fun i _ => n - (intOf i).toNat)
  case atStart => exact ⟨[], Nat.zero_le _, rfl, h0, KB2.refl _ _ _ _, Nat.le_refl _⟩
  case round =>
    obtain ⟨xs, hk, rfl, hJs, hnx, hsz⟩ := hrel
    have c2 : wr.cell? ⟨B2, 0, none⟩ = some (.slice A m cap) := (World.cell?_of_block (a := ⟨B2, 0, none⟩) hnx.2.2).trans h2
    have HM := Lib.hid (HP.out wr hnx)
    by_cases hlt : xs.length < n
    · have HNX := Lib.hid hnx
      have HJS := Lib.hid hJs
      obtain ⟨i, hi⟩ : ∃ i, xs.length = i := ⟨_, rfl⟩
      rw [hi]
      rw [hi] at hlt
      have HI := Lib.hid hi
      clear hnx hJs hi hk
      have HTL : Hid (∀ j, j < m → (wordP P i).take (j + 1) = (wordP P i).take j ++ [(P.getD j []).getD i 0]) := Lib.hid fun j hj => wordP_take P i (by rw [hPm]; exact hj)
      have hwl : (wordP P i).length = m := by rw [wordP_len, hPm]
      gi_wp2
      refine wpIn_wide.2 ?_
      obtain ⟨wo, rfl⟩ : ∃ wo : World, wo = wr := ⟨_, rfl⟩
      go_loopw [5, 14] (fun v u wr => ∃ j : Nat, j ≤ m ∧ u = .int .i64 j ∧ OwB wr wo.heap.size v ((wordP P i).take j) ∧ Below wo.heap.size wo wr) (fun _ u _ => m - (intOf u).toNat)
      case atStart => exact ⟨0, Nat.zero_le _, rfl, OwB.nil _ _, Below.refl _ _⟩
      case round =>
        obtain ⟨j, hj, rfl, ho, hb1⟩ := hrel
        by_cases hlj : j < m
        · have HO := Lib.hid ho
          have HT := Lib.hid (HTL.out j hlj)
          obtain ⟨bm, om, rfl, hbm, hcm⟩ := (HM.out.below hb1).2 (by omega)
          obtain ⟨Ai, ci, hci, hri⟩ := hcm j hlj
          have hlj2 := hl j hlj
          have hl2 : ((wordP P i).take j).length ≤ 64 := by rw [List.length_take]; omega
          have hsz2 := hb1.size
          clear ho hcm
          generalize (wordP P i).take j = Lr at *
          rcases hlj2 with h0 | h0
          · rw [h0] at hci
            have hz : (P.getD j []).getD i 0 = 0 := by
              rw [List.eq_nil_of_length_eq_zero h0]; rfl
            rw [hz] at HT
            clear hri h0 hz
            go_wp2_with (at_builtin; refine wpList_app1 wr rfl (.tmp 21) (.tmp 22) rfl wo.heap.size _ Lr HO.out rfl 0 _ rfl (by omega) hsz2 ?_; intro v1 w1 ho1 hb2)
            go_roundw
            case rel => first | exact ⟨j + 1, by omega, by go_num, by (rw [HT.out]; exact ho1), hb1.trans hb2⟩ | ((repeat apply Exists.intro); exact ⟨⟨j + 1, by omega, by go_num, by (rw [HT.out]; exact ho1), hb1.trans hb2⟩, rfl⟩)
            case measure => simp [intOf]; omega
          · rw [h0] at hci hri
            obtain ⟨bi, oi, rfl, hbi, hcc⟩ := hri.2 (by omega)
            have hcell := hcc i hlt
            have hn1 : ((n : Int) == 0) = false := by rw [beq_eq_false_iff_ne]; omega
            clear hri hcc h0
            generalize (P.getD j []).getD i 0 = y at *
            go_wp2_with (at_builtin; refine wpList_app1 wr rfl (.tmp 24) (.tmp 29) rfl wo.heap.size _ Lr HO.out rfl y _ rfl (by omega) hsz2 ?_; intro v1 w1 ho1 hb2)
            go_roundw
            case rel => first | exact ⟨j + 1, by omega, by go_num, by (rw [HT.out]; exact ho1), hb1.trans hb2⟩ | ((repeat apply Exists.intro); exact ⟨⟨j + 1, by omega, by go_num, by (rw [HT.out]; exact ho1), hb1.trans hb2⟩, rfl⟩)
            case measure => simp [intOf]; omega
        · obtain rfl : m = j := by omega
          rw [List.take_of_length_le (by rw [hwl]; exact Nat.le_refl _)] at ho
          obtain ⟨A1, c1, e1⟩ := ho.form
          rw [hwl] at e1
          subst e1
          have hJ2 : J xs wr := HJ.out xs wo wr none HJS.out (below_grown0 hb1) (fun r e => by cases e)
          obtain ⟨fn, tmps, assign, body, hy, hR⟩ := HY.out xs (i, A1, c1) wo wr HJS.out hJ2 ⟨HI.out.symm, by rw [HI.out]; exact hlt, by rw [hPm]; exact ho, fun _ _ _ _ _ _ h => own_below h hb1⟩ (by rw [HI.out]; exact hlt)
          have HKB := Lib.hid (HNX.out.trans (KB2.of hb1 (by omega) (by omega) (by omega)))
          have hsz2 := hb1.size
          unfold encPos at hy
          dsimp only at hy
          clear ho hb1 HJS HNX HM HTL hwl
          go_wp2
          gi_wp2
          refine hR.mono ?_
          rintro e W3 ⟨rfl, hJ3, hk3⟩
          gi_wp2
          go_roundw
          case rel => first | exact ⟨xs ++ [(i, A1, c1)], by (rw [List.length_append, HI.out]; exact hlt), by (rw [List.length_append, HI.out]; go_num), hJ3, HKB.out.trans hk3, by (have := hk3; have h9 := W3size hk3; omega)⟩ | ((repeat apply Exists.intro); exact ⟨⟨xs ++ [(i, A1, c1)], by (rw [List.length_append, HI.out]; exact hlt), by (rw [List.length_append, HI.out]; go_num), hJ3, HKB.out.trans hk3, by (have := hk3; have h9 := W3size hk3; omega)⟩, rfl⟩)
          case measure => simp [intOf]; omega
    · have e : xs.length = n := by omega
      gi_wp2
      go_end0
      exact ⟨⟨_, rfl⟩, xs, e, hJs⟩
end Go.Proofs.Ytcinfkmekkdhfaa
