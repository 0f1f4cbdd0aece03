/- Walks of Go's slices: Grow and Concat of bytes. -/
import Derived.Test.YtpkaaiefnabfbabPoF
import Derived.Lib.AppendZerosOnto
namespace Go.Proofs.Ytpkaaiefnabfbab
open Go.RowKit
set_option linter.unusedVariables false

theorem zc_size (z : Value) (hz : z.cells = #[z]) (k : Nat) : (Builtin.zeroCells z.cells k).size = k := by rw [hz]; simp [Builtin.zeroCells]
/-- append(nil, make([]byte, n)...): a new row of n zeros. -/
theorem wpList_growB (w : World) {ops : Array Oper} {rest : List Oper} {o : Oper} {a : Act} {Q : Exit → Act → World → Prop} (hgd : o.guard = none) (s x : Operand)
    (ho : o.op = .call { callee := .builtin .append, args := #[s, x], argTypes := #[22, 3] }) (n : Nat) (h0 : 0 < n) (hn : n ≤ 1099511627)
    (hs : a.eval s = .slice none 0 0) (hx : a.eval x = .int .i64 n)
    (h : ∀ (G : Nat) w', n ≤ G → G ≤ 9223372036854775807 → OwB w' w.heap.size (.slice (some ⟨w.heap.size, 0, none⟩) 0 G) [] → Below w.heap.size w w' → wpList Try.prog ops Q rest (a.put o.dst (.slice (some ⟨w.heap.size, 0, none⟩) n G)) w') : wpList Try.prog ops Q (o :: rest) a w := by
  obtain ⟨i0, hi, hz0, hsz, hb⟩ := info_parts infoB
  have hold : (Builtin.firstCells i0.size 0 (.slice none 0 0)).run Try.prog w.drew = .ok ([] : List Value).toArray w.drew := run_firstCells_none w.drew i0.size 0 0 0
  have hrz := Lib.run_append_grow_zeros (P := Try.prog) w 22 3 o.type 5 i0 (.int .u8 0) .i64 .i64 Try.underlying22 Try.underlying3 hi hz0 none 0 0 [] hold n h0 (by omega) (by omega) (by omega) (by rw [hb]; omega)
    (by rw [Nat.zero_add, nextslicecap_zero h0, hb]; omega)
  rw [Nat.zero_add] at hrz
  have hG1 : n ≤ grownCap w n 0 5 := grownCap_ge w _ _ _
  have hG2 : grownCap w n 0 5 ≤ maxLen := grownCap_le_maxLen w n 0 5 (by unfold maxLen; omega)
  refine wpList_plain hgd fun _ hK => ?_
  unfold Oper.wp execOp
  simp only [ho, resolve, invoke, builtin, Sem.run_bind, Sem.run_pure, Result.andThen_ok, List.map_toArray, List.map_cons, List.map_nil, hs, hx, hrz]
  refine hK _ _ (h _ _ hG1 (by unfold maxLen at hG2; exact hG2) ⟨rfl, .inr ⟨w.heap.size, grownCap w n 0 5, _, rfl, Nat.le_refl _, heap_alloc_new w.drew _, Nat.zero_le _, hG2, ?_, rfl⟩⟩ ((Below.refl _ w).drew.alloc (Nat.le_refl _) _))
  simp only [Array.size_append, zc_size (.int .u8 0) rfl]
  simp; omega
set_option maxHeartbeats 1000000 in
theorem growB_any (n : Nat) (w : World) (hn : n ≤ 1099511627) :
    Calls Try.prog 55 #[.slice none 0 0, .int .i64 n] w fun e w' => ∃ A c, e = .returned (.slice A 0 c) ∧ OwB w' w.heap.size (.slice A 0 c) [] ∧ Below w.heap.size w w' := by
  rcases Nat.eq_zero_or_pos n with h0 | h0
  · subst h0
    go_enter Try.func55, Try.ntmps55
    go_wp2
    go_ret
    exact ⟨none, 0, rfl, OwB.nil _ _, Below.refl _ _⟩
  · go_enter Try.func55, Try.ntmps55
    go_wp2_with (at_builtin; refine wpList_growB _ rfl (.tmp 20) (.tmp 21) rfl n h0 hn rfl rfl ?_; intro G w1 hG1 hG2 ho1 hb1)
    go_ret
    exact ⟨_, _, rfl, ho1, hb1⟩
/-- Two slices in a row. -/
def TwoAt (w : World) (g : Nat) (A B : Option Addr) (n m c d : Nat) : Prop := g < w.heap.size ∧ w.cell? ⟨g, 0, none⟩ = some (.slice A n c) ∧ w.cell? ⟨g, 1, none⟩ = some (.slice B m d)
theorem TwoAt.below {w w' : World} {g : Nat} {A B : Option Addr} {n m c d : Nat} (h : TwoAt w g A B n m c d) (hb : Below w.heap.size w w') : TwoAt w' g A B n m c d :=
  ⟨Nat.lt_of_lt_of_le h.1 hb.size, (hb.cell (p := ⟨g, 0, none⟩) h.1).trans h.2.1, (hb.cell (p := ⟨g, 1, none⟩) h.1).trans h.2.2⟩
theorem TwoAt.new (w : World) (A B : Option Addr) (n m c d : Nat) (t : TypeId) : TwoAt (w.alloc (.cells #[.slice A n c, .slice B m d] t)) w.heap.size A B n m c d := ⟨by simp, by simp [go_sem], by simp [go_sem]⟩
theorem TwoAt.mk' (w : World) (g : Nat) (A B : Option Addr) (n m c d : Nat) (t : TypeId) (hg : g = w.heap.size) : TwoAt (w.alloc (.cells #[.slice A n c, .slice B m d] t)) g A B n m c d := by subst hg; exact TwoAt.new w A B n m c d t
def catL (a b : List GF) (k : Nat) : List GF := if k = 0 then [] else if k = 1 then a else a ++ b
set_option maxRecDepth 100000 in
set_option maxHeartbeats 2000000 in
theorem concat2_any (g e : Nat) (A B : Option Addr) (n m c d : Nat) (a b : List GF) (w : World) (hT : TwoAt w g A B n m c d) (ha : RdB w A n a) (hb : RdB w B m b) (hn : n ≤ 1000000) (hm : m ≤ 1000000) :
    Calls Try.prog 36 #[.slice (some ⟨g, 0, none⟩) 2 e] w fun e w' => ∃ A' c', e = .returned (.slice A' (a ++ b).length c') ∧ OwB w' w.heap.size (.slice A' (a ++ b).length c') (a ++ b) ∧ Below w.heap.size w w' := by
  have la := ha.1
  have lb := hb.1
  subst la lb
  have HT := Lib.hid hT
  have HA := Lib.hid ha
  have HB := Lib.hid hb
  clear hT ha hb
  go_enter Try.func36, Try.ntmps36
  go_wp2
  go_loop [3, 11] (fun s i => ∃ k : Nat, k ≤ 2 ∧ i = .int .i64 k ∧ s = .int .i64 ((catL a b k).length : Nat)) (fun _ i => 2 - (intOf i).toNat)
  case atStart => exact ⟨0, Nat.zero_le _, rfl, rfl⟩
  case round =>
    obtain ⟨k, hk, rfl, rfl⟩ := hrel
    obtain ⟨h1, h2, h3⟩ := HT.out
    obtain rfl | rfl | rfl : k = 0 ∨ k = 1 ∨ k = 2 := by omega
    · rw [show (catL a b 0).length = 0 from rfl]
      go_wp2
      go_round
      case rel => first | exact ⟨1, by omega, by first | rfl | go_num, by first | rfl | go_num⟩ | ((repeat apply Exists.intro); exact ⟨⟨1, by omega, by first | rfl | go_num, by first | rfl | go_num⟩, rfl⟩)
      case measure => simp [intOf]
    · rw [show (catL a b 1).length = a.length from rfl]
      go_wp2
      go_round
      case rel => first | exact ⟨2, by omega, by first | rfl | go_num, by (show _ = Value.int .i64 ((a ++ b).length : Nat); rw [List.length_append]; go_num)⟩ | ((repeat apply Exists.intro); exact ⟨⟨2, by omega, by first | rfl | go_num, by (show _ = Value.int .i64 ((a ++ b).length : Nat); rw [List.length_append]; go_num)⟩, rfl⟩)
      case measure => simp [intOf]
    · rw [show (catL a b 2).length = a.length + b.length from List.length_append]
      have e1 : ((a.length + b.length : Nat) : Int) = (a.length : Int) + b.length := by omega
      go_wp2_with fail
      refine (growB_any (a.length + b.length) _ (by omega)).mono ?_
      rintro e w1 ⟨A1, c1, rfl, ho1, hb1⟩
      have HT1 := Lib.hid (HT.out.below hb1)
      have HA1 := Lib.hid (HA.out.below hb1)
      have HB1 := Lib.hid (HB.out.below hb1)
      clear h1 h2 h3 e1
      go_wp2
      go_loopw [6, 27] (fun v i wr => ∃ k : Nat, k ≤ 2 ∧ i = .int .i64 k ∧ OwB wr w.heap.size v (catL a b k) ∧ Below w.heap.size w wr) (fun _ i _ => 2 - (intOf i).toNat)
      case atStart => exact ⟨0, Nat.zero_le _, rfl, ho1, hb1⟩
      case round =>
        obtain ⟨k, hk, rfl, ho, hbw⟩ := hrel
        obtain ⟨h1, h2, h3⟩ := HT.out.below hbw
        have HA2 := Lib.hid (HA.out.below hbw)
        have HB2 := Lib.hid (HB.out.below hbw)
        have hsz := hbw.size
        have HO := Lib.hid ho
        clear ho
        obtain rfl | rfl | rfl : k = 0 ∨ k = 1 ∨ k = 2 := by omega
        · go_wp2_with (at_builtin; refine wpList_appB _ rfl (.tmp 31) (.tmp 32) rfl w.heap.size _ [] rfl HO.out A a.length c a rfl HA2.out (by simp; omega) hsz ?_; intro v1 w2 ho2 hg2 hat2)
          have hb2 := hbw.trans (grown_below hg2 HO.out hsz)
          rw [List.nil_append] at ho2
          go_wp2
          go_roundw
          case rel => first | exact ⟨1, by omega, by first | rfl | go_num, ho2, hb2⟩ | ((repeat apply Exists.intro); exact ⟨⟨1, by omega, by first | rfl | go_num, ho2, hb2⟩, rfl⟩)
          case measure => simp [intOf]
        · have HO1 : Hid (OwB wr w.heap.size _ a) := HO
          clear HO
          go_wp2_with (at_builtin; refine wpList_appB _ rfl (.tmp 31) (.tmp 32) rfl w.heap.size _ a rfl HO1.out B b.length d b rfl HB2.out (by omega) hsz ?_; intro v1 w2 ho2 hg2 hat2)
          have hb2 := hbw.trans (grown_below hg2 HO1.out hsz)
          go_wp2
          go_roundw
          case rel => first | exact ⟨2, by omega, by first | rfl | go_num, ho2, hb2⟩ | ((repeat apply Exists.intro); exact ⟨⟨2, by omega, by first | rfl | go_num, ho2, hb2⟩, rfl⟩)
          case measure => simp [intOf]
        · have HO1 : Hid (OwB wr w.heap.size _ (a ++ b)) := HO
          clear HO
          obtain ⟨A3, c3, hv⟩ := HO1.out.form
          subst hv
          go_wp2
          go_ret
          exact ⟨A3, c3, rfl, HO1.out, hbw⟩
end Go.Proofs.Ytpkaaiefnabfbab
