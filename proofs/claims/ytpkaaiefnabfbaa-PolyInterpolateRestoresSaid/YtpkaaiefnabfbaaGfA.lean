/- Walks of the package gf: what Add, Mul, power, Exp, Log, Inverse, Div and Power compute, for all arguments; and the same of the reference's functions. -/
import Derived.Test.YtpkaaiefnabfbaaRows
import Derived.Test.YtpkaaiefnabfbaaGf
import Derived.WalkKit
import Derived.WalkSpells
import Derived.WalkLawsBesides
import Derived.Laws.BitsAllLaws
import Derived.Lib.Hide
namespace Go.Proofs.Ytpkaaiefnabfbaa
open Go.RowKit

theorem natOf_i64 (a : Nat) (ha : a < 9223372036854775808) : (BitVec.ofInt 64 (a : Int)).toNat = a := by
  rw [BitVec.ofInt_natCast, BitVec.toNat_ofNat]; exact Nat.mod_eq_of_lt (by omega)
theorem xor_i64 (a b : Nat) (ha : a < 9223372036854775808) (hb : b < 9223372036854775808) : bits .xor .i64 (a : Int) (b : Int) = ((a ^^^ b : Nat) : Int) := by
  have hx : a ^^^ b < 2 ^ 63 := Nat.xor_lt_two_pow (by omega) (by omega)
  show IntKind.i64.wrap ((BitVec.ofInt 64 (a : Int) ^^^ BitVec.ofInt 64 (b : Int)).toNat : Int) = _
  rw [BitVec.toNat_xor, natOf_i64 a ha, natOf_i64 b hb, IntKind.wrap_i64]
  omega
theorem and_i64 (a b : Nat) (ha : a < 9223372036854775808) (hb : b < 9223372036854775808) : bits .and .i64 (a : Int) (b : Int) = ((a &&& b : Nat) : Int) := by
  have hx : a &&& b < 2 ^ 63 := Nat.and_lt_two_pow _ (by omega)
  show IntKind.i64.wrap ((BitVec.ofInt 64 (a : Int) &&& BitVec.ofInt 64 (b : Int)).toNat : Int) = _
  rw [BitVec.toNat_and, natOf_i64 a ha, natOf_i64 b hb, IntKind.wrap_i64]
  omega
theorem low_u8 (n : Nat) (hn : n < 256) : bits .and .u8 (n : Int) 1 = ((n % 2 : Nat) : Int) := by
  rw [show (1 : Int) = ((1 : Nat) : Int) from rfl, u8_and_nat n 1 hn (by omega), nat_mask1]
theorem low_i64 (n : Nat) (hn : n < 9223372036854775808) : bits .and .i64 (n : Int) 1 = ((n % 2 : Nat) : Int) := by
  rw [show (1 : Int) = ((1 : Nat) : Int) from rfl, and_i64 n 1 hn (by omega), nat_mask1]

/-- Sums and products over the integers, as the walks write bytes. -/
def gA (a b : Int) : Int := ((a.toNat ^^^ b.toNat : Nat) : Int)
def gM (a b : Int) : Int := ((gm a.toNat b.toNat : Nat) : Int)
theorem gA_bd {a b : Int} (ha : 0 ≤ a ∧ a < 256) (hb : 0 ≤ b ∧ b < 256) : 0 ≤ gA a b ∧ gA a b < 256 := by
  unfold gA
  have := xor_lt256 (a := a.toNat) (b := b.toNat) (by omega) (by omega)
  omega
theorem gM_bd {a b : Int} (ha : 0 ≤ a ∧ a < 256) : 0 ≤ gM a b ∧ gM a b < 256 := by
  unfold gM
  have := gm_lt (a := a.toNat) (by omega) b.toNat
  omega
theorem gA_nat (a b : Nat) : gA a b = ((a ^^^ b : Nat) : Int) := by simp [gA]
theorem gM_nat (a b : Nat) : gM a b = ((gm a b : Nat) : Int) := by simp [gM]

set_option maxHeartbeats 400000 in
theorem gfAdd_any (a b : Int) (w : World) (ha : 0 ≤ a ∧ a < 256) (hb : 0 ≤ b ∧ b < 256) :
    Calls Try.prog 28 #[.int .u8 a, .int .u8 b] w fun e w' => e = .returned (.int .u8 (gA a b)) ∧ w = w' := by
  have hx := u8_xor a b ha.1 ha.2 hb.1 hb.2
  go_enter Try.func28, Try.ntmps28
  go_wp2
  go_ret
  exact ⟨rfl, rfl⟩

theorem mulLoop_round {k bn xn sn m : Nat} (hb : 0 < bn) (hlt : bn < 2 ^ k) (hm : mulLoop k xn bn sn = m) :
    ∃ j, k = j + 1 ∧ bn / 2 < 2 ^ j ∧ mulLoop j (xt xn) (bn / 2) (if bn % 2 = 1 then sn ^^^ xn else sn) = m := by
  cases k with
  | zero => simp at hlt; omega
  | succ j => exact ⟨j, rfl, by omega, hm⟩

set_option maxHeartbeats 400000 in
theorem gfMul_any (a b : Int) (w : World) (ha : 0 ≤ a ∧ a < 256) (hb : 0 ≤ b ∧ b < 256) :
    Calls Try.prog 27 #[.int .u8 a, .int .u8 b] w fun e w' => e = .returned (.int .u8 (gM a b)) ∧ w = w' := by
  go_enter Try.func27, Try.ntmps27
  go_wp2
  go_loop [1, 5, 6] (fun b' x s => ∃ k bn xn sn : Nat, bn < 256 ∧ bn < 2 ^ k ∧ xn < 256 ∧ sn < 256 ∧ b' = .int .u8 bn ∧ x = .int .i64 xn ∧ s = .int .i64 sn ∧ mulLoop k xn bn sn = gm a.toNat b.toNat) (fun b' _ _ => (intOf b').toNat)
  case atStart =>
    refine ⟨8, b.toNat, a.toNat, 0, by omega, by omega, by omega, by omega, ?_, ?_, rfl, by unfold gm; rfl⟩
    · rw [Int.toNat_of_nonneg hb.1]
    · rw [Int.toNat_of_nonneg ha.1]
  case round =>
    obtain ⟨k, bn, xn, sn, hb1, hbn, hxn, hsn, rfl, rfl, rfl, hm⟩ := hrel
    by_cases h0 : 0 < bn
    · obtain ⟨j, rfl, hj, hr⟩ := mulLoop_round h0 hbn hm
      have HR := Lib.hid hr
      clear hr hm
      have h1 := low_u8 bn hb1
      have h2 := xor_i64 sn xn (by omega) (by omega)
      have hxt := xt_lt hxn
      have hxr := xor_lt256 hsn hxn
      have h3 : bits .xor .i64 ((xn : Int) * 2) 285 = ((((2 * xn) ^^^ 285 : Nat)) : Int) := by
        rw [show (xn : Int) * 2 = ((2 * xn : Nat) : Int) from by omega, show (285 : Int) = ((285 : Nat) : Int) from rfl, xor_i64 _ _ (by omega) (by omega)]
      by_cases hp : bn % 2 = 1
      all_goals
        by_cases hq : 127 < xn
        all_goals
          first | have hp' : ((((bn % 2 : Nat) : Int)) == 1) = true := by simp only [beq_iff_eq]; omega
                | have hp' : ((((bn % 2 : Nat) : Int)) == 1) = false := by simp only [beq_eq_false_iff_ne, ne_eq]; omega
          have HX : Hid (xt xn = if 127 < xn then (2 * xn) ^^^ 285 else 2 * xn) := rfl
          have HP := Lib.hid hp
          clear hp
          go_wp2
          go_round
          case rel =>
            refine ⟨j, bn / 2, xt xn, if bn % 2 = 1 then sn ^^^ xn else sn, by omega, hj, hxt, ?_, by go_num, ?_, ?_, HR.out⟩
            · split
              · exact hxr
              · exact hsn
            · rw [HX.out]
              first | rw [if_pos hq] | (rw [if_neg hq]; go_num)
            · first | rw [if_pos HP.out] | rw [if_neg HP.out]
          case measure => simp [intOf]; omega
    · have : bn = 0 := by omega
      subst this
      rw [mulLoop_zero] at hm
      have hb : sn < 256 := hsn
      have HM := Lib.hid hm
      clear hm
      go_wp2
      go_ret
      exact ⟨by unfold gM; rw [← HM.out]; rfl, rfl⟩

def gP (a n : Int) : Int := ((gp a.toNat n.toNat : Nat) : Int)
theorem gP_bd {a n : Int} (ha : 0 ≤ a ∧ a < 256) : 0 ≤ gP a n ∧ gP a n < 256 := by
  unfold gP
  have := gp_lt (a := a.toNat) (by omega) n.toNat
  omega
theorem gp_halve {a n : Nat} (ha : a < 256) : gp (gm a a) (n / 2) = gp a (2 * (n / 2)) := by
  rw [gp_mul ha]
  have : gp a 2 = gm a a := by rw [gp_succ, gp_one ha]
  rw [this]
theorem power_odd {a n o m : Nat} (ha : a < 256) (ho : o < 256) (h : gm o (gp a n) = m) (hp : n % 2 = 1) : gm (gm o a) (gp (gm a a) (n / 2)) = m := by
  rw [gp_halve ha, gm_assoc ho ha (gp_lt ha _), ← h]
  have e : n = 1 + 2 * (n / 2) := by omega
  have e2 : gp a n = gm a (gp a (2 * (n / 2))) := by conv => lhs; rw [e, gp_add ha, gp_one ha]
  rw [e2]
theorem power_even {a n o m : Nat} (ha : a < 256) (h : gm o (gp a n) = m) (hp : ¬ n % 2 = 1) : gm o (gp (gm a a) (n / 2)) = m := by
  have e : 2 * (n / 2) = n := by omega
  rw [gp_halve ha, e, h]

set_option maxHeartbeats 400000 in
theorem gfPower_any (a n : Int) (w : World) (ha : 0 ≤ a ∧ a < 256) (hn : 0 ≤ n ∧ n ≤ 9223372036854775807) :
    Calls Try.prog 52 #[.int .u8 a, .int .i64 n] w fun e w' => e = .returned (.int .u8 (gP a n)) ∧ w = w' := by
  go_enter Try.func52, Try.ntmps52
  go_wp2
  go_loop [0, 1, 5] (fun x m o => ∃ xn mn on : Nat, xn < 256 ∧ on < 256 ∧ mn ≤ 9223372036854775807 ∧ x = .int .u8 xn ∧ m = .int .i64 mn ∧ o = .int .u8 on ∧ gm on (gp xn mn) = gp a.toNat n.toNat) (fun _ m _ => (intOf m).toNat)
  case atStart =>
    refine ⟨a.toNat, n.toNat, 1, by omega, by omega, by omega, ?_, ?_, rfl, gm_one_left _ (gp_lt (by omega) _)⟩
    · rw [Int.toNat_of_nonneg ha.1]
    · rw [Int.toNat_of_nonneg hn.1]
  case round =>
    obtain ⟨xn, mn, on, hx, ho, hm, rfl, rfl, rfl, hr⟩ := hrel
    by_cases h0 : 0 < mn
    · have h1 := low_i64 mn (by omega)
      have hgx := gm_lt hx xn
      have hgo := gm_lt ho xn
      have k1 := gM_nat on xn
      have k2 := gM_nat xn xn
      by_cases hp : mn % 2 = 1
      · have HR := Lib.hid (power_odd hx ho hr hp)
        have hp' : ((((mn % 2 : Nat) : Int)) == 1) = true := by simp only [beq_iff_eq]; omega
        clear hr hp
        go_wp2_with (go_at_call 27; refine (gfMul_any _ _ _ (by omega) (by omega)).mono ?_; rintro e w' ⟨rfl, rfl⟩)
        go_round
        case rel => exact ⟨gm xn xn, mn / 2, gm on xn, hgx, hgo, by omega, rfl, by go_num, rfl, HR.out⟩
        case measure => simp [intOf]; omega
      · have HR := Lib.hid (power_even hx hr hp)
        have hp' : ((((mn % 2 : Nat) : Int)) == 1) = false := by simp only [beq_eq_false_iff_ne, ne_eq]; omega
        clear hr hp
        go_wp2_with (go_at_call 27; refine (gfMul_any _ _ _ (by omega) (by omega)).mono ?_; rintro e w' ⟨rfl, rfl⟩)
        go_round
        case rel => exact ⟨gm xn xn, mn / 2, on, hgx, ho, by omega, rfl, by go_num, rfl, HR.out⟩
        case measure => simp [intOf]; omega
    · have : mn = 0 := by omega
      subst this
      have HR := Lib.hid (show on = gp a.toNat n.toNat by rw [← hr, gp_zero, gm_one_right])
      clear hr
      go_wp2
      go_ret
      exact ⟨by unfold gP; rw [← HR.out]; rfl, rfl⟩

/-- The exponent modulo 255. -/
def red (n : Int) : Int := n % 255
theorem tmod_red (n : Int) : (n.tmod 255 + 255).tmod 255 = n % 255 := by
  rcases Int.lt_or_le n 0 with h | h
  · have h1 : n.tmod 255 = -((-n) % 255) := by rw [show n = -(-n) from by omega, Int.neg_tmod, Int.tmod_eq_emod_of_nonneg (by omega)]; simp
    rw [h1, Int.tmod_eq_emod_of_nonneg (by omega)]
    omega
  · rw [Int.tmod_eq_emod_of_nonneg h, Int.tmod_eq_emod_of_nonneg (by omega)]
    omega
def gE (n : Int) : Int := ((ge (n % 255).toNat : Nat) : Int)
theorem gE_bd (n : Int) : 0 ≤ gE n ∧ gE n < 256 := by
  unfold gE
  have := ge_lt (n % 255).toNat
  omega
theorem gP_two (n : Int) : gP 2 (red n) = gE n := by unfold gP gE red; rw [ge_eq]; simp
def gI (a : Int) : Int := ((gi a.toNat : Nat) : Int)
theorem gI_bd {a : Int} (ha : 0 ≤ a ∧ a < 256) : 0 ≤ gI a ∧ gI a < 256 := by
  unfold gI
  have := gi_lt (a := a.toNat) (by omega)
  omega
theorem gP_254 (a : Int) : gP a 254 = gI a := by unfold gP gI; rw [gi_eq]; rfl


theorem below_new (w : World) (o : Obj) : Below w.heap.size w (w.alloc o) := (Below.refl _ _).alloc (Nat.le_refl _) _
theorem below_new2 (w : World) (o p : Obj) : Below w.heap.size w ((w.alloc o).alloc p) := (below_new w o).alloc (below_new w o).size _
theorem Bw.al {w a : World} (h : Below w.heap.size w a) (o : Obj) : Below w.heap.size w (a.alloc o) := h.alloc h.size o
theorem Bw.step {w a b : World} (h : Below w.heap.size w a) (k : Below a.heap.size a b) : Below w.heap.size w b := h.trans (k.mono h.size)
theorem Bw.drew {w a : World} (h : Below w.heap.size w a) : Below w.heap.size w a.drew := h.drew
theorem Bw.set {w a : World} (h : Below w.heap.size w a) {p : Addr} (hp : w.heap.size ≤ p.block) (u : Value) : Below w.heap.size w (a.setCell p u) := h.setCell hp u
theorem bsz {W w1 : World} {o : Obj} (hb : Below (W.alloc o).heap.size (W.alloc o) w1) : W.heap.size < w1.heap.size := by
  have := hb.size; simp only [World.size_alloc] at this; omega
theorem bsz2 {W w1 : World} {o p : Obj} (hb : Below ((W.alloc o).alloc p).heap.size ((W.alloc o).alloc p) w1) : W.heap.size + 1 < w1.heap.size := by
  have := hb.size; simp only [World.size_alloc] at this; omega
/-- A block of two cells, as a variable of the type api.Fault has. -/
def Has (w : World) (b : Nat) (c i : Int) : Prop := b < w.heap.size ∧ w.cell? ⟨b, 0, none⟩ = some (.int .i64 c) ∧ w.cell? ⟨b, 1, none⟩ = some (.int .i64 i) ∧ w.frozen? ⟨b, 0, none⟩ = false ∧ w.frozen? ⟨b, 1, none⟩ = false
theorem Has.new (w : World) (c i : Int) (t : TypeId) : Has (w.alloc (.cells #[.int .i64 c, .int .i64 i] t)) w.heap.size c i :=
  ⟨by simp, by simp [go_sem], by simp [go_sem], by simp [go_sem], by simp [go_sem]⟩
theorem Has.below {w w' : World} {b : Nat} {c i : Int} (h : Has w b c i) (hb : Below w.heap.size w w') : Has w' b c i :=
  ⟨Nat.lt_of_lt_of_le h.1 hb.size, (hb.cell (p := ⟨b, 0, none⟩) h.1).trans h.2.1, (hb.cell (p := ⟨b, 1, none⟩) h.1).trans h.2.2.1, (hb.frozen (p := ⟨b, 0, none⟩) h.1).trans h.2.2.2.1, (hb.frozen (p := ⟨b, 1, none⟩) h.1).trans h.2.2.2.2⟩
theorem Has.al {w : World} {b : Nat} {c i : Int} (h : Has w b c i) (o : Obj) : Has (w.alloc o) b c i := h.below (below_new w o)
theorem cell_set_same {w : World} {p : Addr} {u x : Value} (h : w.cell? p = some u) : (w.setCell p x).cell? p = some x := World.cell?_setCell_same w p x h
theorem Has.set2 {w : World} {b : Nat} {c i : Int} (h : Has w b c i) (c' i' : Int) : Has ((w.setCell ⟨b, 0, none⟩ (.int .i64 c')).setCell ⟨b, 1, none⟩ (.int .i64 i')) b c' i' := by
  obtain ⟨l, c0, c1, f0, f1⟩ := h
  refine ⟨by simpa [World.setCell] using l, ?_, ?_, ?_, ?_⟩
  · rw [World.cell?_setCell_other _ _ _ _ (by simp)]; exact cell_set_same c0
  · exact cell_set_same (by rw [World.cell?_setCell_other _ _ _ _ (by simp)]; exact c1)
  · simpa using f0
  · simpa using f1
/-- The results of a function whose last one is an api.Fault in memory. -/
theorem resF1 {fn : Func} {a : Nat} (h : fn.results = #[.cell a 24]) {tmps : Array Value} {b : Nat} {c i : Int} {w : World} (ha : tmps.getD a undef = .pointer (some ⟨b, 0, none⟩)) (hh : Has w b c i) :
    (results fn tmps).run Try.prog w = .ok (.agg #[.int .i64 c, .int .i64 i]) w := by
  obtain ⟨l, c0, c1, f0, f1⟩ := hh
  simp at ha
  simp [results, h, ha, c0, c1, go_sem]
theorem resF2 {fn : Func} {a t : Nat} (h : fn.results = #[.tmp t, .cell a 24]) {tmps : Array Value} {b : Nat} {c i : Int} {w : World} (ha : tmps.getD a undef = .pointer (some ⟨b, 0, none⟩)) (hh : Has w b c i) :
    (results fn tmps).run Try.prog w = .ok (.tuple #[tmps.getD t undef, .agg #[.int .i64 c, .int .i64 i]]) w := by
  obtain ⟨l, c0, c1, f0, f1⟩ := hh
  simp at ha
  simp [results, h, ha, c0, c1, go_sem]
theorem resF3 {fn : Func} {a t u : Nat} (h : fn.results = #[.tmp t, .tmp u, .cell a 24]) {tmps : Array Value} {b : Nat} {c i : Int} {w : World} (ha : tmps.getD a undef = .pointer (some ⟨b, 0, none⟩)) (hh : Has w b c i) :
    (results fn tmps).run Try.prog w = .ok (.tuple #[tmps.getD t undef, tmps.getD u undef, .agg #[.int .i64 c, .int .i64 i]]) w := by
  obtain ⟨l, c0, c1, f0, f1⟩ := hh
  simp at ha
  simp [results, h, ha, c0, c1, go_sem]
theorem resF4 {fn : Func} {a t u v : Nat} (h : fn.results = #[.tmp t, .tmp u, .tmp v, .cell a 24]) {tmps : Array Value} {b : Nat} {c i : Int} {w : World} (ha : tmps.getD a undef = .pointer (some ⟨b, 0, none⟩)) (hh : Has w b c i) :
    (results fn tmps).run Try.prog w = .ok (.tuple #[tmps.getD t undef, tmps.getD u undef, tmps.getD v undef, .agg #[.int .i64 c, .int .i64 i]]) w := by
  obtain ⟨l, c0, c1, f0, f1⟩ := hh
  simp at ha
  simp [results, h, ha, c0, c1, go_sem]
theorem bcell {W w1 : World} (hb : Below W.heap.size W w1) : (∀ b o, b < W.heap.size → w1.cell? ⟨b, o, none⟩ = W.cell? ⟨b, o, none⟩) ∧ (∀ b o, b < W.heap.size → w1.frozen? ⟨b, o, none⟩ = W.frozen? ⟨b, o, none⟩) :=
  ⟨fun b o h => hb.cell (p := ⟨b, o, none⟩) h, fun b o h => hb.frozen (p := ⟨b, o, none⟩) h⟩

set_option maxHeartbeats 400000 in
theorem gfFault_any (c i : Int) (w : World) :
    Calls Try.prog 51 #[.int .i64 c, .int .i64 i] w fun e w' => e = .returned (.agg #[.int .i64 c, .int .i64 i]) ∧ w.alloc (.cells #[.int .i64 c, .int .i64 i] 24) = w' := by
  go_enter Try.func51, Try.ntmps51
  go_wp2
  exact bodyPost_ret (v := .agg #[.int .i64 c, .int .i64 i]) (by simp [results, Try.results51, go_sem]) rfl ⟨rfl, rfl⟩

set_option maxHeartbeats 400000 in
theorem gfInverse_zero (a : Int) (w : World) (ha : a = 0) :
    Calls Try.prog 43 #[.int .u8 a] w fun e w' => e = .returned (.tuple #[.int .u8 0, .agg #[.int .i64 26, .int .i64 (-1)]]) ∧ Below w.heap.size w w' := by
  subst ha
  go_enter Try.func43, Try.ntmps43
  go_wp2_with (go_at_call 51; refine (gfFault_any _ _ _).mono ?_; rintro e w' ⟨rfl, rfl⟩)
  exact bodyPost_ret (v := .tuple #[.int .u8 0, .agg #[.int .i64 26, .int .i64 (-1)]]) (by simp [results, Try.results43, go_sem]) rfl ⟨rfl, below_new2 _ _ _⟩
set_option maxHeartbeats 400000 in
theorem gfInverse_any (a : Int) (w : World) (ha : 0 < a ∧ a < 256) :
    Calls Try.prog 43 #[.int .u8 a] w fun e w' => e = .returned (.tuple #[.int .u8 (gI a), .agg #[.int .i64 0, .int .i64 0]]) ∧ Below w.heap.size w w' := by
  have h1 : (a == 0) = false := by simp; omega
  have h2 := gP_254 a
  go_enter Try.func43, Try.ntmps43
  go_wp2_with (go_at_call 52; refine (gfPower_any _ _ _ (by omega) (by omega)).mono ?_; rintro e w' ⟨rfl, rfl⟩)
  exact bodyPost_ret (v := .tuple #[.int .u8 (gI a), .agg #[.int .i64 0, .int .i64 0]]) (by simp [results, Try.results43, go_sem]) rfl ⟨rfl, below_new _ _⟩

set_option maxHeartbeats 400000 in
theorem gfDiv_zero (a b : Int) (w : World) (hb : b = 0) :
    Calls Try.prog 49 #[.int .u8 a, .int .u8 b] w fun e w' => e = .returned (.tuple #[.int .u8 0, .agg #[.int .i64 26, .int .i64 (-2)]]) ∧ Below w.heap.size w w' := by
  subst hb
  go_enter Try.func49, Try.ntmps49
  go_wp2_with (go_at_call 51; refine (gfFault_any _ _ _).mono ?_; rintro e w' ⟨rfl, rfl⟩)
  exact bodyPost_ret (v := .tuple #[.int .u8 0, .agg #[.int .i64 26, .int .i64 (-2)]]) (by simp [results, Try.results49, go_sem]) rfl ⟨rfl, below_new2 _ _ _⟩
set_option maxHeartbeats 400000 in
theorem gfDiv_any (a b : Int) (w : World) (ha : 0 ≤ a ∧ a < 256) (hb : 0 < b ∧ b < 256) :
    Calls Try.prog 49 #[.int .u8 a, .int .u8 b] w fun e w' => e = .returned (.tuple #[.int .u8 (gM a (gI b)), .agg #[.int .i64 0, .int .i64 0]]) ∧ Below w.heap.size w w' := by
  have h1 : (b == 0) = false := by simp; omega
  have h2 := gP_254 b
  have h3 := gI_bd (a := b) (by omega)
  go_enter Try.func49, Try.ntmps49
  go_wp2_with (first | (go_at_call 52; refine (gfPower_any _ _ _ (by omega) (by omega)).mono ?_; rintro e w' ⟨rfl, rfl⟩) | (go_at_call 27; refine (gfMul_any _ _ _ (by omega) (by omega)).mono ?_; rintro e w' ⟨rfl, rfl⟩))
  exact bodyPost_ret (v := .tuple #[.int .u8 (gM a (gI b)), .agg #[.int .i64 0, .int .i64 0]]) (by simp [results, Try.results49, go_sem]) rfl ⟨rfl, below_new _ _⟩

/-- A power with an exponent of either sign, of an element that is not 0. -/
def gQ (a n : Int) : Int := gP a (red n)
def gL (a : Int) : Int := ((gl a.toNat : Nat) : Int)
theorem gM_two (n : Nat) : gM (ge n) 2 = ((ge (n + 1) : Nat) : Int) := by
  rw [show (2 : Int) = ((2 : Nat) : Int) from rfl, gM_nat, gm_two, ge_succ]
end Go.Proofs.Ytpkaaiefnabfbaa
