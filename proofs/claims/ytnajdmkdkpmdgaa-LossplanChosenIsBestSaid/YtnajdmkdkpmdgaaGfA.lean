/- Walks of the package gf: what Add, Mul, power, Exp, Log, Inverse, Div and Power compute, for all arguments; and the same of the reference's functions. -/
import Derived.Test.YtnajdmkdkpmdgaaRows
import Derived.Test.YtnajdmkdkpmdgaaGf
import Derived.WalkKit
import Derived.WalkSpells
import Derived.WalkLawsBesides
import Derived.Laws.BitsAllLaws
import Derived.Lib.Hide
namespace Go.Proofs.Ytnajdmkdkpmdgaa
open Go.RowKit

theorem natOf_i64 (a : Nat) (ha : a < 9223372036854775808) : (BitVec.ofInt 64 (a : Int)).toNat = a := by
  rw [BitVec.ofInt_natCast, BitVec.toNat_ofNat]; exact Nat.mod_eq_of_lt (by omega)
theorem xor_i64 (a b : Nat) (ha : a < 9223372036854775808) (hb : b < 9223372036854775808) : bits .xor .i64 (a : Int) (b : Int) = ((a ^^^ b : Nat) : Int) := by
  have hx : a ^^^ b < 2 ^ 63 := Nat.xor_lt_two_pow (by omega) (by omega)
  show IntKind.i64.wrap ((BitVec.ofInt 64 (a : Int) ^^^ BitVec.ofInt 64 (b : Int)).toNat : Int) = _
  rw [BitVec.toNat_xor, natOf_i64 a ha, natOf_i64 b hb, IntKind.wrap_i64]
  omega
theorem and_i64 (a b : Nat) (ha : a < 9223372036854775808) (hb : b < 9223372036854775808) : bits .and .i64 (a : Int) (b : Int) = ((a &&& b : Nat) : Int) := by
  have hx : a &&& b < 2 ^ 63 := Nat.and_lt_two_pow _ (by omega)
  show IntKind.i64.wrap ((BitVec.ofInt 64 (a : Int) &&& BitVec.ofInt 64 (b : Int)).toNat : Int) = _
  rw [BitVec.toNat_and, natOf_i64 a ha, natOf_i64 b hb, IntKind.wrap_i64]
  omega
theorem low_u8 (n : Nat) (hn : n < 256) : bits .and .u8 (n : Int) 1 = ((n % 2 : Nat) : Int) := by
  rw [show (1 : Int) = ((1 : Nat) : Int) from rfl, u8_and_nat n 1 hn (by omega), nat_mask1]
theorem low_i64 (n : Nat) (hn : n < 9223372036854775808) : bits .and .i64 (n : Int) 1 = ((n % 2 : Nat) : Int) := by
  rw [show (1 : Int) = ((1 : Nat) : Int) from rfl, and_i64 n 1 hn (by omega), nat_mask1]

/-- Sums and products over the integers, as the walks write bytes. -/
def gA (a b : Int) : Int := ((a.toNat ^^^ b.toNat : Nat) : Int)
def gM (a b : Int) : Int := ((gm a.toNat b.toNat : Nat) : Int)
theorem gA_bd {a b : Int} (ha : 0 ≤ a ∧ a < 256) (hb : 0 ≤ b ∧ b < 256) : 0 ≤ gA a b ∧ gA a b < 256 := by
  unfold gA
  have := xor_lt256 (a := a.toNat) (b := b.toNat) (by omega) (by omega)
  omega
theorem gM_bd {a b : Int} (ha : 0 ≤ a ∧ a < 256) : 0 ≤ gM a b ∧ gM a b < 256 := by
  unfold gM
  have := gm_lt (a := a.toNat) (by omega) b.toNat
  omega
theorem gA_nat (a b : Nat) : gA a b = ((a ^^^ b : Nat) : Int) := by simp [gA]
theorem gM_nat (a b : Nat) : gM a b = ((gm a b : Nat) : Int) := by simp [gM]

theorem mulLoop_round {k bn xn sn m : Nat} (hb : 0 < bn) (hlt : bn < 2 ^ k) (hm : mulLoop k xn bn sn = m) :
    ∃ j, k = j + 1 ∧ bn / 2 < 2 ^ j ∧ mulLoop j (xt xn) (bn / 2) (if bn % 2 = 1 then sn ^^^ xn else sn) = m := by
  cases k with
  | zero => simp at hlt; omega
  | succ j => exact ⟨j, rfl, by omega, hm⟩

def gP (a n : Int) : Int := ((gp a.toNat n.toNat : Nat) : Int)
theorem gP_bd {a n : Int} (ha : 0 ≤ a ∧ a < 256) : 0 ≤ gP a n ∧ gP a n < 256 := by
  unfold gP
  have := gp_lt (a := a.toNat) (by omega) n.toNat
  omega
theorem gp_halve {a n : Nat} (ha : a < 256) : gp (gm a a) (n / 2) = gp a (2 * (n / 2)) := by
  rw [gp_mul ha]
  have : gp a 2 = gm a a := by rw [gp_succ, gp_one ha]
  rw [this]
theorem power_odd {a n o m : Nat} (ha : a < 256) (ho : o < 256) (h : gm o (gp a n) = m) (hp : n % 2 = 1) : gm (gm o a) (gp (gm a a) (n / 2)) = m := by
  rw [gp_halve ha, gm_assoc ho ha (gp_lt ha _), ← h]
  have e : n = 1 + 2 * (n / 2) := by omega
  have e2 : gp a n = gm a (gp a (2 * (n / 2))) := by conv => lhs; rw [e, gp_add ha, gp_one ha]
  rw [e2]
theorem power_even {a n o m : Nat} (ha : a < 256) (h : gm o (gp a n) = m) (hp : ¬ n % 2 = 1) : gm o (gp (gm a a) (n / 2)) = m := by
  have e : 2 * (n / 2) = n := by omega
  rw [gp_halve ha, e, h]

/-- The exponent modulo 255. -/
def red (n : Int) : Int := n % 255
theorem tmod_red (n : Int) : (n.tmod 255 + 255).tmod 255 = n % 255 := by
  rcases Int.lt_or_le n 0 with h | h
  · have h1 : n.tmod 255 = -((-n) % 255) := by rw [show n = -(-n) from by omega, Int.neg_tmod, Int.tmod_eq_emod_of_nonneg (by omega)]; simp
    rw [h1, Int.tmod_eq_emod_of_nonneg (by omega)]
    omega
  · rw [Int.tmod_eq_emod_of_nonneg h, Int.tmod_eq_emod_of_nonneg (by omega)]
    omega
def gE (n : Int) : Int := ((ge (n % 255).toNat : Nat) : Int)
theorem gE_bd (n : Int) : 0 ≤ gE n ∧ gE n < 256 := by
  unfold gE
  have := ge_lt (n % 255).toNat
  omega
theorem gP_two (n : Int) : gP 2 (red n) = gE n := by unfold gP gE red; rw [ge_eq]; simp
def gI (a : Int) : Int := ((gi a.toNat : Nat) : Int)
theorem gI_bd {a : Int} (ha : 0 ≤ a ∧ a < 256) : 0 ≤ gI a ∧ gI a < 256 := by
  unfold gI
  have := gi_lt (a := a.toNat) (by omega)
  omega
theorem gP_254 (a : Int) : gP a 254 = gI a := by unfold gP gI; rw [gi_eq]; rfl


theorem below_new (w : World) (o : Obj) : Below w.heap.size w (w.alloc o) := (Below.refl _ _).alloc (Nat.le_refl _) _
theorem below_new2 (w : World) (o p : Obj) : Below w.heap.size w ((w.alloc o).alloc p) := (below_new w o).alloc (below_new w o).size _
theorem Bw.al {w a : World} (h : Below w.heap.size w a) (o : Obj) : Below w.heap.size w (a.alloc o) := h.alloc h.size o
theorem Bw.step {w a b : World} (h : Below w.heap.size w a) (k : Below a.heap.size a b) : Below w.heap.size w b := h.trans (k.mono h.size)
theorem Bw.drew {w a : World} (h : Below w.heap.size w a) : Below w.heap.size w a.drew := h.drew
theorem Bw.set {w a : World} (h : Below w.heap.size w a) {p : Addr} (hp : w.heap.size ≤ p.block) (u : Value) : Below w.heap.size w (a.setCell p u) := h.setCell hp u
theorem bsz {W w1 : World} {o : Obj} (hb : Below (W.alloc o).heap.size (W.alloc o) w1) : W.heap.size < w1.heap.size := by
  have := hb.size; simp only [World.size_alloc] at this; omega
theorem bsz2 {W w1 : World} {o p : Obj} (hb : Below ((W.alloc o).alloc p).heap.size ((W.alloc o).alloc p) w1) : W.heap.size + 1 < w1.heap.size := by
  have := hb.size; simp only [World.size_alloc] at this; omega
/-- A block of two cells, as a variable of the type api.Fault has. -/
def Has (w : World) (b : Nat) (c i : Int) : Prop := b < w.heap.size ∧ w.cell? ⟨b, 0, none⟩ = some (.int .i64 c) ∧ w.cell? ⟨b, 1, none⟩ = some (.int .i64 i) ∧ w.frozen? ⟨b, 0, none⟩ = false ∧ w.frozen? ⟨b, 1, none⟩ = false
theorem Has.new (w : World) (c i : Int) (t : TypeId) : Has (w.alloc (.cells #[.int .i64 c, .int .i64 i] t)) w.heap.size c i :=
  ⟨by simp, by simp [go_sem], by simp [go_sem], by simp [go_sem], by simp [go_sem]⟩
theorem Has.below {w w' : World} {b : Nat} {c i : Int} (h : Has w b c i) (hb : Below w.heap.size w w') : Has w' b c i :=
  ⟨Nat.lt_of_lt_of_le h.1 hb.size, (hb.cell (p := ⟨b, 0, none⟩) h.1).trans h.2.1, (hb.cell (p := ⟨b, 1, none⟩) h.1).trans h.2.2.1, (hb.frozen (p := ⟨b, 0, none⟩) h.1).trans h.2.2.2.1, (hb.frozen (p := ⟨b, 1, none⟩) h.1).trans h.2.2.2.2⟩
theorem Has.al {w : World} {b : Nat} {c i : Int} (h : Has w b c i) (o : Obj) : Has (w.alloc o) b c i := h.below (below_new w o)
theorem cell_set_same {w : World} {p : Addr} {u x : Value} (h : w.cell? p = some u) : (w.setCell p x).cell? p = some x := World.cell?_setCell_same w p x h
theorem Has.set2 {w : World} {b : Nat} {c i : Int} (h : Has w b c i) (c' i' : Int) : Has ((w.setCell ⟨b, 0, none⟩ (.int .i64 c')).setCell ⟨b, 1, none⟩ (.int .i64 i')) b c' i' := by
  obtain ⟨l, c0, c1, f0, f1⟩ := h
  refine ⟨by simpa [World.setCell] using l, ?_, ?_, ?_, ?_⟩
  · rw [World.cell?_setCell_other _ _ _ _ (by simp)]; exact cell_set_same c0
  · exact cell_set_same (by rw [World.cell?_setCell_other _ _ _ _ (by simp)]; exact c1)
  · simpa using f0
  · simpa using f1
/-- The results of a function whose last one is an api.Fault in memory. -/
theorem resF1 {fn : Func} {a : Nat} (h : fn.results = #[.cell a 27]) {tmps : Array Value} {b : Nat} {c i : Int} {w : World} (ha : tmps.getD a undef = .pointer (some ⟨b, 0, none⟩)) (hh : Has w b c i) :
    (results fn tmps).run Try.prog w = .ok (.agg #[.int .i64 c, .int .i64 i]) w := by
  obtain ⟨l, c0, c1, f0, f1⟩ := hh
  simp at ha
  simp [results, h, ha, c0, c1, go_sem]
theorem resF2 {fn : Func} {a t : Nat} (h : fn.results = #[.tmp t, .cell a 27]) {tmps : Array Value} {b : Nat} {c i : Int} {w : World} (ha : tmps.getD a undef = .pointer (some ⟨b, 0, none⟩)) (hh : Has w b c i) :
    (results fn tmps).run Try.prog w = .ok (.tuple #[tmps.getD t undef, .agg #[.int .i64 c, .int .i64 i]]) w := by
  obtain ⟨l, c0, c1, f0, f1⟩ := hh
  simp at ha
  simp [results, h, ha, c0, c1, go_sem]
theorem resF3 {fn : Func} {a t u : Nat} (h : fn.results = #[.tmp t, .tmp u, .cell a 27]) {tmps : Array Value} {b : Nat} {c i : Int} {w : World} (ha : tmps.getD a undef = .pointer (some ⟨b, 0, none⟩)) (hh : Has w b c i) :
    (results fn tmps).run Try.prog w = .ok (.tuple #[tmps.getD t undef, tmps.getD u undef, .agg #[.int .i64 c, .int .i64 i]]) w := by
  obtain ⟨l, c0, c1, f0, f1⟩ := hh
  simp at ha
  simp [results, h, ha, c0, c1, go_sem]
theorem resF4 {fn : Func} {a t u v : Nat} (h : fn.results = #[.tmp t, .tmp u, .tmp v, .cell a 27]) {tmps : Array Value} {b : Nat} {c i : Int} {w : World} (ha : tmps.getD a undef = .pointer (some ⟨b, 0, none⟩)) (hh : Has w b c i) :
    (results fn tmps).run Try.prog w = .ok (.tuple #[tmps.getD t undef, tmps.getD u undef, tmps.getD v undef, .agg #[.int .i64 c, .int .i64 i]]) w := by
  obtain ⟨l, c0, c1, f0, f1⟩ := hh
  simp at ha
  simp [results, h, ha, c0, c1, go_sem]
theorem bcell {W w1 : World} (hb : Below W.heap.size W w1) : (∀ b o, b < W.heap.size → w1.cell? ⟨b, o, none⟩ = W.cell? ⟨b, o, none⟩) ∧ (∀ b o, b < W.heap.size → w1.frozen? ⟨b, o, none⟩ = W.frozen? ⟨b, o, none⟩) :=
  ⟨fun b o h => hb.cell (p := ⟨b, o, none⟩) h, fun b o h => hb.frozen (p := ⟨b, o, none⟩) h⟩

/-- A power with an exponent of either sign, of an element that is not 0. -/
def gQ (a n : Int) : Int := gP a (red n)
def gL (a : Int) : Int := ((gl a.toNat : Nat) : Int)
theorem gM_two (n : Nat) : gM (ge n) 2 = ((ge (n + 1) : Nat) : Int) := by
  rw [show (2 : Int) = ((2 : Nat) : Int) from rfl, gM_nat, gm_two, ge_succ]
end Go.Proofs.Ytnajdmkdkpmdgaa
