/- What is chosen, plain; the walks of lossplan.Bears where it fails, and of Choose's inner function. -/
import Derived.Test.YtmpjkdkgolmgdaaGreatLpK
namespace Go.Proofs.YtmpjkdkgolmgdaaGreat
open Go.RowKit
set_option linter.unusedVariables false

def BK (H W : Nat) (S : Int) (k : Nat) : Bool := pageB ((k / 7 : Nat) : Int) ((k % 7 : Nat) : Int) H W S
theorem best_ex (B : Nat → Bool) : ∀ n, ∃ o, BestN B n o := by
  intro n
  induction n with
  | zero => exact ⟨none, BestN.start B⟩
  | succ n ih =>
    obtain ⟨o, h⟩ := ih
    by_cases hb : B n = true
    · by_cases hp : ∀ x, o = some x → payK x < payK n
      · exact ⟨_, h.take hb hp⟩
      · have : ∃ x, o = some x ∧ payK n ≤ payK x := by
          apply Classical.byContradiction
          intro hn
          exact hp fun x hx => Classical.byContradiction fun hle => hn ⟨x, hx, by omega⟩
        exact ⟨_, h.leave fun _ => this⟩
    · exact ⟨_, h.leave fun h' => absurd h' hb⟩
/-- The least number of pages that holds the bytes. -/
def IsData (len size d : Int) : Prop := 1 ≤ d ∧ len ≤ d * size ∧ ∀ n, 1 ≤ n → n < d → n * size < len
theorem IsData.unique {len size a b : Int} (ha : IsData len size a) (hb : IsData len size b) : a = b := by
  rcases Int.lt_trichotomy a b with h | h | h
  · have := hb.2.2 a ha.1 h; have := ha.2.1; omega
  · exact h
  · have := ha.2.2 b hb.1 h; have := hb.2.1; omega
theorem mul_lt_of {n d s len : Int} (hs : 0 < s) (hd : n ≤ d) (h : d * s < len) : n * s < len := Int.lt_of_le_of_lt (Int.mul_le_mul_of_nonneg_right hd (Int.le_of_lt hs)) h
/-- The program's way to it. -/
theorem IsData.of_div {len size : Int} (hs : 0 < size) (hl : 0 ≤ len) : IsData len size (if max (len.tdiv size) 1 * size < len then max (len.tdiv size) 1 + 1 else max (len.tdiv size) 1) := by
  have hq : len.tdiv size = len / size := Int.tdiv_eq_ediv_of_nonneg hl
  have h1 := Int.mul_ediv_self_le (x := len) (k := size) (by omega)
  have h2 := Int.lt_mul_ediv_self_add (x := len) hs
  rw [hq]
  have hq0 : 0 ≤ len / size := Int.ediv_nonneg hl (by omega)
  rw [Int.mul_comm] at h1 h2
  generalize len / size = q at *
  by_cases hlt : max q 1 * size < len
  · rw [if_pos hlt]
    refine ⟨by omega, ?_, fun n hn1 hn2 => mul_lt_of hs (show n ≤ max q 1 by omega) hlt⟩
    rw [Int.add_mul, Int.one_mul]
    have : q * size ≤ max q 1 * size := Int.mul_le_mul_of_nonneg_right (by omega) (by omega)
    omega
  · rw [if_neg hlt]
    refine ⟨by omega, by omega, fun n hn1 hn2 => ?_⟩
    have h3 : n + 1 ≤ q := by omega
    have h4 : (n + 1) * size ≤ q * size := Int.mul_le_mul_of_nonneg_right h3 (by omega)
    rw [Int.add_mul, Int.one_mul] at h4
    omega
/-- What Choose returns: a plan and a fault. -/
def ChRes (H W : Nat) (S pp len : Int) (r c d p C I : Int) : Prop :=
  ∃ o, BestN (BK H W S) 63 o ∧ ((o = none ∨ 16 < pp) → (r = 0 ∧ c = 0 ∧ d = 0 ∧ p = 0) ∧ C = 14 ∧ I = -1) ∧
    ∀ k, o = some k → pp ≤ 16 → ∃ dd, IsData len (payK k) dd ∧ (48 < dd → (r = 0 ∧ c = 0 ∧ d = 0 ∧ p = 0) ∧ C = 14 ∧ I = -2) ∧ (dd ≤ 48 → (r = candR k ∧ c = candC k ∧ d = dd ∧ p = pp) ∧ C = 0 ∧ I = 0)
theorem ChRes.unique {H W : Nat} {S pp len r c d p C I r' c' d' p' C' I' : Int} (h : ChRes H W S pp len r c d p C I) (h' : ChRes H W S pp len r' c' d' p' C' I') : (r = r' ∧ c = c' ∧ d = d' ∧ p = p') ∧ C = C' ∧ I = I' := by
  obtain ⟨o, ho, h1, h2⟩ := h
  obtain ⟨o', ho', h1', h2'⟩ := h'
  obtain rfl := ho.unique ho'
  by_cases hc : o = none ∨ 16 < pp
  · obtain ⟨⟨e1, e2, e3, e4⟩, e5, e6⟩ := h1 hc
    obtain ⟨⟨f1, f2, f3, f4⟩, f5, f6⟩ := h1' hc
    exact ⟨⟨by omega, by omega, by omega, by omega⟩, by omega, by omega⟩
  · cases o with
    | none => exact absurd (.inl rfl) hc
    | some k =>
      have hp : pp ≤ 16 := by
        rcases Int.lt_or_le 16 pp with h | h
        · exact absurd (.inr h) hc
        · exact h
      obtain ⟨dd, hd, h3, h4⟩ := h2 k rfl hp
      obtain ⟨dd', hd', h3', h4'⟩ := h2' k rfl hp
      obtain rfl := hd.unique hd'
      rcases Int.lt_or_le 48 dd with h | h
      · obtain ⟨⟨e1, e2, e3, e4⟩, e5, e6⟩ := h3 h
        obtain ⟨⟨f1, f2, f3, f4⟩, f5, f6⟩ := h3' h
        exact ⟨⟨by omega, by omega, by omega, by omega⟩, by omega, by omega⟩
      · obtain ⟨⟨e1, e2, e3, e4⟩, e5, e6⟩ := h4 h
        obtain ⟨⟨f1, f2, f3, f4⟩, f5, f6⟩ := h4' h
        exact ⟨⟨by omega, by omega, by omega, by omega⟩, by omega, by omega⟩
/-- The best one so far, as its variable holds it. -/
def bR : Option Nat → Int
  | none => -1
  | some k => (candR k : Nat)
def bC : Option Nat → Int
  | none => 0
  | some k => (candC k : Nat)
theorem payK_int (k : Nat) (hk : k < 63) : ((payK k : Nat) : Int) = (24 - (candR k : Nat)) * (16 - (candC k : Nat)) := by
  unfold payK payQ
  have h1 : candR k ≤ 16 := by unfold candR; omega
  have h2 : candC k ≤ 12 := by unfold candC; omega
  rw [Int.natCast_mul, Int.ofNat_sub (by omega), Int.ofNat_sub (by omega)]
  rfl
set_option maxHeartbeats 1000000 in
theorem better_none (r c d p r0 c0 d0 p0 : Int) (b : Nat) (w : World) (hb : H4 w b r0 c0 d0 p0) (hr0 : decide (r0 < 0) = true) :
    Calls Tryz.prog 45 #[plV r c d p, .pointer (some ⟨b, 0, none⟩)] w fun e w' => e = .returned (.bool true) ∧ Below w.heap.size w w' := by
  have B0 := below_new w (.cells #[.int .i64 r, .int .i64 c, .int .i64 d, .int .i64 p] 23)
  have hb := hb.al (.cells #[.int .i64 r, .int .i64 c, .int .i64 d, .int .i64 p] 23)
  go_enter Tryz.func45, Tryz.ntmps45
  go_wp2
  generalize w.alloc (.cells #[.int .i64 r, .int .i64 c, .int .i64 d, .int .i64 p] 23) = W0 at *
  have hx1 := fun (x : Ext W0) => (hb.below x.below).2.1.1
  (refine wp_region_ext (by kernel_rfl) (by kernel_rfl) ?_; (repeat (go_big_quiet_step ((fail)))); refine wpQuiet_nil ?_; intro W5 hw'; have hW5 := ext_below hw'; clear hw')
  go_wp2
  go_ret
  exact ⟨rfl, Bw.step B0 hW5⟩
set_option maxHeartbeats 1000000 in
theorem better_some (r c d p r0 c0 d0 p0 : Int) (b : Nat) (w : World) (hb : H4 w b r0 c0 d0 p0) (hr : 0 ≤ r ∧ r ≤ 16) (hc : 0 ≤ c ∧ c ≤ 12) (hr0 : 0 ≤ r0 ∧ r0 ≤ 16) (hc0 : 0 ≤ c0 ∧ c0 ≤ 12) :
    Calls Tryz.prog 45 #[plV r c d p, .pointer (some ⟨b, 0, none⟩)] w fun e w' => e = .returned (.bool (decide ((24 - r0) * (16 - c0) < (24 - r) * (16 - c)))) ∧ Below w.heap.size w w' := by
  have B0 := below_new w (.cells #[.int .i64 r, .int .i64 c, .int .i64 d, .int .i64 p] 23)
  have hb := hb.al (.cells #[.int .i64 r, .int .i64 c, .int .i64 d, .int .i64 p] 23)
  have P0 := H4.new w r c d p 23
  have d0' : decide (r0 < 0) = false := by simp only [decide_eq_false_iff_not]; omega
  go_enter Tryz.func45, Tryz.ntmps45
  go_wp2
  generalize w.alloc (.cells #[.int .i64 r, .int .i64 c, .int .i64 d, .int .i64 p] 23) = W0 at *
  have hx1 := fun (x : Ext W0) => (hb.below x.below).2.1.1
  have hx2 := fun (x : Ext W0) => (hb.below x.below).2.1.2.1
  have hx3 := fun (x : Ext W0) => (hb.below x.below).2.1.2.2.1
  have hx4 := fun (x : Ext W0) => (hb.below x.below).2.1.2.2.2
  have hy1 := fun (x : Ext W0) => (P0.below x.below).2.1.1
  have hy2 := fun (x : Ext W0) => (P0.below x.below).2.1.2.1
  have hy3 := fun (x : Ext W0) => (P0.below x.below).2.1.2.2.1
  have hy4 := fun (x : Ext W0) => (P0.below x.below).2.1.2.2.2
  (refine wp_region_ext (by kernel_rfl) (by kernel_rfl) ?_; (repeat (go_big_quiet_step ((go_at_call 44; exact ext_call (lpPay_any _ _ _ _ _ (by omega) (by omega)))))); refine wpQuiet_nil ?_; intro W5 hw'; have hW5 := ext_below hw'; clear hw')
  go_wp2
  go_ret
  exact ⟨rfl, Bw.step B0 hW5⟩
end Go.Proofs.YtmpjkdkgolmgdaaGreat
