/- Interpolation: plain laws, and the walk of poly.Interpolate. -/
import Derived.Test.YtpkaaiefnabfbaaPoN
import Derived.Test.YtpkaaiefnabfbaaQuT
namespace Go.Proofs.Ytpkaaiefnabfbaa
open Go.RowKit
set_option linter.unusedVariables false

/-- p takes the first i values. -/
def IntU (xs ys : List GF) (i : Nat) (p : List GF) : Prop := Tr p ∧ p.length ≤ i ∧ ∀ k, k < i → valL p (xs.getD k 0) = ys.getD k 0
/-- z is 0 at the first i places, and nowhere else. -/
def ZerU (xs : List GF) (i : Nat) (z : List GF) : Prop := z.length ≤ i + 1 ∧ (∀ k, k < i → valL z (xs.getD k 0) = 0) ∧ ∀ x, x ∉ xs.take i → valL z x ≠ 0
theorem IntU.zero (xs ys : List GF) : IntU xs ys 0 [] := ⟨.inl rfl, Nat.zero_le _, fun k hk => by omega⟩
theorem valL_one (x : GF) : valL [1] x = 1 := by show 0 * x + 1 = 1; rw [GF.zero_mul, GF.zero_add]
theorem valL_const (c x : GF) : valL [c] x = c := by show 0 * x + c = c; rw [GF.zero_mul, GF.zero_add]
theorem ZerU.zero (xs : List GF) : ZerU xs 0 [1] := ⟨by simp, fun k hk => by omega, fun x _ => by rw [valL_one]; exact GF.one_ne⟩
theorem len_le_degB {l : List GF} {n : Nat} (ht : Tr l) (h : degB n (cf l)) : l.length ≤ n := Tr_len ht h
theorem ZerU.step {xs z : List GF} {i : Nat} (hi : i < xs.length) (h : ZerU xs i z) : ZerU xs (i + 1) (prodP z [xs.getD i 0, 1]) := by
  obtain ⟨h1, h2, h3⟩ := h
  refine ⟨?_, fun k hk => ?_, fun x hx => ?_⟩
  · refine len_le_degB (Tr_ofF _ _) ?_
    show degB _ (cf (prodP z [xs.getD i 0, 1]))
    rw [cf_prodP]
    exact degB_cv (m := i) (n := 1) (degB_mono (degB_cf z) h1) (degB_cf [xs.getD i 0, 1])
  · rw [valL_prod, valL_lin]
    by_cases e : k = i
    · subst e; rw [GF.add_self, GF.mul_zero]
    · rw [h2 k (by omega), GF.zero_mul]
  · rw [valL_prod, valL_lin]
    rw [trim_take hi] at hx
    simp only [List.mem_append, List.mem_singleton, not_or] at hx
    intro h0
    rcases GF.mul_eq_zero h0 with h | h
    · exact h3 x hx.1 h
    · exact hx.2 (GF.eq_of_add h)
theorem IntU.step {xs ys p z : List GF} {i : Nat} (hi : i < xs.length) (hn : xs.getD i 0 ∉ xs.take i) (hp : IntU xs ys i p) (hz : ZerU xs i z) :
    IntU xs ys (i + 1) (sumP p (prodP z [(ys.getD i 0 + valL p (xs.getD i 0)) * (valL z (xs.getD i 0)).inv])) := by
  obtain ⟨p1, p2, p3⟩ := hp
  obtain ⟨z1, z2, z3⟩ := hz
  refine ⟨Tr_ofF _ _, ?_, fun k hk => ?_⟩
  · refine len_le_degB (Tr_ofF _ _) ?_
    show degB _ (cf (sumP p _))
    rw [cf_sumP, cf_prodP, cv_const]
    exact degB_mono (degB_padd (degB_cf p) (degB_psc _ (degB_cf z))) (by omega)
  · rw [valL_sum, valL_prod, valL_const]
    by_cases e : k = i
    · subst e
      have hne := z3 _ hn
      generalize valL z (xs.getD k 0) = u at *
      generalize valL p (xs.getD k 0) = v
      generalize ys.getD k 0 = y
      rw [GF.mul_left_comm, GF.mul_inv hne, GF.mul_one, GF.add_comm y v, ← GF.add_assoc, GF.add_self, GF.zero_add]
    · rw [p3 k (by omega), z2 k (by omega), GF.zero_mul, GF.add_zero]
/-- No element occurs twice. -/
theorem nodup_of {xs : List GF} (h : ∀ i, i < xs.length → xs.getD i 0 ∉ xs.take i) : xs.Nodup := by
  unfold List.Nodup
  rw [List.pairwise_iff_getElem]
  intro i j hi hj hij e2
  apply h j hj
  have e3 : xs.getD j 0 = xs[j] := by simp [List.getD, List.getElem?_eq_getElem hj]
  rw [e3, ← e2]
  exact List.mem_take_iff_getElem.2 ⟨i, by omega, rfl⟩
theorem IntU_unique {xs ys p q : List GF} (hnd : xs.Nodup) (hp : IntU xs ys xs.length p) (hq : IntU xs ys xs.length q) : p = q := by
  refine inter_unique hp.1 hq.1 hp.2.1 hq.2.1 hnd fun x hx => ?_
  obtain ⟨k, hk, rfl⟩ := List.mem_iff_getElem.1 hx
  have e : xs.getD k 0 = xs[k] := by simp [List.getD, List.getElem?_eq_getElem hk]
  rw [← e, hp.2.2 k hk, hq.2.2 k hk]

/-! ### slices.Contains of bytes -/
theorem mem_at {l : List GF} {x : GF} (h : x ∈ l) : ∃ j, j < l.length ∧ l.getD j 0 = x ∧ ∀ i, i < j → l.getD i 0 ≠ x := by
  induction l with
  | nil => simp at h
  | cons y l ih =>
    by_cases e : y = x
    · exact ⟨0, by simp, by simpa using e, fun i hi => by omega⟩
    · have hx : x ∈ l := by
        rcases List.mem_cons.1 h with h | h
        · exact absurd h.symm e
        · exact h
      obtain ⟨j, h1, h2, h3⟩ := ih hx
      refine ⟨j + 1, by simp; omega, by simpa using h2, fun i hi => ?_⟩
      cases i with
      | zero => simpa using e
      | succ i => simpa using h3 i (by omega)
theorem not_mem_at {l : List GF} {x : GF} (h : x ∉ l) (i : Nat) (hi : i < l.length) : l.getD i 0 ≠ x := by
  intro e; apply h; rw [← e]; simp [List.getD, List.getElem?_eq_getElem hi]
set_option maxHeartbeats 1000000 in
theorem indexB_in (A : Option Addr) (n c : Nat) (l : List GF) (x : GF) (j : Nat) (w : World) (hl : RdB w A n l) (hn : n ≤ 1099511627) (hj : j < n) (hx : l.getD j 0 = x) (hb : ∀ i, i < j → l.getD i 0 ≠ x) :
    Calls Try.prog 54 #[.slice A n c, .int .u8 x.z] w fun e w' => e = .returned (.int .i64 j) ∧ w = w' := by
  have HL := Lib.hid hl
  have HX := Lib.hid hx
  have HB := Lib.hid hb
  clear hl hx hb
  go_enter Try.func54, Try.ntmps54
  go_wp2
  go_loop [8] (fun i => ∃ k : Nat, k ≤ j ∧ i = .int .i64 k) (fun i => n - (intOf i).toNat)
  case atStart => exact ⟨0, Nat.zero_le _, rfl⟩
  case round =>
    obtain ⟨k, hk, rfl⟩ := hrel
    obtain ⟨b, off, rfl, hlb, hcc⟩ := rd_cell HL.out (i := k) (by omega)
    by_cases hlt : k < j
    · have z0 := z_ne (x := x) (y := cf l k) (fun e => HB.out k hlt e.symm)
      generalize cf l k = y at *
      go_wp2
      go_round
      case rel => exact ⟨k + 1, by omega, by go_num⟩
      case measure => simp [intOf]; omega
    · obtain rfl : k = j := by omega
      have z0 := z_eq (x := x) (y := cf l k) HX.out.symm
      generalize cf l k = y at *
      go_wp2
      go_ret
      exact ⟨rfl, rfl⟩
set_option maxHeartbeats 1000000 in
theorem indexB_out (A : Option Addr) (n c : Nat) (l : List GF) (x : GF) (w : World) (hl : RdB w A n l) (hn : n ≤ 1099511627) (hb : ∀ i, i < n → l.getD i 0 ≠ x) :
    Calls Try.prog 54 #[.slice A n c, .int .u8 x.z] w fun e w' => e = .returned (.int .i64 (-1)) ∧ w = w' := by
  have HL := Lib.hid hl
  have HB := Lib.hid hb
  clear hl hb
  go_enter Try.func54, Try.ntmps54
  go_wp2
  go_loop [8] (fun i => ∃ k : Nat, k ≤ n ∧ i = .int .i64 k) (fun i => n - (intOf i).toNat)
  case atStart => exact ⟨0, Nat.zero_le _, rfl⟩
  case round =>
    obtain ⟨k, hk, rfl⟩ := hrel
    by_cases hlt : k < n
    · obtain ⟨b, off, rfl, hlb, hcc⟩ := rd_cell HL.out (i := k) (by omega)
      have z0 := z_ne (x := x) (y := cf l k) (fun e => HB.out k hlt e.symm)
      generalize cf l k = y at *
      go_wp2
      go_round
      case rel => exact ⟨k + 1, by omega, by go_num⟩
      case measure => simp [intOf]; omega
    · obtain rfl : k = n := by omega
      go_wp2
      go_ret
      exact ⟨rfl, rfl⟩
def hasB (l : List GF) (x : GF) : Bool := decide (x ∈ l)
set_option maxHeartbeats 1000000 in
theorem containsB_any (A : Option Addr) (n c : Nat) (l : List GF) (x : GF) (w : World) (hl : RdB w A n l) (hn : n ≤ 1099511627) :
    Calls Try.prog 48 #[.slice A n c, .int .u8 x.z] w fun e w' => e = .returned (.bool (hasB l x)) ∧ w = w' := by
  by_cases h : x ∈ l
  · rw [show hasB l x = true from decide_eq_true h]
    obtain ⟨j, h1, h2, h3⟩ := mem_at h
    have HC := Lib.hid (indexB_in A n c l x j w hl hn (by rw [← hl.1]; exact h1) h2 h3)
    clear hl h h2 h3
    go_enter Try.func48, Try.ntmps48
    go_wp2_with (go_at_call 54; refine HC.out.mono ?_; rintro e w' ⟨rfl, rfl⟩)
    go_ret
    exact ⟨rfl, rfl⟩
  · rw [show hasB l x = false from decide_eq_false h]
    have HC := Lib.hid (indexB_out A n c l x w hl hn (fun i hi => not_mem_at h i (by rw [hl.1]; exact hi)))
    clear hl h
    go_enter Try.func48, Try.ntmps48
    go_wp2_with (go_at_call 54; refine HC.out.mono ?_; rintro e w' ⟨rfl, rfl⟩)
    go_ret
    exact ⟨rfl, rfl⟩
end Go.Proofs.Ytpkaaiefnabfbaa
