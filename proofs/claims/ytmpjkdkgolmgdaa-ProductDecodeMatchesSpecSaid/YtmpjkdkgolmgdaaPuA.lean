/- Product codes, ahead of the walk of the reference's Unblock: its rounds, its flags, its state in memory; what the reference's Decode returns, by decW. -/
import Derived.Test.YtmpjkdkgolmgdaaPdP
import Derived.Test.YtmpjkdkgolmgdaaPdJ
import Derived.Test.YtmpjkdkgolmgdaaSvJ
namespace Go.Proofs.Ytmpjkdkgolmgdaa
open Go.RowKit
set_option linter.unusedVariables false

theorem rdec_hit (A I : Option Addr) (n c ci m p : Nat) (l c0 : List GF) (es : List Nat) (w : World) (hl : RdB w A n l) (hi : RdI w I m (toI es)) (h1 : p ≤ 32) (h3 : n ≤ 255) (hlt : ∀ i ∈ es, i < n) (hP : es.Pairwise (· < ·)) (hem : m ≤ 255) (hW : decW p l es = some c0) :
    Calls Try.prog 46 #[.slice A n c, .int .i64 p, .slice I m ci] w fun e w' => ∃ A' c', ∃ k : Nat, e = .returned (.tuple #[.slice A' n c', .int .i64 (k : Int)]) ∧ OwB w' w.heap.size (.slice A' n c') c0 ∧ Below w.heap.size w w' := by
  have hln : l.length = n := hl.1
  refine (rDecode_any A I n c ci m p l es w hl hi h1 h3 hlt hP hem).mono ?_
  rintro e w' ⟨hb, ⟨c1, A', c', hc, rfl, ho⟩ | ⟨hno, _⟩⟩
  · have := decW_hit (by rw [hln]; exact h3) (sorted_nodup hP) (by rw [hln]; exact hlt) hc
    rw [this] at hW
    obtain rfl : c1 = c0 := Option.some.inj hW
    rw [hln] at ho
    exact ⟨A', c', _, by rw [hln], ho, hb⟩
  · exact absurd (decW_some hW) (hno c0)
theorem rdec_miss (A I : Option Addr) (n c ci m p : Nat) (l : List GF) (es : List Nat) (w : World) (hl : RdB w A n l) (hi : RdI w I m (toI es)) (h1 : p ≤ 32) (h3 : n ≤ 255) (hlt : ∀ i ∈ es, i < n) (hP : es.Pairwise (· < ·)) (hem : m ≤ 255) (hW : decW p l es = none) :
    Calls Try.prog 46 #[.slice A n c, .int .i64 p, .slice I m ci] w fun e w' => e = .returned (.tuple #[.slice none 0 0, .int .i64 (-1)]) ∧ Below w.heap.size w w' := by
  have hln : l.length = n := hl.1
  refine (rDecode_any A I n c ci m p l es w hl hi h1 h3 hlt hP hem).mono ?_
  rintro e w' ⟨hb, ⟨c1, A', c', hc, rfl, ho⟩ | ⟨hno, rfl⟩⟩
  · exact absurd hc (decW_none hW c1)
  · exact ⟨rfl, hb⟩
/-! ### the rounds -/
def RunAt (R C p q : Nat) (s0 : St) (k : Nat) (s : St) (cl rt : Bool) : Prop :=
  ((cl && rt) = true → s = runL R C p q 4 s0) ∧ ((cl && rt) = false → runL R C p q (4 - k) s = runL R C p q 4 s0) ∧ (1 ≤ k → cl = !dirtyB s.2 ∧ rt = rightB R C p s.1) ∧ (k = 0 → cl = false)
theorem RunAt.start (R C p q : Nat) (s : St) : RunAt R C p q s 0 s false false := ⟨(fun h => by cases h), fun _ => rfl, fun h => absurd h (by decide), fun _ => rfl⟩
theorem RunAt.step {R C p q k : Nat} {s0 s : St} {cl rt : Bool} (h : RunAt R C p q s0 k s cl rt) (hk : k < 4) (hc : (cl && rt) = false) : RunAt R C p q s0 (k + 1) (roundL R C p q s) (!dirtyB (roundL R C p q s).2) (rightB R C p (roundL R C p q s).1) := by
  have h2 := h.2.1 hc
  rw [show 4 - k = (4 - (k + 1)) + 1 by omega] at h2
  refine ⟨fun hd => ?_, fun hd => ?_, fun _ => ⟨rfl, rfl⟩, fun h => absurd h (Nat.succ_ne_zero k)⟩
  · rw [run_stop (show doneB R C p (roundL R C p q s) = true from hd)] at h2; exact h2
  · rw [run_go (show doneB R C p (roundL R C p q s) = false from hd)] at h2; exact h2
theorem RunAt.ends {R C p q k : Nat} {s0 s : St} {cl rt : Bool} (h : RunAt R C p q s0 k s cl rt) (hk : k ≤ 4) (he : ¬ (k < 4 ∧ (cl && rt) = false)) : s = runL R C p q 4 s0 ∧ (cl && !rt) = allLostB R C p s := by
  have hk1 : 1 ≤ k := by
    rcases Nat.eq_zero_or_pos k with h0 | h0
    · exact absurd ⟨by omega, by rw [h.2.2.2 h0]; rfl⟩ he
    · exact h0
  obtain ⟨hc, hr⟩ := h.2.2.1 hk1
  refine ⟨?_, by rw [hc, hr]; rfl⟩
  cases hd : (cl && rt) with
  | true => exact h.1 hd
  | false =>
    have h4 : k = 4 := by
      rcases Nat.lt_or_ge k 4 with h | h
      · exact absurd ⟨h, hd⟩ he
      · omega
    have := h.2.1 hd
    rw [h4] at this
    exact this
/-! ### the flags -/
theorem dirty_nil : dirtyB [] = false := rfl
theorem dirty_take {m : List Bool} {k : Nat} (hk : k < m.length) : dirtyB (m.take (k + 1)) = (dirtyB (m.take k) || m.getD k false) := by
  have : m.take (k + 1) = m.take k ++ [m.getD k false] := by
    rw [List.take_succ_eq_append_getElem hk]
    congr 2
    simp [List.getD, hk]
  rw [this]
  unfold dirtyB
  cases h : m.getD k false <;> simp
def rtN (p C : Nat) (b : List GF) : Nat → Bool
  | 0 => true
  | k + 1 => rtN p C b k && cwB p (rowW C b k)
theorem rtN_zero (p C : Nat) (b : List GF) : rtN p C b 0 = true := rfl
theorem rtN_succ (p C : Nat) (b : List GF) (k : Nat) : rtN p C b (k + 1) = (rtN p C b k && cwB p (rowW C b k)) := rfl
theorem rtN_iff {p C : Nat} {b : List GF} : ∀ k, rtN p C b k = true ↔ ∀ r, r < k → cwB p (rowW C b r) = true := by
  intro k
  induction k with
  | zero => exact ⟨fun _ r hr => absurd hr (Nat.not_lt_zero r), fun _ => rfl⟩
  | succ k ih =>
    rw [rtN_succ, Bool.and_eq_true, ih]
    refine ⟨fun h r hr => ?_, fun h => ⟨fun r hr => h r (by omega), h k (Nat.lt_succ_self k)⟩⟩
    by_cases e : r = k
    · subst e; exact h.2
    · exact h.1 r (by omega)
theorem rtN_all {R C p : Nat} {b : List GF} : rtN p C b R = rightB R C p b := by
  cases h : rightB R C p b with
  | true => exact (rtN_iff R).2 fun r hr => cwB_iff.2 (rightB_iff.1 h r hr)
  | false =>
    cases h2 : rtN p C b R with
    | false => rfl
    | true => rw [right_all ((rtN_iff R).1 h2)] at h; cases h
/-! ### the state -/
structure UbR (w wr : World) (g1 g2 : Nat) (R C p q : Nat) (n c1 : Nat) (st : St) : Prop where
  s : S4 wr w.heap.size R C p q
  b : OwB wr (w.heap.size + 1) (.slice (some ⟨g1, 0, none⟩) n c1) st.1
  m : OwT wr (w.heap.size + 1) (.slice (some ⟨g2, 0, none⟩) n n) st.2
  bw : Below w.heap.size w wr
  ne : g1 ≠ g2
section
variable {w wr wr' : World} {g1 g2 R C p q n c1 : Nat} {st : St} {b : List GF} {m : List Bool}
theorem UbR.below (r : UbR w wr g1 g2 R C p q n c1 st) (hb : Below wr.heap.size wr wr') : UbR w wr' g1 g2 R C p q n c1 st :=
  ⟨r.s.below hb, r.b.below hb, r.m.below hb, Bw.step r.bw hb, r.ne⟩
theorem UbR.setM (r : UbR w wr g1 g2 R C p q n c1 (b, m)) (i : Nat) (t : Bool) : UbR w (wr.setCell ⟨g2, i, none⟩ (.bool t)) g1 g2 R C p q n c1 (b, m.set i t) :=
  have X := (Exc.refl [g2] wr).set (p := ⟨g2, i, none⟩) (by simp) (.bool t)
  have h2 := r.m.lt.1
  have hne := r.ne
  ⟨r.s.exc X (by simp; omega), r.b.exc X (by simp; omega), r.m.set i t, Bw.set r.bw (p := ⟨g2, i, none⟩) (by show w.heap.size ≤ g2; omega) _, r.ne⟩
theorem UbR.setB (r : UbR w wr g1 g2 R C p q n c1 (b, m)) (i : Nat) (x : GF) : UbR w (wr.setCell ⟨g1, i, none⟩ (.int .u8 x.z)) g1 g2 R C p q n c1 (b.set i x, m) :=
  have X := (Exc.refl [g1] wr).set (p := ⟨g1, i, none⟩) (by simp) (.int .u8 x.z)
  have h1 := r.b.lt.1
  have hne := r.ne
  ⟨r.s.exc X (by simp; omega), r.b.set i x, r.m.exc X (by simp; omega), Bw.set r.bw (p := ⟨g1, i, none⟩) (by show w.heap.size ≤ g1; omega) _, r.ne⟩
end
theorem rowP_at {C r c : Nat} (hc : c < C) : (rowP C r).getD c 0 = r * C + c := rowP_get hc
theorem place_div {C r c : Nat} (hc : c < C) : (r * C + c) / C = r ∧ (r * C + c) % C = c := by
  have hC : 0 < C := by omega
  constructor
  · rw [Nat.mul_comm, Nat.mul_add_div hC, Nat.div_eq_of_lt hc, Nat.add_zero]
  · rw [Nat.mul_comm, Nat.mul_add_mod]; exact Nat.mod_eq_of_lt hc
theorem colP_at {R C r c : Nat} (hr : r < R) : (colP R C c).getD r 0 = r * C + c := colP_get hr
theorem OwB.capU {w : World} {B n c : Nat} {A : Option Addr} {l : List GF} (h : OwB w B (.slice A n c) l) : n ≤ c := by
  rcases h.2 with ⟨h1, h2⟩ | ⟨g, cap, cur, hv, hB, hh, hn, _⟩
  · injection h1 with e1 e2 e3
    omega
  · injection hv with e1 e2 e3
    omega
/-! ### rows and columns alike -/
abbrev psA (R C r : Nat) : List Nat := rowP C r
abbrev psB (R C r : Nat) : List Nat := colP R C r
abbrev wdA (R C : Nat) (b : List GF) (r : Nat) : List GF := rowW C b r
abbrev wdB (R C : Nat) (b : List GF) (r : Nat) : List GF := colW R C b r
noncomputable abbrev stA (R C p q : Nat) (s : St) (k : Nat) : St := rowsN C p s k
noncomputable abbrev stB (R C p q : Nat) (s : St) (k : Nat) : St := colsN R C q (rowsN C p s R) k
theorem psA_len (R C r : Nat) : (psA R C r).length = C := rowP_len C r
theorem psB_len (R C r : Nat) : (psB R C r).length = R := colP_len R C r
theorem psA_at {R C r j : Nat} (hr : r < R) (hj : j < C) : (psA R C r).getD j 0 = r * C + j := rowP_get hj
theorem psB_at {R C r j : Nat} (hr : r < C) (hj : j < R) : (psB R C r).getD j 0 = j * C + r := colP_get hj
theorem stA_succ (R C p q : Nat) (s : St) (k : Nat) : stA R C p q s (k + 1) = treatL (stA R C p q s k) (psA R C k) p := rfl
theorem stB_succ (R C p q : Nat) (s : St) (k : Nat) : stB R C p q s (k + 1) = treatL (stB R C p q s k) (psB R C k) q := rfl
theorem getA (R C : Nat) (b : List GF) (r : Nat) : getL b (psA R C r) = wdA R C b r := getL_row b C r
theorem getB (R C : Nat) (b : List GF) (r : Nat) : getL b (psB R C r) = wdB R C b r := getL_col b R C r
theorem ubA (g n c R C p q r : Nat) (b : List GF) (W : World) (B : Nat) (hb : OwB W B (.slice (some ⟨g, 0, none⟩) n c) b) (hn : n = R * C) (h2 : R ≤ 32) (h3 : 1 ≤ C) (h4 : C ≤ 32) (hr : r < R) :
    Calls Try.prog 47 #[.slice (some ⟨g, 0, none⟩) n c, shpV R C p q, .int .i64 (r : Int)] W fun e w' => ∃ A' c', e = .returned (.slice A' C c') ∧ OwB w' W.heap.size (.slice A' C c') (wdA R C b r) ∧ Below W.heap.size W w' :=
  rRow_any (some ⟨g, 0, none⟩) n c R C p q r b W hb.rd.1 hb.capU hn h2 h3 h4 hr
theorem ubB (g n c R C p q r : Nat) (b : List GF) (W : World) (B : Nat) (hb : OwB W B (.slice (some ⟨g, 0, none⟩) n c) b) (hn : n = R * C) (h2 : R ≤ 32) (h3 : 1 ≤ C) (h4 : C ≤ 32) (hr : r < C) :
    Calls Try.prog 48 #[.slice (some ⟨g, 0, none⟩) n c, shpV R C p q, .int .i64 (r : Int)] W fun e w' => ∃ A' c', e = .returned (.slice A' R c') ∧ OwB w' W.heap.size (.slice A' R c') (wdB R C b r) ∧ Below W.heap.size W w' :=
  rColumn_any (some ⟨g, 0, none⟩) n c R C r p q b W hb.rd.1 hn h2 h4 hr
theorem erN_all {m : List Bool} {ps : List Nat} {k : Nat} (h : ps.length = k) : erN m ps k = erL m ps := by subst h; rfl
end Go.Proofs.Ytmpjkdkgolmgdaa
