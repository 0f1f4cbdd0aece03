/- The walks of the statements TintBytesMatchSpec and TintJoinUndoesSplit. -/
import Derived.Test.YtbhcjgjeedhnaaaTiG
namespace Go.Proofs.Ytbhcjgjeedhnaaa
open Go.RowKit
set_option linter.unusedVariables false

theorem IsRow.bytes3 {w : World} {a : Option Addr} {len cap : Nat} {zs : List Int} (h : IsRow .u8 w a len cap zs) : ∃ l : List GF, RdB w a len l ∧ len ≤ 9223372036854775807 ∧ len ≤ cap := by
  obtain ⟨l, h1, h2⟩ := h.bytes
  refine ⟨l, h1, h2, ?_⟩
  rcases h with ⟨_, h3, h4, _⟩ | ⟨_, _, h3, _⟩ <;> omega
/-- The first cell that is too large. -/
def firstBad (lv : Nat) : List GF → Nat
  | [] => 0
  | c :: l => if c.v < lv then firstBad lv l + 1 else 0
theorem firstBad_le (lv : Nat) (l : List GF) : firstBad lv l ≤ l.length := by
  induction l with
  | nil => exact Nat.le_refl _
  | cons c l ih => unfold firstBad; split <;> simp <;> omega
theorem firstBad_lt (lv : Nat) (l : List GF) : ∀ i, i < firstBad lv l → (l.getD i 0).v < lv := by
  induction l with
  | nil => intro i hi; exact absurd hi (Nat.not_lt_zero _)
  | cons c l ih =>
    intro i hi
    unfold firstBad at hi
    split at hi
    · cases i with
      | zero => assumption
      | succ i => simpa using ih i (by omega)
    · omega
theorem firstBad_at (lv : Nat) (l : List GF) (h : firstBad lv l < l.length) : ¬ (l.getD (firstBad lv l) 0).v < lv := by
  induction l with
  | nil => exact absurd h (Nat.not_lt_zero _)
  | cons c l ih =>
    unfold firstBad at h ⊢
    by_cases hc : c.v < lv
    · rw [if_pos hc] at h ⊢
      simpa using ih (by simpa using h)
    · rw [if_neg hc]; simpa using hc
/-- The first cell that is too large, of those from k on; the length if there is none. -/
def badFrom (lv : Nat) (l : List GF) (k : Nat) : Nat := k + firstBad lv (l.drop k)
theorem badFrom_end (lv : Nat) (l : List GF) : badFrom lv l l.length = l.length := by simp [badFrom, firstBad]
theorem badFrom_zero (lv : Nat) (l : List GF) : badFrom lv l 0 = firstBad lv l := by simp [badFrom]
theorem badFrom_step (lv : Nat) (l : List GF) (k : Nat) (hk : k < l.length) : badFrom lv l k = if (l.getD k 0).v < lv then badFrom lv l (k + 1) else k := by
  unfold badFrom
  rw [List.drop_eq_getElem_cons hk]
  show k + (if (l[k]).v < lv then firstBad lv (l.drop (k + 1)) + 1 else 0) = _
  have e : l.getD k 0 = l[k] := by simp [List.getD, List.getElem?_eq_getElem hk]
  rw [e]
  split <;> omega
theorem badFrom_le (lv : Nat) (l : List GF) (k : Nat) (hk : k ≤ l.length) : badFrom lv l k ≤ l.length := by
  unfold badFrom
  have := firstBad_le lv (l.drop k)
  rw [List.length_drop] at this
  omega
/-- The fault of cells, as the statement computes it. -/
def wC (lv : Nat) (l : List GF) (k : Nat) : Int := if badFrom lv l k < l.length then 4 else 0
def wI (lv : Nat) (l : List GF) (k : Nat) : Int := if badFrom lv l k < l.length then badFrom lv l k else 0
theorem wC_cases (lv : Nat) (l : List GF) (k : Nat) : wC lv l k = 0 ∨ wC lv l k = 4 := by
  unfold wC; split <;> simp
theorem wC_step (lv : Nat) (l : List GF) (k : Nat) (hk : k < l.length) : if (l.getD k 0).v < lv then (wC lv l k = wC lv l (k + 1) ∧ wI lv l k = wI lv l (k + 1)) else (wC lv l k = 4 ∧ wI lv l k = k) := by
  unfold wC wI
  rw [badFrom_step lv l k hk]
  by_cases h : (l.getD k 0).v < lv
  · rw [if_pos h, if_pos h]; exact ⟨rfl, rfl⟩
  · rw [if_neg h, if_neg h]; exact ⟨if_pos hk, if_pos hk⟩
theorem wC_end (lv : Nat) (l : List GF) {n : Nat} (hn : l.length = n) : wC lv l n = 0 ∧ wI lv l n = 0 := by
  subst hn
  unfold wC wI; rw [badFrom_end]; exact ⟨if_neg (by omega), if_neg (by omega)⟩
theorem Has.off {w : World} {b : Nat} {c i : Int} (h : Has w b c i) {p : Addr} (hp : p.block ≠ b) (u : Value) : Has (w.setCell p u) b c i := by
  obtain ⟨l, c0, c1, f0, f1⟩ := h
  refine ⟨by simpa [World.setCell] using l, ?_, ?_, by simpa using f0, by simpa using f1⟩
  · rw [World.cell?_setCell_other _ _ _ _ (by intro e; apply hp; rw [e])]; exact c0
  · rw [World.cell?_setCell_other _ _ _ _ (by intro e; apply hp; rw [e])]; exact c1
theorem joinC2 (A : Option Addr) (c : Nat) (l : List GF) (hl : l.length = 8) : ∃ x : Int, (∀ w : World, RdB w A 8 l → Calls Try.prog 16 #[.slice A 8 c, .int .i64 2] w fun e w' => e = .returned (.tuple #[.int .u8 x, .agg #[.int .i64 (wC 2 l 0), .int .i64 (wI 2 l 0)]]) ∧ Below w.heap.size w w') ∧
    ((wC 2 l 0 = 0 ∧ wI 2 l 0 = 0 ∧ x = (joinN 2 l : Nat) ∧ ∀ i, i < l.length → (l.getD i 0).v < 2) ∨ (wC 2 l 0 = 4 ∧ x = 0)) := by
  unfold wC wI
  rw [badFrom_zero]
  have hle := firstBad_le 2 l
  by_cases h : firstBad 2 l < l.length
  · rw [if_pos h, if_pos h]
    exact ⟨0, fun w hR => tiJoinBad2 A c l w hR _ (by omega) (firstBad_lt 2 l) (firstBad_at 2 l h), .inr ⟨rfl, rfl⟩⟩
  · rw [if_neg h, if_neg h]
    have hall : ∀ i, i < l.length → (l.getD i 0).v < 2 := fun i hi => firstBad_lt 2 l i (by omega)
    exact ⟨_, fun w hR => tiJoin2 A c l w hR hall, .inl ⟨rfl, rfl, rfl, hall⟩⟩
set_option maxRecDepth 100000 in
set_option maxHeartbeats 2000000 in
theorem walkBytes2 (b : GF) (A : Option Addr) (c : Nat) (l : List GF) (w : World) (RA : RdB w A 8 l) :
    Calls Try.prog 4 #[.int .u8 b.z, .slice A 8 c, .int .i64 2] w fun e w' => e = .returned (.bool true) ∧ Below w.heap.size w w' := by
  have HLN := Lib.hid RA.1
  have HRA := Lib.hid RA
  have s1 := Lib.hid (sameB_self (cellsT b 2))
  obtain ⟨x, hJ, hcase⟩ := joinC2 A c l RA.1
  have HJ := Lib.hid hJ
  have HW0 := Lib.hid (wC_end 2 l HLN.out)
  have HCASE := Lib.hid hcase
  clear hJ hcase RA
  generalize hC0 : wC 2 l 0 = C0 at *
  generalize hI0 : wI 2 l 0 = I0 at *
  have HC0 := Lib.hid hC0
  have HI0 := Lib.hid hI0
  clear hC0 hI0
  go_enter Try.func4, Try.ntmps4
  go_wp2_with fail
  refine (tiSplit2 b _).mono ?_; rintro e w1 ⟨A1, c1, rfl, ho1, hb1⟩
  have F1 := Has.new w1 0 0 23
  have R1 := ho1.rd.1.al (.cells #[.int .i64 0, .int .i64 0] 23)
  have BW := Bw.al hb1 (.cells #[.int .i64 0, .int .i64 0] 23)
  clear ho1 hb1
  go_wp2_with fail
  refine (HJ.out _ (HRA.out.below BW)).mono ?_; rintro e w2 ⟨rfl, hb2⟩
  replace F1 := (F1.below hb2).al (.cells #[.int .i64 C0, .int .i64 I0] 23)
  replace R1 := (R1.below hb2).al (.cells #[.int .i64 C0, .int .i64 I0] 23)
  replace BW := Bw.al (Bw.step BW hb2) (.cells #[.int .i64 C0, .int .i64 I0] 23)
  have F2 := Has.new w2 C0 I0 23
  clear hb2
  obtain ⟨l1, c10, c11, f10, f11⟩ := id F1
  go_wp2_with fail
  refine (rCellsOf2 b _).mono ?_; rintro e w3 ⟨A3, c3, rfl, ho3, hb3⟩
  replace R1 := R1.below hb3
  replace F2 := F2.below hb3
  replace BW := Bw.step BW hb3
  have hs23 : w2.heap.size < w3.heap.size := F2.1
  clear l1 c10 c11 f10 f11 F1 hb3
  go_wp2_with fail
  refine (refSame_any _ _ _ _ _ _ _ _ _ R1 ho3.rd.1).mono ?_
  rw [s1.out]
  rintro e w4 ⟨rfl, rfl⟩
  clear ho3 R1
  go_wp2_with fail
  refine (refAt_any _ _ _).mono ?_; rintro e w4 ⟨rfl, rfl⟩
  replace F2 := (F2.al (.cells #[.int .i64 0, .int .i64 0] 23)).al (.cells #[.int .i64 0, .int .i64 0] 23)
  have F3 := Has.new (w3.alloc (.cells #[.int .i64 0, .int .i64 0] 23)) 0 0 23
  have hB3 : w.heap.size ≤ w3.heap.size + 1 := by have := BW.size; omega
  replace BW := Bw.al (Bw.al BW (.cells #[.int .i64 0, .int .i64 0] 23)) (.cells #[.int .i64 0, .int .i64 0] 23)
  have hne : w2.heap.size ≠ w3.heap.size + 1 := by omega
  rw [World.size_alloc] at F3
  have HNE := Lib.hid hne
  have F3' := Lib.hid F3
  clear hs23 hne F3
  go_wp2
  generalize (w3.alloc (.cells #[.int .i64 0, .int .i64 0] 23)).alloc (.cells #[.int .i64 0, .int .i64 0] 23) = W at *
  generalize w2.heap.size = b2 at *
  generalize w3.heap.size + 1 = b3 at *
  generalize w3.heap.size = b30 at *
  generalize w1.heap.size = b1 at *
  go_loopw [12] (fun i wr => ∃ k : Nat, k ≤ 8 ∧ i = .int .i64 ((k : Int) - 1) ∧ Has wr b2 C0 I0 ∧ Has wr b3 (wC 2 l k) (wI 2 l k) ∧ Below w.heap.size w wr) (fun i _ => (intOf i + 1).toNat)
  case atStart => exact ⟨8, Nat.le_refl _, rfl, F2, by rw [HW0.out.1, HW0.out.2]; exact F3'.out, BW⟩
  case round =>
    obtain ⟨k, hk, rfl, F2, F3, BW⟩ := hrel
    rcases Nat.eq_zero_or_pos k with h0 | h0
    · subst h0
      rw [HC0.out, HI0.out] at F3
      rw [show ((0 : Nat) : Int) - 1 = -1 from rfl]
      rcases HCASE.out with ⟨rfl, rfl, rfl, hall⟩ | ⟨rfl, rfl⟩
      · have HALL := Lib.hid hall
        clear hall
        obtain ⟨l2, c20, c21, f20, f21⟩ := id F2
        obtain ⟨l3, c30, c31, f30, f31⟩ := id F3
        go_wp2_with fail
        refine (rJoined2 A c l _ (HRA.out.below BW) HALL.out).mono ?_; rintro e w5 ⟨rfl, hb5⟩
        go_wp2_with (go_at_call 11; refine (tinted_any _).mono ?_; rintro e w' ⟨rfl, hb6⟩)
        go_ret
        exact ⟨rfl, Bw.step (Bw.step BW hb5) hb6⟩
      · obtain ⟨l2, c20, c21, f20, f21⟩ := id F2
        obtain ⟨l3, c30, c31, f30, f31⟩ := id F3
        go_wp2_with (go_at_call 11; refine (tinted_any _).mono ?_; rintro e w' ⟨rfl, hb6⟩)
        go_ret
        exact ⟨rfl, Bw.step BW hb6⟩
    · obtain ⟨k, rfl⟩ : ∃ m, k = m + 1 := ⟨k - 1, by omega⟩
      obtain ⟨bb, oo, rfl, hlb, hcc⟩ := (HRA.out.below BW).2 (by omega)
      have hx := hcc k (by omega)
      have hcode := wC_cases 2 l (k + 1)
      have HST := Lib.hid (wC_step 2 l k (by rw [HLN.out]; omega))
      rw [show ((k + 1 : Nat) : Int) - 1 = (k : Int) by omega]
      have ez : (l.getD k 0).z = (((l.getD k 0).v : Nat) : Int) := rfl
      rw [ez] at hx
      have hv := GF.lt (l.getD k 0)
      generalize wC 2 l (k + 1) = C at *
      generalize wI 2 l (k + 1) = I at *
      by_cases hc : (l.getD k 0).v < 2
      · rw [if_pos hc] at HST
        generalize (l.getD k 0).v = q at *
        clear hcc ez
        rcases hcode with rfl | rfl
        all_goals
          obtain ⟨l3, c30, c31, f30, f31⟩ := id F3
          go_wp2
          go_roundw
          case rel => exact ⟨k, by omega, rfl, F2, by rw [HST.out.1, HST.out.2]; exact F3, BW⟩
          case measure => simp [intOf]
      · rw [if_neg hc] at HST
        generalize (l.getD k 0).v = q at *
        clear hcc ez
        rcases hcode with rfl | rfl
        all_goals
          obtain ⟨l3, c30, c31, f30, f31⟩ := id F3
          go_wp2_with fail
          refine (refAt_any _ _ _).mono ?_; rintro e w4 ⟨rfl, rfl⟩
          have G3 := F3.al (.cells #[.int .i64 4, .int .i64 k] 23)
          have G2 := F2.al (.cells #[.int .i64 4, .int .i64 k] 23)
          have GB := Bw.al BW (.cells #[.int .i64 4, .int .i64 k] 23)
          clear l3 c30 c31 f30 f31
          obtain ⟨l3, c30, c31, f30, f31⟩ := id G3
          go_wp2
          go_roundw
          case rel => exact ⟨k, by omega, rfl, (G2.off (Ne.symm HNE.out) _).off (Ne.symm HNE.out) _, by rw [HST.out.1, HST.out.2]; exact G3.set2 4 k, Bw.set (Bw.set GB hB3 _) hB3 _⟩
          case measure => simp [intOf]
theorem joinC4 (A : Option Addr) (c : Nat) (l : List GF) (hl : l.length = 4) : ∃ x : Int, (∀ w : World, RdB w A 4 l → Calls Try.prog 16 #[.slice A 4 c, .int .i64 4] w fun e w' => e = .returned (.tuple #[.int .u8 x, .agg #[.int .i64 (wC 4 l 0), .int .i64 (wI 4 l 0)]]) ∧ Below w.heap.size w w') ∧
    ((wC 4 l 0 = 0 ∧ wI 4 l 0 = 0 ∧ x = (joinN 4 l : Nat) ∧ ∀ i, i < l.length → (l.getD i 0).v < 4) ∨ (wC 4 l 0 = 4 ∧ x = 0)) := by
  unfold wC wI
  rw [badFrom_zero]
  have hle := firstBad_le 4 l
  by_cases h : firstBad 4 l < l.length
  · rw [if_pos h, if_pos h]
    exact ⟨0, fun w hR => tiJoinBad4 A c l w hR _ (by omega) (firstBad_lt 4 l) (firstBad_at 4 l h), .inr ⟨rfl, rfl⟩⟩
  · rw [if_neg h, if_neg h]
    have hall : ∀ i, i < l.length → (l.getD i 0).v < 4 := fun i hi => firstBad_lt 4 l i (by omega)
    exact ⟨_, fun w hR => tiJoin4 A c l w hR hall, .inl ⟨rfl, rfl, rfl, hall⟩⟩
set_option maxRecDepth 100000 in
set_option maxHeartbeats 2000000 in
theorem walkBytes4 (b : GF) (A : Option Addr) (c : Nat) (l : List GF) (w : World) (RA : RdB w A 4 l) :
    Calls Try.prog 4 #[.int .u8 b.z, .slice A 4 c, .int .i64 4] w fun e w' => e = .returned (.bool true) ∧ Below w.heap.size w w' := by
  have HLN := Lib.hid RA.1
  have HRA := Lib.hid RA
  have s1 := Lib.hid (sameB_self (cellsT b 4))
  obtain ⟨x, hJ, hcase⟩ := joinC4 A c l RA.1
  have HJ := Lib.hid hJ
  have HW0 := Lib.hid (wC_end 4 l HLN.out)
  have HCASE := Lib.hid hcase
  clear hJ hcase RA
  generalize hC0 : wC 4 l 0 = C0 at *
  generalize hI0 : wI 4 l 0 = I0 at *
  have HC0 := Lib.hid hC0
  have HI0 := Lib.hid hI0
  clear hC0 hI0
  go_enter Try.func4, Try.ntmps4
  go_wp2_with fail
  refine (tiSplit4 b _).mono ?_; rintro e w1 ⟨A1, c1, rfl, ho1, hb1⟩
  have F1 := Has.new w1 0 0 23
  have R1 := ho1.rd.1.al (.cells #[.int .i64 0, .int .i64 0] 23)
  have BW := Bw.al hb1 (.cells #[.int .i64 0, .int .i64 0] 23)
  clear ho1 hb1
  go_wp2_with fail
  refine (HJ.out _ (HRA.out.below BW)).mono ?_; rintro e w2 ⟨rfl, hb2⟩
  replace F1 := (F1.below hb2).al (.cells #[.int .i64 C0, .int .i64 I0] 23)
  replace R1 := (R1.below hb2).al (.cells #[.int .i64 C0, .int .i64 I0] 23)
  replace BW := Bw.al (Bw.step BW hb2) (.cells #[.int .i64 C0, .int .i64 I0] 23)
  have F2 := Has.new w2 C0 I0 23
  clear hb2
  obtain ⟨l1, c10, c11, f10, f11⟩ := id F1
  go_wp2_with fail
  refine (rCellsOf4 b _).mono ?_; rintro e w3 ⟨A3, c3, rfl, ho3, hb3⟩
  replace R1 := R1.below hb3
  replace F2 := F2.below hb3
  replace BW := Bw.step BW hb3
  have hs23 : w2.heap.size < w3.heap.size := F2.1
  clear l1 c10 c11 f10 f11 F1 hb3
  go_wp2_with fail
  refine (refSame_any _ _ _ _ _ _ _ _ _ R1 ho3.rd.1).mono ?_
  rw [s1.out]
  rintro e w4 ⟨rfl, rfl⟩
  clear ho3 R1
  go_wp2_with fail
  refine (refAt_any _ _ _).mono ?_; rintro e w4 ⟨rfl, rfl⟩
  replace F2 := (F2.al (.cells #[.int .i64 0, .int .i64 0] 23)).al (.cells #[.int .i64 0, .int .i64 0] 23)
  have F3 := Has.new (w3.alloc (.cells #[.int .i64 0, .int .i64 0] 23)) 0 0 23
  have hB3 : w.heap.size ≤ w3.heap.size + 1 := by have := BW.size; omega
  replace BW := Bw.al (Bw.al BW (.cells #[.int .i64 0, .int .i64 0] 23)) (.cells #[.int .i64 0, .int .i64 0] 23)
  have hne : w2.heap.size ≠ w3.heap.size + 1 := by omega
  rw [World.size_alloc] at F3
  have HNE := Lib.hid hne
  have F3' := Lib.hid F3
  clear hs23 hne F3
  go_wp2
  generalize (w3.alloc (.cells #[.int .i64 0, .int .i64 0] 23)).alloc (.cells #[.int .i64 0, .int .i64 0] 23) = W at *
  generalize w2.heap.size = b2 at *
  generalize w3.heap.size + 1 = b3 at *
  generalize w3.heap.size = b30 at *
  generalize w1.heap.size = b1 at *
  go_loopw [12] (fun i wr => ∃ k : Nat, k ≤ 4 ∧ i = .int .i64 ((k : Int) - 1) ∧ Has wr b2 C0 I0 ∧ Has wr b3 (wC 4 l k) (wI 4 l k) ∧ Below w.heap.size w wr) (fun i _ => (intOf i + 1).toNat)
  case atStart => exact ⟨4, Nat.le_refl _, rfl, F2, by rw [HW0.out.1, HW0.out.2]; exact F3'.out, BW⟩
  case round =>
    obtain ⟨k, hk, rfl, F2, F3, BW⟩ := hrel
    rcases Nat.eq_zero_or_pos k with h0 | h0
    · subst h0
      rw [HC0.out, HI0.out] at F3
      rw [show ((0 : Nat) : Int) - 1 = -1 from rfl]
      rcases HCASE.out with ⟨rfl, rfl, rfl, hall⟩ | ⟨rfl, rfl⟩
      · have HALL := Lib.hid hall
        clear hall
        obtain ⟨l2, c20, c21, f20, f21⟩ := id F2
        obtain ⟨l3, c30, c31, f30, f31⟩ := id F3
        go_wp2_with fail
        refine (rJoined4 A c l _ (HRA.out.below BW) HALL.out).mono ?_; rintro e w5 ⟨rfl, hb5⟩
        go_wp2_with (go_at_call 11; refine (tinted_any _).mono ?_; rintro e w' ⟨rfl, hb6⟩)
        go_ret
        exact ⟨rfl, Bw.step (Bw.step BW hb5) hb6⟩
      · obtain ⟨l2, c20, c21, f20, f21⟩ := id F2
        obtain ⟨l3, c30, c31, f30, f31⟩ := id F3
        go_wp2_with (go_at_call 11; refine (tinted_any _).mono ?_; rintro e w' ⟨rfl, hb6⟩)
        go_ret
        exact ⟨rfl, Bw.step BW hb6⟩
    · obtain ⟨k, rfl⟩ : ∃ m, k = m + 1 := ⟨k - 1, by omega⟩
      obtain ⟨bb, oo, rfl, hlb, hcc⟩ := (HRA.out.below BW).2 (by omega)
      have hx := hcc k (by omega)
      have hcode := wC_cases 4 l (k + 1)
      have HST := Lib.hid (wC_step 4 l k (by rw [HLN.out]; omega))
      rw [show ((k + 1 : Nat) : Int) - 1 = (k : Int) by omega]
      have ez : (l.getD k 0).z = (((l.getD k 0).v : Nat) : Int) := rfl
      rw [ez] at hx
      have hv := GF.lt (l.getD k 0)
      generalize wC 4 l (k + 1) = C at *
      generalize wI 4 l (k + 1) = I at *
      by_cases hc : (l.getD k 0).v < 4
      · rw [if_pos hc] at HST
        generalize (l.getD k 0).v = q at *
        clear hcc ez
        rcases hcode with rfl | rfl
        all_goals
          obtain ⟨l3, c30, c31, f30, f31⟩ := id F3
          go_wp2
          go_roundw
          case rel => exact ⟨k, by omega, rfl, F2, by rw [HST.out.1, HST.out.2]; exact F3, BW⟩
          case measure => simp [intOf]
      · rw [if_neg hc] at HST
        generalize (l.getD k 0).v = q at *
        clear hcc ez
        rcases hcode with rfl | rfl
        all_goals
          obtain ⟨l3, c30, c31, f30, f31⟩ := id F3
          go_wp2_with fail
          refine (refAt_any _ _ _).mono ?_; rintro e w4 ⟨rfl, rfl⟩
          have G3 := F3.al (.cells #[.int .i64 4, .int .i64 k] 23)
          have G2 := F2.al (.cells #[.int .i64 4, .int .i64 k] 23)
          have GB := Bw.al BW (.cells #[.int .i64 4, .int .i64 k] 23)
          clear l3 c30 c31 f30 f31
          obtain ⟨l3, c30, c31, f30, f31⟩ := id G3
          go_wp2
          go_roundw
          case rel => exact ⟨k, by omega, rfl, (G2.off (Ne.symm HNE.out) _).off (Ne.symm HNE.out) _, by rw [HST.out.1, HST.out.2]; exact G3.set2 4 k, Bw.set (Bw.set GB hB3 _) hB3 _⟩
          case measure => simp [intOf]
set_option maxRecDepth 100000 in
set_option maxHeartbeats 2000000 in
theorem walkBytesLen2 (b : GF) (A : Option Addr) (n c : Nat) (w : World) (hn : n ≠ 8) (hm : n ≤ 9223372036854775807) :
    Calls Try.prog 4 #[.int .u8 b.z, .slice A n c, .int .i64 2] w fun e w' => e = .returned (.bool true) ∧ Below w.heap.size w w' := by
  have s1 := Lib.hid (sameB_self (cellsT b 2))
  have x1 : ((n : Int) != 8) = true := by simp only [bne_iff_ne, ne_eq]; omega
  go_enter Try.func4, Try.ntmps4
  go_wp2_with fail
  refine (tiSplit2 b _).mono ?_; rintro e w1 ⟨A1, c1, rfl, ho1, hb1⟩
  have F1 := Has.new w1 0 0 23
  have R1 := ho1.rd.1.al (.cells #[.int .i64 0, .int .i64 0] 23)
  have BW := Bw.al hb1 (.cells #[.int .i64 0, .int .i64 0] 23)
  clear ho1 hb1
  go_wp2_with fail
  refine (tiJoinLen2 _ _ _ _ hn hm).mono ?_; rintro e w2 ⟨rfl, hb2⟩
  replace F1 := (F1.below hb2).al (.cells #[.int .i64 9, .int .i64 (-1)] 23)
  replace R1 := (R1.below hb2).al (.cells #[.int .i64 9, .int .i64 (-1)] 23)
  replace BW := Bw.al (Bw.step BW hb2) (.cells #[.int .i64 9, .int .i64 (-1)] 23)
  have F2 := Has.new w2 9 (-1) 23
  clear hb2
  obtain ⟨l1, c10, c11, f10, f11⟩ := id F1
  go_wp2_with fail
  refine (rCellsOf2 b _).mono ?_; rintro e w3 ⟨A3, c3, rfl, ho3, hb3⟩
  replace R1 := R1.below hb3
  replace F2 := F2.below hb3
  replace BW := Bw.step BW hb3
  have hs23 : w2.heap.size < w3.heap.size := F2.1
  clear l1 c10 c11 f10 f11 F1 hb3
  go_wp2_with fail
  refine (refSame_any _ _ _ _ _ _ _ _ _ R1 ho3.rd.1).mono ?_
  rw [s1.out]
  rintro e w4 ⟨rfl, rfl⟩
  clear ho3 R1
  go_wp2_with fail
  refine (refAt_any _ _ _).mono ?_; rintro e w4 ⟨rfl, rfl⟩
  replace F2 := (F2.al (.cells #[.int .i64 0, .int .i64 0] 23)).al (.cells #[.int .i64 0, .int .i64 0] 23)
  have F3 := Has.new (w3.alloc (.cells #[.int .i64 0, .int .i64 0] 23)) 0 0 23
  have hB3 : w.heap.size ≤ w3.heap.size + 1 := by have := BW.size; omega
  replace BW := Bw.al (Bw.al BW (.cells #[.int .i64 0, .int .i64 0] 23)) (.cells #[.int .i64 0, .int .i64 0] 23)
  have hne : w2.heap.size ≠ w3.heap.size + 1 := by omega
  rw [World.size_alloc] at F3
  clear hs23
  go_wp2_with fail
  refine (refAt_any _ _ _).mono ?_; rintro e w4 ⟨rfl, rfl⟩
  generalize (w3.alloc (.cells #[.int .i64 0, .int .i64 0] 23)).alloc (.cells #[.int .i64 0, .int .i64 0] 23) = W at *
  generalize w2.heap.size = b2 at *
  generalize w3.heap.size + 1 = b3 at *
  generalize w3.heap.size = b30 at *
  generalize w1.heap.size = b1 at *
  replace F2 := F2.al (.cells #[.int .i64 9, .int .i64 (-1)] 23)
  replace F3 := F3.al (.cells #[.int .i64 9, .int .i64 (-1)] 23)
  replace BW := Bw.al BW (.cells #[.int .i64 9, .int .i64 (-1)] 23)
  obtain ⟨l3, c30, c31, f30, f31⟩ := id F3
  have G2 := Lib.hid ((F2.off (p := ⟨b3, 0, none⟩) (Ne.symm hne) (.int .i64 9)).off (p := ⟨b3, 1, none⟩) (Ne.symm hne) (.int .i64 (-1)))
  have G3 := Lib.hid (F3.set2 9 (-1))
  have GB := Lib.hid (Bw.set (p := ⟨b3, 1, none⟩) (Bw.set (p := ⟨b3, 0, none⟩) BW hB3 (.int .i64 9)) hB3 (.int .i64 (-1)))
  clear hne
  go_wp2
  clear l3 c30 c31 f30 f31 F2 F3 BW
  generalize ((W.alloc (.cells #[.int .i64 9, .int .i64 (-1)] 23)).setCell ⟨b3, 0, none⟩ (.int .i64 9)).setCell ⟨b3, 1, none⟩ (.int .i64 (-1)) = W2 at *
  have F2 := G2.out
  have F3 := G3.out
  obtain ⟨l2, c20, c21, f20, f21⟩ := id F2
  obtain ⟨l3, c30, c31, f30, f31⟩ := id F3
  go_loop [12] (fun i => i = .int .i64 ((n : Int) - 1)) (fun i => 0)
  case atStart => rfl
  case round =>
    subst hrel
    rcases Nat.eq_zero_or_pos n with h0 | h0
    · subst h0
      rw [show ((0 : Nat) : Int) - 1 = -1 from rfl]
      go_wp2_with (go_at_call 11; refine (tinted_any _).mono ?_; rintro e w' ⟨rfl, hb6⟩)
      go_ret
      exact ⟨rfl, Bw.step GB.out hb6⟩
    · go_wp2_with (go_at_call 11; refine (tinted_any _).mono ?_; rintro e w' ⟨rfl, hb6⟩)
      go_ret
      exact ⟨rfl, Bw.step GB.out hb6⟩
set_option maxRecDepth 100000 in
set_option maxHeartbeats 2000000 in
theorem walkBytesLen4 (b : GF) (A : Option Addr) (n c : Nat) (w : World) (hn : n ≠ 4) (hm : n ≤ 9223372036854775807) :
    Calls Try.prog 4 #[.int .u8 b.z, .slice A n c, .int .i64 4] w fun e w' => e = .returned (.bool true) ∧ Below w.heap.size w w' := by
  have s1 := Lib.hid (sameB_self (cellsT b 4))
  have x1 : ((n : Int) != 4) = true := by simp only [bne_iff_ne, ne_eq]; omega
  go_enter Try.func4, Try.ntmps4
  go_wp2_with fail
  refine (tiSplit4 b _).mono ?_; rintro e w1 ⟨A1, c1, rfl, ho1, hb1⟩
  have F1 := Has.new w1 0 0 23
  have R1 := ho1.rd.1.al (.cells #[.int .i64 0, .int .i64 0] 23)
  have BW := Bw.al hb1 (.cells #[.int .i64 0, .int .i64 0] 23)
  clear ho1 hb1
  go_wp2_with fail
  refine (tiJoinLen4 _ _ _ _ hn hm).mono ?_; rintro e w2 ⟨rfl, hb2⟩
  replace F1 := (F1.below hb2).al (.cells #[.int .i64 9, .int .i64 (-1)] 23)
  replace R1 := (R1.below hb2).al (.cells #[.int .i64 9, .int .i64 (-1)] 23)
  replace BW := Bw.al (Bw.step BW hb2) (.cells #[.int .i64 9, .int .i64 (-1)] 23)
  have F2 := Has.new w2 9 (-1) 23
  clear hb2
  obtain ⟨l1, c10, c11, f10, f11⟩ := id F1
  go_wp2_with fail
  refine (rCellsOf4 b _).mono ?_; rintro e w3 ⟨A3, c3, rfl, ho3, hb3⟩
  replace R1 := R1.below hb3
  replace F2 := F2.below hb3
  replace BW := Bw.step BW hb3
  have hs23 : w2.heap.size < w3.heap.size := F2.1
  clear l1 c10 c11 f10 f11 F1 hb3
  go_wp2_with fail
  refine (refSame_any _ _ _ _ _ _ _ _ _ R1 ho3.rd.1).mono ?_
  rw [s1.out]
  rintro e w4 ⟨rfl, rfl⟩
  clear ho3 R1
  go_wp2_with fail
  refine (refAt_any _ _ _).mono ?_; rintro e w4 ⟨rfl, rfl⟩
  replace F2 := (F2.al (.cells #[.int .i64 0, .int .i64 0] 23)).al (.cells #[.int .i64 0, .int .i64 0] 23)
  have F3 := Has.new (w3.alloc (.cells #[.int .i64 0, .int .i64 0] 23)) 0 0 23
  have hB3 : w.heap.size ≤ w3.heap.size + 1 := by have := BW.size; omega
  replace BW := Bw.al (Bw.al BW (.cells #[.int .i64 0, .int .i64 0] 23)) (.cells #[.int .i64 0, .int .i64 0] 23)
  have hne : w2.heap.size ≠ w3.heap.size + 1 := by omega
  rw [World.size_alloc] at F3
  clear hs23
  go_wp2_with fail
  refine (refAt_any _ _ _).mono ?_; rintro e w4 ⟨rfl, rfl⟩
  generalize (w3.alloc (.cells #[.int .i64 0, .int .i64 0] 23)).alloc (.cells #[.int .i64 0, .int .i64 0] 23) = W at *
  generalize w2.heap.size = b2 at *
  generalize w3.heap.size + 1 = b3 at *
  generalize w3.heap.size = b30 at *
  generalize w1.heap.size = b1 at *
  replace F2 := F2.al (.cells #[.int .i64 9, .int .i64 (-1)] 23)
  replace F3 := F3.al (.cells #[.int .i64 9, .int .i64 (-1)] 23)
  replace BW := Bw.al BW (.cells #[.int .i64 9, .int .i64 (-1)] 23)
  obtain ⟨l3, c30, c31, f30, f31⟩ := id F3
  have G2 := Lib.hid ((F2.off (p := ⟨b3, 0, none⟩) (Ne.symm hne) (.int .i64 9)).off (p := ⟨b3, 1, none⟩) (Ne.symm hne) (.int .i64 (-1)))
  have G3 := Lib.hid (F3.set2 9 (-1))
  have GB := Lib.hid (Bw.set (p := ⟨b3, 1, none⟩) (Bw.set (p := ⟨b3, 0, none⟩) BW hB3 (.int .i64 9)) hB3 (.int .i64 (-1)))
  clear hne
  go_wp2
  clear l3 c30 c31 f30 f31 F2 F3 BW
  generalize ((W.alloc (.cells #[.int .i64 9, .int .i64 (-1)] 23)).setCell ⟨b3, 0, none⟩ (.int .i64 9)).setCell ⟨b3, 1, none⟩ (.int .i64 (-1)) = W2 at *
  have F2 := G2.out
  have F3 := G3.out
  obtain ⟨l2, c20, c21, f20, f21⟩ := id F2
  obtain ⟨l3, c30, c31, f30, f31⟩ := id F3
  go_loop [12] (fun i => i = .int .i64 ((n : Int) - 1)) (fun i => 0)
  case atStart => rfl
  case round =>
    subst hrel
    rcases Nat.eq_zero_or_pos n with h0 | h0
    · subst h0
      rw [show ((0 : Nat) : Int) - 1 = -1 from rfl]
      go_wp2_with (go_at_call 11; refine (tinted_any _).mono ?_; rintro e w' ⟨rfl, hb6⟩)
      go_ret
      exact ⟨rfl, Bw.step GB.out hb6⟩
    · go_wp2_with (go_at_call 11; refine (tinted_any _).mono ?_; rintro e w' ⟨rfl, hb6⟩)
      go_ret
      exact ⟨rfl, Bw.step GB.out hb6⟩
set_option maxRecDepth 100000 in
set_option maxHeartbeats 2000000 in
theorem walkBytesBad (b lv : Int) (A : Option Addr) (n c : Nat) (w : World) (h2 : lv ≠ 2) (h4 : lv ≠ 4) :
    Calls Try.prog 4 #[.int .u8 b, .slice A n c, .int .i64 lv] w fun e w' => e = .returned (.bool true) ∧ Below w.heap.size w w' := by
  have x2 : (lv != 2) = true := by simpa using h2
  have x4 : (lv != 4) = true := by simpa using h4
  go_enter Try.func4, Try.ntmps4
  go_wp2_with fail
  refine (tiSplit_bad _ _ _ h2 h4).mono ?_; rintro e w1 ⟨rfl, hb1⟩
  go_wp2_with fail
  refine (tiJoin_bad _ _ _ _ _ h2 h4).mono ?_; rintro e w2 ⟨rfl, hb2⟩
  have F1 := ((Has.new w1 4 (-2) 23).below hb2).al (.cells #[.int .i64 4, .int .i64 (-2)] 23)
  have F2 := Has.new w2 4 (-2) 23
  have BW : Below w.heap.size w (w2.alloc (.cells #[.int .i64 4, .int .i64 (-2)] 23)) := by (repeat (first | exact Below.refl _ _ | assumption | refine Bw.al ?_ _ | refine Bw.step ?_ (by assumption) | refine Bw.drew ?_))
  go_wp2
  generalize w2.alloc (.cells #[.int .i64 4, .int .i64 (-2)] 23) = W at *
  generalize w1.heap.size = b1 at *
  generalize w2.heap.size = b2 at *
  have X1 := F1.ext
  have X2 := F2.ext
  (refine wp_region_ext (by kernel_rfl) (by kernel_rfl) ?_; (repeat (go_big_quiet_step ((first | (go_at_call 10; exact ext_alloc (refAt_any _ _ _)) | (go_at_call 11; exact ext_call (tinted_any _)))))); refine wpQuiet_nil ?_; intro W2 hw'; have hW2 := ext_below hw'; clear hw')
  go_wp2
  go_ret
  exact ⟨rfl, Bw.step BW hW2⟩
theorem walkTintBytesMatchSpec (b : Int) (A : Option Addr) (n c : Nat) (zs : List Int) (lv : Int) (w : World) (w0 : (Lit.int .u8 b).wf = true) (w1 : IsRow .u8 w A n c zs) (w2 : (Lit.int .i64 lv).wf = true) :
    Calls Try.prog 4 #[.int .u8 b, .slice A n c, .int .i64 lv] w fun e w' => e = .returned (.bool true) ∧ Below w.heap.size w w' := by
  obtain ⟨b, rfl⟩ := GF.of_z (wfu8 w0)
  obtain ⟨l, hR, hn, hc⟩ := w1.bytes3
  by_cases h2 : lv = 2
  · subst h2
    by_cases h : n = 8
    · subst h; exact walkBytes2 b A c l w hR
    · exact walkBytesLen2 b A n c w h hn
  · by_cases h4 : lv = 4
    · subst h4
      by_cases h : n = 4
      · subst h; exact walkBytes4 b A c l w hR
      · exact walkBytesLen4 b A n c w h hn
    · exact walkBytesBad _ lv A n c w h2 h4
end Go.Proofs.Ytbhcjgjeedhnaaa
