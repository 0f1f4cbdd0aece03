/- Walks of Go's slices: Reverse of bytes in place; Clone, Contains of integers; and of rs.isZero. -/
import Derived.Test.YtpkaaiefnabfbabSlA
import Derived.Test.YtpkaaiefnabfbabQuT
import Derived.Test.YtpkaaiefnabfbabRfB
namespace Go.Proofs.Ytpkaaiefnabfbab
open Go.RowKit
set_option linter.unusedVariables false

/-- A list after k exchanges from both ends. -/
def rvMid (l : List GF) (k : Nat) : List GF := (List.range l.length).map fun i => if i < k ∨ l.length - 1 - k < i then l.getD (l.length - 1 - i) 0 else l.getD i 0
theorem rvMid_len (l : List GF) (k : Nat) : (rvMid l k).length = l.length := by simp [rvMid]
theorem rvMid_get (l : List GF) (k : Nat) {i : Nat} (hi : i < l.length) : (rvMid l k).getD i 0 = if i < k ∨ l.length - 1 - k < i then l.getD (l.length - 1 - i) 0 else l.getD i 0 := by simp [rvMid, List.getD, hi]
theorem rvMid_zero (l : List GF) : rvMid l 0 = l :=
  list_eq_getD (rvMid_len l 0) fun i hi => by rw [rvMid_len] at hi; rw [rvMid_get _ _ hi, if_neg (by omega)]
theorem getD_set_self {l : List GF} {i : Nat} (h : i < l.length) (x : GF) : (l.set i x).getD i 0 = x := by simp [List.getD, h]
theorem getD_set_other {l : List GF} {i j : Nat} (h : i ≠ j) (x : GF) : (l.set i x).getD j 0 = l.getD j 0 := by simp [List.getD, h]
theorem rvMid_step (l : List GF) {k : Nat} (hk : k < l.length - 1 - k) : ((rvMid l k).set k (l.getD (l.length - 1 - k) 0)).set (l.length - 1 - k) (l.getD k 0) = rvMid l (k + 1) := by
  refine list_eq_getD (by simp [rvMid_len]) fun i hi => ?_
  simp only [List.length_set, rvMid_len] at hi
  rw [rvMid_get _ _ hi]
  by_cases e1 : i = l.length - 1 - k
  · subst e1
    rw [getD_set_self (by rw [List.length_set, rvMid_len]; exact hi), if_pos (by omega)]
    congr 1; omega
  · rw [getD_set_other (Ne.symm e1)]
    by_cases e2 : i = k
    · subst e2
      rw [getD_set_self (by rw [rvMid_len]; exact hi), if_pos (by omega)]
    · rw [getD_set_other (Ne.symm e2), rvMid_get _ _ hi]
      by_cases h : i < k ∨ l.length - 1 - k < i
      · rw [if_pos h, if_pos (by omega)]
      · rw [if_neg h, if_neg (by omega)]
theorem rvMid_end (l : List GF) {k : Nat} (hk : ¬ k < l.length - 1 - k) (hk2 : k ≤ l.length) : rvMid l k = l.reverse := by
  refine list_eq_getD (by simp [rvMid_len]) fun i hi => ?_
  rw [rvMid_len] at hi
  rw [rvMid_get _ _ hi]
  have e : l.reverse.getD i 0 = l.getD (l.length - 1 - i) 0 := by simp [List.getD, List.getElem?_reverse hi]
  rw [e]
  split
  · rfl
  · congr 1; omega
set_option maxRecDepth 100000 in
set_option maxHeartbeats 2000000 in
theorem reverseB_any (g n c B : Nat) (l : List GF) (w : World) (ho : OwB w B (.slice (some ⟨g, 0, none⟩) n c) l) (hn : n ≤ 1000000) :
    Calls Try.prog 37 #[.slice (some ⟨g, 0, none⟩) n c] w fun e w' => (∃ v, e = .returned v) ∧ OwB w' B (.slice (some ⟨g, 0, none⟩) n c) l.reverse ∧ Below B w w' := by
  have hl := ho.rd.2
  subst hl
  have HO := Lib.hid ho
  clear ho
  go_enter Try.func37, Try.ntmps37
  go_wp2
  go_loopw [2, 3] (fun i j wr => ∃ k : Nat, k ≤ l.length ∧ i = .int .i64 k ∧ j = .int .i64 ((l.length : Int) - 1 - k) ∧ OwB wr B (.slice (some ⟨g, 0, none⟩) l.length c) (rvMid l k) ∧ Below B w wr) (fun i _ _ => l.length - (intOf i).toNat)
  case atStart => exact ⟨0, Nat.zero_le _, rfl, by simp, by rw [rvMid_zero]; exact HO.out, Below.refl _ _⟩
  case round =>
    obtain ⟨k, hk, rfl, rfl, ho, hbw⟩ := hrel
    by_cases hlt : k < l.length - 1 - k
    · obtain ⟨j, hj⟩ : ∃ j : Nat, j = l.length - 1 - k := ⟨_, rfl⟩
      have ej : (l.length : Int) - 1 - k = (j : Int) := by omega
      have HJ := Lib.hid (show (l.length : Int) - 1 - ((k + 1 : Nat) : Int) = (j : Int) - 1 by omega)
      rw [ej]
      have c1 := ho.cellAt (i := k) (by omega)
      have c2 := ho.cellAt (i := j) (by omega)
      rw [rvMid_get _ _ (by omega), if_neg (by omega)] at c1
      rw [rvMid_get _ _ (by omega), if_neg (by omega)] at c2
      have f1 := ho.frozenAt k
      have f2 := ho.frozenAt j
      have hst := (ho.set k (l.getD j 0)).set j (l.getD k 0)
      rw [hj, rvMid_step l hlt, ← hj] at hst
      have HST := Lib.hid hst
      have HLT := Lib.hid ho.lt.1
      have hjl : j < l.length := by omega
      have hkl : k < l.length := by omega
      have hkj : k < j := by omega
      generalize l.getD j 0 = y at *
      generalize l.getD k 0 = x at *
      have wk : 0 ≤ (k : Int) ∧ (k : Int) < l.length := by omega
      have wj : 0 ≤ (j : Int) ∧ (j : Int) < l.length := by omega
      clear hst ho ej hj
      go_wp2
      go_region
      all_goals
        go_wp2
        go_roundw
        case rel => exact ⟨k + 1, by omega, by go_num, by rw [HJ.out], HST.out, ((hbw.setCell (p := ⟨g, k, none⟩) HLT.out _).setCell (p := ⟨g, j, none⟩) HLT.out _).drew⟩
        case measure => simp [intOf]; omega
    · rw [rvMid_end l hlt hk] at ho
      have hge : (l.length : Int) - 1 - k ≤ k := by omega
      generalize (l.length : Int) - 1 - k = J at *
      go_wp2
      go_end0
      exact ⟨⟨_, rfl⟩, ho, hbw⟩
/-! ### Integers -/
theorem OwI.nil' (w : World) (B : Nat) : OwI w B (.slice none 0 0) [] := OwI.nil w B
theorem OwI.empty (w : World) (B : Nat) (hB : B ≤ w.heap.size) : OwI (w.alloc (.cells #[] 3)) B (.slice (some ⟨w.heap.size, 0, none⟩) 0 0) [] := World.ownsRow_made w #[] 0 hB (Nat.zero_le _) rfl
theorem run_nilI (w : World) (A : Option Addr) (n c : Nat) : (binOp .eql 32 (.slice A n c) (.slice none 0 0)).run Try.prog w = .ok (.bool A.isNone) w :=
  Lib.run_eql_slice_nil w _ _ A n c 0 0 Try.underlying32
set_option maxHeartbeats 1000000 in
theorem cloneI_any (A : Option Addr) (n c : Nat) (l : List Int) (w : World) (hl : RdI w A n l) (hn : n ≤ 1099511627) :
    Calls Try.prog 63 #[.slice A n c] w fun e w' => ∃ A' c', e = .returned (.slice A' l.length c') ∧ OwI w' w.heap.size (.slice A' l.length c') l ∧ Below w.heap.size w w' := by
  have hq := fun w => run_nilI w A n c
  rcases A with _ | ad
  · have h0 : n = 0 := by
      rcases Nat.eq_zero_or_pos n with h | h
      · exact h
      · obtain ⟨b, off, e, _⟩ := hl.2 h; cases e
    subst h0
    have hz : l = [] := List.eq_nil_of_length_eq_zero hl.1
    subst hz
    go_enter Try.func63, Try.ntmps63
    go_wp2
    go_ret
    exact ⟨none, 0, rfl, OwI.nil _ _, Below.refl _ _⟩
  · have hlen : l.length ≤ 1099511627 := by have := hl.1; omega
    go_enter Try.func63, Try.ntmps63
    go_wp2_with (at_builtin; refine wpList_appI _ rfl (.tmp 5) (.tmp 6) rfl w.heap.size (.slice (some ⟨w.heap.size, 0, none⟩) 0 0) [] rfl (OwI.empty w _ (Nat.le_refl _)) (some ad) n c l rfl (hl.al _) ?_ ?_ ?_; (simp; omega); (simp); intro v1 w1 ho1 hg1 hat1)
    obtain ⟨A1, c1, hv1⟩ := ho1.form
    go_ret
    rw [List.nil_append] at ho1 hv1
    subst hv1
    exact ⟨A1, c1, rfl, ho1, (below_new _ _).trans (grown_below hg1 (OwI.empty w _ (Nat.le_refl _)) (by simp))⟩
theorem rdI_cell {w : World} {A : Option Addr} {n : Nat} {l : List Int} (h : RdI w A n l) {i : Nat} (hi : i < n) : ∃ b off, A = some ⟨b, off, none⟩ ∧ b < w.heap.size ∧ w.cell? ⟨b, off + i, none⟩ = some (.int .i64 (l.getD i 0)) := by
  obtain ⟨b, off, e, hb, hc⟩ := h.2 (by omega)
  exact ⟨b, off, e, hb, hc i hi⟩
theorem memI_at {l : List Int} {x : Int} (h : x ∈ l) : ∃ j, j < l.length ∧ l.getD j 0 = x ∧ ∀ i, i < j → l.getD i 0 ≠ x := by
  induction l with
  | nil => simp at h
  | cons y l ih =>
    by_cases e : y = x
    · exact ⟨0, by simp, by simpa using e, fun i hi => by omega⟩
    · have hx : x ∈ l := by
        rcases List.mem_cons.1 h with h | h
        · exact absurd h.symm e
        · exact h
      obtain ⟨j, h1, h2, h3⟩ := ih hx
      refine ⟨j + 1, by simp; omega, by simpa using h2, fun i hi => ?_⟩
      cases i with
      | zero => simpa using e
      | succ i => simpa using h3 i (by omega)
theorem not_memI_at {l : List Int} {x : Int} (h : x ∉ l) (i : Nat) (hi : i < l.length) : l.getD i 0 ≠ x := by
  intro e; apply h; rw [← e]; simp [List.getD, List.getElem?_eq_getElem hi]
set_option maxHeartbeats 1000000 in
theorem indexI_in (A : Option Addr) (n c : Nat) (l : List Int) (x : Int) (j : Nat) (w : World) (hl : RdI w A n l) (hn : n ≤ 1099511627) (hj : j < n) (hx : l.getD j 0 = x) (hb : ∀ i, i < j → l.getD i 0 ≠ x) :
    Calls Try.prog 74 #[.slice A n c, .int .i64 x] w fun e w' => e = .returned (.int .i64 j) ∧ w = w' := by
  have HL := Lib.hid hl
  have HX := Lib.hid hx
  have HB := Lib.hid hb
  clear hl hx hb
  go_enter Try.func74, Try.ntmps74
  go_wp2
  go_loop [8] (fun i => ∃ k : Nat, k ≤ j ∧ i = .int .i64 k) (fun i => n - (intOf i).toNat)
  case atStart => exact ⟨0, Nat.zero_le _, rfl⟩
  case round =>
    obtain ⟨k, hk, rfl⟩ := hrel
    obtain ⟨b, off, rfl, hlb, hcc⟩ := rdI_cell HL.out (i := k) (by omega)
    by_cases hlt : k < j
    · have z0 : (x == l.getD k 0) = false := by rw [beq_eq_false_iff_ne]; exact fun e => HB.out k hlt e.symm
      generalize l.getD k 0 = y at *
      go_wp2
      go_round
      case rel => exact ⟨k + 1, by omega, by go_num⟩
      case measure => simp [intOf]; omega
    · obtain rfl : k = j := by omega
      have z0 : (x == l.getD k 0) = true := by rw [beq_iff_eq]; exact HX.out.symm
      generalize l.getD k 0 = y at *
      go_wp2
      go_ret
      exact ⟨rfl, rfl⟩
set_option maxHeartbeats 1000000 in
theorem indexI_out (A : Option Addr) (n c : Nat) (l : List Int) (x : Int) (w : World) (hl : RdI w A n l) (hn : n ≤ 1099511627) (hb : ∀ i, i < n → l.getD i 0 ≠ x) :
    Calls Try.prog 74 #[.slice A n c, .int .i64 x] w fun e w' => e = .returned (.int .i64 (-1)) ∧ w = w' := by
  have HL := Lib.hid hl
  have HB := Lib.hid hb
  clear hl hb
  go_enter Try.func74, Try.ntmps74
  go_wp2
  go_loop [8] (fun i => ∃ k : Nat, k ≤ n ∧ i = .int .i64 k) (fun i => n - (intOf i).toNat)
  case atStart => exact ⟨0, Nat.zero_le _, rfl⟩
  case round =>
    obtain ⟨k, hk, rfl⟩ := hrel
    by_cases hlt : k < n
    · obtain ⟨b, off, rfl, hlb, hcc⟩ := rdI_cell HL.out (i := k) (by omega)
      have z0 : (x == l.getD k 0) = false := by rw [beq_eq_false_iff_ne]; exact fun e => HB.out k hlt e.symm
      generalize l.getD k 0 = y at *
      go_wp2
      go_round
      case rel => exact ⟨k + 1, by omega, by go_num⟩
      case measure => simp [intOf]; omega
    · obtain rfl : k = n := by omega
      go_wp2
      go_ret
      exact ⟨rfl, rfl⟩
def hasI (l : List Int) (x : Int) : Bool := decide (x ∈ l)
set_option maxHeartbeats 1000000 in
theorem containsI_any (A : Option Addr) (n c : Nat) (l : List Int) (x : Int) (w : World) (hl : RdI w A n l) (hn : n ≤ 1099511627) :
    Calls Try.prog 64 #[.slice A n c, .int .i64 x] w fun e w' => e = .returned (.bool (hasI l x)) ∧ w = w' := by
  by_cases h : x ∈ l
  · rw [show hasI l x = true from decide_eq_true h]
    obtain ⟨j, h1, h2, h3⟩ := memI_at h
    have HC := Lib.hid (indexI_in A n c l x j w hl hn (by rw [← hl.1]; exact h1) h2 h3)
    clear hl h h2 h3
    go_enter Try.func64, Try.ntmps64
    go_wp2_with (go_at_call 74; refine HC.out.mono ?_; rintro e w' ⟨rfl, rfl⟩)
    go_ret
    exact ⟨rfl, rfl⟩
  · rw [show hasI l x = false from decide_eq_false h]
    have HC := Lib.hid (indexI_out A n c l x w hl hn (fun i hi => not_memI_at h i (by rw [hl.1]; exact hi)))
    clear hl h
    go_enter Try.func64, Try.ntmps64
    go_wp2_with (go_at_call 74; refine HC.out.mono ?_; rintro e w' ⟨rfl, rfl⟩)
    go_ret
    exact ⟨rfl, rfl⟩
/-! ### isZero -/
def zeroB (l : List GF) : Bool := decide (∀ i, i < l.length → l.getD i 0 = 0)
theorem not_zero_at {l : List GF} (h : ¬ ∀ i, i < l.length → l.getD i 0 = 0) : ∃ j, j < l.length ∧ l.getD j 0 ≠ 0 ∧ ∀ i, i < j → l.getD i 0 = 0 := by
  induction l with
  | nil => exact absurd (fun i hi => absurd hi (Nat.not_lt_zero _)) h
  | cons y l ih =>
    by_cases e : y = 0
    · have h2 : ¬ ∀ i, i < l.length → l.getD i 0 = 0 := by
        intro h2
        apply h
        intro i hi
        cases i with
        | zero => simpa using e
        | succ i => simpa using h2 i (by simpa using hi)
      obtain ⟨j, h3, h4, h5⟩ := ih h2
      refine ⟨j + 1, by simp; omega, by simpa using h4, fun i hi => ?_⟩
      cases i with
      | zero => simpa using e
      | succ i => simpa using h5 i (by omega)
    · exact ⟨0, by simp, by simpa using e, fun i hi => by omega⟩
set_option maxHeartbeats 1000000 in
theorem isZero1_any (x : GF) (b : Bool) (w : World) (hb : (x.z != 0) = b) :
    Calls Try.prog 71 #[.int .u8 x.z] w fun e w' => e = .returned (.bool b) ∧ w = w' := by
  go_enter Try.func71, Try.ntmps71
  go_wp2
  go_ret
  exact ⟨rfl, rfl⟩
set_option maxHeartbeats 1000000 in
theorem indexF_in (A : Option Addr) (n c : Nat) (l : List GF) (j : Nat) (w : World) (hl : RdB w A n l) (hn : n ≤ 1099511627) (hj : j < n) (hx : l.getD j 0 ≠ 0) (hb : ∀ i, i < j → l.getD i 0 = 0) :
    Calls Try.prog 77 #[.slice A n c, .func (.func 71) #[] #[]] w fun e w' => e = .returned (.int .i64 j) ∧ w = w' := by
  have HL := Lib.hid hl
  have HX := Lib.hid hx
  have HB := Lib.hid hb
  clear hl hx hb
  go_enter Try.func77, Try.ntmps77
  go_wp2
  go_loop [8] (fun i => ∃ k : Nat, k ≤ j ∧ i = .int .i64 k) (fun i => n - (intOf i).toNat)
  case atStart => exact ⟨0, Nat.zero_le _, rfl⟩
  case round =>
    obtain ⟨k, hk, rfl⟩ := hrel
    obtain ⟨b, off, rfl, hlb, hcc⟩ := rd_cell HL.out (i := k) (by omega)
    by_cases hlt : k < j
    · have z0 : ((cf l k).z != 0) = false := by rw [show cf l k = 0 from HB.out k hlt]; rfl
      have HC := Lib.hid (fun w => isZero1_any (cf l k) false w z0)
      clear z0
      generalize cf l k = y at *
      go_wp2_with (go_at_call 71; refine (HC.out _).mono ?_; rintro e w' ⟨rfl, rfl⟩)
      go_round
      case rel => exact ⟨k + 1, by omega, by go_num⟩
      case measure => simp [intOf]; omega
    · obtain rfl : k = j := by omega
      have z0 : ((cf l k).z != 0) = true := by rw [bne_iff_ne]; exact fun e => HX.out (GF.z_inj.1 e)
      have HC := Lib.hid (fun w => isZero1_any (cf l k) true w z0)
      clear z0
      generalize cf l k = y at *
      go_wp2_with (go_at_call 71; refine (HC.out _).mono ?_; rintro e w' ⟨rfl, rfl⟩)
      go_ret
      exact ⟨rfl, rfl⟩
set_option maxHeartbeats 1000000 in
theorem indexF_out (A : Option Addr) (n c : Nat) (l : List GF) (w : World) (hl : RdB w A n l) (hn : n ≤ 1099511627) (hb : ∀ i, i < n → l.getD i 0 = 0) :
    Calls Try.prog 77 #[.slice A n c, .func (.func 71) #[] #[]] w fun e w' => e = .returned (.int .i64 (-1)) ∧ w = w' := by
  have HL := Lib.hid hl
  have HB := Lib.hid hb
  clear hl hb
  go_enter Try.func77, Try.ntmps77
  go_wp2
  go_loop [8] (fun i => ∃ k : Nat, k ≤ n ∧ i = .int .i64 k) (fun i => n - (intOf i).toNat)
  case atStart => exact ⟨0, Nat.zero_le _, rfl⟩
  case round =>
    obtain ⟨k, hk, rfl⟩ := hrel
    by_cases hlt : k < n
    · obtain ⟨b, off, rfl, hlb, hcc⟩ := rd_cell HL.out (i := k) (by omega)
      have z0 : ((cf l k).z != 0) = false := by rw [show cf l k = 0 from HB.out k hlt]; rfl
      have HC := Lib.hid (fun w => isZero1_any (cf l k) false w z0)
      clear z0
      generalize cf l k = y at *
      go_wp2_with (go_at_call 71; refine (HC.out _).mono ?_; rintro e w' ⟨rfl, rfl⟩)
      go_round
      case rel => exact ⟨k + 1, by omega, by go_num⟩
      case measure => simp [intOf]; omega
    · obtain rfl : k = n := by omega
      go_wp2
      go_ret
      exact ⟨rfl, rfl⟩
set_option maxHeartbeats 1000000 in
theorem isZero_any (A : Option Addr) (n c : Nat) (l : List GF) (w : World) (hl : RdB w A n l) (hn : n ≤ 1099511627) :
    Calls Try.prog 52 #[.slice A n c] w fun e w' => e = .returned (.bool (zeroB l)) ∧ w = w' := by
  by_cases h : ∀ i, i < l.length → l.getD i 0 = 0
  · rw [show zeroB l = true from decide_eq_true h]
    have HC := Lib.hid (indexF_out A n c l w hl hn (fun i hi => h i (by rw [hl.1]; exact hi)))
    have C2 : Calls Try.prog 70 #[.slice A n c, .func (.func 71) #[] #[]] w fun e w' => e = .returned (.bool false) ∧ w = w' := by
      clear hl h
      go_enter Try.func70, Try.ntmps70
      go_wp2_with (go_at_call 77; refine HC.out.mono ?_; rintro e w' ⟨rfl, rfl⟩)
      go_ret
      exact ⟨rfl, rfl⟩
    have H2 := Lib.hid C2
    clear hl h C2
    go_enter Try.func52, Try.ntmps52
    go_wp2_with (go_at_call 70; refine H2.out.mono ?_; rintro e w' ⟨rfl, rfl⟩)
    go_ret
    exact ⟨rfl, rfl⟩
  · rw [show zeroB l = false from decide_eq_false h]
    obtain ⟨j, h1, h2, h3⟩ := not_zero_at h
    have HC := Lib.hid (indexF_in A n c l j w hl hn (by rw [← hl.1]; exact h1) h2 h3)
    have C2 : Calls Try.prog 70 #[.slice A n c, .func (.func 71) #[] #[]] w fun e w' => e = .returned (.bool true) ∧ w = w' := by
      clear hl h h2 h3
      go_enter Try.func70, Try.ntmps70
      go_wp2_with (go_at_call 77; refine HC.out.mono ?_; rintro e w' ⟨rfl, rfl⟩)
      go_ret
      exact ⟨rfl, rfl⟩
    have H2 := Lib.hid C2
    clear hl h h2 h3 C2
    go_enter Try.func52, Try.ntmps52
    go_wp2_with (go_at_call 70; refine H2.out.mono ?_; rintro e w' ⟨rfl, rfl⟩)
    go_ret
    exact ⟨rfl, rfl⟩
end Go.Proofs.Ytpkaaiefnabfbab
