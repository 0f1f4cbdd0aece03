/- Walks of the reference's polynomials: Product, Value, Derive. -/
import Derived.Test.YtpkaaiefnabfbaaRfA
namespace Go.Proofs.Ytpkaaiefnabfbaa
open Go.RowKit
set_option linter.unusedVariables false

theorem RdB.ext {w : World} {A : Option Addr} {n : Nat} {l : List GF} (h : RdB w A n l) (x : Ext w) : RdB x.w A n l := h.below x.below
theorem cell_ext {w : World} {b o : Nat} {v : Value} (hb : b < w.heap.size) (h : w.cell? ⟨b, o, none⟩ = some v) (x : Ext w) : x.w.cell? ⟨b, o, none⟩ = some v := (x.below.cell (p := ⟨b, o, none⟩) hb).trans h
theorem rd_cell {w : World} {A : Option Addr} {n : Nat} {l : List GF} (h : RdB w A n l) {i : Nat} (hi : i < n) : ∃ b off, A = some ⟨b, off, none⟩ ∧ b < w.heap.size ∧ w.cell? ⟨b, off + i, none⟩ = some (.int .u8 (cf l i).z) := by
  obtain ⟨b, off, e, hb, hc⟩ := h.2 (by omega)
  exact ⟨b, off, e, hb, hc i hi⟩
def proUp (a b : List GF) (k : Nat) : List GF := (List.range k).map (cv (cf a) (cf b))
theorem proUp_succ (a b : List GF) (k : Nat) : proUp a b (k + 1) = proUp a b k ++ [cv (cf a) (cf b) k] := by simp [proUp, List.range_succ]
theorem proUp_len (a b : List GF) (k : Nat) : (proUp a b k).length = k := by simp [proUp]
theorem pcv_end (a b : List GF) {i n : Nat} (h : i = min (n + 1) a.length) : pcv (cf a) (cf b) i n = cv (cf a) (cf b) n := by
  rcases Nat.le_total (n + 1) a.length with h1 | h1
  · rw [h, Nat.min_eq_left h1, pcv_cv]
  · rw [h, Nat.min_eq_right h1, pcv_full _ _ (degB_cf a)]
set_option maxRecDepth 100000 in
set_option maxHeartbeats 2000000 in
theorem rProd_any (A B : Option Addr) (n m c d : Nat) (a b : List GF) (w : World) (ha : RdB w A n a) (hb : RdB w B m b) (hn : n ≤ 1099511) (hm : m ≤ 1099511) :
    Calls Try.prog 21 #[.slice A n c, .slice B m d] w fun e w' => ∃ A' c', e = .returned (.slice A' (prodP a b).length c') ∧ OwB w' w.heap.size (.slice A' (prodP a b).length c') (prodP a b) ∧ Below w.heap.size w w' := by
  have la := ha.1
  have lb := hb.1
  subst la lb
  have HA := Lib.hid ha
  have HB := Lib.hid hb
  clear ha hb
  go_enter Try.func21, Try.ntmps21
  go_wp2
  go_loopw [5, 6] (fun v i wr => ∃ k : Nat, k ≤ a.length + b.length ∧ i = .int .i64 k ∧ OwB wr w.heap.size v (proUp a b k) ∧ Below w.heap.size w wr) (fun _ i _ => a.length + b.length - (intOf i).toNat)
  case atStart => exact ⟨0, Nat.zero_le _, rfl, OwB.nil _ _, Below.refl _ _⟩
  case round =>
    obtain ⟨k, hk, rfl, ho, hbw⟩ := hrel
    by_cases hlt : k < a.length + b.length
    · have hl := proUp_len a b k
      have HS := Lib.hid (proUp_succ a b k)
      generalize hL : proUp a b k = L at *
      have HL2 := Lib.hid hL
      have hk2 : L.length ≤ 1099511627000 := by omega
      obtain ⟨wo, rfl⟩ : ∃ wo : World, wo = wr := ⟨_, rfl⟩
      have HO := Lib.hid ho
      have HW := Lib.hid hbw
      have d0 : decide ((k : Int) < (a.length : Int) + b.length) = true := by simp only [decide_eq_true_eq]; omega
      clear ho hL hl hbw
      go_wp2
      go_loopw [7, 8] (fun s i wr => ∃ j : Nat, j ≤ min (k + 1) a.length ∧ i = .int .i64 j ∧ s = .int .u8 (pcv (cf a) (cf b) j k).z ∧ Below wo.heap.size wo wr) (fun _ i _ => min (k + 1) a.length - (intOf i).toNat)
      case atStart => exact ⟨0, Nat.zero_le _, rfl, rfl, Below.refl _ _⟩
      case round =>
        obtain ⟨j, hj, rfl, rfl, hbi⟩ := hrel
        have hbw2 := Bw.step HW.out hbi
        by_cases hlj : j < min (k + 1) a.length
        · have d1 : decide ((j : Int) ≤ k) = true := by simp only [decide_eq_true_eq]; omega
          have d2 : decide ((j : Int) < a.length) = true := by simp only [decide_eq_true_eq]; omega
          have HP := Lib.hid (show pcv (cf a) (cf b) (j + 1) k = pcv (cf a) (cf b) j k + cf a j * cf b (k - j) by rw [pcv, if_pos (by omega)])
          have RB := Lib.hid (HB.out.below hbw2)
          obtain ⟨ba, oa, rfl, hla, hca⟩ := rd_cell (HA.out.below hbw2) (i := j) (by omega)
          have hcx := fun x => cell_ext hla hca x
          have ws : IntKind.i64.wrap ((k : Int) - j) = ((k - j : Nat) : Int) := by rw [IntWalk.i64_in _ (by omega)]; omega
          have xz := xorZ (pcv (cf a) (cf b) j k) (cf a j * cf b (k - j))
          generalize pcv (cf a) (cf b) j k = s at *
          go_wp2
          (refine wp_region_ext (by kernel_rfl) (by kernel_rfl) ?_; (repeat (go_big_quiet_step ((first | (go_at_call 42; exact ext_same (rCoef_any _ b.length d b (k - j) _ (RB.out.ext _) (by omega) (by omega))) | (go_at_call 40; exact ext_same (rMulZ _ _ _)))))); refine wpQuiet_nil ?_; intro W5 hw'; have hW5 := ext_below hw'; clear hw')
          clear hcx hca
          go_wp2
          go_roundw
          case rel => exact ⟨j + 1, by omega, by go_num, by rw [HP.out], Bw.step hbi hW5⟩
          case measure => simp [intOf]; omega
        · have HE := Lib.hid (pcv_end a b (i := j) (n := k) (by omega))
          have hP : OwB wr w.heap.size _ L := HO.out.below hbi
          have HP := Lib.hid hP
          have hsz := hbw2.size
          rw [HE.out]
          clear hP
          by_cases h1 : k < j
          all_goals
            first
              | (have d1 : decide ((j : Int) ≤ k) = false := by simp only [decide_eq_false_iff_not]; omega)
              | (have d1 : decide ((j : Int) ≤ k) = true := by simp only [decide_eq_true_eq]; omega
                 have d2 : decide ((j : Int) < a.length) = false := by simp only [decide_eq_false_iff_not]; omega)
            go_wp2_with (at_builtin; refine wpList_app1 wr rfl (.tmp 41) (.tmp 43) rfl w.heap.size _ L HP.out rfl (cv (cf a) (cf b) k) _ rfl hk2 hsz ?_; intro v1 w1 ho1 hb1)
            have hb2 := hbw2.trans hb1
            go_wp2
            go_roundw
            case rel => exact ⟨k + 1, by omega, by go_num, by rw [HS.out]; exact ho1, hb2⟩
            case measure => simp [intOf]; omega
    · obtain rfl : k = a.length + b.length := by omega
      have hl := proUp_len a b (a.length + b.length)
      obtain ⟨A1, c1, rfl⟩ := ho.form
      have HT := Lib.hid (rTrim_any _ _ _ _ _ ho.rd.1 ho.cap.1 (by omega))
      rw [show trimL (proUp a b (a.length + b.length)) = prodP a b from rfl] at HT
      have d1 : decide (((a.length + b.length : Nat) : Int) < (a.length : Int) + b.length) = false := by simp only [decide_eq_false_iff_not]; omega
      clear ho hl
      go_wp2_with fail
      refine HT.out.mono ?_
      rintro e w3 ⟨A3, c3, rfl, ho3, hb3⟩
      go_wp2
      go_ret
      exact ⟨A3, c3, rfl, own_base ho3 hbw.size, Bw.step hbw hb3⟩

/-- Powers. -/
def gpow (x : GF) : Nat → GF
  | 0 => 1
  | k + 1 => gpow x k * x
theorem valL_snoc (l : List GF) (c x : GF) : valL (l ++ [c]) x = valL l x + c * gpow x l.length := by
  induction l with
  | nil => show 0 * x + c = 0 + c * 1; rw [GF.zero_mul, GF.mul_one]
  | cons y l ih =>
    show valL (l ++ [c]) x * x + y = (valL l x * x + y) + c * (gpow x l.length * x)
    rw [ih, GF.add_mul, GF.mul_assoc]
    ac_rfl
theorem valL_take (a : List GF) (x : GF) {k : Nat} (hk : k < a.length) : valL (a.take (k + 1)) x = valL (a.take k) x + cf a k * gpow x k := by
  rw [trim_take hk, valL_snoc, List.length_take, Nat.min_eq_left (by omega)]; rfl
set_option maxHeartbeats 1000000 in
theorem rValue_any (A : Option Addr) (n c : Nat) (a : List GF) (x : GF) (w : World) (ha : RdB w A n a) (hn : n ≤ 1099511627) :
    Calls Try.prog 32 #[.slice A n c, .int .u8 x.z] w fun e w' => e = .returned (.int .u8 (valL a x).z) ∧ w = w' := by
  have la := ha.1
  subst la
  have HA := Lib.hid ha
  clear ha
  go_enter Try.func32, Try.ntmps32
  go_wp2
  go_loop [5, 6, 7] (fun s p i => ∃ k : Nat, k ≤ a.length ∧ i = .int .i64 k ∧ s = .int .u8 (valL (a.take k) x).z ∧ p = .int .u8 (gpow x k).z) (fun _ _ i => a.length - (intOf i).toNat)
  case atStart => exact ⟨0, Nat.zero_le _, rfl, rfl, rfl⟩
  case round =>
    obtain ⟨k, hk, rfl, rfl, rfl⟩ := hrel
    by_cases hlt : k < a.length
    · obtain ⟨ba, oa, rfl, hla, hca⟩ := rd_cell HA.out (i := k) hlt
      have HV := Lib.hid (valL_take a x hlt)
      have xz := xorZ (valL (a.take k) x) (cf a k * gpow x k)
      generalize valL (a.take k) x = s at *
      go_wp2_with (first
        | (go_at_call 40; (with_reducible refine (rMulZ (cf a k) (gpow x k) _).mono ?_); rintro e w' ⟨rfl, rfl⟩)
        | (go_at_call 40; (with_reducible refine (rMulZ (gpow x k) x _).mono ?_); rintro e w' ⟨rfl, rfl⟩))
      go_round
      case rel => exact ⟨k + 1, by omega, by go_num, by rw [HV.out], rfl⟩
      case measure => simp [intOf]; omega
    · obtain rfl : k = a.length := by omega
      rw [List.take_of_length_le (Nat.le_refl _)]
      go_wp2
      go_ret
      exact ⟨rfl, rfl⟩

/-- The derivative. -/
def dvS (f : PS) : PS := fun i => if i % 2 = 0 then f (i + 1) else 0
def derP (a : List GF) : List GF := ofF (a.length - 1) (dvS (cf a))
theorem degB_der (a : List GF) : degB (a.length - 1) (dvS (cf a)) := fun i hi => by
  unfold dvS; split
  · exact degB_cf a _ (by omega)
  · rfl
theorem cf_derP (a : List GF) : cf (derP a) = dvS (cf a) := cf_ofF (degB_der a)
def derUp (a : List GF) (k : Nat) : List GF := (List.range k).map (dvS (cf a))
theorem derUp_succ (a : List GF) (k : Nat) : derUp a (k + 1) = derUp a k ++ [dvS (cf a) k] := by simp [derUp, List.range_succ]
theorem derUp_len (a : List GF) (k : Nat) : (derUp a k).length = k := by simp [derUp]
def times (y : GF) (k : Nat) : GF := if k % 2 = 1 then y else 0
theorem times_succ (y : GF) (k : Nat) : times y (k + 1) = times y k + y := by
  unfold times
  rcases Nat.mod_two_eq_zero_or_one k with h | h
  · rw [if_pos (by omega), if_neg (by omega), GF.zero_add]
  · rw [if_neg (by omega), if_pos (by omega), GF.add_self]
theorem times_dvS (f : PS) (i : Nat) : times (f (i + 1)) (i + 1) = dvS f i := by
  unfold times dvS
  rcases Nat.mod_two_eq_zero_or_one i with h | h
  · rw [if_pos (by omega), if_pos h]
  · rw [if_neg (by omega), if_neg (by omega)]
set_option maxRecDepth 100000 in
set_option maxHeartbeats 2000000 in
theorem rDerive_any (A : Option Addr) (n c : Nat) (a : List GF) (w : World) (ha : RdB w A n a) (hn : n ≤ 1099511) :
    Calls Try.prog 31 #[.slice A n c] w fun e w' => ∃ A' c', e = .returned (.slice A' (derP a).length c') ∧ OwB w' w.heap.size (.slice A' (derP a).length c') (derP a) ∧ Below w.heap.size w w' := by
  have la := ha.1
  subst la
  have HA := Lib.hid ha
  clear ha
  go_enter Try.func31, Try.ntmps31
  go_wp2
  go_loopw [3, 4] (fun v i wr => ∃ k : Nat, k ≤ a.length - 1 ∧ i = .int .i64 k ∧ OwB wr w.heap.size v (derUp a k) ∧ Below w.heap.size w wr) (fun _ i _ => a.length - (intOf i).toNat)
  case atStart => exact ⟨0, Nat.zero_le _, rfl, OwB.nil _ _, Below.refl _ _⟩
  case round =>
    obtain ⟨k, hk, rfl, ho, hbw⟩ := hrel
    by_cases hlt : k < a.length - 1
    · have hl := derUp_len a k
      have HS := Lib.hid (derUp_succ a k)
      generalize hL : derUp a k = L at *
      have hk2 : L.length ≤ 1099511627000 := by omega
      obtain ⟨ba, oa, rfl, hla, hca⟩ := rd_cell (HA.out.below hbw) (i := k + 1) (by omega)
      have HE := Lib.hid (times_dvS (cf a) k)
      have hsz := hbw.size
      have HO := Lib.hid ho
      have d0 : decide ((k : Int) + 1 < (a.length : Int)) = true := by simp only [decide_eq_true_eq]; omega
      clear ho hL hl
      go_wp2
      go_loop [5, 6] (fun s i => ∃ j : Nat, j ≤ k + 1 ∧ i = .int .i64 j ∧ s = .int .u8 (times (cf a (k + 1)) j).z) (fun _ i => k + 1 - (intOf i).toNat)
      case atStart => exact ⟨0, Nat.zero_le _, rfl, rfl⟩
      case round =>
        obtain ⟨j, hj, rfl, rfl⟩ := hrel
        by_cases hlj : j < k + 1
        · have HT := Lib.hid (times_succ (cf a (k + 1)) j)
          have xz := xorZ (times (cf a (k + 1)) j) (cf a (k + 1))
          generalize times (cf a (k + 1)) j = s at *
          go_wp2
          go_round
          case rel => exact ⟨j + 1, by omega, by go_num, by rw [HT.out]⟩
          case measure => simp [intOf]; omega
        · obtain rfl : j = k + 1 := by omega
          rw [HE.out]
          go_wp2_with (at_builtin; refine wpList_app1 wr rfl (.tmp 26) (.tmp 28) rfl w.heap.size _ L HO.out rfl (dvS (cf a) k) _ rfl hk2 hsz ?_; intro v1 w1 ho1 hb1)
          have hb2 := hbw.trans hb1
          go_wp2
          go_roundw
          case rel => exact ⟨k + 1, by omega, by go_num, by rw [HS.out]; exact ho1, hb2⟩
          case measure => simp [intOf]; omega
    · obtain rfl : k = a.length - 1 := by omega
      have hl := derUp_len a (a.length - 1)
      obtain ⟨A1, c1, rfl⟩ := ho.form
      have HT := Lib.hid (rTrim_any _ _ _ _ _ ho.rd.1 ho.cap.1 (by omega))
      rw [show trimL (derUp a (a.length - 1)) = derP a from rfl] at HT
      clear ho hl
      go_wp2_with fail
      refine HT.out.mono ?_
      rintro e w3 ⟨A3, c3, rfl, ho3, hb3⟩
      go_wp2
      go_ret
      exact ⟨A3, c3, rfl, own_base ho3 hbw.size, Bw.step hbw hb3⟩
end Go.Proofs.Ytpkaaiefnabfbaa
