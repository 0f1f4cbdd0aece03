/- Walks of the package poly: add and mul. -/
import Derived.Test.YtpkaaiefnabfbaaPoA
namespace Go.Proofs.Ytpkaaiefnabfbaa
open Go.RowKit
set_option linter.unusedVariables false

theorem OwB.head {w : World} {B n c : Nat} {A : Option Addr} {l : List GF} (h : OwB w B (.slice A n c) l) (hn : 0 < n) : ∃ g, A = some ⟨g, 0, none⟩ := by
  rcases h.2 with ⟨h1, h2⟩ | ⟨g, cap, cur, hv, _⟩
  · injection h1 with e1 e2 e3; omega
  · injection hv with e1 e2 e3; exact ⟨g, e1⟩
/-- The polynomial with given coefficients below n. -/
def ofF (n : Nat) (f : PS) : List GF := trimL ((List.range n).map f)
theorem cf_range (n : Nat) (f : PS) (i : Nat) : cf ((List.range n).map f) i = if i < n then f i else 0 := by
  unfold cf
  by_cases h : i < n
  · simp [List.getD, h]
  · simp [List.getD, h]
theorem cf_ofF {n : Nat} {f : PS} (h : degB n f) : cf (ofF n f) = f := by
  unfold ofF
  rw [cf_trim]
  funext i
  rw [cf_range]
  split
  · rfl
  · rename_i hi; exact (h i (by omega)).symm
theorem Tr_ofF (n : Nat) (f : PS) : Tr (ofF n f) := Tr_trim _
theorem trim_ofF {l : List GF} {n : Nat} {f : PS} (hd : degB n f) (h : ∀ i, cf l i = f i) : trimL l = ofF n f :=
  Tr_ext (Tr_trim l) (Tr_ofF n f) (by rw [cf_trim, cf_ofF hd]; exact funext h)
def sumP (a b : List GF) : List GF := ofF (max a.length b.length) (padd (cf a) (cf b))
def prodP (a b : List GF) : List GF := ofF (a.length + b.length) (cv (cf a) (cf b))
theorem degB_sum (a b : List GF) : degB (max a.length b.length) (padd (cf a) (cf b)) := fun i hi => by
  show cf a i + cf b i = 0
  rw [degB_cf a i (by omega), degB_cf b i (by omega), GF.add_zero]
theorem degB_prod (a b : List GF) : degB (a.length + b.length) (cv (cf a) (cf b)) := by
  rcases a with _ | ⟨x, a⟩
  · rw [cf_nil]; exact fun i _ => cv_pz _ i
  · rcases b with _ | ⟨y, b⟩
    · rw [cf_nil]; exact fun i _ => cv_pz_right _ i
    · have := degB_cv (m := a.length) (n := b.length) (degB_cf (x :: a)) (degB_cf (y :: b))
      exact degB_mono this (by simp only [List.length_cons]; omega)
theorem cf_sumP (a b : List GF) : cf (sumP a b) = padd (cf a) (cf b) := cf_ofF (degB_sum a b)
theorem cf_prodP (a b : List GF) : cf (prodP a b) = cv (cf a) (cf b) := cf_ofF (degB_prod a b)
theorem sumP_comm (a b : List GF) : sumP a b = sumP b a := by
  refine Tr_ext (Tr_ofF _ _) (Tr_ofF _ _) ?_
  rw [cf_sumP, cf_sumP]; funext i; exact GF.add_comm _ _

def adMid (a b : List GF) (k : Nat) : List GF := (List.range a.length).map fun i => if i < k then cf a i + cf b i else cf a i
theorem adMid_len (a b : List GF) (k : Nat) : (adMid a b k).length = a.length := by simp [adMid]
theorem adMid_get (a b : List GF) (k : Nat) {i : Nat} (hi : i < a.length) : (adMid a b k).getD i 0 = if i < k then cf a i + cf b i else cf a i := by simp [adMid, List.getD, hi]
theorem list_eq_getD {a b : List GF} (hl : a.length = b.length) (h : ∀ i, i < a.length → a.getD i 0 = b.getD i 0) : a = b := by
  apply List.ext_getElem hl
  intro i h1 h2
  have := h i h1
  simpa [List.getD, List.getElem?_eq_getElem h1, List.getElem?_eq_getElem h2] using this
theorem adMid_zero (a b : List GF) : adMid a b 0 = a :=
  list_eq_getD (adMid_len a b 0) fun i hi => by rw [adMid_get _ _ _ (by rw [adMid_len] at hi; exact hi), if_neg (by omega)]; rfl
theorem adMid_step (a b : List GF) {k : Nat} (hk : k < a.length) : (adMid a b k).set k (cf a k + cf b k) = adMid a b (k + 1) := by
  refine list_eq_getD (by rw [List.length_set, adMid_len, adMid_len]) fun i hi => ?_
  rw [List.length_set, adMid_len] at hi
  rw [adMid_get _ _ _ hi]
  by_cases e : k = i
  · subst e
    rw [if_pos (by omega)]
    simp [List.getD, adMid_len, hk]
  · have h1 : ((adMid a b k).set k (cf a k + cf b k)).getD i 0 = (adMid a b k).getD i 0 := by simp [List.getD, e]
    rw [h1, adMid_get _ _ _ hi]
    by_cases h2 : i < k
    · rw [if_pos h2, if_pos (by omega)]
    · rw [if_neg h2, if_neg (by omega)]
theorem adMid_end (a b : List GF) (h : b.length ≤ a.length) : trimL (adMid a b b.length) = sumP a b := by
  refine trim_ofF (degB_sum a b) fun i => ?_
  show cf (adMid a b b.length) i = cf a i + cf b i
  by_cases hi : i < a.length
  · show (adMid a b b.length).getD i 0 = _
    rw [adMid_get _ _ _ hi]
    split
    · rfl
    · rw [degB_cf b i (by omega), GF.add_zero]
  · rw [degB_cf _ i (by rw [adMid_len]; omega), degB_cf a i (by omega), degB_cf b i (by omega), GF.add_zero]

set_option maxHeartbeats 1000000 in
theorem poAdd_any (A B : Option Addr) (n m c d : Nat) (a b : List GF) (w : World) (ha : RdB w A n a) (hb : RdB w B m b) (hn : n ≤ 1099511627776) (hm : m ≤ 1099511627776) :
    Calls Try.prog 45 #[.slice A n c, .slice B m d] w fun e w' => ∃ A' c', e = .returned (.slice A' (sumP a b).length c') ∧ OwB w' w.heap.size (.slice A' (sumP a b).length c') (sumP a b) ∧ Below w.heap.size w w' := by
  have fin : ∀ (a b : List GF) (w1 w2 : World) (A1 : Option Addr) (c1 : Nat), b.length ≤ a.length → a.length ≤ 1099511627776 → Below w1.heap.size w1 w2 → OwB w2 w1.heap.size (.slice A1 a.length c1) (adMid a b b.length) →
      Calls Try.prog 37 #[.slice A1 a.length c1] w2 fun e w' => ∃ A' c', e = .returned (.slice A' (sumP a b).length c') ∧ OwB w' w1.heap.size (.slice A' (sumP a b).length c') (sumP a b) ∧ Below w1.heap.size w1 w' := by
    intro a b w1 w2 A1 c1 h1 h2 hb ho
    rw [← adMid_end a b h1]
    exact (poTrim_any A1 a.length c1 _ w2 ho.rd.1 ho.cap.1 h2).mono fun e w' ⟨A', c', he, ho', hb'⟩ => ⟨A', c', he, own_base ho' hb.size, Bw.step hb hb'⟩
  have FIN := Lib.hid fin
  clear fin
  have key : ∀ (A B : Option Addr) (n m c d : Nat) (a b : List GF), RdB w A n a → RdB w B m b → n ≤ 1099511627776 → m ≤ n → True := fun _ _ _ _ _ _ _ _ _ _ _ _ => trivial
  clear key
  have la := ha.1
  have lb := hb.1
  subst la lb
  by_cases hlt : a.length < b.length
  · have HS := Lib.hid (sumP_comm a b)
    have HA := Lib.hid ha
    have HB := Lib.hid hb
    clear ha hb
    go_enter Try.func45, Try.ntmps45
    go_wp2_with fail
    refine (cloneB_any _ _ _ _ _ HB.out hm).mono ?_; rintro e w1 ⟨A1, c1, rfl, ho1, hb1⟩
    go_wp2
    go_loopw [19] (fun i wr => ∃ k : Nat, k ≤ a.length ∧ i = .int .i64 k ∧ OwB wr w.heap.size (.slice A1 b.length c1) (adMid b a k) ∧ Below w.heap.size w wr) (fun i _ => a.length - (intOf i).toNat)
    case atStart => exact ⟨0, Nat.zero_le _, rfl, by rw [adMid_zero]; exact ho1, hb1⟩
    case round =>
      obtain ⟨k, hk, rfl, ho, hbw⟩ := hrel
      by_cases hlk : k < a.length
      · obtain ⟨g, rfl⟩ := ho.head (by omega)
        have hcl := ho.cellAt (i := k) (by omega)
        have hfz := ho.frozenAt k
        have hst := ho.set k (cf b k + cf a k)
        rw [adMid_step _ _ (by omega)] at hst
        rw [adMid_get _ _ _ (by omega), if_neg (by omega)] at hcl
        obtain ⟨bb, oo, rfl, hlb, hcc⟩ := (HA.out.below hbw).2 (by omega)
        have hx : wr.cell? ⟨bb, oo + k, none⟩ = some (.int .u8 (cf a k).z) := hcc k hlk
        have HST := Lib.hid hst
        have HLT := Lib.hid ho.lt
        have m1 := gA_z (cf b k) (cf a k)
        have z1 := GF.z_bd (cf b k)
        have z2 := GF.z_bd (cf a k)
        generalize cf b k = y at *
        generalize cf a k = x at *
        clear hst hcc ho
        go_wp2_with (go_at_call 28; refine (gfAdd_any _ _ _ (by omega) (by omega)).mono ?_; rintro e w' ⟨rfl, rfl⟩)
        go_roundw
        case rel => exact ⟨k + 1, by omega, by go_num, HST.out, Bw.set hbw HLT.out.1 _⟩
        case measure => simp [intOf]; omega
      · obtain rfl : k = a.length := by omega
        have HO := Lib.hid (FIN.out b a w wr A1 c1 (by omega) hm hbw ho)
        clear ho hbw
        go_wp2_with fail
        refine HO.out.mono ?_
        rintro e w3 ⟨A3, c3, rfl, ho3, hb3⟩
        go_wp2
        go_ret
        rw [HS.out]
        exact ⟨A3, c3, rfl, ho3, hb3⟩
  · have HA := Lib.hid ha
    have HB := Lib.hid hb
    clear ha hb
    go_enter Try.func45, Try.ntmps45
    go_wp2_with fail
    refine (cloneB_any _ _ _ _ _ HA.out hn).mono ?_; rintro e w1 ⟨A1, c1, rfl, ho1, hb1⟩
    go_wp2
    go_loopw [19] (fun i wr => ∃ k : Nat, k ≤ b.length ∧ i = .int .i64 k ∧ OwB wr w.heap.size (.slice A1 a.length c1) (adMid a b k) ∧ Below w.heap.size w wr) (fun i _ => b.length - (intOf i).toNat)
    case atStart => exact ⟨0, Nat.zero_le _, rfl, by rw [adMid_zero]; exact ho1, hb1⟩
    case round =>
      obtain ⟨k, hk, rfl, ho, hbw⟩ := hrel
      by_cases hlk : k < b.length
      · obtain ⟨g, rfl⟩ := ho.head (by omega)
        have hcl := ho.cellAt (i := k) (by omega)
        have hfz := ho.frozenAt k
        have hst := ho.set k (cf a k + cf b k)
        rw [adMid_step _ _ (by omega)] at hst
        rw [adMid_get _ _ _ (by omega), if_neg (by omega)] at hcl
        obtain ⟨bb, oo, rfl, hlb, hcc⟩ := (HB.out.below hbw).2 (by omega)
        have hx : wr.cell? ⟨bb, oo + k, none⟩ = some (.int .u8 (cf b k).z) := hcc k hlk
        have HST := Lib.hid hst
        have HLT := Lib.hid ho.lt
        have m1 := gA_z (cf a k) (cf b k)
        have z1 := GF.z_bd (cf a k)
        have z2 := GF.z_bd (cf b k)
        generalize cf a k = y at *
        generalize cf b k = x at *
        clear hst hcc ho
        go_wp2_with (go_at_call 28; refine (gfAdd_any _ _ _ (by omega) (by omega)).mono ?_; rintro e w' ⟨rfl, rfl⟩)
        go_roundw
        case rel => exact ⟨k + 1, by omega, by go_num, HST.out, Bw.set hbw HLT.out.1 _⟩
        case measure => simp [intOf]; omega
      · obtain rfl : k = b.length := by omega
        have HO := Lib.hid (FIN.out a b w wr A1 c1 (by omega) hn hbw ho)
        clear ho hbw
        go_wp2_with fail
        refine HO.out.mono ?_
        rintro e w3 ⟨A3, c3, rfl, ho3, hb3⟩
        go_wp2
        go_ret
        exact ⟨A3, c3, rfl, ho3, hb3⟩
end Go.Proofs.Ytpkaaiefnabfbaa
