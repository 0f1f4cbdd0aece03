/- Walk of the product of polynomials. -/
import Derived.Test.YtpkaaiefnabfbaaPoB
namespace Go.Proofs.Ytpkaaiefnabfbaa
open Go.RowKit
set_option linter.unusedVariables false

/-- A part of the sum of a product's coefficient. -/
def pcv (f g : PS) : Nat → Nat → GF
  | 0, _ => 0
  | i + 1, j => pcv f g i j + if i ≤ j then f i * g (j - i) else 0
theorem pcv_shift (f g : PS) (m j : Nat) : pcv f g (m + 1) j = f 0 * g j + if j = 0 then 0 else pcv (tl f) g m (j - 1) := by
  induction m with
  | zero =>
    simp only [pcv, Nat.zero_le, if_true, Nat.sub_zero]
    rw [GF.zero_add]
    split <;> rw [GF.add_zero]
  | succ m ih =>
    rw [pcv, ih]
    by_cases h0 : j = 0
    · subst h0; rw [if_pos rfl, if_pos rfl, if_neg (by omega), GF.add_zero]
    · rw [if_neg h0, if_neg h0, pcv, GF.add_assoc]
      congr 2
      by_cases h1 : m + 1 ≤ j
      · rw [if_pos h1, if_pos (by omega)]
        show f (m + 1) * g (j - (m + 1)) = f (m + 1) * g (j - 1 - m)
        rw [show j - (m + 1) = j - 1 - m by omega]
      · rw [if_neg h1, if_neg (by omega)]
theorem pcv_cv (f g : PS) (n : Nat) : pcv f g (n + 1) n = cv f g n := by
  induction n generalizing f with
  | zero => rw [pcv_shift, if_pos rfl, GF.add_zero, cv_zero]
  | succ n ih => rw [pcv_shift, if_neg (by omega), cv_succ, Nat.add_sub_cancel, ih]
theorem pcv_more (f g : PS) {m n : Nat} (h : n + 1 ≤ m) : pcv f g m n = cv f g n := by
  induction m with
  | zero => omega
  | succ m ih =>
    by_cases e : n = m
    · subst e; exact pcv_cv f g n
    · rw [pcv, ih (by omega), if_neg (by omega), GF.add_zero]
theorem pcv_deg (f g : PS) {d m : Nat} (hd : degB d f) (h : d ≤ m) (j : Nat) : pcv f g m j = pcv f g d j := by
  induction m with
  | zero => rw [show d = 0 by omega]
  | succ m ih =>
    by_cases e : d = m + 1
    · rw [e]
    · rw [pcv, ih (by omega), hd m (by omega), GF.zero_mul]
      split <;> rw [GF.add_zero]
theorem pcv_full (f g : PS) {d : Nat} (hd : degB d f) (j : Nat) : pcv f g d j = cv f g j := by
  rcases Nat.le_total d (j + 1) with h | h
  · rw [← pcv_deg f g hd h, pcv_cv]
  · exact pcv_more f g h
/-- What mul has made: i rows are done, and k elements of the next one. -/
def muMid (a b : List GF) (i k : Nat) : List GF := (List.range (a.length + b.length - 1)).map fun j => pcv (cf a) (cf b) i j + if i ≤ j ∧ j - i < k then cf a i * cf b (j - i) else 0
theorem muMid_len (a b : List GF) (i k : Nat) : (muMid a b i k).length = a.length + b.length - 1 := by simp [muMid]
theorem muMid_get (a b : List GF) (i k : Nat) {j : Nat} (hj : j < a.length + b.length - 1) : (muMid a b i k).getD j 0 = pcv (cf a) (cf b) i j + if i ≤ j ∧ j - i < k then cf a i * cf b (j - i) else 0 := by simp [muMid, List.getD, hj]
theorem muMid_zero (a b : List GF) : muMid a b 0 0 = List.replicate (a.length + b.length - 1) 0 := by
  refine List.eq_replicate_iff.2 ⟨muMid_len a b 0 0, fun x hx => ?_⟩
  unfold muMid at hx
  obtain ⟨j, _, rfl⟩ := List.mem_map.1 hx
  rw [if_neg (by omega), GF.add_zero]; rfl
theorem muMid_step (a b : List GF) {i k : Nat} (hi : i < a.length) (hk : k < b.length) : (muMid a b i k).set (i + k) ((muMid a b i k).getD (i + k) 0 + cf a i * cf b k) = muMid a b i (k + 1) := by
  refine list_eq_getD (by rw [List.length_set, muMid_len, muMid_len]) fun j hj => ?_
  rw [List.length_set, muMid_len] at hj
  rw [muMid_get _ _ _ _ hj]
  by_cases e : i + k = j
  · subst e
    have h1 : ((muMid a b i k).set (i + k) ((muMid a b i k).getD (i + k) 0 + cf a i * cf b k)).getD (i + k) 0 = (muMid a b i k).getD (i + k) 0 + cf a i * cf b k := by
      simp [List.getD, muMid_len, hj]
    rw [h1, muMid_get _ _ _ _ hj, if_neg (by omega), if_pos (by omega), GF.add_zero, Nat.add_sub_cancel_left]
  · have h1 : ((muMid a b i k).set (i + k) ((muMid a b i k).getD (i + k) 0 + cf a i * cf b k)).getD j 0 = (muMid a b i k).getD j 0 := by simp [List.getD, e]
    rw [h1, muMid_get _ _ _ _ hj]
    by_cases h2 : i ≤ j ∧ j - i < k
    · rw [if_pos h2, if_pos (by omega)]
    · rw [if_neg h2, if_neg (by omega)]
theorem muMid_row (a b : List GF) {i : Nat} (hi : i < a.length) : muMid a b i b.length = muMid a b (i + 1) 0 := by
  refine list_eq_getD (by rw [muMid_len, muMid_len]) fun j hj => ?_
  rw [muMid_len] at hj
  rw [muMid_get _ _ _ _ hj, muMid_get _ _ _ _ hj, if_neg (show ¬ (i + 1 ≤ j ∧ j - (i + 1) < 0) by omega), GF.add_zero, pcv]
  congr 1
  by_cases h2 : i ≤ j
  · by_cases h3 : j - i < b.length
    · rw [if_pos ⟨h2, h3⟩, if_pos h2]
    · rw [if_neg (by omega), if_pos h2, degB_cf b (j - i) (by omega), GF.mul_zero]
  · rw [if_neg (by omega), if_neg h2]
theorem muMid_skip (a b : List GF) {i : Nat} (h : cf a i = 0) : muMid a b i 0 = muMid a b (i + 1) 0 := by
  refine list_eq_getD (by rw [muMid_len, muMid_len]) fun j hj => ?_
  rw [muMid_len] at hj
  rw [muMid_get _ _ _ _ hj, muMid_get _ _ _ _ hj, if_neg (show ¬ (i + 1 ≤ j ∧ j - (i + 1) < 0) by omega), if_neg (show ¬ (i ≤ j ∧ j - i < 0) by omega), pcv, h, GF.zero_mul]
  congr 1
  split <;> rw [GF.add_zero]
theorem muMid_end (a b : List GF) (ha : 0 < a.length) (hb : 0 < b.length) : trimL (muMid a b a.length 0) = prodP a b := by
  refine trim_ofF (degB_prod a b) fun j => ?_
  by_cases hj : j < a.length + b.length - 1
  · show (muMid a b a.length 0).getD j 0 = _
    rw [muMid_get _ _ _ _ hj, if_neg (by omega), GF.add_zero, pcv_full _ _ (degB_cf a)]
  · rw [degB_cf _ j (by rw [muMid_len]; omega)]
    have h1 := degB_cf a
    have h2 := degB_cf b
    rw [show a.length = (a.length - 1) + 1 by omega] at h1
    rw [show b.length = (b.length - 1) + 1 by omega] at h2
    exact (degB_cv h1 h2 j (by omega)).symm
theorem prodP_nil_left (b : List GF) : prodP [] b = [] := by
  refine Tr_ext (Tr_ofF _ _) Tr_nil ?_
  rw [cf_prodP, cf_nil]; funext i; exact cv_pz _ _
theorem prodP_nil_right (a : List GF) : prodP a [] = [] := by
  refine Tr_ext (Tr_ofF _ _) Tr_nil ?_
  rw [cf_prodP, cf_nil]; funext i; exact cv_pz_right _ _

set_option maxRecDepth 100000 in
set_option maxHeartbeats 2000000 in
theorem poMul_any (A B : Option Addr) (n m c d : Nat) (a b : List GF) (w : World) (ha : RdB w A n a) (hb : RdB w B m b) (hn : n ≤ 1000000) (hm : m ≤ 1000000) :
    Calls Try.prog 44 #[.slice A n c, .slice B m d] w fun e w' => ∃ A' c', e = .returned (.slice A' (prodP a b).length c') ∧ OwB w' w.heap.size (.slice A' (prodP a b).length c') (prodP a b) ∧ Below w.heap.size w w' := by
  have la := ha.1
  have lb := hb.1
  subst la lb
  rcases Nat.eq_zero_or_pos a.length with h0 | h0
  · have hz : a = [] := List.eq_nil_of_length_eq_zero h0
    subst hz
    rw [prodP_nil_left]
    clear h0 hn ha hb
    go_enter Try.func44, Try.ntmps44
    go_wp2
    go_ret
    exact ⟨none, 0, rfl, OwB.nil _ _, Below.refl _ _⟩
  rcases Nat.eq_zero_or_pos b.length with h1 | h1
  · have hz : b = [] := List.eq_nil_of_length_eq_zero h1
    subst hz
    rw [prodP_nil_right]
    have x0 : ((a.length : Int) == 0) = false := by rw [beq_eq_false_iff_ne]; omega
    clear h1 hm ha hb
    go_enter Try.func44, Try.ntmps44
    go_wp2
    go_ret
    exact ⟨none, 0, rfl, OwB.nil _ _, Below.refl _ _⟩
  have x0 : ((a.length : Int) == 0) = false := by rw [beq_eq_false_iff_ne]; omega
  have x1 : ((b.length : Int) == 0) = false := by rw [beq_eq_false_iff_ne]; omega
  have hmk := run_makeB (a.length + b.length - 1) (by omega)
  have hL : ((a.length + b.length - 1 : Nat) : Int) = (a.length : Int) + b.length - 1 := by omega
  rw [hL] at hmk
  have HA := Lib.hid ha
  have HB := Lib.hid hb
  have M0 : OwB (w.alloc (.cells (zerosB (a.length + b.length - 1)) 5)) w.heap.size (.slice (some ⟨w.heap.size, 0, none⟩) (a.length + b.length - 1) (a.length + b.length - 1)) (muMid a b 0 0) := by
    rw [muMid_zero]; exact OwB.new w _ _ (Nat.le_refl _) (by unfold maxLen; omega)
  have HM := Lib.hid M0
  have HE := Lib.hid (muMid_end a b h0 h1)
  have B0 := below_new w (.cells (zerosB (a.length + b.length - 1)) 5)
  generalize hN : a.length + b.length - 1 = N at *
  have hN2 : N = a.length + b.length - 1 := hN.symm
  have HN := Lib.hid hN2
  have hNle : N ≤ 2000000 := by omega
  clear ha hb M0 hL hN hN2
  go_enter Try.func44, Try.ntmps44
  go_wp2
  generalize w.alloc (.cells (zerosB N) 5) = W at *
  generalize hgg : w.heap.size = g at *
  have HG := Lib.hid hgg
  clear hmk hgg
  go_loopw [27] (fun i wr => ∃ k : Nat, k ≤ a.length ∧ i = .int .i64 k ∧ OwB wr g (.slice (some ⟨g, 0, none⟩) N N) (muMid a b k 0) ∧ Below g w wr) (fun i _ => a.length - (intOf i).toNat)
  case atStart => exact ⟨0, Nat.zero_le _, rfl, HM.out, B0⟩
  case round =>
    obtain ⟨i, hi, rfl, ho, hbw⟩ := hrel
    by_cases hlt : i < a.length
    · obtain ⟨ba, oa, rfl, hla, hca⟩ := (HA.out.below (by rw [HG.out]; exact hbw)).2 (by omega)
      have hxa : wr.cell? ⟨ba, oa + i, none⟩ = some (.int .u8 (cf a i).z) := hca i hlt
      have dlt : decide ((i : Int) < a.length) = true := by simp only [decide_eq_true_eq]; omega
      by_cases hz : cf a i = 0
      · rw [muMid_skip a b hz] at ho
        have HO := Lib.hid ho
        rw [hz] at hxa
        have z0 : ((0 : GF).z == 0) = true := rfl
        generalize (0 : GF).z = y at *
        clear hca hz ho
        go_wp2
        go_roundw
        case rel => exact ⟨i + 1, by omega, by go_num, HO.out, hbw⟩
        case measure => simp [intOf]; omega
      · have z0 : ((cf a i).z == 0) = false := by
          rw [beq_eq_false_iff_ne]; intro e; exact hz (GF.z_inj.1 e)
        obtain ⟨wo, rfl⟩ : ∃ wo : World, wo = wr := ⟨_, rfl⟩
        have HO := Lib.hid ho
        clear hz ho hca
        go_wp2
        go_loopw [36] (fun j wr => ∃ k : Nat, k ≤ b.length ∧ j = .int .i64 k ∧ OwB wr g (.slice (some ⟨g, 0, none⟩) N N) (muMid a b i k) ∧ Below g w wr) (fun j _ => b.length - (intOf j).toNat)
        case atStart => exact ⟨0, Nat.zero_le _, rfl, HO.out, hbw⟩
        case round =>
          obtain ⟨k, hk, rfl, ho, hbw2⟩ := hrel
          by_cases hlk : k < b.length
          · obtain ⟨bb, ob, rfl, hlb, hcb⟩ := (HB.out.below (by rw [HG.out]; exact hbw2)).2 (by omega)
            have hxb : wr.cell? ⟨bb, ob + k, none⟩ = some (.int .u8 (cf b k).z) := hcb k hlk
            have hikN : i + k < N := by rw [HN.out]; omega
            have hcl := ho.cellAt (i := i + k) hikN
            have hfz := ho.frozenAt (i + k)
            have hst := ho.set (i + k) ((muMid a b i k).getD (i + k) 0 + cf a i * cf b k)
            rw [muMid_step a b hlt hlk] at hst
            have HST := Lib.hid hst
            have HLT := Lib.hid ho.lt
            have dlk : decide ((k : Int) < b.length) = true := by simp only [decide_eq_true_eq]; omega
            generalize (muMid a b i k).getD (i + k) 0 = s at *
            generalize cf b k = y at *
            generalize cf a i = x at *
            have m1 := gM_z x y
            have m2 := gA_z s (x * y)
            have z1 := GF.z_bd x
            have z2 := GF.z_bd y
            have z3 := GF.z_bd s
            have z4 := GF.z_bd (x * y)
            have w1 : IntKind.i64.wrap ((i : Int) + k) = i + k := IntWalk.i64_in _ (by omega)
            have w2 : ((i : Int) + k).toNat = i + k := by omega
            have w3 : 0 ≤ (i : Int) + k := by omega
            have w4 : (i : Int) + k < N := by omega
            clear hst hcb ho
            go_wp2
            go_region_with ((first | (go_at_call 27; refine (gfMul_any _ _ _ (by omega) (by omega)).mono ?_; rintro e w' ⟨rfl, rfl⟩) | (go_at_call 28; refine (gfAdd_any _ _ _ (by omega) (by omega)).mono ?_; rintro e w' ⟨rfl, rfl⟩)))
            all_goals
              go_wp2
              go_roundw
              case rel => exact ⟨k + 1, by omega, by go_num, HST.out, (hbw2.setCell HLT.out.1 _).drew⟩
              case measure => simp [intOf]; omega
          · obtain rfl : k = b.length := by omega
            rw [muMid_row a b hlt] at ho
            have HO2 := Lib.hid ho
            clear ho
            go_wp2
            go_roundw
            case rel => exact ⟨i + 1, by omega, by go_num, HO2.out, hbw2⟩
            case measure => simp [intOf]; omega
    · obtain rfl : i = a.length := by omega
      have HT := Lib.hid (poTrim_any _ _ _ _ _ ho.rd.1 (Nat.le_refl _) (by omega))
      rw [HE.out] at HT
      have HBW := Lib.hid hbw
      clear ho
      go_wp2_with fail
      refine HT.out.mono ?_
      rintro e w3 ⟨A3, c3, rfl, ho3, hb3⟩
      go_wp2
      go_ret
      refine ⟨A3, c3, rfl, ?_, ?_⟩
      · rw [HG.out]; exact own_base ho3 (by rw [← HG.out]; exact HBW.out.size)
      · rw [HG.out]
        have hb4 : Below w.heap.size w wr := by rw [HG.out]; exact HBW.out
        have := Bw.step hb4 hb3
        rwa [HG.out] at this
end Go.Proofs.Ytpkaaiefnabfbaa
