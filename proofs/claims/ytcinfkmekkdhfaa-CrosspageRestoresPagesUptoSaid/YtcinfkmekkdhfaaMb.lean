/- Texts of this proof, laid together: XPoC, XVal, XRfA, XRfB, XDiv, XPlA, XPlB, XGfD, XRsA, XRsC, XRsB. -/
import Derived.Test.YtcinfkmekkdhfaaMa
import Derived.RangeFuncBox
import Derived.RangeFuncLeaves
import Derived.RangeFuncCalls
import Derived.Shelf.Abstract
import Derived.WalkKit
import Derived.OwnWalkIn
import Derived.TacticsInMore
import Derived.LoopNIn
import Derived.LoopIn
/- Walk of the product of polynomials. -/
namespace Go.Proofs.Ytcinfkmekkdhfaa
open Go.RowKit
set_option linter.unusedVariables false

/-- A part of the sum of a product's coefficient. -/
def pcv (f g : PS) : Nat → Nat → GF
  | 0, _ => 0
  | i + 1, j => pcv f g i j + if i ≤ j then f i * g (j - i) else 0
theorem pcv_shift (f g : PS) (m j : Nat) : pcv f g (m + 1) j = f 0 * g j + if j = 0 then 0 else pcv (tl f) g m (j - 1) := by
  induction m with
  | zero =>
    simp only [pcv, Nat.zero_le, if_true, Nat.sub_zero]
    rw [GF.zero_add]
    split <;> rw [GF.add_zero]
  | succ m ih =>
    rw [pcv, ih]
    by_cases h0 : j = 0
    · subst h0; rw [if_pos rfl, if_pos rfl, if_neg (by omega), GF.add_zero]
    · rw [if_neg h0, if_neg h0, pcv, GF.add_assoc]
      congr 2
      by_cases h1 : m + 1 ≤ j
      · rw [if_pos h1, if_pos (by omega)]
        show f (m + 1) * g (j - (m + 1)) = f (m + 1) * g (j - 1 - m)
        rw [show j - (m + 1) = j - 1 - m by omega]
      · rw [if_neg h1, if_neg (by omega)]
theorem pcv_cv (f g : PS) (n : Nat) : pcv f g (n + 1) n = cv f g n := by
  induction n generalizing f with
  | zero => rw [pcv_shift, if_pos rfl, GF.add_zero, cv_zero]
  | succ n ih => rw [pcv_shift, if_neg (by omega), cv_succ, Nat.add_sub_cancel, ih]
theorem pcv_more (f g : PS) {m n : Nat} (h : n + 1 ≤ m) : pcv f g m n = cv f g n := by
  induction m with
  | zero => omega
  | succ m ih =>
    by_cases e : n = m
    · subst e; exact pcv_cv f g n
    · rw [pcv, ih (by omega), if_neg (by omega), GF.add_zero]
theorem pcv_deg (f g : PS) {d m : Nat} (hd : degB d f) (h : d ≤ m) (j : Nat) : pcv f g m j = pcv f g d j := by
  induction m with
  | zero => rw [show d = 0 by omega]
  | succ m ih =>
    by_cases e : d = m + 1
    · rw [e]
    · rw [pcv, ih (by omega), hd m (by omega), GF.zero_mul]
      split <;> rw [GF.add_zero]
theorem pcv_full (f g : PS) {d : Nat} (hd : degB d f) (j : Nat) : pcv f g d j = cv f g j := by
  rcases Nat.le_total d (j + 1) with h | h
  · rw [← pcv_deg f g hd h, pcv_cv]
  · exact pcv_more f g h
/-- What mul has made: i rows are done, and k elements of the next one. -/
def muMid (a b : List GF) (i k : Nat) : List GF := (List.range (a.length + b.length - 1)).map fun j => pcv (cf a) (cf b) i j + if i ≤ j ∧ j - i < k then cf a i * cf b (j - i) else 0
theorem muMid_len (a b : List GF) (i k : Nat) : (muMid a b i k).length = a.length + b.length - 1 := by simp [muMid]
theorem muMid_get (a b : List GF) (i k : Nat) {j : Nat} (hj : j < a.length + b.length - 1) : (muMid a b i k).getD j 0 = pcv (cf a) (cf b) i j + if i ≤ j ∧ j - i < k then cf a i * cf b (j - i) else 0 := by simp [muMid, List.getD, hj]
theorem muMid_zero (a b : List GF) : muMid a b 0 0 = List.replicate (a.length + b.length - 1) 0 := by
  refine List.eq_replicate_iff.2 ⟨muMid_len a b 0 0, fun x hx => ?_⟩
  unfold muMid at hx
  obtain ⟨j, _, rfl⟩ := List.mem_map.1 hx
  rw [if_neg (by omega), GF.add_zero]; rfl
theorem muMid_step (a b : List GF) {i k : Nat} (hi : i < a.length) (hk : k < b.length) : (muMid a b i k).set (i + k) ((muMid a b i k).getD (i + k) 0 + cf a i * cf b k) = muMid a b i (k + 1) := by
  refine list_eq_getD (by rw [List.length_set, muMid_len, muMid_len]) fun j hj => ?_
  rw [List.length_set, muMid_len] at hj
  rw [muMid_get _ _ _ _ hj]
  by_cases e : i + k = j
  · subst e
    have h1 : ((muMid a b i k).set (i + k) ((muMid a b i k).getD (i + k) 0 + cf a i * cf b k)).getD (i + k) 0 = (muMid a b i k).getD (i + k) 0 + cf a i * cf b k := by
      simp [List.getD, muMid_len, hj]
    rw [h1, muMid_get _ _ _ _ hj, if_neg (by omega), if_pos (by omega), GF.add_zero, Nat.add_sub_cancel_left]
  · have h1 : ((muMid a b i k).set (i + k) ((muMid a b i k).getD (i + k) 0 + cf a i * cf b k)).getD j 0 = (muMid a b i k).getD j 0 := by simp [List.getD, e]
    rw [h1, muMid_get _ _ _ _ hj]
    by_cases h2 : i ≤ j ∧ j - i < k
    · rw [if_pos h2, if_pos (by omega)]
    · rw [if_neg h2, if_neg (by omega)]
theorem muMid_row (a b : List GF) {i : Nat} (hi : i < a.length) : muMid a b i b.length = muMid a b (i + 1) 0 := by
  refine list_eq_getD (by rw [muMid_len, muMid_len]) fun j hj => ?_
  rw [muMid_len] at hj
  rw [muMid_get _ _ _ _ hj, muMid_get _ _ _ _ hj, if_neg (show ¬ (i + 1 ≤ j ∧ j - (i + 1) < 0) by omega), GF.add_zero, pcv]
  congr 1
  by_cases h2 : i ≤ j
  · by_cases h3 : j - i < b.length
    · rw [if_pos ⟨h2, h3⟩, if_pos h2]
    · rw [if_neg (by omega), if_pos h2, degB_cf b (j - i) (by omega), GF.mul_zero]
  · rw [if_neg (by omega), if_neg h2]
theorem muMid_skip (a b : List GF) {i : Nat} (h : cf a i = 0) : muMid a b i 0 = muMid a b (i + 1) 0 := by
  refine list_eq_getD (by rw [muMid_len, muMid_len]) fun j hj => ?_
  rw [muMid_len] at hj
  rw [muMid_get _ _ _ _ hj, muMid_get _ _ _ _ hj, if_neg (show ¬ (i + 1 ≤ j ∧ j - (i + 1) < 0) by omega), if_neg (show ¬ (i ≤ j ∧ j - i < 0) by omega), pcv, h, GF.zero_mul]
  congr 1
  split <;> rw [GF.add_zero]
theorem muMid_end (a b : List GF) (ha : 0 < a.length) (hb : 0 < b.length) : trimL (muMid a b a.length 0) = prodP a b := by
  refine trim_ofF (degB_prod a b) fun j => ?_
  by_cases hj : j < a.length + b.length - 1
  · show (muMid a b a.length 0).getD j 0 = _
    rw [muMid_get _ _ _ _ hj, if_neg (by omega), GF.add_zero, pcv_full _ _ (degB_cf a)]
  · rw [degB_cf _ j (by rw [muMid_len]; omega)]
    have h1 := degB_cf a
    have h2 := degB_cf b
    rw [show a.length = (a.length - 1) + 1 by omega] at h1
    rw [show b.length = (b.length - 1) + 1 by omega] at h2
    exact (degB_cv h1 h2 j (by omega)).symm
theorem prodP_nil_left (b : List GF) : prodP [] b = [] := by
  refine Tr_ext (Tr_ofF _ _) Tr_nil ?_
  rw [cf_prodP, cf_nil]; funext i; exact cv_pz _ _
theorem prodP_nil_right (a : List GF) : prodP a [] = [] := by
  refine Tr_ext (Tr_ofF _ _) Tr_nil ?_
  rw [cf_prodP, cf_nil]; funext i; exact cv_pz_right _ _

set_option maxRecDepth 100000 in
set_option maxHeartbeats 2000000 in
theorem poMul_any (A B : Option Addr) (n m c d : Nat) (a b : List GF) (w : World) (ha : RdB w A n a) (hb : RdB w B m b) (hn : n ≤ 1000000) (hm : m ≤ 1000000) :
    Calls Try.prog 55 #[.slice A n c, .slice B m d] w fun e w' => ∃ A' c', e = .returned (.slice A' (prodP a b).length c') ∧ OwB w' w.heap.size (.slice A' (prodP a b).length c') (prodP a b) ∧ Below w.heap.size w w' := by
  have la := ha.1
  have lb := hb.1
  subst la lb
  rcases Nat.eq_zero_or_pos a.length with h0 | h0
  · have hz : a = [] := List.eq_nil_of_length_eq_zero h0
    subst hz
    rw [prodP_nil_left]
    clear h0 hn ha hb
    go_enter Try.func55, Try.ntmps55
    go_wp2
    go_ret
    exact ⟨none, 0, rfl, OwB.nil _ _, Below.refl _ _⟩
  rcases Nat.eq_zero_or_pos b.length with h1 | h1
  · have hz : b = [] := List.eq_nil_of_length_eq_zero h1
    subst hz
    rw [prodP_nil_right]
    have x0 : ((a.length : Int) == 0) = false := by rw [beq_eq_false_iff_ne]; omega
    clear h1 hm ha hb
    go_enter Try.func55, Try.ntmps55
    go_wp2
    go_ret
    exact ⟨none, 0, rfl, OwB.nil _ _, Below.refl _ _⟩
  have x0 : ((a.length : Int) == 0) = false := by rw [beq_eq_false_iff_ne]; omega
  have x1 : ((b.length : Int) == 0) = false := by rw [beq_eq_false_iff_ne]; omega
  have hmk := run_makeB (a.length + b.length - 1) (by omega)
  have hL : ((a.length + b.length - 1 : Nat) : Int) = (a.length : Int) + b.length - 1 := by omega
  rw [hL] at hmk
  have HA := Lib.hid ha
  have HB := Lib.hid hb
  have M0 : OwB (w.alloc (.cells (zerosB (a.length + b.length - 1)) 5)) w.heap.size (.slice (some ⟨w.heap.size, 0, none⟩) (a.length + b.length - 1) (a.length + b.length - 1)) (muMid a b 0 0) := by
    rw [muMid_zero]; exact OwB.new w _ _ (Nat.le_refl _) (by unfold maxLen; omega)
  have HM := Lib.hid M0
  have HE := Lib.hid (muMid_end a b h0 h1)
  have B0 := below_new w (.cells (zerosB (a.length + b.length - 1)) 5)
  generalize hN : a.length + b.length - 1 = N at *
  have hN2 : N = a.length + b.length - 1 := hN.symm
  have HN := Lib.hid hN2
  have hNle : N ≤ 2000000 := by omega
  clear ha hb M0 hL hN hN2
  go_enter Try.func55, Try.ntmps55
  go_wp2
  generalize w.alloc (.cells (zerosB N) 5) = W at *
  generalize hgg : w.heap.size = g at *
  have HG := Lib.hid hgg
  clear hmk hgg
  go_loopw [27] (fun i wr => ∃ k : Nat, k ≤ a.length ∧ i = .int .i64 k ∧ OwB wr g (.slice (some ⟨g, 0, none⟩) N N) (muMid a b k 0) ∧ Below g w wr) (fun i _ => a.length - (intOf i).toNat)
  case atStart => exact ⟨0, Nat.zero_le _, rfl, HM.out, B0⟩
  case round =>
    obtain ⟨i, hi, rfl, ho, hbw⟩ := hrel
    by_cases hlt : i < a.length
    · obtain ⟨ba, oa, rfl, hla, hca⟩ := (HA.out.below (by rw [HG.out]; exact hbw)).2 (by omega)
      have hxa : wr.cell? ⟨ba, oa + i, none⟩ = some (.int .u8 (cf a i).z) := hca i hlt
      have dlt : decide ((i : Int) < a.length) = true := by simp only [decide_eq_true_eq]; omega
      by_cases hz : cf a i = 0
      · rw [muMid_skip a b hz] at ho
        have HO := Lib.hid ho
        rw [hz] at hxa
        have z0 : ((0 : GF).z == 0) = true := rfl
        generalize (0 : GF).z = y at *
        clear hca hz ho
        go_wp2
        go_roundw
        case rel => exact ⟨i + 1, by omega, by go_num, HO.out, hbw⟩
        case measure => simp [intOf]; omega
      · have z0 : ((cf a i).z == 0) = false := by
          rw [beq_eq_false_iff_ne]; intro e; exact hz (GF.z_inj.1 e)
        obtain ⟨wo, rfl⟩ : ∃ wo : World, wo = wr := ⟨_, rfl⟩
        have HO := Lib.hid ho
        clear hz ho hca
        go_wp2
        go_loopw [36] (fun j wr => ∃ k : Nat, k ≤ b.length ∧ j = .int .i64 k ∧ OwB wr g (.slice (some ⟨g, 0, none⟩) N N) (muMid a b i k) ∧ Below g w wr) (fun j _ => b.length - (intOf j).toNat)
        case atStart => exact ⟨0, Nat.zero_le _, rfl, HO.out, hbw⟩
        case round =>
          obtain ⟨k, hk, rfl, ho, hbw2⟩ := hrel
          by_cases hlk : k < b.length
          · obtain ⟨bb, ob, rfl, hlb, hcb⟩ := (HB.out.below (by rw [HG.out]; exact hbw2)).2 (by omega)
            have hxb : wr.cell? ⟨bb, ob + k, none⟩ = some (.int .u8 (cf b k).z) := hcb k hlk
            have hikN : i + k < N := by rw [HN.out]; omega
            have hcl := ho.cellAt (i := i + k) hikN
            have hfz := ho.frozenAt (i + k)
            have hst := ho.set (i + k) ((muMid a b i k).getD (i + k) 0 + cf a i * cf b k)
            rw [muMid_step a b hlt hlk] at hst
            have HST := Lib.hid hst
            have HLT := Lib.hid ho.lt
            have dlk : decide ((k : Int) < b.length) = true := by simp only [decide_eq_true_eq]; omega
            generalize (muMid a b i k).getD (i + k) 0 = s at *
            generalize cf b k = y at *
            generalize cf a i = x at *
            have m1 := gM_z x y
            have m2 := gA_z s (x * y)
            have z1 := GF.z_bd x
            have z2 := GF.z_bd y
            have z3 := GF.z_bd s
            have z4 := GF.z_bd (x * y)
            have w1 : IntKind.i64.wrap ((i : Int) + k) = i + k := IntWalk.i64_in _ (by omega)
            have w2 : ((i : Int) + k).toNat = i + k := by omega
            have w3 : 0 ≤ (i : Int) + k := by omega
            have w4 : (i : Int) + k < N := by omega
            clear hst hcb ho
            go_wp2
            go_region_with ((first | (go_at_call 75; refine (gfMul_any _ _ _ (by omega) (by omega)).mono ?_; rintro e w' ⟨rfl, rfl⟩) | (go_at_call 74; refine (gfAdd_any _ _ _ (by omega) (by omega)).mono ?_; rintro e w' ⟨rfl, rfl⟩)))
            all_goals
              go_wp2
              go_roundw
              case rel => exact ⟨k + 1, by omega, by go_num, HST.out, (hbw2.setCell HLT.out.1 _).drew⟩
              case measure => simp [intOf]; omega
          · obtain rfl : k = b.length := by omega
            rw [muMid_row a b hlt] at ho
            have HO2 := Lib.hid ho
            clear ho
            go_wp2
            go_roundw
            case rel => exact ⟨i + 1, by omega, by go_num, HO2.out, hbw2⟩
            case measure => simp [intOf]; omega
    · obtain rfl : i = a.length := by omega
      have HT := Lib.hid (poTrim_any _ _ _ _ _ ho.rd.1 (Nat.le_refl _) (by omega))
      rw [HE.out] at HT
      have HBW := Lib.hid hbw
      clear ho
      go_wp2_with fail
      refine HT.out.mono ?_
      rintro e w3 ⟨A3, c3, rfl, ho3, hb3⟩
      go_wp2
      go_ret
      refine ⟨A3, c3, rfl, ?_, ?_⟩
      · rw [HG.out]; exact own_base ho3 (by rw [← HG.out]; exact HBW.out.size)
      · rw [HG.out]
        have hb4 : Below w.heap.size w wr := by rw [HG.out]; exact HBW.out
        have := Bw.step hb4 hb3
        rwa [HG.out] at this
end Go.Proofs.Ytcinfkmekkdhfaa
/- Walks of the value of a polynomial: a range over slices.Backward. -/
namespace Go.Proofs.Ytcinfkmekkdhfaa
open Go.RowKit Go.Shelf
set_option linter.unusedVariables false
attribute [local go_sem] Oper.semAt_some

/-- The k coefficients from the highest one down, with their exponents. -/
def backs (l : List GF) (k : Nat) : List (Nat × GF) := (List.range k).map fun j => (l.length - 1 - j, l.getD (l.length - 1 - j) 0)
theorem backs_succ (l : List GF) (k : Nat) : backs l (k + 1) = backs l k ++ [(l.length - 1 - k, l.getD (l.length - 1 - k) 0)] := by simp [backs, List.range_succ]
theorem backs_len (l : List GF) (k : Nat) : (backs l k).length = k := by simp [backs]
abbrev encB (x : Nat × GF) : Array Value := #[.int .i64 (x.1 : Int), .int .u8 x.2.z]

/-- What a round must keep: all below a block, and the iterator's own box. -/
def KB (n₀ Bs : Nat) (W W' : World) : Prop := Below n₀ W W' ∧ W'.heap[Bs]? = W.heap[Bs]?
theorem KB.refl (n₀ Bs : Nat) (W : World) : KB n₀ Bs W W := ⟨Below.refl _ _, rfl⟩
theorem KB.trans {n₀ Bs : Nat} {A B C : World} (h : KB n₀ Bs A B) (k : KB n₀ Bs B C) : KB n₀ Bs A C := ⟨h.1.trans k.1, k.2.trans h.2⟩
theorem KB.box {n₀ Bs : Nat} {W W' : World} (h : KB n₀ Bs W W') (o : Nat) : W'.cell? ⟨Bs, o, none⟩ = W.cell? ⟨Bs, o, none⟩ := World.cell?_of_block (a := ⟨Bs, o, none⟩) h.2
theorem KB.put {n₀ Bs : Nat} {w : World} (hn : n₀ ≤ w.heap.size) (hB : Bs < w.heap.size) (W : World) (l : Nat) (o o' : Obj) (hl : w.heap.size ≤ l) (h : W.heap[l]? = some o) (h1 : o.isCells = false) (h2 : o.isWalk = false) : KB n₀ Bs W (W.putObj l o') :=
  ⟨belowK_b hn W l o o' hl h h1 h2, (grownBy_putObj' W l o').block Bs (by have := (Array.getElem?_eq_some_iff.1 h).1; omega) (by intro e; injection e with e; omega)⟩
theorem KB.setCell {n₀ Bs : Nat} (W : World) {p : Addr} (h1 : n₀ ≤ p.block) (h2 : Bs ≠ p.block) (u : Value) : KB n₀ Bs W (W.setCell p u) :=
  ⟨(Below.refl _ _).setCell h1 u, Below.heap_setCell W p u Bs h2⟩

set_option maxRecDepth 100000 in
set_option maxHeartbeats 1000000 in
theorem backward1_in (n : Nat) (hn : 1 ≤ n) (l Bs n₀ b off cap : Nat) (zs : List GF) (hreach : zs.length ≤ 140737488351232) (hb : b < n₀) (J Jx : List (Nat × GF) → World → Prop)
    (hY : ∀ pre x W, J pre W → pre.length < zs.length → YieldAt Fence.wide (n - 1) Try.prog l (encB x) W fun e W' =>
      (e = .returned (.bool true) ∧ J (pre ++ [x]) W' ∧ KB n₀ Bs W W') ∨ (e = .returned (.bool false) ∧ Jx (pre ++ [x]) W'))
    (W : World) (hBs : W.cell? ⟨Bs, 0, none⟩ = some (.slice (some ⟨b, off, none⟩) zs.length cap)) (hc : ∀ j, j < zs.length → W.cell? ⟨b, off + j, none⟩ = some (.int .u8 (zs.getD j 0).z)) (h0 : J [] W) :
    CallsIn Fence.wide n Try.prog 87 #[.func (.yield l) #[] #[], .pointer (some ⟨Bs, 0, none⟩)] W fun e W' => (∃ v, e = .returned v) ∧
      ((∃ ys, ys = backs zs zs.length ∧ J ys W') ∨ (∃ pre, (∃ k, k ≤ zs.length ∧ pre = backs zs k) ∧ Jx pre W')) := by
  refine callsIn_of_wp Try.func87 rfl trivial ?_ rfl
  simp only [Try.ntmps87, List.size_toArray, List.length_cons, List.length_nil, Nat.reduceAdd, Nat.reduceSub, Array.replicate_succ, Array.replicate_zero, List.push_toArray, List.append_toArray, List.nil_append, List.cons_append]
  gi_wp2
  gi_loopw [3] (fun i wr => ∃ k : Nat, k ≤ zs.length ∧ i = .int .i64 ((zs.length : Int) - 1 - k) ∧ J (backs zs k) wr ∧ KB n₀ Bs W wr)
    (fun i _ => (intOf i + 1).toNat)
  case atStart => exact ⟨0, Nat.zero_le _, by simp, h0, KB.refl _ _ _⟩
  case round =>
    obtain ⟨k, hk, rfl, hJs, hnx⟩ := hrel
    have hBs' := (hnx.box 0).trans hBs
    by_cases hlt : k < zs.length
    · have hcx := (hnx.1.cell (p := ⟨b, off + (zs.length - 1 - k), none⟩) hb).trans (hc (zs.length - 1 - k) (by omega))
      obtain ⟨fn, tmps, assign, body, hy, hR⟩ := hY _ (zs.length - 1 - k, zs.getD (zs.length - 1 - k) 0) wr hJs (by rw [backs_len]; exact hlt)
      have e1 : (zs.length : Int) - 1 - k = ((zs.length - 1 - k : Nat) : Int) := by omega
      have e2 : (zs.length : Int) - 1 - k - 1 = (zs.length : Int) - 1 - (k + 1 : Nat) := by omega
      have HS := Lib.hid (backs_succ zs k)
      rw [e1]
      generalize hm : zs.length - 1 - k = m at *
      have hm2 : m < zs.length := by omega
      have hm3 : (m : Int) = zs.length - 1 - k := by omega
      have HM := Lib.hid hm3
      generalize zs.getD m 0 = x at *
      clear hm e1 e2 hm3
      unfold encB at hy
      dsimp only at hy
      gi_wp2
      refine hR.mono ?_
      rintro e W3 (⟨rfl, hJ3, hk3⟩ | ⟨rfl, hJx3⟩)
      · gi_wp2
        go_roundw
        case rel => exact ⟨k + 1, by omega, by rw [HM.out]; congr 1; omega, by rw [HS.out]; exact hJ3, hnx.trans hk3⟩
        case measure => simp [intOf]
      · gi_wp2
        refine bodyPost_ret (results_none rfl _ _ _) rfl ?_
        exact ⟨⟨_, rfl⟩, .inr ⟨_, ⟨k + 1, by omega, HS.out.symm⟩, hJx3⟩⟩
    · obtain rfl : k = zs.length := by omega
      have e1 : (zs.length : Int) - 1 - zs.length = -1 := by omega
      rw [e1]
      clear e1
      gi_wp2
      go_end0
      exact ⟨⟨_, rfl⟩, .inl ⟨_, rfl, hJs⟩⟩

set_option maxRecDepth 100000 in
set_option maxHeartbeats 1000000 in
theorem backward1_nil_in (n : Nat) (l Bs : Nat) (A : Option Addr) (c : Nat) (J : List (Nat × GF) → World → Prop) (W : World) (hBs : W.cell? ⟨Bs, 0, none⟩ = some (.slice A 0 c)) (h0 : J [] W) :
    CallsIn Fence.wide n Try.prog 87 #[.func (.yield l) #[] #[], .pointer (some ⟨Bs, 0, none⟩)] W fun e W' => (∃ v, e = .returned v) ∧ J [] W' := by
  refine callsIn_of_wp Try.func87 rfl trivial ?_ rfl
  simp only [Try.ntmps87, List.size_toArray, List.length_cons, List.length_nil, Nat.reduceAdd, Nat.reduceSub, Array.replicate_succ, Array.replicate_zero, List.push_toArray, List.append_toArray, List.nil_append, List.cons_append]
  gi_wp2
  gi_loopw [3] (fun i wr => i = .int .i64 (-1) ∧ J [] wr) (fun _ _ => 0)
  case atStart => exact ⟨rfl, h0⟩
  case round =>
    obtain ⟨rfl, hJs⟩ := hrel
    gi_wp2
    go_end0
    exact ⟨⟨_, rfl⟩, hJs⟩

set_option maxHeartbeats 1000000 in
theorem terms_any (A : Option Addr) (len cap : Nat) (w : World) :
    Calls Try.prog 85 #[.slice A len cap] w fun e w' => e = .returned (.func (.func 87) #[] #[.pointer (some ⟨w.heap.size, 0, none⟩)]) ∧ w.alloc (.cells #[.slice A len cap] 41) = w' := by
  go_enter Try.func85, Try.ntmps85
  go_wp2
  go_ret
  exact ⟨rfl, rfl⟩

/-- A slice of bytes that lies below a block. -/
def RdBB (n₀ : Nat) (W : World) (A : Option Addr) (n : Nat) (l : List GF) : Prop :=
  l.length = n ∧ (0 < n → ∃ b off, A = some ⟨b, off, none⟩ ∧ b < n₀ ∧ ∀ i, i < n → W.cell? ⟨b, off + i, none⟩ = some (.int .u8 (l.getD i 0).z))
theorem RdB.base {w : World} {A : Option Addr} {n : Nat} {l : List GF} (h : RdB w A n l) : RdBB w.heap.size w A n l := h
theorem RdBB.below {n₀ : Nat} {W W' : World} {A : Option Addr} {n : Nat} {l : List GF} (h : RdBB n₀ W A n l) (hb : Below n₀ W W') : RdBB n₀ W' A n l :=
  ⟨h.1, fun hn => by
    obtain ⟨b, off, e, hlt, hc⟩ := h.2 hn
    exact ⟨b, off, e, hlt, fun i hi => (hb.cell (p := ⟨b, off + i, none⟩) hlt).trans (hc i hi)⟩⟩
theorem back_stops (n : Nat) (hn : 1 ≤ n) (Bs n₀ : Nat) (A : Option Addr) (cap : Nat) (zs : List GF) (hreach : zs.length ≤ 140737488351232) (w : World) (hBs : Bs < w.heap.size) (hn₀ : n₀ ≤ w.heap.size)
    (hc : w.cell? ⟨Bs, 0, none⟩ = some (.slice A zs.length cap)) (hI : RdBB n₀ w A zs.length zs) :
    SeqStopsK Fence.wide n Try.prog 87 #[.pointer (some ⟨Bs, 0, none⟩)] encB (KB n₀ Bs) (fun ys => ys = backs zs zs.length)
      (fun pre => ∃ k, k ≤ zs.length ∧ pre = backs zs k) zs.length w := fun l J Jx W hW _ _ hY h0 => by
  have hc' := (hW.cell (p := ⟨Bs, 0, none⟩) hBs).trans hc
  have hI' := hI.below (hW.mono hn₀)
  rcases Nat.eq_zero_or_pos zs.length with h | h
  · have hz : zs = [] := List.eq_nil_of_length_eq_zero h
    subst hz
    exact (backward1_nil_in n l Bs A cap J W hc' h0).mono fun e W' ⟨he, hj⟩ => ⟨he, .inl ⟨_, rfl, hj⟩⟩
  · obtain ⟨b, off, rfl, hb, hcs⟩ := hI'.2 h
    exact backward1_in n hn l Bs n₀ b off cap zs hreach hb J Jx hY W hc' hcs h0

/-- The value of a polynomial. -/
def hor (x : GF) (s : GF) (p : Nat × GF) : GF := s * x + p.2
def horL (x : GF) (pre : List (Nat × GF)) : GF := pre.foldl (hor x) 0
theorem horL_snoc (x : GF) (pre : List (Nat × GF)) (p : Nat × GF) : horL x (pre ++ [p]) = horL x pre * x + p.2 := by simp [horL, hor]
def valL : List GF → GF → GF
  | [], _ => 0
  | c :: a, x => valL a x * x + c
theorem backs_cons (c : GF) (a : List GF) : backs (c :: a) (a.length + 1) = (backs a a.length).map (fun p => (p.1 + 1, p.2)) ++ [(0, c)] := by
  rw [backs_succ]
  congr 1
  · unfold backs
    rw [List.map_map]
    apply List.map_congr_left
    intro j hj
    have := List.mem_range.1 hj
    simp only [List.length_cons, Function.comp]
    rw [show a.length + 1 - 1 - j = (a.length - 1 - j) + 1 by omega]
    simp
  · simp
theorem horL_map (x : GF) (f : Nat × GF → Nat × GF) (hf : ∀ p, (f p).2 = p.2) (l : List (Nat × GF)) : horL x (l.map f) = horL x l := by
  unfold horL
  rw [List.foldl_map]
  congr 1
  funext s p
  simp [hor, hf]
theorem horL_backs (x : GF) (a : List GF) : horL x (backs a a.length) = valL a x := by
  induction a with
  | nil => rfl
  | cons c a ih => rw [List.length_cons, backs_cons, horL_snoc, horL_map x (fun p => (p.1 + 1, p.2)) (fun _ => rfl), ih]; rfl

set_option maxRecDepth 100000 in
set_option maxHeartbeats 2000000 in
theorem polyValue_in (n : Nat) (hn : 3 ≤ n) (A : Option Addr) (cap : Nat) (zs : List GF) (x : GF) (hreach : zs.length ≤ 140737488351232) (w : World) (hI : RdB w A zs.length zs) :
    CallsIn Fence.wide n Try.prog 81 #[.slice A zs.length cap, .int .u8 x.z] w fun e W' => e = .returned (.int .u8 (valL zs x).z) ∧ Below w.heap.size w W' := by
  have h1 : 1 ≤ n := by omega
  refine callsIn_of_wp_marks Try.func81 rfl trivial ?_ rfl
  simp only [Try.ntmps81, List.size_toArray, List.length_cons, List.length_nil, Nat.reduceAdd, Nat.reduceSub, Array.replicate_succ, Array.replicate_zero, List.push_toArray, List.append_toArray, List.nil_append, List.cons_append]
  have hfn : ∀ f, Fence.wide.fn f := fun _ => trivial
  have hdp : Fence.wide.depth = none := rfl
  gi_wp2_with (gi_at_call 85; refine (callsIn_wide.2 (terms_any _ _ _ _)).mono ?_; rintro e w' ⟨rfl, rfl⟩)
  have bX := Boxed.new w 5 (.int .u8 x.z)
  have bS := Boxed.new (w.alloc (.cells #[.int .u8 x.z] 5)) 5 (.int .u8 0)
  have bN := Boxed.new ((w.alloc (.cells #[.int .u8 x.z] 5)).alloc (.cells #[.int .u8 0] 5)) 41 (.slice A zs.length cap)
  rw [World.size_alloc] at bS bN
  rw [World.size_alloc] at bN
  have hB0 : Below w.heap.size w (((w.alloc (.cells #[.int .u8 x.z] 5)).alloc (.cells #[.int .u8 0] 5)).alloc (.cells #[.slice A zs.length cap] 41)) := by (repeat (first | exact Below.refl _ _ | assumption | refine Bw.al ?_ _ | refine Bw.step ?_ (by assumption) | refine Bw.drew ?_))
  refine wpIn_rangeFunc_ownG rfl h1 (gf := 87) (lb := #[.pointer (some ⟨w.heap.size + 1 + 1, 0, none⟩)]) rfl trivial (enters_of Try.func87 (by kernel_rfl) rfl)
    (back_stops (n - 1) (by omega) (w.heap.size + 1 + 1) w.heap.size A cap zs hreach _ (by simp) (by simp; omega) bN.cell (hI.base.below hB0)) KB.trans (KB.put (by simp; omega) (by simp)) (Below.refl _ _) (fun _ => rfl)
    (fun pre W => (W.cell? ⟨w.heap.size + 1, 0, none⟩ = some (.int .u8 (horL x pre).z) ∧ W.frozen? ⟨w.heap.size + 1, 0, none⟩ = false ∧ W.cell? ⟨w.heap.size, 0, none⟩ = some (.int .u8 x.z)) ∧ Below w.heap.size w W)
    (fun _ _ _ => False)
    (OwnFrom.and (Own.from (fun s A B row hs hg hr => ⟨cell_kept hs.1 hg hr, (frozen_kept hs.1 hg hr).trans hs.2.1, cell_kept hs.2.2 hg hr⟩) _) (ownFrom_below (Nat.le_refl _) (by simp; omega)))
    (fun _ _ _ _ _ hs _ _ => hs)
    ⟨⟨(bS.alloc _).cell, (bS.alloc _).frozen, ((bX.alloc _).alloc _).cell⟩, hB0⟩
    (fun p => { tmps := #[.slice A zs.length cap, .int .u8 x.z, undef, .pointer (some ⟨w.heap.size, 0, none⟩), .int .u8 0, .pointer (some ⟨w.heap.size + 1, 0, none⟩), undef, .int .u8 p.2.z, .slice A zs.length cap, .func (.func 87) #[] #[.pointer (some ⟨w.heap.size + 1 + 1, 0, none⟩)], .int .i64 (p.1 : Int), .int .u8 p.2.z, undef, undef, undef, undef, undef, undef], defers := [] }) ?assign ?body ?done ?stop
  case assign =>
    intro l p W K hK
    gi_wp2
    exact hK
  case body =>
    rintro l pre p W ⟨⟨hc, hf, hx⟩, hB⟩ _
    have z1 := GF.z_bd (horL x pre)
    have z2 := GF.z_bd x
    have z3 := GF.z_bd p.2
    have z4 := GF.z_bd (horL x pre * x)
    have m1 := gM_z (horL x pre) x
    have m2 := gA_z (horL x pre * x) p.2
    gi_wp2_with (first
      | (gi_at_call 75; refine (CallsIn.inRound l (callsIn_wide.2 (gfMul_any _ _ _ (by omega) (by omega)))).mono ?_; rintro e w' ⟨rfl, rfl⟩)
      | (gi_at_call 74; refine (CallsIn.inRound l (callsIn_wide.2 (gfAdd_any _ _ _ (by omega) (by omega)))).mono ?_; rintro e w' ⟨rfl, rfl⟩))
    exact ⟨(KeepsOthers.setCell _ _ _).from _, KB.setCell _ (by simp) (by simp) _, ⟨by rw [horL_snoc]; exact World.cell?_setCell_same' _ _ _ (by rw [hc]; rfl), by rw [World.frozen?_setCell]; exact hf, by rw [World.cell?_setCell_other _ _ _ _ (by simp)]; exact hx⟩, hB.setCell (p := ⟨w.heap.size + 1, 0, none⟩) (by simp) _⟩
  case done =>
    rintro D ys W hD rfl ⟨⟨hc, hf, hx⟩, hB⟩ hK
    rw [horL_backs] at hc
    gi_wp2
    refine ⟨by simp, .inl ⟨_, _, rfl, run_takeDeferred hK, ?_⟩⟩
    exact ⟨_, results_tmp rfl _ _ _, rfl, hB.trans (belowK_b (w := w) (Nat.le_refl _) W D _ _ (by simp at hD; omega) hK rfl rfl)⟩
  case stop =>
    rintro D c pre W _ _ h _
    exact h.elim

theorem polyVal_any (A : Option Addr) (cap : Nat) (zs : List GF) (x : GF) (w : World) (hreach : zs.length ≤ 140737488351232) (hI : RdB w A zs.length zs) :
    Calls Try.prog 81 #[.slice A zs.length cap, .int .u8 x.z] w fun e W' => e = .returned (.int .u8 (valL zs x).z) ∧ Below w.heap.size w W' :=
  callsIn_wide.1 (polyValue_in 3 (Nat.le_refl _) A cap zs x hreach w hI)
end Go.Proofs.Ytcinfkmekkdhfaa
/- Walks of the reference's polynomials: Trim, Coefficient, Sum, Product, Value, Derive. -/
namespace Go.Proofs.Ytcinfkmekkdhfaa
open Go.RowKit
set_option linter.unusedVariables false

theorem trimL_take (l : List GF) : l.take (trimL l).length = trimL l := by
  refine snoc_ind (P := fun l => l.take (trimL l).length = trimL l) rfl (fun a x ih => ?_) l
  rw [trimL_snoc]
  split
  · have := trim_len_le a
    rw [List.take_append_of_le_length this]; exact ih
  · exact List.take_of_length_le (Nat.le_refl _)
theorem trimL_step (l : List GF) {k : Nat} (hk : k < l.length) : (trimL (l.take (k + 1))).length = if l.getD k 0 = 0 then (trimL (l.take k)).length else k + 1 := by
  rw [trim_take hk, trimL_snoc]
  split
  · rfl
  · simp; omega
theorem cf_of {l : List GF} {i : Nat} (h : ¬ i < l.length) : cf l i = 0 := degB_cf l i (by omega)
set_option maxHeartbeats 1000000 in
theorem rTrim_any (A : Option Addr) (n c : Nat) (l : List GF) (w : World) (hl : RdB w A n l) (hc : n ≤ c) (hn : n ≤ 1099511627) :
    Calls Try.prog 76 #[.slice A n c] w fun e w' => ∃ A' c', e = .returned (.slice A' (trimL l).length c') ∧ OwB w' w.heap.size (.slice A' (trimL l).length c') (trimL l) ∧ Below w.heap.size w w' := by
  have HN := Lib.hid hl.1
  have HL := Lib.hid hl
  have hle := trim_len_le l
  rw [hl.1] at hle
  clear hl
  go_enter Try.func76, Try.ntmps76
  go_wp2
  go_loop [3, 4] (fun m i => ∃ k : Nat, k ≤ n ∧ i = .int .i64 k ∧ m = .int .i64 ((trimL (l.take k)).length : Nat)) (fun _ i => n - (intOf i).toNat)
  case atStart => exact ⟨0, Nat.zero_le _, rfl, rfl⟩
  case round =>
    obtain ⟨k, hk, rfl, rfl⟩ := hrel
    by_cases hlt : k < n
    · have HS := Lib.hid (trimL_step l (k := k) (by rw [HN.out]; omega))
      obtain ⟨b, off, rfl, hb, hcx⟩ := HL.out.2 (by omega)
      have hx := hcx k hlt
      by_cases hz : l.getD k 0 = 0
      · have z0 := z_eq0 hz
        have HZ := Lib.hid hz
        generalize (l.getD k 0).z = y at *
        clear hcx hz
        go_wp2
        go_round
        case rel => exact ⟨k + 1, by omega, by go_num, by rw [HS.out, if_pos HZ.out]⟩
        case measure => simp [intOf]; omega
      · have z0 := z_ne0 hz
        have HZ := Lib.hid hz
        generalize (l.getD k 0).z = y at *
        clear hcx hz
        go_wp2
        go_round
        case rel => exact ⟨k + 1, by omega, by go_num, by rw [HS.out, if_neg HZ.out]; go_num⟩
        case measure => simp [intOf]; omega
    · obtain rfl : k = n := by omega
      have e1 : l.take k = l := List.take_of_length_le (by rw [HN.out]; exact Nat.le_refl _)
      rw [e1]
      have HT := Lib.hid (HL.out.take (k := (trimL l).length) hle)
      rw [trimL_take] at HT
      clear e1
      go_wp2_with (at_builtin; refine wpList_appB _ rfl (.tmp 19) (.tmp 22) rfl w.heap.size (.slice none 0 0) [] rfl (OwB.nil _ _) A (trimL l).length c (trimL l) rfl HT.out ?_ ?_ ?_; (simp; omega); (exact Nat.le_refl _); intro v1 w1 ho1 hg1 hat1)
      rw [List.nil_append] at ho1
      obtain ⟨A1, c1, rfl⟩ := ho1.form
      go_ret
      exact ⟨A1, c1, rfl, ho1, grown_below hg1 (OwB.nil w w.heap.size) (Nat.le_refl _)⟩
set_option maxHeartbeats 1000000 in
theorem rCoef_any (A : Option Addr) (n c : Nat) (l : List GF) (i : Nat) (w : World) (hl : RdB w A n l) (hn : n ≤ 1099511627) (hi : i ≤ 1099511627) :
    Calls Try.prog 52 #[.slice A n c, .int .i64 (i : Int)] w fun e w' => e = .returned (.int .u8 (cf l i).z) ∧ w = w' := by
  have HN := Lib.hid hl.1
  by_cases h : i < n
  · obtain ⟨b, off, rfl, hb, hcx⟩ := hl.2 (by omega)
    have hx : w.cell? ⟨b, off + i, none⟩ = some (.int .u8 (cf l i).z) := hcx i h
    clear hcx hl
    generalize (cf l i).z = y at *
    go_enter Try.func52, Try.ntmps52
    go_wp2
    go_ret
    exact ⟨rfl, rfl⟩
  · rw [cf_of (by rw [HN.out]; exact h)]
    clear hl
    go_enter Try.func52, Try.ntmps52
    go_wp2
    go_ret
    exact ⟨rfl, rfl⟩
def sumUp (a b : List GF) (k : Nat) : List GF := (List.range k).map (padd (cf a) (cf b))
theorem sumUp_succ (a b : List GF) (k : Nat) : sumUp a b (k + 1) = sumUp a b k ++ [cf a k + cf b k] := by simp [sumUp, List.range_succ]; rfl
theorem sumUp_len (a b : List GF) (k : Nat) : (sumUp a b k).length = k := by simp [sumUp]
end Go.Proofs.Ytcinfkmekkdhfaa
/- Walks of the reference's polynomials: Product, Value, Derive. -/
namespace Go.Proofs.Ytcinfkmekkdhfaa
open Go.RowKit
set_option linter.unusedVariables false

theorem RdB.ext {w : World} {A : Option Addr} {n : Nat} {l : List GF} (h : RdB w A n l) (x : Ext w) : RdB x.w A n l := h.below x.below
theorem cell_ext {w : World} {b o : Nat} {v : Value} (hb : b < w.heap.size) (h : w.cell? ⟨b, o, none⟩ = some v) (x : Ext w) : x.w.cell? ⟨b, o, none⟩ = some v := (x.below.cell (p := ⟨b, o, none⟩) hb).trans h
theorem rd_cell {w : World} {A : Option Addr} {n : Nat} {l : List GF} (h : RdB w A n l) {i : Nat} (hi : i < n) : ∃ b off, A = some ⟨b, off, none⟩ ∧ b < w.heap.size ∧ w.cell? ⟨b, off + i, none⟩ = some (.int .u8 (cf l i).z) := by
  obtain ⟨b, off, e, hb, hc⟩ := h.2 (by omega)
  exact ⟨b, off, e, hb, hc i hi⟩
def proUp (a b : List GF) (k : Nat) : List GF := (List.range k).map (cv (cf a) (cf b))
theorem proUp_succ (a b : List GF) (k : Nat) : proUp a b (k + 1) = proUp a b k ++ [cv (cf a) (cf b) k] := by simp [proUp, List.range_succ]
theorem proUp_len (a b : List GF) (k : Nat) : (proUp a b k).length = k := by simp [proUp]
theorem pcv_end (a b : List GF) {i n : Nat} (h : i = min (n + 1) a.length) : pcv (cf a) (cf b) i n = cv (cf a) (cf b) n := by
  rcases Nat.le_total (n + 1) a.length with h1 | h1
  · rw [h, Nat.min_eq_left h1, pcv_cv]
  · rw [h, Nat.min_eq_right h1, pcv_full _ _ (degB_cf a)]
set_option maxRecDepth 100000 in
set_option maxHeartbeats 2000000 in
theorem rProd_any (A B : Option Addr) (n m c d : Nat) (a b : List GF) (w : World) (ha : RdB w A n a) (hb : RdB w B m b) (hn : n ≤ 1099511) (hm : m ≤ 1099511) :
    Calls Try.prog 50 #[.slice A n c, .slice B m d] w fun e w' => ∃ A' c', e = .returned (.slice A' (prodP a b).length c') ∧ OwB w' w.heap.size (.slice A' (prodP a b).length c') (prodP a b) ∧ Below w.heap.size w w' := by
  have la := ha.1
  have lb := hb.1
  subst la lb
  have HA := Lib.hid ha
  have HB := Lib.hid hb
  clear ha hb
  go_enter Try.func50, Try.ntmps50
  go_wp2
  go_loopw [5, 6] (fun v i wr => ∃ k : Nat, k ≤ a.length + b.length ∧ i = .int .i64 k ∧ OwB wr w.heap.size v (proUp a b k) ∧ Below w.heap.size w wr) (fun _ i _ => a.length + b.length - (intOf i).toNat)
  case atStart => exact ⟨0, Nat.zero_le _, rfl, OwB.nil _ _, Below.refl _ _⟩
  case round =>
    obtain ⟨k, hk, rfl, ho, hbw⟩ := hrel
    by_cases hlt : k < a.length + b.length
    · have hl := proUp_len a b k
      have HS := Lib.hid (proUp_succ a b k)
      generalize hL : proUp a b k = L at *
      have HL2 := Lib.hid hL
      have hk2 : L.length ≤ 1099511627000 := by omega
      obtain ⟨wo, rfl⟩ : ∃ wo : World, wo = wr := ⟨_, rfl⟩
      have HO := Lib.hid ho
      have HW := Lib.hid hbw
      have d0 : decide ((k : Int) < (a.length : Int) + b.length) = true := by simp only [decide_eq_true_eq]; omega
      clear ho hL hl hbw
      go_wp2
      go_loopw [7, 8] (fun s i wr => ∃ j : Nat, j ≤ min (k + 1) a.length ∧ i = .int .i64 j ∧ s = .int .u8 (pcv (cf a) (cf b) j k).z ∧ Below wo.heap.size wo wr) (fun _ i _ => min (k + 1) a.length - (intOf i).toNat)
      case atStart => exact ⟨0, Nat.zero_le _, rfl, rfl, Below.refl _ _⟩
      case round =>
        obtain ⟨j, hj, rfl, rfl, hbi⟩ := hrel
        have hbw2 := Bw.step HW.out hbi
        by_cases hlj : j < min (k + 1) a.length
        · have d1 : decide ((j : Int) ≤ k) = true := by simp only [decide_eq_true_eq]; omega
          have d2 : decide ((j : Int) < a.length) = true := by simp only [decide_eq_true_eq]; omega
          have HP := Lib.hid (show pcv (cf a) (cf b) (j + 1) k = pcv (cf a) (cf b) j k + cf a j * cf b (k - j) by rw [pcv, if_pos (by omega)])
          have RB := Lib.hid (HB.out.below hbw2)
          obtain ⟨ba, oa, rfl, hla, hca⟩ := rd_cell (HA.out.below hbw2) (i := j) (by omega)
          have hcx := fun x => cell_ext hla hca x
          have ws : IntKind.i64.wrap ((k : Int) - j) = ((k - j : Nat) : Int) := by rw [IntWalk.i64_in _ (by omega)]; omega
          have xz := xorZ (pcv (cf a) (cf b) j k) (cf a j * cf b (k - j))
          generalize pcv (cf a) (cf b) j k = s at *
          go_wp2
          (refine wp_region_ext (by kernel_rfl) (by kernel_rfl) ?_; (repeat (go_big_quiet_step ((first | (go_at_call 52; exact ext_same (rCoef_any _ b.length d b (k - j) _ (RB.out.ext _) (by omega) (by omega))) | (go_at_call 63; exact ext_same (rMulZ _ _ _)))))); refine wpQuiet_nil ?_; intro W5 hw'; have hW5 := ext_below hw'; clear hw')
          clear hcx hca
          go_wp2
          go_roundw
          case rel => exact ⟨j + 1, by omega, by go_num, by rw [HP.out], Bw.step hbi hW5⟩
          case measure => simp [intOf]; omega
        · have HE := Lib.hid (pcv_end a b (i := j) (n := k) (by omega))
          have hP : OwB wr w.heap.size _ L := HO.out.below hbi
          have HP := Lib.hid hP
          have hsz := hbw2.size
          rw [HE.out]
          clear hP
          by_cases h1 : k < j
          all_goals
            first
              | (have d1 : decide ((j : Int) ≤ k) = false := by simp only [decide_eq_false_iff_not]; omega)
              | (have d1 : decide ((j : Int) ≤ k) = true := by simp only [decide_eq_true_eq]; omega
                 have d2 : decide ((j : Int) < a.length) = false := by simp only [decide_eq_false_iff_not]; omega)
            go_wp2_with (at_builtin; refine wpList_app1 wr rfl (.tmp 41) (.tmp 43) rfl w.heap.size _ L HP.out rfl (cv (cf a) (cf b) k) _ rfl hk2 hsz ?_; intro v1 w1 ho1 hb1)
            have hb2 := hbw2.trans hb1
            go_wp2
            go_roundw
            case rel => exact ⟨k + 1, by omega, by go_num, by rw [HS.out]; exact ho1, hb2⟩
            case measure => simp [intOf]; omega
    · obtain rfl : k = a.length + b.length := by omega
      have hl := proUp_len a b (a.length + b.length)
      obtain ⟨A1, c1, rfl⟩ := ho.form
      have HT := Lib.hid (rTrim_any _ _ _ _ _ ho.rd.1 ho.cap.1 (by omega))
      rw [show trimL (proUp a b (a.length + b.length)) = prodP a b from rfl] at HT
      have d1 : decide (((a.length + b.length : Nat) : Int) < (a.length : Int) + b.length) = false := by simp only [decide_eq_false_iff_not]; omega
      clear ho hl
      go_wp2_with fail
      refine HT.out.mono ?_
      rintro e w3 ⟨A3, c3, rfl, ho3, hb3⟩
      go_wp2
      go_ret
      exact ⟨A3, c3, rfl, own_base ho3 hbw.size, Bw.step hbw hb3⟩

/-- Powers. -/
def gpow (x : GF) : Nat → GF
  | 0 => 1
  | k + 1 => gpow x k * x
theorem valL_snoc (l : List GF) (c x : GF) : valL (l ++ [c]) x = valL l x + c * gpow x l.length := by
  induction l with
  | nil => show 0 * x + c = 0 + c * 1; rw [GF.zero_mul, GF.mul_one]
  | cons y l ih =>
    show valL (l ++ [c]) x * x + y = (valL l x * x + y) + c * (gpow x l.length * x)
    rw [ih, GF.add_mul, GF.mul_assoc]
    ac_rfl
theorem valL_take (a : List GF) (x : GF) {k : Nat} (hk : k < a.length) : valL (a.take (k + 1)) x = valL (a.take k) x + cf a k * gpow x k := by
  rw [trim_take hk, valL_snoc, List.length_take, Nat.min_eq_left (by omega)]; rfl
set_option maxHeartbeats 1000000 in
theorem rValue_any (A : Option Addr) (n c : Nat) (a : List GF) (x : GF) (w : World) (ha : RdB w A n a) (hn : n ≤ 1099511627) :
    Calls Try.prog 53 #[.slice A n c, .int .u8 x.z] w fun e w' => e = .returned (.int .u8 (valL a x).z) ∧ w = w' := by
  have la := ha.1
  subst la
  have HA := Lib.hid ha
  clear ha
  go_enter Try.func53, Try.ntmps53
  go_wp2
  go_loop [5, 6, 7] (fun s p i => ∃ k : Nat, k ≤ a.length ∧ i = .int .i64 k ∧ s = .int .u8 (valL (a.take k) x).z ∧ p = .int .u8 (gpow x k).z) (fun _ _ i => a.length - (intOf i).toNat)
  case atStart => exact ⟨0, Nat.zero_le _, rfl, rfl, rfl⟩
  case round =>
    obtain ⟨k, hk, rfl, rfl, rfl⟩ := hrel
    by_cases hlt : k < a.length
    · obtain ⟨ba, oa, rfl, hla, hca⟩ := rd_cell HA.out (i := k) hlt
      have HV := Lib.hid (valL_take a x hlt)
      have xz := xorZ (valL (a.take k) x) (cf a k * gpow x k)
      generalize valL (a.take k) x = s at *
      go_wp2_with (first
        | (go_at_call 63; (with_reducible refine (rMulZ (cf a k) (gpow x k) _).mono ?_); rintro e w' ⟨rfl, rfl⟩)
        | (go_at_call 63; (with_reducible refine (rMulZ (gpow x k) x _).mono ?_); rintro e w' ⟨rfl, rfl⟩))
      go_round
      case rel => exact ⟨k + 1, by omega, by go_num, by rw [HV.out], rfl⟩
      case measure => simp [intOf]; omega
    · obtain rfl : k = a.length := by omega
      rw [List.take_of_length_le (Nat.le_refl _)]
      go_wp2
      go_ret
      exact ⟨rfl, rfl⟩

/-- The derivative. -/
def dvS (f : PS) : PS := fun i => if i % 2 = 0 then f (i + 1) else 0
def derP (a : List GF) : List GF := ofF (a.length - 1) (dvS (cf a))
theorem degB_der (a : List GF) : degB (a.length - 1) (dvS (cf a)) := fun i hi => by
  unfold dvS; split
  · exact degB_cf a _ (by omega)
  · rfl
theorem cf_derP (a : List GF) : cf (derP a) = dvS (cf a) := cf_ofF (degB_der a)
def derUp (a : List GF) (k : Nat) : List GF := (List.range k).map (dvS (cf a))
theorem derUp_succ (a : List GF) (k : Nat) : derUp a (k + 1) = derUp a k ++ [dvS (cf a) k] := by simp [derUp, List.range_succ]
theorem derUp_len (a : List GF) (k : Nat) : (derUp a k).length = k := by simp [derUp]
def times (y : GF) (k : Nat) : GF := if k % 2 = 1 then y else 0
theorem times_succ (y : GF) (k : Nat) : times y (k + 1) = times y k + y := by
  unfold times
  rcases Nat.mod_two_eq_zero_or_one k with h | h
  · rw [if_pos (by omega), if_neg (by omega), GF.zero_add]
  · rw [if_neg (by omega), if_pos (by omega), GF.add_self]
theorem times_dvS (f : PS) (i : Nat) : times (f (i + 1)) (i + 1) = dvS f i := by
  unfold times dvS
  rcases Nat.mod_two_eq_zero_or_one i with h | h
  · rw [if_pos (by omega), if_pos h]
  · rw [if_neg (by omega), if_neg (by omega)]
end Go.Proofs.Ytcinfkmekkdhfaa
/- Division of polynomials: plain laws. -/
namespace Go.Proofs.Ytcinfkmekkdhfaa
set_option linter.unusedVariables false

/-- a = q b + r, all of them trimmed, r shorter than b. -/
def Div (a b q r : List GF) : Prop := Tr q ∧ Tr r ∧ r.length < b.length ∧ ∀ i, cf a i = cv (cf q) (cf b) i + cf r i
/-- The highest coefficient that is not 0. -/
theorem top_of {N : Nat} {f : PS} (hd : degB N f) (h : f ≠ pz) : ∃ m, f m ≠ 0 ∧ degB (m + 1) f := by
  induction N with
  | zero => exact absurd (degB_zero hd) h
  | succ N ih =>
    by_cases h0 : f N = 0
    · refine ih fun i hi => ?_
      by_cases e : i = N
      · rw [e]; exact h0
      · exact hd i (by omega)
    · exact ⟨N, h0, hd⟩
theorem Tr_top {b : List GF} (hb : Tr b) (h : b ≠ []) : ∃ n, b.length = n + 1 ∧ cf b n ≠ 0 ∧ degB (n + 1) (cf b) := by
  have hl : 0 < b.length := by
    rcases b with _ | ⟨x, b⟩
    · exact absurd rfl h
    · simp
  refine ⟨b.length - 1, by omega, ?_, ?_⟩
  · rcases hb with hb | hb
    · exact absurd hb h
    · exact hb
  · have := degB_cf b
    rwa [show b.length = b.length - 1 + 1 by omega] at this
/-- A multiple of b that is shorter than b is 0. -/
theorem short_multiple {f g b : PS} {n N : Nat} (hb : b n ≠ 0) (hdb : degB (n + 1) b) (hf : degB N f) (hg : degB n g) (h : ∀ i, cv f b i = g i) : f = pz := by
  apply Classical.byContradiction
  intro hne
  obtain ⟨m, hm, hdm⟩ := top_of hf hne
  have h1 := cv_top hdm hdb
  rw [h, hg (m + n) (by omega)] at h1
  rcases GF.mul_eq_zero h1.symm with h2 | h2
  · exact hm h2
  · exact hb h2

theorem cv_padd_left (f g h : PS) : cv (padd f g) h = padd (cv f h) (cv g h) := funext fun i => cv_add_left f g h i
theorem padd_self (f : PS) : padd f f = pz := funext fun i => GF.add_self _
theorem eq_of_padd {f g : PS} (h : padd f g = pz) : f = g := funext fun i => GF.eq_of_add (congrFun h i)
theorem Div_unique {a b q r q' r' : List GF} (hb : Tr b) (hne : b ≠ []) (h : Div a b q r) (h' : Div a b q' r') : q = q' ∧ r = r' := by
  obtain ⟨n, hn, htop, hd⟩ := Tr_top hb hne
  obtain ⟨t1, t2, t3, t4⟩ := h
  obtain ⟨u1, u2, u3, u4⟩ := h'
  have hz : padd (cf q) (cf q') = pz := by
    refine short_multiple (n := n) (N := max q.length q'.length) (g := padd (cf r) (cf r')) htop hd (degB_sum q q') (fun i hi => ?_) (fun i => ?_)
    · show cf r i + cf r' i = 0
      rw [degB_cf r i (by omega), degB_cf r' i (by omega), GF.add_zero]
    · rw [cv_add_left]
      show _ = cf r i + cf r' i
      have h1 : cv (cf q) (cf b) i + cf r i = cv (cf q') (cf b) i + cf r' i := by rw [← t4, ← u4]
      have h2 : (cv (cf q) (cf b) i + cv (cf q') (cf b) i) + (cf r i + cf r' i) = 0 := by
        rw [GF.add_swap, h1, GF.add_self]
      exact GF.eq_of_add h2
  have hq : cf q = cf q' := eq_of_padd hz
  have e1 : q = q' := Tr_ext t1 u1 hq
  refine ⟨e1, Tr_ext t2 u2 (funext fun i => ?_)⟩
  have h1 : cv (cf q) (cf b) i + cf r i = cv (cf q) (cf b) i + cf r' i := by rw [← t4, hq, ← u4]
  exact GF.add_cancel h1
/-- The rest of the division of a by b, by any multiple of b. -/
def RestOf (a b r : List GF) : Prop := Tr r ∧ r.length < b.length ∧ ∃ (N : Nat) (s : PS), degB N s ∧ ∀ i, cf a i = cv s (cf b) i + cf r i
theorem Div.rest {a b q r : List GF} (h : Div a b q r) : RestOf a b r := ⟨h.2.1, h.2.2.1, _, cf q, degB_cf q, h.2.2.2⟩
theorem RestOf.div {a b r : List GF} (h : RestOf a b r) : ∃ q, Div a b q r := by
  obtain ⟨h1, h2, N, s, hs, h3⟩ := h
  refine ⟨ofF N s, Tr_ofF _ _, h1, h2, fun i => ?_⟩
  rw [cf_ofF hs]; exact h3 i
theorem RestOf_unique {a b r r' : List GF} (hb : Tr b) (hne : b ≠ []) (h : RestOf a b r) (h' : RestOf a b r') : r = r' := by
  obtain ⟨q, hq⟩ := h.div
  obtain ⟨q', hq'⟩ := h'.div
  exact (Div_unique hb hne hq hq').2

/-- One step of the division: the list of the rest with a multiple of b added, k elements of it done. -/
def dvMid (r b : List GF) (q : GF) (at' k : Nat) : List GF := (List.range r.length).map fun j => if at' ≤ j ∧ j < at' + k then cf r j + q * cf b (j - at') else cf r j
theorem dvMid_len (r b : List GF) (q : GF) (at' k : Nat) : (dvMid r b q at' k).length = r.length := by simp [dvMid]
theorem dvMid_get (r b : List GF) (q : GF) (at' k : Nat) {j : Nat} (hj : j < r.length) : (dvMid r b q at' k).getD j 0 = if at' ≤ j ∧ j < at' + k then cf r j + q * cf b (j - at') else cf r j := by simp [dvMid, List.getD, hj]
theorem dvMid_zero (r b : List GF) (q : GF) (at' : Nat) : dvMid r b q at' 0 = r :=
  list_eq_getD (dvMid_len _ _ _ _ _) fun i hi => by
    rw [dvMid_len] at hi
    rw [dvMid_get _ _ _ _ _ hi, if_neg (by omega)]; rfl
theorem dvMid_step (r b : List GF) (q : GF) {at' k : Nat} (h : at' + k < r.length) : (dvMid r b q at' k).set (at' + k) (cf r (at' + k) + q * cf b k) = dvMid r b q at' (k + 1) := by
  refine list_eq_getD (by rw [List.length_set, dvMid_len, dvMid_len]) fun j hj => ?_
  rw [List.length_set, dvMid_len] at hj
  rw [dvMid_get _ _ _ _ _ hj]
  by_cases e : at' + k = j
  · subst e
    rw [if_pos (by omega), Nat.add_sub_cancel_left]
    simp [List.getD, dvMid_len, h]
  · have h1 : ((dvMid r b q at' k).set (at' + k) (cf r (at' + k) + q * cf b k)).getD j 0 = (dvMid r b q at' k).getD j 0 := by simp [List.getD, e]
    rw [h1, dvMid_get _ _ _ _ _ hj]
    by_cases h2 : at' ≤ j ∧ j < at' + k
    · rw [if_pos h2, if_pos (by omega)]
    · rw [if_neg h2, if_neg (by omega)]
theorem dvMid_cf (r b : List GF) (q : GF) (at' : Nat) (h : at' + b.length = r.length) (j : Nat) : cf (dvMid r b q at' b.length) j = cf r j + if at' ≤ j then q * cf b (j - at') else 0 := by
  by_cases hj : j < r.length
  · show (dvMid r b q at' b.length).getD j 0 = _
    rw [dvMid_get _ _ _ _ _ hj]
    by_cases h2 : at' ≤ j
    · rw [if_pos (by omega), if_pos h2]
    · rw [if_neg (by omega), if_neg h2, GF.add_zero]
  · rw [degB_cf _ j (by rw [dvMid_len]; omega), degB_cf r j (by omega), GF.zero_add]
    rw [if_pos (by omega), degB_cf b _ (by omega), GF.mul_zero]
/-- The quotient so far with one more coefficient. -/
theorem cf_set (l : List GF) {i : Nat} (x : GF) (hi : i < l.length) (j : Nat) : cf (l.set i x) j = if j = i then x else cf l j := by
  unfold cf
  by_cases e : i = j
  · subst e; simp [List.getD, hi]
  · rw [if_neg (fun h => e h.symm)]; simp [List.getD, e]
theorem cv_single (q : GF) (k : Nat) (b : PS) (j : Nat) : cv (fun i => if i = k then q else 0) b j = if k ≤ j then q * b (j - k) else 0 := by
  have e : (fun i => if i = k then q else (0 : GF)) = pxn k (psc q pone) := by
    funext i
    rw [pxn_get]
    by_cases h : i = k
    · subst h; simp [psc, pone, GF.mul_one]
    · rw [if_neg h]
      by_cases h2 : i < k
      · rw [if_pos h2]
      · rw [if_neg h2]; simp only [psc, pone]; rw [if_neg (by omega), GF.mul_zero]
  rw [e, cv_pxn, pxn_get]
  by_cases h : j < k
  · rw [if_pos h, if_neg (by omega)]
  · rw [if_neg h, if_pos (by omega), cv_sc_left, cv_one_left]
theorem div_round {a b r ql : List GF} {q : GF} {at' : Nat} (h : at' + b.length = r.length) (hq : at' < ql.length) (h0 : cf ql at' = 0) (hinv : ∀ i, cf a i = cv (cf ql) (cf b) i + cf r i) :
    ∀ i, cf a i = cv (cf (ql.set at' q)) (cf b) i + cf (trimL (dvMid r b q at' b.length)) i := by
  intro i
  have e : cf (ql.set at' q) = padd (cf ql) (fun j => if j = at' then q else 0) := by
    funext j
    rw [cf_set ql q hq]
    show _ = cf ql j + if j = at' then q else 0
    by_cases hj : j = at'
    · rw [if_pos hj, if_pos hj, hj, h0, GF.zero_add]
    · rw [if_neg hj, if_neg hj, GF.add_zero]
  rw [e, cv_add_left, cv_single, cf_trim, dvMid_cf r b q at' h, hinv i]
  generalize cv (cf ql) (cf b) i = x
  generalize cf r i = y
  generalize (if at' ≤ i then q * cf b (i - at') else 0) = z
  rw [GF.add_comm y z, GF.add_assoc x z, ← GF.add_assoc z z, GF.add_self, GF.zero_add]
theorem div_shorter {b r : List GF} {at' n : Nat} (hn : b.length = n + 1) (h : at' + b.length = r.length) (htop : cf b n ≠ 0) : (trimL (dvMid r b (cf r (r.length - 1) * (cf b n).inv) at' b.length)).length < r.length := by
  have hd : degB (r.length - 1) (cf (trimL (dvMid r b (cf r (r.length - 1) * (cf b n).inv) at' b.length))) := by
    intro j hj
    rw [cf_trim, dvMid_cf r b _ at' h]
    by_cases e : j = r.length - 1
    · subst e
      rw [if_pos (by omega), show r.length - 1 - at' = n by omega, GF.mul_assoc, GF.inv_mul htop, GF.mul_one, GF.add_self]
    · rw [degB_cf r j (by omega), GF.zero_add]
      split
      · rw [degB_cf b (j - at') (by omega), GF.mul_zero]
      · rfl
  have := Tr_len (Tr_trim _) hd
  omega
end Go.Proofs.Ytcinfkmekkdhfaa
/- Plain laws of polynomials: the value of a sum and of a product; the derivative of a product. -/
namespace Go.Proofs.Ytcinfkmekkdhfaa
set_option linter.unusedVariables false

/-- The value of the first n coefficients. -/
def vH : PS → GF → Nat → GF
  | f, x, 0 => 0
  | f, x, n + 1 => vH (tl f) x n * x + f 0
theorem vH_zero (f : PS) (x : GF) : vH f x 0 = 0 := rfl
theorem vH_succ (f : PS) (x : GF) (n : Nat) : vH f x (n + 1) = vH (tl f) x n * x + f 0 := rfl
theorem valL_vH (a : List GF) (x : GF) : valL a x = vH (cf a) x a.length := by
  induction a with
  | nil => rfl
  | cons c a ih => rw [List.length_cons, vH_succ, tl_cf_cons, ← ih]; rfl
theorem vH_pz (x : GF) (n : Nat) : vH pz x n = 0 := by
  induction n with
  | zero => rfl
  | succ n ih => rw [vH_succ, tl_pz, ih, GF.zero_mul]; exact GF.add_zero _
theorem vH_stable {m n : Nat} {f : PS} (x : GF) (hf : degB m f) (h : m ≤ n) : vH f x n = vH f x m := by
  induction m generalizing f n with
  | zero => rw [degB_zero hf, vH_pz, vH_pz]
  | succ m ih =>
    obtain ⟨n, rfl⟩ : ∃ k, n = k + 1 := ⟨n - 1, by omega⟩
    rw [vH_succ, vH_succ, ih (degB_tl hf) (by omega)]
theorem vH_add (f g : PS) (x : GF) (n : Nat) : vH (padd f g) x n = vH f x n + vH g x n := by
  induction n generalizing f g with
  | zero => exact (GF.add_zero 0).symm
  | succ n ih => rw [vH_succ, vH_succ, vH_succ, tl_padd, ih, GF.add_mul, GF.add_swap]; rfl
theorem vH_sc (c : GF) (f : PS) (x : GF) (n : Nat) : vH (psc c f) x n = c * vH f x n := by
  induction n generalizing f with
  | zero => exact (GF.mul_zero c).symm
  | succ n ih => rw [vH_succ, vH_succ, tl_psc, ih, GF.mul_add, GF.mul_assoc]; rfl
theorem vH_px (f : PS) (x : GF) (n : Nat) : vH (px f) x (n + 1) = vH f x n * x := by
  rw [vH_succ, tl_px]; exact GF.add_zero _
theorem cv_split (f g : PS) : cv f g = padd (psc (f 0) g) (px (cv (tl f) g)) := by
  funext n
  cases n with
  | zero => exact (GF.add_zero _).symm
  | succ n => rfl
theorem vH_cv {m n k : Nat} {f g : PS} (x : GF) (hf : degB m f) (hg : degB n g) (h : m + n ≤ k) : vH (cv f g) x k = vH f x m * vH g x n := by
  induction m generalizing f k with
  | zero =>
    have e : cv f g = pz := by rw [degB_zero hf]; exact funext fun i => cv_pz g i
    rw [e, vH_pz, vH_zero, GF.zero_mul]
  | succ m ih =>
    obtain ⟨k, rfl⟩ : ∃ j, k = j + 1 := ⟨k - 1, by omega⟩
    rw [cv_split, vH_add, vH_sc, vH_px, ih (degB_tl hf) (by omega), vH_succ f x m, vH_stable x hg (show n ≤ k + 1 by omega), GF.add_mul]
    rw [GF.add_comm]
    congr 1
    rw [GF.mul_assoc, GF.mul_assoc, GF.mul_comm (vH g x n) x]
theorem valL_of {a : List GF} {f : PS} {n : Nat} (x : GF) (h : cf a = f) (hf : degB n f) : valL a x = vH f x n := by
  rw [valL_vH, h]
  rcases Nat.le_total n a.length with h1 | h1
  · exact vH_stable x hf h1
  · rw [vH_stable x (by rw [← h]; exact degB_cf a) h1]
theorem valL_congr {a b : List GF} (x : GF) (h : cf a = cf b) : valL a x = valL b x := by
  rw [valL_of x h (degB_cf b), ← valL_vH]
theorem valL_trim (a : List GF) (x : GF) : valL (trimL a) x = valL a x := valL_congr x (cf_trim a)
theorem valL_sum (a b : List GF) (x : GF) : valL (sumP a b) x = valL a x + valL b x := by
  rw [valL_of x (cf_sumP a b) (degB_sum a b), vH_add, valL_vH, valL_vH, vH_stable x (degB_cf a) (by omega), vH_stable x (degB_cf b) (by omega)]
theorem valL_prod (a b : List GF) (x : GF) : valL (prodP a b) x = valL a x * valL b x := by
  rw [valL_of x (cf_prodP a b) (degB_prod a b), vH_cv x (degB_cf a) (degB_cf b) (Nat.le_refl _), valL_vH, valL_vH]

/-! ### The derivative -/
theorem dvS_split (f : PS) : dvS f = padd (tl f) (px (dvS (tl f))) := by
  funext i
  cases i with
  | zero => show (if 0 % 2 = 0 then f (0 + 1) else 0) = f 1 + 0; rw [if_pos rfl, GF.add_zero]
  | succ j =>
    show (if (j + 1) % 2 = 0 then f (j + 2) else 0) = f (j + 2) + (if j % 2 = 0 then f (j + 2) else 0)
    rcases Nat.mod_two_eq_zero_or_one j with h | h
    · rw [if_neg (by omega), if_pos h, GF.add_self]
    · rw [if_pos (by omega), if_neg (by omega), GF.add_zero]
theorem dvS_add (f g : PS) : dvS (padd f g) = padd (dvS f) (dvS g) := by
  funext i
  show (if i % 2 = 0 then f (i + 1) + g (i + 1) else 0) = (if i % 2 = 0 then f (i + 1) else 0) + (if i % 2 = 0 then g (i + 1) else 0)
  split
  · rfl
  · exact (GF.add_zero 0).symm
theorem dvS_sc (c : GF) (f : PS) : dvS (psc c f) = psc c (dvS f) := by
  funext i
  show (if i % 2 = 0 then c * f (i + 1) else 0) = c * (if i % 2 = 0 then f (i + 1) else 0)
  split
  · rfl
  · exact (GF.mul_zero c).symm
theorem dvS_px (f : PS) : dvS (px f) = padd f (px (dvS f)) := by rw [dvS_split, tl_px]
theorem dvS_cv (f g : PS) (n : Nat) : dvS (cv f g) n = cv (dvS f) g n + cv f (dvS g) n := by
  induction n generalizing f with
  | zero =>
    rw [cv_split f g, dvS_add, dvS_sc, dvS_px, dvS_split f, cv_split f (dvS g)]
    show f 0 * dvS g 0 + (cv (tl f) g 0 + 0) = cv (padd (tl f) (px (dvS (tl f)))) g 0 + (f 0 * dvS g 0 + 0)
    rw [cv_add_left, cv_px]
    show f 0 * dvS g 0 + (cv (tl f) g 0 + 0) = (cv (tl f) g 0 + 0) + (f 0 * dvS g 0 + 0)
    rw [GF.add_zero, GF.add_zero, GF.add_comm]
  | succ n ih =>
    rw [cv_split f g, dvS_add, dvS_sc, dvS_px, dvS_split f, cv_split f (dvS g)]
    show f 0 * dvS g (n + 1) + (cv (tl f) g (n + 1) + dvS (cv (tl f) g) n) = cv (padd (tl f) (px (dvS (tl f)))) g (n + 1) + (f 0 * dvS g (n + 1) + cv (tl f) (dvS g) n)
    rw [cv_add_left, cv_px, ih]
    show f 0 * dvS g (n + 1) + (cv (tl f) g (n + 1) + (cv (dvS (tl f)) g n + cv (tl f) (dvS g) n)) = (cv (tl f) g (n + 1) + cv (dvS (tl f)) g n) + (f 0 * dvS g (n + 1) + cv (tl f) (dvS g) n)
    ac_rfl
theorem der_prod (a b : List GF) : derP (prodP a b) = sumP (prodP (derP a) b) (prodP a (derP b)) := by
  refine Tr_ext (Tr_ofF _ _) (Tr_ofF _ _) ?_
  rw [cf_derP, cf_prodP, cf_sumP, cf_prodP, cf_prodP, cf_derP, cf_derP]
  exact funext fun n => dvS_cv _ _ n
end Go.Proofs.Ytcinfkmekkdhfaa
/- Plain laws of polynomials: divisibility, greatest common divisors, roots, interpolation. -/
namespace Go.Proofs.Ytcinfkmekkdhfaa
set_option linter.unusedVariables false

/-- d divides a. -/
def Dv (d a : PS) : Prop := ∃ (q : PS) (N : Nat), degB N q ∧ a = cv q d
theorem degB_cv' {m n : Nat} {f g : PS} (hf : degB m f) (hg : degB n g) : degB (m + n) (cv f g) := by
  have h := degB_cv (degB_mono hf (Nat.le_succ m)) (degB_mono hg (Nat.le_succ n))
  rcases m with _ | m
  · intro i _; rw [degB_zero hf]; exact cv_pz g i
  · rcases n with _ | n
    · intro i _; rw [degB_zero hg]; exact cv_pz_right f i
    · exact degB_mono (degB_cv hf hg) (by omega)
theorem degB_pone : degB 1 pone := fun i hi => by show (if i = 0 then (1 : GF) else 0) = 0; rw [if_neg (by omega)]
theorem degB_padd {m n : Nat} {f g : PS} (hf : degB m f) (hg : degB n g) : degB (max m n) (padd f g) := fun i hi => by
  show f i + g i = 0
  rw [hf i (by omega), hg i (by omega), GF.add_zero]
theorem degB_psc {m : Nat} {f : PS} (c : GF) (hf : degB m f) : degB m (psc c f) := fun i hi => by
  show c * f i = 0
  rw [hf i hi, GF.mul_zero]
theorem degB_pz (n : Nat) : degB n pz := fun _ _ => rfl
theorem Dv.refl (d : PS) : Dv d d := ⟨pone, 1, degB_pone, (funext fun i => cv_one_left d i).symm⟩
theorem Dv.zero (d : PS) : Dv d pz := ⟨pz, 0, degB_pz 0, (funext fun i => cv_pz d i).symm⟩
theorem Dv.add {d a b : PS} (ha : Dv d a) (hb : Dv d b) : Dv d (padd a b) := by
  obtain ⟨q, N, hq, rfl⟩ := ha
  obtain ⟨r, M, hr, rfl⟩ := hb
  exact ⟨padd q r, max N M, degB_padd hq hr, (cv_padd_left q r d).symm⟩
theorem Dv.mul {d a q : PS} {N : Nat} (hq : degB N q) (ha : Dv d a) : Dv d (cv q a) := by
  obtain ⟨r, M, hr, rfl⟩ := ha
  exact ⟨cv q r, N + M, degB_cv' hq hr, (funext fun i => cv_assoc q r d i).symm⟩
theorem Dv.trans {d e a : PS} (h : Dv d e) (k : Dv e a) : Dv d a := by
  obtain ⟨q, N, hq, rfl⟩ := k
  exact h.mul hq
theorem Dv.fac (d : PS) {q : PS} {N : Nat} (hq : degB N q) : Dv d (cv q d) := (Dv.refl d).mul hq
theorem padd_cancel (f g : PS) : padd (padd f g) g = f := by
  funext i; show f i + g i + g i = f i; rw [GF.add_assoc, GF.add_self, GF.add_zero]
/-- The greatest common divisor with the leading coefficient 1, or 0. -/
def IsGcd (a b : PS) (g : List GF) : Prop := Tr g ∧ (g = [] ∨ cf g (g.length - 1) = 1) ∧ ∀ d, Dv d (cf g) ↔ (Dv d a ∧ Dv d b)
theorem cf_eq_pz {g : List GF} (hg : Tr g) (h : cf g = pz) : g = [] := by
  rcases hg with h1 | h1
  · exact h1
  · exact absurd (congrFun h _) h1
theorem ne_pz {g : List GF} (hg : Tr g) (h : g ≠ []) : cf g ≠ pz := fun e => h (cf_eq_pz hg e)
/-- A divisor of a polynomial that is not 0 is not longer. -/
theorem Dv_len {g a : List GF} (hg : Tr g) (ha : Tr a) (hne : a ≠ []) (h : Dv (cf g) (cf a)) : g ≠ [] ∧ g.length ≤ a.length := by
  obtain ⟨q, N, hq, e⟩ := h
  have hgn : g ≠ [] := by
    rintro rfl
    refine ne_pz ha hne ?_
    rw [e, cf_nil]; exact funext fun i => cv_pz_right q i
  refine ⟨hgn, ?_⟩
  have hqn : q ≠ pz := by
    rintro rfl
    refine ne_pz ha hne ?_
    rw [e]; exact funext fun i => cv_pz _ i
  obtain ⟨m, hm, hdm⟩ := top_of hq hqn
  obtain ⟨n, hn, htop, hd⟩ := Tr_top hg hgn
  have h1 := cv_top hdm hd
  rw [← e] at h1
  rcases Nat.lt_or_ge (m + n) a.length with h2 | h2
  · omega
  · rw [degB_cf a (m + n) h2] at h1
    rcases GF.mul_eq_zero h1.symm with h3 | h3
    · exact absurd h3 hm
    · exact absurd h3 htop
theorem Dv_assoc {g h : List GF} (hg : Tr g) (hh : Tr h) (g1 : g = [] ∨ cf g (g.length - 1) = 1) (h1 : h = [] ∨ cf h (h.length - 1) = 1) (d1 : Dv (cf g) (cf h)) (d2 : Dv (cf h) (cf g)) : g = h := by
  by_cases e1 : g = []
  · subst e1
    obtain ⟨q, N, hq, e⟩ := d1
    refine (cf_eq_pz hh ?_).symm
    rw [e, cf_nil]; exact funext fun i => cv_pz_right q i
  · by_cases e2 : h = []
    · subst e2
      obtain ⟨q, N, hq, e⟩ := d2
      refine cf_eq_pz hg ?_
      rw [e, cf_nil]; exact funext fun i => cv_pz_right q i
    · have l1 := (Dv_len hg hh e2 d1).2
      have l2 := (Dv_len hh hg e1 d2).2
      obtain ⟨q, N, hq, e⟩ := d1
      have hqn : q ≠ pz := by
        rintro rfl
        refine ne_pz hh e2 ?_
        rw [e]; exact funext fun i => cv_pz _ i
      obtain ⟨m, hm, hdm⟩ := top_of hq hqn
      obtain ⟨n, hn, htop, hd⟩ := Tr_top hg e1
      have t1 := cv_top hdm hd
      rw [← e] at t1
      have hm0 : m = 0 := by
        rcases Nat.eq_zero_or_pos m with h0 | h0
        · exact h0
        · rw [degB_cf h (m + n) (by omega)] at t1
          rcases GF.mul_eq_zero t1.symm with h3 | h3
          · exact absurd h3 hm
          · exact absurd h3 htop
      subst hm0
      have q1 : q 0 = 1 := by
        rcases g1 with g1 | g1
        · exact absurd g1 e1
        · rcases h1 with h1 | h1
          · exact absurd h1 e2
          · rw [hn] at g1
            rw [show h.length - 1 = n by omega] at h1
            rw [Nat.zero_add] at t1
            rw [Nat.add_sub_cancel] at g1
            rw [h1, g1, GF.mul_one] at t1
            exact t1.symm
      have qo : q = pone := by
        funext i
        show q i = if i = 0 then 1 else 0
        by_cases hi : i = 0
        · rw [if_pos hi, hi, q1]
        · rw [if_neg hi]; exact hdm i (by omega)
      refine Tr_ext hg hh ?_
      rw [e, qo]; exact (funext fun i => cv_one_left _ i).symm
theorem IsGcd_unique {a b : PS} {g h : List GF} (hg : IsGcd a b g) (hh : IsGcd a b h) : g = h :=
  Dv_assoc hg.1 hh.1 hg.2.1 hh.2.1 ((hh.2.2 _).2 ((hg.2.2 _).1 (Dv.refl _))) ((hg.2.2 _).2 ((hh.2.2 _).1 (Dv.refl _)))
/-- One step of Euclid's algorithm. -/
theorem gcd_step {a b q r : PS} {N : Nat} (hq : degB N q) (h : ∀ i, a i = cv q b i + r i) (d : PS) : (Dv d b ∧ Dv d r) ↔ (Dv d a ∧ Dv d b) := by
  have ea : a = padd (cv q b) r := funext h
  constructor
  · rintro ⟨h1, h2⟩
    exact ⟨by rw [ea]; exact (h1.mul hq).add h2, h1⟩
  · rintro ⟨h1, h2⟩
    refine ⟨h2, ?_⟩
    have er : r = padd a (cv q b) := by
      rw [ea]; funext i
      show r i = cv q b i + r i + cv q b i
      rw [GF.add_comm (cv q b i) (r i), GF.add_assoc, GF.add_self, GF.add_zero]
    rw [er]; exact h1.add (h2.mul hq)
/-- A polynomial times a number that is not 0. -/
theorem Dv_sc {d a : PS} {c : GF} (hc : c ≠ 0) : Dv d (psc c a) ↔ Dv d a := by
  have key : ∀ (c : GF) (a : PS), Dv d a → Dv d (psc c a) := by
    rintro c a ⟨q, N, hq, rfl⟩
    exact ⟨psc c q, N, degB_psc c hq, (funext fun i => cv_sc_left c q d i).symm⟩
  refine ⟨fun h => ?_, key c a⟩
  have := key c.inv _ h
  have e : psc c.inv (psc c a) = a := by
    funext i; show c.inv * (c * a i) = a i
    rw [← GF.mul_assoc, GF.inv_mul hc, GF.one_mul]
  rwa [e] at this
theorem cv_const (f : PS) (c : GF) : cv f (cf [c]) = psc c f := by
  funext n
  rw [cv_comm]
  have ht : tl (cf [c]) = pz := by rw [tl_cf_cons, cf_nil]
  cases n with
  | zero => rfl
  | succ n => rw [cv_succ, ht, cv_pz, GF.add_zero]; rfl
theorem gcd_end {a b : PS} {g : List GF} (hg : Tr g) (h : ∀ d, Dv d (cf g) ↔ (Dv d a ∧ Dv d b)) (hne : g ≠ []) : IsGcd a b (prodP g [(cf g (g.length - 1)).inv]) := by
  obtain ⟨n, hn, htop, hd⟩ := Tr_top hg hne
  have hc : (cf g n).inv ≠ 0 := fun e => GF.one_ne (by rw [← GF.mul_inv htop, e, GF.mul_zero])
  have e1 : g.length - 1 = n := by omega
  rw [e1]
  have ec : cf (prodP g [(cf g n).inv]) = psc (cf g n).inv (cf g) := by rw [cf_prodP, cv_const]
  have hT := Tr_ofF (g.length + 1) (cv (cf g) (cf [(cf g n).inv]))
  have hl : (prodP g [(cf g n).inv]).length = n + 1 := by
    have h1 : (prodP g [(cf g n).inv]).length ≤ n + 1 := Tr_len hT (by
      show degB (n + 1) (cf (prodP g [(cf g n).inv]))
      rw [ec]; exact degB_psc _ hd)
    rcases Nat.lt_or_ge n (prodP g [(cf g n).inv]).length with h2 | h2
    · omega
    · have h3 := degB_cf (prodP g [(cf g n).inv]) n h2
      rw [ec] at h3
      have h4 : (cf g n).inv * cf g n = 0 := h3
      rw [GF.inv_mul htop] at h4
      exact absurd h4 GF.one_ne
  refine ⟨hT, .inr ?_, fun d => ?_⟩
  · rw [hl, ec]; exact GF.inv_mul htop
  · rw [ec, Dv_sc hc]; exact h d
theorem gcd_nil {a b : PS} (h : ∀ d, Dv d (cf []) ↔ (Dv d a ∧ Dv d b)) : IsGcd a b [] := ⟨.inl rfl, .inl rfl, h⟩
/-- A division without remainder. -/
theorem Div_dvd {a b q r : List GF} (hb : Tr b) (hne : b ≠ []) (h : Div a b q r) (hd : Dv (cf b) (cf a)) : r = [] := by
  obtain ⟨p, N, hp, e⟩ := hd
  have hpos : 0 < b.length := List.length_pos_iff.2 hne
  have h2 : Div a b (ofF N p) [] := ⟨Tr_ofF _ _, .inl rfl, by simpa using hpos, fun i => by rw [cf_ofF hp, cf_nil, e]; exact (GF.add_zero _).symm⟩
  exact (Div_unique hb hne h h2).2

/-! ### Roots -/
def quo : List GF → GF → List GF
  | [], _ => []
  | _ :: a, r => valL a r :: quo a r
theorem quo_len (a : List GF) (r : GF) : (quo a r).length = a.length := by
  induction a with
  | nil => rfl
  | cons c a ih => show (quo a r).length + 1 = a.length + 1; rw [ih]
theorem cv_lin (f : PS) (r : GF) : cv f (cf [r, 1]) = padd (psc r f) (px f) := by
  funext n
  rw [cv_comm, cv_split, tl_cf_cons]
  show r * f n + px (cv (cf [1]) f) n = r * f n + px f n
  congr 2
  funext i
  rw [cv_comm, cv_const]; exact GF.one_mul _
theorem cf_cons (c : GF) (a : List GF) : cf (c :: a) = padd (psc c pone) (px (cf a)) := by
  funext i
  cases i with
  | zero => show c = c * 1 + 0; rw [GF.mul_one, GF.add_zero]
  | succ i => show cf (c :: a) (i + 1) = c * 0 + cf a i; rw [GF.mul_zero, GF.zero_add]; simp [cf]
theorem fac_val (a : List GF) (r : GF) : ∀ c, cf (c :: a) = padd (cv (cf (quo (c :: a) r)) (cf [r, 1])) (psc (valL (c :: a) r) pone) := by
  induction a with
  | nil =>
    intro c
    have e : cf (quo [c] r) = pz := by
      funext i
      show cf [valL [] r] i = 0
      cases i with
      | zero => rfl
      | succ i => simp [cf]
    rw [e]
    funext i
    show cf [c] i = cv pz (cf [r, 1]) i + (0 * r + c) * (if i = 0 then 1 else 0)
    rw [cv_pz, GF.zero_add, GF.zero_mul, GF.zero_add]
    cases i with
    | zero => exact (GF.mul_one c).symm
    | succ i => rw [if_neg (by omega), GF.mul_zero]; simp [cf]
  | cons b a ih =>
    intro c
    have h := ih b
    rw [cv_lin] at h ⊢
    rw [cf_cons c (b :: a), h]
    have e : quo (c :: b :: a) r = valL (b :: a) r :: quo (b :: a) r := rfl
    rw [e, cf_cons (valL (b :: a) r)]
    generalize cf (quo (b :: a) r) = Q
    show _ = padd _ (psc (valL (b :: a) r * r + c) pone)
    generalize valL (b :: a) r = v
    funext i
    cases i with
    | zero =>
      show c * 1 + 0 = (r * (v * 1 + 0) + 0) + (v * r + c) * 1
      rw [GF.mul_one, GF.mul_one, GF.mul_one, GF.add_zero, GF.add_zero, GF.add_zero, GF.mul_comm v r, ← GF.add_assoc, GF.add_self, GF.zero_add]
    | succ i =>
      show c * 0 + ((r * Q i + px Q i) + v * pone i) = (r * (v * 0 + Q i) + (v * pone i + px Q i)) + (v * r + c) * 0
      rw [GF.mul_zero, GF.mul_zero, GF.mul_zero, GF.zero_add, GF.zero_add, GF.add_zero]
      ac_rfl
theorem degB_quo : ∀ (a : List GF) (r : GF), degB (a.length - 1) (cf (quo a r))
  | [], _ => fun i _ => by simp [quo, cf]
  | c :: a, r => by
    induction a generalizing c with
    | nil => intro i _; show cf [valL [] r] i = 0; cases i with
      | zero => rfl
      | succ i => simp [cf]
    | cons b a ih =>
      intro i hi
      show cf (valL (b :: a) r :: quo (b :: a) r) i = 0
      simp only [List.length_cons, Nat.add_sub_cancel] at hi
      cases i with
      | zero => omega
      | succ i =>
        have := ih b i (by simp only [List.length_cons, Nat.add_sub_cancel]; omega)
        simpa [cf] using this
/-- The factor theorem. -/
theorem root_fac {a : List GF} {r : GF} (h : valL a r = 0) : cf a = cv (cf (quo a r)) (cf [r, 1]) := by
  rcases a with _ | ⟨c, a⟩
  · rw [cf_nil]; show pz = cv (cf []) _; rw [cf_nil]; exact (funext fun i => cv_pz _ i).symm
  · have := fac_val a r c
    rw [this, h]
    funext i
    show cv _ _ i + 0 * pone i = _
    rw [GF.zero_mul, GF.add_zero]
theorem valL_lin (r x : GF) : valL [r, 1] x = x + r := by
  show (0 * x + 1) * x + r = x + r
  rw [GF.zero_mul, GF.zero_add, GF.one_mul]
theorem vH_quo (a : List GF) (r x : GF) (h : valL a r = 0) : valL a x = valL (quo a r) x * (x + r) := by
  rw [← valL_lin, valL_of x (root_fac h) (degB_cv' (degB_cf (quo a r)) (degB_cf [r, 1])), vH_cv x (degB_cf _) (degB_cf _) (Nat.le_refl _), valL_vH, valL_vH]
/-- Roots: fewer than there are coefficients. -/
theorem roots_lt : ∀ (l : List GF) (n : Nat) (a : List GF), degB n (cf a) → cf a ≠ pz → l.Nodup → (∀ x ∈ l, valL a x = 0) → l.length < n := by
  intro l
  induction l with
  | nil =>
    intro n a hd hne _ _
    rcases Nat.eq_zero_or_pos n with h | h
    · subst h; exact absurd (degB_zero hd) hne
    · exact h
  | cons r l ih =>
    intro n a hd hne hnd hr
    have h0 := hr r (List.mem_cons_self ..)
    have hl := List.nodup_cons.1 hnd
    -- shorten a to its trimmed form
    have hq : cf (quo a r) ≠ pz := by
      intro e
      apply hne
      rw [root_fac h0, e]; exact funext fun i => cv_pz _ i
    have hdq : degB (n - 1) (cf (quo a r)) := by
      intro i hi
      apply Classical.byContradiction
      intro hi2
      obtain ⟨m, hm, hdm⟩ := top_of (degB_cf (quo a r)) hq
      have hmi : i ≤ m := by
        rcases Nat.lt_or_ge m i with h | h
        · exact absurd (hdm i (by omega)) hi2
        · exact h
      have h1 := cv_top (n := 1) hdm (degB_cf [r, 1])
      rw [← root_fac h0] at h1
      have h2 : cf [r, 1] 1 = 1 := rfl
      rw [h2, GF.mul_one, hd (m + 1) (by omega)] at h1
      exact hm h1.symm
    have := ih (n - 1) (quo a r) hdq hq hl.2 (fun x hx => by
      have h1 := hr x (List.mem_cons_of_mem _ hx)
      rw [vH_quo a r x h0] at h1
      rcases GF.mul_eq_zero h1 with h2 | h2
      · exact h2
      · have : x = r := GF.eq_of_add h2
        exact absurd (this ▸ hx) hl.1)
    simp only [List.length_cons]
    omega
/-- Two polynomials with the same values at as many places as they have coefficients are equal. -/
theorem inter_unique {a b : List GF} {l : List GF} (ha : Tr a) (hb : Tr b) (hal : a.length ≤ l.length) (hbl : b.length ≤ l.length) (hnd : l.Nodup) (h : ∀ x ∈ l, valL a x = valL b x) : a = b := by
  apply Classical.byContradiction
  intro hne
  have hs : cf (sumP a b) ≠ pz := by
    intro e
    rw [cf_sumP] at e
    exact hne (Tr_ext ha hb (eq_of_padd e))
  have hd : degB l.length (cf (sumP a b)) := by rw [cf_sumP]; exact degB_mono (degB_sum a b) (by omega)
  have := roots_lt l l.length (sumP a b) hd hs hnd (fun x hx => by rw [valL_sum, h x hx, GF.add_self])
  omega
/-- The roots. -/
def allG : List GF := (List.range 256).map fun n => GF.mk (n % 256) (by omega)
def rootsL (a : List GF) : List GF := allG.filter fun x => decide (valL a x = 0)
theorem GF.mk_inj {m n : Nat} {hm : m < 256} {hn : n < 256} (h : GF.mk m hm = GF.mk n hn) : m = n := by
  have := congrArg GF.v h; exact this
theorem allG_nodup : allG.Nodup := by
  unfold allG List.Nodup
  rw [List.pairwise_map]
  refine List.Pairwise.imp_of_mem ?_ (List.nodup_range (n := 256))
  intro a b ha hb hne e
  have h1 := List.mem_range.1 ha
  have h2 := List.mem_range.1 hb
  have := GF.mk_inj e
  omega
theorem mem_allG (x : GF) : x ∈ allG := by
  unfold allG
  refine List.mem_map.2 ⟨x.v, List.mem_range.2 x.lt, ?_⟩
  apply GF.ext
  rw [GF.v_mk]; exact Nat.mod_eq_of_lt x.lt
theorem rootsL_nodup (a : List GF) : (rootsL a).Nodup := List.Pairwise.filter _ allG_nodup
theorem mem_rootsL (a : List GF) (x : GF) : x ∈ rootsL a ↔ valL a x = 0 := by
  unfold rootsL; rw [List.mem_filter]; simp [mem_allG]
theorem rootsL_lt {a : List GF} (h : trimL a ≠ []) : (rootsL a).length < (trimL a).length := by
  refine roots_lt _ _ (trimL a) (degB_cf _) (ne_pz (Tr_trim a) h) (rootsL_nodup a) (fun x hx => ?_)
  rw [valL_trim]; exact (mem_rootsL a x).1 hx
end Go.Proofs.Ytcinfkmekkdhfaa
/- The walks of the six statements on the package gf. -/
namespace Go.Proofs.Ytcinfkmekkdhfaa
open Go.RowKit

theorem wf_u8 {a : Int} (h : (Lit.int .u8 a).wf = true) : 0 ≤ a ∧ a < 256 := by
  simp [Lit.wf, IntKind.min, IntKind.max, IntKind.signed, IntKind.bits] at h
  omega
theorem wf_i64 {a : Int} (h : (Lit.int .i64 a).wf = true) : -9223372036854775808 ≤ a ∧ a ≤ 9223372036854775807 := by
  simp [Lit.wf, IntKind.min, IntKind.max, IntKind.signed, IntKind.bits] at h
  omega
theorem gA_comm (a b : Int) : gA a b = gA b a := by unfold gA; rw [Nat.xor_comm]
theorem gA_assoc (a b c : Int) : gA (gA a b) c = gA a (gA b c) := by unfold gA; simp [Nat.xor_assoc]
theorem gA_self (a : Int) : gA a a = 0 := by unfold gA; simp
theorem gM_comm {a b : Int} (ha : 0 ≤ a ∧ a < 256) (hb : 0 ≤ b ∧ b < 256) : gM a b = gM b a := by unfold gM; rw [gm_comm (by omega) (by omega)]
theorem gM_assoc {a b c : Int} (ha : 0 ≤ a ∧ a < 256) (hb : 0 ≤ b ∧ b < 256) (hc : 0 ≤ c ∧ c < 256) : gM (gM a b) c = gM a (gM b c) := by
  unfold gM; simp only [Int.toNat_natCast]; rw [gm_assoc (by omega) (by omega) (by omega)]
theorem gM_one {a : Int} (ha : 0 ≤ a ∧ a < 256) : gM a 1 = a := by
  unfold gM; rw [show (1 : Int).toNat = 1 from rfl, gm_one_right]; omega
theorem gM_dist (a b c : Int) : gM a (gA b c) = gA (gM a b) (gM a c) := by
  unfold gM gA; simp only [Int.toNat_natCast]; rw [gm_xor_right]
theorem gM_inv {a : Int} (ha : 0 < a ∧ a < 256) : gM a (gI a) = 1 := (gM_one_iff ha (gI_bd (by omega))).2 rfl
theorem gM_zero_left (b : Int) : gM 0 b = 0 := by unfold gM; rw [show (0 : Int).toNat = 0 from rfl, gm_zero_left]; rfl
theorem gM_zero_right (b : Int) : gM b 0 = 0 := by unfold gM; rw [show (0 : Int).toNat = 0 from rfl, gm_zero_right]; rfl
theorem gM_ne {a b : Int} (ha : 0 < a ∧ a < 256) (hb : 0 < b ∧ b < 256) : 0 < gM a b := by
  unfold gM
  rcases Nat.eq_zero_or_pos (gm a.toNat b.toNat) with h | h
  · rcases gm_eq_zero (by omega) (by omega) h with h | h <;> omega
  · omega
theorem gE_gL {a : Int} (ha : 0 < a ∧ a < 256) : gE (gL a) = a := by
  unfold gL; rw [gE_nat, (gl_lt (a := a.toNat) (by omega) (by omega)).2]; omega
theorem gL_gM {a b : Int} (ha : 0 < a ∧ a < 256) (hb : 0 < b ∧ b < 256) : gL (gM a b) = (gL a + gL b) % 255 := by
  unfold gL gM; rw [Int.toNat_natCast, gl_gm (by omega) (by omega) (by omega) (by omega)]; omega

theorem tmod_mod (n : Int) : (n.tmod 255) % 255 = n % 255 := by
  have hr := tmod_red n
  have hb : -255 < n.tmod 255 := Int.lt_tmod_of_pos n (by omega)
  rw [Int.tmod_eq_emod_of_nonneg (by omega)] at hr
  omega
theorem tmod_bd (n : Int) : -255 < n.tmod 255 ∧ n.tmod 255 < 255 :=
  ⟨Int.lt_tmod_of_pos n (by omega), Int.tmod_lt_of_pos n (by omega)⟩
theorem gE_pos (n : Int) : 0 < gE n := by
  unfold gE
  have := ge_ne (n % 255).toNat
  omega
theorem gE_add (m n : Int) : gM (gE m) (gE n) = gE (m + n) := by
  unfold gE gM
  simp only [Int.toNat_natCast]
  rw [← ge_add, ← ge_mod]
  congr 3
  omega
theorem gE_neg (n : Int) : gI (gE n) = gE (-n) := by
  have h : gM (gE n) (gE (-n)) = 1 := by
    rw [gE_add, Int.add_right_neg]; decide +kernel
  exact ((gM_one_iff ⟨gE_pos n, (gE_bd n).2⟩ (gE_bd (-n))).1 h).symm

/-- A power, where it does not fail. -/
def gW (a n : Int) : Int := if n = 0 then 1 else if a = 0 then 0 else gQ a n
theorem gQ_bd {a n : Int} (ha : 0 ≤ a ∧ a < 256) : 0 ≤ gQ a n ∧ gQ a n < 256 := gP_bd ha
theorem gW_bd {a n : Int} (ha : 0 ≤ a ∧ a < 256) : 0 ≤ gW a n ∧ gW a n < 256 := by
  unfold gW
  have := gQ_bd (n := n) ha
  split
  · omega
  · split <;> omega
end Go.Proofs.Ytcinfkmekkdhfaa
/- Reed-Solomon codes: plain laws of locators, evaluators and power sums. -/
namespace Go.Proofs.Ytcinfkmekkdhfaa
set_option linter.unusedVariables false

/-! ### The generator's powers -/
theorem GF.exp_add (m n : Int) : GF.exp (m + n) = GF.exp m * GF.exp n := by
  apply GF.z_inj.1
  rw [← gM_z, ← gE_z, ← gE_z, ← gE_z, gE_add]
theorem GF.exp_ne (n : Int) : GF.exp n ≠ 0 := by
  intro h
  have h1 := gE_pos n
  rw [gE_z, h, GF.z_zero] at h1
  omega
theorem GF.exp_zero : GF.exp 0 = 1 := by
  apply GF.ext
  unfold GF.exp
  rw [GF.v_mk]; exact ge_zero
theorem GF.exp_neg (n : Int) : GF.exp (-n) = (GF.exp n).inv := by
  apply GF.z_inj.1
  rw [← gI_z, ← gE_z, ← gE_z, gE_neg]
theorem GF.exp_inj {m n : Nat} (hm : m < 255) (hn : n < 255) (h : GF.exp m = GF.exp n) : m = n := by
  have h1 := congrArg GF.v h
  unfold GF.exp at h1
  rw [GF.v_mk, GF.v_mk] at h1
  have e : ∀ k : Nat, k < 255 → ((k : Int) % 255).toNat = k := fun k hk => by omega
  rw [e m hm, e n hn] at h1
  exact ge_inj hm hn h1
theorem gpow_exp (n : Int) (j : Nat) : gpow (GF.exp n) j = GF.exp (n * j) := by
  induction j with
  | zero => show (1 : GF) = GF.exp (n * 0); rw [Int.mul_zero, GF.exp_zero]
  | succ j ih =>
    show gpow (GF.exp n) j * GF.exp n = _
    rw [ih, ← GF.exp_add]
    congr 1
    rw [Int.natCast_succ, Int.mul_add, Int.mul_one]
theorem gpow_swap (m n : Nat) : gpow (GF.exp m) n = gpow (GF.exp n) m := by
  rw [gpow_exp, gpow_exp, Int.mul_comm]
theorem GF.inv_ne {x : GF} (h : x ≠ 0) : x.inv ≠ 0 := fun e => GF.one_ne (by rw [← GF.mul_inv h, e, GF.mul_zero])
theorem GF.inv_inv {x : GF} (h : x ≠ 0) : x.inv.inv = x := by
  have h1 := GF.mul_inv (GF.inv_ne h)
  calc x.inv.inv = 1 * x.inv.inv := (GF.one_mul _).symm
    _ = x * x.inv * x.inv.inv := by rw [GF.mul_inv h]
    _ = x := by rw [GF.mul_assoc, h1, GF.mul_one]
theorem GF.inv_inj {x y : GF} (hx : x ≠ 0) (hy : y ≠ 0) (h : x.inv = y.inv) : x = y := by rw [← GF.inv_inv hx, h, GF.inv_inv hy]
theorem GF.mul_cancel {x y z : GF} (hx : x ≠ 0) (h : x * y = x * z) : y = z := by
  have : x.inv * (x * y) = x.inv * (x * z) := by rw [h]
  rwa [← GF.mul_assoc, ← GF.mul_assoc, GF.inv_mul hx, GF.one_mul, GF.one_mul] at this

/-! ### Power sums -/
def geo (X : GF) : PS := fun j => gpow X j
theorem cv_fac (X : GF) (g : PS) : cv (cf [1, X]) g = padd g (px (psc X g)) := by
  rw [cv_split, tl_cf_cons]
  have e : cv (cf [X]) g = psc X g := by funext i; rw [cv_comm, cv_const]
  rw [e]
  funext i
  show (1 : GF) * g i + _ = g i + _
  rw [GF.one_mul]
theorem geo_inv (X : GF) : cv (cf [1, X]) (geo X) = pone := by
  rw [cv_fac]
  funext i
  cases i with
  | zero => show gpow X 0 + 0 = 1; rw [GF.add_zero]; rfl
  | succ i =>
    show gpow X i * X + X * gpow X i = 0
    rw [GF.mul_comm X, GF.add_self]
def lam : List GF → PS
  | [] => pone
  | X :: t => cv (cf [1, X]) (lam t)
def om : List (GF × GF) → PS
  | [] => pz
  | q :: t => padd (psc q.2 (lam (t.map Prod.fst))) (cv (cf [1, q.1]) (om t))
def ser : List (GF × GF) → PS
  | [] => pz
  | q :: t => padd (psc q.2 (geo q.1)) (ser t)
theorem cv_left_comm (f g h : PS) : cv f (cv g h) = cv g (cv f h) := by
  funext i
  rw [← cv_assoc, ← cv_assoc]
  exact cv_congr i (fun k _ => cv_comm f g k) (fun _ _ => rfl)
theorem cv_assoc' (f g h : PS) : cv (cv f g) h = cv f (cv g h) := funext fun i => cv_assoc f g h i
theorem cv_comm' (f g : PS) : cv f g = cv g f := funext fun i => cv_comm f g i
theorem cv_padd_right (f g h : PS) : cv f (padd g h) = padd (cv f g) (cv f h) := funext fun i => cv_add_right f g h i
theorem cv_psc_right (c : GF) (f h : PS) : cv f (psc c h) = psc c (cv f h) := funext fun i => cv_sc_right c f h i
theorem cv_pone_right (f : PS) : cv f pone = f := funext fun i => cv_one_right f i
theorem cv_pone_left (f : PS) : cv pone f = f := funext fun i => cv_one_left f i
theorem lam_ser (t : List (GF × GF)) : cv (lam (t.map Prod.fst)) (ser t) = om t := by
  induction t with
  | nil => exact funext fun i => cv_pz_right _ i
  | cons q t ih =>
    show cv (cv (cf [1, q.1]) (lam (t.map Prod.fst))) (padd (psc q.2 (geo q.1)) (ser t)) = padd (psc q.2 (lam (t.map Prod.fst))) (cv (cf [1, q.1]) (om t))
    rw [cv_padd_right, cv_psc_right]
    congr 1
    · congr 1
      rw [cv_assoc', cv_left_comm, geo_inv, cv_pone_right]
    · rw [cv_assoc', ih]
theorem degB_lam (t : List GF) : degB (t.length + 1) (lam t) := by
  induction t with
  | nil => exact degB_pone
  | cons X t ih => exact degB_mono (degB_cv (m := 1) (n := t.length) (degB_cf [1, X]) ih) (by simp only [List.length_cons]; omega)
theorem degB_om (t : List (GF × GF)) : degB t.length (om t) := by
  induction t with
  | nil => exact degB_pz 0
  | cons q t ih =>
    have h1 := degB_lam (t.map Prod.fst)
    rw [List.length_map] at h1
    have h2 : degB (t.length + 1) (cv (cf [1, q.1]) (om t)) := by
      rcases Nat.eq_zero_or_pos t.length with h | h
      · have : om t = pz := degB_zero (by rw [← h]; exact ih)
        rw [this]; exact fun i _ => cv_pz_right _ i
      · obtain ⟨n, hn⟩ : ∃ n, t.length = n + 1 := ⟨t.length - 1, by omega⟩
        rw [hn] at ih
        exact degB_mono (degB_cv (m := 1) (n := n) (degB_cf [1, q.1]) ih) (by omega)
    exact degB_mono (degB_padd (degB_psc q.2 h1) h2) (by simp)
theorem lam_zero (t : List GF) : lam t 0 = 1 := by
  induction t with
  | nil => rfl
  | cons X t ih => show 1 * lam t 0 = 1; rw [ih, GF.one_mul]
theorem lam_append (a b : List GF) : lam (a ++ b) = cv (lam a) (lam b) := by
  induction a with
  | nil => exact (cv_pone_left _).symm
  | cons X a ih => show cv (cf [1, X]) (lam (a ++ b)) = cv (cv (cf [1, X]) (lam a)) (lam b); rw [ih, cv_assoc']
/-! ### Values -/
theorem vH_eq {m n : Nat} {f : PS} (x : GF) (hm : degB m f) (hn : degB n f) : vH f x m = vH f x n := by
  rcases Nat.le_total m n with h | h
  · exact (vH_stable x hm h).symm
  · exact vH_stable x hn h
def plv : List GF → GF → GF
  | [], _ => 1
  | X :: t, z => (1 + X * z) * plv t z
def omv : List (GF × GF) → GF → GF
  | [], _ => 0
  | q :: t, z => q.2 * plv (t.map Prod.fst) z + (1 + q.1 * z) * omv t z
def dlv : List GF → GF → GF
  | [], _ => 0
  | X :: t, z => X * plv t z + (1 + X * z) * dlv t z
theorem vH_fac (X z : GF) : vH (cf [1, X]) z 2 = 1 + X * z := by
  have : valL [1, X] z = 1 + X * z := by
    show (0 * z + X) * z + 1 = _
    rw [GF.zero_mul, GF.zero_add, GF.add_comm]
  rw [← this, valL_vH]; rfl
theorem vH_lam (t : List GF) (z : GF) : vH (lam t) z (t.length + 1) = plv t z := by
  induction t with
  | nil => show (0 : GF) * z + 1 = 1; rw [GF.zero_mul, GF.zero_add]
  | cons X t ih =>
    rw [vH_eq z (degB_lam (X :: t)) (degB_mono (degB_lam (X :: t)) (show (X :: t).length + 1 ≤ 2 + (t.length + 1) by simp; omega))]
    show vH (cv (cf [1, X]) (lam t)) z (2 + (t.length + 1)) = (1 + X * z) * plv t z
    rw [vH_cv z (show degB 2 (cf [1, X]) from degB_cf [1, X]) (degB_lam t) (Nat.le_refl _), ih]
    congr 1
    exact vH_fac X z
theorem vH_om (t : List (GF × GF)) (z : GF) : vH (om t) z t.length = omv t z := by
  induction t with
  | nil => rfl
  | cons q t ih =>
    rw [vH_eq z (degB_om (q :: t)) (degB_mono (degB_om (q :: t)) (show (q :: t).length ≤ 2 + t.length by simp; omega))]
    show vH (padd (psc q.2 (lam (t.map Prod.fst))) (cv (cf [1, q.1]) (om t))) z (2 + t.length) = _
    rw [vH_add, vH_sc, vH_cv z (show degB 2 (cf [1, q.1]) from degB_cf [1, q.1]) (degB_om t) (Nat.le_refl _), ih]
    have h1 := degB_lam (t.map Prod.fst)
    rw [List.length_map] at h1
    rw [vH_stable z h1 (show t.length + 1 ≤ 2 + t.length by omega)]
    have h2 := vH_lam (t.map Prod.fst) z
    rw [List.length_map] at h2
    rw [h2]
    show _ + vH (cf [1, q.1]) z 2 * omv t z = _
    rw [vH_fac]; rfl
theorem degB_dvS {n : Nat} {f : PS} (h : degB (n + 1) f) : degB n (dvS f) := fun i hi => by
  unfold dvS; split
  · exact h _ (by omega)
  · rfl
theorem vH_dlam (t : List GF) (z : GF) : vH (dvS (lam t)) z t.length = dlv t z := by
  induction t with
  | nil => rfl
  | cons X t ih =>
    have hd : degB (t.length + 1) (dvS (lam (X :: t))) := degB_dvS (degB_lam (X :: t))
    rw [vH_eq z (show degB (X :: t).length (dvS (lam (X :: t))) from hd) (degB_mono hd (show t.length + 1 ≤ 2 + (t.length + 1) by omega))]
    have e : dvS (lam (X :: t)) = padd (cv (dvS (cf [1, X])) (lam t)) (cv (cf [1, X]) (dvS (lam t))) := funext fun i => dvS_cv _ _ i
    have e2 : cv (dvS (cf [1, X])) (lam t) = psc X (lam t) := by
      have : dvS (cf [1, X]) = cf [X] := by
        rw [dvS_split, tl_cf_cons]
        funext i
        cases i with
        | zero => exact GF.add_zero _
        | succ i => show cf [X] (i + 1) + dvS (cf [X]) i = cf [X] (i + 1)
                    have h0 : dvS (cf [X]) i = 0 := by unfold dvS; split <;> simp [cf]
                    rw [h0, GF.add_zero]
      rw [this]; funext i; rw [cv_comm, cv_const]
    rw [e, e2, vH_add, vH_sc, vH_cv z (show degB 2 (cf [1, X]) from degB_cf [1, X]) (degB_dvS (degB_lam t)) (show 2 + t.length ≤ 2 + (t.length + 1) by omega), ih, vH_stable z (degB_lam t) (show t.length + 1 ≤ 2 + (t.length + 1) by omega), vH_lam]
    show _ + vH (cf [1, X]) z 2 * dlv t z = _
    rw [vH_fac]; rfl
theorem fac_zero {X : GF} (hX : X ≠ 0) : 1 + X * X.inv = 0 := by rw [GF.mul_inv hX, GF.add_self]
theorem fac_ne {X Z : GF} (hZ : Z ≠ 0) (h : X ≠ Z) : 1 + X * Z.inv ≠ 0 := by
  intro e
  have h1 : X * Z.inv = 1 := (GF.eq_of_add e).symm
  apply h
  have : X * Z.inv * Z = 1 * Z := by rw [h1]
  rwa [GF.mul_assoc, GF.inv_mul hZ, GF.mul_one, GF.one_mul] at this
theorem plv_zero {t : List GF} {X : GF} (hX : X ≠ 0) (h : X ∈ t) : plv t X.inv = 0 := by
  induction t with
  | nil => simp at h
  | cons Y t ih =>
    show (1 + Y * X.inv) * plv t X.inv = 0
    rcases List.mem_cons.1 h with h | h
    · rw [← h, fac_zero hX, GF.zero_mul]
    · rw [ih h, GF.mul_zero]
theorem plv_ne {t : List GF} {X : GF} (hX : X ≠ 0) (h : X ∉ t) : plv t X.inv ≠ 0 := by
  induction t with
  | nil => exact GF.one_ne
  | cons Y t ih =>
    simp only [List.mem_cons, not_or] at h
    show (1 + Y * X.inv) * plv t X.inv ≠ 0
    intro e
    rcases GF.mul_eq_zero e with e | e
    · exact fac_ne hX (Ne.symm h.1) e
    · exact ih h.2 e
/-- The formula of Forney. -/
theorem forney {t : List (GF × GF)} (hnd : (t.map Prod.fst).Nodup) (hne : ∀ q ∈ t, q.1 ≠ 0) : ∀ q ∈ t, omv t q.1.inv * q.1 = q.2 * dlv (t.map Prod.fst) q.1.inv ∧ dlv (t.map Prod.fst) q.1.inv ≠ 0 := by
  induction t with
  | nil => intro q hq; simp at hq
  | cons p t ih =>
    intro q hq
    have hnd' := List.nodup_cons.1 hnd
    have hp := hne p (List.mem_cons_self ..)
    have hq0 := hne q hq
    show (p.2 * plv (t.map Prod.fst) q.1.inv + (1 + p.1 * q.1.inv) * omv t q.1.inv) * q.1 = q.2 * (p.1 * plv (t.map Prod.fst) q.1.inv + (1 + p.1 * q.1.inv) * dlv (t.map Prod.fst) q.1.inv) ∧ p.1 * plv (t.map Prod.fst) q.1.inv + (1 + p.1 * q.1.inv) * dlv (t.map Prod.fst) q.1.inv ≠ 0
    by_cases e : q = p
    · subst e
      rw [fac_zero hp, GF.zero_mul, GF.add_zero, GF.zero_mul, GF.add_zero]
      refine ⟨by rw [GF.mul_assoc, GF.mul_comm (plv _ _)], fun h => ?_⟩
      rcases GF.mul_eq_zero h with h | h
      · exact hp h
      · exact plv_ne hp hnd'.1 h
    · have hqt : q ∈ t := (List.mem_cons.1 hq).resolve_left e
      have hm : q.1 ∈ t.map Prod.fst := List.mem_map.2 ⟨q, hqt, rfl⟩
      obtain ⟨i1, i2⟩ := ih hnd'.2 (fun q hq => hne q (List.mem_cons_of_mem _ hq)) q hqt
      have hx : p.1 ≠ q.1 := fun h => hnd'.1 (h ▸ hm)
      rw [plv_zero hq0 hm, GF.mul_zero, GF.mul_zero, GF.zero_add, GF.zero_add]
      refine ⟨by rw [GF.mul_assoc, i1, GF.mul_left_comm], fun h => ?_⟩
      rcases GF.mul_eq_zero h with h | h
      · exact fac_ne hq0 hx h
      · exact i2 h
/-- Power sums that vanish. -/
theorem ser_zero {t : List (GF × GF)} {p : Nat} (hnd : (t.map Prod.fst).Nodup) (hne : ∀ q ∈ t, q.1 ≠ 0) (hp : t.length ≤ p) (h : ∀ j, j < p → ser t j = 0) : ∀ q ∈ t, q.2 = 0 := by
  have hz : om t = pz := by
    funext n
    by_cases hn : n < p
    · rw [← lam_ser]
      have := cv_congr (f := lam (t.map Prod.fst)) (g := ser t) (g' := pz) n (fun _ _ => rfl) (fun i hi => h i (by omega))
      rw [this]; exact cv_pz_right _ n
    · exact degB_om t n (by omega)
  intro q hq
  obtain ⟨h1, h2⟩ := forney hnd hne q hq
  have h3 : omv t q.1.inv = 0 := by rw [← vH_om, hz, vH_pz]
  rw [h3, GF.zero_mul] at h1
  rcases GF.mul_eq_zero h1.symm with h | h
  · exact h
  · exact absurd h h2
theorem ser_append (a b : List (GF × GF)) : ser (a ++ b) = padd (ser a) (ser b) := by
  induction a with
  | nil => funext i; exact (GF.zero_add _).symm
  | cons q a ih =>
    show padd (psc q.2 (geo q.1)) (ser (a ++ b)) = padd (padd (psc q.2 (geo q.1)) (ser a)) (ser b)
    rw [ih]; funext i; exact (GF.add_assoc _ _ _).symm
theorem ser_perm {a b : List (GF × GF)} (h : a.Perm b) : ser a = ser b := by
  induction h with
  | nil => rfl
  | cons q _ ih => show padd _ (ser _) = padd _ (ser _); rw [ih]
  | swap p q l =>
    funext i
    show _ + (_ + ser l i) = _ + (_ + ser l i)
    rw [GF.add_left_comm]
  | trans _ _ h1 h2 => exact h1.trans h2
/-- Terms that are 0 do not matter. -/
theorem ser_filter (t : List (GF × GF)) (p : GF × GF → Bool) (h : ∀ q ∈ t, p q = false → q.2 = 0) : ser (t.filter p) = ser t := by
  induction t with
  | nil => rfl
  | cons q t ih =>
    have ih' := ih fun q hq => h q (List.mem_cons_of_mem _ hq)
    rw [List.filter_cons]
    by_cases hp : p q = true
    · rw [if_pos hp]; show padd _ (ser _) = padd _ (ser t); rw [ih']
    · rw [if_neg hp, ih']
      have h0 := h q (List.mem_cons_self ..) (by simpa using hp)
      funext i
      show ser t i = q.2 * geo q.1 i + ser t i
      rw [h0, GF.zero_mul, GF.zero_add]
end Go.Proofs.Ytcinfkmekkdhfaa
/- Linear recurrences: plain laws of the algorithm of Berlekamp and Massey. -/
namespace Go.Proofs.Ytcinfkmekkdhfaa
set_option linter.unusedVariables false

/-- C is a connection polynomial of length L of the first N elements. -/
def LF (T : PS) (N L : Nat) (C : PS) : Prop := C 0 = 1 ∧ degB (L + 1) C ∧ ∀ n, L ≤ n → n < N → cv C T n = 0
theorem LF.less {T : PS} {N M L : Nat} {C : PS} (h : LF T N L C) (hM : M ≤ N) : LF T M L C := ⟨h.1, h.2.1, fun n h1 h2 => h.2.2 n h1 (by omega)⟩
theorem degB_low {l L : Nat} {f g : PS} (hf : degB (l + 1) f) (hg : degB L g) : degB (l + L) (cv f g) := by
  rcases L with _ | L
  · intro i _; rw [degB_zero hg]; exact cv_pz_right f i
  · exact degB_cv hf hg
def low (L : Nat) (f : PS) : PS := fun i => if i < L then f i else 0
theorem degB_lowF (L : Nat) (f : PS) : degB L (low L f) := fun i hi => if_neg (by omega)
/-- A series that is 0 up to n - 1. -/
theorem cv_at {f g : PS} {n : Nat} (h : ∀ i, i < n → g i = 0) : cv f g n = f 0 * g n := by
  induction n generalizing g with
  | zero => rfl
  | succ n ih =>
    rw [cv_last, h 0 (by omega), GF.mul_zero, GF.zero_add]
    exact ih (g := tl g) fun i hi => h (i + 1) (by omega)
theorem massey {T : PS} {n L l : Nat} {C D : PS} (hC : LF T n L C) (hd : cv C T n ≠ 0) (hD : LF T (n + 1) l D) : n + 1 ≤ l + L := by
  rcases Nat.lt_or_ge n (l + L) with h | h
  · omega
  · exfalso
    apply hd
    -- cv D (cv C T) n, in two ways
    have e1 : cv D (cv C T) n = cv C T n := by
      have hsp : ∀ i, i ≤ n → cv C T i = padd (low L (cv C T)) (fun j => if j = n then cv C T n else 0) i := by
        intro i hi
        show _ = (if i < L then cv C T i else 0) + (if i = n then cv C T n else 0)
        by_cases h1 : i = n
        · subst h1
          rw [if_pos rfl]
          by_cases h2 : i < L
          · omega
          · rw [if_neg h2, GF.zero_add]
        · rw [if_neg h1, GF.add_zero]
          by_cases h2 : i < L
          · rw [if_pos h2]
          · rw [if_neg h2]; exact hC.2.2 i (by omega) (by omega)
      rw [cv_congr n (fun _ _ => rfl) hsp, cv_add_right, degB_low hD.2.1 (degB_lowF L _) n h, GF.zero_add, cv_at (fun i hi => if_neg (by omega)), hD.1, GF.one_mul, if_pos rfl]
    have e2 : cv C (cv D T) n = 0 := by
      have hsp : ∀ i, i ≤ n → cv D T i = low l (cv D T) i := by
        intro i hi
        show _ = if i < l then cv D T i else 0
        by_cases h2 : i < l
        · rw [if_pos h2]
        · rw [if_neg h2]; exact hD.2.2 i (by omega) (by omega)
      rw [cv_congr n (fun _ _ => rfl) hsp, degB_low hC.2.1 (degB_lowF l _) n (by omega)]
    rw [← e1, cv_left_comm, e2]
/-- What the algorithm holds. -/
structure BM (T : PS) (n L : Nat) (C B : PS) (g : Nat) (b : GF) : Prop where
  lf : LF T n L C
  le : L ≤ n
  least : ∀ l D, LF T n l D → L ≤ l
  gap : 1 ≤ g
  ne : b ≠ 0
  deg : degB (n + 2 - L) (pxn g B)
  old : ∀ j, n + 1 - L ≤ j → j < n → cv (pxn g B) T j = 0
  at' : 0 < L → cv (pxn g B) T n = b
theorem BM.start (T : PS) : BM T 0 0 pone pone 1 1 :=
  ⟨⟨rfl, degB_pone, fun n _ h => by omega⟩, Nat.le_refl _, fun _ _ _ => Nat.zero_le _, Nat.le_refl _, GF.one_ne, degB_pxn' 1 degB_pone, fun j _ h => by omega, fun h => by omega⟩
where
  degB_pxn' {N : Nat} {f : PS} (k : Nat) (h : degB N f) : degB (k + N) (pxn k f) := fun i hi => by
    rw [pxn_get, if_neg (by omega)]; exact h _ (by omega)
theorem cv_pxn_succ (g : Nat) (B T : PS) (j : Nat) : cv (pxn (g + 1) B) T (j + 1) = cv (pxn g B) T j := by
  show cv (px (pxn g B)) T (j + 1) = _
  rw [cv_px]; rfl
theorem degB_px {N : Nat} {f : PS} (h : degB N f) : degB (N + 1) (px f) := fun i hi => by
  cases i with
  | zero => omega
  | succ i => exact h i (by omega)
/-- The discrepancy is 0. -/
theorem BM.skip {T : PS} {n L g : Nat} {C B : PS} {b : GF} (h : BM T n L C B g b) (hd : cv C T n = 0) : BM T (n + 1) L C B (g + 1) b := by
  refine ⟨⟨h.lf.1, h.lf.2.1, fun j h1 h2 => ?_⟩, by have := h.le; omega, fun l D hD => h.least l D (hD.less (by omega)), by omega, h.ne, ?_, fun j h1 h2 => ?_, fun hL => ?_⟩
  · by_cases e : j = n
    · rw [e]; exact hd
    · exact h.lf.2.2 j h1 (by omega)
  · have := degB_px h.deg
    exact degB_mono this (by have := h.le; omega)
  · obtain ⟨i, rfl⟩ : ∃ i, j = i + 1 := ⟨j - 1, by have := h.le; omega⟩
    rw [cv_pxn_succ]; exact h.old i (by have := h.le; omega) (by omega)
  · rw [cv_pxn_succ]; exact h.at' hL
def nextC (C B : PS) (g : Nat) (q : GF) : PS := padd C (psc q (pxn g B))
theorem nextC_lf {T : PS} {n L g : Nat} {C B : PS} {b : GF} (h : BM T n L C B g b) (M : Nat) (hM : M = max L (n + 1 - L)) : LF T (n + 1) M (nextC C B g (cv C T n * b.inv)) := by
  have hle := h.le
  refine ⟨?_, ?_, fun j h1 h2 => ?_⟩
  · show C 0 + cv C T n * b.inv * pxn g B 0 = 1
    rw [pxn_get, if_pos (by have := h.gap; omega), GF.mul_zero, GF.add_zero, h.lf.1]
  · exact degB_mono (degB_padd h.lf.2.1 (degB_psc _ h.deg)) (by omega)
  · unfold nextC
    rw [cv_add_left, cv_sc_left]
    by_cases e : j = n
    · subst e
      rw [h.at' (by omega), GF.mul_assoc, GF.inv_mul h.ne, GF.mul_one, GF.add_self]
    · rw [h.lf.2.2 j (by omega) (by omega), h.old j (by omega) (by omega), GF.mul_zero, GF.add_zero]
theorem BM.swap {T : PS} {n L g : Nat} {C B : PS} {b : GF} (h : BM T n L C B g b) (hd : cv C T n ≠ 0) (h2 : 2 * L ≤ n) : BM T (n + 1) (n + 1 - L) (nextC C B g (cv C T n * b.inv)) C 1 (cv C T n) := by
  have hle := h.le
  refine ⟨nextC_lf h _ (by omega), by omega, fun l D hD => ?_, Nat.le_refl _, hd, ?_, fun j h3 h4 => ?_, fun _ => ?_⟩
  · have := massey h.lf hd hD; omega
  · exact degB_mono (degB_px h.lf.2.1) (by omega)
  · obtain ⟨i, rfl⟩ : ∃ i, j = i + 1 := ⟨j - 1, by omega⟩
    rw [cv_pxn_succ]; exact h.lf.2.2 i (by omega) (by omega)
  · rw [cv_pxn_succ]; rfl
theorem BM.keep {T : PS} {n L g : Nat} {C B : PS} {b : GF} (h : BM T n L C B g b) (hd : cv C T n ≠ 0) (h2 : ¬ 2 * L ≤ n) : BM T (n + 1) L (nextC C B g (cv C T n * b.inv)) B (g + 1) b := by
  have hle := h.le
  refine ⟨nextC_lf h _ (by omega), by omega, fun l D hD => h.least l D (hD.less (by omega)), by omega, h.ne, degB_mono (degB_px h.deg) (by omega), fun j h3 h4 => ?_, fun hL => ?_⟩
  · obtain ⟨i, rfl⟩ : ∃ i, j = i + 1 := ⟨j - 1, by omega⟩
    rw [cv_pxn_succ]; exact h.old i (by omega) (by omega)
  · rw [cv_pxn_succ]; exact h.at' hL
/-- The recurrence of a sum of powers is the only one. -/
theorem lf_unique {t : List (GF × GF)} {N L : Nat} {C : PS} (hnd : (t.map Prod.fst).Nodup) (hne : ∀ q ∈ t, q.1 ≠ 0 ∧ q.2 ≠ 0) (hN : 2 * t.length ≤ N) (hC : LF (ser t) N L C) (hleast : ∀ l D, LF (ser t) N l D → L ≤ l) : L = t.length ∧ C = lam (t.map Prod.fst) := by
  have hl : LF (ser t) N t.length (lam (t.map Prod.fst)) := by
    refine ⟨lam_zero _, ?_, fun n h1 _ => ?_⟩
    · have := degB_lam (t.map Prod.fst); rwa [List.length_map] at this
    · rw [lam_ser]; exact degB_om t n h1
  have hLt := hleast _ _ hl
  -- the two products
  have hprod : cv C (om t) = cv (lam (t.map Prod.fst)) (low L (cv C (ser t))) := by
    funext n
    by_cases hn : n < N
    · have e1 : cv (lam (t.map Prod.fst)) (low L (cv C (ser t))) n = cv (lam (t.map Prod.fst)) (cv C (ser t)) n := by
        refine cv_congr n (fun _ _ => rfl) fun i hi => ?_
        show (if i < L then cv C (ser t) i else 0) = _
        by_cases h2 : i < L
        · rw [if_pos h2]
        · rw [if_neg h2]; exact (hC.2.2 i (by omega) (by omega)).symm
      rw [e1, cv_left_comm, lam_ser]
    · have d1 := degB_low hC.2.1 (degB_om t) n (by omega)
      have d2 := degB_lam (t.map Prod.fst)
      rw [List.length_map] at d2
      have d3 := degB_low d2 (degB_lowF L (cv C (ser t))) n (by omega)
      rw [d1, d3]
  have hroot : ∀ q ∈ t, vH C q.1.inv (L + 1) = 0 := by
    intro q hq
    have h1 : vH (cv C (om t)) q.1.inv ((L + 1) + t.length) = vH C q.1.inv (L + 1) * omv t q.1.inv := by
      rw [vH_cv _ hC.2.1 (degB_om t) (Nat.le_refl _), vH_om]
    have d2 := degB_lam (t.map Prod.fst)
    rw [List.length_map] at d2
    have h2 : vH (cv C (om t)) q.1.inv ((L + 1) + t.length) = 0 := by
      rw [hprod, vH_cv _ d2 (degB_lowF L _) (by omega)]
      have := vH_lam (t.map Prod.fst) q.1.inv
      rw [List.length_map] at this
      rw [this, plv_zero (hne q hq).1 (List.mem_map.2 ⟨q, hq, rfl⟩), GF.zero_mul]
    rw [h2] at h1
    rcases GF.mul_eq_zero h1.symm with h | h
    · exact h
    · exfalso
      obtain ⟨f1, f2⟩ := forney hnd (fun q hq => (hne q hq).1) q hq
      rw [h, GF.zero_mul] at f1
      rcases GF.mul_eq_zero f1.symm with e | e
      · exact (hne q hq).2 e
      · exact f2 e
  -- roots as a list
  have hrl : (t.map fun q => q.1.inv).Nodup := by
    unfold List.Nodup at hnd ⊢
    rw [List.pairwise_map] at hnd ⊢
    refine List.Pairwise.imp_of_mem ?_ hnd
    intro a b ha hb hab e
    exact hab (GF.inv_inj (hne a ha).1 (hne b hb).1 e)
  have hC1 : cf (ofF (L + 1) C) = C := cf_ofF hC.2.1
  have hval : ∀ z, valL (ofF (L + 1) C) z = vH C z (L + 1) := fun z => valL_of z hC1 hC.2.1
  have hlt := roots_lt (t.map fun q => q.1.inv) (L + 1) (ofF (L + 1) C) (by rw [hC1]; exact hC.2.1) (by rw [hC1]; intro e; exact GF.one_ne (by rw [← hC.1, e]; rfl)) hrl (fun x hx => by
    obtain ⟨q, hq, rfl⟩ := List.mem_map.1 hx
    rw [hval]; exact hroot q hq)
  rw [List.length_map] at hlt
  have hL : L = t.length := by omega
  refine ⟨hL, ?_⟩
  subst hL
  -- the difference vanishes at 0 and at all roots
  apply eq_of_padd
  apply Classical.byContradiction
  intro hdif
  have hdd : degB (t.length + 1) (padd C (lam (t.map Prod.fst))) := degB_mono (degB_padd hC.2.1 hl.2.1) (by omega)
  have hcf := cf_ofF hdd
  have h0 : (0 : GF) ∉ t.map fun q => q.1.inv := by
    intro h
    obtain ⟨q, hq, e⟩ := List.mem_map.1 h
    exact GF.inv_ne (hne q hq).1 e
  have := roots_lt (0 :: t.map fun q => q.1.inv) (t.length + 1) (ofF (t.length + 1) (padd C (lam (t.map Prod.fst)))) (by rw [hcf]; exact hdd) (by rw [hcf]; exact hdif) (List.nodup_cons.2 ⟨h0, hrl⟩) (fun x hx => by
    rw [valL_of x hcf hdd]
    rcases List.mem_cons.1 hx with rfl | hx
    · rw [vH_succ, GF.mul_zero, GF.zero_add]
      show C 0 + lam _ 0 = 0
      rw [hC.1, lam_zero, GF.add_self]
    · obtain ⟨q, hq, rfl⟩ := List.mem_map.1 hx
      rw [vH_add, hroot q hq, GF.zero_add]
      have := vH_lam (t.map Prod.fst) q.1.inv
      rw [List.length_map] at this
      rw [this, plv_zero (hne q hq).1 (List.mem_map.2 ⟨q, hq, rfl⟩)])
  simp only [List.length_cons, List.length_map] at this
  omega
end Go.Proofs.Ytcinfkmekkdhfaa
/- Reed-Solomon codes: words, syndromes, code words (plain). -/
namespace Go.Proofs.Ytcinfkmekkdhfaa
set_option linter.unusedVariables false

/-- The syndrome: the value of the word's polynomial at a power of the generator. -/
def synd (l : List GF) (j : Nat) : GF := valL l.reverse (GF.exp j)
def isCW (p : Nat) (l : List GF) : Prop := ∀ j, j < p → synd l j = 0
/-- The locator of a place. -/
def loc (n i : Nat) : GF := GF.exp ((n : Int) - 1 - i)
def prs (l : List GF) (K : List Nat) : List (GF × GF) := K.map fun i => (loc l.length i, l.getD i 0)
theorem loc_ne (n i : Nat) : loc n i ≠ 0 := GF.exp_ne _
theorem loc_inj {n i j : Nat} (hn : n ≤ 255) (hi : i < n) (hj : j < n) (h : loc n i = loc n j) : i = j := by
  unfold loc at h
  rw [show (n : Int) - 1 - i = ((n - 1 - i : Nat) : Int) by omega, show (n : Int) - 1 - j = ((n - 1 - j : Nat) : Int) by omega] at h
  have := GF.exp_inj (by omega) (by omega) h
  omega
theorem ser_cons (q : GF × GF) (t : List (GF × GF)) (j : Nat) : ser (q :: t) j = q.2 * gpow q.1 j + ser t j := rfl
theorem ser_snoc (t : List (GF × GF)) (q : GF × GF) (j : Nat) : ser (t ++ [q]) j = ser t j + q.2 * gpow q.1 j := by
  rw [ser_append]
  show ser t j + (q.2 * gpow q.1 j + 0) = _
  rw [GF.add_zero]
theorem val_ser (c : List GF) (j : Nat) : ∀ k, k ≤ c.length → valL (c.take k) (GF.exp j) = ser ((List.range k).map fun i => (GF.exp (i : Nat), cf c i)) j := by
  intro k
  induction k with
  | zero => intro _; rfl
  | succ k ih =>
    intro hk
    rw [valL_take c _ (by omega), List.range_succ, List.map_append, List.map_singleton, ser_snoc, ih (by omega)]
    show _ + cf c k * gpow (GF.exp j) k = _ + cf c k * gpow (GF.exp k) j
    rw [gpow_swap]
theorem rev_get (l : List GF) {i : Nat} (hi : i < l.length) : cf l.reverse i = l.getD (l.length - 1 - i) 0 := by
  unfold cf
  simp [List.getD, List.getElem?_reverse hi]
theorem synd_ser (l : List GF) (j : Nat) : synd l j = ser (prs l (List.range l.length)) j := by
  unfold synd
  have h := val_ser l.reverse j l.reverse.length (Nat.le_refl _)
  rw [List.take_of_length_le (Nat.le_refl _), List.length_reverse] at h
  rw [h]
  have e : ((List.range l.length).map fun i => (GF.exp (i : Nat), cf l.reverse i)) = (prs l (List.range l.length)).reverse := by
    unfold prs
    rw [← List.map_reverse]
    apply List.ext_getElem
    · simp
    · intro i h1 h2
      have hi : i < l.length := by simpa using h1
      simp only [List.getElem_map, List.getElem_range, List.getElem_reverse, List.length_range]
      rw [rev_get l hi]
      unfold loc
      congr 2
      omega
  rw [e, ser_perm (List.reverse_perm _)]
theorem prs_filter (l : List GF) (K : List Nat) (p : Nat → Bool) (h : ∀ i ∈ K, p i = false → l.getD i 0 = 0) : ser (prs l (K.filter p)) = ser (prs l K) := by
  induction K with
  | nil => rfl
  | cons i K ih =>
    have ih' := ih fun i hi => h i (List.mem_cons_of_mem _ hi)
    rw [List.filter_cons]
    by_cases hp : p i = true
    · rw [if_pos hp]; show padd _ (ser (prs l (K.filter p))) = padd _ (ser (prs l K)); rw [ih']
    · rw [if_neg hp, ih']
      have h0 := h i (List.mem_cons_self ..) (by simpa using hp)
      funext j
      show ser (prs l K) j = l.getD i 0 * geo (loc l.length i) j + ser (prs l K) j
      rw [h0, GF.zero_mul, GF.zero_add]
theorem nodup_filter {α : Type} {l : List α} (p : α → Bool) (h : l.Nodup) : (l.filter p).Nodup := List.Pairwise.filter p h
/-- A word that is 0 outside of some places. -/
theorem synd_places (l : List GF) (K : List Nat) (hnd : K.Nodup) (hK : ∀ i ∈ K, i < l.length) (h0 : ∀ i, i < l.length → i ∉ K → l.getD i 0 = 0) (j : Nat) : synd l j = ser (prs l K) j := by
  rw [synd_ser, ← prs_filter l (List.range l.length) (fun i => decide (i ∈ K)) (fun i hi hp => h0 i (List.mem_range.1 hi) (by simpa using hp))]
  have hperm : ((List.range l.length).filter fun i => decide (i ∈ K)).Perm K := by
    rw [List.perm_ext_iff_of_nodup (nodup_filter _ (List.nodup_range)) hnd]
    intro a
    rw [List.mem_filter, List.mem_range, decide_eq_true_eq]
    exact ⟨fun h => h.2, fun h => ⟨hK a h, h⟩⟩
  rw [show ser (prs l ((List.range l.length).filter fun i => decide (i ∈ K))) = ser (prs l K) from ser_perm (hperm.map _)]
theorem locs_nodup {n : Nat} (hn : n ≤ 255) {K : List Nat} (hnd : K.Nodup) (hK : ∀ i ∈ K, i < n) : (K.map (loc n)).Nodup := by
  unfold List.Nodup
  rw [List.pairwise_map]
  refine List.Pairwise.imp_of_mem ?_ hnd
  intro a b ha hb hab e
  exact hab (loc_inj hn (hK a ha) (hK b hb) e)
theorem prs_fst (l : List GF) (K : List Nat) : (prs l K).map Prod.fst = K.map (loc l.length) := by
  unfold prs; rw [List.map_map]; rfl
theorem prs_len (l : List GF) (K : List Nat) : (prs l K).length = K.length := by unfold prs; exact List.length_map _
/-- The sum of two words of one length. -/
def addW (a b : List GF) : List GF := (List.range a.length).map fun i => a.getD i 0 + b.getD i 0
def scW (c : GF) (a : List GF) : List GF := a.map fun x => c * x
theorem addW_len (a b : List GF) : (addW a b).length = a.length := by simp [addW]
theorem scW_len (c : GF) (a : List GF) : (scW c a).length = a.length := by simp [scW]
theorem addW_get (a b : List GF) {i : Nat} (hi : i < a.length) : (addW a b).getD i 0 = a.getD i 0 + b.getD i 0 := by simp [addW, List.getD, hi]
theorem scW_get (c : GF) (a : List GF) (i : Nat) : (scW c a).getD i 0 = c * a.getD i 0 := by
  unfold scW
  simp only [List.getD, List.getElem?_map]
  cases a[i]? with
  | none => exact (GF.mul_zero c).symm
  | some x => rfl
theorem synd_add (a b : List GF) (h : a.length = b.length) (j : Nat) : synd (addW a b) j = synd a j + synd b j := by
  rw [synd_ser, synd_ser, synd_ser, addW_len, ← h]
  have key : ∀ K : List Nat, (∀ i ∈ K, i < a.length) → ser (prs (addW a b) K) j = ser (prs a K) j + ser (prs b K) j := by
    intro K
    induction K with
    | nil => intro _; exact (GF.add_zero 0).symm
    | cons i K ih =>
      intro hK
      show (addW a b).getD i 0 * gpow (loc (addW a b).length i) j + ser (prs (addW a b) K) j = (a.getD i 0 * gpow (loc a.length i) j + ser (prs a K) j) + (b.getD i 0 * gpow (loc b.length i) j + ser (prs b K) j)
      rw [ih fun i hi => hK i (List.mem_cons_of_mem _ hi), addW_get a b (hK i (List.mem_cons_self ..)), addW_len, ← h, GF.add_mul, GF.add_swap]
  exact key _ fun i hi => List.mem_range.1 hi
theorem synd_sc (c : GF) (a : List GF) (j : Nat) : synd (scW c a) j = c * synd a j := by
  rw [synd_ser, synd_ser, scW_len]
  have key : ∀ K : List Nat, ser (prs (scW c a) K) j = c * ser (prs a K) j := by
    intro K
    induction K with
    | nil => exact (GF.mul_zero c).symm
    | cons i K ih =>
      show (scW c a).getD i 0 * gpow (loc (scW c a).length i) j + ser (prs (scW c a) K) j = c * (a.getD i 0 * gpow (loc a.length i) j + ser (prs a K) j)
      rw [ih, scW_get, scW_len, GF.mul_add, GF.mul_assoc]
  exact key _
theorem isCW_add {p : Nat} {a b : List GF} (h : a.length = b.length) (ha : isCW p a) (hb : isCW p b) : isCW p (addW a b) := fun j hj => by rw [synd_add a b h, ha j hj, hb j hj, GF.add_zero]
theorem isCW_sc {p : Nat} (c : GF) {a : List GF} (ha : isCW p a) : isCW p (scW c a) := fun j hj => by rw [synd_sc, ha j hj, GF.mul_zero]
theorem isCW_less {p q : Nat} {a : List GF} (ha : isCW p a) (h : q ≤ p) : isCW q a := fun j hj => ha j (by omega)
/-- A code word that is 0 outside of at most p places is 0. -/
theorem cw_zero {p : Nat} {l : List GF} (hn : l.length ≤ 255) (hcw : isCW p l) (K : List Nat) (hnd : K.Nodup) (hK : ∀ i ∈ K, i < l.length) (hlen : K.length ≤ p) (h0 : ∀ i, i < l.length → i ∉ K → l.getD i 0 = 0) : ∀ i, i < l.length → l.getD i 0 = 0 := by
  have hs : ∀ j, j < p → ser (prs l K) j = 0 := fun j hj => by rw [← synd_places l K hnd hK h0 j]; exact hcw j hj
  have hz := ser_zero (t := prs l K) (p := p) (by rw [prs_fst]; exact locs_nodup hn hnd hK) (fun q hq => by
    obtain ⟨i, _, rfl⟩ := List.mem_map.1 hq
    exact loc_ne _ _) (by rw [prs_len]; exact hlen) hs
  intro i hi
  by_cases hik : i ∈ K
  · exact hz (loc l.length i, l.getD i 0) (List.mem_map.2 ⟨i, hik, rfl⟩)
  · exact h0 i hi hik
theorem eq_of_getD {a b : List GF} (hl : a.length = b.length) (h : ∀ i, i < a.length → a.getD i 0 = b.getD i 0) : a = b := by
  apply List.ext_getElem hl
  intro i h1 h2
  have := h i h1
  simpa [List.getD, List.getElem?_eq_getElem h1, List.getElem?_eq_getElem h2] using this
theorem cw_unique {p : Nat} {a b : List GF} (hl : a.length = b.length) (hn : a.length ≤ 255) (ha : isCW p a) (hb : isCW p b) (K : List Nat) (hnd : K.Nodup) (hK : ∀ i ∈ K, i < a.length) (hlen : K.length ≤ p) (h0 : ∀ i, i < a.length → i ∉ K → a.getD i 0 = b.getD i 0) : a = b := by
  have hz := cw_zero (l := addW a b) (by rw [addW_len]; exact hn) (isCW_add hl ha hb) K hnd (by rw [addW_len]; exact hK) hlen (fun i hi hik => by
    rw [addW_len] at hi
    rw [addW_get a b hi, h0 i hi hik, GF.add_self])
  refine eq_of_getD hl fun i hi => ?_
  have := hz i (by rw [addW_len]; exact hi)
  rw [addW_get a b hi] at this
  exact GF.eq_of_add this
/-- How many places outside of a list differ. -/
def wrongs (a b : List GF) (er : List Nat) : List Nat := (List.range a.length).filter fun i => decide (a.getD i 0 ≠ b.getD i 0) && decide (i ∉ er)
theorem mem_wrongs {a b : List GF} {er : List Nat} {i : Nat} : i ∈ wrongs a b er ↔ i < a.length ∧ a.getD i 0 ≠ b.getD i 0 ∧ i ∉ er := by
  unfold wrongs; rw [List.mem_filter, List.mem_range]; simp
theorem wrongs_nodup (a b : List GF) (er : List Nat) : (wrongs a b er).Nodup := nodup_filter _ List.nodup_range
/-- c is a code word within the bound of w. -/
def Within (p : Nat) (w : List GF) (er : List Nat) (c : List GF) : Prop := c.length = w.length ∧ isCW p c ∧ 2 * (wrongs w c er).length + er.length ≤ p
theorem within_unique {p : Nat} {w c d : List GF} {er : List Nat} (hn : w.length ≤ 255) (her : er.Nodup) (hK : ∀ i ∈ er, i < w.length) (hc : Within p w er c) (hd : Within p w er d) : c = d := by
  obtain ⟨c1, c2, c3⟩ := hc
  obtain ⟨d1, d2, d3⟩ := hd
  refine cw_unique (c1.trans d1.symm) (by omega) c2 d2 (er ++ (wrongs w c er ++ (wrongs w d er).filter fun i => decide (i ∉ wrongs w c er))) ?_ ?_ ?_ ?_
  · rw [List.nodup_append]
    refine ⟨her, ?_, ?_⟩
    · rw [List.nodup_append]
      refine ⟨wrongs_nodup _ _ _, nodup_filter _ (wrongs_nodup _ _ _), fun a ha b hb e => ?_⟩
      subst e
      have := (List.mem_filter.1 hb).2
      simp at this
      exact this ha
    · intro a ha b hb e
      subst e
      rcases List.mem_append.1 hb with h | h
      · exact (mem_wrongs.1 h).2.2 ha
      · exact (mem_wrongs.1 (List.mem_filter.1 h).1).2.2 ha
  · intro i hi
    rw [c1]
    rcases List.mem_append.1 hi with h | h
    · exact hK i h
    · rcases List.mem_append.1 h with h | h
      · exact (mem_wrongs.1 h).1
      · exact (mem_wrongs.1 (List.mem_filter.1 h).1).1
  · have := List.length_filter_le (fun i => decide (i ∉ wrongs w c er)) (wrongs w d er)
    simp only [List.length_append]
    omega
  · intro i hi hik
    simp only [List.mem_append, not_or] at hik
    obtain ⟨h1, h2, h3⟩ := hik
    rw [c1] at hi
    have e1 : w.getD i 0 = c.getD i 0 := by
      apply Classical.byContradiction
      intro h; exact h2 (mem_wrongs.2 ⟨hi, h, h1⟩)
    have e2 : w.getD i 0 = d.getD i 0 := by
      apply Classical.byContradiction
      intro h; exact h3 (List.mem_filter.2 ⟨mem_wrongs.2 ⟨hi, h, h1⟩, by simpa using h2⟩)
    rw [← e1, e2]
end Go.Proofs.Ytcinfkmekkdhfaa
