/- Walk of rs.correct. -/
import Derived.Test.YtpkaaiefnabfbabRsK
import Derived.Test.YtpkaaiefnabfbabPoH
namespace Go.Proofs.Ytpkaaiefnabfbab
open Go.RowKit
set_option linter.unusedVariables false

/-- A variable that holds a value. -/
def Bx (w : World) (g : Nat) (v : Value) : Prop := g < w.heap.size ∧ w.cell? ⟨g, 0, none⟩ = some v
theorem Bx.below {w w' : World} {g : Nat} {v : Value} (h : Bx w g v) (hb : Below w.heap.size w w') : Bx w' g v :=
  ⟨Nat.lt_of_lt_of_le h.1 hb.size, (hb.cell (p := ⟨g, 0, none⟩) h.1).trans h.2⟩
theorem Bx.new (w : World) (v : Value) (t : TypeId) : Bx (w.alloc (.cells #[v] t)) w.heap.size v := ⟨by simp, by simp [go_sem]⟩
set_option maxHeartbeats 1000000 in
theorem locator_any (i : Nat) (g n c : Nat) (A : Option Addr) (w : World) (hb : Bx w g (.slice A n c)) (hn : n ≤ 255) (hi : i < n) :
    Calls Try.prog 61 #[.int .i64 i, .pointer (some ⟨g, 0, none⟩)] w fun e w' => e = .returned (.int .u8 (loc n i).z) ∧ w = w' := by
  obtain ⟨h1, h2⟩ := hb
  have HX := Lib.hid (fun w => gExpZ ((n : Int) - 1 - i) w)
  rw [show GF.exp ((n : Int) - 1 - i) = loc n i from rfl] at HX
  generalize loc n i = y at *
  go_enter Try.func61, Try.ntmps61
  go_wp2_with (go_at_call 29; refine (HX.out _).mono ?_; rintro e w' ⟨rfl, rfl⟩)
  go_ret
  exact ⟨rfl, rfl⟩
set_option maxHeartbeats 1000000 in
theorem cut_any (A : Option Addr) (n c k : Nat) (a : List GF) (w : World) (ha : RdB w A n a) (hn : n ≤ 100000) (hc : n ≤ c) (hk : k ≤ 100000) :
    Calls Try.prog 65 #[.slice A n c, .int .i64 k] w fun e w' => e = .returned (.slice A (min k n) c) ∧ w = w' := by
  go_enter Try.func65, Try.ntmps65
  go_wp2
  all_goals
    go_ret
    first
      | (rw [Nat.min_eq_left (by omega)]; exact ⟨rfl, rfl⟩)
      | (rw [Nat.min_eq_right (by omega)]; exact ⟨rfl, rfl⟩)
/-- Places as numbers of the program. -/
def toI (er : List Nat) : List Int := er.map fun (k : Nat) => (k : Int)
theorem toI_len (er : List Nat) : (toI er).length = er.length := by simp [toI]
theorem toI_get (er : List Nat) (i : Nat) : (toI er).getD i 0 = ((er.getD i 0 : Nat) : Int) := by
  unfold toI
  rcases Nat.lt_or_ge i er.length with h | h
  · simp [List.getD, h]
  · simp [List.getD, List.getElem?_eq_none h]
theorem mem_toI {er : List Nat} {i : Nat} : (i : Int) ∈ toI er ↔ i ∈ er := by
  unfold toI
  simp only [List.mem_map]
  constructor
  · rintro ⟨j, hj, e⟩
    have : j = i := by omega
    exact this ▸ hj
  · intro h; exact ⟨i, h, rfl⟩
theorem toI_append (a b : List Nat) : toI (a ++ b) = toI a ++ toI b := by simp [toI]
/-- The locator of erasures. -/
def erP (n : Nat) : List Nat → List GF
  | [] => [1]
  | i :: S => prodP (erP n S) [1, loc n i]
theorem erP_cf (n : Nat) (S : List Nat) : cf (erP n S) = lam (S.map (loc n)) := by
  induction S with
  | nil =>
    funext i
    cases i with
    | zero => rfl
    | succ i => simp [erP, cf, lam, pone]
  | cons i S ih =>
    show cf (prodP (erP n S) [1, loc n i]) = cv (cf [1, loc n i]) (lam (S.map (loc n)))
    rw [cf_prodP, ih, cv_comm']
theorem erP_Tr (n : Nat) (S : List Nat) : Tr (erP n S) := by
  cases S with
  | nil => exact .inr GF.one_ne
  | cons i S => exact Tr_ofF _ _
theorem erP_len (n : Nat) (S : List Nat) : (erP n S).length ≤ S.length + 1 := by
  apply Tr_len (erP_Tr n S)
  rw [erP_cf]
  have := degB_lam (S.map (loc n))
  rwa [List.length_map] at this
theorem lam_reverse (t : List GF) : lam t.reverse = lam t := by
  induction t with
  | nil => rfl
  | cons X t ih =>
    rw [List.reverse_cons, lam_append, ih]
    show cv (lam t) (cv (cf [1, X]) pone) = cv (cf [1, X]) (lam t)
    rw [cv_pone_right, cv_comm']
theorem RdB.drop {w : World} {b o n : Nat} {l : List GF} (h : RdB w (some ⟨b, o, none⟩) n l) (k : Nat) : RdB w (some ⟨b, o + k, none⟩) (n - k) (l.drop k) := by
  refine ⟨by rw [List.length_drop, h.1], fun hn => ?_⟩
  obtain ⟨b', o', e, hlt, hc⟩ := h.2 (by omega)
  cases e
  refine ⟨b, o + k, rfl, hlt, fun i hi => ?_⟩
  have := hc (k + i) (by omega)
  rw [show o + k + i = o + (k + i) by omega, this]
  simp [List.getD]
theorem run_tailB (g o n c k : Nat) (hk : k ≤ n) (hc : n ≤ c) : ∃ o', (k < n → o' = o + k) ∧ ∀ w, (Instr.slice 22 (.slice (some ⟨g, o, none⟩) n c) (some (.int .i64 (k : Int))) none none).run Try.prog w = .ok (.slice (some ⟨g, o', none⟩) (n - k) (c - k)) w := by
  refine ⟨if c = k then o else o + k, fun h => if_neg (by omega), fun w => ?_⟩
  have h1 : 0 ≤ (k : Int) ∧ (k : Int) ≤ n := by omega
  have h2 : ¬ n < k := by omega
  by_cases h : c = k <;> simp [Instr.slice, Instr.sliceBounds, Instr.sliceBound, go_sem, h1, h2, h]
theorem RdB.tail {w : World} {b o n : Nat} {l : List GF} (h : RdB w (some ⟨b, o, none⟩) n l) {k o' : Nat} (ho : k < n → o' = o + k) : RdB w (some ⟨b, o', none⟩) (n - k) (l.drop k) := by
  by_cases hk : k < n
  · rw [ho hk]; exact h.drop k
  · exact ⟨by rw [List.length_drop, h.1], fun hn => by omega⟩
theorem sl_al (w : World) (o : Obj) : Value.slice (some ⟨w.heap.size + 1, 0, none⟩) 1 1 = .slice (some ⟨(w.alloc o).heap.size, 0, none⟩) 1 1 := by rw [World.size_alloc]
theorem derP_len' (a : List GF) : (derP a).length ≤ a.length := by
  have := trim_len_le ((List.range (a.length - 1)).map (dvS (cf a)))
  rw [List.length_map, List.length_range] at this
  exact Nat.le_trans this (Nat.sub_le _ _)
theorem RdB.cut {w : World} {A : Option Addr} {n : Nat} {l : List GF} (h : RdB w A n l) (k : Nat) : RdB w A (min k n) (l.take k) := by
  have h1 := h.take (k := min k n) (Nat.min_le_right _ _)
  rcases Nat.le_total k n with hk | hk
  · rw [Nat.min_eq_left hk] at h1 ⊢; exact h1
  · rw [Nat.min_eq_right hk] at h1 ⊢
    rw [List.take_of_length_le (by rw [h.1]; exact Nat.le_refl _)] at h1
    rw [List.take_of_length_le (by rw [h.1]; exact hk)]; exact h1
theorem cut_cf (a : List GF) (p j : Nat) : cf (a.take p) j = if j < p then cf a j else 0 := by
  unfold cf
  simp only [List.getD, List.getElem?_take]
  split <;> rfl
theorem takeN_succ (K : List Nat) {k : Nat} (hk : k < K.length) : K.take (k + 1) = K.take k ++ [K.getD k 0] := by
  rw [List.take_add_one]; simp [List.getD, hk]
theorem take_not_mem {K : List Nat} (h : K.Nodup) {k : Nat} (hk : k < K.length) : K.getD k 0 ∉ K.take k := by
  have h2 : (K.take k ++ [K.getD k 0]).Nodup := by rw [← takeN_succ K hk]; exact h.sublist (List.take_sublist _ _)
  rw [List.nodup_append] at h2
  intro hm
  exact h2.2.2 _ hm _ (List.mem_singleton.2 rfl) rfl
/-- The places that are found below k. -/
def plk (w : List GF) (er : List Nat) (C : List GF) (k : Nat) : List Nat := (List.range k).filter fun i => decide (valL C (GF.exp ((i : Int) + 1 - (w.length : Nat))) = 0) && decide (i ∉ er)
theorem plk_yes {w : List GF} {er : List Nat} {C : List GF} {k : Nat} (h1 : valL C (GF.exp ((k : Int) + 1 - (w.length : Nat))) = 0) (h2 : k ∉ er) : plk w er C (k + 1) = plk w er C k ++ [k] := by
  unfold plk
  rw [List.range_succ, List.filter_append]
  simp [h1, h2]
theorem plk_no {w : List GF} {er : List Nat} {C : List GF} {k : Nat} (h : ¬ (valL C (GF.exp ((k : Int) + 1 - (w.length : Nat))) = 0 ∧ k ∉ er)) : plk w er C (k + 1) = plk w er C k := by
  unfold plk
  rw [List.range_succ, List.filter_append]
  have : (List.filter (fun (i : Nat) => decide (valL C (GF.exp ((i : Int) + 1 - (w.length : Nat))) = 0) && decide (i ∉ er)) [k]) = [] := by
    rw [List.filter_eq_nil_iff]
    intro i hi
    rw [List.mem_singleton] at hi
    subst hi
    rw [← Bool.decide_and, decide_eq_true_eq]
    exact h
  rw [this, List.append_nil]
theorem plk_zero (w : List GF) (er : List Nat) (C : List GF) : plk w er C 0 = [] := rfl
theorem plc_plk (w : List GF) (er : List Nat) (C : List GF) : plc w er C = plk w er C w.length := rfl
theorem plk_len (w : List GF) (er : List Nat) (C : List GF) (k : Nat) : (plk w er C k).length ≤ k := by
  have := List.length_filter_le (fun (i : Nat) => decide (valL C (GF.exp ((i : Int) + 1 - (w.length : Nat))) = 0) && decide (i ∉ er)) (List.range k)
  rwa [List.length_range] at this
theorem take_succ_rev (er : List Nat) {k : Nat} (hk : k < er.length) : (er.take (k + 1)).reverse = er.getD k 0 :: (er.take k).reverse := by
  rw [List.take_add_one]
  simp [List.getD, hk]
/-- What stays through rs.correct: the word, its syndromes, the erasures, the variable of the word. -/
structure Cx (l : List GF) (p : Nat) (er : List Nat) (A S I : Option Addr) (ca g : Nat) (w0 w : World) : Prop where
  a : RdB w A l.length l
  s : RdB w S p (syndL l p)
  i : RdI w I er.length (toI er)
  b : Bx w g (.slice A l.length ca)
  bw : Below w0.heap.size w0 w
theorem Cx.below {l : List GF} {p : Nat} {er : List Nat} {A S I : Option Addr} {ca g : Nat} {w0 w w' : World} (h : Cx l p er A S I ca g w0 w) (hb : Below w.heap.size w w') : Cx l p er A S I ca g w0 w' :=
  ⟨h.a.below hb, h.s.below hb, h.i.below hb, h.b.below hb, Bw.step h.bw hb⟩
theorem Cx.al {l : List GF} {p : Nat} {er : List Nat} {A S I : Option Addr} {ca g : Nat} {w0 w : World} (h : Cx l p er A S I ca g w0 w) (o : Obj) : Cx l p er A S I ca g w0 (w.alloc o) := h.below (below_new w o)
/-- What rs.correct returns. -/
def CorPost (l : List GF) (p : Nat) (er : List Nat) (w0 : World) (e : Ending) (w : World) : Prop :=
  (∃ c A' c', Within p l er c ∧ e = .returned (.tuple #[.slice A' l.length c', .bool true]) ∧ OwB w w0.heap.size (.slice A' l.length c') c ∧ Below w0.heap.size w0 w) ∨
  ((∀ c, ¬ Within p l er c) ∧ (∃ A' n' c', e = .returned (.tuple #[.slice A' n' c', .bool false])) ∧ Below w0.heap.size w0 w)
theorem wrongs_self (l : List GF) (er : List Nat) : wrongs l l er = [] := by
  unfold wrongs; rw [List.filter_eq_nil_iff]; intro i _; simp
set_option maxRecDepth 100000 in
set_option maxHeartbeats 8000000 in
theorem correct_any (A S I : Option Addr) (ca cs ci p : Nat) (l : List GF) (er : List Nat) (w : World) (ha : RdB w A l.length l) (hs : RdB w S p (syndL l p)) (hi : RdI w I er.length (toI er))
    (hn : l.length ≤ 255) (hp : p ≤ 32) (hnd : er.Nodup) (hlt : ∀ i ∈ er, i < l.length) (he : er.length ≤ 255) :
    Calls Try.prog 41 #[.slice A l.length ca, .slice S p cs, .slice I er.length ci] w fun e w' => CorPost l p er w e w' := by
  have HC := Lib.hid (show Cx l p er A S I ca w.heap.size w (w.alloc (.cells #[.slice A l.length ca] 22)) from ⟨ha.al _, hs.al _, hi.al _, Bx.new _ _ _, below_new _ _⟩)
  clear ha hs hi
  by_cases hf : er.length ≤ p
  · by_cases hz : isCW p l
    ·
      have hz' : zeroB (syndL l p) = true := syndL_zero.2 hz
      have HZ := Lib.hid (isZero_any S p cs _ _ HC.out.s (by omega))
      rw [hz'] at HZ
      clear hz'
      have hbx := HC.out.b.2
      go_enter Try.func41, Try.ntmps41
      go_wp2_with fail
      refine HZ.out.mono ?_; rintro e w1 ⟨rfl, rfl⟩
      go_wp2_with fail
      refine (cloneB_any _ _ _ _ _ HC.out.a (by omega)).mono ?_; rintro e w1 ⟨A1, c1, rfl, ho1, hb1⟩
      go_wp2
      go_ret2
      exact .inl ⟨l, A1, c1, ⟨rfl, hz, by rw [wrongs_self]; simpa using hf⟩, rfl, own_base ho1 (by simp), Bw.step HC.out.bw hb1⟩
    · have hz' : zeroB (syndL l p) = false := Bool.eq_false_iff.2 fun e => hz (syndL_zero.1 e)
      have HZ := Lib.hid (isZero_any S p cs _ _ HC.out.s (by omega))
      rw [hz'] at HZ
      have hp1 : 1 ≤ p := by
        rcases Nat.eq_zero_or_pos p with h | h
        · exact absurd (fun j hj => by omega) hz
        · exact h
      clear hz'
      have hbx := HC.out.b.2
      go_enter Try.func41, Try.ntmps41
      go_wp2_with fail
      refine HZ.out.mono ?_; rintro e w1 ⟨rfl, rfl⟩
      have HW := Lib.hid (show RdB ((w.alloc (.cells #[.slice A l.length ca] 22)).alloc (.cells #[.int .u8 1] 5)) (some ⟨w.heap.size + 1, 0, none⟩) 1 (erP l.length []) from RdB.l1 _ _ 1 1 5 (by simp) rfl)
      have HC1 := Lib.hid (HC.out.al (.cells #[.int .u8 1] 5))
      clear HC HZ
      go_wp2
      generalize (w.alloc (.cells #[.slice A l.length ca] 22)).alloc (.cells #[.int .u8 1] 5) = W at *
      generalize w.heap.size = g at *
      go_loopw [10, 51] (fun u i wr => ∃ (k : Nat) (A1 : Option Addr) (c1 : Nat), k ≤ er.length ∧ i = .int .i64 k ∧ u = .slice A1 (erP l.length (er.take k).reverse).length c1 ∧ RdB wr A1 (erP l.length (er.take k).reverse).length (erP l.length (er.take k).reverse) ∧ Cx l p er A S I ca g w wr) (fun _ i _ => er.length - (intOf i).toNat)
      case atStart => exact ⟨0, _, 1, Nat.zero_le _, rfl, rfl, HW.out, HC1.out⟩
      case round =>
        obtain ⟨k, A1, c1, hk, rfl, rfl, R1, C1⟩ := hrel
        by_cases hlk : k < er.length
        ·
          obtain ⟨b, off, rfl, hlb, hcc⟩ := rdI_cell C1.i (i := k) hlk
          rw [toI_get] at hcc
          have hj : er.getD k 0 < l.length := hlt _ (by simp [List.getD, hlk])
          have hgl := erP_len l.length (er.take k).reverse
          have hgl2 : (erP l.length (er.take k).reverse).length ≤ 100 := by
            simp only [List.length_reverse, List.length_take] at hgl
            omega
          have HLC := Lib.hid (fun c w h => locator_any (er.getD k 0) g l.length c A w h hn hj)
          have HM := Lib.hid (fun (w : World) A2 (h1 : RdB w A1 (erP l.length (er.take k).reverse).length (erP l.length (er.take k).reverse)) (h2 : RdB w A2 2 [1, loc l.length (er.getD k 0)]) => poMulP_ok A1 A2 (erP l.length (er.take k).reverse).length 2 c1 2 _ [1, loc l.length (er.getD k 0)] w h1 h2 (by omega) (by omega))
          rw [show prodP (erP l.length (er.take k).reverse) [1, loc l.length (er.getD k 0)] = erP l.length (er.take (k + 1)).reverse by rw [take_succ_rev er hlk]; rfl] at HM
          generalize er.getD k 0 = j at *
          generalize loc l.length j = x at *
          have HC2 := Lib.hid C1
          have HR1 := Lib.hid R1
          clear C1 R1 hgl
          go_wp2_with fail
          refine (HLC.out _ _ HC2.out.b).mono ?_; rintro e w2 ⟨rfl, rfl⟩
          go_wp2_with fail
          refine (HM.out _ _ (HR1.out.al _) (RdB.l2 _ _ 1 x.z 1 x _ rfl ⟨rfl, rfl⟩)).mono ?_
          rintro e w2 ⟨A2, c2, rfl, ho2, hb2⟩
          have R2 := ho2.rd.1
          have C2 := (HC2.out.al _).below hb2
          clear ho2
          go_wp2
          go_roundw
          case rel => exact ⟨k + 1, A2, c2, by omega, by go_num, rfl, R2, C2⟩
          case measure => simp [intOf]; omega
        · obtain rfl : k = er.length := by omega
          rw [List.take_length] at *
          have hgl := erP_len l.length er.reverse
          rw [List.length_reverse] at hgl
          have hcg := Lib.hid (show cf (erP l.length er.reverse) = lam (er.map (loc l.length)) by rw [erP_cf, List.map_reverse, lam_reverse])
          generalize erP l.length er.reverse = G at *
          have HC2 := Lib.hid C1
          have HRG := Lib.hid R1
          have hmk := run_makeB p (by omega)
          clear C1 R1 hbx HW HC1 hlk hk
          go_wp2_with fail
          refine (poMulP_ok A1 S _ _ c1 cs _ _ _ HRG.out HC2.out.s (by omega) (by omega)).mono ?_
          rintro e w2 ⟨A2, c2, rfl, ho2, hb2⟩
          have HC3 := Lib.hid ((HC2.out.below hb2).al (.cells #[.int .i64 0, .int .i64 0] 24))
          have HG3 := Lib.hid ((HRG.out.below hb2).al (.cells #[.int .i64 0, .int .i64 0] 24))
          have HP3 := Lib.hid (ho2.rd.1.al (.cells #[.int .i64 0, .int .i64 0] 24))
          have hpl : (prodP G (syndL l p)).length ≤ 200 := by
            have := prodP_le G (syndL l p)
            rw [syndL_len] at this
            omega
          have hcp := Lib.hid (cf_prodP G (syndL l p))
          clear ho2 hb2 HC2 HRG
          generalize prodP G (syndL l p) = Pr at *
          have HZ3 := Lib.hid ((OwB.new (w2.alloc (.cells #[.int .i64 0, .int .i64 0] 24)) (w2.alloc (.cells #[.int .i64 0, .int .i64 0] 24)).heap.size p (Nat.le_refl _) (by unfold maxLen; omega)).rd.1)
          rw [World.size_alloc] at HZ3
          obtain ⟨lD, cD0, cD1, fD0, fD1⟩ := Has.new w2 0 0 24
          go_wp2_with fail
          refine (concat2_any _ _ A2 _ Pr.length p c2 p Pr (List.replicate p 0) _ (TwoAt.mk' _ _ A2 _ Pr.length p c2 p _ (by simp)) ((HP3.out.al _).al _) (HZ3.out.al _) (by omega) (by omega)).mono ?_
          rintro e w4 ⟨A4, c4, rfl, ho4, hb4⟩
          have HC4 := Lib.hid (((HC3.out.al _).al _).below hb4)
          have HG4 := Lib.hid (((HG3.out.al _).al _).below hb4)
          have hN : (Pr ++ List.replicate p (0 : GF)).length = Pr.length + p := by simp
          generalize hNN : (Pr ++ List.replicate p (0 : GF)).length = N at *
          have hN2 : N ≤ 300 := by omega
          have hN3 : p ≤ N := by omega
          have hcap := ho4.cap.1
          obtain ⟨g4, rfl⟩ := ho4.head (by omega)
          obtain ⟨oT, hoT, hsl⟩ := run_tailB g4 0 p c4 er.length hf (by omega)
          have HT := Lib.hid ((ho4.rd.1.take hN3).tail hoT)
          have hTc : ∀ k, k < p - er.length → cf ((List.take p (Pr ++ List.replicate p 0)).drop er.length) k = cv (cf G) (cf (syndL l p)) (er.length + k) := by
            intro k hk
            rw [← hcp.out]
            unfold cf
            simp only [List.getD, List.getElem?_drop, List.getElem?_take, List.getElem?_append, List.getElem?_replicate]
            rw [if_pos (show er.length + k < p by omega)]
            by_cases h : er.length + k < Pr.length
            · rw [if_pos h]
            · rw [if_neg h, List.getElem?_eq_none (by omega : Pr.length ≤ er.length + k)]
              split <;> rfl
          have HTC := Lib.hid hTc
          clear hTc hN hNN HC3 HG3 HP3 HZ3 ho4 lD cD0 cD1 fD0 fD1 hmk
          generalize (List.take p (Pr ++ List.replicate p 0)).drop er.length = T at *
          clear hoT
          go_wp2_with fail
          refine (connect_any _ _ _ _ _ HT.out (by omega)).mono ?_
          rintro e w5 ⟨A5, c5, C, L, rfl, RC5, hCl, hLN, hlf, hleast, hb5⟩
          have HD := Lib.hid (show Dec l p er G T C L from ⟨hn, hnd, hlt, hf, hcg.out, HTC.out, hlf, hleast⟩)
          have HC5 := Lib.hid (HC4.out.below hb5)
          have HG5 := Lib.hid (HG4.out.below hb5)
          have HR5 := Lib.hid RC5
          clear HC4 HG4 hlf hleast RC5 HT HTC hb4 hb5 hcp
          by_cases h2 : 2 * L ≤ p - er.length
          · go_wp2_with fail
            refine (cloneI_any _ _ _ _ _ HC5.out.i (by omega)).mono ?_
            rw [toI_len]
            rintro e w6 ⟨A6, c6, rfl, ho6, hb6⟩
            have HC6 := Lib.hid (HC5.out.below hb6)
            have hbx := HC6.out.b.2
            have HO6 := Lib.hid ho6
            clear ho6
            go_wp2
            have HB6 := Lib.hid hb6
            clear hb6 hbx hsl
            go_loopw [18, 97] (fun pl i wr => ∃ k : Nat, k ≤ l.length ∧ i = .int .i64 k ∧ OwI wr w5.heap.size pl (toI (er ++ plk l er C k)) ∧ Below w5.heap.size w5 wr) (fun _ i _ => l.length - (intOf i).toNat)
            case atStart => exact ⟨0, Nat.zero_le _, rfl, by rw [plk_zero, List.append_nil]; exact HO6.out, HB6.out⟩
            case round =>
              obtain ⟨k, hk, rfl, ho, hbw⟩ := hrel
              have HX := Lib.hid hbw
              by_cases hlk : k < l.length
              · --[[c
                have hbx := (HC5.out.below hbw).b.2
                have HV := Lib.hid (fun w (h : RdB w A5 C.length C) => poValueP_ok A5 C.length c5 C (GF.exp ((k : Int) + 1 - (l.length : Nat))) w h (by omega))
                have HO := Lib.hid ho
                have hL : (toI (er ++ plk l er C k)).length ≤ 600 := by
                  have := plk_len l er C k
                  rw [toI_len, List.length_append]; omega
                have HN : Hid (valL C (GF.exp ((k : Int) + 1 - (l.length : Nat))) = 0 → k ∉ er → toI (er ++ plk l er C (k + 1)) = toI (er ++ plk l er C k) ++ [(k : Int)]) := Lib.hid fun h1 h2 => by
                  rw [plk_yes h1 h2, ← List.append_assoc, toI_append]; rfl
                have HM : Hid (¬ (valL C (GF.exp ((k : Int) + 1 - (l.length : Nat))) = 0 ∧ k ∉ er) → toI (er ++ plk l er C (k + 1)) = toI (er ++ plk l er C k)) := Lib.hid fun h => by rw [plk_no h]
                have ws : IntKind.i64.wrap ((k : Int) + 1 - (l.length : Nat)) = (k : Int) + 1 - (l.length : Nat) := IntWalk.i64_in _ (by omega)
                clear ho
                generalize toI (er ++ plk l er C k) = Lp at *
                generalize valL C (GF.exp ((k : Int) + 1 - (l.length : Nat))) = vv at *
                have HE := Lib.hid (fun w => gExpZ ((k : Int) + 1 - (l.length : Nat)) w)
                generalize GF.exp ((k : Int) + 1 - (l.length : Nat)) = xx at *
                go_wp2_with (go_at_call 29; refine (HE.out _).mono ?_; rintro e w' ⟨rfl, rfl⟩)
                go_wp2_with fail
                refine (HV.out _ (HR5.out.below HX.out)).mono ?_
                rintro e w7 ⟨rfl, hb7⟩
                have hb8 := Bw.al (Bw.step HX.out hb7) (.cells #[.int .i64 0, .int .i64 0] 24)
                have HO8 := Lib.hid ((HO.out.below hb7).below (below_new w7 (.cells #[.int .i64 0, .int .i64 0] 24)))
                have HC8 := Lib.hid (containsI_any I er.length ci (toI er) (k : Int) (w7.alloc (.cells #[.int .i64 0, .int .i64 0] 24)) (HC5.out.i.below hb8) (by omega))
                have hsz := hb8.size
                by_cases hv : vv = 0
                · have hv0 := z_eq0 hv
                  by_cases hm : k ∈ er
                  · rw [show hasI (toI er) k = true from decide_eq_true (mem_toI.2 hm)] at HC8
                    have HL := Lib.hid (HM.out (fun h => h.2 hm))
                    clear hm HM HN
                    go_wp2_with (go_at_call 64; refine HC8.out.mono ?_; rintro e w' ⟨rfl, rfl⟩)
                    go_roundw
                    case rel => first | exact ⟨k + 1, by omega, by go_num, by rw [HL.out]; exact HO8.out, hb8⟩ | ((repeat apply Exists.intro); exact ⟨⟨k + 1, by omega, by go_num, by rw [HL.out]; exact HO8.out, hb8⟩, rfl⟩)
                    case measure => simp [intOf]; omega
                  · rw [show hasI (toI er) k = false from decide_eq_false fun h => hm (mem_toI.1 h)] at HC8
                    have HL := Lib.hid (HN.out hv hm)
                    clear hm HM HN
                    go_wp2_with (first
                      | (go_at_call 64; refine HC8.out.mono ?_; rintro e w' ⟨rfl, rfl⟩)
                      | (at_builtin; refine wpList_app1I (w7.alloc (.cells #[.int .i64 0, .int .i64 0] 24)) rfl (.tmp 119) (.tmp 121) rfl w5.heap.size _ Lp HO8.out rfl (k : Int) _ (sl_al _ _) (by omega) hsz ?_; intro v9 w9 ho9 hb9))
                    go_roundw
                    case rel => first | exact ⟨k + 1, by omega, by go_num, by rw [HL.out]; exact ho9, hb8.trans hb9⟩ | ((repeat apply Exists.intro); exact ⟨⟨k + 1, by omega, by go_num, by rw [HL.out]; exact ho9, hb8.trans hb9⟩, rfl⟩)
                    case measure => simp [intOf]; omega
                · have hv0 := z_ne0 hv
                  have HL := Lib.hid (HM.out (fun h => hv h.1))
                  clear HM HN
                  go_wp2
                  go_roundw
                  case rel => first | exact ⟨k + 1, by omega, by go_num, by rw [HL.out]; exact HO8.out, hb8⟩ | ((repeat apply Exists.intro); exact ⟨⟨k + 1, by omega, by go_num, by rw [HL.out]; exact HO8.out, hb8⟩, rfl⟩)
                  case measure => simp [intOf]; omega
              · obtain rfl : k = l.length := by omega
                rw [← plc_plk] at ho
                have hbx := (HC5.out.below hbw).b.2
                obtain ⟨A7, c7, e7⟩ := ho.form
                have HLen : (toI (er ++ plc l er C)).length = er.length + (plc l er C).length := by rw [toI_len, List.length_append]
                rw [HLen] at e7
                subst e7
                have HO := Lib.hid ho
                clear ho HLen hlk hk
                by_cases h3 : (plc l er C).length = L
                · have HL3 := Lib.hid h3
                  rw [h3] at HO ⊢
                  clear h3
                  have HKt : Hid (∀ i ∈ er ++ plc l er C, i < l.length) := Lib.hid (fun i hi => (List.mem_append.1 hi).elim (hlt i) (fun h => (mem_plc h).1))
                  have HKn : Hid ((er ++ plc l er C).Nodup) := Lib.hid (all_nodup C hnd)
                  have HC7 := Lib.hid (HC5.out.below hbw)
                  have HG7 := Lib.hid (HG5.out.below hbw)
                  have HR7 := Lib.hid (HR5.out.below hbw)
                  clear HC5 HG5 HR5 HX hbw
                  go_wp2_with fail
                  refine (poMulP_ok A5 A1 _ _ c5 c1 _ _ _ HR7.out HG7.out (by omega) (by omega)).mono ?_
                  rintro e w8 ⟨A8, c8, rfl, ho8, hb8⟩
                  have hl8 : (prodP C G).length ≤ 200 := by have := prodP_le C G; omega
                  have HA8 := Lib.hid (cf_prodP C G)
                  have HQ8 := Lib.hid (ho8.rd.1.al (.cells #[.int .i64 0, .int .i64 0] 24))
                  have HC8 := Lib.hid ((HC7.out.below hb8).al (.cells #[.int .i64 0, .int .i64 0] 24))
                  have HO8 := Lib.hid ((HO.out.rd.1.below hb8).al (.cells #[.int .i64 0, .int .i64 0] 24))
                  clear HC7 HG7 HR7 HO ho8 hb8 hbx
                  generalize prodP C G = Al at *
                  go_wp2_with fail
                  refine (poMulP_ok A8 S _ _ c8 cs _ _ _ HQ8.out HC8.out.s (by omega) (by omega)).mono ?_
                  rintro e w9 ⟨A9, c9, rfl, ho9, hb9⟩
                  have hl9 : (prodP Al (syndL l p)).length ≤ 300 := by have := prodP_le Al (syndL l p); rw [syndL_len] at this; omega
                  have HA9 := Lib.hid (cf_prodP Al (syndL l p))
                  have hc9 := ho9.cap.1
                  have HQ9 := Lib.hid (HQ8.out.below hb9)
                  have HC9 := Lib.hid (HC8.out.below hb9)
                  have HO9 := Lib.hid (HO8.out.below hb9)
                  have HP9 := Lib.hid ho9.rd.1
                  clear HQ8 HC8 HO8 ho9 hb9
                  generalize prodP Al (syndL l p) = Pq at *
                  go_wp2_with fail
                  refine (cut_any A9 _ c9 p Pq _ HP9.out (by omega) hc9 (by omega)).mono ?_
                  rintro e w' ⟨rfl, rfl⟩
                  have hmn : min p Pq.length ≤ 300 := by omega
                  have HM9 := Lib.hid (RdB.cut HP9.out p)
                  have HMj := Lib.hid (fun j => cut_cf Pq p j)
                  rw [HA9.out] at HMj
                  clear HP9 hc9
                  generalize Pq.take p = M at *
                  generalize min p Pq.length = mn at *
                  go_wp2_with fail
                  refine (poDeriveP_ok A8 _ c8 Al _ HQ9.out (by omega)).mono ?_
                  rintro e wa ⟨Aa, c10, rfl, hoa, hba⟩
                  have HDa := Lib.hid (cf_derP Al)
                  have hla := derP_len' Al
                  have HCa := Lib.hid ((HC9.out.below hba).al (.cells #[.int .i64 0, .int .i64 0] 24))
                  have HOa := Lib.hid ((HO9.out.below hba).al (.cells #[.int .i64 0, .int .i64 0] 24))
                  have HMa := Lib.hid ((HM9.out.below hba).al (.cells #[.int .i64 0, .int .i64 0] 24))
                  have HQa := Lib.hid (hoa.rd.1.al (.cells #[.int .i64 0, .int .i64 0] 24))
                  clear hoa hba HQ9 HC9 HO9 HM9
                  generalize derP Al = Dv at *
                  have hbx := HCa.out.b.2
                  go_wp2_with fail
                  refine (cloneB_any _ _ _ _ _ HCa.out.a (by omega)).mono ?_
                  rintro e wb ⟨Ab, cb, rfl, hob, hbb⟩
                  have HVal := Lib.hid (fun c (hc : Within p l er c) => HD.out.values hc HA8.out HMj.out (by rw [HDa.out, HA8.out]))
                  clear HA8 HMj HDa HA9 hcg
                  obtain ⟨K, hK⟩ : ∃ K, K = er ++ plc l er C := ⟨_, rfl⟩
                  have HKe := Lib.hid hK
                  have HKl2 : Hid (K.length = er.length + L) := Lib.hid (by rw [hK, List.length_append, HL3.out])
                  rw [← hK] at HKt HKn HVal HOa
                  clear hK
                  generalize hnK : er.length + L = nK at *
                  have hcast : ((er.length : Int) + (L : Int)) = (nK : Int) := by omega
                  clear hnK
                  obtain ⟨q, hq⟩ : ∃ q, q = fixV l.length M Dv := ⟨_, rfl⟩
                  have HQ := Lib.hid hq
                  rw [← hq] at HVal
                  clear hq
                  have hlp : 1 ≤ l.length := by
                    rcases Nat.eq_zero_or_pos l.length with h | h
                    · exact absurd (fun j _ => by rw [List.eq_nil_of_length_eq_zero h]; rfl) hz
                    · exact h
                  obtain ⟨gb, rfl⟩ := hob.head hlp
                  have HOb := Lib.hid (show OwB wb _ (.slice (some ⟨gb, 0, none⟩) l.length cb) (outAt l q (K.take 0)) from by rw [List.take_zero, outAt_nil]; exact hob)
                  have HBb := Lib.hid hbb
                  clear hob hbb hbx
                  obtain ⟨Wa, hWa⟩ : ∃ W, W = wa.alloc (.cells #[.int .i64 0, .int .i64 0] 24) := ⟨_, rfl⟩
                  rw [← hWa] at HCa HOa HMa HQa HOb HBb
                  clear hWa
                  go_wp2
                  go_loopw [155] (fun i wr => ∃ k : Nat, k ≤ nK ∧ i = .int .i64 k ∧ OwB wr Wa.heap.size (.slice (some ⟨gb, 0, none⟩) l.length cb) (outAt l q (K.take k)) ∧ Below Wa.heap.size Wa wr) (fun i _ => nK - (intOf i).toNat)
                  case atStart => exact ⟨0, Nat.zero_le _, rfl, HOb.out, HBb.out⟩
                  case round =>
                    obtain ⟨k, hk, rfl, ho, hbw⟩ := hrel
                    have HX := Lib.hid hbw
                    have HO := Lib.hid ho
                    by_cases hlk : k < nK
                    · --[[d
                      have hbx := (HCa.out.below hbw).b.2
                      obtain ⟨b, off, rfl, hlb, hcc⟩ := rdI_cell (HOa.out.below hbw) (i := k) hlk
                      rw [toI_get] at hcc
                      have hkK : k < K.length := by rw [HKl2.out]; exact hlk
                      have hjm : K.getD k 0 ∈ K := by simp [List.getD, hkK]
                      have hj : K.getD k 0 < l.length := HKt.out _ hjm
                      have HST := Lib.hid (outAt_step l q (K.take k) hj (take_not_mem HKn.out hkK))
                      rw [← takeN_succ K hkK] at HST
                      have HVA := Lib.hid (fun c hc => HVal.out c hc _ hjm)
                      have HV1 := Lib.hid (fun w (h : RdB w A9 mn M) => poValueP_ok A9 mn c9 M (GF.exp ((K.getD k 0 : Nat) + 1 - (l.length : Nat))) w h (by omega))
                      have HV2 := Lib.hid (fun w (h : RdB w Aa Dv.length Dv) => poValueP_ok Aa Dv.length c10 Dv (GF.exp ((K.getD k 0 : Nat) + 1 - (l.length : Nat))) w h (by omega))
                      have HE := Lib.hid (fun w => gExpZ (((K.getD k 0 : Nat) : Int) + 1 - (l.length : Nat)) w)
                      have HLC := Lib.hid (fun c w h => locator_any (K.getD k 0) g l.length c A w h hn hj)
                      have HQk : Hid (q (K.getD k 0) = valL M (GF.exp ((K.getD k 0 : Nat) + 1 - (l.length : Nat))) * (valL Dv (GF.exp ((K.getD k 0 : Nat) + 1 - (l.length : Nat)))).inv * loc l.length (K.getD k 0)) := Lib.hid (by rw [HQ.out]; rfl)
                      generalize hjj : K.getD k 0 = j at *
                      have ws : IntKind.i64.wrap ((j : Int) + 1 - (l.length : Nat)) = (j : Int) + 1 - (l.length : Nat) := IntWalk.i64_in _ (by omega)
                      clear hjm hjj hkK
                      generalize valL M (GF.exp ((j : Int) + 1 - (l.length : Nat))) = va at *
                      generalize valL Dv (GF.exp ((j : Int) + 1 - (l.length : Nat))) = vb at *
                      generalize GF.exp ((j : Int) + 1 - (l.length : Nat)) = xx at *
                      generalize loc l.length j = lj at *
                      clear ho
                      go_wp2_with (go_at_call 29; refine (HE.out _).mono ?_; rintro e w' ⟨rfl, rfl⟩)
                      go_wp2_with fail
                      refine (HV1.out _ (HMa.out.below HX.out)).mono ?_
                      rintro e wc ⟨rfl, hbc⟩
                      have hb1 := Bw.al (Bw.step HX.out hbc) (.cells #[.int .i64 0, .int .i64 0] 24)
                      have HO1 := Lib.hid ((HO.out.below hbc).below (below_new wc (.cells #[.int .i64 0, .int .i64 0] 24)))
                      clear HV1 HE hbc HO HX hbw
                      go_wp2_with fail
                      refine (HV2.out _ (HQa.out.below hb1)).mono ?_
                      rintro e wd ⟨rfl, hbd⟩
                      have hb2 := Bw.al (Bw.step hb1 hbd) (.cells #[.int .i64 0, .int .i64 0] 24)
                      have HO2 := Lib.hid ((HO1.out.below hbd).below (below_new wd (.cells #[.int .i64 0, .int .i64 0] 24)))
                      clear HV2 hbd HO1 hb1
                      by_cases hv : vb = 0
                      · have HVB := Lib.hid hv
                        clear hv
                        go_wp2_with fail
                        refine (gDivZ0 va vb _ HVB.out).mono ?_
                        rintro e we ⟨rfl, hbe⟩
                        have hb3 := Bw.al (Bw.step hb2 hbe) (.cells #[.int .i64 26, .int .i64 (-2)] 24)
                        obtain ⟨l0, c00, c01, f00, f01⟩ := Has.new we 26 (-2) 24
                        go_wp2
                        go_ret2
                        exact .inr ⟨fun c hc => (HVA.out c hc).1 HVB.out, ⟨_, _, _, rfl⟩, Bw.step HCa.out.bw hb3⟩
                      · have HVB := Lib.hid hv
                        clear hv
                        go_wp2_with fail
                        refine (gDivZ va vb _ HVB.out).mono ?_
                        rintro e we ⟨rfl, hbe⟩
                        have hb3 := Bw.al (Bw.step hb2 hbe) (.cells #[.int .i64 0, .int .i64 0] 24)
                        have HO3 := Lib.hid ((HO2.out.below hbe).below (below_new we (.cells #[.int .i64 0, .int .i64 0] 24)))
                        have hcg := HO3.out.cellAt (i := j) hj
                        have hlg := HO3.out.lt
                        have hbx := HCa.out.b.below hb3
                        have hxg := fun x => cell_ext hlg.2 hcg x
                        obtain ⟨l0, c00, c01, f00, f01⟩ := Has.new we 0 0 24
                        clear hb2 hbe HO2
                        generalize hqq : va * vb.inv = qq at *
                        generalize hoo : (outAt l q (K.take k)).getD j 0 = oo at *
                        go_wp2
                        (refine wp_region_extail 13 (by kernel_rfl) (by kernel_rfl) ?_; simp only [List.take_succ_cons, List.take_zero, List.drop_succ_cons, List.drop_zero]; (repeat (go_big_quiet_step ((first | (go_at_call 61; exact ext_same (HLC.out _ _ (hbx.below (Ext.below _)))) | (go_at_call 26; exact ext_same (gMulZ _ _ _)) | (go_at_call 25; exact ext_same (gAddZ _ _ _)))))); refine wpQuiet_nil ?_; intro W5 hw'; have hW5 := ext_below hw'; clear hw')
                        have HO5 := Lib.hid (HO3.out.below hW5)
                        have hc5 := HO5.out.cellAt (i := j) hj
                        have hf5 := HO5.out.frozenAt j
                        have hb5 := Bw.step hb3 hW5
                        go_wp2
                        go_roundw
                        case rel => exact ⟨k + 1, by omega, by go_num, by rw [← HST.out, HQk.out]; exact HO5.out.set j _, Bw.set hb5 hlg.1 _⟩
                        case measure => simp [intOf]; omega
                    · obtain rfl : k = nK := by omega
                      rw [show K.take k = K from List.take_of_length_le (Nat.le_of_eq HKl2.out)] at ho
                      have HE := Lib.hid ho
                      clear HO ho hlk hk
                      go_wp2_with fail
                      refine (syndromes_any _ _ _ p _ _ HE.out.rd.1 (by omega) (by omega)).mono ?_
                      rintro e wf ⟨Af, cf', rfl, hof, hbf⟩
                      have HB := Lib.hid (Bw.step (Bw.step HCa.out.bw HX.out) hbf)
                      have HZ := Lib.hid (isZero_any _ _ cf' _ _ hof.rd.1 (by omega))
                      have HOf := Lib.hid (HE.out.below hbf)
                      have HLw := Lib.hid HCa.out.bw.size
                      by_cases hcw : isCW p (outAt l q K)
                      · rw [syndL_zero.2 hcw] at HZ
                        have HW := Lib.hid hcw
                        clear hcw hof hbf hbw
                        go_wp2_with fail
                        refine HZ.out.mono ?_
                        rintro e w' ⟨rfl, rfl⟩
                        go_wp2
                        go_ret2
                        refine .inl ⟨outAt l q K, _, _, ?_, rfl, own_base HOf.out HLw.out, HB.out⟩
                        have hK := HKe.out
                        have hW := HW.out
                        subst hK
                        exact out_within hf h2 (by rw [List.length_append, HL3.out]) q hW
                      · rw [show zeroB (syndL (outAt l q K) p) = false from Bool.eq_false_iff.2 fun e => hcw (syndL_zero.1 e)] at HZ
                        have HW := Lib.hid hcw
                        clear hcw hof hbf hbw
                        go_wp2_with fail
                        refine HZ.out.mono ?_
                        rintro e w' ⟨rfl, rfl⟩
                        go_wp2
                        go_ret2
                        refine .inr ⟨fun c hc => HW.out ?_, ⟨_, _, _, rfl⟩, HB.out⟩
                        have hq : ∀ i ∈ er ++ plc l er C, q i = l.getD i 0 + c.getD i 0 := fun i hi => (HVal.out c hc i (by rw [HKe.out]; exact hi)).2
                        rw [HKe.out, HD.out.out hc hq]
                        exact hc.2.1
                · have h4 : ((er.length + (plc l er C).length : Nat) : Int) ≠ er.length + L := by omega
                  go_wp2
                  go_ret2
                  exact .inr ⟨fun c hc => h3 (by rw [HD.out.places hc]; exact (HD.out.found hc).1.symm), ⟨_, _, _, rfl⟩, Bw.step HC5.out.bw hbw⟩
          · go_wp2
            go_ret2
            exact .inr ⟨fun c hc => by have := (HD.out.found hc).1; have := hc.2.2; omega, ⟨_, _, _, rfl⟩, HC5.out.bw⟩
  · go_enter Try.func41, Try.ntmps41
    go_wp2
    go_ret2
    exact .inr ⟨fun c hc => by have := hc.2.2; omega, ⟨_, _, _, rfl⟩, below_new _ _⟩
end Go.Proofs.Ytpkaaiefnabfbab
