/- The walk of the reference's Decode. -/
import Derived.Test.YtcinfkmekkdhfaaMf
namespace Go.Proofs.Ytcinfkmekkdhfaa
open Go.RowKit
set_option linter.unusedVariables false

theorem OwB.one (w : World) (B : Nat) (x : GF) (hB : B ≤ w.heap.size) : OwB (w.alloc (.cells #[.int .u8 x.z] 5)) B (.slice (some ⟨w.heap.size, 0, none⟩) 1 1) [x] :=
  ⟨by simp [cB], .inr ⟨w.heap.size, 1, _, rfl, hB, heap_alloc_new w _, Nat.le_refl _, by decide, by simp, rfl⟩⟩
theorem apt_snoc {hv : List Value} {r b : Value} {n : Nat} (hl : hv.length = n) (h : ∀ i, i < n → Apt (hv.getD i undef) b) (hr : Apt r b) : ∀ i, i < n + 1 → Apt ((hv ++ [r]).getD i undef) b := by
  intro i hi
  by_cases e : i < n
  · rw [getD_app_l (by omega)]; exact h i e
  · obtain rfl : i = hv.length := by omega
    rw [getD_app_r]; exact hr
theorem OwM.keeps {w w' : World} {B : Nat} {v b b' : Value} {hv : List Value} {L : List (List GF)} (h : OwM w B v hv L) (k : Keeps w w' b b') (ho : Apt v b) (hr : ∀ i, i < L.length → Apt (hv.getD i undef) b) : OwM w' B v hv L ∧ Apt v b' ∧ ∀ i, i < L.length → Apt (hv.getD i undef) b' :=
  ⟨⟨h.len, (k _ _ _ _ _ _ h.out ho).1, fun i hi => (k _ _ _ _ _ _ (h.row i hi) (hr i hi)).1, h.sep, h.far⟩, (k _ _ _ _ _ _ h.out ho).2, fun i hi => (k _ _ _ _ _ _ (h.row i hi) (hr i hi)).2⟩
/-- append of one row. -/
theorem wpList_pushMK (w : World) {ops : Array Oper} {rest : List Oper} {o : Oper} {a : Act} {Q : Exit → Act → World → Prop} (hgd : o.guard = none) (s x : Operand)
    (ho : o.op = .call { callee := .builtin .append, args := #[s, x], argTypes := #[22, 22] }) (B : Nat)
    (v : Value) (hv : List Value) (L : List (List GF)) (hM : OwM w B v hv L) (r : Value) (l : List GF) (hr : OwB w B r l) (hsep : ∀ i, i < L.length → Apt (hv.getD i undef) r) (hfar : Apt r v)
    (hs : a.eval s = v) (t : TypeId) (hx : a.eval x = .slice (some ⟨w.heap.size, 0, none⟩) 1 1) (hlen : L.length ≤ 1099511627) (hbase : B ≤ w.heap.size)
    (h : ∀ v' w', OwM w' B v' (hv ++ [r]) (L ++ [l]) → Below B w w' → Keeps w w' v v' → wpList Try.prog ops Q rest (a.put o.dst v') w') : wpList Try.prog ops Q (o :: rest) a (w.alloc (.cells #[r] t)) := by
  obtain ⟨A, c, hf⟩ := hr.form
  have hl := hM.len
  have h0 := hM.below (below_new w (.cells #[r] t))
  refine wpList_app _ hgd s x _ ho B 41 (.slice none 0 0) 24 Try.underlying22 infoS rfl v hv.length hv hs h0.out (some ⟨w.heap.size, 0, none⟩) 1 1 [r] hx (RdV.one w r t (by rw [hf]; rfl)) (by intro u hu; rw [List.mem_singleton] at hu; subst hu; rw [hf]; rfl) (by unfold maxLen; omega) (by omega) (by simp; omega) (fun v' w' h1 h2 h3 => h v' w' ?_ ?_ (keeps_app h2 h3))
  · have hz : (w.alloc (.cells #[r] t)).heap.size = w.heap.size + 1 := by simp
    have hfar' : ∀ u L, OwB w B u L → Apt u v → Apt u v' := fun u L hu hne => by
      unfold Apt at *
      cases hb : u.ownBlock with
      | none => exact .inl rfl
      | some g =>
        right
        rcases h3 with h3 | h3
        · rw [h3]
          rcases hne with e | e
          · rw [e] at hb; cases hb
          · rw [← hb]; exact e
        · rw [h3, hz]
          intro e
          have := own_lt hu hb
          have : g = w.heap.size + 1 := Option.some.inj e
          omega
    refine ⟨by simp [hl], ?_, fun i hi => ?_, fun i j hi hj hij => ?_, fun i hi => ?_⟩
    · rw [List.length_append]; exact h1
    · rw [List.length_append, List.length_singleton] at hi
      by_cases e : i < L.length
      · rw [getD_app_l (by rw [hl]; exact e), getD_app_l e]
        exact World.ownsRow.kept (h0.row i e) h2 (h0.far i e)
      · obtain rfl : i = L.length := by omega
        rw [show (hv ++ [r]).getD L.length undef = r by rw [← hl]; exact getD_app_r, getD_app_r]
        exact World.ownsRow.kept (hr.below (below_new w _)) h2 hfar
    · rw [List.length_append, List.length_singleton] at hi hj
      by_cases ei : i < L.length
      · rw [getD_app_l (by rw [hl]; exact ei)]
        by_cases ej : j < L.length
        · rw [getD_app_l (by rw [hl]; exact ej)]; exact hM.sep i j ei ej hij
        · obtain rfl : j = L.length := by omega
          rw [show (hv ++ [r]).getD L.length undef = r by rw [← hl]; exact getD_app_r]; exact hsep i ei
      · obtain rfl : i = L.length := by omega
        rw [show (hv ++ [r]).getD L.length undef = r by rw [← hl]; exact getD_app_r]
        have ej : j < L.length := by omega
        rw [getD_app_l (by rw [hl]; exact ej)]; exact (hsep j ej).symm
    · rw [List.length_append, List.length_singleton] at hi
      by_cases e : i < L.length
      · rw [getD_app_l (by rw [hl]; exact e)]; exact hfar' _ _ (hM.row i e) (hM.far i e)
      · obtain rfl : i = L.length := by omega
        rw [show (hv ++ [r]).getD L.length undef = r by rw [← hl]; exact getD_app_r]
        exact hfar' _ _ hr hfar
  · exact ((below_new w _).mono hbase).trans (grown_below h2 h0.out (by simp; omega))

/-- What the reference's Decode returns. -/
def RDecPost (l : List GF) (p : Nat) (es : List Nat) (w0 : World) (e : Ending) (w : World) : Prop :=
  Below w0.heap.size w0 w ∧
  ((∃ c A' c', Within p l es c ∧ e = .returned (.tuple #[.slice A' l.length c', .int .i64 ((dcnt l c [] l.length : Nat) : Int)]) ∧ OwB w w0.heap.size (.slice A' l.length c') c) ∨
   ((∀ c, ¬ Within p l es c) ∧ e = .returned (.tuple #[.slice none 0 0, .int .i64 (-1)])))
theorem apt_nil (a : Value) : Apt a (.slice none 0 0) := (show Apt (.slice none 0 0) a from .inl rfl).symm
theorem xi_dec {l : List GF} {p : Nat} {es : List Nat} (hn : l.length ≤ 255) (hnd : es.Nodup) (hlt : ∀ i ∈ es, i < l.length) (hf : es.length ≤ p) :
    Dec0 l p es (erP l.length (es.take es.length).reverse) ((prodP (syndL l p) (erP l.length (es.take es.length).reverse)).drop es.length) := by
  refine ⟨hn, hnd, hlt, hf, ?_, fun k hk => ?_⟩
  · rw [List.take_of_length_le (Nat.le_refl _), erP_cf, List.map_reverse, lam_reverse]
  · have : cf ((prodP (syndL l p) (erP l.length (es.take es.length).reverse)).drop es.length) k = cf (prodP (syndL l p) (erP l.length (es.take es.length).reverse)) (es.length + k) := by simp [cf, List.getD]
    rw [this, cf_prodP, cv_comm]
set_option maxRecDepth 100000 in
set_option maxHeartbeats 8000000 in
theorem rDecode_any (A I : Option Addr) (n c ci m p : Nat) (l : List GF) (es : List Nat) (w : World) (hl : RdB w A n l) (hi : RdI w I m (toI es)) (h1 : p ≤ 32) (h3 : n ≤ 255) (hlt : ∀ i ∈ es, i < n) (hP : es.Pairwise (· < ·)) (hem : m ≤ 255) :
    Calls Try.prog 34 #[.slice A n c, .int .i64 p, .slice I m ci] w fun e w' => RDecPost l p es w e w' := by
  have ll := hl.1
  subst ll
  have lm : m = es.length := by rw [← hi.1, toI_len]
  subst lm
  have hnd : es.Nodup := hP.imp (fun h => Nat.ne_of_lt h)
  have HL := Lib.hid hl
  have HI := Lib.hid hi
  have HLT := Lib.hid hlt
  have HND := Lib.hid hnd
  clear hl hi hlt hnd hP
  by_cases hf : es.length ≤ p
  · have HD := Lib.hid (xi_dec (p := p) h3 HND.out HLT.out hf)
    have hsl := syndL_len l p
    have dq00 : decide (p < es.length) = false := by simp only [decide_eq_false_iff_not]; omega
    have dq0 : decide ((p : Int) < (es.length : Int)) = false := by simp only [decide_eq_false_iff_not]; omega
    go_enter Try.func34, Try.ntmps34
    go_wp2_with fail
    refine (rSyndromes_any A l.length c p l _ HL.out (by omega) (by omega)).mono ?_
    rintro e w1 ⟨S, cs, rfl, ho1, hb1⟩
    have HS := Lib.hid ho1.rd.1
    have RG := RdB.l1 w1 w1.heap.size 1 1 5 rfl rfl
    have BG := below_new w1 (.cells #[.int .u8 1] 5)
    clear ho1
    go_wp2
    go_loopw [9, 10] (fun u i wr => ∃ (k : Nat) (G : Option Addr) (cg : Nat), k ≤ es.length ∧ u = .slice G (erP l.length (es.take k).reverse).length cg ∧ i = .int .i64 k ∧ RdB wr G (erP l.length (es.take k).reverse).length (erP l.length (es.take k).reverse) ∧ Below w1.heap.size w1 wr) (fun _ i _ => es.length - (intOf i).toNat)
    case atStart => exact ⟨0, _, 1, Nat.zero_le _, rfl, rfl, RG, BG⟩
    case round =>
      obtain ⟨k, G, cg, hk, rfl, rfl, hG, hb2⟩ := hrel
      by_cases hlk : k < es.length
      · --[[a
        obtain ⟨b, off, rfl, hlb, hcc⟩ := rdI_cell (HI.out.below (Bw.step hb1 hb2)) (i := k) hlk
        rw [toI_get] at hcc
        have hkn := HLT.out _ (getDn_mem hlk)
        have hgl := erP_len l.length (es.take k).reverse
        have HNX := Lib.hid (show erP l.length (es.take (k + 1)).reverse = prodP (erP l.length (es.take k).reverse) [1, loc l.length (es.getD k 0)] by rw [take_succ_rev es hlk]; rfl)
        have hgl2 : (erP l.length (es.take k).reverse).length ≤ 300 := by rw [List.length_reverse, List.length_take] at hgl; omega
        have HE := Lib.hid (show ∀ w, Calls Try.prog 51 #[.int .i64 ((l.length : Int) - 1 - ((es.getD k 0 : Nat) : Int))] w fun e w' => e = .returned (.int .u8 (loc l.length (es.getD k 0)).z) ∧ w = w' from fun w => rExpZ _ w)
        generalize es.getD k 0 = q at *
        generalize loc l.length q = x at *
        have HG := Lib.hid hG
        generalize erP l.length (es.take k).reverse = g at *
        clear hG hgl
        go_wp2_with (go_at_call 51; refine (HE.out _).mono ?_; rintro e w' ⟨rfl, rfl⟩)
        refine (rProd_any _ _ _ _ _ _ _ _ _ (HG.out.al _) (RdB.l2 _ _ 1 x.z 1 x _ rfl ⟨rfl, rfl⟩) (by omega) (by omega)).mono ?_
        rintro e w2 ⟨A2, c2, rfl, ho2, hb3⟩
        rw [← HNX.out] at ho2 ⊢
        have R2 := ho2.rd.1
        go_wp2
        go_roundw
        case rel =>
          first | exact ⟨k + 1, A2, c2, by omega, rfl, by go_num, R2, Bw.step (Bw.al hb2 _) hb3⟩ | ((repeat apply Exists.intro); exact ⟨⟨k + 1, A2, c2, by omega, rfl, by go_num, R2, Bw.step (Bw.al hb2 _) hb3⟩, rfl⟩)
        case measure => simp [intOf]; omega
      · obtain rfl : k = es.length := by omega
        have hgl := erP_len l.length (es.take es.length).reverse
        have hgl2 : (erP l.length (es.take es.length).reverse).length ≤ 300 := by rw [List.length_reverse, List.length_take] at hgl; omega
        have HG := Lib.hid hG
        have HS2 := Lib.hid (HS.out.below hb2)
        clear hG hgl hlk hk RG BG
        generalize erP l.length (es.take es.length).reverse = g at *
        have hxl0 := prodP_le (syndL l p) g
        go_wp2_with fail
        refine (rProd_any _ _ _ _ _ _ _ _ _ HS2.out HG.out (by omega) (by omega)).mono ?_
        rintro e w3 ⟨X, cx, rfl, ho3, hb3⟩
        have hxl : (prodP (syndL l p) g).length ≤ 400 := by omega
        have HXT : Hid (∀ k, k < p - es.length → cf ((prodP (syndL l p) g).drop es.length) k = cf (prodP (syndL l p) g) (es.length + k)) := Lib.hid fun k _ => by simp [cf, List.getD]
        have HTRY := Lib.hid (fun c (hc : Within p l es c) m (hm : (wrongs l c es).length = m) => HD.out.try HXT.out hc hm)
        have HX := Lib.hid ho3.rd.1
        have HS3 := Lib.hid (HS2.out.below hb3)
        have hb4 : Below w.heap.size w w3 := Bw.step (Bw.step hb1 hb2) hb3
        have HL3 := Lib.hid (HL.out.below hb4)
        have HI3 := Lib.hid (HI.out.below hb4)
        have hsz := hb4.size
        clear HXT ho3 hxl0 HG HS2 HS hb1 hb2 hb3 HD HL HI
        generalize prodP (syndL l p) g = xi at *
        go_wp2
        go_loopw [12] (fun i wr => ∃ t : Nat, t ≤ 20 ∧ i = .int .i64 t ∧ (∀ c, Within p l es c → t ≤ (wrongs l c es).length) ∧ Below w3.heap.size w3 wr) (fun i _ => 40 - (intOf i).toNat)
        case atStart => exact ⟨0, Nat.zero_le _, rfl, fun _ _ => Nat.zero_le _, Below.refl _ _⟩
        case round =>
          obtain ⟨t, ht, rfl, hw, hbw⟩ := hrel
          have HW := Lib.hid hw
          clear hw
          by_cases hcond : 2 * t + es.length ≤ p
          · --[[m
            have HNX : Hid ((∀ c, Within p l es c → (wrongs l c es).length = t → False) → ∀ c, Within p l es c → t + 1 ≤ (wrongs l c es).length) := Lib.hid fun h c hc => by
              have h1 := HW.out c hc
              by_cases e : (wrongs l c es).length = t
              · exact absurd (h c hc e) id
              · omega
            have ht16 : t ≤ 16 := by omega
            have dq1 : decide (2 * (t : Int) + (es.length : Int) ≤ (p : Int)) = true := by simp only [decide_eq_true_eq]; omega
            have HXr := Lib.hid (HX.out.below hbw)
            have HSr := Lib.hid (HS3.out.below hbw)
            have HLr := Lib.hid (HL3.out.below hbw)
            have HIr := Lib.hid (HI3.out.below hbw)
            have hszr := hbw.size
            go_wp2
            obtain ⟨wo, rfl⟩ : ∃ wo : World, wo = wr := ⟨_, rfl⟩
            go_loopw [13, 14, 15] (fun v b j wr' => ∃ (i : Nat) (hv : List Value), i ≤ p - es.length - t ∧ j = .int .i64 ((es.length + t + i : Nat) : Int) ∧ OwM wr' wo.heap.size v hv (rowsD xi es.length t i) ∧ OwB wr' wo.heap.size b (rhsD xi es.length t i) ∧ Apt v b ∧ (∀ s, s < i → Apt (hv.getD s undef) b) ∧ Below wo.heap.size wo wr') (fun _ _ j _ => p - (intOf j).toNat)
            case atStart => exact ⟨0, [], Nat.zero_le _, by simp, OwM.nil _ _, OwB.nil _ _, apt_nil _, fun s hs => absurd hs (Nat.not_lt_zero _), Below.refl _ _⟩
            case round =>
              obtain ⟨i, hv, hi, rfl, hM, hB, hap, hapr, hb5⟩ := hrel
              by_cases hlt : i < p - es.length - t
              · --[[b
                have HM := Lib.hid hM
                have HB := Lib.hid hB
                have HAP := Lib.hid hap
                have HAR := Lib.hid hapr
                have hrl := rowsD_len xi es.length t i
                have hbl := rhsD_len xi es.length t i
                have hvl : hv.length = i := by rw [hM.len, hrl]
                have HR1 := Lib.hid (rowsD_succ xi es.length t i)
                have HR2 := Lib.hid (rhsD_succ xi es.length t i)
                have hjp : es.length + t + i < p := by omega
                have HXi := Lib.hid (HXr.out.below hb5)
                have hsz5 := hb5.size
                have HJN : Hid (((es.length + t + (i + 1) : Nat) : Int) = ((es.length + t + i : Nat) : Int) + 1) := Lib.hid (by omega)
                have htJ : t ≤ es.length + t + i := by omega
                clear hM hB hap hapr
                generalize es.length + t + i = J at *
                have dq2 : decide ((J : Int) < (p : Int)) = true := by simp only [decide_eq_true_eq]; omega
                go_wp2
                obtain ⟨wi, rfl⟩ : ∃ wi : World, wi = wr := ⟨_, rfl⟩
                go_loopw [16, 17] (fun r kk wr'' => ∃ q : Nat, q ≤ t ∧ kk = .int .i64 ((q : Int) + 1) ∧ OwB wr'' wi.heap.size r (rowD xi J q) ∧ Below wi.heap.size wi wr'') (fun _ kk _ => t + 1 - (intOf kk).toNat)
                case atStart => exact ⟨0, Nat.zero_le _, by simp, OwB.nil _ _, Below.refl _ _⟩
                case round =>
                  obtain ⟨q, hq, rfl, ho, hb6⟩ := hrel
                  have hsz6 := hb6.size
                  have HO := Lib.hid ho
                  have hol := rowD_len xi J q
                  by_cases hlq : q < t
                  · have HRS := Lib.hid (rowD_succ xi J q)
                    have hjj : (J : Int) - ((q : Int) + 1) = ((J - (q + 1) : Nat) : Int) := by omega
                    have HC := Lib.hid (rCoef_any X xi.length cx xi (J - (q + 1)) _ (HXi.out.below hb6) (by omega) (by omega))
                    rw [← hjj] at HC
                    generalize cf xi (J - (q + 1)) = y at *
                    generalize rowD xi J q = R at *
                    clear ho hjj
                    go_wp2_with (first
                      | (go_at_call 52; refine HC.out.mono ?_; rintro e w' ⟨rfl, rfl⟩)
                      | (at_builtin; refine wpList_app1 wr rfl (.tmp 81) (.tmp 87) rfl wi.heap.size _ R HO.out rfl y _ rfl (by omega) hsz6 ?_; intro v1 w4 ho1 hb7))
                    go_roundw
                    case rel => first | exact ⟨q + 1, by omega, by go_num, by (rw [HRS.out]; exact ho1), hb6.trans hb7⟩ | ((repeat apply Exists.intro); exact ⟨⟨q + 1, by omega, by go_num, by (rw [HRS.out]; exact ho1), hb6.trans hb7⟩, rfl⟩)
                    case measure => simp [intOf]; omega
                  · obtain rfl : q = t := by omega
                    obtain ⟨A2, c2, e2⟩ := ho.form
                    rw [rowD_len] at e2
                    subst e2
                    have HC := Lib.hid (fun w (h : RdB w X xi.length xi) => rCoef_any X xi.length cx xi J w h (by omega) (by omega))
                    generalize cf xi J = y at *
                    generalize rowD xi J q = R at *
                    clear ho
                    go_wp2_with (first
                      | (at_builtin; refine wpList_pushMK wr rfl (.tmp 89) (.tmp 91) rfl wo.heap.size _ hv (rowsD xi es.length q i) (HM.out.below hb6) (.slice A2 q c2) R (own_base HO.out hsz5) (fun i hi => Apt.fresh (HM.out.row i hi) HO.out (Nat.le_refl _)) (Apt.fresh HM.out.out HO.out (Nat.le_refl _)).symm rfl _ rfl (by omega) (Nat.le_trans hsz5 hsz6) ?_; intro v3 w4 hM4 hb7 hk7; have hB4 := hk7 _ _ _ _ _ _ (HB.out.below hb6) HAP.out.symm; have hX4 := (HXr.out.below ((hb5.trans (hb6.mono hsz5)).trans hb7)))
                      | (go_at_call 52; refine (HC.out _ hX4).mono ?_; rintro e w' ⟨rfl, rfl⟩)
                      | (at_builtin; refine wpList_app1K w4 rfl (.tmp 93) (.tmp 97) rfl wo.heap.size _ _ hB4.1 rfl y _ rfl (by omega) (Nat.le_trans (Nat.le_trans hsz5 hsz6) hb7.size) ?_; intro v5 w5 ho5 hb8 hk8))
                    have hbr : Apt (.slice A2 q c2) u14 := (Apt.fresh HB.out HO.out (Nat.le_refl _)).symm
                    have hf := hM4.keeps hk8 hB4.2.symm (by rw [List.length_append, hrl]; exact apt_snoc hvl HAR.out hbr)
                    rw [List.length_append, hrl] at hf
                    go_roundw
                    case rel => first | exact ⟨i + 1, hv ++ [.slice A2 q c2], by omega, by rw [HJN.out], by (rw [HR1.out]; exact hf.1), by (rw [HR2.out]; exact ho5), hf.2.1, hf.2.2, ((hb5.trans (hb6.mono hsz5)).trans hb7).trans hb8⟩ | ((repeat apply Exists.intro); exact ⟨⟨i + 1, hv ++ [.slice A2 q c2], by omega, by rw [HJN.out], by (rw [HR1.out]; exact hf.1), by (rw [HR2.out]; exact ho5), hf.2.1, hf.2.2, ((hb5.trans (hb6.mono hsz5)).trans hb7).trans hb8⟩, rfl⟩)
                    case measure => simp [intOf]; omega
              · --[[c
                obtain rfl : i = p - es.length - t := by omega
                obtain ⟨A3, c3, e3⟩ := hM.form
                rw [rowsD_len] at e3
                subst e3
                obtain ⟨A4, c4, e4⟩ := hB.form
                rw [rhsD_len] at e4
                subst e4
                have HJE : Hid (es.length + t + (p - es.length - t) = p) := Lib.hid (by omega)
                rw [HJE.out]
                have HRL := Lib.hid (fun i (hi : i < p - es.length - t) => (congrArg List.length (rowsD_get xi es.length t hi)).trans (rowD_len _ _ _))
                have HMr := Lib.hid hM.rd.1
                have HBr := Lib.hid hB.rd.1
                have hH : p - es.length - t ≤ 32 := by omega
                clear hM hB hap hapr hlt hi
                have HTR := Lib.hid (fun c hc hm => HTRY.out c hc t hm)
                have hsz5 := hb5.size
                generalize p - es.length - t = H at *
                have dq3 : decide ((p : Int) < (p : Int)) = false := by simp
                go_wp2_with fail
                refine (rSolve_any A3 A4 H c3 H c4 t (rowsD xi es.length t H) (rhsD xi es.length t H) _ HMr.out HBr.out (Nat.le_refl _) HRL.out (by omega) (by omega)).mono ?_
                rintro e w6 ⟨A5, c5, sg, ok, rfl, ho5, hok, hno, hb6⟩
                have hbb : Below wo.heap.size wo w6 := Bw.step hb5 hb6
                cases ok with
                | false =>
                  have HN := Lib.hid (HNX.out fun c hc hm => by
                    obtain ⟨x, hx⟩ := (HTR.out c hc hm).1
                    exact hno rfl x hx)
                  clear hok hno
                  go_wp2
                  go_roundw
                  case rel => first | exact ⟨t + 1, by omega, by go_num, HN.out, Bw.step hbw hbb⟩ | ((repeat apply Exists.intro); exact ⟨⟨t + 1, by omega, by go_num, HN.out, Bw.step hbw hbb⟩, rfl⟩)
                  case measure => simp [intOf]; omega
                | true =>
                  have hsl2 : sg.length = t := ho5.rd.2.symm
                  have HPL := Lib.hid (fun c hc hm => (HTR.out c hc hm).2 sg hsl2 (hok rfl))
                  have HSG := Lib.hid ho5.rd.1
                  clear hok hno ho5 HTR HRL HMr HBr
                  have z1 : (1 : GF).z = 1 := rfl
                  have HO1 := Lib.hid (OwB.one w6 w6.heap.size 1 (Nat.le_refl _))
                  rw [z1] at HO1
                  have HS1 := Lib.hid (HSG.out.below (below_new w6 (.cells #[.int .u8 1] 5)))
                  clear z1
                  go_wp2_with (at_builtin; refine wpList_appB _ rfl (.tmp 108) (.tmp 109) rfl w6.heap.size _ [1] rfl HO1.out A5 t c5 sg rfl HS1.out (by simp; omega) (by simp) ?_; intro v7 w7 ho7 hg7 hat7)
                  have hb7 : Below w6.heap.size w6 w7 := (below_new w6 _).trans (grown_below hg7 HO1.out (by simp))
                  obtain ⟨A7, c7, e7⟩ := ho7.form
                  have hl7 : ([1] ++ sg).length = t + 1 := by simp; omega
                  rw [hl7] at e7
                  subst e7
                  have HLC := Lib.hid ho7.rd.1
                  rw [List.singleton_append] at HLC
                  have hb8 : Below wo.heap.size wo w7 := Bw.step hbb hb7
                  have hsz7 := hb8.size
                  clear ho7 hg7 hat7 HO1 HS1 HSG hl7 hsl2
                  generalize (1 : GF) :: sg = C at *
                  have HV := Lib.hid (fun w (h : RdB w A7 (t + 1) C) x => rValue_any A7 (t + 1) c7 C x w h (by omega))
                  have HHA := Lib.hid (fun w (h : RdI w I es.length (toI es)) x => rHas_any I es.length ci (toI es) x w h (by omega))
                  go_loopw [21, 22, 23] (fun v fd i wr' => ∃ k : Nat, k ≤ l.length ∧ i = .int .i64 k ∧ OwI wr' w7.heap.size v (toI (pls l es C k)) ∧ fd = .int .i64 ((List.length (plk l es C k) : Nat) : Int) ∧ Below w7.heap.size w7 wr') (fun _ _ i _ => l.length - (intOf i).toNat)
                  case atStart => exact ⟨0, Nat.zero_le _, rfl, OwI.nil _ _, rfl, Below.refl _ _⟩
                  case round =>
                    obtain ⟨k, hk, rfl, ho, rfl, hb9⟩ := hrel
                    have hsz9 := hb9.size
                    have hfl := plk_len l es C k
                    by_cases hlk : k < l.length
                    · --[[d
                      have HO := Lib.hid ho
                      have hpl : (toI (pls l es C k)).length ≤ 300 := by rw [toI_len]; have := pls_len l es C k; omega
                      have HIk := Lib.hid (HIr.out.below (Bw.step hb8 hb9))
                      have HCk := Lib.hid (HLC.out.below hb9)
                      have H1 := Lib.hid (HHA.out wr HIk.out k)
                      have HEX := Lib.hid (show ∀ w, Calls Try.prog 51 #[.int .i64 (-((l.length : Int) - 1 - (k : Int)))] w fun e w' => e = .returned (.int .u8 (GF.exp ((k : Int) + 1 - (l.length : Nat))).z) ∧ w = w' from fun w => by rw [show -((l.length : Int) - 1 - (k : Int)) = (k : Int) + 1 - (l.length : Nat) by omega]; exact rExpZ _ w)
                      clear ho
                      by_cases hin : k ∈ es
                      · have HY := Lib.hid (show toI (pls l es C (k + 1)) = toI (pls l es C k) ++ [(k : Int)] by rw [pls_yes (by unfold plsB; simp [hin]), toI_append]; rfl)
                        have HF := Lib.hid (congrArg List.length (show plk l es C (k + 1) = plk l es C k from plk_no (fun hh => hh.2 hin)))
                        rw [hasI_yes hin] at H1
                        generalize toI (pls l es C k) = L at *
                        generalize (plk l es C k).length = fd at *
                        clear hin
                        go_wp2_with (first
                          | (go_at_call 18; refine H1.out.mono ?_; rintro e w' ⟨rfl, rfl⟩)
                          | (at_builtin; refine wpList_app1I wr rfl (.tmp 120) (.tmp 122) rfl w7.heap.size _ L HO.out rfl (k : Int) _ rfl (by omega) hsz9 ?_; intro v1 w8 ho1 hb10))
                        go_roundw
                        case rel => first | exact ⟨k + 1, by omega, by go_num, by (rw [HY.out]; exact ho1), by rw [HF.out], hb9.trans hb10⟩ | ((repeat apply Exists.intro); exact ⟨⟨k + 1, by omega, by go_num, by (rw [HY.out]; exact ho1), by rw [HF.out], hb9.trans hb10⟩, rfl⟩)
                        case measure => simp [intOf]; omega
                      · rw [hasI_no hin] at H1
                        have H2 := Lib.hid (HV.out wr HCk.out (GF.exp ((k : Int) + 1 - (l.length : Nat))))
                        by_cases hv0 : valL C (GF.exp ((k : Int) + 1 - (l.length : Nat))) = 0
                        · have HY := Lib.hid (show toI (pls l es C (k + 1)) = toI (pls l es C k) ++ [(k : Int)] by rw [pls_yes (by unfold plsB; simp [hv0]), toI_append]; rfl)
                          have HF := Lib.hid (show (plk l es C (k + 1)).length = (plk l es C k).length + 1 by rw [plk_yes hv0 hin]; simp)
                          have z0 := z_eq0 hv0
                          generalize valL C (GF.exp ((k : Int) + 1 - (l.length : Nat))) = y at *
                          generalize GF.exp ((k : Int) + 1 - (l.length : Nat)) = ex at *
                          generalize toI (pls l es C k) = L at *
                          generalize (plk l es C k).length = fd at *
                          clear hin hv0
                          go_wp2_with (first
                            | (go_at_call 18; refine H1.out.mono ?_; rintro e w' ⟨rfl, rfl⟩)
                            | (go_at_call 51; refine (HEX.out _).mono ?_; rintro e w' ⟨rfl, rfl⟩)
                            | (go_at_call 53; refine H2.out.mono ?_; rintro e w' ⟨rfl, rfl⟩)
                            | (at_builtin; refine wpList_app1I wr rfl (.tmp 134) (.tmp 136) rfl w7.heap.size _ L HO.out rfl (k : Int) _ rfl (by omega) hsz9 ?_; intro v1 w8 ho1 hb10))
                          go_roundw
                          case rel => first | exact ⟨k + 1, by omega, by go_num, by (rw [HY.out]; exact ho1), by (rw [HF.out]; go_num), hb9.trans hb10⟩ | ((repeat apply Exists.intro); exact ⟨⟨k + 1, by omega, by go_num, by (rw [HY.out]; exact ho1), by (rw [HF.out]; go_num), hb9.trans hb10⟩, rfl⟩)
                          case measure => simp [intOf]; omega
                        · have HY := Lib.hid (congrArg toI (show pls l es C (k + 1) = pls l es C k from pls_no (by unfold plsB; simp [hv0, hin])))
                          have HF := Lib.hid (congrArg List.length (show plk l es C (k + 1) = plk l es C k from plk_no (fun hh => hv0 hh.1)))
                          have z0 := z_ne0 hv0
                          generalize valL C (GF.exp ((k : Int) + 1 - (l.length : Nat))) = y at *
                          generalize GF.exp ((k : Int) + 1 - (l.length : Nat)) = ex at *
                          generalize toI (pls l es C k) = L at *
                          generalize (plk l es C k).length = fd at *
                          clear hin hv0
                          go_wp2_with (first
                            | (go_at_call 18; refine H1.out.mono ?_; rintro e w' ⟨rfl, rfl⟩)
                            | (go_at_call 51; refine (HEX.out _).mono ?_; rintro e w' ⟨rfl, rfl⟩)
                            | (go_at_call 53; refine H2.out.mono ?_; rintro e w' ⟨rfl, rfl⟩))
                          go_roundw
                          case rel => first | exact ⟨k + 1, by omega, by go_num, by (rw [HY.out]; exact HO.out), by rw [HF.out], hb9⟩ | ((repeat apply Exists.intro); exact ⟨⟨k + 1, by omega, by go_num, by (rw [HY.out]; exact HO.out), by rw [HF.out], hb9⟩, rfl⟩)
                          case measure => simp [intOf]; omega
                    · --[[f
                      obtain rfl : k = l.length := by omega
                      have HPLC := Lib.hid (plc_plk l es C)
                      obtain ⟨A8, c8, e8⟩ := ho.form
                      rw [toI_len] at e8
                      subst e8
                      have hKl := pls_len l es C l.length
                      have HRK := Lib.hid ho.rd.1
                      rw [← HPLC.out]
                      rw [← HPLC.out] at hfl
                      clear ho hk hlk HV HHA HLC
                      by_cases hfd : (plc l es C).length = t
                      · have HFD := Lib.hid hfd
                        rw [hfd]
                        have HKN : Hid (∀ i ∈ pls l es C l.length, i < l.length) := Lib.hid fun i hi => (mem_pls.1 hi).1
                        have HCL := Lib.hid (fun i (hi : i < p) => (congrArg List.length (colL_get (pls l es C l.length) l.length hi)).trans (colR_len _ _ _))
                        have HEXI := Lib.hid (fun c hc hm => ref_ex (C := C) HLT.out hc (HPL.out c hc hm))
                        have HCI := Lib.hid (fun (x : PS) q hq => (cols_iff (w := l) (p := p) (x := x) (pls_nodup l es C l.length) HKN.out q hq).1)
                        have HSND := Lib.hid (fun q => ref_sound HLT.out hcond hfd q)
                        have HQX := Lib.hid (fun x => q_ex (pls_nodup l es C l.length) x)
                        have HCN := Lib.hid (fun q => cntQ_full l es C q)
                        have HKD := Lib.hid (pls_nodup l es C l.length)
                        have HSk := Lib.hid (HSr.out.below (Bw.step hb8 hb9))
                        have HLk := Lib.hid (HLr.out.below (Bw.step hb8 hb9))
                        clear hfd HPL HFD hfl HPLC
                        generalize pls l es C l.length = K at *
                        have dq4 : ((t : Int) != (t : Int)) = false := by simp
                        go_wp2_with fail
                        refine (rColumns_any A8 K.length c8 l.length p K _ HRK.out HKN.out (by omega) h3 (by omega)).mono ?_
                        rintro e w8 ⟨A9, c9, hv9, rfl, hm9, hb10⟩
                        have HM9 := Lib.hid hm9.rd.1
                        have HS9 := Lib.hid (HSk.out.below hb10)
                        clear hm9
                        go_wp2_with fail
                        refine (rSolve_any A9 S p c9 p cs K.length (colL K l.length p) (syndL l p) _ HM9.out HS9.out (Nat.le_refl _) HCL.out (by omega) (by omega)).mono ?_
                        rintro e w9 ⟨A6, c6, x, ok, rfl, ho6, hok, hno, hb11⟩
                        have hbA : Below wr.heap.size wr w9 := Bw.step hb10 hb11
                        cases ok with
                        | false =>
                          have HN := Lib.hid (HNX.out fun c hc hm => by
                            obtain ⟨x, hx⟩ := HEXI.out c hc hm
                            exact hno rfl x hx)
                          clear hok hno HEXI HCI HSND HQX HCN
                          go_wp2
                          go_roundw
                          case rel => first | exact ⟨t + 1, by omega, by go_num, HN.out, Bw.step hbw (Bw.step (Bw.step hb8 hb9) hbA)⟩ | ((repeat apply Exists.intro); exact ⟨⟨t + 1, by omega, by go_num, HN.out, Bw.step hbw (Bw.step (Bw.step hb8 hb9) hbA)⟩, rfl⟩)
                          case measure => simp [intOf]; omega
                        | true =>
                          have hxl : x.length = K.length := ho6.rd.2.symm
                          obtain ⟨q, hq⟩ := HQX.out (cf x)
                          have HQ := Lib.hid hq
                          have HWI := Lib.hid (HSND.out q (HCI.out (cf x) q hq (hok rfl)))
                          have HCNq := Lib.hid (HCN.out q)
                          have HRX := Lib.hid ho6.rd.1
                          have HRK9 := Lib.hid (HRK.out.below hbA)
                          have HL9 := Lib.hid (HLk.out.below hbA)
                          have hbB : Below w.heap.size w w9 := Bw.step hb4 (Bw.step hbw (Bw.step (Bw.step hb8 hb9) hbA))
                          have hszB := hbB.size
                          clear hok hno HEXI HCI HSND HQX HCN ho6 hq HM9 HS9 hb10 hb11 hbA HCL HRK HLk HSk
                          go_wp2_with (at_builtin; refine wpList_appB _ rfl (.tmp 157) (.tmp 158) rfl w9.heap.size (.slice none 0 0) [] rfl (OwB.nil _ _) A l.length c l rfl HL9.out (by simp; omega) (Nat.le_refl _) ?_; intro v12 w12 ho12 hg12 hat12)
                          have hb12 : Below w9.heap.size w9 w12 := grown_below hg12 (OwB.nil w9 _) (Nat.le_refl _)
                          rw [List.nil_append] at ho12
                          obtain ⟨A12, c12, e12⟩ := ho12.form
                          subst e12
                          have HO12 := Lib.hid ho12
                          rw [← outAt_nil l q] at HO12
                          have ho13 : Hid (OwB w12 w9.heap.size (.slice A12 l.length c12) (outAt l q (K.take 0))) := Lib.hid (by rw [List.take_zero]; have := HO12.out; rw [outAt_len] at this; exact this)
                          clear HO12 ho12 hg12 hat12
                          go_wp2
                          go_loopw [27, 28] (fun ch i wr' => ∃ k : Nat, k ≤ K.length ∧ i = .int .i64 k ∧ ch = .int .i64 ((cntQ q K k : Nat) : Int) ∧ cntQ q K k ≤ k ∧ OwB wr' w9.heap.size (.slice A12 l.length c12) (outAt l q (K.take k)) ∧ Below w9.heap.size w9 wr') (fun _ i _ => K.length - (intOf i).toNat)
                          case atStart => exact ⟨0, Nat.zero_le _, rfl, by rw [cntQ_zero]; rfl, by rw [cntQ_zero]; exact Nat.le_refl _, ho13.out, hb12⟩
                          case round =>
                            obtain ⟨k, hk, rfl, rfl, hcl, ho, hb14⟩ := hrel
                            by_cases hlk : k < K.length
                            · have hKk := HKN.out _ (getDn_mem hlk)
                              obtain ⟨go, rfl⟩ := ho.head (by omega)
                              obtain ⟨gp, op, rfl, hlp, hcp⟩ := rdI_cell (HRK9.out.below hb14) (i := k) hlk
                              rw [toI_get] at hcp
                              obtain ⟨gx, ox, rfl, hlx, hcx⟩ := rd_cell (HRX.out.below hb14) (i := k) hlk
                              have HXN := Lib.hid (fun W (hb : Below w9.heap.size w9 W) => (rd_cell (HRX.out.below hb) (i := k) hlk))
                              have hgo := ho.lt
                              have HO := Lib.hid ho
                              have hco := ho.cellAt (i := K.getD k 0) hKk
                              have HQk := HQ.out k hlk
                              have HST := Lib.hid (outAt_step l q (K.take k) hKk (take_not_mem HKD.out hlk))
                              rw [← takeN_succ K hlk, HQk] at HST
                              have HCS := Lib.hid (cntQ_succ q K hlk)
                              rw [HQk] at HCS
                              have HPT := Lib.hid (fun W (hb : Below wr.heap.size wr W) => And.intro ((HO.out.below hb).set (K.getD k 0) ((outAt l q (K.take k)).getD (K.getD k 0) 0 + cf x k)) (And.intro ((HO.out.below hb).cellAt (i := K.getD k 0) hKk) ((HO.out.below hb).frozenAt (K.getD k 0))))
                              rw [HST.out] at HPT
                              have HBN := Lib.hid (fun W (hb : Below wr.heap.size wr W) v => (hb14.trans (hb.mono hb14.size)).setCell (p := ⟨go, K.getD k 0, none⟩) hgo.1 v)
                              have xz := xorZ ((outAt l q (K.take k)).getD (K.getD k 0) 0) (cf x k)
                              clear ho HST HQk
                              generalize hLN : outAt l q (K.take (k + 1)) = LN at *
                              have HLN := Lib.hid hLN
                              clear hLN
                              generalize (outAt l q (K.take k)).getD (K.getD k 0) 0 = yo at *
                              generalize K.getD k 0 = pq at *
                              generalize hcn : cntQ q K k = cn at *
                              clear hcn hco
                              have hco : wr.cell? ⟨go, pq, none⟩ = some (.int .u8 yo.z) := (HPT.out wr (Below.refl _ _)).2.1
                              by_cases hx0 : cf x k = 0
                              · rw [if_pos hx0] at HCS
                                have z0 := z_eq0 hx0
                                clear hx0
                                generalize cf x k = y at *
                                go_wp2
                                (apply wp_region_order [0, 1, 2, 3, 4, 5, 6, 7, 8, 9, 10, 11, 12, 13, 14, 15, 16, 17] [] [18] (by kernel_rfl) (by kernel_rfl) (by kernel_rfl); (case hq => (intro z hz; simp only [pick, List.getElem?_cons_succ, List.getElem?_cons_zero]; (have hx1 := fun x => cell_extz hz hlp hcp x; have hx2 := fun x => cell_extz hz hlx hcx x; have hx3 := fun x => cell_extz hz hgo.2 hco x); (repeat (go_big_quiet_step ((fail)))); refine wpQuiet_nil ?_; exact rfl)); (case' hc => (simp only [pick, List.getElem?_cons_succ, List.getElem?_cons_zero]; intro W6 hW6; simp only [chainF])))
                                obtain ⟨hn1, hn2, hn3⟩ := HPT.out _ hW6
                                have hn4 := HBN.out _ hW6 (.int .u8 (yo + y).z)
                                obtain ⟨gx', ox', ex', _, hcx'⟩ := HXN.out _ hn4
                                injection ex' with ex'
                                injection ex' with ex1 ex2
                                subst ex1
                                subst ex2
                                clear HPT HBN HXN
                                go_wp2
                                go_roundw
                                case rel => first | exact ⟨k + 1, by omega, by go_num, by (rw [HCS.out]; rfl), by (rw [HCS.out]; omega), by (rw [HLN.out]; exact hn1), hn4⟩ | ((repeat apply Exists.intro); exact ⟨⟨k + 1, by omega, by go_num, by (rw [HCS.out]; rfl), by (rw [HCS.out]; omega), by (rw [HLN.out]; exact hn1), hn4⟩, rfl⟩)
                                case measure => simp [intOf]; omega
                              · rw [if_neg hx0] at HCS
                                have z0 := z_ne0 hx0
                                clear hx0
                                generalize cf x k = y at *
                                go_wp2
                                (apply wp_region_order [0, 1, 2, 3, 4, 5, 6, 7, 8, 9, 10, 11, 12, 13, 14, 15, 16, 17] [] [18] (by kernel_rfl) (by kernel_rfl) (by kernel_rfl); (case hq => (intro z hz; simp only [pick, List.getElem?_cons_succ, List.getElem?_cons_zero]; (have hx1 := fun x => cell_extz hz hlp hcp x; have hx2 := fun x => cell_extz hz hlx hcx x; have hx3 := fun x => cell_extz hz hgo.2 hco x); (repeat (go_big_quiet_step ((fail)))); refine wpQuiet_nil ?_; exact rfl)); (case' hc => (simp only [pick, List.getElem?_cons_succ, List.getElem?_cons_zero]; intro W6 hW6; simp only [chainF])))
                                obtain ⟨hn1, hn2, hn3⟩ := HPT.out _ hW6
                                have hn4 := HBN.out _ hW6 (.int .u8 (yo + y).z)
                                obtain ⟨gx', ox', ex', _, hcx'⟩ := HXN.out _ hn4
                                injection ex' with ex'
                                injection ex' with ex1 ex2
                                subst ex1
                                subst ex2
                                clear HPT HBN HXN
                                go_wp2
                                go_roundw
                                case rel => first | exact ⟨k + 1, by omega, by go_num, by (rw [HCS.out]; go_num), by (rw [HCS.out]; omega), by (rw [HLN.out]; exact hn1), hn4⟩ | ((repeat apply Exists.intro); exact ⟨⟨k + 1, by omega, by go_num, by (rw [HCS.out]; go_num), by (rw [HCS.out]; omega), by (rw [HLN.out]; exact hn1), hn4⟩, rfl⟩)
                                case measure => simp [intOf]; omega
                            · obtain rfl : k = K.length := by omega
                              rw [HCNq.out]
                              rw [List.take_of_length_le (Nat.le_refl _)] at ho
                              have hbC : Below w.heap.size w wr := hbB.trans (hb14.mono hszB)
                              have HOF := Lib.hid (own_base ho hszB)
                              clear ho
                              go_wp2
                              exact bodyPost_ret (v := .tuple #[.slice A12 l.length c12, .int .i64 ((dcnt l (outAt l q K) [] l.length : Nat) : Int)]) (by simp [results, Try.results34, go_sem]) rfl ⟨hbC, .inl ⟨_, A12, c12, HWI.out, rfl, HOF.out⟩⟩
                      · have q6 : (((plc l es C).length : Int) != (t : Int)) = true := by rw [bne_iff_ne]; omega
                        have q7 : ((plc l es C).length != t) = true := by rw [bne_iff_ne]; exact hfd
                        have q8 : ¬ (((plc l es C).length : Int) = (t : Int)) := by omega
                        have HN := Lib.hid (HNX.out fun c hc hm => hfd (by rw [HPL.out c hc hm]; exact hm))
                        generalize (plc l es C).length = fd at *
                        clear HPL HPLC
                        go_wp2
                        go_roundw
                        case rel => first | exact ⟨t + 1, by omega, by go_num, HN.out, Bw.step hbw (Bw.step hb8 hb9)⟩ | ((repeat apply Exists.intro); exact ⟨⟨t + 1, by omega, by go_num, HN.out, Bw.step hbw (Bw.step hb8 hb9)⟩, rfl⟩)
                        case measure => simp [intOf]; omega
          · have dq1 : decide (2 * (t : Int) + (es.length : Int) ≤ (p : Int)) = false := by simp only [decide_eq_false_iff_not]; omega
            have HNO : Hid (∀ c, ¬ Within p l es c) := Lib.hid fun c hc => by
              have h1 := HW.out c hc
              have h2 := hc.2.2
              omega
            go_wp2
            exact bodyPost_ret (v := .tuple #[.slice none 0 0, .int .i64 (-1)]) (by simp [results, Try.results34, go_sem]) rfl ⟨Bw.step hb4 hbw, .inr ⟨HNO.out, rfl⟩⟩
  · go_enter Try.func34, Try.ntmps34
    go_wp2_with fail
    refine (rSyndromes_any A l.length c p l _ HL.out (by omega) (by omega)).mono ?_
    rintro e w1 ⟨S, cs, rfl, ho1, hb1⟩
    have q1 : (p : Int) < (es.length : Int) := by omega
    go_wp2
    exact bodyPost_ret (v := .tuple #[.slice none 0 0, .int .i64 (-1)]) (by simp [results, Try.results34, go_sem]) rfl ⟨hb1, .inr ⟨fun c hc => by have := hc.2.2; omega, rfl⟩⟩
end Go.Proofs.Ytcinfkmekkdhfaa
