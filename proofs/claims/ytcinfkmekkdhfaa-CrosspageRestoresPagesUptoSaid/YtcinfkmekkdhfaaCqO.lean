/- Cross pages: parts of the pages; the walk of that law. -/
import Derived.Test.YtcinfkmekkdhfaaCqJ
namespace Go.Proofs.Ytcinfkmekkdhfaa
open Go.RowKit Go.Shelf
set_option linter.unusedVariables false
attribute [local go_sem] Oper.semAt_some

theorem run_midC (g o n c lo hi : Nat) (h1 : lo < hi) (h2 : hi ≤ n) (h3 : n ≤ c) (w : World) : (Instr.slice 41 (.slice (some ⟨g, o, none⟩) n c) (some (.int .i64 (lo : Int))) (some (.int .i64 (hi : Int))) none).run Try.prog w = .ok (.slice (some ⟨g, o + lo, none⟩) (hi - lo) (c - lo)) w := by
  have e1 : 0 ≤ (lo : Int) ∧ (lo : Int) ≤ hi := by omega
  have e2 : 0 ≤ (hi : Int) ∧ (hi : Int) ≤ c := by omega
  have e3 : lo ≤ hi := by omega
  have e4 : hi ≤ c := by omega
  have e5 : ¬ c = lo := by omega
  simp [Instr.slice, Instr.sliceBounds, Instr.sliceBound, go_sem, e1, e2, e3, e4, e5]
theorem IsMat.caps {k : IntKind} {w : World} {b off len cap : Nat} {A : Nat → Option Addr} {Ln C : Nat → Nat} {Z : Nat → List Int} (h : IsMat k w (some ⟨b, off, none⟩) len cap A Ln C Z) : ∀ r, r < len → ∀ Ai n ci, w.cell? ⟨b, off + r, none⟩ = some (.slice Ai n ci) → n ≤ ci := by
  rcases h with ⟨h1, _⟩ | ⟨x, hx, hl, hm, hc⟩
  · cases h1
  · intro r hr Ai n ci he
    injection hx with hx
    subst hx
    obtain ⟨h1, h2⟩ := hc r (by omega)
    rw [addr_add, he] at h1
    injection h1 with h1
    injection h1 with e1 e2 e3
    subst e1 e2 e3
    rcases h2 with ⟨_, h3, h4, _⟩ | ⟨_, _, h3, _⟩ <;> omega
/-- Parts of pages. -/
def cutP (P : List (List GF)) (lo hi : Nat) : List (List GF) := P.map fun r => (r.drop lo).take (hi - lo)
theorem cutP_len (P : List (List GF)) (lo hi : Nat) : (cutP P lo hi).length = P.length := by simp [cutP]
theorem cutP_get (P : List (List GF)) (lo hi : Nat) {i : Nat} (h : i < P.length) : (cutP P lo hi).getD i [] = ((P.getD i []).drop lo).take (hi - lo) := by simp [cutP, List.getD, h]
theorem cut_get (r : List GF) {lo hi t : Nat} (ht : t < hi - lo) : ((r.drop lo).take (hi - lo)).getD t 0 = r.getD (lo + t) 0 := by simp [List.getD, ht]
theorem cut_word {P : List (List GF)} {lo hi t : Nat} (ht : t < hi - lo) : wordP (cutP P lo hi) t = wordP P (lo + t) := by
  refine eq_of_getDn (d := 0) (by rw [wordP_len, wordP_len, cutP_len]) fun i hi' => ?_
  rw [wordP_len, cutP_len] at hi'
  have h1 : (wordP (cutP P lo hi) t).getD i 0 = ((cutP P lo hi).getD i []).getD t 0 := by
    have : i < (cutP P lo hi).length := by rw [cutP_len]; exact hi'
    simp [wordP, List.getD, this]
  have h2 : (wordP P (lo + t)).getD i 0 = (P.getD i []).getD (lo + t) 0 := by simp [wordP, List.getD, hi']
  rw [h1, h2, cutP_get P lo hi hi', cut_get _ ht]
theorem cut_ext {P : List (List GF)} {p n lo hi : Nat} {L M : List (List GF)} (hhi : hi ≤ n) (h : ExtOK P p n L) (h' : ExtOK (cutP P lo hi) p (hi - lo) M) {i : Nat} (hip : i < p) : M.getD i [] = ((L.getD i []).drop lo).take (hi - lo) := by
  obtain ⟨a1, a2⟩ := h.2 i hip
  obtain ⟨b1, b2⟩ := h'.2 i hip
  refine eq_of_getDn (d := 0) (by rw [b1, List.length_take, List.length_drop, a1]; omega) fun t ht => ?_
  rw [b1] at ht
  obtain ⟨wd, hw⟩ := enc_ex (wordP P (lo + t)) p
  rw [cut_get _ ht, a2 (lo + t) (by omega) wd hw, b2 t ht wd (by rw [cut_word ht]; exact hw), cutP_len]
/-- Rows that were appended one by one. -/
theorem rdM_own {w : World} {B m c : Nat} {A : Option Addr} {xs : List Value} {Q : List (List GF)} (h : w.ownsRow B 41 1 (.slice A m c) m xs) (hl : Q.length = m) (hr : ∀ i, i < m → ∃ Ai ci, xs.getD i undef = .slice Ai (Q.getD i []).length ci ∧ RdB w Ai (Q.getD i []).length (Q.getD i [])) : RdM w A m Q := by
  refine ⟨hl, fun hn => ?_⟩
  rcases h.2 with ⟨h1, h2⟩ | ⟨g, cap, cur, hv, _, hh, _⟩
  · omega
  · injection hv with e1 e2 e3
    subst e1
    refine ⟨g, 0, rfl, (Array.getElem?_eq_some_iff.1 hh).1, fun i hi => ?_⟩
    obtain ⟨Ai, ci, e, hb⟩ := hr i hi
    refine ⟨Ai, ci, ?_, hb⟩
    have hx := h.1
    rw [Nat.zero_add, World.ownsRow.cellAt (g := g) (cap := c) h i (by omega), ← e]
    simp [List.getD, show i < xs.length by omega]
theorem own_form {w : World} {B s n : Nat} {e : TypeId} {v : Value} {xs : List Value} (h : w.ownsRow B e s v n xs) (hn : 0 < n) : ∃ g c, v = .slice (some ⟨g, 0, none⟩) n c := by
  rcases h.2 with ⟨_, h⟩ | ⟨g, cap, cur, h, _⟩
  · omega
  · exact ⟨g, cap, h⟩
theorem OwM.rdc {w : World} {B n c : Nat} {A : Option Addr} {hv : List Value} {L : List (List GF)} (h : OwM w B (.slice A n c) hv L) (hn : 0 < n) : ∃ g, A = some ⟨g, 0, none⟩ ∧ g < w.heap.size ∧ ∀ i, i < n → ∃ Ai ci, w.cell? ⟨g, i, none⟩ = some (.slice Ai (L.getD i []).length ci) ∧ RdB w Ai (L.getD i []).length (L.getD i []) ∧ (L.getD i []).length ≤ ci := by
  have hl := h.rd.2
  obtain ⟨g, c', e, _, hg⟩ := h.head (by omega)
  injection e with e1 e2 e3
  subst e1 e2 e3
  refine ⟨g, rfl, hg, fun i hi => ?_⟩
  have hr := h.row i hi
  obtain ⟨Ai, ci, e⟩ := hr.form
  have hc := h.cellAt hi
  rw [e] at hc hr
  exact ⟨Ai, ci, hc, hr.rd.1, hr.cap.1⟩
set_option maxRecDepth 100000 in
set_option maxHeartbeats 4000000 in
theorem walkCrosspagePositionsAreIndependent (a0 : Option Addr) (len0 cap0 : Nat) (A0 : Nat → Option Addr) (L0 C0 : Nat → Nat) (Z0 : Nat → List Int) (a1 a2 a3 : Int) (w : World) (h0 : IsMat .u8 w a0 len0 cap0 A0 L0 C0 Z0) (h1 : (Lit.int .i64 a1).wf = true) (h2 : (Lit.int .i64 a2).wf = true) (h3 : (Lit.int .i64 a3).wf = true) :
    Calls Try.prog 6 #[.slice a0 len0 cap0, .int .i64 a1, .int .i64 a2, .int .i64 a3] w fun e w' => e = .returned (.bool true) ∧ Below w.heap.size w w' := by
  obtain ⟨P, hP, -, -⟩ := h0.bytes
  have HP := Lib.hid hP
  have hPm := hP.1
  have H0 := Lib.hid h0
  clear h0 h1 h2 h3
  rcases ext_split len0 a1 P with ⟨C, I, hC, hS⟩ | ⟨q, n, rfl, hG, hS⟩
  · have HS := Lib.hid hS
    have xC : (C == 0) = false := by rw [beq_eq_false_iff_ne]; exact hC
    have xC2 : decide (C = 0) = false := decide_eq_false hC
    have xC3 : (C != 0) = true := by rw [bne, xC]; rfl
    clear hS hP
    go_enter Try.func6, Try.ntmps6
    go_wp2_with fail
    refine (HS.out _ _ _ HP.out).1.mono ?_
    rintro e w1 ⟨rfl, hb1⟩
    have B1 := Bw.al hb1 (.cells #[.int .i64 C, .int .i64 I] 24)
    clear hb1
    go_wp2_with fail
    refine (HS.out _ _ _ (HP.out.below B1)).2.mono ?_
    rintro e w2 ⟨rfl, hb2⟩
    have B2 := Bw.step B1 hb2
    clear hb2 B1
    go_wp2_with (go_at_call 11; refine (extended_any _).mono ?_; rintro e w3 ⟨rfl, hb3⟩)
    go_ret
    exact ⟨rfl, Bw.step B2 hb3⟩
  · have HS := Lib.hid hS
    obtain ⟨g1, g2, g3, g4, g5, g6⟩ := hG
    have HL := Lib.hid g6
    obtain ⟨ba, oa, rfl, hba, hca⟩ := hP.2 (by omega)
    have HCA := Lib.hid hca
    have HCP := Lib.hid H0.out.caps
    obtain ⟨Ap, cp, hcp, _⟩ := hca 0 (by omega)
    rw [g6 0 (by omega), Nat.add_zero] at hcp
    clear hS g6 hP hca H0
    go_enter Try.func6, Try.ntmps6
    go_wp2_with fail
    refine (extend_ok _ len0 cap0 q n P w HP.out g1 g2 g3 g4 g5 HL.out).mono ?_
    rintro e w1 ⟨A1, c1, hv1, L1, rfl, hM1, hE1, hb1⟩
    have F1 := Has.new w1 0 0 24
    have B1 := Bw.al hb1 (.cells #[.int .i64 0, .int .i64 0] 24)
    have M1 := hM1.below (below_new w1 (.cells #[.int .i64 0, .int .i64 0] 24))
    have HE1 := Lib.hid hE1
    clear hb1 hM1 hE1
    go_wp2_with fail
    refine (HS.out _ _ _ (HP.out.below B1)).mono ?_
    rintro e w2 ⟨rfl, hb2⟩
    have F1 := F1.below hb2
    have B2 := Bw.step B1 hb2
    have HM2 := Lib.hid (M1.below hb2)
    have hcp2 := (B2.cell (p := ⟨ba, oa, none⟩) hba).trans hcp
    have HB2 := Lib.hid B2
    clear hb2 B1 M1 B2
    obtain ⟨l1, c10, c11, f10, f11⟩ := id F1
    by_cases k1 : a2 < 0
    · have x1 : decide (a2 < 0) = true := decide_eq_true k1
      clear k1
      go_wp2_with (go_at_call 11; refine (extended_any _).mono ?_; rintro e w3 ⟨rfl, hb3⟩)
      go_ret
      exact ⟨rfl, Bw.step HB2.out hb3⟩
    have x1 : decide (a2 < 0) = false := decide_eq_false k1
    by_cases k2 : (n : Int) < a3
    · have x2 : decide ((n : Int) < a3) = true := decide_eq_true k2
      clear k1 k2
      go_wp2_with (go_at_call 11; refine (extended_any _).mono ?_; rintro e w3 ⟨rfl, hb3⟩)
      go_ret
      exact ⟨rfl, Bw.step HB2.out hb3⟩
    have x2 : decide ((n : Int) < a3) = false := decide_eq_false k2
    by_cases k3 : a3 ≤ a2
    · have x3 : decide (a3 ≤ a2) = true := decide_eq_true k3
      clear k1 k2 k3
      go_wp2_with (go_at_call 11; refine (extended_any _).mono ?_; rintro e w3 ⟨rfl, hb3⟩)
      go_ret
      exact ⟨rfl, Bw.step HB2.out hb3⟩
    have x3 : decide (a3 ≤ a2) = false := decide_eq_false k3
    obtain ⟨lo, rfl⟩ : ∃ lo : Nat, a2 = lo := ⟨a2.toNat, by omega⟩
    obtain ⟨hi, rfl⟩ : ∃ hi : Nat, a3 = hi := ⟨a3.toNat, by omega⟩
    have hlh : lo < hi := by omega
    have hhn : hi ≤ n := by omega
    have y3 : decide (hi ≤ lo) = false := decide_eq_false (by omega)
    have y2 : decide (n < hi) = false := decide_eq_false (by omega)
    clear k1 k2 k3
    obtain ⟨W2, rfl⟩ : ∃ W : World, W = w2 := ⟨_, rfl⟩
    have HF1 := Lib.hid F1
    clear F1
    go_wp2
    clear l1 c10 c11 f10 f11 x1 x2 x3 y2 y3 hcp2 hcp
    generalize w1.heap.size = f1 at *
    go_loopw [11, 12] (fun v i wr => ∃ (k : Nat) (xs : List Value), k ≤ len0 ∧ i = .int .i64 k ∧ wr.ownsRow W2.heap.size 41 1 v k xs ∧ (∀ i, i < k → ∃ Ai ci, xs.getD i undef = .slice Ai (hi - lo) ci ∧ RdB W2 Ai (hi - lo) (((P.getD i []).drop lo).take (hi - lo))) ∧ Below W2.heap.size W2 wr) (fun _ i _ => len0 - (intOf i).toNat)
    case atStart => exact ⟨0, [], Nat.zero_le _, rfl, World.ownsRow_nil _ _ _ _, fun i hi => absurd hi (Nat.not_lt_zero i), Below.refl _ _⟩
    case round =>
      obtain ⟨k, xs, hk, rfl, hown, hrows, hbr⟩ := hrel
      have HBR := Lib.hid hbr
      have HOWN := Lib.hid hown
      have HROWS := Lib.hid hrows
      have hzr := hbr.size
      have hz2 := HB2.out.size
      by_cases hlt : k < len0
      · skip
        obtain ⟨Ai, ci, hci, hri⟩ := HCA.out k hlt
        have hcap := HCP.out k hlt _ _ _ hci
        rw [HL.out k hlt] at hci hri hcap
        obtain ⟨bi, oi, rfl, hbi, _⟩ := hri.2 (by omega)
        have hci2 := (hbr.cell (p := ⟨ba, oa + k, none⟩) (by show ba < W2.heap.size; omega)).trans ((HB2.out.cell (p := ⟨ba, oa + k, none⟩) hba).trans hci)
        have HRI := Lib.hid (((hri.below (HB2.out.mono (Nat.le_refl _))).drop lo).take (k := hi - lo) (by omega))
        have HSL := run_midC bi oi n ci lo hi hlh hhn hcap
        have hlk : (k : Nat) + 1 ≤ 64 := by omega
        clear hown hrows hbr hri hci hcap
        go_wp2_with (at_builtin; refine wpList_app (wr.alloc (.cells #[.slice (some ⟨bi, oi + lo, none⟩) (hi - lo) (ci - lo)] 41)) rfl (.tmp 54) (.tmp 62) 22 rfl W2.heap.size 41 (.slice none 0 0) 24 Try.underlying22 infoS rfl _ k xs rfl (HOWN.out.alloc _) (some ⟨wr.heap.size, 0, none⟩) 1 1 [.slice (some ⟨bi, oi + lo, none⟩) (hi - lo) (ci - lo)] rfl (RdV.one wr _ _ rfl) (fun u hu => by rw [List.mem_singleton] at hu; subst hu; rfl) (by unfold maxLen; omega) (by omega) (by rw [World.size_alloc]; omega) ?_; intro v1 w1' ho1 hg1 hat1)
        have hb1 : Below W2.heap.size wr w1' := ((below_new wr _).mono hzr).trans (grown_below hg1 (HOWN.out.alloc _) (by rw [World.size_alloc]; omega))
        have hxl : xs.length = k := by have := HOWN.out.1; omega
        have hnew : ∀ i, i < k + 1 → ∃ Ai' ci', (xs ++ [Value.slice (some ⟨bi, oi + lo, none⟩) (hi - lo) (ci - lo)]).getD i undef = .slice Ai' (hi - lo) ci' ∧ RdB W2 Ai' (hi - lo) (((P.getD i []).drop lo).take (hi - lo)) := fun i hi' => by
          by_cases e : i < k
          · rw [getD_app_l (by omega)]
            exact HROWS.out i e
          · obtain rfl : i = k := by omega
            refine ⟨_, _, by rw [← hxl]; exact getD_app_r, ?_⟩
            exact HRI.out
        have HNEW := Lib.hid (And.intro ho1 (And.intro hnew (HBR.out.trans hb1)))
        clear ho1 hg1 hat1 hb1 hnew
        go_roundw
        case rel => exact ⟨k + 1, _, by omega, by go_num, HNEW.out.1, HNEW.out.2.1, HNEW.out.2.2⟩
        case measure => simp [intOf]; omega
      · obtain rfl : len0 = k := by omega
        obtain ⟨g, cg, e⟩ := own_form hown (by omega)
        subst e
        have hR : RdM wr (some ⟨g, 0, none⟩) len0 (cutP P lo hi) := rdM_own hown (by rw [cutP_len, hPm]) fun i hi' => by
          obtain ⟨Ai, ci, e, hb⟩ := hrows i hi'
          rw [cutP_get P lo hi (by omega)]
          have hl := hb.1
          exact ⟨Ai, ci, by rw [hl]; exact e, by rw [hl]; exact hb.below hbr⟩
        have HR := Lib.hid hR
        have hcl : ∀ i, i < len0 → ((cutP P lo hi).getD i []).length = hi - lo := fun i hi' => by
          rw [cutP_get P lo hi (by omega), List.length_take, List.length_drop, HL.out i hi']; omega
        have HCL := Lib.hid hcl
        have hdd : 1 ≤ hi - lo ∧ hi - lo ≤ 384 := by omega
        obtain ⟨W3, rfl⟩ : ∃ W : World, W = wr := ⟨_, rfl⟩
        clear hown hrows hbr hR hcl HOWN HROWS
        go_wp2_with fail
        refine (extend_ok _ len0 cg q (hi - lo) (cutP P lo hi) W3 HR.out g1 g2 g3 hdd.1 hdd.2 HCL.out).mono ?_
        rintro e w4 ⟨A4, c4, hv4, L4, rfl, hM4, hE4, hb4⟩
        have F4 := Has.new w4 0 0 24
        have b4 : Below W3.heap.size W3 (w4.alloc (.cells #[.int .i64 0, .int .i64 0] 24)) := Bw.al hb4 _
        have HM4 := Lib.hid (hM4.below (below_new w4 (.cells #[.int .i64 0, .int .i64 0] 24)))
        have HB4 := Lib.hid (HBR.out.trans (b4.mono hzr))
        have HCUT := Lib.hid (fun i (hi' : i < q) => cut_ext hhn HE1.out hE4 hi')
        have HM1 := Lib.hid ((HM2.out.below HBR.out).below b4)
        clear hb4 hM4 hE4 b4
        obtain ⟨l1, c10, c11, f10, f11⟩ := id F4
        go_wp2
        clear l1 c10 c11 f10 f11 F4
        generalize w4.alloc (.cells #[.int .i64 0, .int .i64 0] 24) = W4 at *
        generalize w4.heap.size = f4 at *
        go_loopw [15] (fun i wr => ∃ k : Nat, k ≤ q ∧ i = .int .i64 k ∧ Below W4.heap.size W4 wr) (fun i _ => q - (intOf i).toNat)
        case atStart => exact ⟨0, Nat.zero_le _, rfl, Below.refl _ _⟩
        case round =>
          obtain ⟨k, hk, rfl, hbr⟩ := hrel
          have HBR4 := Lib.hid hbr
          by_cases hkq : k < q
          · skip
            obtain ⟨gp, rfl, hgp, hcp⟩ := (HM1.out.below hbr).rdc (by omega)
            obtain ⟨gq, rfl, hgq, hcq⟩ := (HM4.out.below hbr).rdc (by omega)
            obtain ⟨Ap, cp', ep, rp, kp⟩ := hcp k hkq
            obtain ⟨Aq, cq, eq, rq, kq⟩ := hcq k hkq
            have hlp := (HE1.out.2 k hkq).1
            rw [hlp] at ep rp kp
            obtain ⟨bp, op, rfl, hbp, _⟩ := rp.2 (by omega)
            have HSL := fun w => run_midC bp op n cp' lo hi hlh hhn kp w
            have hcutk := HCUT.out k hkq
            have RP := Lib.hid ((rp.drop lo).take (k := hi - lo) (by omega))
            rw [← hcutk] at RP
            have hlq : (L4.getD k []).length = hi - lo := RP.out.1
            rw [hlq] at eq rq
            have RQ := Lib.hid rq
            obtain ⟨A0', c0', e0, _⟩ := HCA.out 0 (by omega)
            rw [HL.out 0 (by omega), Nat.add_zero] at e0
            have hw4 : Below w.heap.size w wr := (HB2.out.trans (HB4.out.mono hz2)).trans (hbr.mono (Nat.le_trans hz2 HB4.out.size))
            replace e0 := (hw4.cell (p := ⟨ba, oa, none⟩) hba).trans e0
            have hba4 : ba < wr.heap.size := by have := hw4.size; omega
            clear hcp hcq rp rq kp kq hlp hcutk hw4 hbr hlq
            generalize L4.getD k [] = row at *
            go_wp2
            have hx1 := fun x : Ext wr => (x.below.cell (p := ⟨gp, k, none⟩) hgp).trans ep
            have hx2 := fun x : Ext wr => (x.below.cell (p := ⟨gq, k, none⟩) hgq).trans eq
            have hx3 := fun x : Ext wr => (x.below.cell (p := ⟨ba, oa, none⟩) hba4).trans e0
            (refine wp_region_ext (by kernel_rfl) (by kernel_rfl) ?_; (repeat (go_big_quiet_step ((go_at_call 20; exact ext_same (same_self _ _ _ _ _ _ row _ (RQ.out.below (Ext.below _)) (RP.out.below (Ext.below _))))))); refine wpQuiet_nil ?_; intro W6 hw'; have hW6 := ext_below hw'; clear hw')
            clear hx1 hx2 hx3
            have HB6 := Lib.hid (HBR4.out.trans (hW6.mono HBR4.out.size))
            clear hW6
            go_wp2
            go_roundw
            case rel => first | exact ⟨k + 1, by omega, by go_num, HB6.out⟩ | ((repeat apply Exists.intro); exact ⟨⟨k + 1, by omega, by go_num, HB6.out⟩, rfl⟩)
            case measure => simp [intOf]; omega
          · obtain rfl : q = k := by omega
            clear hbr
            go_wp2_with (go_at_call 11; refine (extended_any _).mono ?_; rintro e w5 ⟨rfl, hb5⟩)
            go_ret
            exact ⟨rfl, Bw.step ((HB2.out.trans (HB4.out.mono hz2)).trans (HBR4.out.mono (Nat.le_trans hz2 HB4.out.size))) hb5⟩
end Go.Proofs.Ytcinfkmekkdhfaa
