/- Cross pages: the walk of the law on missing and wrong pages. -/
import Derived.Test.YtcinfkmekkdhfaaCqO
import Derived.Test.YtcinfkmekkdhfaaCqP
namespace Go.Proofs.Ytcinfkmekkdhfaa
open Go.RowKit Go.Shelf
set_option linter.unusedVariables false
attribute [local go_sem] Oper.semAt_some

theorem IsRow.intB {w : World} {a : Option Addr} {len cap : Nat} {zs : List Int} (h : IsRow .i64 w a len cap zs) : ∃ l : List Int, RdI w a len l ∧ len ≤ 9223372036854775807 := by
  obtain ⟨l, hl⟩ := h.intL
  refine ⟨l, hl, ?_⟩
  rcases h with ⟨_, h1, _⟩ | ⟨_, _, h1, h2, _⟩
  · omega
  · unfold maxLen at h2; omega
/-- The cells of a matrix, as values. -/
theorem RdM.vals {w : World} {A : Option Addr} {m : Nat} {P : List (List GF)} (h : RdM w A m P) : ∃ xs : List Value, RdV w A m xs ∧ (∀ i, i < m → ∃ Ai ci, xs.getD i undef = .slice Ai (P.getD i []).length ci ∧ RdB w Ai (P.getD i []).length (P.getD i [])) ∧ ∀ u ∈ xs, u.oneCell' = true := by
  rcases Nat.eq_zero_or_pos m with h0 | h0
  · subst h0
    exact ⟨[], ⟨rfl, fun h => absurd h (Nat.lt_irrefl 0)⟩, fun i hi => absurd hi (Nat.not_lt_zero i), fun u hu => by cases hu⟩
  · obtain ⟨b, off, rfl, hb, hc⟩ := h.2 h0
    have hex : ∀ i, ∃ y : Option Addr × Nat, i < m → w.cell? ⟨b, off + i, none⟩ = some (.slice y.1 (P.getD i []).length y.2) ∧ RdB w y.1 (P.getD i []).length (P.getD i []) := fun i => by
      by_cases hi : i < m
      · obtain ⟨Ai, ci, h1, h2⟩ := hc i hi
        exact ⟨(Ai, ci), fun _ => ⟨h1, h2⟩⟩
      · exact ⟨(none, 0), fun h => absurd h hi⟩
    obtain ⟨f, hf⟩ := Classical.axiomOfChoice hex
    have hget : ∀ i, i < m → ((List.range m).map fun i => Value.slice (f i).1 (P.getD i []).length (f i).2).getD i undef = .slice (f i).1 (P.getD i []).length (f i).2 := fun i hi => by simp [List.getD, hi]
    refine ⟨(List.range m).map fun i => Value.slice (f i).1 (P.getD i []).length (f i).2, ⟨by simp, fun _ => ⟨b, off, rfl, fun i u hu => ?_⟩⟩, fun i hi => ⟨_, _, hget i hi, (hf i hi).2⟩, fun u hu => ?_⟩
    · rw [List.getElem?_map] at hu
      obtain ⟨j, hj, rfl⟩ := Option.map_eq_some_iff.1 hu
      have hi : i < m := by
        have := (List.getElem?_eq_some_iff.1 hj).1
        simpa using this
      have hij : j = i := by
        rw [List.getElem?_range hi] at hj
        exact (Option.some.inj hj).symm
      subst hij
      exact (hf j hi).1
    · obtain ⟨j, _, rfl⟩ := List.mem_map.1 hu
      rfl
/-- The list 'now', its rows: what lay in W, or made since and apart. -/
def NowI (W wr : World) (v : Value) (k : Nat) (N : Nat → List GF) (xs : List Value) : Prop :=
  wr.ownsRow W.heap.size 41 1 v k xs ∧ ∀ i, i < k → ∃ A c, xs.getD i undef = .slice A (N i).length c ∧ (RdB W A (N i).length (N i) ∨ (OwB wr W.heap.size (.slice A (N i).length c) (N i) ∧ Apt (.slice A (N i).length c) v))
theorem NowI.below {W wr wr' : World} {v : Value} {k : Nat} {N : Nat → List GF} {xs : List Value} (h : NowI W wr v k N xs) (hb : Below wr.heap.size wr wr') : NowI W wr' v k N xs :=
  ⟨own_below h.1 hb, fun i hi => by
    obtain ⟨A, c, h1, h2⟩ := h.2 i hi
    exact ⟨A, c, h1, h2.imp id fun h3 => ⟨h3.1.below hb, h3.2⟩⟩⟩
theorem NowI.push {W wr w1 : World} {v v1 : Value} {k ln : Nat} {N : Nat → List GF} {xs : List Value} {o : Obj} {A : Option Addr} {c : Nat} (h : NowI W wr v k N xs) (hln : (N k).length = ln) (hr : RdB W A ln (N k) ∨ (OwB wr W.heap.size (.slice A ln c) (N k) ∧ Apt (.slice A ln c) v))
    (ho : w1.ownsRow W.heap.size 41 1 v1 (k + 1) (xs ++ [.slice A ln c])) (hg : (wr.alloc o).grownBy w1 v.ownBlock) (hat : v1.ownBlock = v.ownBlock ∨ v1.ownBlock = some (wr.alloc o).heap.size) : NowI W w1 v1 (k + 1) N (xs ++ [.slice A ln c]) := by
  subst hln
  have hk := keeps_app hg hat
  have hl : xs.length = k := by have := h.1.1; omega
  refine ⟨ho, fun i hi => ?_⟩
  by_cases e : i < k
  · obtain ⟨A', c', h1, h2⟩ := h.2 i e
    exact ⟨A', c', by rw [getD_app_l (by omega)]; exact h1, h2.imp id fun h3 => hk _ _ _ _ _ _ h3.1 h3.2⟩
  · obtain rfl : i = k := by omega
    refine ⟨A, c, by rw [← hl]; exact getD_app_r, hr.imp id fun h3 => hk _ _ _ _ _ _ h3.1 h3.2⟩
theorem getD_app_s {α : Type} {l r : List α} {d : α} {n : Nat} (hn : l.length = n) (i : Nat) : (l ++ r).getD (n + i) d = r.getD i d := by
  subst hn
  simp only [List.getD]
  rw [List.getElem?_append_right (by omega), Nat.add_sub_cancel_left]
theorem NowI.rd {W wr : World} {g c r : Nat} {N : Nat → List GF} {xs : List Value} {Q : List (List GF)} (h : NowI W wr (.slice (some ⟨g, 0, none⟩) r c) r N xs) (hb : Below W.heap.size W wr) (hQ : Q.length = r) (hN : ∀ i, i < r → Q.getD i [] = N i) : RdM wr (some ⟨g, 0, none⟩) r Q :=
  rdM_own h.1 hQ fun i hi => by
    obtain ⟨A, c', h1, h2⟩ := h.2 i hi
    rw [hN i hi]
    exact ⟨A, c', h1, h2.elim (fun h3 => h3.below hb) (fun h3 => h3.1.rd.1)⟩
theorem cntR_le (M Wr : List Int) : ∀ k, cntR M Wr k ≤ 2 * k
  | 0 => Nat.le_refl _
  | k + 1 => by
    have ih := cntR_le M Wr k
    show cntR M Wr k + (if (k : Int) ∈ M then 1 else if (k : Int) ∈ Wr then 2 else 0) ≤ _
    by_cases h1 : (k : Int) ∈ M
    · rw [if_pos h1]; omega
    · rw [if_neg h1]
      by_cases h2 : (k : Int) ∈ Wr
      · rw [if_pos h2]; omega
      · rw [if_neg h2]; omega
theorem nonZ_inc (N : List (List GF)) (r : Nat) : ∀ i, i < r → IncOk ((nonZ r).getD i []) (N.getD i []).length := fun i hi k hk => by
  rw [nonZ_get] at hk
  exact absurd hk (Nat.not_lt_zero k)
set_option maxRecDepth 100000 in
set_option maxHeartbeats 8000000 in
theorem walkCrosspageRestoresPages (a0 : Option Addr) (len0 cap0 : Nat) (A0 : Nat → Option Addr) (L0 C0 : Nat → Nat) (Z0 : Nat → List Int) (a1 : Int) (a2 : Option Addr) (len2 cap2 : Nat) (z2 : List Int) (a3 : Option Addr) (len3 cap3 : Nat) (z3 : List Int) (a4 : Option Addr) (len4 cap4 : Nat) (z4 : List Int) (w : World)
    (h0 : IsMat .u8 w a0 len0 cap0 A0 L0 C0 Z0) (h1 : (Lit.int .i64 a1).wf = true) (h2 : IsRow .i64 w a2 len2 cap2 z2) (h3 : IsRow .i64 w a3 len3 cap3 z3) (h4 : IsRow .u8 w a4 len4 cap4 z4) (hv : len4 ≤ 1048576) :
    Calls Try.prog 5 #[.slice a0 len0 cap0, .int .i64 a1, .slice a2 len2 cap2, .slice a3 len3 cap3, .slice a4 len4 cap4] w fun e w' => e = .returned (.bool true) ∧ Below w.heap.size w w' := by
  obtain ⟨P, hP, -, -⟩ := h0.bytes
  obtain ⟨M, hM, hM2⟩ := h2.intB
  obtain ⟨R, hR, hR2⟩ := h3.intB
  obtain ⟨V, hV, -⟩ := h4.bytes
  have hPm := hP.1
  have hVl := hV.1
  have HP := Lib.hid hP
  have HM := Lib.hid hM
  have HR := Lib.hid hR
  have HV := Lib.hid hV
  clear h0 h1 h2 h3 h4 hM hR hV
  rcases ext_split len0 a1 P with ⟨C, I, hC, hS⟩ | ⟨q, n, rfl, hG, hS⟩
  · have HS := Lib.hid hS
    have xC : (C == 0) = false := by rw [beq_eq_false_iff_ne]; exact hC
    have xC2 : decide (C = 0) = false := decide_eq_false hC
    have xC3 : (C != 0) = true := by rw [bne, xC]; rfl
    clear hS hP
    go_enter Try.func5, Try.ntmps5
    go_wp2_with fail
    refine (HS.out _ _ _ HP.out).1.mono ?_
    rintro e w1 ⟨rfl, hb1⟩
    have F1 := Has.new w1 C I 24
    have B1 := Bw.al hb1 (.cells #[.int .i64 C, .int .i64 I] 24)
    clear hb1
    go_wp2_with fail
    refine (HS.out _ _ _ (HP.out.below B1)).2.mono ?_
    rintro e w2 ⟨rfl, hb2⟩
    have F1 := F1.below hb2
    have B2 := Bw.step B1 hb2
    clear hb2 B1
    obtain ⟨l1, c10, c11, f10, f11⟩ := id F1
    go_wp2_with (go_at_call 11; refine (extended_any _).mono ?_; rintro e w3 ⟨rfl, hb3⟩)
    go_ret
    exact ⟨rfl, Bw.step B2 hb3⟩
  · have HS := Lib.hid hS
    obtain ⟨g1, g2, g3, g4, g5, g6⟩ := hG
    have HL := Lib.hid g6
    clear hS g6 hP
    go_enter Try.func5, Try.ntmps5
    go_wp2_with fail
    refine (extend_ok _ len0 cap0 q n P w HP.out g1 g2 g3 g4 g5 HL.out).mono ?_
    rintro e w1 ⟨A1, c1, hv1, L1, rfl, hM1, hE1, hb1⟩
    have F1 := Has.new w1 0 0 24
    have B1 := Bw.al hb1 (.cells #[.int .i64 0, .int .i64 0] 24)
    have R1 := hM1.rd.1.below (below_new w1 (.cells #[.int .i64 0, .int .i64 0] 24))
    have HE1 := Lib.hid hE1
    clear hb1 hM1 hE1
    go_wp2_with fail
    refine (HS.out _ _ _ (HP.out.below B1)).mono ?_
    rintro e w2 ⟨rfl, hb2⟩
    have F1 := F1.below hb2
    have HB2 := Lib.hid (Bw.step B1 hb2)
    obtain ⟨xs, hxs, hxr, hx1⟩ := (HP.out.below HB2.out).vals
    obtain ⟨ys, hys, hyr, hy1⟩ := (R1.below hb2).vals
    have HXS := Lib.hid (And.intro hxs (And.intro hxr hx1))
    have HYS := Lib.hid (And.intro hys (And.intro hyr hy1))
    clear hb2 B1 R1 hxs hxr hx1 hys hyr hy1
    obtain ⟨l1, c10, c11, f10, f11⟩ := id F1
    clear F1
    obtain ⟨W2, rfl⟩ : ∃ W : World, W = w2 := ⟨_, rfl⟩
    go_wp2_with (first
      | (at_builtin; refine wpList_app W2 rfl (.tmp 49) (.tmp 50) 22 rfl W2.heap.size 41 (.slice none 0 0) 24 Try.underlying22 infoS rfl (.slice none 0 0) 0 [] rfl (World.ownsRow_nil _ _ _ _) a0 len0 cap0 xs rfl HXS.out.1 HXS.out.2.2 (by unfold maxLen; omega) (by omega) (Nat.le_refl _) ?_; intro v3 w3 ho3 hg3 hat3; have hb3 : Below W2.heap.size W2 w3 := grown_below hg3 (World.ownsRow_nil _ _ 41 1) (Nat.le_refl _))
      | (at_builtin; refine wpList_app w3 rfl (.tmp 51) (.tmp 52) 22 rfl W2.heap.size 41 (.slice none 0 0) 24 Try.underlying22 infoS rfl _ (0 + len0) ([] ++ xs) rfl ho3 A1 q c1 ys rfl ⟨HYS.out.1.1, fun h => by obtain ⟨b, off, e, hc⟩ := HYS.out.1.2 h; exact ⟨b, off, e, fun i u hu => (hb3.cell (p := ⟨b, off + i, none⟩) (World.block_lt_of_cell? _ _ (hc i u hu))).trans (hc i u hu)⟩⟩ HYS.out.2.2 (by unfold maxLen; omega) (by omega) hb3.size ?_; intro v4 w4 ho4 hg4 hat4))
    obtain ⟨ga, ca, e⟩ := own_form ho4 (by omega)
    subst e
    obtain ⟨r, hr⟩ : ∃ r, len0 + q = r := ⟨_, rfl⟩
    rw [show 0 + len0 + q = r by omega] at ho4 ⊢
    have hb4 : Below W2.heap.size W2 w4 := hb3.trans (grown_below hg4 ho3 hb3.size)
    have HALL := Lib.hid (show RdM w4 (some ⟨ga, 0, none⟩) r (P ++ L1) from rdM_own ho4 (by rw [List.length_append, HE1.out.1]; omega) fun i hi => by
      have hxl : xs.length = len0 := HXS.out.1.1
      rw [List.nil_append]
      by_cases hi0 : i < len0
      · rw [getD_app_l (by omega), getD_app_l (by omega)]
        obtain ⟨Ai, ci, e1, e2⟩ := HXS.out.2.1 i hi0
        exact ⟨Ai, ci, e1, e2.below hb4⟩
      · obtain ⟨j, rfl⟩ : ∃ j, i = len0 + j := ⟨i - len0, by omega⟩
        rw [getD_app_s hxl, getD_app_s hPm]
        obtain ⟨Ai, ci, e1, e2⟩ := HYS.out.2.1 j (by omega)
        exact ⟨Ai, ci, e1, e2.below hb4⟩)
    have HOK := Lib.hid (show AllOK P L1 (P ++ L1) len0 q n from ⟨hPm, HE1.out, HL.out, fun i hi => getD_app_l (by omega), fun i hi => getD_app_s hPm i, g4⟩)
    have HLT := Lib.hid (show ∀ i, i < r → ((P ++ L1).getD i []).length = n from fun i hi => HOK.out.len i (by omega))
    have HB4 := Lib.hid (HB2.out.trans (hb4.mono HB2.out.size))
    have HP4 := Lib.hid (HP.out.below HB4.out)
    have HM4 := Lib.hid (HM.out.below HB4.out)
    have HR4 := Lib.hid (HR.out.below HB4.out)
    have HV4 := Lib.hid (HV.out.below HB4.out)
    have hr64 : r ≤ 64 := by omega
    clear l1 c10 c11 f10 f11 ho3 hg3 hat3 hb3 ho4 hg4 hat4 hb4 HXS HYS
    obtain ⟨W4, rfl⟩ : ∃ W : World, W = w4 := ⟨_, rfl⟩
    obtain ⟨N, hN⟩ : ∃ N, nowR (P ++ L1) M R V = N := ⟨_, rfl⟩
    have HN := Lib.hid hN
    clear hN
    go_loopw [14, 15, 16] (fun cv v i wr => ∃ (k : Nat) (xs : List Value), k ≤ r ∧ i = .int .i64 k ∧ cv = .int .i64 ((cntR M R k : Nat) : Int) ∧ NowI W4 wr v k N xs ∧ Below W4.heap.size W4 wr) (fun _ _ i _ => r - (intOf i).toNat)
    case atStart => exact ⟨0, [], Nat.zero_le _, rfl, rfl, ⟨World.ownsRow_nil _ _ _ _, fun i hi => absurd hi (Nat.not_lt_zero i)⟩, Below.refl _ _⟩
    case round =>
      obtain ⟨k, xs, hk, rfl, rfl, hNI, hbr⟩ := hrel
      have HNI := Lib.hid hNI
      have HBR := Lib.hid hbr
      have hzr := hbr.size
      have hcn := cntR_le M R k
      have HCN := Lib.hid (show cntR M R (k + 1) = cntR M R k + (if (k : Int) ∈ M then 1 else if (k : Int) ∈ R then 2 else 0) from rfl)
      by_cases hlt : k < r
      · obtain ⟨bA, oA, e0, hgaw, hcA⟩ := HALL.out.2 (by omega)
        injection e0 with e0
        injection e0 with e1 e2
        subst e1 e2
        obtain ⟨Ak', ck', hck', hrk⟩ := hcA k hlt
        rw [Nat.zero_add] at hck'
        have hckw := (hbr.cell (p := ⟨ga, k, none⟩) hgaw).trans hck'
        rw [HLT.out k hlt] at hckw hrk
        have HRK := Lib.hid hrk
        have HHM := Lib.hid (rHas_any a2 len2 cap2 M (k : Int) wr (HM4.out.below hbr) hM2)
        have HHR := Lib.hid (rHas_any a3 len3 cap3 R (k : Int) wr (HR4.out.below hbr) hR2)
        clear hcA hck' hrk hNI hbr
        by_cases hM : (k : Int) ∈ M
        · skip
          rw [show hasI M (k : Int) = true from decide_eq_true hM] at HHM
          rw [if_pos hM] at HCN
          have HNK := Lib.hid (show N k = [] by rw [← HN.out]; unfold nowR; rw [if_pos hM])
          clear hM
          generalize cntR M R k = cn at *
          go_wp2_with (first
            | (go_at_call_of 18 (Value.slice a2 len2 cap2); refine HHM.out.mono ?_; rintro e w' ⟨rfl, rfl⟩)
            | (at_builtin; refine wpList_app (wr.alloc (.cells #[.slice none 0 0] 41)) rfl (.tmp 63) (.tmp 64) 22 rfl W4.heap.size 41 (.slice none 0 0) 24 Try.underlying22 infoS rfl _ k xs rfl (own_below HNI.out.1 (below_new _ _)) (some ⟨wr.heap.size, 0, none⟩) 1 1 [.slice none 0 0] rfl (RdV.one wr _ _ rfl) (fun u hu => by rw [List.mem_singleton] at hu; subst hu; rfl) (by unfold maxLen; omega) (by omega) (by rw [World.size_alloc]; omega) ?_; intro v1 w1' ho1 hg1 hat1))
          have HNW := Lib.hid (HNI.out.push (by rw [HNK.out]; rfl) (.inl (by rw [HNK.out]; exact RdB.nil _ _)) ho1 hg1 hat1)
          have HBW := Lib.hid (HBR.out.trans (((below_new wr _).mono hzr).trans (grown_below hg1 (own_below HNI.out.1 (below_new _ _)) (by rw [World.size_alloc]; omega))))
          clear ho1 hg1 hat1
          go_roundw
          case rel => first | exact ⟨k + 1, _, by omega, by go_num, by (rw [HCN.out]; go_num), HNW.out, HBW.out⟩ | ((repeat apply Exists.intro); exact ⟨⟨k + 1, _, by omega, by go_num, by (rw [HCN.out]; go_num), HNW.out, HBW.out⟩, rfl⟩)
          case measure => simp [intOf]; omega
        rw [show hasI M (k : Int) = false from decide_eq_false hM] at HHM
        rw [if_neg hM] at HCN
        by_cases hW : (k : Int) ∈ R
        · skip
          rw [show hasI R (k : Int) = true from decide_eq_true hW] at HHR
          rw [if_pos hW] at HCN
          have HNK := Lib.hid (show N k = changedL ((P ++ L1).getD k []) (plR V.length k) V by rw [← HN.out]; unfold nowR; rw [if_neg hM, if_pos hW])
          have HNL := Lib.hid (show (N k).length = n by rw [HNK.out, changedL_len]; exact HLT.out k hlt)
          clear hM hW
          generalize (P ++ L1).getD k [] = row at *
          generalize cntR M R k = cn at *
          go_wp2_with (first
            | (go_at_call_of 18 (Value.slice a2 len2 cap2); refine HHM.out.mono ?_; rintro e w' ⟨rfl, rfl⟩)
            | (go_at_call_of 18 (Value.slice a3 len3 cap3); refine HHR.out.mono ?_; rintro e w' ⟨rfl, rfl⟩))
          obtain ⟨wo, rfl⟩ : ∃ W : World, W = wr := ⟨_, rfl⟩
          go_loopw [17, 18] (fun v i wr => ∃ j : Nat, j ≤ len4 ∧ i = .int .i64 j ∧ OwI wr wo.heap.size v (plR j k) ∧ Below wo.heap.size wo wr) (fun _ i _ => len4 - (intOf i).toNat)
          case atStart => exact ⟨0, Nat.zero_le _, rfl, OwI.nil _ _, Below.refl _ _⟩
          case round =>
            obtain ⟨j, hj, rfl, ho, hb1⟩ := hrel
            have HO := Lib.hid ho
            have HB1 := Lib.hid hb1
            have hz1 := hb1.size
            clear ho hb1
            by_cases hlj : j < len4
            · skip
              have hmul : 0 ≤ (j : Int) * ((k : Int) + 1) ∧ (j : Int) * ((k : Int) + 1) ≤ 1048576 * 65 := ⟨Int.mul_nonneg (by omega) (by omega), Int.mul_le_mul (by omega) (by omega) (by omega) (by omega)⟩
              have HPS := Lib.hid (plR_succ j k)
              have hpl := plR_len j k
              generalize plR j k = pl at *
              generalize hpr : (j : Int) * ((k : Int) + 1) = pr at *
              go_wp2_with (at_builtin; refine wpList_app1I wr rfl (.tmp 77) (.tmp 82) rfl wo.heap.size _ pl HO.out rfl pr _ rfl (by omega) hz1 ?_; intro v1 w1 ho1 hb2)
              go_roundw
              case rel => first | exact ⟨j + 1, by omega, by go_num, by (rw [HPS.out]; exact ho1), HB1.out.trans hb2⟩ | ((repeat apply Exists.intro); exact ⟨⟨j + 1, by omega, by go_num, by (rw [HPS.out]; exact ho1), HB1.out.trans hb2⟩, rfl⟩)
              case measure => simp [intOf]; omega
            · skip
              obtain rfl : len4 = j := by omega
              obtain ⟨A9, c9, e⟩ := HO.out.form
              rw [plR_len] at e
              subst e
              have hckw2 := (HB1.out.cell (p := ⟨ga, k, none⟩) (by show ga < wo.heap.size; omega)).trans hckw
              have HNI2 := Lib.hid (HNI.out.below HB1.out)
              have HCH := Lib.hid (changed_any Ak' A9 a4 n ck' len4 c9 len4 cap4 row (plR len4 k) V wr ((HRK.out.below HBR.out).below HB1.out) HO.out.rd.1 ((HV4.out.below HBR.out).below HB1.out) (by omega) (by omega) (by omega))
              clear hckw
              go_wp2_with (first
                | (go_at_call 19; refine HCH.out.mono ?_; rintro e w5 ⟨A5, c5, rfl, ho5, hb5⟩; have HNI5 := Lib.hid (HNI2.out.below hb5); have HO5 := Lib.hid ho5; have HB5 := Lib.hid hb5; have hz5 : W4.heap.size ≤ w5.heap.size := (by have := hb5.size; omega); clear ho5 hb5)
                | (at_builtin; refine wpList_app (w5.alloc (.cells #[.slice A5 n c5] 41)) rfl (.tmp 84) (.tmp 92) 22 rfl W4.heap.size 41 (.slice none 0 0) 24 Try.underlying22 infoS rfl _ k xs rfl (own_below HNI5.out.1 (below_new _ _)) (some ⟨w5.heap.size, 0, none⟩) 1 1 [.slice A5 n c5] rfl (RdV.one w5 _ _ rfl) (fun u hu => by rw [List.mem_singleton] at hu; subst hu; rfl) (by unfold maxLen; omega) (by omega) (by rw [World.size_alloc]; omega) ?_; intro v1 w1' ho1 hg1 hat1))
              have hr5 : OwB w5 W4.heap.size (.slice A5 n c5) (N k) := by
                rw [HNK.out, hVl]
                exact own_base HO5.out (by omega)
              have hapt : Apt (.slice A5 n c5) _ := (Apt.fresh HNI2.out.1 HO5.out (Nat.le_refl _)).symm
              have HNW := Lib.hid (HNI5.out.push HNL.out (.inr ⟨hr5, hapt⟩) ho1 hg1 hat1)
              have HBW := Lib.hid (((HBR.out.trans (HB1.out.mono hzr)).trans (HB5.out.mono (by omega))).trans (((below_new w5 _).mono hz5).trans (grown_below hg1 (own_below HNI5.out.1 (below_new _ _)) (by rw [World.size_alloc]; omega))))
              clear ho1 hg1 hat1 hr5 hapt
              go_roundw
              case rel => first | exact ⟨k + 1, _, by omega, by go_num, by (rw [HCN.out]; go_num), HNW.out, HBW.out⟩ | ((repeat apply Exists.intro); exact ⟨⟨k + 1, _, by omega, by go_num, by (rw [HCN.out]; go_num), HNW.out, HBW.out⟩, rfl⟩)
              case measure => simp [intOf]; omega
        · skip
          rw [show hasI R (k : Int) = false from decide_eq_false hW] at HHR
          rw [if_neg hW, Nat.add_zero] at HCN
          have HNK := Lib.hid (show N k = (P ++ L1).getD k [] by rw [← HN.out]; unfold nowR; rw [if_neg hM, if_neg hW])
          have HNL := Lib.hid (show (N k).length = n by rw [HNK.out]; exact HLT.out k hlt)
          clear hM hW
          generalize (P ++ L1).getD k [] = row at *
          generalize cntR M R k = cn at *
          go_wp2_with (first
            | (go_at_call_of 18 (Value.slice a2 len2 cap2); refine HHM.out.mono ?_; rintro e w' ⟨rfl, rfl⟩)
            | (go_at_call_of 18 (Value.slice a3 len3 cap3); refine HHR.out.mono ?_; rintro e w' ⟨rfl, rfl⟩)
            | (at_builtin; refine wpList_app (wr.alloc (.cells #[.slice Ak' n ck'] 41)) rfl (.tmp 96) (.tmp 101) 22 rfl W4.heap.size 41 (.slice none 0 0) 24 Try.underlying22 infoS rfl _ k xs rfl (own_below HNI.out.1 (below_new _ _)) (some ⟨wr.heap.size, 0, none⟩) 1 1 [.slice Ak' n ck'] rfl (RdV.one wr _ _ rfl) (fun u hu => by rw [List.mem_singleton] at hu; subst hu; rfl) (by unfold maxLen; omega) (by omega) (by rw [World.size_alloc]; omega) ?_; intro v1 w1' ho1 hg1 hat1))
          have HNW := Lib.hid (HNI.out.push HNL.out (.inl (by rw [HNK.out]; exact HRK.out)) ho1 hg1 hat1)
          have HBW := Lib.hid (HBR.out.trans (((below_new wr _).mono hzr).trans (grown_below hg1 (own_below HNI.out.1 (below_new _ _)) (by rw [World.size_alloc]; omega))))
          clear ho1 hg1 hat1
          go_roundw
          case rel => first | exact ⟨k + 1, _, by omega, by go_num, by (rw [HCN.out]; rfl), HNW.out, HBW.out⟩ | ((repeat apply Exists.intro); exact ⟨⟨k + 1, _, by omega, by go_num, by (rw [HCN.out]; rfl), HNW.out, HBW.out⟩, rfl⟩)
          case measure => simp [intOf]; omega
      · obtain rfl : r = k := by omega
        obtain ⟨gn, cn', e⟩ := own_form HNI.out.1 (by omega)
        subst e
        have HRN := Lib.hid (show RdM wr (some ⟨gn, 0, none⟩) r (nowL (P ++ L1) M R V r) from HNI.out.rd hbr nowL_len (fun i hi => by rw [nowL_get hi, HN.out]))
        have HB5 := Lib.hid (HB4.out.trans (hbr.mono HB4.out.size))
        have HP5 := Lib.hid (HP4.out.below hbr)
        clear hNI hbr HNI HCN
        obtain ⟨W5, rfl⟩ : ∃ W : World, W = wr := ⟨_, rfl⟩
        by_cases hq : q < cntR M R r
        · skip
          have hd1 : decide ((q : Int) < ((cntR M R r : Nat) : Int)) = true := by simp only [decide_eq_true_eq]; omega
          have hd2 : decide (q < cntR M R r) = true := decide_eq_true hq
          clear hq
          generalize cntR M R r = cn at *
          go_wp2_with (go_at_call 11; refine (extended_any _).mono ?_; rintro e w3 ⟨rfl, hb3⟩)
          go_ret
          exact ⟨rfl, Bw.step HB5.out hb3⟩
        · have hd1 : decide ((q : Int) < ((cntR M R r : Nat) : Int)) = false := by simp only [decide_eq_false_iff_not]; omega
          have hd2 : decide (q < cntR M R r) = false := decide_eq_false hq
          have hc : cntR M R (len0 + q) ≤ q := by rw [hr]; omega
          obtain ⟨f, hpg⟩ := HOK.out.pages (M := M) (Wr := R) (V := V) g1 g2 g3 g5 hc
          rw [hr] at hpg
          have HMK := run_makeMI r (by omega)
          have HRES := Lib.hid (restore_ok (some ⟨gn, 0, none⟩) (some ⟨W5.heap.size, 0, none⟩) r cn' r q n f len0 (by omega) (nowL (P ++ L1) M R V r) (nonZ r) (W5.alloc (.cells (nilsM r) 40)) (HRN.out.below (below_new _ _)) (nils_rd W5 r (by omega)) hpg (nonZ_inc _ _))
          have HC := Lib.hid hc
          clear hq hpg hc
          generalize cntR M R r = cn at *
          go_wp2_with fail
          refine HRES.out.mono ?_
          rintro e w6 ⟨o1, o2, D, G, rfl, hD, hG, hE, hb6⟩
          obtain ⟨hDP, hGn⟩ := HOK.out.restored HC.out (by rw [hr]; exact hE)
          rw [hDP] at hD
          have HGN := Lib.hid hGn
          have F6 := Has.new w6 0 0 24
          have b6 : Below W5.heap.size W5 (w6.alloc (.cells #[.int .i64 0, .int .i64 0] 24)) := Bw.al (Bw.step (below_new W5 _) hb6) _
          have HD6 := Lib.hid (hD.below (below_new w6 (.cells #[.int .i64 0, .int .i64 0] 24)))
          have HG6 := Lib.hid (hG.below (below_new w6 (.cells #[.int .i64 0, .int .i64 0] 24)))
          have HP6 := Lib.hid (HP5.out.below b6)
          have HB6 := Lib.hid (Bw.step HB5.out b6)
          clear hD hG hE hb6 b6 hDP hGn HRES HMK
          obtain ⟨l1, c10, c11, f10, f11⟩ := id F6
          go_wp2
          clear l1 c10 c11 f10 f11 F6 hd1 hd2
          generalize w6.alloc (.cells #[.int .i64 0, .int .i64 0] 24) = W7 at *
          generalize w6.heap.size = f7 at *
          go_loopw [22] (fun i wr => ∃ k : Nat, k ≤ len0 ∧ i = .int .i64 k ∧ wr = W7) (fun i _ => len0 - (intOf i).toNat)
          case atStart => exact ⟨0, Nat.zero_le _, rfl, rfl⟩
          case round =>
            obtain ⟨k, hk, rfl, rfl⟩ := hrel
            by_cases hkl : k < len0
            · skip
              obtain ⟨b4, q4, e0, hb4, hc4⟩ := HG6.out.2 (by omega)
              injection e0 with e0
              injection e0 with e1 e2
              subst e1 e2
              obtain ⟨A4, c4, e4, -⟩ := hc4 k hkl
              rw [HGN.out k hkl, Nat.zero_add] at e4
              replace e4 : wr.cell? ⟨o2, k, none⟩ = some (.slice A4 0 c4) := e4
              clear hc4
              go_wp2
              go_roundw
              case rel => exact ⟨k + 1, by omega, by go_num, by first | trivial | rfl⟩
              case measure => simp [intOf]; omega
            · skip
              obtain rfl : len0 = k := by omega
              go_wp2_with fail
              refine (samePages_eq (some ⟨o1, 0, none⟩) a0 len0 len0 cap0 P wr HD6.out HP6.out (by omega)).mono ?_
              rintro e w8 ⟨rfl, hb8⟩
              have HB8 := Lib.hid (Bw.step HB6.out hb8)
              clear hb8
              go_wp2_with (go_at_call 11; refine (extended_any _).mono ?_; rintro e w9 ⟨rfl, hb9⟩)
              go_ret
              exact ⟨rfl, Bw.step HB8.out hb9⟩
end Go.Proofs.Ytcinfkmekkdhfaa
