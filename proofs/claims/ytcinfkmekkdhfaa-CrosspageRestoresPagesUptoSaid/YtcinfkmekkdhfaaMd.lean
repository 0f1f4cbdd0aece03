/- Texts of this proof, laid together: XRsI, XRsJ, XRsK, XPoG, XPoH, XRsL, XRsM, XRsN, XRsO. -/
import Derived.Test.YtcinfkmekkdhfaaMc
import Derived.Test.YtcinfkmekkdhfaaMb
/- Walks of rs.Encode where it fails; of the reference's WordFault, DataFault, Increasing, Has. -/
namespace Go.Proofs.Ytcinfkmekkdhfaa
open Go.RowKit
set_option linter.unusedVariables false

set_option maxHeartbeats 1000000 in
theorem Encode_bad (A : Option Addr) (n c : Nat) (p : Int) (w : World) (hn : n ≤ 9223372036854775807) (hp : -9223372036854775808 ≤ p ∧ p ≤ 9223372036854775807) (hbad : dF n p ≠ (0, 0)) :
    Calls Try.prog 25 #[.slice A n c, .int .i64 p] w fun e w' => e = .returned (.tuple #[.slice none 0 0, .agg #[.int .i64 (dF n p).1, .int .i64 (dF n p).2]]) ∧ Below w.heap.size w w' := by
  rcases dF_cases n p with ⟨q, _, _, _, _, h⟩ | ⟨h1, h⟩ | ⟨h1, h2, h⟩
  · exact absurd h hbad
  · rw [h]
    clear h hbad
    rcases Int.lt_or_le p 0 with h | h
    all_goals
      first
        | (have d1 : decide (p < 0) = true := by simp only [decide_eq_true_eq]; omega)
        | (have d1 : decide (p < 0) = false := by simp only [decide_eq_false_iff_not]; omega
           have d2 : 32 < p := by omega)
      go_enter Try.func25, Try.ntmps25
      go_wp2_with fail
      refine (rsFault_any _ _ _).mono ?_; rintro e w1 ⟨rfl, rfl⟩
      go_wp2
      exact bodyPost_ret (resF2 rfl rfl ((Has.new w 4 (-2) _).al _)) rfl ⟨rfl, Bw.al (below_new w _) _⟩
  · rw [h]
    clear h hbad
    have d1 : decide (p < 0) = false := by simp only [decide_eq_false_iff_not]; omega
    rcases Nat.eq_zero_or_pos n with h | h
    all_goals
      first
        | (have d2 : ((n : Int) == 0) = true := by rw [beq_iff_eq]; omega
           clear h)
        | (have d2 : ((n : Int) == 0) = false := by rw [beq_eq_false_iff_ne]; omega
           have d3 : 255 - p < n := by omega)
      go_enter Try.func25, Try.ntmps25
      go_wp2_with fail
      refine (rsFault_any _ _ _).mono ?_; rintro e w1 ⟨rfl, rfl⟩
      go_wp2
      exact bodyPost_ret (resF2 rfl rfl ((Has.new w 9 (-1) _).al _)) rfl ⟨rfl, Bw.al (below_new w _) _⟩
theorem inT' {n lo hi : Int} (h : lo ≤ n ∧ n ≤ hi) : inB n lo hi = true := by unfold inB; simp only [decide_eq_true_eq]; exact h
theorem inF' {n lo hi : Int} (h : ¬ (lo ≤ n ∧ n ≤ hi)) : inB n lo hi = false := by unfold inB; simp only [decide_eq_false_iff_not]; exact h
set_option maxHeartbeats 1000000 in
theorem rHas_any (A : Option Addr) (n c : Nat) (l : List Int) (x : Int) (w : World) (hl : RdI w A n l) (hn : n ≤ 9223372036854775807) :
    Calls Try.prog 18 #[.slice A n c, .int .i64 x] w fun e w' => e = .returned (.bool (hasI l x)) ∧ w = w' := by
  have HL := Lib.hid hl
  by_cases h : x ∈ l
  · rw [show hasI l x = true from decide_eq_true h]
    obtain ⟨j, h1, h2, h3⟩ := memI_at h
    rw [hl.1] at h1
    have H2 := Lib.hid h2
    have H3 := Lib.hid h3
    clear hl h h2 h3
    go_enter Try.func18, Try.ntmps18
    go_wp2
    go_loop [5] (fun i => ∃ k : Nat, k ≤ j ∧ i = .int .i64 k) (fun i => n - (intOf i).toNat)
    case atStart => exact ⟨0, Nat.zero_le _, rfl⟩
    case round =>
      obtain ⟨k, hk, rfl⟩ := hrel
      obtain ⟨b, off, rfl, hlb, hcc⟩ := rdI_cell HL.out (i := k) (by omega)
      by_cases hlt : k < j
      · have z0 : (l.getD k 0 == x) = false := by rw [beq_eq_false_iff_ne]; exact H3.out k hlt
        generalize l.getD k 0 = y at *
        go_wp2
        go_round
        case rel => exact ⟨k + 1, by omega, by go_num⟩
        case measure => simp [intOf]; omega
      · obtain rfl : k = j := by omega
        have z0 : (l.getD k 0 == x) = true := by rw [beq_iff_eq]; exact H2.out
        generalize l.getD k 0 = y at *
        go_wp2
        go_ret
        exact ⟨rfl, rfl⟩
  · rw [show hasI l x = false from decide_eq_false h]
    have HB := Lib.hid (fun i (hi : i < n) => not_memI_at h i (by rw [hl.1]; exact hi))
    clear hl h
    go_enter Try.func18, Try.ntmps18
    go_wp2
    go_loop [5] (fun i => ∃ k : Nat, k ≤ n ∧ i = .int .i64 k) (fun i => n - (intOf i).toNat)
    case atStart => exact ⟨0, Nat.zero_le _, rfl⟩
    case round =>
      obtain ⟨k, hk, rfl⟩ := hrel
      by_cases hlt : k < n
      · obtain ⟨b, off, rfl, hlb, hcc⟩ := rdI_cell HL.out (i := k) (by omega)
        have z0 : (l.getD k 0 == x) = false := by rw [beq_eq_false_iff_ne]; exact HB.out k hlt
        generalize l.getD k 0 = y at *
        go_wp2
        go_round
        case rel => exact ⟨k + 1, by omega, by go_num⟩
        case measure => simp [intOf]; omega
      · obtain rfl : k = n := by omega
        go_wp2
        go_ret
        exact ⟨rfl, rfl⟩
end Go.Proofs.Ytcinfkmekkdhfaa
/- Walk of rs.connect: the algorithm of Berlekamp and Massey. -/
namespace Go.Proofs.Ytcinfkmekkdhfaa
open Go.RowKit
set_option linter.unusedVariables false

theorem pcv_one (f g : PS) (n : Nat) : pcv f g 1 n = f 0 * g n := by
  show 0 + (if 0 ≤ n then f 0 * g (n - 0) else 0) = _
  rw [if_pos (Nat.zero_le n), GF.zero_add, Nat.sub_zero]
theorem cf_shift (g : Nat) (B : List GF) : cf (List.replicate g 0 ++ B) = pxn g (cf B) := by
  funext i
  rw [pxn_get]
  unfold cf
  by_cases h : i < g
  · rw [if_pos h]; simp [List.getD, List.getElem?_append, h]
  · rw [if_neg h]; simp [List.getD, List.getElem?_append, h]
theorem next_cf (C B : List GF) (g : Nat) (q : GF) : cf (sumP C (prodP (List.replicate g 0 ++ B) [q])) = nextC (cf C) (cf B) g q := by
  rw [cf_sumP, cf_prodP, cv_const, cf_shift]; rfl
theorem Tr_shift_len {B : List GF} {g n : Nat} (hB : Tr B) (h : degB n (pxn g (cf B))) : B = [] ∨ B.length + g ≤ n := by
  rcases hB with hB | hB
  · exact .inl hB
  · by_cases hn : B = []
    · exact .inl hn
    · right
      have hp : 0 < B.length := List.length_pos_iff.2 hn
      rcases Nat.lt_or_ge (B.length - 1 + g) n with h1 | h1
      · omega
      · have := h _ h1
        rw [pxn_get, if_neg (by omega), Nat.add_sub_cancel] at this
        exact absurd this hB
def BmRel (s : List GF) (w wr : World) (n L g : Nat) (A B : Option Addr) (c d : Nat) (C D : List GF) (b : GF) : Prop :=
  RdB wr A C.length C ∧ RdB wr B D.length D ∧ Tr C ∧ Tr D ∧ BM (cf s) n L (cf C) (cf D) g b ∧ g ≤ n + 1 ∧ D.length ≤ 60 ∧ Below w.heap.size w wr
set_option maxRecDepth 100000 in
set_option maxHeartbeats 4000000 in
theorem connect_any (S : Option Addr) (N cs : Nat) (s : List GF) (w : World) (hs : RdB w S N s) (hN : N ≤ 40) :
    Calls Try.prog 68 #[.slice S N cs] w fun e w' => ∃ A' c' C L, e = .returned (.tuple #[.slice A' (List.length C) c', .int .i64 ((L : Nat) : Int)]) ∧ RdB w' A' (List.length C) C ∧ List.length C ≤ L + 1 ∧ L ≤ N ∧ LF (cf s) N L (cf C) ∧ (∀ l D, LF (cf s) N l D → L ≤ l) ∧ Below w.heap.size w w' := by
  have HS := Lib.hid hs
  clear hs
  have R1 := (RdB.l1 w w.heap.size 1 1 5 rfl rfl).al (.cells #[.int .u8 1] 5)
  have R2 := RdB.l1 (w.alloc (.cells #[.int .u8 1] 5)) (w.heap.size + 1) 1 1 5 (by simp) rfl
  have B2 := Bw.al (below_new w (.cells #[.int .u8 1] 5)) (.cells #[.int .u8 1] 5)
  have c1 : cf [1] = pone := by
    funext i
    cases i with
    | zero => rfl
    | succ i => simp [cf, pone]
  have H0 := Lib.hid (show BmRel s w _ 0 0 1 _ _ 1 1 [1] [1] 1 from ⟨R1, R2, .inr GF.one_ne, .inr GF.one_ne, by rw [c1]; exact BM.start (cf s), Nat.le_refl _, by simp, B2⟩)
  clear R1 R2 B2 c1
  go_enter Try.func68, Try.ntmps68
  go_wp2
  generalize (w.alloc (.cells #[.int .u8 1] 5)).alloc (.cells #[.int .u8 1] 5) = W at *
  go_loopw [4, 5, 6, 7, 8, 23] (fun u v l g b i wr => ∃ (n L gp : Nat) (A B : Option Addr) (c d : Nat) (C D : List GF) (x : GF), n ≤ N ∧ u = .slice A (List.length C) c ∧ v = .slice B (List.length D) d ∧ l = .int .i64 L ∧ g = .int .i64 gp ∧ b = .int .u8 x.z ∧ i = .int .i64 n ∧ BmRel s w wr n L gp A B c d C D x) (fun _ _ _ _ _ i _ => N - (intOf i).toNat)
  case atStart => exact ⟨0, 0, 1, _, _, 1, 1, [1], [1], 1, Nat.zero_le _, rfl, rfl, rfl, rfl, rfl, rfl, H0.out⟩
  case round =>
    obtain ⟨n, L, gp, A1, A2, c1, c2, C, D, x, hn, rfl, rfl, rfl, rfl, rfl, rfl, hR⟩ := hrel
    have HR := Lib.hid hR
    obtain ⟨RC, RD, tC, tD, hbm, hgn, hdl, hbw⟩ := hR
    have hLn := hbm.le
    have hCl : C.length ≤ L + 1 := Tr_len tC hbm.lf.2.1
    have hC1 : 1 ≤ C.length := by
      rcases Nat.eq_zero_or_pos C.length with h | h
      · have h0 := hbm.lf.1
        rw [degB_cf C 0 (by omega)] at h0
        exact absurd h0.symm GF.one_ne
      · exact h
    clear RC RD tC tD
    by_cases hlt : n < N
    · have HBM := Lib.hid hbm
      have HP0 := Lib.hid (show pcv (cf C) (cf s) 1 n = cf s n by rw [pcv_one, hbm.lf.1, GF.one_mul])
      have HPE := Lib.hid (pcv_full (cf C) (cf s) (degB_cf C) n)
      clear hbm
      obtain ⟨bs, os, rfl, hls, hcs⟩ := rd_cell (HS.out.below hbw) (i := n) hlt
      have dn : decide ((n : Int) < N) = true := by simp only [decide_eq_true_eq]; omega
      rw [← HP0.out] at hcs
      go_wp2
      obtain ⟨wo, rfl⟩ : ∃ wo : World, wo = wr := ⟨_, rfl⟩
      go_loopw [10, 11] (fun dv i wr => ∃ k : Nat, 1 ≤ k ∧ k ≤ C.length ∧ i = .int .i64 k ∧ dv = .int .u8 (pcv (cf C) (cf s) k n).z ∧ Below wo.heap.size wo wr) (fun _ i _ => C.length - (intOf i).toNat)
      case atStart => exact ⟨1, Nat.le_refl _, hC1, rfl, rfl, Below.refl _ _⟩
      case round =>
        obtain ⟨k, hk1, hk, rfl, rfl, hbi⟩ := hrel
        by_cases hlk : k < C.length
        · have HP := Lib.hid (show pcv (cf C) (cf s) (k + 1) n = pcv (cf C) (cf s) k n + cf C k * cf s (n - k) by rw [pcv, if_pos (by omega)])
          obtain ⟨b3, o3, rfl, hl3, hc3⟩ := rd_cell (HR.out.1.below hbi) (i := k) hlk
          obtain ⟨b4, o4, hSe, hl4, hc4⟩ := rd_cell (HS.out.below (Bw.step hbw hbi)) (i := n - k) (by omega)
          cases hSe
          have hx3 := fun x => cell_ext hl3 hc3 x
          have hx4 := fun x => cell_ext hl4 hc4 x
          have ws : IntKind.i64.wrap ((n : Int) - k) = ((n - k : Nat) : Int) := by rw [IntWalk.i64_in _ (by omega)]; omega
          have hnk : n - k < N := by omega
          have e1 : decide ((k : Int) ≤ L) = true := by simp only [decide_eq_true_eq]; omega
          have e2 : decide ((k : Int) < C.length) = true := by simp only [decide_eq_true_eq]; omega
          generalize pcv (cf C) (cf s) k n = pv at *
          go_wp2
          (refine wp_region_ext (by kernel_rfl) (by kernel_rfl) ?_; (repeat (go_big_quiet_step ((first | (go_at_call 75; exact ext_same (gMulZ _ _ _)) | (go_at_call 74; exact ext_same (gAddZ _ _ _)))))); refine wpQuiet_nil ?_; intro W5 hw'; have hW5 := ext_below hw'; clear hw')
          clear hx3 hx4 hc3 hc4 ws
          go_wp2
          go_roundw
          case rel => exact ⟨k + 1, by omega, by omega, by go_num, by rw [HP.out], Bw.step hbi hW5⟩
          case measure => simp [intOf]; omega
        · obtain rfl : k = C.length := by omega
          rw [HPE.out]
          have hbw2 := Bw.step hbw hbi
          have RC := HR.out.1.below hbi
          have RD := HR.out.2.1.below hbi
          by_cases hz : cv (cf C) (cf s) n = 0
          · have HK := Lib.hid (show BmRel s w wr (n + 1) L (gp + 1) A1 A2 c1 c2 C D x from ⟨RC, RD, HR.out.2.2.1, HR.out.2.2.2.1, HBM.out.skip hz, by omega, hdl, hbw2⟩)
            rw [hz]
            have z0 : ((0 : GF).z == 0) = true := rfl
            generalize (0 : GF).z = y at *
            clear hz RC RD
            rcases Nat.lt_or_ge L C.length with hq | hq
            all_goals
              first
                | (have e1 : decide ((C.length : Int) ≤ L) = false := by simp only [decide_eq_false_iff_not]; omega)
                | (have e1 : decide ((C.length : Int) ≤ L) = true := by simp only [decide_eq_true_eq]; omega
                   have e2 : decide ((C.length : Int) < C.length) = false := by simp)
              go_wp2
              go_roundw
              case rel => first | exact ⟨n + 1, L, gp + 1, A1, A2, c1, c2, C, D, x, by omega, rfl, rfl, rfl, by go_num, rfl, by go_num, HK.out⟩ | ((repeat apply Exists.intro); exact ⟨⟨n + 1, L, gp + 1, A1, A2, c1, c2, C, D, x, by omega, rfl, rfl, rfl, by go_num, rfl, by go_num, HK.out⟩, rfl⟩)
              case measure => simp [intOf]; omega
          · have z0 : ((cv (cf C) (cf s) n).z == 0) = false := z_ne0 hz
            have HZ := Lib.hid hz
            have HNE := Lib.hid HBM.out.ne
            have tC := Lib.hid HR.out.2.2.1
            have tD := Lib.hid HR.out.2.2.2.1
            have hmk := run_makeB gp (by omega)
            generalize hdd : cv (cf C) (cf s) n = dd at *
            have HDD := Lib.hid hdd
            clear hz hdd
            have e0 : (L < C.length ∧ decide (C.length ≤ L) = false) ∨ (C.length ≤ L ∧ decide (C.length ≤ L) = true) := by
              rcases Nat.lt_or_ge L C.length with h | h
              · exact .inl ⟨h, by simp only [decide_eq_false_iff_not]; omega⟩
              · exact .inr ⟨h, by simp only [decide_eq_true_eq]; omega⟩
            rcases e0 with ⟨e1, e2⟩ | ⟨e1, e2⟩
            all_goals
              go_wp2_with fail
              refine (gDivZ _ _ _ HNE.out).mono ?_; rintro e w3 ⟨rfl, hb3⟩
              have RC3 := (RC.below hb3).al (.cells #[.int .i64 0, .int .i64 0] 24)
              have RD3 := (RD.below hb3).al (.cells #[.int .i64 0, .int .i64 0] 24)
              have BW3 := Bw.al (Bw.step hbw2 hb3) (.cells #[.int .i64 0, .int .i64 0] 24)
              have O3 := OwB.new (w3.alloc (.cells #[.int .i64 0, .int .i64 0] 24)) (w3.alloc (.cells #[.int .i64 0, .int .i64 0] 24)).heap.size gp (Nat.le_refl _) (by unfold maxLen; omega)
              rw [World.size_alloc] at O3
              have hsX : w3.heap.size + 1 ≤ (w3.alloc (.cells #[.int .i64 0, .int .i64 0] 24)).heap.size := by simp
              have HO3 := Lib.hid O3
              clear O3
              go_wp2_with (at_builtin; refine wpList_appB _ rfl (.tmp 65) (.tmp 66) rfl (w3.heap.size + 1) _ (List.replicate gp 0) rfl HO3.out A2 D.length c2 D rfl (RD3.al _) ?_ ?_ ?_; (simp; omega); (simp); intro v4 w4 ho4 hg4 hat4)
              have hbX : Below (w3.alloc (.cells #[.int .i64 0, .int .i64 0] 24)).heap.size (w3.alloc (.cells #[.int .i64 0, .int .i64 0] 24)) w4 := by
                have h1 := grown_below hg4 HO3.out (by simp)
                have h2 := below_new (w3.alloc (.cells #[.int .i64 0, .int .i64 0] 24)) (.cells (zerosB gp) 5)
                rw [World.size_alloc] at h2 ⊢
                exact h2.trans h1
              have RC4 := RC3.below hbX
              have RD4 := RD3.below hbX
              have BW4 := Bw.step BW3 hbX
              obtain ⟨A4, c4, rfl⟩ := ho4.form
              have R4 := ho4.rd.1
              have hl4 : (List.replicate gp (0 : GF) ++ D).length ≤ 200 := by simp; omega
              clear ho4 hg4 hat4 HO3 hbX RC3 hb3
              generalize hq : dd * x.inv = q at *
              have HQ := Lib.hid hq
              clear hq
              go_wp2_with fail
              refine (poMulP_ok _ _ _ _ _ _ (List.replicate gp 0 ++ D) [q] _ (R4.al _) (RdB.l1 _ _ q.z q _ rfl rfl) (by omega) (by omega)).mono ?_
              rintro e w5 ⟨A5, c5, rfl, ho5, hb5⟩
              have R5 := ho5.rd.1
              have RC5 := (RC4.al _).below hb5
              have RD5 := (RD4.al _).below hb5
              have BW5 := Bw.step (Bw.al BW4 _) hb5
              have hl5 : (prodP (List.replicate gp (0 : GF) ++ D) [q]).length ≤ 300 := by have := prodP_le (List.replicate gp (0 : GF) ++ D) [q]; simp only [List.length_singleton] at this; omega
              clear ho5 R4 RC4 hb5
              go_wp2_with fail
              refine (poAddP_ok _ _ _ _ _ _ C (prodP (List.replicate gp 0 ++ D) [q]) _ (RC5.al _) (R5.al _) (by omega) (by omega)).mono ?_
              rintro e w6 ⟨A6, c6, rfl, ho6, hb6⟩
              have R6 := ho6.rd.1.al (.cells #[.int .i64 0, .int .i64 0] 24)
              have RC6 := ((RC5.al _).below hb6).al (.cells #[.int .i64 0, .int .i64 0] 24)
              have RD6 := ((RD5.al _).below hb6).al (.cells #[.int .i64 0, .int .i64 0] 24)
              have BW6 := Bw.al (Bw.step (Bw.al BW5 _) hb6) (.cells #[.int .i64 0, .int .i64 0] 24)
              have tG : Hid (Tr (sumP C (prodP (List.replicate gp 0 ++ D) [q]))) := Lib.hid (Tr_ofF _ _)
              have cG := Lib.hid (next_cf C D gp q)
              clear ho6 hb6 RC5 RD5 R5 BW5 hl5
              generalize sumP C (prodP (List.replicate gp 0 ++ D) [q]) = G at *
              by_cases h2 : 2 * L ≤ n
              · have hsw := HBM.out.swap (by rw [HDD.out]; exact HZ.out) h2
                rw [HDD.out, HQ.out, ← cG.out] at hsw
                have HK := Lib.hid (show BmRel s w _ (n + 1) (n + 1 - L) 1 A6 A1 c6 c1 G C dd from ⟨R6, RC6, tG.out, tC.out, hsw, by omega, by omega, BW6⟩)
                have hcast : (n : Int) + 1 - L = ((n + 1 - L : Nat) : Int) := by omega
                have HCT := Lib.hid hcast
                clear hsw R6 RC6 RD6 hcast
                go_wp2
                go_roundw
                case rel => first | exact ⟨n + 1, n + 1 - L, 1, A6, A1, c6, c1, G, C, dd, by omega, rfl, rfl, by rw [HCT.out], rfl, rfl, by go_num, HK.out⟩ | ((repeat apply Exists.intro); exact ⟨⟨n + 1, n + 1 - L, 1, A6, A1, c6, c1, G, C, dd, by omega, rfl, rfl, by rw [HCT.out], rfl, rfl, by go_num, HK.out⟩, rfl⟩)
                case measure => simp [intOf]; omega
              · have hkp := HBM.out.keep (by rw [HDD.out]; exact HZ.out) h2
                rw [HDD.out, HQ.out, ← cG.out] at hkp
                have HK := Lib.hid (show BmRel s w _ (n + 1) L (gp + 1) A6 A2 c6 c2 G D x from ⟨R6, RD6, tG.out, tD.out, hkp, by omega, hdl, BW6⟩)
                clear hkp R6 RC6 RD6
                go_wp2
                go_roundw
                case rel => first | exact ⟨n + 1, L, gp + 1, A6, A2, c6, c2, G, D, x, by omega, rfl, rfl, rfl, by go_num, rfl, by go_num, HK.out⟩ | ((repeat apply Exists.intro); exact ⟨⟨n + 1, L, gp + 1, A6, A2, c6, c2, G, D, x, by omega, rfl, rfl, rfl, by go_num, rfl, by go_num, HK.out⟩, rfl⟩)
                case measure => simp [intOf]; omega
    · obtain rfl : n = N := by omega
      obtain ⟨RC, RD, tC, tD, hbm', _⟩ := HR.out
      go_wp2
      go_ret2
      exact ⟨A1, c1, C, L, rfl, RC, hCl, hLn, hbm'.lf, hbm'.least, hbw⟩
end Go.Proofs.Ytcinfkmekkdhfaa
/- The plain law of rs.correct: what its numbers are if there is a code word within the bound. -/
namespace Go.Proofs.Ytcinfkmekkdhfaa
set_option linter.unusedVariables false

theorem LF.congr {T T' : PS} {N L : Nat} {C : PS} (h : ∀ i, i < N → T i = T' i) (k : LF T N L C) : LF T' N L C :=
  ⟨k.1, k.2.1, fun n h1 h2 => by rw [← cv_congr n (fun _ _ => rfl) (fun i hi => h i (by omega))]; exact k.2.2 n h1 h2⟩
theorem gpow_add (X : GF) (m k : Nat) : gpow X (m + k) = gpow X m * gpow X k := by
  induction k with
  | zero => show gpow X m = gpow X m * 1; rw [GF.mul_one]
  | succ k ih => show gpow X (m + k) * X = gpow X m * (gpow X k * X); rw [ih, GF.mul_assoc]
theorem cv_geo {X : GF} (hX : X ≠ 0) (k m : Nat) : ∀ f : PS, degB (m + 1) f → cv f (geo X) (m + k) = gpow X m * vH f X.inv (m + 1) * gpow X k := by
  induction m with
  | zero =>
    intro f hf
    rw [Nat.zero_add, vH_succ, vH_zero, GF.zero_mul, GF.zero_add]
    show cv f (geo X) k = 1 * f 0 * gpow X k
    rw [GF.one_mul]
    cases k with
    | zero => rfl
    | succ k =>
      rw [cv_succ, degB_zero (degB_tl hf), cv_pz, GF.add_zero]; rfl
  | succ m ih =>
    intro f hf
    rw [show m + 1 + k = (m + k) + 1 by omega, cv_succ, ih (tl f) (degB_tl hf), vH_succ f]
    show f 0 * gpow X (m + k + 1) + _ = gpow X m * X * _ * _
    have e : gpow X (m + k + 1) = gpow X m * X * gpow X k := by
      rw [show m + k + 1 = m + 1 + k by omega, gpow_add]; rfl
    rw [e]
    generalize vH (tl f) X.inv (m + 1) = v
    generalize gpow X m = a
    generalize gpow X k = b
    have e2 : a * X * (v * X.inv + f 0) = a * v + a * X * f 0 := by
      rw [GF.mul_add]
      congr 1
      rw [GF.mul_assoc, GF.mul_left_comm X, GF.mul_inv hX, GF.mul_one]
    rw [e2, GF.add_mul, GF.add_comm]
    congr 1
    rw [GF.mul_comm (f 0), GF.mul_assoc, GF.mul_assoc, GF.mul_assoc, GF.mul_assoc, GF.mul_comm b]
def wgt (f : PS) (m : Nat) (q : GF × GF) : GF × GF := (q.1, q.2 * (gpow q.1 m * vH f q.1.inv (m + 1)))
theorem cv_ser {f : PS} {m : Nat} (hf : degB (m + 1) f) (k : Nat) (t : List (GF × GF)) (hne : ∀ q ∈ t, q.1 ≠ 0) : cv f (ser t) (m + k) = ser (t.map (wgt f m)) k := by
  induction t with
  | nil => exact cv_pz_right f _
  | cons q t ih =>
    show cv f (padd (psc q.2 (geo q.1)) (ser t)) (m + k) = q.2 * (gpow q.1 m * vH f q.1.inv (m + 1)) * gpow q.1 k + ser (t.map (wgt f m)) k
    rw [cv_add_right, cv_sc_right, cv_geo (hne q (List.mem_cons_self ..)) k m f hf, ih fun q hq => hne q (List.mem_cons_of_mem _ hq)]
    congr 1
    simp only [GF.mul_assoc]
theorem ser_null {t : List (GF × GF)} (h : ∀ q ∈ t, q.2 = 0) (k : Nat) : ser t k = 0 := by
  induction t with
  | nil => rfl
  | cons q t ih =>
    rw [ser_cons, h q (List.mem_cons_self ..), GF.zero_mul, GF.zero_add, ih fun q hq => h q (List.mem_cons_of_mem _ hq)]

/-- What rs.correct has found when it has connected its sequence. -/
structure Dec (w : List GF) (p : Nat) (er : List Nat) (g T C : List GF) (L : Nat) : Prop where
  n : w.length ≤ 255
  nd : er.Nodup
  lt : ∀ i ∈ er, i < w.length
  f : er.length ≤ p
  hg : cf g = lam (er.map (loc w.length))
  hT : ∀ k, k < p - er.length → cf T k = cv (cf g) (cf (syndL w p)) (er.length + k)
  lf : LF (cf T) (p - er.length) L (cf C)
  least : ∀ l D, LF (cf T) (p - er.length) l D → L ≤ l

/-- The errors, as pairs of locator and value. -/
abbrev errs (w c : List GF) (K : List Nat) : List (GF × GF) := prs (addW w c) K
theorem errs_synd {w c : List GF} {p : Nat} {er : List Nat} (hnd : er.Nodup) (hlt : ∀ i ∈ er, i < w.length) (hc : Within p w er c) {j : Nat} (hj : j < p) : cf (syndL w p) j = ser (errs w c (er ++ wrongs w c er)) j := by
  have h1 : cf (syndL w p) j = synd w j := syndL_get w hj
  have h2 : synd (addW w c) j = synd w j := by rw [synd_add _ _ hc.1.symm, hc.2.1 j hj, GF.add_zero]
  rw [h1, ← h2]
  refine synd_places _ _ ?_ ?_ ?_ j
  · rw [List.nodup_append]
    exact ⟨hnd, wrongs_nodup _ _ _, fun a ha b hb e => (mem_wrongs.1 hb).2.2 (e ▸ ha)⟩
  · intro i hi
    rw [addW_len]
    rcases List.mem_append.1 hi with h | h
    · exact hlt i h
    · exact (mem_wrongs.1 h).1
  · intro i hi hn
    rw [addW_len] at hi
    rw [addW_get _ _ hi]
    by_cases e : w.getD i 0 = c.getD i 0
    · rw [e, GF.add_self]
    · exact absurd (List.mem_append_right er (mem_wrongs.2 ⟨hi, e, fun h => hn (List.mem_append_left _ h)⟩)) hn
theorem prs_ne (l : List GF) (K : List Nat) : ∀ q ∈ prs l K, q.1 ≠ 0 := by
  intro q hq
  obtain ⟨i, _, rfl⟩ := List.mem_map.1 hq
  exact loc_ne _ _
theorem loc_mem {n : Nat} (hn : n ≤ 255) {K : List Nat} (hK : ∀ i ∈ K, i < n) {i : Nat} (hi : i < n) : loc n i ∈ K.map (loc n) ↔ i ∈ K := by
  constructor
  · intro h
    obtain ⟨j, hj, e⟩ := List.mem_map.1 h
    rw [← loc_inj hn (hK j hj) hi e]; exact hj
  · intro h; exact List.mem_map.2 ⟨i, h, rfl⟩
theorem wgt_fst (f : PS) (m : Nat) (t : List (GF × GF)) : (t.map (wgt f m)).map Prod.fst = t.map Prod.fst := by
  rw [List.map_map]; rfl
theorem wrongs_lt {w c : List GF} {er : List Nat} : ∀ i ∈ wrongs w c er, i < w.length := fun i hi => (mem_wrongs.1 hi).1
theorem Dec.found {w : List GF} {p : Nat} {er : List Nat} {g T C : List GF} {L : Nat} (h : Dec w p er g T C L) {c : List GF} (hc : Within p w er c) :
    L = (wrongs w c er).length ∧ cf C = lam ((wrongs w c er).map (loc w.length)) := by
  have hl : (addW w c).length = w.length := addW_len w c
  have hdg : degB (er.length + 1) (cf g) := by rw [h.hg]; have := degB_lam (er.map (loc w.length)); rwa [List.length_map] at this
  have hval : ∀ i, vH (cf g) (loc w.length i).inv (er.length + 1) = plv (er.map (loc w.length)) (loc w.length i).inv := fun i => by
    rw [h.hg]; have := vH_lam (er.map (loc w.length)) (loc w.length i).inv; rwa [List.length_map] at this
  -- the sequence is a sum of powers
  have hT : ∀ k, k < p - er.length → cf T k = ser ((errs w c (wrongs w c er)).map (wgt (cf g) er.length)) k := by
    intro k hk
    rw [h.hT k hk, cv_congr (er.length + k) (f' := cf g) (g' := ser (errs w c (er ++ wrongs w c er))) (fun _ _ => rfl) (fun i hi => errs_synd h.nd h.lt hc (by omega)), cv_ser hdg k _ (prs_ne _ _)]
    have e : prs (addW w c) (er ++ wrongs w c er) = errs w c er ++ errs w c (wrongs w c er) := List.map_append ..
    rw [e, List.map_append, ser_append]
    show _ + _ = _
    rw [ser_null, GF.zero_add]
    intro q hq
    obtain ⟨q', hq', rfl⟩ := List.mem_map.1 hq
    obtain ⟨i, hi, rfl⟩ := List.mem_map.1 hq'
    show _ * (gpow _ _ * vH (cf g) (loc (addW w c).length i).inv (er.length + 1)) = 0
    rw [hl, hval, plv_zero (loc_ne _ _) (List.mem_map.2 ⟨i, hi, rfl⟩), GF.mul_zero, GF.mul_zero]
  have hfst : ((errs w c (wrongs w c er)).map (wgt (cf g) er.length)).map Prod.fst = (wrongs w c er).map (loc w.length) := by
    rw [wgt_fst, prs_fst, hl]
  have hlen : ((errs w c (wrongs w c er)).map (wgt (cf g) er.length)).length = (wrongs w c er).length := by
    rw [List.length_map, prs_len]
  have hu := lf_unique (t := (errs w c (wrongs w c er)).map (wgt (cf g) er.length)) (N := p - er.length) (L := L) (C := cf C)
    (by rw [hfst]; exact locs_nodup h.n (wrongs_nodup _ _ _) wrongs_lt)
    (by
      intro q hq
      obtain ⟨q', hq', rfl⟩ := List.mem_map.1 hq
      obtain ⟨i, hi, rfl⟩ := List.mem_map.1 hq'
      obtain ⟨h1, h2, h3⟩ := mem_wrongs.1 hi
      refine ⟨loc_ne _ _, ?_⟩
      show (addW w c).getD i 0 * (gpow (loc (addW w c).length i) er.length * vH (cf g) (loc (addW w c).length i).inv (er.length + 1)) ≠ 0
      rw [hl, hval, addW_get _ _ h1]
      intro e
      rcases GF.mul_eq_zero e with e | e
      · exact h2 (GF.eq_of_add e)
      · rcases GF.mul_eq_zero e with e | e
        · unfold loc at e; rw [gpow_exp] at e; exact GF.exp_ne _ e
        · exact plv_ne (loc_ne _ _) (fun hm => h3 ((loc_mem h.n h.lt h1).1 hm)) e)
    (by rw [hlen]; have := hc.2.2; omega)
    (h.lf.congr hT) (fun l D hD => h.least l D (hD.congr fun i hi => (hT i hi).symm))
  rw [hlen, hfst] at hu
  exact hu
/-- The places that are found. -/
def plc (w : List GF) (er : List Nat) (C : List GF) : List Nat := (List.range w.length).filter fun i => decide (valL C (GF.exp ((i : Int) + 1 - (w.length : Nat))) = 0) && decide (i ∉ er)
theorem loc_inv (n i : Nat) : GF.exp ((i : Int) + 1 - n) = (loc n i).inv := by
  unfold loc; rw [← GF.exp_neg]; congr 1; omega
theorem Dec.places {w : List GF} {p : Nat} {er : List Nat} {g T C : List GF} {L : Nat} (h : Dec w p er g T C L) {c : List GF} (hc : Within p w er c) : plc w er C = wrongs w c er := by
  obtain ⟨hL, hC⟩ := h.found hc
  unfold plc
  have hv : ∀ z, valL C z = plv ((wrongs w c er).map (loc w.length)) z := fun z => by
    rw [valL_of z hC (degB_lam _), vH_lam]
  have e : wrongs w c er = (List.range w.length).filter fun i => decide (i ∈ wrongs w c er) := by
    unfold wrongs
    apply List.filter_congr
    intro i hi
    rw [← Bool.decide_and]
    rw [decide_eq_decide]
    show _ ↔ i ∈ wrongs w c er
    rw [mem_wrongs]
    have := List.mem_range.1 hi
    simp [this]
  conv => rhs; rw [e]
  apply List.filter_congr
  intro i hi
  have hi' := List.mem_range.1 hi
  rw [← Bool.decide_and, decide_eq_decide, loc_inv, hv]
  constructor
  · intro ⟨h1, h2⟩
    have : loc w.length i ∈ (wrongs w c er).map (loc w.length) := Classical.byContradiction fun hn => plv_ne (loc_ne _ _) hn h1
    exact (loc_mem h.n wrongs_lt hi').1 this
  · intro hm
    exact ⟨plv_zero (loc_ne _ _) (List.mem_map.2 ⟨i, hm, rfl⟩), (mem_wrongs.1 hm).2.2⟩
theorem plc_nodup (w : List GF) (er : List Nat) (C : List GF) : (plc w er C).Nodup := nodup_filter _ List.nodup_range
theorem mem_plc {w : List GF} {er : List Nat} {C : List GF} {i : Nat} (h : i ∈ plc w er C) : i < w.length ∧ i ∉ er := by
  unfold plc at h
  simp only [List.mem_filter, List.mem_range, Bool.and_eq_true, decide_eq_true_eq] at h
  exact ⟨h.1, h.2.2⟩
theorem all_nodup {w : List GF} {er : List Nat} (C : List GF) (hnd : er.Nodup) : (er ++ plc w er C).Nodup := by
  rw [List.nodup_append]
  exact ⟨hnd, plc_nodup _ _ _, fun a ha b hb e => (mem_plc hb).2 (e ▸ ha)⟩
/-- The value that is added at a place. -/
def fixV (n : Nat) (M D : List GF) (i : Nat) : GF := valL M (GF.exp ((i : Int) + 1 - n)) * (valL D (GF.exp ((i : Int) + 1 - n))).inv * loc n i
theorem Dec.values {w : List GF} {p : Nat} {er : List Nat} {g T C : List GF} {L : Nat} (h : Dec w p er g T C L) {c : List GF} (hc : Within p w er c)
    {A M D : List GF} (hA : cf A = cv (cf C) (cf g)) (hM : ∀ j, cf M j = if j < p then cv (cf A) (cf (syndL w p)) j else 0) (hD : cf D = dvS (cf A)) :
    ∀ i ∈ er ++ plc w er C, valL D (GF.exp ((i : Int) + 1 - w.length)) ≠ 0 ∧ fixV w.length M D i = w.getD i 0 + c.getD i 0 := by
  rw [h.places hc]
  intro i hi
  have hl : (addW w c).length = w.length := addW_len w c
  have hlt : ∀ i ∈ er ++ wrongs w c er, i < w.length := fun i hi => (List.mem_append.1 hi).elim (h.lt i) (wrongs_lt i)
  have hnd : (er ++ wrongs w c er).Nodup := by
    rw [List.nodup_append]
    exact ⟨h.nd, wrongs_nodup _ _ _, fun a ha b hb e => (mem_wrongs.1 hb).2.2 (e ▸ ha)⟩
  have hAl : cf A = lam ((errs w c (er ++ wrongs w c er)).map Prod.fst) := by
    rw [hA, (h.found hc).2, h.hg, prs_fst, hl, List.map_append, lam_append, cv_comm']
  have hMo : cf M = om (errs w c (er ++ wrongs w c er)) := by
    funext j
    rw [hM]
    by_cases hj : j < p
    · rw [if_pos hj, ← lam_ser, ← hAl]
      exact cv_congr j (fun _ _ => rfl) fun i hi => errs_synd h.nd h.lt hc (by omega)
    · rw [if_neg hj]
      refine (degB_om _ j ?_).symm
      rw [prs_len, List.length_append]
      have := hc.2.2
      omega
  have hf := forney (t := errs w c (er ++ wrongs w c er)) (by rw [prs_fst, hl]; exact locs_nodup h.n hnd hlt) (prs_ne _ _) (loc w.length i, (addW w c).getD i 0) (List.mem_map.2 ⟨i, hi, by rw [hl]⟩)
  have v1 : valL M (GF.exp ((i : Int) + 1 - w.length)) = omv (errs w c (er ++ wrongs w c er)) (loc w.length i).inv := by
    rw [loc_inv, valL_of _ hMo (degB_om _), vH_om]
  have v2 : valL D (GF.exp ((i : Int) + 1 - w.length)) = dlv ((errs w c (er ++ wrongs w c er)).map Prod.fst) (loc w.length i).inv := by
    rw [loc_inv, valL_of _ (show cf D = dvS (lam ((errs w c (er ++ wrongs w c er)).map Prod.fst)) by rw [hD, hAl]) (degB_dvS (degB_lam _)), vH_dlam]
  unfold fixV
  rw [v1, v2]
  obtain ⟨f1, f2⟩ := hf
  refine ⟨f2, ?_⟩
  rw [← addW_get _ _ (hlt i hi)]
  generalize omv (errs w c (er ++ wrongs w c er)) (loc w.length i).inv = a at *
  generalize dlv ((errs w c (er ++ wrongs w c er)).map Prod.fst) (loc w.length i).inv = d at *
  have : a * loc w.length i = (addW w c).getD i 0 * d := f1
  rw [GF.mul_assoc, GF.mul_comm d.inv, ← GF.mul_assoc, this, GF.mul_assoc, GF.mul_inv f2, GF.mul_one]
/-- The word with some places mended. -/
def outAt (w : List GF) (q : Nat → GF) (S : List Nat) : List GF := (List.range w.length).map fun i => if i ∈ S then w.getD i 0 + q i else w.getD i 0
theorem outAt_len (w : List GF) (q : Nat → GF) (S : List Nat) : (outAt w q S).length = w.length := by simp [outAt]
theorem outAt_get (w : List GF) (q : Nat → GF) (S : List Nat) {i : Nat} (hi : i < w.length) : (outAt w q S).getD i 0 = if i ∈ S then w.getD i 0 + q i else w.getD i 0 := by simp [outAt, List.getD, hi]
theorem outAt_nil (w : List GF) (q : Nat → GF) : outAt w q [] = w :=
  eq_of_getD (outAt_len _ _ _) fun i hi => by rw [outAt_len] at hi; rw [outAt_get _ _ _ hi, if_neg (by simp)]
theorem outAt_step (w : List GF) (q : Nat → GF) (S : List Nat) {i : Nat} (hi : i < w.length) (hS : i ∉ S) : (outAt w q S).set i ((outAt w q S).getD i 0 + q i) = outAt w q (S ++ [i]) := by
  refine eq_of_getD (by rw [List.length_set, outAt_len, outAt_len]) fun j hj => ?_
  rw [List.length_set, outAt_len] at hj
  rw [outAt_get _ _ _ hj]
  by_cases e : j = i
  · subst e
    rw [getD_set_self (by rw [outAt_len]; exact hj) _, outAt_get _ _ _ hj, if_neg hS, if_pos (by simp)]
  · rw [getD_set_other (Ne.symm e) _, outAt_get _ _ _ hj]
    simp [e]
theorem Dec.out {w : List GF} {p : Nat} {er : List Nat} {g T C : List GF} {L : Nat} (h : Dec w p er g T C L) {c : List GF} (hc : Within p w er c) {q : Nat → GF}
    (hq : ∀ i ∈ er ++ plc w er C, q i = w.getD i 0 + c.getD i 0) : outAt w q (er ++ plc w er C) = c := by
  refine eq_of_getD (by rw [outAt_len, hc.1]) fun i hi => ?_
  rw [outAt_len] at hi
  rw [outAt_get _ _ _ hi]
  by_cases hm : i ∈ er ++ plc w er C
  · rw [if_pos hm, hq i hm, ← GF.add_assoc, GF.add_self, GF.zero_add]
  · rw [if_neg hm]
    rw [h.places hc] at hm
    apply Classical.byContradiction
    intro e
    exact hm (List.mem_append_right _ (mem_wrongs.2 ⟨hi, e, fun he => hm (List.mem_append_left _ he)⟩))
/-- What the last check gives. -/
theorem out_within {w : List GF} {p : Nat} {er : List Nat} {C : List GF} {L : Nat} (hf : er.length ≤ p) (h2 : 2 * L ≤ p - er.length) (hl : (er ++ plc w er C).length = er.length + L) (q : Nat → GF)
    (hcw : isCW p (outAt w q (er ++ plc w er C))) : Within p w er (outAt w q (er ++ plc w er C)) := by
  refine ⟨outAt_len _ _ _, hcw, ?_⟩
  have hs : (wrongs w (outAt w q (er ++ plc w er C)) er).length ≤ (plc w er C).length := by
    apply List.Nodup.length_le_of_subset (wrongs_nodup _ _ _)
    intro i hi
    obtain ⟨h1, h2, h3⟩ := mem_wrongs.1 hi
    rw [outAt_get _ _ _ h1] at h2
    by_cases hm : i ∈ er ++ plc w er C
    · exact (List.mem_append.1 hm).resolve_left h3
    · rw [if_neg hm] at h2; exact absurd rfl h2
  rw [List.length_append] at hl
  omega
end Go.Proofs.Ytcinfkmekkdhfaa
/- The walks of the statements PolyMatchesSpec and PolyValuesMultiply. -/
namespace Go.Proofs.Ytcinfkmekkdhfaa
open Go.RowKit
set_option linter.unusedVariables false

theorem IsRow.bytes2 {w : World} {a : Option Addr} {len cap : Nat} {zs : List Int} (h : IsRow .u8 w a len cap zs) : ∃ l : List GF, RdB w a len l ∧ len ≤ 9223372036854775807 ∧ len ≤ cap := by
  obtain ⟨l, h1, h2⟩ := h.bytes
  refine ⟨l, h1, h2, ?_⟩
  rcases h with ⟨_, h3, h4, _⟩ | ⟨_, _, h3, _⟩ <;> omega
theorem lC_ne {n m : Nat} (h : ¬ (n ≤ 512 ∧ m ≤ 512)) : (lC n m != 0) = true := by rw [lC_bad h]; rfl
end Go.Proofs.Ytcinfkmekkdhfaa
/- Walks of the package poly: Derive and Roots. -/
namespace Go.Proofs.Ytcinfkmekkdhfaa
open Go.RowKit
set_option linter.unusedVariables false

theorem Has.far {w : World} {b : Nat} {c i : Int} (h : Has w b c i) {p : Addr} (hp : p.block ≠ b) (u : Value) : Has (w.setCell p u) b c i := by
  obtain ⟨l, c0, c1, f0, f1⟩ := h
  refine ⟨by simpa [World.setCell] using l, ?_, ?_, by simpa using f0, by simpa using f1⟩
  · rw [World.cell?_setCell_other _ _ _ _ (by intro e; apply hp; rw [e])]; exact c0
  · rw [World.cell?_setCell_other _ _ _ _ (by intro e; apply hp; rw [e])]; exact c1
theorem Has.under {w w' : World} {b B : Nat} {c i : Int} (h : Has w b c i) (hb : Below B w w') (hB : b < B) : Has w' b c i := by
  obtain ⟨h1, h2, h3, h4, h5⟩ := h
  exact ⟨Nat.lt_of_lt_of_le h1 hb.size, (hb.cell (p := ⟨b, 0, none⟩) hB).trans h2, (hb.cell (p := ⟨b, 1, none⟩) hB).trans h3, (hb.frozen (p := ⟨b, 0, none⟩) hB).trans h4, (hb.frozen (p := ⟨b, 1, none⟩) hB).trans h5⟩
/-- The derivative as far as it was computed: the coefficients below k. -/
def drMid (a : List GF) (k : Nat) : List GF := (List.range (a.length - 1)).map fun i => if i < k then dvS (cf a) i else 0
theorem drMid_len (a : List GF) (k : Nat) : (drMid a k).length = a.length - 1 := by simp [drMid]
theorem drMid_get (a : List GF) (k : Nat) {i : Nat} (hi : i < a.length - 1) : (drMid a k).getD i 0 = if i < k then dvS (cf a) i else 0 := by simp [drMid, List.getD, hi]
theorem drMid_zero (a : List GF) : drMid a 0 = List.replicate (a.length - 1) 0 := by
  refine list_eq_getD (by rw [drMid_len, List.length_replicate]) fun i hi => ?_
  rw [drMid_len] at hi
  rw [drMid_get _ _ hi, if_neg (by omega)]; simp [List.getD, hi]
theorem drMid_step (a : List GF) {k : Nat} (hk : k < a.length - 1) (he : k % 2 = 0) : (drMid a k).set k (cf a (k + 1)) = drMid a (k + 2) := by
  refine list_eq_getD (by rw [List.length_set, drMid_len, drMid_len]) fun i hi => ?_
  rw [List.length_set, drMid_len] at hi
  rw [drMid_get _ _ hi]
  by_cases e : k = i
  · subst e
    rw [if_pos (by omega)]
    unfold dvS; rw [if_pos he]
    simp [List.getD, drMid_len, hk]
  · have h1 : ((drMid a k).set k (cf a (k + 1))).getD i 0 = (drMid a k).getD i 0 := by simp [List.getD, e]
    rw [h1, drMid_get _ _ hi]
    by_cases h2 : i < k
    · rw [if_pos h2, if_pos (by omega)]
    · rw [if_neg h2]
      by_cases h3 : i = k + 1
      · rw [if_pos (by omega)]; unfold dvS; rw [if_neg (by omega)]
      · rw [if_neg (by omega)]
theorem drMid_end (a : List GF) {k : Nat} (hk : a.length - 1 ≤ k) : trimL (drMid a k) = derP a := by
  refine trim_ofF (degB_der a) fun i => ?_
  show (drMid a k).getD i 0 = _
  by_cases hi : i < a.length - 1
  · rw [drMid_get _ _ hi, if_pos (by omega)]
  · rw [degB_der a i (by omega)]; simp [List.getD, drMid, hi]
set_option maxRecDepth 100000 in
set_option maxHeartbeats 2000000 in
theorem poDeriveP_ok (A : Option Addr) (n c : Nat) (a : List GF) (w : World) (ha : RdB w A n a) (hn : n ≤ 512) :
    Calls Try.prog 72 #[.slice A n c] w fun e w' => ∃ A' c', e = .returned (.tuple #[.slice A' (derP a).length c', .agg #[.int .i64 0, .int .i64 0]]) ∧ OwB w' w.heap.size (.slice A' (derP a).length c') (derP a) ∧ Below w.heap.size w w' := by
  have la := ha.1
  subst la
  have HA := Lib.hid ha
  clear ha
  obtain ⟨N, hN⟩ : ∃ N, N = a.length - 1 := ⟨_, rfl⟩
  have HN := Lib.hid hN
  have hN5 : N ≤ 512 := by omega
  have hmk := run_makeB N (by omega)
  have hmax : (if (a.length : Int) - 1 < 0 then (0 : Int) else (a.length : Int) - 1) = (N : Int) := by split <;> omega
  rcases Nat.eq_zero_or_pos a.length with h0 | h0
  all_goals
    first
      | (have h9 : (N : Int) = 0 := by omega
         rw [h9] at hmk
         have hlt : (a.length : Int) - 1 < 0 := by omega)
      | (have h9 : (N : Int) = (a.length : Int) - 1 := by omega
         rw [h9] at hmk
         have hlt : 0 ≤ (a.length : Int) - 1 := by omega)
    clear hN h9 hmax h0
    go_enter Try.func72, Try.ntmps72
    go_wp2_with fail
    refine (chk1 (w.alloc _) _ A a.length c _ (by simp) (by omega)).mono ?_
    rw [(lC_ok hn (Nat.zero_le _)).1, (lC_ok hn (Nat.zero_le _)).2]
    rintro e w1 ⟨rfl, hb1⟩
    have F0 := (Has.new w 0 0 24).below hb1
    have B1 := Bw.step (below_new w (.cells #[.int .i64 0, .int .i64 0] 24)) hb1
    have hs1 := F0.1
    have F1 := Lib.hid ((F0.al (.cells #[.int .i64 0, .int .i64 0] 24)).al (.cells (zerosB N) 5))
    have B2 := Lib.hid (Bw.al (Bw.al B1 (.cells #[.int .i64 0, .int .i64 0] 24)) (.cells (zerosB N) 5))
    have O1 := OwB.new (w1.alloc (.cells #[.int .i64 0, .int .i64 0] 24)) w.heap.size N (by simp; omega) (by unfold maxLen; omega)
    rw [World.size_alloc] at O1
    have HO1 := Lib.hid O1
    have hg : w.heap.size < w1.heap.size + 1 := by omega
    clear O1 F0 B1 hb1
    go_wp2
    generalize (w1.alloc (.cells #[.int .i64 0, .int .i64 0] 24)).alloc (.cells (zerosB N) 5) = W at *
    generalize w1.heap.size + 1 = g at *
    generalize w1.heap.size = s1 at *
    clear hmk hlt hs1
    go_loopw [6] (fun i wr => ∃ k : Nat, k % 2 = 0 ∧ k ≤ N + 1 ∧ i = .int .i64 k ∧ OwB wr w.heap.size (.slice (some ⟨g, 0, none⟩) N N) (drMid a k) ∧ Has wr w.heap.size 0 0 ∧ Below w.heap.size w wr) (fun i _ => N + 2 - (intOf i).toNat)
    case atStart => exact ⟨0, rfl, Nat.zero_le _, rfl, by rw [drMid_zero, ← HN.out]; exact HO1.out, F1.out, B2.out⟩
    case round =>
      obtain ⟨k, hev, hk, rfl, ho, hF, hbw⟩ := hrel
      by_cases hlt : k < N
      · have hcell := ho.cellAt (i := k) hlt
        have hfz := ho.frozenAt k
        have hst := ho.set k (cf a (k + 1))
        rw [drMid_step a (by rw [← HN.out]; exact hlt) hev] at hst
        have HST := Lib.hid hst
        have HLT := Lib.hid ho.lt
        have hN2 := HN.out
        obtain ⟨ba, oa, rfl, hla, hca⟩ := rd_cell (HA.out.below hbw) (i := k + 1) (by omega)
        have hne : g ≠ w.heap.size := by omega
        have HV := Lib.hid hev
        clear ho hst hev
        generalize cf a (k + 1) = y at *
        go_wp2
        go_roundw
        case rel => exact ⟨k + 2, by have := HV.out; omega, by omega, by go_num, HST.out, hF.far hne _, Bw.set hbw HLT.out.1 _⟩
        case measure => simp [intOf]; omega
      · have HT := Lib.hid (poTrim_any _ _ _ _ _ ho.rd.1 (Nat.le_refl _) (by omega))
        rw [drMid_end a (k := k) (by rw [← HN.out]; omega)] at HT
        clear ho hev
        go_wp2_with fail
        refine HT.out.mono ?_
        rintro e w3 ⟨A3, c3, rfl, ho3, hb3⟩
        have F3 := hF.below hb3
        have B3 := Bw.step hbw hb3
        obtain ⟨l0, c00, c01, f00, f01⟩ := id F3
        have hl := hF.1
        go_wp2
        exact bodyPost_ret (resF2 rfl rfl (F3.set2 0 0)) rfl ⟨A3, c3, rfl, own_base ((ho3.low (p := ⟨w.heap.size, 0, none⟩) hl _).low (p := ⟨w.heap.size, 1, none⟩) hl _) (Nat.le_of_lt hl), Bw.set (Bw.set B3 (Nat.le_refl _) _) (Nat.le_refl _) _⟩
set_option maxHeartbeats 1000000 in
theorem poDeriveP_bad (A : Option Addr) (n c : Nat) (w : World) (hn : n ≤ 9223372036854775807) (hbad : ¬ n ≤ 512) :
    Calls Try.prog 72 #[.slice A n c] w fun e w' => e = .returned (.tuple #[.slice none 0 0, .agg #[.int .i64 3, .int .i64 (lI n 0)]]) ∧ Below w.heap.size w w' := by
  have HC := Lib.hid (lC_bad (n := n) (m := 0) (fun h => hbad h.1))
  clear hbad
  generalize hx : lI n 0 = x
  have HX := Lib.hid hx
  clear hx
  go_enter Try.func72, Try.ntmps72
  go_wp2_with fail
  refine (chk1 (w.alloc _) _ A n c _ (by simp) hn).mono ?_
  rw [HC.out, HX.out]
  rintro e w1 ⟨rfl, hb1⟩
  have F0 := (Has.new w 0 0 24).below hb1
  have B1 := Bw.step (below_new w (.cells #[.int .i64 0, .int .i64 0] 24)) hb1
  have F1 := F0.al (.cells #[.int .i64 3, .int .i64 x] 24)
  have F6 := Has.new w1 3 x 24
  have B2 := Bw.al B1 (.cells #[.int .i64 3, .int .i64 x] 24)
  obtain ⟨l0, c00, c01, f00, f01⟩ := id F1
  obtain ⟨l6, c60, c61, f60, f61⟩ := id F6
  go_wp2
  go_region
  all_goals
    go_wp2
    exact bodyPost_ret (resF2 rfl rfl (F1.set2 3 x)) rfl ⟨rfl, Bw.drew (Bw.set (Bw.set B2 (Nat.le_refl _) _) (Nat.le_refl _) _)⟩
end Go.Proofs.Ytcinfkmekkdhfaa
/- Walk of rs.correct. -/
namespace Go.Proofs.Ytcinfkmekkdhfaa
open Go.RowKit
set_option linter.unusedVariables false

/-- A variable that holds a value. -/
def Bx (w : World) (g : Nat) (v : Value) : Prop := g < w.heap.size ∧ w.cell? ⟨g, 0, none⟩ = some v
theorem Bx.below {w w' : World} {g : Nat} {v : Value} (h : Bx w g v) (hb : Below w.heap.size w w') : Bx w' g v :=
  ⟨Nat.lt_of_lt_of_le h.1 hb.size, (hb.cell (p := ⟨g, 0, none⟩) h.1).trans h.2⟩
theorem Bx.new (w : World) (v : Value) (t : TypeId) : Bx (w.alloc (.cells #[v] t)) w.heap.size v := ⟨by simp, by simp [go_sem]⟩
set_option maxHeartbeats 1000000 in
theorem locator_any (i : Nat) (g n c : Nat) (A : Option Addr) (w : World) (hb : Bx w g (.slice A n c)) (hn : n ≤ 255) (hi : i < n) :
    Calls Try.prog 67 #[.int .i64 i, .pointer (some ⟨g, 0, none⟩)] w fun e w' => e = .returned (.int .u8 (loc n i).z) ∧ w = w' := by
  obtain ⟨h1, h2⟩ := hb
  have HX := Lib.hid (fun w => gExpZ ((n : Int) - 1 - i) w)
  rw [show GF.exp ((n : Int) - 1 - i) = loc n i from rfl] at HX
  generalize loc n i = y at *
  go_enter Try.func67, Try.ntmps67
  go_wp2_with (go_at_call 38; refine (HX.out _).mono ?_; rintro e w' ⟨rfl, rfl⟩)
  go_ret
  exact ⟨rfl, rfl⟩
set_option maxHeartbeats 1000000 in
theorem cut_any (A : Option Addr) (n c k : Nat) (a : List GF) (w : World) (ha : RdB w A n a) (hn : n ≤ 100000) (hc : n ≤ c) (hk : k ≤ 100000) :
    Calls Try.prog 71 #[.slice A n c, .int .i64 k] w fun e w' => e = .returned (.slice A (min k n) c) ∧ w = w' := by
  go_enter Try.func71, Try.ntmps71
  go_wp2
  all_goals
    go_ret
    first
      | (rw [Nat.min_eq_left (by omega)]; exact ⟨rfl, rfl⟩)
      | (rw [Nat.min_eq_right (by omega)]; exact ⟨rfl, rfl⟩)
/-- Places as numbers of the program. -/
def toI (er : List Nat) : List Int := er.map fun (k : Nat) => (k : Int)
theorem toI_len (er : List Nat) : (toI er).length = er.length := by simp [toI]
theorem toI_get (er : List Nat) (i : Nat) : (toI er).getD i 0 = ((er.getD i 0 : Nat) : Int) := by
  unfold toI
  rcases Nat.lt_or_ge i er.length with h | h
  · simp [List.getD, h]
  · simp [List.getD, List.getElem?_eq_none h]
theorem mem_toI {er : List Nat} {i : Nat} : (i : Int) ∈ toI er ↔ i ∈ er := by
  unfold toI
  simp only [List.mem_map]
  constructor
  · rintro ⟨j, hj, e⟩
    have : j = i := by omega
    exact this ▸ hj
  · intro h; exact ⟨i, h, rfl⟩
theorem toI_append (a b : List Nat) : toI (a ++ b) = toI a ++ toI b := by simp [toI]
/-- The locator of erasures. -/
def erP (n : Nat) : List Nat → List GF
  | [] => [1]
  | i :: S => prodP (erP n S) [1, loc n i]
theorem erP_cf (n : Nat) (S : List Nat) : cf (erP n S) = lam (S.map (loc n)) := by
  induction S with
  | nil =>
    funext i
    cases i with
    | zero => rfl
    | succ i => simp [erP, cf, lam, pone]
  | cons i S ih =>
    show cf (prodP (erP n S) [1, loc n i]) = cv (cf [1, loc n i]) (lam (S.map (loc n)))
    rw [cf_prodP, ih, cv_comm']
theorem erP_Tr (n : Nat) (S : List Nat) : Tr (erP n S) := by
  cases S with
  | nil => exact .inr GF.one_ne
  | cons i S => exact Tr_ofF _ _
theorem erP_len (n : Nat) (S : List Nat) : (erP n S).length ≤ S.length + 1 := by
  apply Tr_len (erP_Tr n S)
  rw [erP_cf]
  have := degB_lam (S.map (loc n))
  rwa [List.length_map] at this
theorem lam_reverse (t : List GF) : lam t.reverse = lam t := by
  induction t with
  | nil => rfl
  | cons X t ih =>
    rw [List.reverse_cons, lam_append, ih]
    show cv (lam t) (cv (cf [1, X]) pone) = cv (cf [1, X]) (lam t)
    rw [cv_pone_right, cv_comm']
theorem RdB.drop {w : World} {b o n : Nat} {l : List GF} (h : RdB w (some ⟨b, o, none⟩) n l) (k : Nat) : RdB w (some ⟨b, o + k, none⟩) (n - k) (l.drop k) := by
  refine ⟨by rw [List.length_drop, h.1], fun hn => ?_⟩
  obtain ⟨b', o', e, hlt, hc⟩ := h.2 (by omega)
  cases e
  refine ⟨b, o + k, rfl, hlt, fun i hi => ?_⟩
  have := hc (k + i) (by omega)
  rw [show o + k + i = o + (k + i) by omega, this]
  simp [List.getD]
theorem run_tailB (g o n c k : Nat) (hk : k ≤ n) (hc : n ≤ c) : ∃ o', (k < n → o' = o + k) ∧ ∀ w, (Instr.slice 41 (.slice (some ⟨g, o, none⟩) n c) (some (.int .i64 (k : Int))) none none).run Try.prog w = .ok (.slice (some ⟨g, o', none⟩) (n - k) (c - k)) w := by
  refine ⟨if c = k then o else o + k, fun h => if_neg (by omega), fun w => ?_⟩
  have h1 : 0 ≤ (k : Int) ∧ (k : Int) ≤ n := by omega
  have h2 : ¬ n < k := by omega
  by_cases h : c = k <;> simp [Instr.slice, Instr.sliceBounds, Instr.sliceBound, go_sem, h1, h2, h]
theorem RdB.tail {w : World} {b o n : Nat} {l : List GF} (h : RdB w (some ⟨b, o, none⟩) n l) {k o' : Nat} (ho : k < n → o' = o + k) : RdB w (some ⟨b, o', none⟩) (n - k) (l.drop k) := by
  by_cases hk : k < n
  · rw [ho hk]; exact h.drop k
  · exact ⟨by rw [List.length_drop, h.1], fun hn => by omega⟩
theorem sl_al (w : World) (o : Obj) : Value.slice (some ⟨w.heap.size + 1, 0, none⟩) 1 1 = .slice (some ⟨(w.alloc o).heap.size, 0, none⟩) 1 1 := by rw [World.size_alloc]
theorem derP_len' (a : List GF) : (derP a).length ≤ a.length := by
  have := trim_len_le ((List.range (a.length - 1)).map (dvS (cf a)))
  rw [List.length_map, List.length_range] at this
  exact Nat.le_trans this (Nat.sub_le _ _)
theorem RdB.cut {w : World} {A : Option Addr} {n : Nat} {l : List GF} (h : RdB w A n l) (k : Nat) : RdB w A (min k n) (l.take k) := by
  have h1 := h.take (k := min k n) (Nat.min_le_right _ _)
  rcases Nat.le_total k n with hk | hk
  · rw [Nat.min_eq_left hk] at h1 ⊢; exact h1
  · rw [Nat.min_eq_right hk] at h1 ⊢
    rw [List.take_of_length_le (by rw [h.1]; exact Nat.le_refl _)] at h1
    rw [List.take_of_length_le (by rw [h.1]; exact hk)]; exact h1
theorem cut_cf (a : List GF) (p j : Nat) : cf (a.take p) j = if j < p then cf a j else 0 := by
  unfold cf
  simp only [List.getD, List.getElem?_take]
  split <;> rfl
theorem takeN_succ (K : List Nat) {k : Nat} (hk : k < K.length) : K.take (k + 1) = K.take k ++ [K.getD k 0] := by
  rw [List.take_add_one]; simp [List.getD, hk]
theorem take_not_mem {K : List Nat} (h : K.Nodup) {k : Nat} (hk : k < K.length) : K.getD k 0 ∉ K.take k := by
  have h2 : (K.take k ++ [K.getD k 0]).Nodup := by rw [← takeN_succ K hk]; exact h.sublist (List.take_sublist _ _)
  rw [List.nodup_append] at h2
  intro hm
  exact h2.2.2 _ hm _ (List.mem_singleton.2 rfl) rfl
/-- The places that are found below k. -/
def plk (w : List GF) (er : List Nat) (C : List GF) (k : Nat) : List Nat := (List.range k).filter fun i => decide (valL C (GF.exp ((i : Int) + 1 - (w.length : Nat))) = 0) && decide (i ∉ er)
theorem plk_yes {w : List GF} {er : List Nat} {C : List GF} {k : Nat} (h1 : valL C (GF.exp ((k : Int) + 1 - (w.length : Nat))) = 0) (h2 : k ∉ er) : plk w er C (k + 1) = plk w er C k ++ [k] := by
  unfold plk
  rw [List.range_succ, List.filter_append]
  simp [h1, h2]
theorem plk_no {w : List GF} {er : List Nat} {C : List GF} {k : Nat} (h : ¬ (valL C (GF.exp ((k : Int) + 1 - (w.length : Nat))) = 0 ∧ k ∉ er)) : plk w er C (k + 1) = plk w er C k := by
  unfold plk
  rw [List.range_succ, List.filter_append]
  have : (List.filter (fun (i : Nat) => decide (valL C (GF.exp ((i : Int) + 1 - (w.length : Nat))) = 0) && decide (i ∉ er)) [k]) = [] := by
    rw [List.filter_eq_nil_iff]
    intro i hi
    rw [List.mem_singleton] at hi
    subst hi
    rw [← Bool.decide_and, decide_eq_true_eq]
    exact h
  rw [this, List.append_nil]
theorem plk_zero (w : List GF) (er : List Nat) (C : List GF) : plk w er C 0 = [] := rfl
theorem plc_plk (w : List GF) (er : List Nat) (C : List GF) : plc w er C = plk w er C w.length := rfl
theorem plk_len (w : List GF) (er : List Nat) (C : List GF) (k : Nat) : (plk w er C k).length ≤ k := by
  have := List.length_filter_le (fun (i : Nat) => decide (valL C (GF.exp ((i : Int) + 1 - (w.length : Nat))) = 0) && decide (i ∉ er)) (List.range k)
  rwa [List.length_range] at this
theorem take_succ_rev (er : List Nat) {k : Nat} (hk : k < er.length) : (er.take (k + 1)).reverse = er.getD k 0 :: (er.take k).reverse := by
  rw [List.take_add_one]
  simp [List.getD, hk]
/-- What stays through rs.correct: the word, its syndromes, the erasures, the variable of the word. -/
structure Cx (l : List GF) (p : Nat) (er : List Nat) (A S I : Option Addr) (ca g : Nat) (w0 w : World) : Prop where
  a : RdB w A l.length l
  s : RdB w S p (syndL l p)
  i : RdI w I er.length (toI er)
  b : Bx w g (.slice A l.length ca)
  bw : Below w0.heap.size w0 w
theorem Cx.below {l : List GF} {p : Nat} {er : List Nat} {A S I : Option Addr} {ca g : Nat} {w0 w w' : World} (h : Cx l p er A S I ca g w0 w) (hb : Below w.heap.size w w') : Cx l p er A S I ca g w0 w' :=
  ⟨h.a.below hb, h.s.below hb, h.i.below hb, h.b.below hb, Bw.step h.bw hb⟩
theorem Cx.al {l : List GF} {p : Nat} {er : List Nat} {A S I : Option Addr} {ca g : Nat} {w0 w : World} (h : Cx l p er A S I ca g w0 w) (o : Obj) : Cx l p er A S I ca g w0 (w.alloc o) := h.below (below_new w o)
/-- What rs.correct returns. -/
def CorPost (l : List GF) (p : Nat) (er : List Nat) (w0 : World) (e : Ending) (w : World) : Prop :=
  (∃ c A' c', Within p l er c ∧ e = .returned (.tuple #[.slice A' l.length c', .bool true]) ∧ OwB w w0.heap.size (.slice A' l.length c') c ∧ Below w0.heap.size w0 w) ∨
  ((∀ c, ¬ Within p l er c) ∧ (∃ A' n' c', e = .returned (.tuple #[.slice A' n' c', .bool false])) ∧ Below w0.heap.size w0 w)
theorem wrongs_self (l : List GF) (er : List Nat) : wrongs l l er = [] := by
  unfold wrongs; rw [List.filter_eq_nil_iff]; intro i _; simp
set_option maxRecDepth 100000 in
set_option maxHeartbeats 8000000 in
theorem correct_any (A S I : Option Addr) (ca cs ci p : Nat) (l : List GF) (er : List Nat) (w : World) (ha : RdB w A l.length l) (hs : RdB w S p (syndL l p)) (hi : RdI w I er.length (toI er))
    (hn : l.length ≤ 255) (hp : p ≤ 32) (hnd : er.Nodup) (hlt : ∀ i ∈ er, i < l.length) (he : er.length ≤ 255) :
    Calls Try.prog 49 #[.slice A l.length ca, .slice S p cs, .slice I er.length ci] w fun e w' => CorPost l p er w e w' := by
  have HC := Lib.hid (show Cx l p er A S I ca w.heap.size w (w.alloc (.cells #[.slice A l.length ca] 41)) from ⟨ha.al _, hs.al _, hi.al _, Bx.new _ _ _, below_new _ _⟩)
  clear ha hs hi
  by_cases hf : er.length ≤ p
  · by_cases hz : isCW p l
    ·
      have hz' : zeroB (syndL l p) = true := syndL_zero.2 hz
      have HZ := Lib.hid (isZero_any S p cs _ _ HC.out.s (by omega))
      rw [hz'] at HZ
      clear hz'
      have hbx := HC.out.b.2
      go_enter Try.func49, Try.ntmps49
      go_wp2_with fail
      refine HZ.out.mono ?_; rintro e w1 ⟨rfl, rfl⟩
      go_wp2_with fail
      refine (cloneB_any _ _ _ _ _ HC.out.a (by omega)).mono ?_; rintro e w1 ⟨A1, c1, rfl, ho1, hb1⟩
      go_wp2
      go_ret2
      exact .inl ⟨l, A1, c1, ⟨rfl, hz, by rw [wrongs_self]; simpa using hf⟩, rfl, own_base ho1 (by simp), Bw.step HC.out.bw hb1⟩
    · have hz' : zeroB (syndL l p) = false := Bool.eq_false_iff.2 fun e => hz (syndL_zero.1 e)
      have HZ := Lib.hid (isZero_any S p cs _ _ HC.out.s (by omega))
      rw [hz'] at HZ
      have hp1 : 1 ≤ p := by
        rcases Nat.eq_zero_or_pos p with h | h
        · exact absurd (fun j hj => by omega) hz
        · exact h
      clear hz'
      have hbx := HC.out.b.2
      go_enter Try.func49, Try.ntmps49
      go_wp2_with fail
      refine HZ.out.mono ?_; rintro e w1 ⟨rfl, rfl⟩
      have HW := Lib.hid (show RdB ((w.alloc (.cells #[.slice A l.length ca] 41)).alloc (.cells #[.int .u8 1] 5)) (some ⟨w.heap.size + 1, 0, none⟩) 1 (erP l.length []) from RdB.l1 _ _ 1 1 5 (by simp) rfl)
      have HC1 := Lib.hid (HC.out.al (.cells #[.int .u8 1] 5))
      clear HC HZ
      go_wp2
      generalize (w.alloc (.cells #[.slice A l.length ca] 41)).alloc (.cells #[.int .u8 1] 5) = W at *
      generalize w.heap.size = g at *
      go_loopw [10, 51] (fun u i wr => ∃ (k : Nat) (A1 : Option Addr) (c1 : Nat), k ≤ er.length ∧ i = .int .i64 k ∧ u = .slice A1 (erP l.length (er.take k).reverse).length c1 ∧ RdB wr A1 (erP l.length (er.take k).reverse).length (erP l.length (er.take k).reverse) ∧ Cx l p er A S I ca g w wr) (fun _ i _ => er.length - (intOf i).toNat)
      case atStart => exact ⟨0, _, 1, Nat.zero_le _, rfl, rfl, HW.out, HC1.out⟩
      case round =>
        obtain ⟨k, A1, c1, hk, rfl, rfl, R1, C1⟩ := hrel
        by_cases hlk : k < er.length
        ·
          obtain ⟨b, off, rfl, hlb, hcc⟩ := rdI_cell C1.i (i := k) hlk
          rw [toI_get] at hcc
          have hj : er.getD k 0 < l.length := hlt _ (by simp [List.getD, hlk])
          have hgl := erP_len l.length (er.take k).reverse
          have hgl2 : (erP l.length (er.take k).reverse).length ≤ 100 := by
            simp only [List.length_reverse, List.length_take] at hgl
            omega
          have HLC := Lib.hid (fun c w h => locator_any (er.getD k 0) g l.length c A w h hn hj)
          have HM := Lib.hid (fun (w : World) A2 (h1 : RdB w A1 (erP l.length (er.take k).reverse).length (erP l.length (er.take k).reverse)) (h2 : RdB w A2 2 [1, loc l.length (er.getD k 0)]) => poMulP_ok A1 A2 (erP l.length (er.take k).reverse).length 2 c1 2 _ [1, loc l.length (er.getD k 0)] w h1 h2 (by omega) (by omega))
          rw [show prodP (erP l.length (er.take k).reverse) [1, loc l.length (er.getD k 0)] = erP l.length (er.take (k + 1)).reverse by rw [take_succ_rev er hlk]; rfl] at HM
          generalize er.getD k 0 = j at *
          generalize loc l.length j = x at *
          have HC2 := Lib.hid C1
          have HR1 := Lib.hid R1
          clear C1 R1 hgl
          go_wp2_with fail
          refine (HLC.out _ _ HC2.out.b).mono ?_; rintro e w2 ⟨rfl, rfl⟩
          go_wp2_with fail
          refine (HM.out _ _ (HR1.out.al _) (RdB.l2 _ _ 1 x.z 1 x _ rfl ⟨rfl, rfl⟩)).mono ?_
          rintro e w2 ⟨A2, c2, rfl, ho2, hb2⟩
          have R2 := ho2.rd.1
          have C2 := (HC2.out.al _).below hb2
          clear ho2
          go_wp2
          go_roundw
          case rel => exact ⟨k + 1, A2, c2, by omega, by go_num, rfl, R2, C2⟩
          case measure => simp [intOf]; omega
        · obtain rfl : k = er.length := by omega
          rw [List.take_length] at *
          have hgl := erP_len l.length er.reverse
          rw [List.length_reverse] at hgl
          have hcg := Lib.hid (show cf (erP l.length er.reverse) = lam (er.map (loc l.length)) by rw [erP_cf, List.map_reverse, lam_reverse])
          generalize erP l.length er.reverse = G at *
          have HC2 := Lib.hid C1
          have HRG := Lib.hid R1
          have hmk := run_makeB p (by omega)
          clear C1 R1 hbx HW HC1 hlk hk
          go_wp2_with fail
          refine (poMulP_ok A1 S _ _ c1 cs _ _ _ HRG.out HC2.out.s (by omega) (by omega)).mono ?_
          rintro e w2 ⟨A2, c2, rfl, ho2, hb2⟩
          have HC3 := Lib.hid ((HC2.out.below hb2).al (.cells #[.int .i64 0, .int .i64 0] 24))
          have HG3 := Lib.hid ((HRG.out.below hb2).al (.cells #[.int .i64 0, .int .i64 0] 24))
          have HP3 := Lib.hid (ho2.rd.1.al (.cells #[.int .i64 0, .int .i64 0] 24))
          have hpl : (prodP G (syndL l p)).length ≤ 200 := by
            have := prodP_le G (syndL l p)
            rw [syndL_len] at this
            omega
          have hcp := Lib.hid (cf_prodP G (syndL l p))
          clear ho2 hb2 HC2 HRG
          generalize prodP G (syndL l p) = Pr at *
          have HZ3 := Lib.hid ((OwB.new (w2.alloc (.cells #[.int .i64 0, .int .i64 0] 24)) (w2.alloc (.cells #[.int .i64 0, .int .i64 0] 24)).heap.size p (Nat.le_refl _) (by unfold maxLen; omega)).rd.1)
          rw [World.size_alloc] at HZ3
          obtain ⟨lD, cD0, cD1, fD0, fD1⟩ := Has.new w2 0 0 24
          go_wp2_with fail
          refine (concat2_any _ _ A2 _ Pr.length p c2 p Pr (List.replicate p 0) _ (TwoAt.mk' _ _ A2 _ Pr.length p c2 p _ (by simp)) ((HP3.out.al _).al _) (HZ3.out.al _) (by omega) (by omega)).mono ?_
          rintro e w4 ⟨A4, c4, rfl, ho4, hb4⟩
          have HC4 := Lib.hid (((HC3.out.al _).al _).below hb4)
          have HG4 := Lib.hid (((HG3.out.al _).al _).below hb4)
          have hN : (Pr ++ List.replicate p (0 : GF)).length = Pr.length + p := by simp
          generalize hNN : (Pr ++ List.replicate p (0 : GF)).length = N at *
          have hN2 : N ≤ 300 := by omega
          have hN3 : p ≤ N := by omega
          have hcap := ho4.cap.1
          obtain ⟨g4, rfl⟩ := ho4.head (by omega)
          obtain ⟨oT, hoT, hsl⟩ := run_tailB g4 0 p c4 er.length hf (by omega)
          have HT := Lib.hid ((ho4.rd.1.take hN3).tail hoT)
          have hTc : ∀ k, k < p - er.length → cf ((List.take p (Pr ++ List.replicate p 0)).drop er.length) k = cv (cf G) (cf (syndL l p)) (er.length + k) := by
            intro k hk
            rw [← hcp.out]
            unfold cf
            simp only [List.getD, List.getElem?_drop, List.getElem?_take, List.getElem?_append, List.getElem?_replicate]
            rw [if_pos (show er.length + k < p by omega)]
            by_cases h : er.length + k < Pr.length
            · rw [if_pos h]
            · rw [if_neg h, List.getElem?_eq_none (by omega : Pr.length ≤ er.length + k)]
              split <;> rfl
          have HTC := Lib.hid hTc
          clear hTc hN hNN HC3 HG3 HP3 HZ3 ho4 lD cD0 cD1 fD0 fD1 hmk
          generalize (List.take p (Pr ++ List.replicate p 0)).drop er.length = T at *
          clear hoT
          go_wp2_with fail
          refine (connect_any _ _ _ _ _ HT.out (by omega)).mono ?_
          rintro e w5 ⟨A5, c5, C, L, rfl, RC5, hCl, hLN, hlf, hleast, hb5⟩
          have HD := Lib.hid (show Dec l p er G T C L from ⟨hn, hnd, hlt, hf, hcg.out, HTC.out, hlf, hleast⟩)
          have HC5 := Lib.hid (HC4.out.below hb5)
          have HG5 := Lib.hid (HG4.out.below hb5)
          have HR5 := Lib.hid RC5
          clear HC4 HG4 hlf hleast RC5 HT HTC hb4 hb5 hcp
          by_cases h2 : 2 * L ≤ p - er.length
          · go_wp2_with fail
            refine (cloneI_any _ _ _ _ _ HC5.out.i (by omega)).mono ?_
            rw [toI_len]
            rintro e w6 ⟨A6, c6, rfl, ho6, hb6⟩
            have HC6 := Lib.hid (HC5.out.below hb6)
            have hbx := HC6.out.b.2
            have HO6 := Lib.hid ho6
            clear ho6
            go_wp2
            have HB6 := Lib.hid hb6
            clear hb6 hbx hsl
            go_loopw [18, 97] (fun pl i wr => ∃ k : Nat, k ≤ l.length ∧ i = .int .i64 k ∧ OwI wr w5.heap.size pl (toI (er ++ plk l er C k)) ∧ Below w5.heap.size w5 wr) (fun _ i _ => l.length - (intOf i).toNat)
            case atStart => exact ⟨0, Nat.zero_le _, rfl, by rw [plk_zero, List.append_nil]; exact HO6.out, HB6.out⟩
            case round =>
              obtain ⟨k, hk, rfl, ho, hbw⟩ := hrel
              have HX := Lib.hid hbw
              by_cases hlk : k < l.length
              · --[[c
                have hbx := (HC5.out.below hbw).b.2
                have HV := Lib.hid (fun w (h : RdB w A5 C.length C) => poValueP_ok A5 C.length c5 C (GF.exp ((k : Int) + 1 - (l.length : Nat))) w h (by omega))
                have HO := Lib.hid ho
                have hL : (toI (er ++ plk l er C k)).length ≤ 600 := by
                  have := plk_len l er C k
                  rw [toI_len, List.length_append]; omega
                have HN : Hid (valL C (GF.exp ((k : Int) + 1 - (l.length : Nat))) = 0 → k ∉ er → toI (er ++ plk l er C (k + 1)) = toI (er ++ plk l er C k) ++ [(k : Int)]) := Lib.hid fun h1 h2 => by
                  rw [plk_yes h1 h2, ← List.append_assoc, toI_append]; rfl
                have HM : Hid (¬ (valL C (GF.exp ((k : Int) + 1 - (l.length : Nat))) = 0 ∧ k ∉ er) → toI (er ++ plk l er C (k + 1)) = toI (er ++ plk l er C k)) := Lib.hid fun h => by rw [plk_no h]
                have ws : IntKind.i64.wrap ((k : Int) + 1 - (l.length : Nat)) = (k : Int) + 1 - (l.length : Nat) := IntWalk.i64_in _ (by omega)
                clear ho
                generalize toI (er ++ plk l er C k) = Lp at *
                generalize valL C (GF.exp ((k : Int) + 1 - (l.length : Nat))) = vv at *
                have HE := Lib.hid (fun w => gExpZ ((k : Int) + 1 - (l.length : Nat)) w)
                generalize GF.exp ((k : Int) + 1 - (l.length : Nat)) = xx at *
                go_wp2_with (go_at_call 38; refine (HE.out _).mono ?_; rintro e w' ⟨rfl, rfl⟩)
                go_wp2_with fail
                refine (HV.out _ (HR5.out.below HX.out)).mono ?_
                rintro e w7 ⟨rfl, hb7⟩
                have hb8 := Bw.al (Bw.step HX.out hb7) (.cells #[.int .i64 0, .int .i64 0] 24)
                have HO8 := Lib.hid ((HO.out.below hb7).below (below_new w7 (.cells #[.int .i64 0, .int .i64 0] 24)))
                have HC8 := Lib.hid (containsI_any I er.length ci (toI er) (k : Int) (w7.alloc (.cells #[.int .i64 0, .int .i64 0] 24)) (HC5.out.i.below hb8) (by omega))
                have hsz := hb8.size
                by_cases hv : vv = 0
                · have hv0 := z_eq0 hv
                  by_cases hm : k ∈ er
                  · rw [show hasI (toI er) k = true from decide_eq_true (mem_toI.2 hm)] at HC8
                    have HL := Lib.hid (HM.out (fun h => h.2 hm))
                    clear hm HM HN
                    go_wp2_with (go_at_call 31; refine HC8.out.mono ?_; rintro e w' ⟨rfl, rfl⟩)
                    go_roundw
                    case rel => first | exact ⟨k + 1, by omega, by go_num, by rw [HL.out]; exact HO8.out, hb8⟩ | ((repeat apply Exists.intro); exact ⟨⟨k + 1, by omega, by go_num, by rw [HL.out]; exact HO8.out, hb8⟩, rfl⟩)
                    case measure => simp [intOf]; omega
                  · rw [show hasI (toI er) k = false from decide_eq_false fun h => hm (mem_toI.1 h)] at HC8
                    have HL := Lib.hid (HN.out hv hm)
                    clear hm HM HN
                    go_wp2_with (first
                      | (go_at_call 31; refine HC8.out.mono ?_; rintro e w' ⟨rfl, rfl⟩)
                      | (at_builtin; refine wpList_app1I (w7.alloc (.cells #[.int .i64 0, .int .i64 0] 24)) rfl (.tmp 119) (.tmp 121) rfl w5.heap.size _ Lp HO8.out rfl (k : Int) _ (sl_al _ _) (by omega) hsz ?_; intro v9 w9 ho9 hb9))
                    go_roundw
                    case rel => first | exact ⟨k + 1, by omega, by go_num, by rw [HL.out]; exact ho9, hb8.trans hb9⟩ | ((repeat apply Exists.intro); exact ⟨⟨k + 1, by omega, by go_num, by rw [HL.out]; exact ho9, hb8.trans hb9⟩, rfl⟩)
                    case measure => simp [intOf]; omega
                · have hv0 := z_ne0 hv
                  have HL := Lib.hid (HM.out (fun h => hv h.1))
                  clear HM HN
                  go_wp2
                  go_roundw
                  case rel => first | exact ⟨k + 1, by omega, by go_num, by rw [HL.out]; exact HO8.out, hb8⟩ | ((repeat apply Exists.intro); exact ⟨⟨k + 1, by omega, by go_num, by rw [HL.out]; exact HO8.out, hb8⟩, rfl⟩)
                  case measure => simp [intOf]; omega
              · obtain rfl : k = l.length := by omega
                rw [← plc_plk] at ho
                have hbx := (HC5.out.below hbw).b.2
                obtain ⟨A7, c7, e7⟩ := ho.form
                have HLen : (toI (er ++ plc l er C)).length = er.length + (plc l er C).length := by rw [toI_len, List.length_append]
                rw [HLen] at e7
                subst e7
                have HO := Lib.hid ho
                clear ho HLen hlk hk
                by_cases h3 : (plc l er C).length = L
                · have HL3 := Lib.hid h3
                  rw [h3] at HO ⊢
                  clear h3
                  have HKt : Hid (∀ i ∈ er ++ plc l er C, i < l.length) := Lib.hid (fun i hi => (List.mem_append.1 hi).elim (hlt i) (fun h => (mem_plc h).1))
                  have HKn : Hid ((er ++ plc l er C).Nodup) := Lib.hid (all_nodup C hnd)
                  have HC7 := Lib.hid (HC5.out.below hbw)
                  have HG7 := Lib.hid (HG5.out.below hbw)
                  have HR7 := Lib.hid (HR5.out.below hbw)
                  clear HC5 HG5 HR5 HX hbw
                  go_wp2_with fail
                  refine (poMulP_ok A5 A1 _ _ c5 c1 _ _ _ HR7.out HG7.out (by omega) (by omega)).mono ?_
                  rintro e w8 ⟨A8, c8, rfl, ho8, hb8⟩
                  have hl8 : (prodP C G).length ≤ 200 := by have := prodP_le C G; omega
                  have HA8 := Lib.hid (cf_prodP C G)
                  have HQ8 := Lib.hid (ho8.rd.1.al (.cells #[.int .i64 0, .int .i64 0] 24))
                  have HC8 := Lib.hid ((HC7.out.below hb8).al (.cells #[.int .i64 0, .int .i64 0] 24))
                  have HO8 := Lib.hid ((HO.out.rd.1.below hb8).al (.cells #[.int .i64 0, .int .i64 0] 24))
                  clear HC7 HG7 HR7 HO ho8 hb8 hbx
                  generalize prodP C G = Al at *
                  go_wp2_with fail
                  refine (poMulP_ok A8 S _ _ c8 cs _ _ _ HQ8.out HC8.out.s (by omega) (by omega)).mono ?_
                  rintro e w9 ⟨A9, c9, rfl, ho9, hb9⟩
                  have hl9 : (prodP Al (syndL l p)).length ≤ 300 := by have := prodP_le Al (syndL l p); rw [syndL_len] at this; omega
                  have HA9 := Lib.hid (cf_prodP Al (syndL l p))
                  have hc9 := ho9.cap.1
                  have HQ9 := Lib.hid (HQ8.out.below hb9)
                  have HC9 := Lib.hid (HC8.out.below hb9)
                  have HO9 := Lib.hid (HO8.out.below hb9)
                  have HP9 := Lib.hid ho9.rd.1
                  clear HQ8 HC8 HO8 ho9 hb9
                  generalize prodP Al (syndL l p) = Pq at *
                  go_wp2_with fail
                  refine (cut_any A9 _ c9 p Pq _ HP9.out (by omega) hc9 (by omega)).mono ?_
                  rintro e w' ⟨rfl, rfl⟩
                  have hmn : min p Pq.length ≤ 300 := by omega
                  have HM9 := Lib.hid (RdB.cut HP9.out p)
                  have HMj := Lib.hid (fun j => cut_cf Pq p j)
                  rw [HA9.out] at HMj
                  clear HP9 hc9
                  generalize Pq.take p = M at *
                  generalize min p Pq.length = mn at *
                  go_wp2_with fail
                  refine (poDeriveP_ok A8 _ c8 Al _ HQ9.out (by omega)).mono ?_
                  rintro e wa ⟨Aa, c10, rfl, hoa, hba⟩
                  have HDa := Lib.hid (cf_derP Al)
                  have hla := derP_len' Al
                  have HCa := Lib.hid ((HC9.out.below hba).al (.cells #[.int .i64 0, .int .i64 0] 24))
                  have HOa := Lib.hid ((HO9.out.below hba).al (.cells #[.int .i64 0, .int .i64 0] 24))
                  have HMa := Lib.hid ((HM9.out.below hba).al (.cells #[.int .i64 0, .int .i64 0] 24))
                  have HQa := Lib.hid (hoa.rd.1.al (.cells #[.int .i64 0, .int .i64 0] 24))
                  clear hoa hba HQ9 HC9 HO9 HM9
                  generalize derP Al = Dv at *
                  have hbx := HCa.out.b.2
                  go_wp2_with fail
                  refine (cloneB_any _ _ _ _ _ HCa.out.a (by omega)).mono ?_
                  rintro e wb ⟨Ab, cb, rfl, hob, hbb⟩
                  have HVal := Lib.hid (fun c (hc : Within p l er c) => HD.out.values hc HA8.out HMj.out (by rw [HDa.out, HA8.out]))
                  clear HA8 HMj HDa HA9 hcg
                  obtain ⟨K, hK⟩ : ∃ K, K = er ++ plc l er C := ⟨_, rfl⟩
                  have HKe := Lib.hid hK
                  have HKl2 : Hid (K.length = er.length + L) := Lib.hid (by rw [hK, List.length_append, HL3.out])
                  rw [← hK] at HKt HKn HVal HOa
                  clear hK
                  generalize hnK : er.length + L = nK at *
                  have hcast : ((er.length : Int) + (L : Int)) = (nK : Int) := by omega
                  clear hnK
                  obtain ⟨q, hq⟩ : ∃ q, q = fixV l.length M Dv := ⟨_, rfl⟩
                  have HQ := Lib.hid hq
                  rw [← hq] at HVal
                  clear hq
                  have hlp : 1 ≤ l.length := by
                    rcases Nat.eq_zero_or_pos l.length with h | h
                    · exact absurd (fun j _ => by rw [List.eq_nil_of_length_eq_zero h]; rfl) hz
                    · exact h
                  obtain ⟨gb, rfl⟩ := hob.head hlp
                  have HOb := Lib.hid (show OwB wb _ (.slice (some ⟨gb, 0, none⟩) l.length cb) (outAt l q (K.take 0)) from by rw [List.take_zero, outAt_nil]; exact hob)
                  have HBb := Lib.hid hbb
                  clear hob hbb hbx
                  obtain ⟨Wa, hWa⟩ : ∃ W, W = wa.alloc (.cells #[.int .i64 0, .int .i64 0] 24) := ⟨_, rfl⟩
                  rw [← hWa] at HCa HOa HMa HQa HOb HBb
                  clear hWa
                  go_wp2
                  go_loopw [155] (fun i wr => ∃ k : Nat, k ≤ nK ∧ i = .int .i64 k ∧ OwB wr Wa.heap.size (.slice (some ⟨gb, 0, none⟩) l.length cb) (outAt l q (K.take k)) ∧ Below Wa.heap.size Wa wr) (fun i _ => nK - (intOf i).toNat)
                  case atStart => exact ⟨0, Nat.zero_le _, rfl, HOb.out, HBb.out⟩
                  case round =>
                    obtain ⟨k, hk, rfl, ho, hbw⟩ := hrel
                    have HX := Lib.hid hbw
                    have HO := Lib.hid ho
                    by_cases hlk : k < nK
                    · --[[d
                      have hbx := (HCa.out.below hbw).b.2
                      obtain ⟨b, off, rfl, hlb, hcc⟩ := rdI_cell (HOa.out.below hbw) (i := k) hlk
                      rw [toI_get] at hcc
                      have hkK : k < K.length := by rw [HKl2.out]; exact hlk
                      have hjm : K.getD k 0 ∈ K := by simp [List.getD, hkK]
                      have hj : K.getD k 0 < l.length := HKt.out _ hjm
                      have HST := Lib.hid (outAt_step l q (K.take k) hj (take_not_mem HKn.out hkK))
                      rw [← takeN_succ K hkK] at HST
                      have HVA := Lib.hid (fun c hc => HVal.out c hc _ hjm)
                      have HV1 := Lib.hid (fun w (h : RdB w A9 mn M) => poValueP_ok A9 mn c9 M (GF.exp ((K.getD k 0 : Nat) + 1 - (l.length : Nat))) w h (by omega))
                      have HV2 := Lib.hid (fun w (h : RdB w Aa Dv.length Dv) => poValueP_ok Aa Dv.length c10 Dv (GF.exp ((K.getD k 0 : Nat) + 1 - (l.length : Nat))) w h (by omega))
                      have HE := Lib.hid (fun w => gExpZ (((K.getD k 0 : Nat) : Int) + 1 - (l.length : Nat)) w)
                      have HLC := Lib.hid (fun c w h => locator_any (K.getD k 0) g l.length c A w h hn hj)
                      have HQk : Hid (q (K.getD k 0) = valL M (GF.exp ((K.getD k 0 : Nat) + 1 - (l.length : Nat))) * (valL Dv (GF.exp ((K.getD k 0 : Nat) + 1 - (l.length : Nat)))).inv * loc l.length (K.getD k 0)) := Lib.hid (by rw [HQ.out]; rfl)
                      generalize hjj : K.getD k 0 = j at *
                      have ws : IntKind.i64.wrap ((j : Int) + 1 - (l.length : Nat)) = (j : Int) + 1 - (l.length : Nat) := IntWalk.i64_in _ (by omega)
                      clear hjm hjj hkK
                      generalize valL M (GF.exp ((j : Int) + 1 - (l.length : Nat))) = va at *
                      generalize valL Dv (GF.exp ((j : Int) + 1 - (l.length : Nat))) = vb at *
                      generalize GF.exp ((j : Int) + 1 - (l.length : Nat)) = xx at *
                      generalize loc l.length j = lj at *
                      clear ho
                      go_wp2_with (go_at_call 38; refine (HE.out _).mono ?_; rintro e w' ⟨rfl, rfl⟩)
                      go_wp2_with fail
                      refine (HV1.out _ (HMa.out.below HX.out)).mono ?_
                      rintro e wc ⟨rfl, hbc⟩
                      have hb1 := Bw.al (Bw.step HX.out hbc) (.cells #[.int .i64 0, .int .i64 0] 24)
                      have HO1 := Lib.hid ((HO.out.below hbc).below (below_new wc (.cells #[.int .i64 0, .int .i64 0] 24)))
                      clear HV1 HE hbc HO HX hbw
                      go_wp2_with fail
                      refine (HV2.out _ (HQa.out.below hb1)).mono ?_
                      rintro e wd ⟨rfl, hbd⟩
                      have hb2 := Bw.al (Bw.step hb1 hbd) (.cells #[.int .i64 0, .int .i64 0] 24)
                      have HO2 := Lib.hid ((HO1.out.below hbd).below (below_new wd (.cells #[.int .i64 0, .int .i64 0] 24)))
                      clear HV2 hbd HO1 hb1
                      by_cases hv : vb = 0
                      · have HVB := Lib.hid hv
                        clear hv
                        go_wp2_with fail
                        refine (gDivZ0 va vb _ HVB.out).mono ?_
                        rintro e we ⟨rfl, hbe⟩
                        have hb3 := Bw.al (Bw.step hb2 hbe) (.cells #[.int .i64 26, .int .i64 (-2)] 24)
                        obtain ⟨l0, c00, c01, f00, f01⟩ := Has.new we 26 (-2) 24
                        go_wp2
                        go_ret2
                        exact .inr ⟨fun c hc => (HVA.out c hc).1 HVB.out, ⟨_, _, _, rfl⟩, Bw.step HCa.out.bw hb3⟩
                      · have HVB := Lib.hid hv
                        clear hv
                        go_wp2_with fail
                        refine (gDivZ va vb _ HVB.out).mono ?_
                        rintro e we ⟨rfl, hbe⟩
                        have hb3 := Bw.al (Bw.step hb2 hbe) (.cells #[.int .i64 0, .int .i64 0] 24)
                        have HO3 := Lib.hid ((HO2.out.below hbe).below (below_new we (.cells #[.int .i64 0, .int .i64 0] 24)))
                        have hcg := HO3.out.cellAt (i := j) hj
                        have hlg := HO3.out.lt
                        have hbx := HCa.out.b.below hb3
                        have hxg := fun x => cell_ext hlg.2 hcg x
                        obtain ⟨l0, c00, c01, f00, f01⟩ := Has.new we 0 0 24
                        clear hb2 hbe HO2
                        generalize hqq : va * vb.inv = qq at *
                        generalize hoo : (outAt l q (K.take k)).getD j 0 = oo at *
                        go_wp2
                        (refine wp_region_extail 13 (by kernel_rfl) (by kernel_rfl) ?_; simp only [List.take_succ_cons, List.take_zero, List.drop_succ_cons, List.drop_zero]; (repeat (go_big_quiet_step ((first | (go_at_call 67; exact ext_same (HLC.out _ _ (hbx.below (Ext.below _)))) | (go_at_call 75; exact ext_same (gMulZ _ _ _)) | (go_at_call 74; exact ext_same (gAddZ _ _ _)))))); refine wpQuiet_nil ?_; intro W5 hw'; have hW5 := ext_below hw'; clear hw')
                        have HO5 := Lib.hid (HO3.out.below hW5)
                        have hc5 := HO5.out.cellAt (i := j) hj
                        have hf5 := HO5.out.frozenAt j
                        have hb5 := Bw.step hb3 hW5
                        go_wp2
                        go_roundw
                        case rel => exact ⟨k + 1, by omega, by go_num, by rw [← HST.out, HQk.out]; exact HO5.out.set j _, Bw.set hb5 hlg.1 _⟩
                        case measure => simp [intOf]; omega
                    · obtain rfl : k = nK := by omega
                      rw [show K.take k = K from List.take_of_length_le (Nat.le_of_eq HKl2.out)] at ho
                      have HE := Lib.hid ho
                      clear HO ho hlk hk
                      go_wp2_with fail
                      refine (syndromes_any _ _ _ p _ _ HE.out.rd.1 (by omega) (by omega)).mono ?_
                      rintro e wf ⟨Af, cf', rfl, hof, hbf⟩
                      have HB := Lib.hid (Bw.step (Bw.step HCa.out.bw HX.out) hbf)
                      have HZ := Lib.hid (isZero_any _ _ cf' _ _ hof.rd.1 (by omega))
                      have HOf := Lib.hid (HE.out.below hbf)
                      have HLw := Lib.hid HCa.out.bw.size
                      by_cases hcw : isCW p (outAt l q K)
                      · rw [syndL_zero.2 hcw] at HZ
                        have HW := Lib.hid hcw
                        clear hcw hof hbf hbw
                        go_wp2_with fail
                        refine HZ.out.mono ?_
                        rintro e w' ⟨rfl, rfl⟩
                        go_wp2
                        go_ret2
                        refine .inl ⟨outAt l q K, _, _, ?_, rfl, own_base HOf.out HLw.out, HB.out⟩
                        have hK := HKe.out
                        have hW := HW.out
                        subst hK
                        exact out_within hf h2 (by rw [List.length_append, HL3.out]) q hW
                      · rw [show zeroB (syndL (outAt l q K) p) = false from Bool.eq_false_iff.2 fun e => hcw (syndL_zero.1 e)] at HZ
                        have HW := Lib.hid hcw
                        clear hcw hof hbf hbw
                        go_wp2_with fail
                        refine HZ.out.mono ?_
                        rintro e w' ⟨rfl, rfl⟩
                        go_wp2
                        go_ret2
                        refine .inr ⟨fun c hc => HW.out ?_, ⟨_, _, _, rfl⟩, HB.out⟩
                        have hq : ∀ i ∈ er ++ plc l er C, q i = l.getD i 0 + c.getD i 0 := fun i hi => (HVal.out c hc i (by rw [HKe.out]; exact hi)).2
                        rw [HKe.out, HD.out.out hc hq]
                        exact hc.2.1
                · have h4 : ((er.length + (plc l er C).length : Nat) : Int) ≠ er.length + L := by omega
                  go_wp2
                  go_ret2
                  exact .inr ⟨fun c hc => h3 (by rw [HD.out.places hc]; exact (HD.out.found hc).1.symm), ⟨_, _, _, rfl⟩, Bw.step HC5.out.bw hbw⟩
          · go_wp2
            go_ret2
            exact .inr ⟨fun c hc => by have := (HD.out.found hc).1; have := hc.2.2; omega, ⟨_, _, _, rfl⟩, HC5.out.bw⟩
  · go_enter Try.func49, Try.ntmps49
    go_wp2
    go_ret2
    exact .inr ⟨fun c hc => by have := hc.2.2; omega, ⟨_, _, _, rfl⟩, below_new _ _⟩
end Go.Proofs.Ytcinfkmekkdhfaa
/- Increasing places: the plain law, the reference's Increasing, and the walk of rs.Decode. -/
namespace Go.Proofs.Ytcinfkmekkdhfaa
open Go.RowKit
set_option linter.unusedVariables false

def incR (l : List Int) (n f : Int) : Nat → Int × Int
  | 0 => (0, 0)
  | m + 1 => if ¬ (0 ≤ l.getD (l.length - (m + 1)) 0 ∧ l.getD (l.length - (m + 1)) 0 ≤ n - 1) then (4, f + ((l.length - (m + 1) : Nat) : Int))
    else if 0 < l.length - (m + 1) ∧ l.getD (l.length - (m + 1)) 0 ≤ l.getD (l.length - (m + 1) - 1) 0 then (11, f + ((l.length - (m + 1) : Nat) : Int)) else incR l n f m
/-- The fault of places that do not increase. -/
def incF (l : List Int) (n f : Int) : Int × Int := incR l n f l.length
theorem incR_at (l : List Int) (n f : Int) {k : Nat} (hk : k < l.length) : incR l n f (l.length - k) = if ¬ (0 ≤ l.getD k 0 ∧ l.getD k 0 ≤ n - 1) then (4, f + (k : Int)) else if 0 < k ∧ l.getD k 0 ≤ l.getD (k - 1) 0 then (11, f + (k : Int)) else incR l n f (l.length - (k + 1)) := by
  obtain ⟨m, hm⟩ : ∃ m, l.length - k = m + 1 := ⟨l.length - k - 1, by omega⟩
  rw [hm]
  have e1 : l.length - (m + 1) = k := by omega
  have e2 : l.length - (k + 1) = m := by omega
  rw [e2]
  show (if ¬ (0 ≤ l.getD (l.length - (m + 1)) 0 ∧ l.getD (l.length - (m + 1)) 0 ≤ n - 1) then _ else _) = _
  rw [e1]
theorem incR_end (l : List Int) (n f : Int) : incR l n f (l.length - l.length) = (0, 0) := by rw [Nat.sub_self]; rfl
theorem incR_good {l : List Int} {n f : Int} (h : incF l n f = (0, 0)) : ∀ k, k ≤ l.length → incR l n f (l.length - k) = (0, 0) ∧ ∀ i, i < k → (0 ≤ l.getD i 0 ∧ l.getD i 0 ≤ n - 1) ∧ (0 < i → l.getD (i - 1) 0 < l.getD i 0) := by
  intro k
  induction k with
  | zero => intro _; exact ⟨h, fun i hi => absurd hi (Nat.not_lt_zero _)⟩
  | succ k ih =>
    intro hk
    obtain ⟨h1, h2⟩ := ih (by omega)
    rw [incR_at l n f (by omega)] at h1
    by_cases c1 : 0 ≤ l.getD k 0 ∧ l.getD k 0 ≤ n - 1
    · rw [if_neg (by simpa using c1)] at h1
      by_cases c2 : 0 < k ∧ l.getD k 0 ≤ l.getD (k - 1) 0
      · rw [if_pos c2] at h1
        exact absurd (congrArg Prod.fst h1) (by simp)
      · rw [if_neg c2] at h1
        refine ⟨h1, fun i hi => ?_⟩
        by_cases e : i = k
        · subst e; exact ⟨c1, fun hp => by omega⟩
        · exact h2 i (by omega)
    · rw [if_pos c1] at h1
      exact absurd (congrArg Prod.fst h1) (by simp)
theorem incF_code (l : List Int) (n f : Int) : incF l n f = (0, 0) ∨ (∃ k, k < l.length ∧ incF l n f = (4, f + (k : Int))) ∨ (∃ k, k < l.length ∧ incF l n f = (11, f + (k : Int))) := by
  have : ∀ m, m ≤ l.length → incR l n f m = (0, 0) ∨ (∃ k, k < l.length ∧ incR l n f m = (4, f + (k : Int))) ∨ (∃ k, k < l.length ∧ incR l n f m = (11, f + (k : Int))) := by
    intro m
    induction m with
    | zero => intro _; exact .inl rfl
    | succ m ih =>
      intro hm
      have e : m + 1 = l.length - (l.length - (m + 1)) := by omega
      rw [e, incR_at l n f (by omega)]
      split
      · exact .inr (.inl ⟨_, by omega, rfl⟩)
      · split
        · exact .inr (.inr ⟨_, by omega, rfl⟩)
        · rw [show l.length - (l.length - (m + 1) + 1) = m by omega]; exact ih (by omega)
  exact this _ (Nat.le_refl _)
/-- Places that increase are natural numbers, different, and few. -/
theorem incF_nat {l : List Int} {n : Nat} {f : Int} (h : incF l n f = (0, 0)) : ∃ er : List Nat, l = toI er ∧ er.Nodup ∧ (∀ i ∈ er, i < n) ∧ er.length ≤ n ∧ er.Pairwise (· < ·) := by
  have hg := (incR_good h l.length (Nat.le_refl _)).2
  have hP : l.Pairwise (· < ·) := by
    rw [List.pairwise_iff_getElem]
    have step : ∀ d i, i + d + 1 < l.length → l.getD i 0 < l.getD (i + d + 1) 0 := by
      intro d
      induction d with
      | zero => intro i hi; have := (hg (i + 1) (by omega)).2 (by omega); simpa using this
      | succ d ih =>
        intro i hi
        have h1 := ih i (by omega)
        have h2 := (hg (i + d + 1 + 1) (by omega)).2 (by omega)
        have h3 : i + d + 1 + 1 - 1 = i + d + 1 := by omega
        rw [h3] at h2
        have h4 : i + (d + 1) + 1 = i + d + 1 + 1 := by omega
        rw [h4]; omega
    intro i j hi hj hij
    have := step (j - i - 1) i (by omega)
    rw [show i + (j - i - 1) + 1 = j by omega] at this
    simpa [List.getD, hi, hj] using this
  have hb : ∀ x ∈ l, 0 ≤ x ∧ x < n := by
    intro x hx
    obtain ⟨i, hi, rfl⟩ := List.mem_iff_getElem.1 hx
    have := (hg i hi).1
    have e : l.getD i 0 = l[i] := by simp [List.getD, hi]
    rw [e] at this; omega
  have e1 : l = toI (l.map Int.toNat) := by
    unfold toI
    rw [List.map_map]
    conv => lhs; rw [← List.map_id l]
    apply List.map_congr_left
    intro x hx
    have := hb x hx
    simp; omega
  have hP2 : (l.map Int.toNat).Pairwise (· < ·) := by
    rw [List.pairwise_map]
    refine hP.imp_of_mem ?_
    intro a b ha hb' hab
    have := hb a ha
    have := hb b hb'
    omega
  have hnd : (l.map Int.toNat).Nodup := hP2.imp (fun h => Nat.ne_of_lt h)
  have hlt : ∀ i ∈ l.map Int.toNat, i < n := by
    intro i hi
    obtain ⟨x, hx, rfl⟩ := List.mem_map.1 hi
    have := hb x hx
    omega
  refine ⟨l.map Int.toNat, e1, hnd, hlt, ?_, hP2⟩
  have := List.Nodup.length_le_of_subset hnd (l₂ := List.range n) (fun i hi => List.mem_range.2 (hlt i hi))
  rwa [List.length_range] at this
theorem incF_of {er : List Nat} {n : Nat} (f : Int) (hlt : ∀ i ∈ er, i < n) (hP : er.Pairwise (· < ·)) : incF (toI er) n f = (0, 0) := by
  have : ∀ d k, k + d = (toI er).length → incR (toI er) n f ((toI er).length - k) = (0, 0) := by
    intro d
    induction d with
    | zero => intro k hk; rw [← hk, Nat.add_zero, Nat.sub_self]; rfl
    | succ d ih =>
      intro k hk
      have hk2 : k < er.length := by rw [toI_len] at hk; omega
      rw [incR_at _ _ _ (by omega), toI_get, toI_get]
      have h1 : er.getD k 0 < n := hlt _ (by simp [List.getD, hk2])
      rw [if_neg (by omega), if_neg ?_]
      · exact ih (k + 1) (by omega)
      · intro ⟨a, b⟩
        rw [List.pairwise_iff_getElem] at hP
        have := hP (k - 1) k (by omega) hk2 (by omega)
        have e1 : er.getD k 0 = er[k] := by simp [List.getD, hk2]
        have e2 : er.getD (k - 1) 0 = er[k - 1]'(by omega) := by simp [List.getD, show k - 1 < er.length by omega]
        omega
  exact this _ 0 (Nat.zero_add _)
attribute [irreducible] incF incR
theorem rdI_ext {w : World} {b off n : Nat} {l : List Int} (h : RdI w (some ⟨b, off, none⟩) n l) {i : Nat} (hi : i < n) (x : Ext w) : x.w.cell? ⟨b, off + i, none⟩ = some (.int .i64 (l.getD i 0)) := by
  obtain ⟨b', o', e, hlt, hc⟩ := rdI_cell (h.below x.below) hi
  cases e
  exact hc
set_option maxRecDepth 100000 in
set_option maxHeartbeats 2000000 in
theorem rIncreasing_any (A : Option Addr) (n c : Nat) (l : List Int) (N f : Int) (w : World) (hl : RdI w A n l) (hn : n + f ≤ 9223372036854775807) (hN : 0 ≤ N ∧ N ≤ 9223372036854775807) (hf : 0 ≤ f) :
    Calls Try.prog 33 #[.slice A n c, .int .i64 N, .int .i64 f] w fun e w' => e = .returned (.agg #[.int .i64 (incF l N f).1, .int .i64 (incF l N f).2]) ∧ Below w.heap.size w w' := by
  have ll := hl.1
  subst ll
  have HL := Lib.hid hl
  have HS := Lib.hid (show incF l N f = incR l N f (l.length - 0) by unfold incF; rfl)
  clear hl
  go_enter Try.func33, Try.ntmps33
  go_wp2
  go_loopw [7] (fun i wr => ∃ k : Nat, k ≤ l.length ∧ i = .int .i64 k ∧ incF l N f = incR l N f (l.length - k) ∧ Has wr w.heap.size 0 0 ∧ Below w.heap.size w wr) (fun i _ => l.length - (intOf i).toNat)
  case atStart => exact ⟨0, Nat.zero_le _, rfl, HS.out, Has.new _ _ _ _, below_new _ _⟩
  case round =>
    obtain ⟨k, hk, rfl, hs, hF, hbw⟩ := hrel
    by_cases hlt : k < l.length
    · rw [incR_at l N f hlt] at hs
      have hl1 := HL.out.below hbw
      obtain ⟨b, off, rfl, hlb, hcc⟩ := rdI_cell hl1 (i := k) hlt
      obtain ⟨l0, c00, c01, f00, f01⟩ := id hF
      by_cases c1 : 0 ≤ l.getD k 0 ∧ l.getD k 0 ≤ N - 1
      · rw [if_neg (by simpa using c1)] at hs
        have i1 := inT' c1
        by_cases hk0 : k = 0
        · rw [if_neg (fun h => absurd h.1 (by omega))] at hs
          have HSS := Lib.hid hs
          have dk : decide (0 < k) = false := by simp only [decide_eq_false_iff_not]; omega
          clear hs hk0
          generalize l.getD k 0 = y at *
          have hx := fun x => cell_ext hlb hcc x
          go_wp2_with (go_at_call 26; refine (refIn_any _ _ _ _).mono ?_; rintro e w' ⟨rfl, rfl⟩)
          (refine wp_region_ext (by kernel_rfl) (by kernel_rfl) ?_; (repeat (go_big_quiet_step ((fail)))); refine wpQuiet_nil ?_; intro W5 hw'; have hW5 := ext_below hw'; clear hw')
          go_wp2
          go_roundw
          case rel => exact ⟨k + 1, by omega, by go_num, HSS.out, hF.below hW5, Bw.step hbw hW5⟩
          case measure => simp [intOf]; omega
        · have hx := fun x => rdI_ext hl1 hlt x
          have hx2 := fun x => rdI_ext hl1 (i := k - 1) (by omega) x
          have ws : IntKind.i64.wrap ((k : Int) - 1) = ((k - 1 : Nat) : Int) := by rw [IntWalk.i64_in _ (by omega)]; omega
          have ws2 : (k : Int) - 1 = ((k - 1 : Nat) : Int) := by omega
          have hk1 : k - 1 < l.length := by omega
          have dk : decide (0 < k) = true := by simp only [decide_eq_true_eq]; omega
          have d1 := Lib.hid c1
          by_cases c2 : l.getD k 0 ≤ l.getD (k - 1) 0
          · rw [if_pos ⟨by omega, c2⟩] at hs
            have HSS := Lib.hid hs
            have dc : decide (l.getD k 0 ≤ l.getD (k - 1) 0) = true := by simp only [decide_eq_true_eq]; exact c2
            clear hs c1 c2
            generalize l.getD k 0 = y at *
            generalize l.getD (k - 1) 0 = z at *
            go_wp2_with (go_at_call 26; refine (refIn_any _ _ _ _).mono ?_; rintro e w' ⟨rfl, rfl⟩)
            (refine wp_region_ext (by kernel_rfl) (by kernel_rfl) ?_; (repeat (go_big_quiet_step ((fail)))); refine wpQuiet_nil ?_; intro W5 hw'; have hW5 := ext_below hw'; clear hw')
            have F5 := hF.below hW5
            have B5 := Bw.step hbw hW5
            obtain ⟨l5, c50, c51, f50, f51⟩ := id F5
            go_wp2_with (go_at_call 27; refine (refAt_any _ _ _).mono ?_; rintro e w' ⟨rfl, rfl⟩)
            rw [HSS.out]
            exact bodyPost_ret (resF1 rfl rfl ((F5.set2 11 (f + k)).al _)) rfl ⟨rfl, Bw.al (Bw.set (Bw.set B5 (Nat.le_refl _) _) (Nat.le_refl _) _) _⟩
          · rw [if_neg (fun h => c2 h.2)] at hs
            have HSS := Lib.hid hs
            have dc : decide (l.getD k 0 ≤ l.getD (k - 1) 0) = false := by simp only [decide_eq_false_iff_not]; exact c2
            clear hs c1 c2
            generalize l.getD k 0 = y at *
            generalize l.getD (k - 1) 0 = z at *
            go_wp2_with (go_at_call 26; refine (refIn_any _ _ _ _).mono ?_; rintro e w' ⟨rfl, rfl⟩)
            (refine wp_region_ext (by kernel_rfl) (by kernel_rfl) ?_; (repeat (go_big_quiet_step ((fail)))); refine wpQuiet_nil ?_; intro W5 hw'; have hW5 := ext_below hw'; clear hw')
            go_wp2
            go_roundw
            case rel => exact ⟨k + 1, by omega, by go_num, HSS.out, hF.below hW5, Bw.step hbw hW5⟩
            case measure => simp [intOf]; omega
      · rw [if_pos c1] at hs
        have i1 := inF' c1
        have HSS := Lib.hid hs
        clear hs c1
        generalize l.getD k 0 = y at *
        go_wp2_with (first | (go_at_call 26; refine (refIn_any _ _ _ _).mono ?_; rintro e w' ⟨rfl, rfl⟩) | (go_at_call 27; refine (refAt_any _ _ _).mono ?_; rintro e w' ⟨rfl, rfl⟩))
        rw [HSS.out]
        exact bodyPost_ret (resF1 rfl rfl ((hF.set2 4 (f + k)).al _)) rfl ⟨rfl, Bw.al (Bw.set (Bw.set hbw (Nat.le_refl _) _) (Nat.le_refl _) _) _⟩
    · obtain rfl : k = l.length := by omega
      rw [incR_end] at hs
      have HSS := Lib.hid hs
      obtain ⟨l0, c00, c01, f00, f01⟩ := id hF
      clear hs
      go_wp2_with (go_at_call 27; refine (refAt_any _ _ _).mono ?_; rintro e w' ⟨rfl, rfl⟩)
      rw [HSS.out]
      exact bodyPost_ret (resF1 rfl rfl ((hF.set2 0 0).al _)) rfl ⟨rfl, Bw.al (Bw.set (Bw.set hbw (Nat.le_refl _) _) (Nat.le_refl _) _) _⟩
/-! ### Places where two words differ -/
def dcnt (a b : List GF) (er : List Nat) (k : Nat) : Nat := ((List.range k).filter fun i => decide (a.getD i 0 ≠ b.getD i 0) && decide (i ∉ er)).length
theorem dcnt_full (a b : List GF) (er : List Nat) : dcnt a b er a.length = (wrongs a b er).length := rfl
theorem dcnt_zero (a b : List GF) (er : List Nat) : dcnt a b er 0 = 0 := rfl
theorem dcnt_yes {a b : List GF} {er : List Nat} {k : Nat} (h1 : a.getD k 0 ≠ b.getD k 0) (h2 : k ∉ er) : dcnt a b er (k + 1) = dcnt a b er k + 1 := by
  unfold dcnt
  rw [List.range_succ, List.filter_append, List.length_append]
  congr 1
  rw [show (List.filter (fun i => decide (a.getD i 0 ≠ b.getD i 0) && decide (i ∉ er)) [k]) = [k] from List.filter_cons_of_pos (by rw [decide_eq_true h1, decide_eq_true h2]; rfl)]
  rfl
theorem dcnt_no {a b : List GF} {er : List Nat} {k : Nat} (h : a.getD k 0 = b.getD k 0 ∨ k ∈ er) : dcnt a b er (k + 1) = dcnt a b er k := by
  unfold dcnt
  rw [List.range_succ, List.filter_append, List.length_append]
  rw [show (List.filter (fun i => decide (a.getD i 0 ≠ b.getD i 0) && decide (i ∉ er)) [k]) = [] from List.filter_cons_of_neg (by
    rcases h with h | h
    · rw [decide_eq_false (fun hn => hn h)]; simp
    · rw [decide_eq_false (p := k ∉ er) (fun hn => hn h)]; simp)]
  rfl
theorem dcnt_le (a b : List GF) (er : List Nat) (k : Nat) : dcnt a b er k ≤ k := by
  have := List.length_filter_le (fun i => decide (a.getD i 0 ≠ b.getD i 0) && decide (i ∉ er)) (List.range k)
  rwa [List.length_range] at this
attribute [irreducible] dcnt
set_option maxRecDepth 100000 in
set_option maxHeartbeats 1000000 in
theorem Decode_bad (A I : Option Addr) (n c m ci : Nat) (p : Int) (w : World) (hn : n ≤ 9223372036854775807) (hp : -9223372036854775808 ≤ p ∧ p ≤ 9223372036854775807) (hbad : wF n p ≠ (0, 0)) :
    Calls Try.prog 32 #[.slice A n c, .int .i64 p, .slice I m ci] w fun e w' => e = .returned (.tuple #[.slice none 0 0, .int .i64 0, .agg #[.int .i64 (wF n p).1, .int .i64 (wF n p).2]]) ∧ Below w.heap.size w w' := by
  have HS := Lib.hid (fun w => Syndromes_bad A n c p w hn hp hbad)
  have hc : (wF n p).1 = 4 ∨ (wF n p).1 = 9 := by
    rcases wF_cases n p with ⟨q, _, _, _, _, h⟩ | ⟨_, h⟩ | ⟨_, _, h⟩
    · exact absurd h hbad
    · rw [h]; exact .inl rfl
    · rw [h]; exact .inr rfl
  generalize (wF n p).1 = C at *
  generalize (wF n p).2 = F at *
  have xC : (C == 0) = false := by rw [beq_eq_false_iff_ne]; omega
  clear hbad
  go_enter Try.func32, Try.ntmps32
  go_wp2_with fail
  refine (HS.out _).mono ?_
  rintro e w1 ⟨rfl, hb1⟩
  have F0 := ((Has.new w 0 0 24).below hb1).al (.cells #[.int .i64 C, .int .i64 F] 24)
  have F1 := Has.new w1 C F 24
  have B1 := Bw.al (Bw.step (below_new w (.cells #[.int .i64 0, .int .i64 0] 24)) hb1) (.cells #[.int .i64 C, .int .i64 F] 24)
  clear hb1
  go_wp2
  generalize w1.alloc (.cells #[.int .i64 C, .int .i64 F] 24) = W at *
  generalize w1.heap.size = b1 at *
  have X1 := F1.ext
  (refine wp_region_extail 3 (by kernel_rfl) (by kernel_rfl) ?_; simp only [List.take_succ_cons, List.take_zero, List.drop_succ_cons, List.drop_zero]; (repeat (go_big_quiet_step ((fail)))); refine wpQuiet_nil ?_; intro W5 hw'; have hW5 := ext_below hw'; clear hw')
  have F5 := F0.below hW5
  have B5 := Bw.step B1 hW5
  clear X1
  obtain ⟨l0, c00, c01, f00, f01⟩ := id F5
  go_wp2
  exact bodyPost_ret (resF3 rfl rfl (F5.set2 C F)) rfl ⟨rfl, Bw.set (Bw.set B5 (Nat.le_refl _) _) (Nat.le_refl _) _⟩
/-- What rs.Decode returns for a word of a right length. -/
def DecPost (l : List GF) (p : Nat) (er : List Int) (w0 : World) (e : Ending) (w : World) : Prop :=
  Below w0.heap.size w0 w ∧
  ((incF er l.length 0 ≠ (0, 0) ∧ e = .returned (.tuple #[.slice none 0 0, .int .i64 0, .agg #[.int .i64 (incF er l.length 0).1, .int .i64 (incF er l.length 0).2]])) ∨
   ∃ es, er = toI es ∧ es.Nodup ∧ (∀ i ∈ es, i < l.length) ∧ es.Pairwise (· < ·) ∧
    ((∃ c A' c', Within p l es c ∧ e = .returned (.tuple #[.slice A' l.length c', .int .i64 ((dcnt l c [] l.length : Nat) : Int), .agg #[.int .i64 0, .int .i64 0]]) ∧ OwB w w0.heap.size (.slice A' l.length c') c) ∨
     ((∀ c, ¬ Within p l es c) ∧ e = .returned (.tuple #[.slice none 0 0, .int .i64 0, .agg #[.int .i64 16, .int .i64 (-1)]]))))
set_option maxRecDepth 100000 in
set_option maxHeartbeats 4000000 in
theorem Decode_ok (A I : Option Addr) (n c ci m p : Nat) (l : List GF) (er : List Int) (w : World) (hl : RdB w A n l) (hi : RdI w I m er) (hm : m ≤ 9223372036854775807) (h1 : p ≤ 32) (h2 : p + 1 ≤ n) (h3 : n ≤ 255) :
    Calls Try.prog 32 #[.slice A n c, .int .i64 p, .slice I m ci] w fun e w' => DecPost l p er w e w' := by
  have ll := hl.1
  subst ll
  have li := hi.1
  subst li
  have HL := Lib.hid hl
  have HI := Lib.hid hi
  have HS := Lib.hid (show incF er (l.length : Nat) 0 = incR er (l.length : Nat) 0 (er.length - 0) by unfold incF; rfl)
  clear hl hi
  go_enter Try.func32, Try.ntmps32
  go_wp2_with fail
  refine (Syndromes_ok _ _ _ _ _ _ (HL.out.al _) h1 h2 h3).mono ?_
  rintro e w1 ⟨A1, c1, rfl, ho1, hb1⟩
  have HR1 := Lib.hid (ho1.rd.1.al (.cells #[.int .i64 0, .int .i64 0] 24))
  have F0 := ((Has.new w 0 0 24).below hb1).al (.cells #[.int .i64 0, .int .i64 0] 24)
  have HF0 := Lib.hid F0
  obtain ⟨l1, c10, c11, f10, f11⟩ := Has.new w1 0 0 24
  have B1 := Bw.al (Bw.step (below_new w (.cells #[.int .i64 0, .int .i64 0] 24)) hb1) (.cells #[.int .i64 0, .int .i64 0] 24)
  have HB1 := Lib.hid B1
  clear ho1 hb1 F0 B1
  go_wp2
  clear l1 c10 c11 f10 f11
  generalize w1.alloc (.cells #[.int .i64 0, .int .i64 0] 24) = W at *
  generalize w1.heap.size = b1 at *
  go_loopw [29] (fun i wr => ∃ k : Nat, k ≤ er.length ∧ i = .int .i64 k ∧ incF er (l.length : Nat) 0 = incR er (l.length : Nat) 0 (er.length - k) ∧ wr = W) (fun i _ => er.length - (intOf i).toNat)
  case atStart => exact ⟨0, Nat.zero_le _, rfl, HS.out, rfl⟩
  case round =>
    obtain ⟨k, hk, rfl, hs, rfl⟩ := hrel
    have hF := HF0.out
    have hbw := HB1.out
    by_cases hlt : k < er.length
    · --[[a
      rw [incR_at er _ 0 hlt] at hs
      have hl1 := HI.out.below hbw
      obtain ⟨b, off, rfl, hlb, hcc⟩ := rdI_cell hl1 (i := k) hlt
      obtain ⟨l0, c00, c01, f00, f01⟩ := id hF
      by_cases c1 : 0 ≤ er.getD k 0 ∧ er.getD k 0 ≤ (l.length : Int) - 1
      · rw [if_neg (by simpa using c1)] at hs
        have d1 : decide (er.getD k 0 < 0) = false := by simp only [decide_eq_false_iff_not]; omega
        have d2 : decide ((l.length : Int) ≤ er.getD k 0) = false := by simp only [decide_eq_false_iff_not]; omega
        by_cases hk0 : k = 0
        · rw [if_neg (fun h => absurd h.1 (by omega))] at hs
          have HSS := Lib.hid hs
          have dk : decide (0 < k) = false := by simp only [decide_eq_false_iff_not]; omega
          clear hs hk0 c1
          generalize er.getD k 0 = y at *
          go_wp2
          go_roundw
          case rel => exact ⟨k + 1, by omega, by go_num, HSS.out, by first | rfl | trivial⟩
          case measure => simp [intOf]; omega
        · obtain ⟨b', off', e', _, hcd⟩ := rdI_cell hl1 (i := k - 1) (by omega)
          cases e'
          have ws : IntKind.i64.wrap ((k : Int) - 1) = ((k - 1 : Nat) : Int) := by rw [IntWalk.i64_in _ (by omega)]; omega
          have ws2 : (k : Int) - 1 = ((k - 1 : Nat) : Int) := by omega
          have hk1 : k - 1 < er.length := by omega
          have dk : decide (0 < k) = true := by simp only [decide_eq_true_eq]; omega
          by_cases c2 : er.getD k 0 ≤ er.getD (k - 1) 0
          · rw [if_pos ⟨by omega, c2⟩] at hs
            have HSS := Lib.hid hs
            have dc : decide (er.getD k 0 ≤ er.getD (k - 1) 0) = true := by simp only [decide_eq_true_eq]; exact c2
            clear hs c1 c2
            generalize er.getD k 0 = y at *
            generalize er.getD (k - 1) 0 = z at *
            go_wp2_with (go_at_call 36; refine (rsFault_any _ _ _).mono ?_; rintro e w' ⟨rfl, rfl⟩)
            exact bodyPost_ret (resF3 rfl rfl ((hF.set2 11 k).al _)) rfl ⟨Bw.al (Bw.set (Bw.set hbw (Nat.le_refl _) _) (Nat.le_refl _) _) _, .inl ⟨by rw [HSS.out]; simp, by rw [HSS.out, Int.zero_add]; rfl⟩⟩
          · rw [if_neg (fun h => c2 h.2)] at hs
            have HSS := Lib.hid hs
            have dc : decide (er.getD k 0 ≤ er.getD (k - 1) 0) = false := by simp only [decide_eq_false_iff_not]; exact c2
            clear hs c1 c2
            generalize er.getD k 0 = y at *
            generalize er.getD (k - 1) 0 = z at *
            go_wp2
            go_roundw
            case rel => exact ⟨k + 1, by omega, by go_num, HSS.out, by first | rfl | trivial⟩
            case measure => simp [intOf]; omega
      · rw [if_pos c1] at hs
        have HSS := Lib.hid hs
        by_cases c2 : er.getD k 0 < 0
        all_goals
          clear hs
          generalize er.getD k 0 = y at *
          first
            | (have d1 : decide (y < 0) = true := by simp only [decide_eq_true_eq]; omega)
            | (have d1 : decide (y < 0) = false := by simp only [decide_eq_false_iff_not]; omega
               have d2 : decide ((l.length : Int) ≤ y) = true := by simp only [decide_eq_true_eq]; omega)
          clear c1 c2
          go_wp2_with (go_at_call 36; refine (rsFault_any _ _ _).mono ?_; rintro e w' ⟨rfl, rfl⟩)
          exact bodyPost_ret (resF3 rfl rfl ((hF.set2 4 k).al _)) rfl ⟨Bw.al (Bw.set (Bw.set hbw (Nat.le_refl _) _) (Nat.le_refl _) _) _, .inl ⟨by rw [HSS.out]; simp, by rw [HSS.out, Int.zero_add]; rfl⟩⟩
    · obtain rfl : k = er.length := by omega
      rw [incR_end] at hs
      obtain ⟨es, rfl, hnd, hel, hen, hP⟩ := incF_nat hs
      have HP := Lib.hid hP
      have HEL := Lib.hid hel
      have HND := Lib.hid hnd
      have hI2 : RdI wr I es.length (toI es) := by rw [← toI_len]; exact HI.out.below hbw
      have HC := Lib.hid (fun cs ci => correct_any A A1 I c cs ci p l es wr (HL.out.below hbw) HR1.out hI2 h3 h1 hnd hel (by omega))
      rw [toI_len] at *
      clear hs hnd hel hP hI2 hlt hk
      go_wp2_with fail
      refine (HC.out _ _).mono ?_
      rintro e w2 hpost
      rcases hpost with ⟨cw, A2, c2, hwi, rfl, ho2, hb2⟩ | ⟨hno, ⟨A2, n2, c2, rfl⟩, hb2⟩
      · have HW := Lib.hid hwi
        have HO2 := Lib.hid ho2
        have hcl : l.length = cw.length := hwi.1.symm
        have HCL := Lib.hid hcl
        have hF2 := hF.below hb2
        have hbw2 := Bw.step hbw hb2
        have HL2 := Lib.hid ((HL.out.below hbw).below hb2)
        have HR2 := Lib.hid ho2.rd.1
        clear hwi ho2 hcl hb2 hF hbw
        go_wp2
        go_loopw [15, 70] (fun d i wr => ∃ k : Nat, k ≤ l.length ∧ i = .int .i64 k ∧ d = .int .i64 (dcnt l cw [] k : Nat) ∧ Below w2.heap.size w2 wr) (fun _ i _ => l.length - (intOf i).toNat)
        case atStart => exact ⟨0, Nat.zero_le _, rfl, by rw [dcnt_zero]; rfl, Below.refl _ _⟩
        case round =>
          obtain ⟨k, hk, rfl, rfl, hb3⟩ := hrel
          have hdl := dcnt_le l cw [] k
          by_cases hlt : k < l.length
          · --[[b
            obtain ⟨b3, o3, rfl, hl3, hc3⟩ := rd_cell (HL2.out.below hb3) (i := k) hlt
            obtain ⟨b4, o4, rfl, hl4, hc4⟩ := rd_cell (HR2.out.below hb3) (i := k) hlt
            have hx3 := fun x => cell_ext hl3 hc3 x
            have hx4 := fun x => cell_ext hl4 hc4 x
            by_cases he : cf l k = cf cw k
            · have z0 := z_eq he
              have HD := Lib.hid (dcnt_no (er := []) (.inl he))
              generalize cf l k = y at *
              generalize cf cw k = z at *
              clear he
              go_wp2
              (refine wp_region_ext (by kernel_rfl) (by kernel_rfl) ?_; (repeat (go_big_quiet_step ((fail)))); refine wpQuiet_nil ?_; intro W5 hw'; have hW5 := ext_below hw'; clear hw')
              go_wp2
              go_roundw
              case rel => exact ⟨k + 1, by omega, by go_num, by rw [HD.out], Bw.step hb3 hW5⟩
              case measure => simp [intOf]; omega
            · have z0 := z_ne he
              have HD := Lib.hid (dcnt_yes (er := []) he (by simp))
              generalize cf l k = y at *
              generalize cf cw k = z at *
              clear he
              go_wp2
              (refine wp_region_ext (by kernel_rfl) (by kernel_rfl) ?_; (repeat (go_big_quiet_step ((fail)))); refine wpQuiet_nil ?_; intro W5 hw'; have hW5 := ext_below hw'; clear hw')
              go_wp2
              go_roundw
              case rel => exact ⟨k + 1, by omega, by go_num, by rw [HD.out]; go_num, Bw.step hb3 hW5⟩
              case measure => simp [intOf]; omega
          · obtain rfl : k = l.length := by omega
            have F3 := hF2.below hb3
            have B3 := Bw.step hbw2 hb3
            obtain ⟨l0, c00, c01, f00, f01⟩ := id F3
            go_wp2
            have hl := HB1.out.size
            have hlw := HF0.out.1
            exact bodyPost_ret (resF3 rfl rfl (F3.set2 0 0)) rfl ⟨Bw.set (Bw.set B3 (Nat.le_refl _) _) (Nat.le_refl _) _, .inr ⟨es, rfl, HND.out, HEL.out, HP.out, .inl ⟨cw, A2, c2, HW.out, rfl, own_base (((HO2.out.below hb3).low (p := ⟨w.heap.size, 0, none⟩) hlw _).low (p := ⟨w.heap.size, 1, none⟩) hlw _) (Nat.le_of_lt hlw)⟩⟩⟩
      · have hF2 := hF.below hb2
        have hbw2 := Bw.step hbw hb2
        obtain ⟨l0, c00, c01, f00, f01⟩ := id hF2
        have HN := Lib.hid hno
        clear hno
        go_wp2_with (go_at_call 36; refine (rsFault_any _ _ _).mono ?_; rintro e w' ⟨rfl, rfl⟩)
        exact bodyPost_ret (resF3 rfl rfl ((hF2.set2 16 (-1)).al _)) rfl ⟨Bw.al (Bw.set (Bw.set hbw2 (Nat.le_refl _) _) (Nat.le_refl _) _) _, .inr ⟨es, rfl, HND.out, HEL.out, HP.out, .inr ⟨HN.out, rfl⟩⟩⟩
end Go.Proofs.Ytcinfkmekkdhfaa
/- The example that each law on codes looks at ('coded'); the law's 'changed' and 'differences'. -/
namespace Go.Proofs.Ytcinfkmekkdhfaa
open Go.RowKit
set_option linter.unusedVariables false

theorem toI_inj : ∀ {a b : List Nat}, toI a = toI b → a = b
  | [], [], _ => rfl
  | [], _ :: _, h => by simp [toI] at h
  | _ :: _, [], h => by simp [toI] at h
  | x :: a, y :: b, h => by
    simp only [toI, List.map_cons, List.cons.injEq] at h
    rw [toI_inj (a := a) (b := b) h.2, show x = y by omega]
/-- What rs.Decode returns where a code word lies within the bound. -/
theorem DecPost.hit {l c : List GF} {p : Nat} {es : List Nat} {w0 w : World} {e : Ending} (h : DecPost l p (toI es) w0 e w) (hn : l.length ≤ 255) (hlt : ∀ i ∈ es, i < l.length) (hP : es.Pairwise (· < ·)) (hW : Within p l es c) :
    ∃ A' c', e = .returned (.tuple #[.slice A' l.length c', .int .i64 ((dcnt l c [] l.length : Nat) : Int), .agg #[.int .i64 0, .int .i64 0]]) ∧ OwB w w0.heap.size (.slice A' l.length c') c ∧ Below w0.heap.size w0 w := by
  obtain ⟨hb, h⟩ := h
  rcases h with ⟨h, _⟩ | ⟨es', he, hnd, _, _, h⟩
  · exact absurd (incF_of 0 hlt hP) h
  · obtain rfl := toI_inj he
    rcases h with ⟨d, A', c', hd, h1, h2⟩ | ⟨h, _⟩
    · obtain rfl := within_unique hn hnd hlt hd hW
      exact ⟨A', c', h1, h2, hb⟩
    · exact absurd hW (h c)
theorem DecPost.miss {l : List GF} {p : Nat} {es : List Nat} {w0 w : World} {e : Ending} (h : DecPost l p (toI es) w0 e w) (hlt : ∀ i ∈ es, i < l.length) (hP : es.Pairwise (· < ·)) (hW : ∀ c, ¬ Within p l es c) :
    e = .returned (.tuple #[.slice none 0 0, .int .i64 0, .agg #[.int .i64 16, .int .i64 (-1)]]) ∧ Below w0.heap.size w0 w := by
  obtain ⟨hb, h⟩ := h
  rcases h with ⟨h, _⟩ | ⟨es', he, hnd, _, _, h⟩
  · exact absurd (incF_of 0 hlt hP) h
  · obtain rfl := toI_inj he
    rcases h with ⟨d, A', c', hd, h1, h2⟩ | ⟨_, h⟩
    · exact absurd hd (hW d)
    · exact ⟨h, hb⟩
theorem DecPost.bad {l : List GF} {p : Nat} {er : List Int} {w0 w : World} {e : Ending} (h : DecPost l p er w0 e w) (hF : incF er l.length 0 ≠ (0, 0)) :
    e = .returned (.tuple #[.slice none 0 0, .int .i64 0, .agg #[.int .i64 (incF er l.length 0).1, .int .i64 (incF er l.length 0).2]]) ∧ Below w0.heap.size w0 w := by
  obtain ⟨hb, h⟩ := h
  rcases h with ⟨_, h⟩ | ⟨es, rfl, hnd, hlt, hP, h⟩
  · exact ⟨h, hb⟩
  · exact absurd (incF_of 0 hlt hP) hF
def b7 : GF := GF.mk 7 (by decide)
theorem cw132 : isCW 2 [b1, b3, b2] := by
  intro j hj
  have : j = 0 ∨ j = 1 := by omega
  rcases this with rfl | rfl
  · show synd [b1, b3, b2] 0 = 0
    decide +kernel
  · show synd [b1, b3, b2] 1 = 0
    decide +kernel
theorem enc132 : IsEnc [b1] 2 [b1, b3, b2] := ⟨rfl, rfl, cw132⟩
theorem w133 : (wrongs [b1, b3, b3] [b1, b3, b2] []).length = 1 := by decide +kernel
theorem w772 : (wrongs [b7, b7, b2] [b1, b3, b2] []).length = 2 := by decide +kernel
theorem w772e : (wrongs [b7, b7, b2] [b1, b3, b2] [0, 1]).length = 0 := by decide +kernel
theorem wi133 : Within 2 [b1, b3, b3] [] [b1, b3, b2] := ⟨rfl, cw132, by rw [w133]; decide⟩
theorem wi772 : Within 2 [b7, b7, b2] [0, 1] [b1, b3, b2] := ⟨rfl, cw132, by rw [w772e]; decide⟩
theorem RdI.l2 (w : World) (g : Nat) (x y : Int) (t : TypeId) (hg : g = w.heap.size) : RdI (w.alloc (.cells #[.int .i64 x, .int .i64 y] t)) (some ⟨g, 0, none⟩) 2 [x, y] := by
  subst hg
  refine ⟨rfl, fun _ => ⟨_, 0, rfl, by simp, fun i hi => ?_⟩⟩
  have : i = 0 ∨ i = 1 := by omega
  rcases this with rfl | rfl <;> simp [go_sem]
theorem RdI.nil (w : World) (A : Option Addr) : RdI w A 0 [] := ⟨rfl, fun h => absurd h (Nat.lt_irrefl 0)⟩
theorem RdB.nil (w : World) (A : Option Addr) : RdB w A 0 [] := ⟨rfl, fun h => absurd h (Nat.lt_irrefl 0)⟩
end Go.Proofs.Ytcinfkmekkdhfaa
/- Walks of the law's 'differences' and 'changed'. -/
namespace Go.Proofs.Ytcinfkmekkdhfaa
open Go.RowKit
set_option linter.unusedVariables false

/-- append of bytes, of any length that fits. -/
theorem wpList_appB47 (w : World) {ops : Array Oper} {rest : List Oper} {o : Oper} {a : Act} {Q : Exit → Act → World → Prop} (hgd : o.guard = none) (s x : Operand)
    (ho : o.op = .call { callee := .builtin .append, args := #[s, x], argTypes := #[41, 41] }) (B : Nat)
    (v : Value) (l : List GF) (hs : a.eval s = v) (hown : OwB w B v l) (A : Option Addr) (m c : Nat) (r : List GF) (hx : a.eval x = .slice A m c) (hr : RdB w A m r)
    (hlen : l.length + r.length ≤ 140737488355328) (hbase : B ≤ w.heap.size)
    (h : ∀ v' w', OwB w' B v' (l ++ r) → w.grownBy w' v.ownBlock → (v'.ownBlock = v.ownBlock ∨ v'.ownBlock = some w.heap.size) → wpList Try.prog ops Q rest (a.put o.dst v') w') : wpList Try.prog ops Q (o :: rest) a w := by
  refine wpList_app w hgd s x _ ho B 5 (.int .u8 0) 1 Try.underlying41 infoB rfl v l.length (cB l) hs hown A m c (cB r) hx hr.rdV (cB_one r) (by have := hr.1; unfold maxLen; omega) (by have := hr.1; omega) hbase (fun v' w' h1 h2 h3 => h v' w' ?_ h2 h3)
  unfold OwB
  have e : cB (l ++ r) = cB l ++ cB r := by unfold cB; rw [List.map_append]
  rw [e, List.length_append, hr.1]; exact h1
theorem hasI_yes {es : List Nat} {k : Nat} (h : k ∈ es) : hasI (toI es) k = true := decide_eq_true (mem_toI.2 h)
theorem hasI_no {es : List Nat} {k : Nat} (h : k ∉ es) : hasI (toI es) k = false := decide_eq_false fun e => h (mem_toI.1 e)
/-! ### The law's changed words -/
def chg (l : List GF) (ps : List Int) (vs : List GF) : Nat → List GF
  | 0 => l
  | k + 1 => if 0 ≤ ps.getD k 0 ∧ 0 < l.length then (chg l ps vs k).set (ps.getD k 0 % (l.length : Int)).toNat ((chg l ps vs k).getD (ps.getD k 0 % (l.length : Int)).toNat 0 + vs.getD k 0) else chg l ps vs k
theorem chg_len (l : List GF) (ps : List Int) (vs : List GF) (k : Nat) : (chg l ps vs k).length = l.length := by
  induction k with
  | zero => rfl
  | succ k ih =>
    unfold chg
    split
    · rw [List.length_set, ih]
    · exact ih
def changedL (l : List GF) (ps : List Int) (vs : List GF) : List GF := chg l ps vs (min ps.length vs.length)
theorem changedL_len (l : List GF) (ps : List Int) (vs : List GF) : (changedL l ps vs).length = l.length := chg_len _ _ _ _
theorem chg_yes {l : List GF} {ps : List Int} {vs : List GF} {k : Nat} (h1 : 0 ≤ ps.getD k 0) (h2 : 0 < l.length) : chg l ps vs (k + 1) = (chg l ps vs k).set (ps.getD k 0 % (l.length : Int)).toNat ((chg l ps vs k).getD (ps.getD k 0 % (l.length : Int)).toNat 0 + vs.getD k 0) := by
  rw [chg, if_pos ⟨h1, h2⟩]
theorem chg_no {l : List GF} {ps : List Int} {vs : List GF} {k : Nat} (h : ¬ (0 ≤ ps.getD k 0 ∧ 0 < l.length)) : chg l ps vs (k + 1) = chg l ps vs k := by
  rw [chg, if_neg h]
attribute [irreducible] chg
set_option maxRecDepth 100000 in
set_option maxHeartbeats 4000000 in
theorem changed_any (A I V : Option Addr) (n ca mi ci mv cq : Nat) (l : List GF) (ps : List Int) (vs : List GF) (w : World) (hl : RdB w A n l) (hp : RdI w I mi ps) (hv : RdB w V mv vs) (hn : n ≤ 140737488355328) (hi : mi ≤ 9223372036854775807) (hm : mv ≤ 9223372036854775807) :
    Calls Try.prog 19 #[.slice A n ca, .slice I mi ci, .slice V mv cq] w fun e w' => ∃ A' c', e = .returned (.slice A' n c') ∧ OwB w' w.heap.size (.slice A' n c') (changedL l ps vs) ∧ Below w.heap.size w w' := by
  have ll := hl.1
  subst ll
  have HL := Lib.hid hl
  have HP := Lib.hid hp
  have HV := Lib.hid hv
  have HE : Hid (changedL l ps vs = chg l ps vs (min mi mv)) := Lib.hid (by unfold changedL; rw [hp.1, hv.1])
  have H0 : Hid (chg l ps vs 0 = l) := Lib.hid (by unfold chg; rfl)
  clear hl hp hv
  go_enter Try.func19, Try.ntmps19
  go_wp2_with (at_builtin; refine wpList_appB47 _ rfl (.tmp 9) (.tmp 10) rfl w.heap.size (.slice (some ⟨w.heap.size, 0, none⟩) 0 0) [] rfl (OwB.empty w _ (Nat.le_refl _)) A l.length ca l rfl (HL.out.al _) ?_ ?_ ?_; (simp; omega); (simp); intro v1 w1 ho1 hg1 hat1)
  have B1 := Lib.hid (show Below w.heap.size w w1 from (below_new w (.cells #[] 5)).trans (grown_below hg1 (OwB.empty w _ (Nat.le_refl _)) (by simp)))
  rw [List.nil_append] at ho1
  obtain ⟨A1, c1, rfl⟩ := ho1.form
  have HO1 := Lib.hid ho1
  clear hg1 hat1 ho1
  go_wp2
  go_loopw [8] (fun i wr => ∃ k : Nat, k ≤ min mi mv ∧ i = .int .i64 k ∧ OwB wr w.heap.size (.slice A1 l.length c1) (chg l ps vs k) ∧ Below w.heap.size w wr) (fun i _ => min mi mv - (intOf i).toNat)
  case atStart => exact ⟨0, Nat.zero_le _, rfl, by rw [H0.out]; exact HO1.out, B1.out⟩
  case round =>
    obtain ⟨k, hk, rfl, ho, hbw⟩ := hrel
    by_cases hlt : k < min mi mv
    · have hk1 : k < mi := by omega
      have hk2 : k < mv := by omega
      obtain ⟨b, off, rfl, hlb, hcc⟩ := rdI_cell (HP.out.below hbw) (i := k) hk1
      by_cases hy : 0 ≤ ps.getD k 0
      · by_cases hl0 : 0 < l.length
        · have hst := chg_yes (vs := vs) hy hl0
          obtain ⟨b2, off2, rfl, hlb2, hcc2⟩ := rd_cell (HV.out.below hbw) (i := k) hk2
          obtain ⟨g, rfl⟩ := ho.head hl0
          have hj0 : 0 ≤ ps.getD k 0 % (l.length : Int) ∧ ps.getD k 0 % (l.length : Int) < l.length := ⟨Int.emod_nonneg _ (by omega), Int.emod_lt_of_pos _ (by omega)⟩
          obtain ⟨j, hj⟩ := Int.eq_ofNat_of_zero_le hj0.1
          have hjl : j < l.length := by omega
          rw [hj, Int.toNat_natCast] at hst
          have htm : (ps.getD k 0).tmod (l.length : Int) = (j : Int) := by rw [Int.tmod_eq_emod_of_nonneg hy]; exact hj
          have HST := Lib.hid hst
          have hcg := ho.cellAt (i := j) hjl
          have hlg := ho.lt
          have hx1 := fun x => cell_ext hlb hcc x
          have hx2 := fun x => cell_ext hlb2 hcc2 x
          have hx3 := fun x => cell_ext hlg.2 hcg x
          have HO := Lib.hid ho
          have d1 : decide (0 ≤ ps.getD k 0) = true := by simp only [decide_eq_true_eq]; exact hy
          have d2 : decide ((0 : Int) < l.length) = true := by simp only [decide_eq_true_eq]; omega
          have d3 : decide (0 < l.length) = true := by simp only [decide_eq_true_eq]; omega
          have hlz : ((l.length : Int) == 0) = false := by rw [beq_eq_false_iff_ne]; omega
          have hlne : l.length ≠ 0 := by omega
          clear ho hst hj hj0
          generalize hyy : ps.getD k 0 = y at *
          generalize hoo : (chg l ps vs k).getD j 0 = oo at *
          generalize hvv : cf vs k = vv at *
          go_wp2
          (refine wp_region_extail 24 (by kernel_rfl) (by kernel_rfl) ?_; simp only [List.take_succ_cons, List.take_zero, List.drop_succ_cons, List.drop_zero]; (repeat (go_big_quiet_step ((fail)))); refine wpQuiet_nil ?_; intro W5 hw'; have hW5 := ext_below hw'; clear hw')
          have HO5 := Lib.hid (HO.out.below hW5)
          have hc5 := HO5.out.cellAt (i := j) hjl
          have hf5 := HO5.out.frozenAt j
          have hb5 := Bw.step hbw hW5
          have xz := xorZ oo vv
          have HXX := Lib.hid hoo
          have HVV : Hid (vs.getD k 0 = vv) := Lib.hid hvv
          clear hoo hvv hyy
          go_wp2
          go_roundw
          case rel => exact ⟨k + 1, by omega, by go_num, by rw [HST.out, HVV.out]; exact HO5.out.set j _, Bw.set hb5 hlg.1 _⟩
          case measure => simp [intOf]; omega
        · have HST := Lib.hid (chg_no (ps := ps) (vs := vs) (k := k) (fun h => hl0 h.2))
          have HO := Lib.hid ho
          have d2 : decide ((0 : Int) < l.length) = false := by simp only [decide_eq_false_iff_not]; omega
          have d3 : decide (0 < l.length) = false := by simp only [decide_eq_false_iff_not]; omega
          have d1 : decide (0 ≤ ps.getD k 0) = true := by simp only [decide_eq_true_eq]; exact hy
          clear ho
          generalize hyy : ps.getD k 0 = y at *
          clear hyy
          go_wp2
          go_roundw
          case rel => exact ⟨k + 1, by omega, by go_num, by rw [HST.out]; exact HO.out, hbw⟩
          case measure => simp [intOf]; omega
      · have HST := Lib.hid (chg_no (l := l) (ps := ps) (vs := vs) (k := k) (fun h => hy h.1))
        have HO := Lib.hid ho
        have d1 : decide (0 ≤ ps.getD k 0) = false := by simp only [decide_eq_false_iff_not]; exact hy
        clear ho
        generalize hyy : ps.getD k 0 = y at *
        clear hyy
        go_wp2
        go_roundw
        case rel => exact ⟨k + 1, by omega, by go_num, by rw [HST.out]; exact HO.out, hbw⟩
        case measure => simp [intOf]; omega
    · have hkk : k = min mi mv := by omega
      have HO := Lib.hid (show OwB wr w.heap.size (.slice A1 l.length c1) (changedL l ps vs) by rw [HE.out, ← hkk]; exact ho)
      clear ho
      by_cases hq : k < mi
      · have hq2 : ¬ k < mv := by omega
        clear hkk hlt
        go_wp2
        go_ret
        exact ⟨A1, c1, rfl, HO.out, hbw⟩
      · clear hkk hlt
        go_wp2
        go_ret
        exact ⟨A1, c1, rfl, HO.out, hbw⟩
end Go.Proofs.Ytcinfkmekkdhfaa
