/- Walk of rs.connect: the algorithm of Berlekamp and Massey. -/
import Derived.Test.YtpkaaiefnabfbabRsI
namespace Go.Proofs.Ytpkaaiefnabfbab
open Go.RowKit
set_option linter.unusedVariables false

theorem pcv_one (f g : PS) (n : Nat) : pcv f g 1 n = f 0 * g n := by
  show 0 + (if 0 ≤ n then f 0 * g (n - 0) else 0) = _
  rw [if_pos (Nat.zero_le n), GF.zero_add, Nat.sub_zero]
theorem cf_shift (g : Nat) (B : List GF) : cf (List.replicate g 0 ++ B) = pxn g (cf B) := by
  funext i
  rw [pxn_get]
  unfold cf
  by_cases h : i < g
  · rw [if_pos h]; simp [List.getD, List.getElem?_append, h]
  · rw [if_neg h]; simp [List.getD, List.getElem?_append, h]
theorem next_cf (C B : List GF) (g : Nat) (q : GF) : cf (sumP C (prodP (List.replicate g 0 ++ B) [q])) = nextC (cf C) (cf B) g q := by
  rw [cf_sumP, cf_prodP, cv_const, cf_shift]; rfl
theorem Tr_shift_len {B : List GF} {g n : Nat} (hB : Tr B) (h : degB n (pxn g (cf B))) : B = [] ∨ B.length + g ≤ n := by
  rcases hB with hB | hB
  · exact .inl hB
  · by_cases hn : B = []
    · exact .inl hn
    · right
      have hp : 0 < B.length := List.length_pos_iff.2 hn
      rcases Nat.lt_or_ge (B.length - 1 + g) n with h1 | h1
      · omega
      · have := h _ h1
        rw [pxn_get, if_neg (by omega), Nat.add_sub_cancel] at this
        exact absurd this hB
def BmRel (s : List GF) (w wr : World) (n L g : Nat) (A B : Option Addr) (c d : Nat) (C D : List GF) (b : GF) : Prop :=
  RdB wr A C.length C ∧ RdB wr B D.length D ∧ Tr C ∧ Tr D ∧ BM (cf s) n L (cf C) (cf D) g b ∧ g ≤ n + 1 ∧ D.length ≤ 60 ∧ Below w.heap.size w wr
set_option maxRecDepth 100000 in
set_option maxHeartbeats 4000000 in
theorem connect_any (S : Option Addr) (N cs : Nat) (s : List GF) (w : World) (hs : RdB w S N s) (hN : N ≤ 40) :
    Calls Try.prog 62 #[.slice S N cs] w fun e w' => ∃ A' c' C L, e = .returned (.tuple #[.slice A' (List.length C) c', .int .i64 ((L : Nat) : Int)]) ∧ RdB w' A' (List.length C) C ∧ List.length C ≤ L + 1 ∧ L ≤ N ∧ LF (cf s) N L (cf C) ∧ (∀ l D, LF (cf s) N l D → L ≤ l) ∧ Below w.heap.size w w' := by
  have HS := Lib.hid hs
  clear hs
  have R1 := (RdB.l1 w w.heap.size 1 1 5 rfl rfl).al (.cells #[.int .u8 1] 5)
  have R2 := RdB.l1 (w.alloc (.cells #[.int .u8 1] 5)) (w.heap.size + 1) 1 1 5 (by simp) rfl
  have B2 := Bw.al (below_new w (.cells #[.int .u8 1] 5)) (.cells #[.int .u8 1] 5)
  have c1 : cf [1] = pone := by
    funext i
    cases i with
    | zero => rfl
    | succ i => simp [cf, pone]
  have H0 := Lib.hid (show BmRel s w _ 0 0 1 _ _ 1 1 [1] [1] 1 from ⟨R1, R2, .inr GF.one_ne, .inr GF.one_ne, by rw [c1]; exact BM.start (cf s), Nat.le_refl _, by simp, B2⟩)
  clear R1 R2 B2 c1
  go_enter Try.func62, Try.ntmps62
  go_wp2
  generalize (w.alloc (.cells #[.int .u8 1] 5)).alloc (.cells #[.int .u8 1] 5) = W at *
  go_loopw [4, 5, 6, 7, 8, 23] (fun u v l g b i wr => ∃ (n L gp : Nat) (A B : Option Addr) (c d : Nat) (C D : List GF) (x : GF), n ≤ N ∧ u = .slice A (List.length C) c ∧ v = .slice B (List.length D) d ∧ l = .int .i64 L ∧ g = .int .i64 gp ∧ b = .int .u8 x.z ∧ i = .int .i64 n ∧ BmRel s w wr n L gp A B c d C D x) (fun _ _ _ _ _ i _ => N - (intOf i).toNat)
  case atStart => exact ⟨0, 0, 1, _, _, 1, 1, [1], [1], 1, Nat.zero_le _, rfl, rfl, rfl, rfl, rfl, rfl, H0.out⟩
  case round =>
    obtain ⟨n, L, gp, A1, A2, c1, c2, C, D, x, hn, rfl, rfl, rfl, rfl, rfl, rfl, hR⟩ := hrel
    have HR := Lib.hid hR
    obtain ⟨RC, RD, tC, tD, hbm, hgn, hdl, hbw⟩ := hR
    have hLn := hbm.le
    have hCl : C.length ≤ L + 1 := Tr_len tC hbm.lf.2.1
    have hC1 : 1 ≤ C.length := by
      rcases Nat.eq_zero_or_pos C.length with h | h
      · have h0 := hbm.lf.1
        rw [degB_cf C 0 (by omega)] at h0
        exact absurd h0.symm GF.one_ne
      · exact h
    clear RC RD tC tD
    by_cases hlt : n < N
    · have HBM := Lib.hid hbm
      have HP0 := Lib.hid (show pcv (cf C) (cf s) 1 n = cf s n by rw [pcv_one, hbm.lf.1, GF.one_mul])
      have HPE := Lib.hid (pcv_full (cf C) (cf s) (degB_cf C) n)
      clear hbm
      obtain ⟨bs, os, rfl, hls, hcs⟩ := rd_cell (HS.out.below hbw) (i := n) hlt
      have dn : decide ((n : Int) < N) = true := by simp only [decide_eq_true_eq]; omega
      rw [← HP0.out] at hcs
      go_wp2
      obtain ⟨wo, rfl⟩ : ∃ wo : World, wo = wr := ⟨_, rfl⟩
      go_loopw [10, 11] (fun dv i wr => ∃ k : Nat, 1 ≤ k ∧ k ≤ C.length ∧ i = .int .i64 k ∧ dv = .int .u8 (pcv (cf C) (cf s) k n).z ∧ Below wo.heap.size wo wr) (fun _ i _ => C.length - (intOf i).toNat)
      case atStart => exact ⟨1, Nat.le_refl _, hC1, rfl, rfl, Below.refl _ _⟩
      case round =>
        obtain ⟨k, hk1, hk, rfl, rfl, hbi⟩ := hrel
        by_cases hlk : k < C.length
        · have HP := Lib.hid (show pcv (cf C) (cf s) (k + 1) n = pcv (cf C) (cf s) k n + cf C k * cf s (n - k) by rw [pcv, if_pos (by omega)])
          obtain ⟨b3, o3, rfl, hl3, hc3⟩ := rd_cell (HR.out.1.below hbi) (i := k) hlk
          obtain ⟨b4, o4, hSe, hl4, hc4⟩ := rd_cell (HS.out.below (Bw.step hbw hbi)) (i := n - k) (by omega)
          cases hSe
          have hx3 := fun x => cell_ext hl3 hc3 x
          have hx4 := fun x => cell_ext hl4 hc4 x
          have ws : IntKind.i64.wrap ((n : Int) - k) = ((n - k : Nat) : Int) := by rw [IntWalk.i64_in _ (by omega)]; omega
          have hnk : n - k < N := by omega
          have e1 : decide ((k : Int) ≤ L) = true := by simp only [decide_eq_true_eq]; omega
          have e2 : decide ((k : Int) < C.length) = true := by simp only [decide_eq_true_eq]; omega
          generalize pcv (cf C) (cf s) k n = pv at *
          go_wp2
          (refine wp_region_ext (by kernel_rfl) (by kernel_rfl) ?_; (repeat (go_big_quiet_step ((first | (go_at_call 26; exact ext_same (gMulZ _ _ _)) | (go_at_call 25; exact ext_same (gAddZ _ _ _)))))); refine wpQuiet_nil ?_; intro W5 hw'; have hW5 := ext_below hw'; clear hw')
          clear hx3 hx4 hc3 hc4 ws
          go_wp2
          go_roundw
          case rel => exact ⟨k + 1, by omega, by omega, by go_num, by rw [HP.out], Bw.step hbi hW5⟩
          case measure => simp [intOf]; omega
        · obtain rfl : k = C.length := by omega
          rw [HPE.out]
          have hbw2 := Bw.step hbw hbi
          have RC := HR.out.1.below hbi
          have RD := HR.out.2.1.below hbi
          by_cases hz : cv (cf C) (cf s) n = 0
          · have HK := Lib.hid (show BmRel s w wr (n + 1) L (gp + 1) A1 A2 c1 c2 C D x from ⟨RC, RD, HR.out.2.2.1, HR.out.2.2.2.1, HBM.out.skip hz, by omega, hdl, hbw2⟩)
            rw [hz]
            have z0 : ((0 : GF).z == 0) = true := rfl
            generalize (0 : GF).z = y at *
            clear hz RC RD
            rcases Nat.lt_or_ge L C.length with hq | hq
            all_goals
              first
                | (have e1 : decide ((C.length : Int) ≤ L) = false := by simp only [decide_eq_false_iff_not]; omega)
                | (have e1 : decide ((C.length : Int) ≤ L) = true := by simp only [decide_eq_true_eq]; omega
                   have e2 : decide ((C.length : Int) < C.length) = false := by simp)
              go_wp2
              go_roundw
              case rel => first | exact ⟨n + 1, L, gp + 1, A1, A2, c1, c2, C, D, x, by omega, rfl, rfl, rfl, by go_num, rfl, by go_num, HK.out⟩ | ((repeat apply Exists.intro); exact ⟨⟨n + 1, L, gp + 1, A1, A2, c1, c2, C, D, x, by omega, rfl, rfl, rfl, by go_num, rfl, by go_num, HK.out⟩, rfl⟩)
              case measure => simp [intOf]; omega
          · have z0 : ((cv (cf C) (cf s) n).z == 0) = false := z_ne0 hz
            have HZ := Lib.hid hz
            have HNE := Lib.hid HBM.out.ne
            have tC := Lib.hid HR.out.2.2.1
            have tD := Lib.hid HR.out.2.2.2.1
            have hmk := run_makeB gp (by omega)
            generalize hdd : cv (cf C) (cf s) n = dd at *
            have HDD := Lib.hid hdd
            clear hz hdd
            have e0 : (L < C.length ∧ decide (C.length ≤ L) = false) ∨ (C.length ≤ L ∧ decide (C.length ≤ L) = true) := by
              rcases Nat.lt_or_ge L C.length with h | h
              · exact .inl ⟨h, by simp only [decide_eq_false_iff_not]; omega⟩
              · exact .inr ⟨h, by simp only [decide_eq_true_eq]; omega⟩
            rcases e0 with ⟨e1, e2⟩ | ⟨e1, e2⟩
            all_goals
              go_wp2_with fail
              refine (gDivZ _ _ _ HNE.out).mono ?_; rintro e w3 ⟨rfl, hb3⟩
              have RC3 := (RC.below hb3).al (.cells #[.int .i64 0, .int .i64 0] 24)
              have RD3 := (RD.below hb3).al (.cells #[.int .i64 0, .int .i64 0] 24)
              have BW3 := Bw.al (Bw.step hbw2 hb3) (.cells #[.int .i64 0, .int .i64 0] 24)
              have O3 := OwB.new (w3.alloc (.cells #[.int .i64 0, .int .i64 0] 24)) (w3.alloc (.cells #[.int .i64 0, .int .i64 0] 24)).heap.size gp (Nat.le_refl _) (by unfold maxLen; omega)
              rw [World.size_alloc] at O3
              have hsX : w3.heap.size + 1 ≤ (w3.alloc (.cells #[.int .i64 0, .int .i64 0] 24)).heap.size := by simp
              have HO3 := Lib.hid O3
              clear O3
              go_wp2_with (at_builtin; refine wpList_appB _ rfl (.tmp 65) (.tmp 66) rfl (w3.heap.size + 1) _ (List.replicate gp 0) rfl HO3.out A2 D.length c2 D rfl (RD3.al _) ?_ ?_ ?_; (simp; omega); (simp); intro v4 w4 ho4 hg4 hat4)
              have hbX : Below (w3.alloc (.cells #[.int .i64 0, .int .i64 0] 24)).heap.size (w3.alloc (.cells #[.int .i64 0, .int .i64 0] 24)) w4 := by
                have h1 := grown_below hg4 HO3.out (by simp)
                have h2 := below_new (w3.alloc (.cells #[.int .i64 0, .int .i64 0] 24)) (.cells (zerosB gp) 5)
                rw [World.size_alloc] at h2 ⊢
                exact h2.trans h1
              have RC4 := RC3.below hbX
              have RD4 := RD3.below hbX
              have BW4 := Bw.step BW3 hbX
              obtain ⟨A4, c4, rfl⟩ := ho4.form
              have R4 := ho4.rd.1
              have hl4 : (List.replicate gp (0 : GF) ++ D).length ≤ 200 := by simp; omega
              clear ho4 hg4 hat4 HO3 hbX RC3 hb3
              generalize hq : dd * x.inv = q at *
              have HQ := Lib.hid hq
              clear hq
              go_wp2_with fail
              refine (poMulP_ok _ _ _ _ _ _ (List.replicate gp 0 ++ D) [q] _ (R4.al _) (RdB.l1 _ _ q.z q _ rfl rfl) (by omega) (by omega)).mono ?_
              rintro e w5 ⟨A5, c5, rfl, ho5, hb5⟩
              have R5 := ho5.rd.1
              have RC5 := (RC4.al _).below hb5
              have RD5 := (RD4.al _).below hb5
              have BW5 := Bw.step (Bw.al BW4 _) hb5
              have hl5 : (prodP (List.replicate gp (0 : GF) ++ D) [q]).length ≤ 300 := by have := prodP_le (List.replicate gp (0 : GF) ++ D) [q]; simp only [List.length_singleton] at this; omega
              clear ho5 R4 RC4 hb5
              go_wp2_with fail
              refine (poAddP_ok _ _ _ _ _ _ C (prodP (List.replicate gp 0 ++ D) [q]) _ (RC5.al _) (R5.al _) (by omega) (by omega)).mono ?_
              rintro e w6 ⟨A6, c6, rfl, ho6, hb6⟩
              have R6 := ho6.rd.1.al (.cells #[.int .i64 0, .int .i64 0] 24)
              have RC6 := ((RC5.al _).below hb6).al (.cells #[.int .i64 0, .int .i64 0] 24)
              have RD6 := ((RD5.al _).below hb6).al (.cells #[.int .i64 0, .int .i64 0] 24)
              have BW6 := Bw.al (Bw.step (Bw.al BW5 _) hb6) (.cells #[.int .i64 0, .int .i64 0] 24)
              have tG : Hid (Tr (sumP C (prodP (List.replicate gp 0 ++ D) [q]))) := Lib.hid (Tr_ofF _ _)
              have cG := Lib.hid (next_cf C D gp q)
              clear ho6 hb6 RC5 RD5 R5 BW5 hl5
              generalize sumP C (prodP (List.replicate gp 0 ++ D) [q]) = G at *
              by_cases h2 : 2 * L ≤ n
              · have hsw := HBM.out.swap (by rw [HDD.out]; exact HZ.out) h2
                rw [HDD.out, HQ.out, ← cG.out] at hsw
                have HK := Lib.hid (show BmRel s w _ (n + 1) (n + 1 - L) 1 A6 A1 c6 c1 G C dd from ⟨R6, RC6, tG.out, tC.out, hsw, by omega, by omega, BW6⟩)
                have hcast : (n : Int) + 1 - L = ((n + 1 - L : Nat) : Int) := by omega
                have HCT := Lib.hid hcast
                clear hsw R6 RC6 RD6 hcast
                go_wp2
                go_roundw
                case rel => first | exact ⟨n + 1, n + 1 - L, 1, A6, A1, c6, c1, G, C, dd, by omega, rfl, rfl, by rw [HCT.out], rfl, rfl, by go_num, HK.out⟩ | ((repeat apply Exists.intro); exact ⟨⟨n + 1, n + 1 - L, 1, A6, A1, c6, c1, G, C, dd, by omega, rfl, rfl, by rw [HCT.out], rfl, rfl, by go_num, HK.out⟩, rfl⟩)
                case measure => simp [intOf]; omega
              · have hkp := HBM.out.keep (by rw [HDD.out]; exact HZ.out) h2
                rw [HDD.out, HQ.out, ← cG.out] at hkp
                have HK := Lib.hid (show BmRel s w _ (n + 1) L (gp + 1) A6 A2 c6 c2 G D x from ⟨R6, RD6, tG.out, tD.out, hkp, by omega, hdl, BW6⟩)
                clear hkp R6 RC6 RD6
                go_wp2
                go_roundw
                case rel => first | exact ⟨n + 1, L, gp + 1, A6, A2, c6, c2, G, D, x, by omega, rfl, rfl, rfl, by go_num, rfl, by go_num, HK.out⟩ | ((repeat apply Exists.intro); exact ⟨⟨n + 1, L, gp + 1, A6, A2, c6, c2, G, D, x, by omega, rfl, rfl, rfl, by go_num, rfl, by go_num, HK.out⟩, rfl⟩)
                case measure => simp [intOf]; omega
    · obtain rfl : n = N := by omega
      obtain ⟨RC, RD, tC, tD, hbm', _⟩ := HR.out
      go_wp2
      go_ret2
      exact ⟨A1, c1, C, L, rfl, RC, hCl, hLn, hbm'.lf, hbm'.least, hbw⟩
end Go.Proofs.Ytpkaaiefnabfbab
