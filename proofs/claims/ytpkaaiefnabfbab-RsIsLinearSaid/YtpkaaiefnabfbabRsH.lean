/- Walk of rs.Encode. -/
import Derived.Test.YtpkaaiefnabfbabRsG
namespace Go.Proofs.Ytpkaaiefnabfbab
open Go.RowKit
set_option linter.unusedVariables false

theorem Tr_trim_self {a : List GF} (h : Tr a) : trimL a = a := Tr_ext (Tr_trim a) h (cf_trim a)
theorem prodP_le (a b : List GF) : (prodP a b).length ≤ a.length + b.length := by
  have := trim_len_le ((List.range (a.length + b.length)).map (cv (cf a) (cf b)))
  rw [List.length_map, List.length_range] at this
  exact this
theorem OwB.under {w w' : World} {B : Nat} {v : Value} {l : List GF} {B' : Nat} (h : OwB w B v l) (hb : Below B' w w') (hlt : ∀ g n c, v = .slice (some ⟨g, 0, none⟩) n c → g < B') : OwB w' B v l := by
  refine ⟨h.1, ?_⟩
  rcases h.2 with h' | ⟨g, cap, cur, hv, hB, hh, hn⟩
  · exact .inl h'
  · exact .inr ⟨g, cap, cur, hv, hB, (hb.block g (hlt g _ _ hv)).trans hh, hn⟩
theorem RdB.under {w w' : World} {A : Option Addr} {n B : Nat} {l : List GF} (h : RdB w A n l) (hb : Below B w w') (hB : ∀ b o, A = some ⟨b, o, none⟩ → b < B) : RdB w' A n l :=
  ⟨h.1, fun hn => by
    obtain ⟨b, off, e, hlt, hc⟩ := h.2 hn
    have := hB b off e
    exact ⟨b, off, e, Nat.lt_of_lt_of_le hlt hb.size, fun i hi => (hb.cell (p := ⟨b, off + i, none⟩) this).trans (hc i hi)⟩⟩
theorem RdB.old {w w' W : World} {A : Option Addr} {n : Nat} {l : List GF} (h : RdB w A n l) (h1 : Below w.heap.size w W) (h2 : Below W.heap.size W w') : RdB w' A n l := h.below (Bw.step h1 h2)
set_option maxRecDepth 100000 in
set_option maxHeartbeats 4000000 in
theorem Encode_ok (A : Option Addr) (n c p : Nat) (data : List GF) (w : World) (hl : RdB w A n data) (h1 : p ≤ 32) (h2 : 1 ≤ n) (h3 : n + p ≤ 255) :
    Calls Try.prog 13 #[.slice A n c, .int .i64 p] w fun e w' => ∃ A' c' wd, e = .returned (.tuple #[.slice A' (List.length wd) c', .agg #[.int .i64 0, .int .i64 0]]) ∧ OwB w' w.heap.size (.slice A' (List.length wd) c') wd ∧ IsEnc data p wd ∧ Below w.heap.size w w' := by
  have ll := hl.1
  subst ll
  have HL := Lib.hid hl
  have d1 : decide ((p : Int) < 0) = false := by simp only [decide_eq_false_iff_not]; omega
  have d2 : ((data.length : Int) == 0) = false := by rw [beq_eq_false_iff_ne]; omega
  have d3 : ¬ (255 - (p : Int) < data.length) := by omega
  have hmk := run_makeB p (by omega)
  have F0 := Has.new w 0 0 24
  have B0 := below_new w (.cells #[.int .i64 0, .int .i64 0] 24)
  clear hl
  go_enter Try.func13, Try.ntmps13
  go_wp2
  clear d1 d2 d3
  have RG := RdB.l1 (w.alloc (.cells #[.int .i64 0, .int .i64 0] 24)) (w.heap.size + 1) 1 1 5 (by simp) rfl
  have hs0 : w.heap.size + 1 ≤ (w.alloc (.cells #[.int .i64 0, .int .i64 0] 24)).heap.size := by simp
  generalize w.alloc (.cells #[.int .i64 0, .int .i64 0] 24) = W0 at *
  have BG := below_new W0 (.cells #[.int .u8 1] 5)
  go_loopw [6, 35] (fun u i wr => ∃ (k : Nat) (A : Option Addr) (c : Nat), k ≤ p ∧ u = .slice A (genP k).length c ∧ (genP k).length ≤ c ∧ i = .int .i64 k ∧ RdB wr A (genP k).length (genP k) ∧ Below W0.heap.size W0 wr) (fun _ i _ => p - (intOf i).toNat)
  case atStart => exact ⟨0, _, 1, Nat.zero_le _, rfl, Nat.le_refl _, rfl, RG, BG⟩
  case round =>
    obtain ⟨k, A1, c1, hk, rfl, hc1, rfl, R1, hb1⟩ := hrel
    have hgl := (genP_top k).1
    by_cases hlt : k < p
    · have HM := Lib.hid (fun (w : World) A2 (h1 : RdB w A1 (genP k).length (genP k)) (h2 : RdB w A2 2 [GF.exp k, 1]) => poMulP_ok A1 A2 (genP k).length 2 c1 2 (genP k) [GF.exp k, 1] w h1 h2 (by omega) (by omega))
      rw [show prodP (genP k) [GF.exp k, 1] = genP (k + 1) from rfl] at HM
      have HGL := Lib.hid hgl
      clear hgl
      have HX := Lib.hid (fun w => gExpZ (k : Int) w)
      generalize GF.exp (k : Int) = x at *
      go_wp2_with fail
      refine (HX.out _).mono ?_; rintro e w2 ⟨rfl, rfl⟩
      go_wp2_with fail
      refine (HM.out _ _ (R1.al _) (RdB.l2 _ _ x.z 1 x 1 _ rfl ⟨rfl, rfl⟩)).mono ?_
      rintro e w2 ⟨A2, c2, rfl, ho2, hb2⟩
      have R2 := ho2.rd.1
      have C2 := ho2.cap.1
      have hb3 := Bw.step (Bw.al hb1 _) hb2
      clear ho2
      go_wp2
      go_roundw
      case rel => exact ⟨k + 1, A2, c2, by omega, rfl, C2, by go_num, R2, hb3⟩
      case measure => simp [intOf]; omega
    · obtain rfl : k = p := by omega
      have BW := Bw.step B0 hb1
      have F1 := F0.below hb1
      have RL := HL.out.below BW
      have hsz1 := hb1.size
      have Z1 := (OwB.new wr wr.heap.size k (Nat.le_refl _) (by unfold maxLen; omega)).rd.1
      have HGL := Lib.hid hgl
      have HTG := Lib.hid (Tr_trim_self (Tr_genP k))
      have HGN := Lib.hid (genP_ne k)
      have hgk : (genP k).length ≤ 512 := by omega
      clear hgl RG BG
      go_wp2_with fail
      refine (concat2_any _ _ A _ data.length k c k data (List.replicate k 0) _ (TwoAt.mk' _ _ A _ data.length k c k _ (by simp)) ((RL.al _).al _) (Z1.al _) (by omega) (by omega)).mono ?_
      rintro e w2 ⟨A2, c2, rfl, ho2, hb2⟩
      have hN : (data ++ List.replicate k (0 : GF)).length = data.length + k := by simp
      generalize hNN : (data ++ List.replicate k (0 : GF)).length = N at *
      have hN2 : N ≤ 255 := by omega
      have hN3 : 1 ≤ N := by omega
      have HN := Lib.hid hN
      clear hN hNN
      obtain ⟨g, rfl⟩ := ho2.head (by omega)
      go_wp2_with fail
      refine (reverseB_any g N c2 _ _ _ ho2 (by omega)).mono ?_
      rintro e w3 ⟨⟨v3, rfl⟩, ho3, hb3⟩
      have hb23 := hb2.trans hb3
      have BW3 := Bw.step (Bw.al (Bw.al BW _) _) hb23
      have F3 := ((F1.al _).al _).below hb23
      have RL3 := ((RL.al _).al _).below hb23
      have RG3 := ((R1.al _).al _).below hb23
      have C3 := ho3.cap.1
      have RD := ho3.rd.1
      clear ho2 ho3 hb2 hb3 hb23 F1 RL
      have HDV := Lib.hid (poDivideP_ok (some ⟨g, 0, none⟩) A1 N (genP k).length c2 c1 _ (genP k) w3 RD RG3 (by omega) hgk C3 hc1 (by rw [HTG.out]; exact HGN.out))
      rw [HTG.out] at HDV
      clear RD RG3
      go_wp2_with fail
      refine HDV.out.mono ?_
      rintro e w4 ⟨A4, c4, A5, c5, q, r, rfl, ho4, ho5, hdv, hb4⟩
      have hrl : r.length ≤ k := by
        have := hdv.2.2.1
        rw [(genP_top k).1] at this
        omega
      have HE := Lib.hid (encOf_cw hdv)
      have BW4 := Bw.step BW3 hb4
      have F4 := F3.below hb4
      have RL4 := RL3.below hb4
      have R5 := ho5.rd.1
      have FD := Has.new w4 0 0 24
      have F5 := F4.al (.cells #[.int .i64 0, .int .i64 0] 24)
      have BW5 := Bw.al BW4 (.cells #[.int .i64 0, .int .i64 0] 24)
      have RL5 := RL4.al (.cells #[.int .i64 0, .int .i64 0] 24)
      have R6 := R5.al (.cells #[.int .i64 0, .int .i64 0] 24)
      clear ho4 ho5 hdv F3 F4 RL3 RL4 R5 BW3 BW4 hb4
      have Z5 := (OwB.new (w4.alloc (.cells #[.int .i64 0, .int .i64 0] 24)) (w4.alloc (.cells #[.int .i64 0, .int .i64 0] 24)).heap.size k (Nat.le_refl _) (by unfold maxLen; omega)).rd.1
      rw [World.size_alloc] at Z5
      obtain ⟨lD, cD0, cD1, fD0, fD1⟩ := id FD
      go_wp2_with fail
      refine (concat2_any _ _ A _ data.length k c k data (List.replicate k 0) _ (TwoAt.mk' _ _ A _ data.length k c k _ (by simp)) ((RL5.al _).al _) (Z5.al _) (by omega) (by omega)).mono ?_
      rintro e w6 ⟨A6, c6, rfl, ho6, hb6⟩
      have hNx : (data ++ List.replicate k (0 : GF)).length = N := by rw [HN.out]; simp
      rw [hNx] at ho6 ⊢
      clear hNx lD cD0 cD1 fD0 fD1 FD Z5
      obtain ⟨g6, rfl⟩ := ho6.head (by omega)
      have F7 := (F5.al (.cells (zerosB k) 5)).al (.cells #[.slice A data.length c, .slice (some ⟨w4.heap.size + 1, 0, none⟩) k k] 22)
      have R7 := (R6.al (.cells (zerosB k) 5)).al (.cells #[.slice A data.length c, .slice (some ⟨w4.heap.size + 1, 0, none⟩) k k] 22)
      have BW7 := Bw.al (Bw.al BW5 (.cells (zerosB k) 5)) (.cells #[.slice A data.length c, .slice (some ⟨w4.heap.size + 1, 0, none⟩) k k] 22)
      clear F5 R6 BW5 RL5
      generalize ((w4.alloc (.cells #[.int .i64 0, .int .i64 0] 24)).alloc (.cells (zerosB k) 5)).alloc (.cells #[.slice A data.length c, .slice (some ⟨w4.heap.size + 1, 0, none⟩) k k] 22) = WC at *
      rw [← encMid_zero data r k] at ho6
      have HO6 := Lib.hid ho6
      have HF7 := Lib.hid F7
      have hF7 := F7.1
      clear ho6 F7 hmk
      go_wp2
      generalize w4.heap.size = s4 at *
      go_loopw [72] (fun i wr => ∃ t : Nat, t ≤ r.length ∧ i = .int .i64 t ∧ OwB wr WC.heap.size (.slice (some ⟨g6, 0, none⟩) N c6) (encMid data r k t) ∧ Below WC.heap.size WC wr) (fun i _ => r.length - (intOf i).toNat)
      case atStart => exact ⟨0, Nat.zero_le _, rfl, HO6.out, hb6⟩
      case round =>
        obtain ⟨t, ht, rfl, ho, hbr⟩ := hrel
        by_cases hlt : t < r.length
        · obtain ⟨m, hm⟩ : ∃ m : Nat, m = data.length + k - 1 - t := ⟨_, rfl⟩
          have hNv := HN.out
          have em : (N : Int) - 1 - t = (m : Int) := by omega
          obtain ⟨b5, o5, rfl, hl5, hc5⟩ := rd_cell (R7.below hbr) (i := t) hlt
          have hcl := ho.cellAt (i := m) (by omega)
          have hfz := ho.frozenAt m
          have hst := ho.set m (cf r t)
          rw [hm, encMid_step data r (by omega), ← hm] at hst
          have HST := Lib.hid hst
          have HLT := Lib.hid ho.lt.1
          have hmN : m < N := by omega
          generalize cf r t = y at *
          generalize (encMid data r k t).getD m 0 = y0 at *
          clear ho hst hm hNv
          go_wp2
          go_roundw
          case rel => exact ⟨t + 1, by omega, by go_num, HST.out, hbr.setCell HLT.out _⟩
          case measure => simp [intOf]; omega
        · obtain rfl : t = r.length := by omega
          rw [encMid_end] at ho
          have F8 := HF7.out.below hbr
          have BW8 := Bw.step BW7 hbr
          have hEL := HE.out.1
          rw [← HN.out] at hEL
          rw [← hEL] at ho ⊢
          generalize encOf data r k = wd at *
          obtain ⟨l0, c00, c01, f00, f01⟩ := id F8
          clear hEL
          go_wp2
          exact bodyPost_ret (resF2 rfl rfl (F8.set2 0 0)) rfl ⟨_, c6, wd, rfl, own_base ((ho.low (p := ⟨w.heap.size, 0, none⟩) hF7 _).low (p := ⟨w.heap.size, 1, none⟩) hF7 _) (Nat.le_of_lt hF7), HE.out, Bw.set (Bw.set BW8 (Nat.le_refl _) _) (Nat.le_refl _) _⟩
end Go.Proofs.Ytpkaaiefnabfbab
