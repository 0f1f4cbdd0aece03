/- Walks of rs.Check, and of the reference's Syndromes, Zero, WordFault, DataFault, Increasing, Has. -/
import Derived.Test.YtpkaaiefnabfbabRsE
namespace Go.Proofs.Ytpkaaiefnabfbab
open Go.RowKit
set_option linter.unusedVariables false

def cwB (p : Nat) (l : List GF) : Bool := zeroB (syndL l p)
theorem cwB_iff {p : Nat} {l : List GF} : cwB p l = true ↔ isCW p l := syndL_zero
set_option maxRecDepth 100000 in
set_option maxHeartbeats 1000000 in
theorem Check_ok (A : Option Addr) (n c p : Nat) (l : List GF) (w : World) (hl : RdB w A n l) (h1 : p ≤ 32) (h2 : p + 1 ≤ n) (h3 : n ≤ 255) :
    Calls Try.prog 30 #[.slice A n c, .int .i64 p] w fun e w' => e = .returned (.tuple #[.bool (cwB p l), .agg #[.int .i64 0, .int .i64 0]]) ∧ Below w.heap.size w w' := by
  have HL := Lib.hid hl
  clear hl
  go_enter Try.func30, Try.ntmps30
  go_wp2_with fail
  refine (Syndromes_ok _ _ _ _ _ _ (HL.out.al _) h1 h2 h3).mono ?_
  rintro e w1 ⟨A1, c1, rfl, ho1, hb1⟩
  have R1 := ho1.rd.1.al (.cells #[.int .i64 0, .int .i64 0] 24)
  have F0 := ((Has.new w 0 0 24).below hb1).al (.cells #[.int .i64 0, .int .i64 0] 24)
  have F1 := Has.new w1 0 0 24
  have B1 := Bw.al (Bw.step (below_new w (.cells #[.int .i64 0, .int .i64 0] 24)) hb1) (.cells #[.int .i64 0, .int .i64 0] 24)
  clear ho1 hb1
  go_wp2
  generalize w1.alloc (.cells #[.int .i64 0, .int .i64 0] 24) = W at *
  generalize w1.heap.size = b1 at *
  have X1 := F1.ext
  (refine wp_region_extail 9 (by kernel_rfl) (by kernel_rfl) ?_; simp only [List.take_succ_cons, List.take_zero, List.drop_succ_cons, List.drop_zero]; (repeat (go_big_quiet_step ((go_at_call 52; exact ext_same (isZero_any _ _ _ _ _ (R1.ext _) (by omega)))))); refine wpQuiet_nil ?_; intro W5 hw'; have hW5 := ext_below hw'; clear hw')
  have F5 := F0.below hW5
  have B5 := Bw.step B1 hW5
  clear X1
  obtain ⟨l0, c00, c01, f00, f01⟩ := id F5
  go_wp2
  exact bodyPost_ret (resF2 rfl rfl (F5.set2 0 0)) rfl ⟨rfl, Bw.set (Bw.set B5 (Nat.le_refl _) _) (Nat.le_refl _) _⟩
set_option maxRecDepth 100000 in
set_option maxHeartbeats 1000000 in
theorem Check_bad (A : Option Addr) (n c : Nat) (p : Int) (w : World) (hn : n ≤ 9223372036854775807) (hp : -9223372036854775808 ≤ p ∧ p ≤ 9223372036854775807) (hbad : wF n p ≠ (0, 0)) :
    Calls Try.prog 30 #[.slice A n c, .int .i64 p] w fun e w' => e = .returned (.tuple #[.bool false, .agg #[.int .i64 (wF n p).1, .int .i64 (wF n p).2]]) ∧ Below w.heap.size w w' := by
  have HS := Lib.hid (fun w => Syndromes_bad A n c p w hn hp hbad)
  have hc : (wF n p).1 = 4 ∨ (wF n p).1 = 9 := by
    rcases wF_cases n p with ⟨q, _, _, _, _, h⟩ | ⟨_, h⟩ | ⟨_, _, h⟩
    · exact absurd h hbad
    · rw [h]; exact .inl rfl
    · rw [h]; exact .inr rfl
  generalize (wF n p).1 = C at *
  generalize (wF n p).2 = I at *
  have xC : (C == 0) = false := by rw [beq_eq_false_iff_ne]; omega
  clear hbad
  go_enter Try.func30, Try.ntmps30
  go_wp2_with fail
  refine (HS.out _).mono ?_
  rintro e w1 ⟨rfl, hb1⟩
  have F0 := ((Has.new w 0 0 24).below hb1).al (.cells #[.int .i64 C, .int .i64 I] 24)
  have F1 := Has.new w1 C I 24
  have B1 := Bw.al (Bw.step (below_new w (.cells #[.int .i64 0, .int .i64 0] 24)) hb1) (.cells #[.int .i64 C, .int .i64 I] 24)
  clear hb1
  go_wp2
  generalize w1.alloc (.cells #[.int .i64 C, .int .i64 I] 24) = W at *
  generalize w1.heap.size = b1 at *
  have X1 := F1.ext
  (refine wp_region_extail 9 (by kernel_rfl) (by kernel_rfl) ?_; simp only [List.take_succ_cons, List.take_zero, List.drop_succ_cons, List.drop_zero]; (repeat (go_big_quiet_step ((fail)))); refine wpQuiet_nil ?_; intro W5 hw'; have hW5 := ext_below hw'; clear hw')
  have F5 := F0.below hW5
  have B5 := Bw.step B1 hW5
  clear X1
  obtain ⟨l0, c00, c01, f00, f01⟩ := id F5
  go_wp2
  exact bodyPost_ret (resF2 rfl rfl (F5.set2 C I)) rfl ⟨rfl, Bw.set (Bw.set B5 (Nat.le_refl _) _) (Nat.le_refl _) _⟩
/-! ### The reference -/
theorem synd_take (l : List GF) (x : GF) {t : Nat} (ht : t < l.length) : valL (l.reverse.take (t + 1)) x = valL (l.reverse.take t) x + l.getD (l.length - 1 - t) 0 * gpow x t := by
  rw [valL_take l.reverse x (by rw [List.length_reverse]; exact ht), rev_get l ht]
def synUp (l : List GF) (k : Nat) : List GF := (List.range k).map (synd l)
theorem synUp_succ (l : List GF) (k : Nat) : synUp l (k + 1) = synUp l k ++ [synd l k] := by simp [synUp, List.range_succ]
theorem synUp_len (l : List GF) (k : Nat) : (synUp l k).length = k := by simp [synUp]
set_option maxRecDepth 100000 in
set_option maxHeartbeats 2000000 in
theorem rSyndromes_any (A : Option Addr) (n c p : Nat) (l : List GF) (w : World) (hl : RdB w A n l) (hn : n ≤ 1000000) (hp : p ≤ 1000000) :
    Calls Try.prog 31 #[.slice A n c, .int .i64 p] w fun e w' => ∃ A' c', e = .returned (.slice A' p c') ∧ OwB w' w.heap.size (.slice A' p c') (syndL l p) ∧ Below w.heap.size w w' := by
  have ll := hl.1
  subst ll
  have HL := Lib.hid hl
  clear hl
  go_enter Try.func31, Try.ntmps31
  go_wp2
  go_loopw [5, 6] (fun v i wr => ∃ j : Nat, j ≤ p ∧ i = .int .i64 j ∧ OwB wr w.heap.size v (synUp l j) ∧ Below w.heap.size w wr) (fun _ i _ => p - (intOf i).toNat)
  case atStart => exact ⟨0, Nat.zero_le _, rfl, OwB.nil _ _, Below.refl _ _⟩
  case round =>
    obtain ⟨j, hj, rfl, ho, hbw⟩ := hrel
    by_cases hlt : j < p
    · have hsl := synUp_len l j
      have HS := Lib.hid (synUp_succ l j)
      have hsz := hbw.size
      have HO := Lib.hid ho
      have RL := Lib.hid (HL.out.below hbw)
      have dj : decide ((j : Int) < p) = true := by simp only [decide_eq_true_eq]; omega
      have HE := Lib.hid (show valL (l.reverse.take l.length) (GF.exp j) = synd l j by unfold synd; rw [List.take_of_length_le (by rw [List.length_reverse]; exact Nat.le_refl _)])
      generalize synUp l j = L at *
      generalize hx : GF.exp (j : Int) = x at *
      have HX := Lib.hid hx
      clear ho
      go_wp2_with (go_at_call 43; refine (rExpZ _ _).mono ?_; rw [HX.out]; rintro e w' ⟨rfl, rfl⟩)
      clear hx
      go_loop [7, 9, 10] (fun s q i => ∃ t : Nat, t ≤ l.length ∧ i = .int .i64 ((l.length : Int) - 1 - t) ∧ s = .int .u8 (valL (l.reverse.take t) x).z ∧ q = .int .u8 (gpow x t).z) (fun _ _ i => (intOf i + 1).toNat)
      case atStart => exact ⟨0, Nat.zero_le _, by simp, rfl, rfl⟩
      case round =>
        obtain ⟨t, ht, rfl, rfl, rfl⟩ := hrel
        by_cases hlk : t < l.length
        · obtain ⟨m, hm⟩ : ∃ m : Nat, m = l.length - 1 - t := ⟨_, rfl⟩
          have em : (l.length : Int) - 1 - t = (m : Int) := by omega
          have HM := Lib.hid (show (l.length : Int) - 1 - ((t + 1 : Nat) : Int) = (m : Int) - 1 by omega)
          obtain ⟨b, off, rfl, hlb, hcc⟩ := rd_cell RL.out (i := m) (by omega)
          have HV := Lib.hid (synd_take l x hlk)
          rw [← hm] at HV
          rw [em]
          have xz := xorZ (valL (l.reverse.take t) x) (cf l m * gpow x t)
          have HG := Lib.hid (show gpow x (t + 1) = gpow x t * x from rfl)
          have HCF := Lib.hid (show cf l m = l.getD m 0 from rfl)
          generalize valL (l.reverse.take t) x = s at *
          generalize gpow x t = pw at *
          have hml : m < l.length := by omega
          clear em hm
          go_wp2_with (first
            | (go_at_call 53; (with_reducible refine (rMulZ (cf l m) pw _).mono ?_); rintro e w' ⟨rfl, rfl⟩)
            | (go_at_call 53; (with_reducible refine (rMulZ pw x _).mono ?_); rintro e w' ⟨rfl, rfl⟩))
          go_round
          case rel => first | exact ⟨t + 1, by omega, by rw [HM.out], by (rw [HV.out, ← HCF.out]), by rw [HG.out]⟩ | ((repeat apply Exists.intro); exact ⟨⟨t + 1, by omega, by rw [HM.out], by (rw [HV.out, ← HCF.out]), by rw [HG.out]⟩, rfl⟩)
          case measure => simp [intOf]
        · obtain rfl : t = l.length := by omega
          rw [show (l.length : Int) - 1 - l.length = -1 by omega, HE.out]
          generalize gpow x l.length = pw at *
          go_wp2_with (at_builtin; refine wpList_app1 wr rfl (.tmp 36) (.tmp 38) rfl w.heap.size _ L HO.out rfl (synd l j) _ rfl (by omega) hsz ?_; intro v1 w1 ho1 hb1)
          have hb2 := hbw.trans hb1
          go_wp2
          go_roundw
          case rel => first | exact ⟨j + 1, by omega, by go_num, by (rw [HS.out]; exact ho1), hb2⟩ | ((repeat apply Exists.intro); exact ⟨⟨j + 1, by omega, by go_num, by (rw [HS.out]; exact ho1), hb2⟩, rfl⟩)
          case measure => simp [intOf]; omega
    · obtain rfl : j = p := by omega
      obtain ⟨A1, c1, rfl⟩ := ho.form
      rw [synUp_len] at ho ⊢
      go_wp2
      go_ret
      exact ⟨A1, c1, rfl, ho, hbw⟩
set_option maxHeartbeats 1000000 in
theorem rZero_any (A : Option Addr) (n c : Nat) (l : List GF) (w : World) (hl : RdB w A n l) (hn : n ≤ 1000000) :
    Calls Try.prog 32 #[.slice A n c] w fun e w' => e = .returned (.bool (zeroB l)) ∧ w = w' := by
  have ll := hl.1
  subst ll
  have HL := Lib.hid hl
  clear hl
  by_cases h : ∀ i, i < l.length → l.getD i 0 = 0
  · rw [show zeroB l = true from decide_eq_true h]
    have HZ := Lib.hid h
    clear h
    go_enter Try.func32, Try.ntmps32
    go_wp2
    go_loop [3] (fun i => ∃ k : Nat, k ≤ l.length ∧ i = .int .i64 k) (fun i => l.length - (intOf i).toNat)
    case atStart => exact ⟨0, Nat.zero_le _, rfl⟩
    case round =>
      obtain ⟨k, hk, rfl⟩ := hrel
      by_cases hlt : k < l.length
      · obtain ⟨b, off, rfl, hlb, hcc⟩ := rd_cell HL.out (i := k) hlt
        have z0 : ((cf l k).z != 0) = false := by rw [show cf l k = 0 from HZ.out k hlt]; rfl
        generalize cf l k = y at *
        go_wp2
        go_round
        case rel => exact ⟨k + 1, by omega, by go_num⟩
        case measure => simp [intOf]; omega
      · obtain rfl : k = l.length := by omega
        go_wp2
        go_ret
        exact ⟨rfl, rfl⟩
  · rw [show zeroB l = false from decide_eq_false h]
    obtain ⟨j, h1, h2, h3⟩ := not_zero_at h
    have H2 := Lib.hid h2
    have H3 := Lib.hid h3
    clear h h2 h3
    go_enter Try.func32, Try.ntmps32
    go_wp2
    go_loop [3] (fun i => ∃ k : Nat, k ≤ j ∧ i = .int .i64 k) (fun i => l.length - (intOf i).toNat)
    case atStart => exact ⟨0, Nat.zero_le _, rfl⟩
    case round =>
      obtain ⟨k, hk, rfl⟩ := hrel
      obtain ⟨b, off, rfl, hlb, hcc⟩ := rd_cell HL.out (i := k) (by omega)
      by_cases hlt : k < j
      · have z0 : ((cf l k).z != 0) = false := by rw [show cf l k = 0 from H3.out k hlt]; rfl
        generalize cf l k = y at *
        go_wp2
        go_round
        case rel => exact ⟨k + 1, by omega, by go_num⟩
        case measure => simp [intOf]; omega
      · obtain rfl : k = j := by omega
        have z0 : ((cf l k).z != 0) = true := by rw [bne_iff_ne]; exact fun e => H2.out (GF.z_inj.1 e)
        generalize cf l k = y at *
        go_wp2
        go_ret
        exact ⟨rfl, rfl⟩
end Go.Proofs.Ytpkaaiefnabfbab
