/- The walk of the statement GfPowersDistribute. -/
import Derived.Test.YtoepcbpmbekpgaaGfD
namespace Go.Proofs.Ytoepcbpmbekpgaa
open Go.RowKit

theorem gp_sq_xor {x y : Nat} (hx : x < 256) (hy : y < 256) : gp (x ^^^ y) 2 = gp x 2 ^^^ gp y 2 := by
  have h2 : ∀ z, z < 256 → gp z 2 = gm z z := fun z hz => by rw [gp_succ, gp_one hz]
  rw [h2 _ (xor_lt256 hx hy), h2 x hx, h2 y hy, gm_xor_right, gm_xor_left hx hy, gm_xor_left hx hy, gm_comm hy hx, xor_swap]
  rw [Nat.xor_comm (gm x y) (gm y y), xor_swap, Nat.xor_self, Nat.xor_zero]
theorem gp_pow2_xor {x y : Nat} (hx : x < 256) (hy : y < 256) (k : Nat) : gp (x ^^^ y) (2 ^ k) = gp x (2 ^ k) ^^^ gp y (2 ^ k) := by
  induction k with
  | zero => show gp _ 1 = gp _ 1 ^^^ gp _ 1; rw [gp_one hx, gp_one hy, gp_one (xor_lt256 hx hy)]
  | succ k ih => rw [Nat.pow_succ, gp_mul (xor_lt256 hx hy), gp_mul hx, gp_mul hy, ih, gp_sq_xor (gp_lt hx _) (gp_lt hy _)]
theorem gp_256 {x : Nat} (hx : x < 256) : gp x 256 = x := by
  rcases Nat.eq_zero_or_pos x with h | h
  · subst h; exact gp_zero_left 256 (by omega)
  · rw [gp_succ, gp_255 hx (by omega), gm_one_left x hx]
/-- A power of 2, behind a name that the walk does not open. -/
def tw (k : Nat) : Nat := 2 ^ k
theorem tw_zero : tw 0 = 1 := rfl
theorem tw_succ (k : Nat) : tw (k + 1) = 2 * tw k := by unfold tw; omega
theorem tw_pos (k : Nat) : 0 < tw k := Nat.pow_pos (by omega)
theorem tw_le {k : Nat} (h : k ≤ 16) : tw k ≤ 65536 := by unfold tw; exact Nat.pow_le_pow_right (by omega) h
theorem gW_nat {a : Int} (n : Nat) (ha : 0 ≤ a ∧ a < 256) : gW a n = ((gp a.toNat n : Nat) : Int) := by
  unfold gW
  by_cases hn : n = 0
  · subst hn; simp [gp_zero]
  · rw [if_neg (by omega)]
    by_cases h0 : a = 0
    · subst h0; rw [if_pos rfl, show (0 : Int).toNat = 0 from rfl, gp_zero_left n (by omega)]; rfl
    · rw [if_neg h0]
      unfold gQ gP red
      rw [show ((n : Int) % 255).toNat = n % 255 from by omega, gp_mod (by omega) (by omega)]
theorem gW_add {a b : Int} (k : Nat) (ha : 0 ≤ a ∧ a < 256) (hb : 0 ≤ b ∧ b < 256) : gW (gA a b) (tw k : Nat) = gA (gW a (tw k : Nat)) (gW b (tw k : Nat)) := by
  rw [gW_nat _ (gA_bd ha hb), gW_nat _ ha, gW_nat _ hb]
  unfold gA tw
  simp only [Int.toNat_natCast]
  rw [gp_pow2_xor (by omega) (by omega)]
theorem gW_per {a : Int} (k : Nat) (ha : 0 ≤ a ∧ a < 256) (hk : k ≤ 16) (h8 : k % 8 = 0) : gW a (tw k : Nat) = a := by
  rw [gW_nat _ ha]
  have h : gp a.toNat (tw k) = a.toNat := by
    rcases (show k = 0 ∨ k = 8 ∨ k = 16 by omega) with rfl | rfl | rfl
    · exact gp_one (by omega)
    · exact gp_256 (by omega)
    · show gp a.toNat (256 * 256) = _
      have h1 : a.toNat < 256 := by omega
      rw [gp_mul h1, gp_256 h1, gp_256 h1]
  rw [h]; omega
theorem gW_mul {a b n : Int} (ha : 0 ≤ a ∧ a < 256) (hb : 0 ≤ b ∧ b < 256) : gW (gM a b) n = gM (gW a n) (gW b n) := by
  by_cases hn : n = 0
  · subst hn; simp only [gW, if_pos]; rw [gM_one (by omega)]
  · by_cases h0 : a = 0
    · subst h0
      rw [gM_zero_left, show gW 0 n = 0 by simp [gW, hn], gM_zero_left]
    · by_cases h1 : b = 0
      · subst h1
        rw [gM_zero_right, show gW 0 n = 0 by simp [gW, hn], gM_zero_right]
      · have h2 := gM_ne (a := a) (b := b) (by omega) (by omega)
        unfold gW
        rw [if_neg hn, if_neg hn, if_neg hn, if_neg h0, if_neg h1, if_neg (by omega)]
        unfold gQ gP gM
        simp only [Int.toNat_natCast]
        rw [gp_gm (by omega) (by omega)]

set_option maxRecDepth 100000 in
set_option maxHeartbeats 1000000 in
theorem powersOut (a b k n : Int) (w : World) (h : inB k 0 16 = false) :
    Calls Try.prog 11 #[.int .u8 a, .int .u8 b, .int .i64 k, .int .i64 n] w fun e w' => e = .returned (.bool true) ∧ Below w.heap.size w w' := by
  go_enter Try.func11, Try.ntmps11
  go_wp2_with (first | (go_at_call 27; refine (refIn_any _ _ _ _).mono ?_; rintro e w' ⟨rfl, rfl⟩) | (go_at_call 20; refine (multiplied_any _).mono ?_; rintro e w' ⟨rfl, hb2⟩))
  go_ret
  exact ⟨rfl, by (repeat (first | exact Below.refl _ _ | assumption | refine Bw.al ?_ _ | refine Bw.step ?_ (by assumption) | refine Bw.drew ?_))⟩



theorem gfPow_some (a n : Int) (w : World) (ha : 0 ≤ a ∧ a < 256) :
    Calls Try.prog 33 #[.int .u8 a, .int .i64 n] w fun e w' => ∃ p c i : Int, e = .returned (.tuple #[.int .u8 p, .agg #[.int .i64 c, .int .i64 i]]) ∧ Below w.heap.size w w' := by
  by_cases h : a = 0 ∧ n < 0
  · exact (gfPow_bad a n w h.1 h.2).mono fun e w' ⟨h1, h2⟩ => ⟨_, _, _, h1, h2⟩
  · exact (gfPow_ok a n w ha h).mono fun e w' ⟨h1, h2⟩ => ⟨_, _, _, h1, h2⟩

set_option maxRecDepth 100000 in
set_option maxHeartbeats 1000000 in
theorem powersIn_p_ok (a b n : Int) (k : Nat) (w : World) (ha : 0 ≤ a ∧ a < 256) (hb : 0 ≤ b ∧ b < 256) (hk : k ≤ 16) (h8 : k % 8 = 0) (hn : ¬ ((a = 0 ∨ b = 0) ∧ n < 0)) :
    Calls Try.prog 11 #[.int .u8 a, .int .u8 b, .int .i64 k, .int .i64 n] w fun e w' => e = .returned (.bool true) ∧ Below w.heap.size w w' := by
  have h : inB k 0 16 = true := by unfold inB; simp; omega
  have e1 : (gW (gA a b) (tw k : Nat) != gA (gW a (tw k : Nat)) (gW b (tw k : Nat))) = false := by rw [gW_add k ha hb]; simp
  have e3 : (gW a (tw k : Nat) != a) = false := by rw [gW_per k ha hk h8]; simp
  have e8 : (((k : Int) % 8) == 0) = true := by simp; omega
  clear h8
  have bA := gA_bd ha hb
  have bM := gM_bd (b := b) ha
  have b1 := gW_bd (n := (tw k : Nat)) ha
  have b2 := gW_bd (n := (tw k : Nat)) hb
  have b3 := gW_bd (n := n) ha
  have b4 := gW_bd (n := n) hb
  have t0 := tw_pos k
  have e2 : (gW (gM a b) n == gM (gW a n) (gW b n)) = true := by rw [gW_mul ha hb]; simp
  have HN : Hid (¬ (gM a b = 0 ∧ n < 0) ∧ ¬ (a = 0 ∧ n < 0) ∧ ¬ (b = 0 ∧ n < 0)) := by
    refine ⟨?_, ?_, ?_⟩
    · rintro ⟨h1, h2⟩
      by_cases ha0 : a = 0
      · exact hn ⟨.inl ha0, h2⟩
      · by_cases hb0 : b = 0
        · exact hn ⟨.inr hb0, h2⟩
        · have := gM_ne (a := a) (b := b) (by omega) (by omega)
          omega
    · omega
    · omega
  clear hn
  go_enter Try.func11, Try.ntmps11
  go_wp2_with (first | (go_at_call 27; refine (refIn_any _ _ _ _).mono ?_; rintro e w' ⟨rfl, rfl⟩))
  go_loop [9, 10] (fun e i => ∃ j : Nat, j ≤ k ∧ i = .int .i64 j ∧ e = .int .i64 (tw j : Nat)) (fun _ i => k - (intOf i).toNat)
  case atStart => exact ⟨0, by omega, rfl, by rw [tw_zero]; rfl⟩
  case round =>
    obtain ⟨j, hj, rfl, rfl⟩ := hrel
    have hle := tw_le (k := j) (by omega)
    by_cases hlt : j < k
    · have HS := Lib.hid (tw_succ j)
      go_wp2
      go_round
      case rel => exact ⟨j + 1, by omega, by go_num, by rw [HS.out]; go_num⟩
      case measure => simp [intOf]; omega
    · have : j = k := by omega
      subst this
      go_wp2_with (first | (go_at_call 15; refine (gfAdd_any _ _ _ (by omega) (by omega)).mono ?_; rintro e w' ⟨rfl, rfl⟩))
      refine (gfPow_ok _ _ _ bA (by omega)).mono ?_; rintro e w1 ⟨rfl, hb1⟩
      go_wp2_with fail
      refine (gfPow_ok _ _ _ ha (by omega)).mono ?_; rintro e w2 ⟨rfl, hb2⟩
      have F1 := (Has.new w1 0 0 _).below hb2
      go_wp2_with fail
      refine (gfPow_ok _ _ _ hb (by omega)).mono ?_; rintro e w3 ⟨rfl, hb3⟩
      have F1 := (F1.al _).below hb3
      have F2 := (Has.new w2 0 0 _).below hb3
      obtain ⟨l1, c10, c11⟩ := F1
      obtain ⟨l2, c20, c21⟩ := F2
      go_wp2_with (first | (go_at_call 15; refine (gfAdd_any _ _ _ (by omega) (by omega)).mono ?_; rintro e w' ⟨rfl, rfl⟩) | (go_at_call 16; refine (gfMul_any _ _ _ (by omega) (by omega)).mono ?_; rintro e w' ⟨rfl, rfl⟩))
      clear c10 c11 c20 c21 l1 l2
      refine (gfPow_ok _ _ _ bM HN.out.1).mono ?_; rintro e w4 ⟨rfl, hb4⟩
      go_wp2_with fail
      refine (gfPow_ok _ _ _ ha HN.out.2.1).mono ?_; rintro e w5 ⟨rfl, hb5⟩
      have F1 := (Has.new w4 0 0 _).below hb5
      go_wp2_with fail
      refine (gfPow_ok _ _ _ hb HN.out.2.2).mono ?_; rintro e w6 ⟨rfl, hb6⟩
      have F1 := (F1.al _).below hb6
      have F2 := (Has.new w5 0 0 _).below hb6
      obtain ⟨l1, c10, c11⟩ := F1
      obtain ⟨l2, c20, c21⟩ := F2
      go_wp2_with (first | (go_at_call 16; refine (gfMul_any _ _ _ (by omega) (by omega)).mono ?_; rintro e w' ⟨rfl, rfl⟩) | (go_at_call 20; refine (multiplied_any _).mono ?_; rintro e w' ⟨rfl, hb7⟩))
      go_ret
      exact ⟨rfl, by (repeat (first | exact Below.refl _ _ | assumption | refine Bw.al ?_ _ | refine Bw.step ?_ (by assumption) | refine Bw.drew ?_))⟩

set_option maxRecDepth 100000 in
set_option maxHeartbeats 1000000 in
theorem powersIn_q_ok (a b n : Int) (k : Nat) (w : World) (ha : 0 ≤ a ∧ a < 256) (hb : 0 ≤ b ∧ b < 256) (hk : k ≤ 16) (h8 : ¬ k % 8 = 0) (hn : ¬ ((a = 0 ∨ b = 0) ∧ n < 0)) :
    Calls Try.prog 11 #[.int .u8 a, .int .u8 b, .int .i64 k, .int .i64 n] w fun e w' => e = .returned (.bool true) ∧ Below w.heap.size w w' := by
  have h : inB k 0 16 = true := by unfold inB; simp; omega
  have e1 : (gW (gA a b) (tw k : Nat) != gA (gW a (tw k : Nat)) (gW b (tw k : Nat))) = false := by rw [gW_add k ha hb]; simp
  have e8 : (((k : Int) % 8) == 0) = false := by simp; omega
  clear h8
  have bA := gA_bd ha hb
  have bM := gM_bd (b := b) ha
  have b1 := gW_bd (n := (tw k : Nat)) ha
  have b2 := gW_bd (n := (tw k : Nat)) hb
  have b3 := gW_bd (n := n) ha
  have b4 := gW_bd (n := n) hb
  have t0 := tw_pos k
  have e2 : (gW (gM a b) n == gM (gW a n) (gW b n)) = true := by rw [gW_mul ha hb]; simp
  have HN : Hid (¬ (gM a b = 0 ∧ n < 0) ∧ ¬ (a = 0 ∧ n < 0) ∧ ¬ (b = 0 ∧ n < 0)) := by
    refine ⟨?_, ?_, ?_⟩
    · rintro ⟨h1, h2⟩
      by_cases ha0 : a = 0
      · exact hn ⟨.inl ha0, h2⟩
      · by_cases hb0 : b = 0
        · exact hn ⟨.inr hb0, h2⟩
        · have := gM_ne (a := a) (b := b) (by omega) (by omega)
          omega
    · omega
    · omega
  clear hn
  go_enter Try.func11, Try.ntmps11
  go_wp2_with (first | (go_at_call 27; refine (refIn_any _ _ _ _).mono ?_; rintro e w' ⟨rfl, rfl⟩))
  go_loop [9, 10] (fun e i => ∃ j : Nat, j ≤ k ∧ i = .int .i64 j ∧ e = .int .i64 (tw j : Nat)) (fun _ i => k - (intOf i).toNat)
  case atStart => exact ⟨0, by omega, rfl, by rw [tw_zero]; rfl⟩
  case round =>
    obtain ⟨j, hj, rfl, rfl⟩ := hrel
    have hle := tw_le (k := j) (by omega)
    by_cases hlt : j < k
    · have HS := Lib.hid (tw_succ j)
      go_wp2
      go_round
      case rel => exact ⟨j + 1, by omega, by go_num, by rw [HS.out]; go_num⟩
      case measure => simp [intOf]; omega
    · have : j = k := by omega
      subst this
      go_wp2_with (first | (go_at_call 15; refine (gfAdd_any _ _ _ (by omega) (by omega)).mono ?_; rintro e w' ⟨rfl, rfl⟩))
      refine (gfPow_ok _ _ _ bA (by omega)).mono ?_; rintro e w1 ⟨rfl, hb1⟩
      go_wp2_with fail
      refine (gfPow_ok _ _ _ ha (by omega)).mono ?_; rintro e w2 ⟨rfl, hb2⟩
      have F1 := (Has.new w1 0 0 _).below hb2
      go_wp2_with fail
      refine (gfPow_ok _ _ _ hb (by omega)).mono ?_; rintro e w3 ⟨rfl, hb3⟩
      have F1 := (F1.al _).below hb3
      have F2 := (Has.new w2 0 0 _).below hb3
      obtain ⟨l1, c10, c11⟩ := F1
      obtain ⟨l2, c20, c21⟩ := F2
      go_wp2_with (first | (go_at_call 15; refine (gfAdd_any _ _ _ (by omega) (by omega)).mono ?_; rintro e w' ⟨rfl, rfl⟩) | (go_at_call 16; refine (gfMul_any _ _ _ (by omega) (by omega)).mono ?_; rintro e w' ⟨rfl, rfl⟩))
      clear c10 c11 c20 c21 l1 l2
      refine (gfPow_ok _ _ _ bM HN.out.1).mono ?_; rintro e w4 ⟨rfl, hb4⟩
      go_wp2_with fail
      refine (gfPow_ok _ _ _ ha HN.out.2.1).mono ?_; rintro e w5 ⟨rfl, hb5⟩
      have F1 := (Has.new w4 0 0 _).below hb5
      go_wp2_with fail
      refine (gfPow_ok _ _ _ hb HN.out.2.2).mono ?_; rintro e w6 ⟨rfl, hb6⟩
      have F1 := (F1.al _).below hb6
      have F2 := (Has.new w5 0 0 _).below hb6
      obtain ⟨l1, c10, c11⟩ := F1
      obtain ⟨l2, c20, c21⟩ := F2
      go_wp2_with (first | (go_at_call 16; refine (gfMul_any _ _ _ (by omega) (by omega)).mono ?_; rintro e w' ⟨rfl, rfl⟩) | (go_at_call 20; refine (multiplied_any _).mono ?_; rintro e w' ⟨rfl, hb7⟩))
      go_ret
      exact ⟨rfl, by (repeat (first | exact Below.refl _ _ | assumption | refine Bw.al ?_ _ | refine Bw.step ?_ (by assumption) | refine Bw.drew ?_))⟩

set_option maxRecDepth 100000 in
set_option maxHeartbeats 1000000 in
theorem powersIn_p_bad (a b n : Int) (k : Nat) (w : World) (ha : 0 ≤ a ∧ a < 256) (hb : 0 ≤ b ∧ b < 256) (hk : k ≤ 16) (h8 : k % 8 = 0) (hn : (a = 0 ∨ b = 0) ∧ n < 0) :
    Calls Try.prog 11 #[.int .u8 a, .int .u8 b, .int .i64 k, .int .i64 n] w fun e w' => e = .returned (.bool true) ∧ Below w.heap.size w w' := by
  have h : inB k 0 16 = true := by unfold inB; simp; omega
  have e1 : (gW (gA a b) (tw k : Nat) != gA (gW a (tw k : Nat)) (gW b (tw k : Nat))) = false := by rw [gW_add k ha hb]; simp
  have e3 : (gW a (tw k : Nat) != a) = false := by rw [gW_per k ha hk h8]; simp
  have e8 : (((k : Int) % 8) == 0) = true := by simp; omega
  clear h8
  have bA := gA_bd ha hb
  have bM := gM_bd (b := b) ha
  have b1 := gW_bd (n := (tw k : Nat)) ha
  have b2 := gW_bd (n := (tw k : Nat)) hb
  have b3 := gW_bd (n := n) ha
  have b4 := gW_bd (n := n) hb
  have t0 := tw_pos k
  have hm : gM a b = 0 := by
    rcases hn.1 with h | h
    · rw [h, gM_zero_left]
    · rw [h, gM_zero_right]
  have HM := Lib.hid hm
  clear hm
  have hneg : n < 0 := hn.2
  have hd : decide (n < 0) = true := by simpa using hneg
  have HO := Lib.hid hn.1
  clear hn
  go_enter Try.func11, Try.ntmps11
  go_wp2_with (first | (go_at_call 27; refine (refIn_any _ _ _ _).mono ?_; rintro e w' ⟨rfl, rfl⟩))
  go_loop [9, 10] (fun e i => ∃ j : Nat, j ≤ k ∧ i = .int .i64 j ∧ e = .int .i64 (tw j : Nat)) (fun _ i => k - (intOf i).toNat)
  case atStart => exact ⟨0, by omega, rfl, by rw [tw_zero]; rfl⟩
  case round =>
    obtain ⟨j, hj, rfl, rfl⟩ := hrel
    have hle := tw_le (k := j) (by omega)
    by_cases hlt : j < k
    · have HS := Lib.hid (tw_succ j)
      go_wp2
      go_round
      case rel => exact ⟨j + 1, by omega, by go_num, by rw [HS.out]; go_num⟩
      case measure => simp [intOf]; omega
    · have : j = k := by omega
      subst this
      go_wp2_with (first | (go_at_call 15; refine (gfAdd_any _ _ _ (by omega) (by omega)).mono ?_; rintro e w' ⟨rfl, rfl⟩))
      refine (gfPow_ok _ _ _ bA (by omega)).mono ?_; rintro e w1 ⟨rfl, hb1⟩
      go_wp2_with fail
      refine (gfPow_ok _ _ _ ha (by omega)).mono ?_; rintro e w2 ⟨rfl, hb2⟩
      have F1 := (Has.new w1 0 0 _).below hb2
      go_wp2_with fail
      refine (gfPow_ok _ _ _ hb (by omega)).mono ?_; rintro e w3 ⟨rfl, hb3⟩
      have F1 := (F1.al _).below hb3
      have F2 := (Has.new w2 0 0 _).below hb3
      obtain ⟨l1, c10, c11⟩ := F1
      obtain ⟨l2, c20, c21⟩ := F2
      go_wp2_with (first | (go_at_call 15; refine (gfAdd_any _ _ _ (by omega) (by omega)).mono ?_; rintro e w' ⟨rfl, rfl⟩) | (go_at_call 16; refine (gfMul_any _ _ _ (by omega) (by omega)).mono ?_; rintro e w' ⟨rfl, rfl⟩))
      clear c10 c11 c20 c21 l1 l2
      refine (gfPow_bad _ _ _ HM.out hneg).mono ?_; rintro e w4 ⟨rfl, hb4⟩
      go_wp2_with fail
      refine (gfPow_some _ _ _ ha).mono ?_; rintro e w5 ⟨p5, c5, i5, rfl, hb5⟩
      have F1 := (Has.new w4 26 (-1) _).below hb5
      go_wp2_with fail
      refine (gfPow_some _ _ _ hb).mono ?_; rintro e w6 ⟨p6, c6, i6, rfl, hb6⟩
      have F1 := (F1.al _).below hb6
      obtain ⟨l1, c10, c11⟩ := F1
      by_cases ha0 : a = 0
      · have z0 : (a == 0) = true := by simp [ha0]
        clear ha0
        go_wp2_with (first | (go_at_call 20; refine (multiplied_any _).mono ?_; rintro e w' ⟨rfl, hb7⟩))
        go_ret
        exact ⟨rfl, by (repeat (first | exact Below.refl _ _ | assumption | refine Bw.al ?_ _ | refine Bw.step ?_ (by assumption) | refine Bw.drew ?_))⟩
      · have z0 : (a == 0) = false := by simp [ha0]
        have z1 : (b == 0) = true := by have := HO.out; simp; omega
        clear ha0
        go_wp2_with (first | (go_at_call 20; refine (multiplied_any _).mono ?_; rintro e w' ⟨rfl, hb7⟩))
        go_ret
        exact ⟨rfl, by (repeat (first | exact Below.refl _ _ | assumption | refine Bw.al ?_ _ | refine Bw.step ?_ (by assumption) | refine Bw.drew ?_))⟩

set_option maxRecDepth 100000 in
set_option maxHeartbeats 1000000 in
theorem powersIn_q_bad (a b n : Int) (k : Nat) (w : World) (ha : 0 ≤ a ∧ a < 256) (hb : 0 ≤ b ∧ b < 256) (hk : k ≤ 16) (h8 : ¬ k % 8 = 0) (hn : (a = 0 ∨ b = 0) ∧ n < 0) :
    Calls Try.prog 11 #[.int .u8 a, .int .u8 b, .int .i64 k, .int .i64 n] w fun e w' => e = .returned (.bool true) ∧ Below w.heap.size w w' := by
  have h : inB k 0 16 = true := by unfold inB; simp; omega
  have e1 : (gW (gA a b) (tw k : Nat) != gA (gW a (tw k : Nat)) (gW b (tw k : Nat))) = false := by rw [gW_add k ha hb]; simp
  have e8 : (((k : Int) % 8) == 0) = false := by simp; omega
  clear h8
  have bA := gA_bd ha hb
  have bM := gM_bd (b := b) ha
  have b1 := gW_bd (n := (tw k : Nat)) ha
  have b2 := gW_bd (n := (tw k : Nat)) hb
  have b3 := gW_bd (n := n) ha
  have b4 := gW_bd (n := n) hb
  have t0 := tw_pos k
  have hm : gM a b = 0 := by
    rcases hn.1 with h | h
    · rw [h, gM_zero_left]
    · rw [h, gM_zero_right]
  have HM := Lib.hid hm
  clear hm
  have hneg : n < 0 := hn.2
  have hd : decide (n < 0) = true := by simpa using hneg
  have HO := Lib.hid hn.1
  clear hn
  go_enter Try.func11, Try.ntmps11
  go_wp2_with (first | (go_at_call 27; refine (refIn_any _ _ _ _).mono ?_; rintro e w' ⟨rfl, rfl⟩))
  go_loop [9, 10] (fun e i => ∃ j : Nat, j ≤ k ∧ i = .int .i64 j ∧ e = .int .i64 (tw j : Nat)) (fun _ i => k - (intOf i).toNat)
  case atStart => exact ⟨0, by omega, rfl, by rw [tw_zero]; rfl⟩
  case round =>
    obtain ⟨j, hj, rfl, rfl⟩ := hrel
    have hle := tw_le (k := j) (by omega)
    by_cases hlt : j < k
    · have HS := Lib.hid (tw_succ j)
      go_wp2
      go_round
      case rel => exact ⟨j + 1, by omega, by go_num, by rw [HS.out]; go_num⟩
      case measure => simp [intOf]; omega
    · have : j = k := by omega
      subst this
      go_wp2_with (first | (go_at_call 15; refine (gfAdd_any _ _ _ (by omega) (by omega)).mono ?_; rintro e w' ⟨rfl, rfl⟩))
      refine (gfPow_ok _ _ _ bA (by omega)).mono ?_; rintro e w1 ⟨rfl, hb1⟩
      go_wp2_with fail
      refine (gfPow_ok _ _ _ ha (by omega)).mono ?_; rintro e w2 ⟨rfl, hb2⟩
      have F1 := (Has.new w1 0 0 _).below hb2
      go_wp2_with fail
      refine (gfPow_ok _ _ _ hb (by omega)).mono ?_; rintro e w3 ⟨rfl, hb3⟩
      have F1 := (F1.al _).below hb3
      have F2 := (Has.new w2 0 0 _).below hb3
      obtain ⟨l1, c10, c11⟩ := F1
      obtain ⟨l2, c20, c21⟩ := F2
      go_wp2_with (first | (go_at_call 15; refine (gfAdd_any _ _ _ (by omega) (by omega)).mono ?_; rintro e w' ⟨rfl, rfl⟩) | (go_at_call 16; refine (gfMul_any _ _ _ (by omega) (by omega)).mono ?_; rintro e w' ⟨rfl, rfl⟩))
      clear c10 c11 c20 c21 l1 l2
      refine (gfPow_bad _ _ _ HM.out hneg).mono ?_; rintro e w4 ⟨rfl, hb4⟩
      go_wp2_with fail
      refine (gfPow_some _ _ _ ha).mono ?_; rintro e w5 ⟨p5, c5, i5, rfl, hb5⟩
      have F1 := (Has.new w4 26 (-1) _).below hb5
      go_wp2_with fail
      refine (gfPow_some _ _ _ hb).mono ?_; rintro e w6 ⟨p6, c6, i6, rfl, hb6⟩
      have F1 := (F1.al _).below hb6
      obtain ⟨l1, c10, c11⟩ := F1
      by_cases ha0 : a = 0
      · have z0 : (a == 0) = true := by simp [ha0]
        clear ha0
        go_wp2_with (first | (go_at_call 20; refine (multiplied_any _).mono ?_; rintro e w' ⟨rfl, hb7⟩))
        go_ret
        exact ⟨rfl, by (repeat (first | exact Below.refl _ _ | assumption | refine Bw.al ?_ _ | refine Bw.step ?_ (by assumption) | refine Bw.drew ?_))⟩
      · have z0 : (a == 0) = false := by simp [ha0]
        have z1 : (b == 0) = true := by have := HO.out; simp; omega
        clear ha0
        go_wp2_with (first | (go_at_call 20; refine (multiplied_any _).mono ?_; rintro e w' ⟨rfl, hb7⟩))
        go_ret
        exact ⟨rfl, by (repeat (first | exact Below.refl _ _ | assumption | refine Bw.al ?_ _ | refine Bw.step ?_ (by assumption) | refine Bw.drew ?_))⟩

theorem walkGfPowersDistribute (a b k n : Int) (w : World) (w0 : (Lit.int .u8 a).wf = true) (w1 : (Lit.int .u8 b).wf = true) (_w2 : (Lit.int .i64 k).wf = true) (_w3 : (Lit.int .i64 n).wf = true) :
    Calls Try.prog 11 #[.int .u8 a, .int .u8 b, .int .i64 k, .int .i64 n] w fun e w' => e = .returned (.bool true) ∧ Below w.heap.size w w' := by
  have ha := wf_u8 w0
  have hb := wf_u8 w1
  by_cases h : 0 ≤ k ∧ k ≤ 16
  · obtain ⟨k, rfl⟩ := Int.eq_ofNat_of_zero_le h.1
    by_cases h8 : k % 8 = 0 <;> by_cases hn : (a = 0 ∨ b = 0) ∧ n < 0
    · exact powersIn_p_bad a b n k w ha hb (by omega) h8 hn
    · exact powersIn_p_ok a b n k w ha hb (by omega) h8 hn
    · exact powersIn_q_bad a b n k w ha hb (by omega) h8 hn
    · exact powersIn_q_ok a b n k w ha hb (by omega) h8 hn
  · exact powersOut a b k n w (by unfold inB; simp only [decide_eq_false_iff_not]; omega)
end Go.Proofs.Ytoepcbpmbekpgaa
