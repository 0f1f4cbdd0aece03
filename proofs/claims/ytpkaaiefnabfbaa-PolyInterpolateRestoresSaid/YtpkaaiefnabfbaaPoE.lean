/- Walks of the package poly: the functions Value and Divide. -/
import Derived.Test.YtpkaaiefnabfbaaPoD
namespace Go.Proofs.Ytpkaaiefnabfbaa
open Go.RowKit
set_option linter.unusedVariables false

set_option maxHeartbeats 1000000 in
theorem poValueP_ok (A : Option Addr) (n c : Nat) (a : List GF) (x : GF) (w : World) (ha : RdB w A n a) (hn : n ≤ 512) :
    Calls Try.prog 26 #[.slice A n c, .int .u8 x.z] w fun e w' => e = .returned (.tuple #[.int .u8 (valL a x).z, .agg #[.int .i64 0, .int .i64 0]]) ∧ Below w.heap.size w w' := by
  have la := ha.1
  subst la
  have HA := Lib.hid ha
  have HC := Lib.hid fun w (ha : RdB w A a.length a) => polyVal_any A c a x w (by omega) ha
  clear ha
  generalize (valL a x).z = S at *
  go_enter Try.func26, Try.ntmps26
  go_wp2_with fail
  refine (chk1 (w.alloc _) _ A a.length c _ (by simp) (by omega)).mono ?_
  rw [(lC_ok hn (Nat.zero_le _)).1, (lC_ok hn (Nat.zero_le _)).2]
  rintro e w1 ⟨rfl, hb1⟩
  have F0 := (Has.new w 0 0 24).below hb1
  have B1 := Bw.step (below_new w (.cells #[.int .i64 0, .int .i64 0] 24)) hb1
  have RA := HA.out.below B1
  go_wp2_with fail
  refine (HC.out _ (RA.al _)).mono ?_
  rintro e w2 ⟨rfl, hb2⟩
  have F2 := (F0.al _).below hb2
  obtain ⟨l0, c00, c01, f00, f01⟩ := id F2
  go_wp2
  have B2 := Bw.step (Bw.al B1 (.cells #[.int .i64 0, .int .i64 0] 24)) hb2
  exact bodyPost_ret (resF2 rfl rfl (F2.set2 0 0)) rfl ⟨rfl, Bw.set (Bw.set B2 (Nat.le_refl _) _) (Nat.le_refl _) _⟩
set_option maxHeartbeats 1000000 in
theorem poValueP_bad (A : Option Addr) (n c : Nat) (y : Int) (w : World) (hn : n ≤ 9223372036854775807) (hbad : ¬ n ≤ 512) :
    Calls Try.prog 26 #[.slice A n c, .int .u8 y] w fun e w' => e = .returned (.tuple #[.int .u8 0, .agg #[.int .i64 3, .int .i64 (lI n 0)]]) ∧ Below w.heap.size w w' := by
  have HC := Lib.hid (lC_bad (n := n) (m := 0) (fun h => hbad h.1))
  clear hbad
  generalize hx : lI n 0 = x
  have HX := Lib.hid hx
  clear hx
  go_enter Try.func26, Try.ntmps26
  go_wp2_with fail
  refine (chk1 (w.alloc _) _ A n c _ (by simp) hn).mono ?_
  rw [HC.out, HX.out]
  rintro e w1 ⟨rfl, hb1⟩
  have F0 := (Has.new w 0 0 24).below hb1
  have B1 := Bw.step (below_new w (.cells #[.int .i64 0, .int .i64 0] 24)) hb1
  have F1 := F0.al (.cells #[.int .i64 3, .int .i64 x] 24)
  have F6 := Has.new w1 3 x 24
  have B2 := Bw.al B1 (.cells #[.int .i64 3, .int .i64 x] 24)
  obtain ⟨l0, c00, c01, f00, f01⟩ := id F1
  obtain ⟨l6, c60, c61, f60, f61⟩ := id F6
  go_wp2
  go_region
  all_goals
    go_wp2
    exact bodyPost_ret (resF2 rfl rfl (F1.set2 3 x)) rfl ⟨rfl, Bw.drew (Bw.set (Bw.set B2 (Nat.le_refl _) _) (Nat.le_refl _) _)⟩
set_option maxHeartbeats 1000000 in
theorem poDivideP_bad (A B : Option Addr) (n m c d : Nat) (w : World) (hn : n ≤ 9223372036854775807) (hm : m ≤ 9223372036854775807) (hbad : ¬ (n ≤ 512 ∧ m ≤ 512)) :
    Calls Try.prog 13 #[.slice A n c, .slice B m d] w fun e w' => e = .returned (.tuple #[.slice none 0 0, .slice none 0 0, .agg #[.int .i64 3, .int .i64 (lI n m)]]) ∧ Below w.heap.size w w' := by
  have HC := Lib.hid (lC_bad hbad)
  clear hbad
  generalize hx : lI n m = x
  have HX := Lib.hid hx
  clear hx
  go_enter Try.func13, Try.ntmps13
  go_wp2_with fail
  refine (chk2 (w.alloc _) _ A B n m c d _ (by simp) hn hm).mono ?_
  rw [HC.out, HX.out]
  rintro e w1 ⟨rfl, hb1⟩
  have F0 := (Has.new w 0 0 24).below hb1
  have B1 := Bw.step (below_new w (.cells #[.int .i64 0, .int .i64 0] 24)) hb1
  have F1 := F0.al (.cells #[.int .i64 3, .int .i64 x] 24)
  have F6 := Has.new w1 3 x 24
  have B2 := Bw.al B1 (.cells #[.int .i64 3, .int .i64 x] 24)
  obtain ⟨l0, c00, c01, f00, f01⟩ := id F1
  obtain ⟨l6, c60, c61, f60, f61⟩ := id F6
  go_wp2
  go_region
  all_goals
    go_wp2
    exact bodyPost_ret (resF3 rfl rfl (F1.set2 3 x)) rfl ⟨rfl, Bw.drew (Bw.set (Bw.set B2 (Nat.le_refl _) _) (Nat.le_refl _) _)⟩
set_option maxHeartbeats 1000000 in
theorem poDivideP_zero (A B : Option Addr) (n m c d : Nat) (b : List GF) (w : World) (hb : RdB w B m b) (hn : n ≤ 512) (hm : m ≤ 512) (hd : m ≤ d) (h0 : trimL b = []) :
    Calls Try.prog 13 #[.slice A n c, .slice B m d] w fun e w' => e = .returned (.tuple #[.slice none 0 0, .slice none 0 0, .agg #[.int .i64 26, .int .i64 (-2)]]) ∧ Below w.heap.size w w' := by
  have HB := Lib.hid hb
  have H0 := Lib.hid h0
  clear hb h0
  go_enter Try.func13, Try.ntmps13
  go_wp2_with fail
  refine (chk2 (w.alloc _) _ A B n m c d _ (by simp) (by omega) (by omega)).mono ?_
  rw [(lC_ok hn hm).1, (lC_ok hn hm).2]
  rintro e w1 ⟨rfl, hb1⟩
  have F0 := (Has.new w 0 0 24).below hb1
  have B1 := Bw.step (below_new w (.cells #[.int .i64 0, .int .i64 0] 24)) hb1
  have RB := HB.out.below B1
  go_wp2_with fail
  refine (poTrim_any _ _ _ _ _ (RB.al _) hd (by omega)).mono ?_
  rw [H0.out]
  rintro e w2 ⟨A2, c2, rfl, ho2, hb2⟩
  have F2 := (F0.al _).below hb2
  have B2 := Bw.step (Bw.al B1 (.cells #[.int .i64 0, .int .i64 0] 24)) hb2
  go_wp2_with fail
  refine (poFault_any _ _ _).mono ?_
  rintro e w3 ⟨rfl, rfl⟩
  have F3 := F2.al (.cells #[.int .i64 26, .int .i64 (-2)] 24)
  have B3 := Bw.al B2 (.cells #[.int .i64 26, .int .i64 (-2)] 24)
  obtain ⟨l0, c00, c01, f00, f01⟩ := id F3
  go_wp2
  exact bodyPost_ret (resF3 rfl rfl (F3.set2 26 (-2))) rfl ⟨rfl, Bw.set (Bw.set B3 (Nat.le_refl _) _) (Nat.le_refl _) _⟩
set_option maxHeartbeats 1000000 in
theorem poDivideP_ok (A B : Option Addr) (n m c d : Nat) (a b : List GF) (w : World) (ha : RdB w A n a) (hb : RdB w B m b) (hn : n ≤ 512) (hm : m ≤ 512) (hc : n ≤ c) (hd : m ≤ d) (h0 : trimL b ≠ []) :
    Calls Try.prog 13 #[.slice A n c, .slice B m d] w fun e w' => ∃ A1 c1 A2 c2 q r, e = .returned (.tuple #[.slice A1 q.length c1, .slice A2 r.length c2, .agg #[.int .i64 0, .int .i64 0]]) ∧ OwB w' w.heap.size (.slice A1 q.length c1) q ∧ OwB w' w.heap.size (.slice A2 r.length c2) r ∧ Div a (trimL b) q r ∧ Below w.heap.size w w' := by
  have HA := Lib.hid ha
  have HB := Lib.hid hb
  have hT := Tr_trim b
  have HTR := Lib.hid fun w (hb : RdB w B m b) => poTrim_any B m d b w hb hd (by omega)
  have hlen := trim_len_le b
  rw [hb.1] at hlen
  have hpos : 0 < (trimL b).length := List.length_pos_iff.2 h0
  clear ha hb
  generalize trimL b = b' at *
  have HC := Lib.hid fun w B c1 (ha : RdB w A n a) (hb : RdB w B b'.length b') => poDiv_any A B n b'.length c c1 a b' w ha hb (by omega) (by omega) hc hT h0
  have x0 : ((b'.length : Int) == 0) = false := by rw [beq_eq_false_iff_ne]; omega
  clear hT h0
  go_enter Try.func13, Try.ntmps13
  go_wp2_with fail
  refine (chk2 (w.alloc _) _ A B n m c d _ (by simp) (by omega) (by omega)).mono ?_
  rw [(lC_ok hn hm).1, (lC_ok hn hm).2]
  rintro e w1 ⟨rfl, hb1⟩
  have F0 := (Has.new w 0 0 24).below hb1
  have B1 := Bw.step (below_new w (.cells #[.int .i64 0, .int .i64 0] 24)) hb1
  have RA := HA.out.below B1
  have RB := HB.out.below B1
  go_wp2_with fail
  refine (HTR.out _ (RB.al _)).mono ?_
  rintro e w2 ⟨A2, c2, rfl, ho2, hb2⟩
  have F2 := (F0.al _).below hb2
  have B2 := Bw.step (Bw.al B1 (.cells #[.int .i64 0, .int .i64 0] 24)) hb2
  have RA2 := (RA.al _).below hb2
  go_wp2_with fail
  refine (HC.out _ _ _ RA2 ho2.rd.1).mono ?_
  rintro e w3 ⟨A3, c3, A4, c4, q, r, rfl, ho3, ho4, hdv, hb3⟩
  have HD := Lib.hid hdv
  have F3 := F2.below hb3
  have B3 := Bw.step B2 hb3
  clear hdv
  obtain ⟨l0, c00, c01, f00, f01⟩ := id F3
  go_wp2
  have l2 := F2.1
  exact bodyPost_ret (resF3 rfl rfl (F3.set2 0 0)) rfl ⟨A3, c3, A4, c4, q, r, rfl, own_base ((ho3.low (p := ⟨w.heap.size, 0, none⟩) l2 _).low (p := ⟨w.heap.size, 1, none⟩) l2 _) (Nat.le_of_lt l2), own_base ((ho4.low (p := ⟨w.heap.size, 0, none⟩) l2 _).low (p := ⟨w.heap.size, 1, none⟩) l2 _) (Nat.le_of_lt l2), HD.out, Bw.set (Bw.set B3 (Nat.le_refl _) _) (Nat.le_refl _) _⟩
end Go.Proofs.Ytpkaaiefnabfbaa
