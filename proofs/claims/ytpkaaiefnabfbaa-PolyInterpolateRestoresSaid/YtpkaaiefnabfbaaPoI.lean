/- Walks of the package poly: Roots. -/
import Derived.Test.YtpkaaiefnabfbaaPoH
namespace Go.Proofs.Ytpkaaiefnabfbaa
open Go.RowKit
set_option linter.unusedVariables false

def mkG (k : Nat) : GF := GF.mk (k % 256) (by omega)
def rootsUp (a : List GF) (k : Nat) : List GF := ((List.range k).map mkG).filter fun x => decide (valL a x = 0)
theorem rootsUp_succ (a : List GF) (k : Nat) : rootsUp a (k + 1) = if valL a (mkG k) = 0 then rootsUp a k ++ [mkG k] else rootsUp a k := by
  unfold rootsUp
  rw [List.range_succ, List.map_append, List.filter_append, List.map_singleton]
  by_cases h : valL a (mkG k) = 0
  · rw [if_pos h]; simp [h]
  · rw [if_neg h]; simp [h]
theorem rootsUp_full (a : List GF) : rootsUp a 256 = rootsL a := rfl
theorem rootsUp_len (a : List GF) (k : Nat) : (rootsUp a k).length ≤ k := by
  have := List.length_filter_le (fun x => decide (valL a x = 0)) ((List.range k).map mkG)
  rw [List.length_map, List.length_range] at this
  exact this
theorem mkG_z {k : Nat} (h : k < 256) : (mkG k).z = (k : Int) := by unfold mkG GF.z; rw [GF.v_mk, Nat.mod_eq_of_lt h]
def rootB (a : List GF) (x : GF) : Bool := decide (valL a x = 0)
theorem z_rootB (a : List GF) (x : GF) : ((valL a x).z == 0) = rootB a x := by
  unfold rootB
  by_cases h : valL a x = 0
  · rw [decide_eq_true h, h]; rfl
  · rw [decide_eq_false h, beq_eq_false_iff_ne]; exact fun e => h (GF.z_inj.1 e)
set_option maxHeartbeats 1000000 in
theorem poIsRoot_any (A : Option Addr) (n c B : Nat) (a : List GF) (x : GF) (w : World) (ha : RdB w A n a) (hn : n ≤ 512) (hB : w.cell? ⟨B, 0, none⟩ = some (.slice A n c)) :
    Calls Try.prog 47 #[.int .u8 x.z, .pointer (some ⟨B, 0, none⟩)] w fun e w' => e = .returned (.bool (rootB a x)) ∧ Below w.heap.size w w' := by
  have la := ha.1
  subst la
  have HC := Lib.hid (polyVal_any A c a x w (by omega) ha)
  have HZ := Lib.hid (z_rootB a x)
  clear ha
  generalize valL a x = y at *
  go_enter Try.func47, Try.ntmps47
  go_wp2_with fail
  refine HC.out.mono ?_
  rintro e w1 ⟨rfl, hb1⟩
  go_wp2
  go_ret
  exact ⟨by rw [← HZ.out]; rfl, hb1⟩
set_option maxRecDepth 100000 in
set_option maxHeartbeats 2000000 in
theorem poRootsP_ok (A : Option Addr) (n c : Nat) (a : List GF) (w : World) (ha : RdB w A n a) (hn : n ≤ 512) (hc : n ≤ c) (h0 : trimL a ≠ []) :
    Calls Try.prog 29 #[.slice A n c] w fun e w' => ∃ A' c', e = .returned (.tuple #[.slice A' (rootsL a).length c', .agg #[.int .i64 0, .int .i64 0]]) ∧ OwB w' w.heap.size (.slice A' (rootsL a).length c') (rootsL a) ∧ Below w.heap.size w w' := by
  have HA := Lib.hid ha
  have hpos : 0 < (trimL a).length := List.length_pos_iff.2 h0
  have htl := trim_len_le a
  rw [ha.1] at htl
  have HT := Lib.hid (fun w (h : RdB w A n a) => poTrim_any A n c a w h hc (by omega))
  clear ha h0
  generalize trimL a = ta at *
  have x0 : ((ta.length : Int) == 0) = false := by rw [beq_eq_false_iff_ne]; omega
  go_enter Try.func29, Try.ntmps29
  go_wp2_with fail
  refine (chk1 ((w.alloc _).alloc _) _ A n c _ (by simp) (by omega)).mono ?_
  rw [(lC_ok hn (Nat.zero_le _)).1, (lC_ok hn (Nat.zero_le _)).2]
  rintro e w1 ⟨rfl, hb1⟩
  have F0 := (Has.new (w.alloc (.cells #[.slice A n c] 22)) 0 0 24).below hb1
  rw [World.size_alloc] at F0
  have K0 : w1.cell? ⟨w.heap.size, 0, none⟩ = some (.slice A n c) := (hb1.cell (p := ⟨w.heap.size, 0, none⟩) (by simp; omega)).trans (by simp [go_sem])
  have B1 := Bw.step (Bw.al (below_new w (.cells #[.slice A n c] 22)) (.cells #[.int .i64 0, .int .i64 0] 24)) hb1
  have hs1 := F0.1
  have F1 := F0.al (.cells #[.int .i64 0, .int .i64 0] 24)
  have B2 := Bw.al B1 (.cells #[.int .i64 0, .int .i64 0] 24)
  have K1 := ((below_new w1 (.cells #[.int .i64 0, .int .i64 0] 24)).cell (p := ⟨w.heap.size, 0, none⟩) (by simp; omega)).trans K0
  clear F0 B1 hb1
  go_wp2_with fail
  refine (HT.out _ (HA.out.below B2)).mono ?_
  rintro e w2 ⟨A2, c2, rfl, ho2, hb2⟩
  have F2 := F1.below hb2
  have B3 := Bw.step B2 hb2
  have K2 := (hb2.cell (p := ⟨w.heap.size, 0, none⟩) (by simp; omega)).trans K1
  have hs2 : w.heap.size + 1 < w2.heap.size := F2.1
  clear ho2 hb2 K0 K1 F1 B2
  go_wp2
  go_loopw [5, 21] (fun v i wr => ∃ k : Nat, k ≤ 256 ∧ i = .int .i64 k ∧ OwB wr w2.heap.size v (rootsUp a k) ∧ Below w2.heap.size w2 wr) (fun _ i _ => 256 - (intOf i).toNat)
  case atStart => exact ⟨0, Nat.zero_le _, rfl, OwB.nil _ _, Below.refl _ _⟩
  case round =>
    obtain ⟨k, hk, rfl, ho, hbr⟩ := hrel
    by_cases hlt : k < 256
    · have HS := Lib.hid (rootsUp_succ a k)
      have hl := rootsUp_len a k
      have hy := mkG_z hlt
      have hKr := (hbr.cell (p := ⟨w.heap.size, 0, none⟩) (by show w.heap.size < w2.heap.size; omega)).trans K2
      have HR := Lib.hid (poIsRoot_any A n c w.heap.size a (mkG k) wr (HA.out.below (Bw.step B3 hbr)) hn hKr)
      rw [hy] at HR
      have HY := Lib.hid hy
      have HO := Lib.hid ho
      clear ho hy
      by_cases hr : valL a (mkG k) = 0
      · rw [if_pos hr] at HS
        rw [show rootB a (mkG k) = true from decide_eq_true hr] at HR
        clear hr
        go_wp2_with fail
        refine HR.out.mono ?_
        rintro e w3 ⟨rfl, hb3⟩
        have HO3 := Lib.hid (HO.out.below hb3)
        have hbr3 := Bw.step hbr hb3
        have hsz := hbr3.size
        rw [show mkG k = GF.mk k hlt from GF.ext (Nat.mod_eq_of_lt hlt)] at HS
        generalize rootsUp a k = L at *
        go_wp2_with (at_builtin; refine wpList_app1 w3 rfl (.tmp 28) (.tmp 31) rfl w2.heap.size _ L HO3.out rfl (GF.mk k hlt) _ rfl (by omega) hsz ?_; intro v6 w6 ho6 hc6)
        go_wp2
        go_roundw
        case rel => exact ⟨k + 1, by omega, by go_num, by rw [HS.out]; exact ho6, hbr3.trans hc6⟩
        case measure => simp [intOf]; omega
      · rw [if_neg hr] at HS
        rw [show rootB a (mkG k) = false from decide_eq_false hr] at HR
        clear hr
        go_wp2_with fail
        refine HR.out.mono ?_
        rintro e w3 ⟨rfl, hb3⟩
        go_wp2
        go_roundw
        case rel => exact ⟨k + 1, by omega, by go_num, by rw [HS.out]; exact HO.out.below hb3, Bw.step hbr hb3⟩
        case measure => simp [intOf]; omega
    · obtain rfl : k = 256 := by omega
      rw [rootsUp_full] at ho
      obtain ⟨A4, c4, rfl⟩ := ho.form
      have F4 := F2.below hbr
      have B4 := Bw.step B3 hbr
      obtain ⟨l0, c00, c01, f00, f01⟩ := id F4
      go_wp2
      exact bodyPost_ret (resF2 rfl rfl (F4.set2 0 0)) rfl ⟨A4, c4, rfl, own_base ((ho.low (p := ⟨w.heap.size + 1, 0, none⟩) hs2 _).low (p := ⟨w.heap.size + 1, 1, none⟩) hs2 _) (by omega), Bw.set (Bw.set B4 (Nat.le_succ _) _) (Nat.le_succ _) _⟩
set_option maxHeartbeats 1000000 in
theorem poRootsP_zero (A : Option Addr) (n c : Nat) (a : List GF) (w : World) (ha : RdB w A n a) (hn : n ≤ 512) (hc : n ≤ c) (h0 : trimL a = []) :
    Calls Try.prog 29 #[.slice A n c] w fun e w' => e = .returned (.tuple #[.slice none 0 0, .agg #[.int .i64 26, .int .i64 (-1)]]) ∧ Below w.heap.size w w' := by
  have HA := Lib.hid ha
  have HT := Lib.hid (fun w (h : RdB w A n a) => poTrim_any A n c a w h hc (by omega))
  rw [h0] at HT
  clear ha h0
  go_enter Try.func29, Try.ntmps29
  go_wp2_with fail
  refine (chk1 ((w.alloc _).alloc _) _ A n c _ (by simp) (by omega)).mono ?_
  rw [(lC_ok hn (Nat.zero_le _)).1, (lC_ok hn (Nat.zero_le _)).2]
  rintro e w1 ⟨rfl, hb1⟩
  have F0 := (Has.new (w.alloc (.cells #[.slice A n c] 22)) 0 0 24).below hb1
  rw [World.size_alloc] at F0
  have K0 : w1.cell? ⟨w.heap.size, 0, none⟩ = some (.slice A n c) := (hb1.cell (p := ⟨w.heap.size, 0, none⟩) (by simp; omega)).trans (by simp [go_sem])
  have B1 := Bw.step (Bw.al (below_new w (.cells #[.slice A n c] 22)) (.cells #[.int .i64 0, .int .i64 0] 24)) hb1
  have hs1 := F0.1
  have F1 := F0.al (.cells #[.int .i64 0, .int .i64 0] 24)
  have B2 := Bw.al B1 (.cells #[.int .i64 0, .int .i64 0] 24)
  have K1 := ((below_new w1 (.cells #[.int .i64 0, .int .i64 0] 24)).cell (p := ⟨w.heap.size, 0, none⟩) (by simp; omega)).trans K0
  clear F0 B1 hb1
  go_wp2_with fail
  refine (HT.out _ (HA.out.below B2)).mono ?_
  rintro e w2 ⟨A2, c2, rfl, ho2, hb2⟩
  have F2 := (F1.below hb2).al (.cells #[.int .i64 26, .int .i64 (-1)] 24)
  have B3 := Bw.al (Bw.step B2 hb2) (.cells #[.int .i64 26, .int .i64 (-1)] 24)
  go_wp2_with fail
  refine (poFault_any _ _ _).mono ?_
  rintro e w3 ⟨rfl, rfl⟩
  obtain ⟨l0, c00, c01, f00, f01⟩ := id F2
  go_wp2
  exact bodyPost_ret (resF2 rfl rfl (F2.set2 26 (-1))) rfl ⟨rfl, Bw.set (Bw.set B3 (Nat.le_succ _) _) (Nat.le_succ _) _⟩
set_option maxHeartbeats 1000000 in
theorem poRootsP_bad (A : Option Addr) (n c : Nat) (w : World) (hn : n ≤ 9223372036854775807) (hbad : ¬ n ≤ 512) :
    Calls Try.prog 29 #[.slice A n c] w fun e w' => e = .returned (.tuple #[.slice none 0 0, .agg #[.int .i64 3, .int .i64 (lI n 0)]]) ∧ Below w.heap.size w w' := by
  have HC := Lib.hid (lC_bad (n := n) (m := 0) (fun h => hbad h.1))
  clear hbad
  generalize hx : lI n 0 = x
  have HX := Lib.hid hx
  clear hx
  go_enter Try.func29, Try.ntmps29
  go_wp2_with fail
  refine (chk1 ((w.alloc _).alloc _) _ A n c _ (by simp) hn).mono ?_
  rw [HC.out, HX.out]
  rintro e w1 ⟨rfl, hb1⟩
  have F0 := (Has.new (w.alloc (.cells #[.slice A n c] 22)) 0 0 24).below hb1
  rw [World.size_alloc] at F0
  have B1 := Bw.step (Bw.al (below_new w (.cells #[.slice A n c] 22)) (.cells #[.int .i64 0, .int .i64 0] 24)) hb1
  have F1 := F0.al (.cells #[.int .i64 3, .int .i64 x] 24)
  have F6 := Has.new w1 3 x 24
  have B2 := Bw.al B1 (.cells #[.int .i64 3, .int .i64 x] 24)
  obtain ⟨l0, c00, c01, f00, f01⟩ := id F1
  obtain ⟨l6, c60, c61, f60, f61⟩ := id F6
  go_wp2
  go_region
  all_goals
    go_wp2
    exact bodyPost_ret (resF2 rfl rfl (F1.set2 3 x)) rfl ⟨rfl, Bw.drew (Bw.set (Bw.set B2 (Nat.le_succ _) _) (Nat.le_succ _) _)⟩
end Go.Proofs.Ytpkaaiefnabfbaa
