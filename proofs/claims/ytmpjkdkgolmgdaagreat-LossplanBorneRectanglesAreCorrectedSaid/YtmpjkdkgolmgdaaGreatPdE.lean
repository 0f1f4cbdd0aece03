/- Product codes: walks of Size, DataSize, and of a block's places and bytes. -/
import Derived.Test.YtmpjkdkgolmgdaaGreatPdD
namespace Go.Proofs.YtmpjkdkgolmgdaaGreat
open Go.RowKit
set_option linter.unusedVariables false

theorem mul32 {a b : Nat} (ha : a ≤ 32) (hb : b ≤ 32) : 0 ≤ (a : Int) * (b : Int) ∧ (a : Int) * (b : Int) ≤ 1024 := by
  refine ⟨Int.mul_nonneg (by omega) (by omega), ?_⟩
  exact Int.le_trans (Int.mul_le_mul (show (a : Int) ≤ 32 by omega) (show (b : Int) ≤ 32 by omega) (by omega) (by decide)) (by decide)
set_option maxHeartbeats 2000000 in
theorem pdSize_ok (R C p q : Nat) (w : World) (h1 : 1 ≤ R) (h2 : R ≤ 32) (h3 : 1 ≤ C) (h4 : C ≤ 32) (h5 : p < C) (h6 : q < R) :
    Calls Tryz.prog 25 #[shpV R C p q] w fun e w' => e = .returned (.tuple #[.int .i64 (((R - q) * (C - p) : Nat) : Int), .agg #[.int .i64 0, .int .i64 0]]) ∧ Below w.heap.size w w' := by
  have HV := Lib.hid (fun w => pdValidate_any R C p q w)
  rw [shF_ok h1 h2 h3 h4 h5 h6] at HV
  have hm := mul32 (a := R - q) (b := C - p) (by omega) (by omega)
  have e1 : ((R - q : Nat) : Int) = (R : Int) - q := by omega
  have e2 : ((C - p : Nat) : Int) = (C : Int) - p := by omega
  rw [e1, e2] at hm
  rw [Int.natCast_mul, e1, e2]
  clear e1 e2
  have S0 := (S4.new w R C p q).al (fltC 0 0)
  have F0 := Has.new (w.alloc (shpC R C p q)) 0 0 27
  have B0 : Below w.heap.size w ((w.alloc (shpC R C p q)).alloc (fltC 0 0)) := by (repeat (first | exact Below.refl _ _ | assumption | refine Bw.al ?_ _ | refine Bw.step ?_ (by assumption) | refine Bw.drew ?_))
  rw [World.size_alloc] at F0
  obtain ⟨ls, s0, s1, s2, s3⟩ := id S0
  go_enter Tryz.func25, Tryz.ntmps25
  go_wp2_with fail
  refine (HV.out _).mono ?_
  rintro e w1 ⟨rfl, hb1⟩
  have S1 := (S0.below hb1).al (fltC 0 0)
  have F1 := (F0.below hb1).al (fltC 0 0)
  have F2 := Has.new w1 0 0 27
  have B1 := Bw.al (Bw.step B0 hb1) (fltC 0 0)
  clear ls s0 s1 s2 s3
  obtain ⟨ls, s0, s1, s2, s3⟩ := id S1
  obtain ⟨l1, c10, c11, f10, f11⟩ := id F1
  obtain ⟨l2, c20, c21, f20, f21⟩ := id F2
  go_wp2
  exact bodyPost_ret (resF2 rfl rfl (F1.set2 0 0)) rfl ⟨rfl, Bw.set (Bw.set B1 (by show w.heap.size ≤ w.heap.size + 1; omega) _) (by show w.heap.size ≤ w.heap.size + 1; omega) _⟩
set_option maxHeartbeats 2000000 in
theorem pdSize_bad (R C p q : Int) (w : World) (hf : shF R C p q ≠ (0, 0)) :
    Calls Tryz.prog 25 #[shpV R C p q] w fun e w' => e = .returned (.tuple #[.int .i64 0, .agg #[.int .i64 (shF R C p q).1, .int .i64 (shF R C p q).2]]) ∧ Below w.heap.size w w' := by
  have HV := Lib.hid (fun w => pdValidate_any R C p q w)
  have hc := (shF_code R C p q).resolve_left hf
  generalize (shF R C p q).1 = c at *
  generalize (shF R C p q).2 = i at *
  have xC : (c == 0) = false := by rw [beq_eq_false_iff_ne]; omega
  clear hf hc
  have S0 := (S4.new w R C p q).al (fltC 0 0)
  have F0 := Has.new (w.alloc (shpC R C p q)) 0 0 27
  have B0 : Below w.heap.size w ((w.alloc (shpC R C p q)).alloc (fltC 0 0)) := by (repeat (first | exact Below.refl _ _ | assumption | refine Bw.al ?_ _ | refine Bw.step ?_ (by assumption) | refine Bw.drew ?_))
  rw [World.size_alloc] at F0
  obtain ⟨ls, s0, s1, s2, s3⟩ := id S0
  go_enter Tryz.func25, Tryz.ntmps25
  go_wp2_with fail
  refine (HV.out _).mono ?_
  rintro e w1 ⟨rfl, hb1⟩
  have F1 := (F0.below hb1).al (fltC c i)
  have F2 := Has.new w1 c i 27
  have B1 := Bw.al (Bw.step B0 hb1) (fltC c i)
  clear ls s0 s1 s2 s3
  obtain ⟨l2, c20, c21, f20, f21⟩ := id F2
  go_wp2
  generalize w1.alloc (fltC c i) = W at *
  generalize w1.heap.size = b1 at *
  have X1 := F2.ext
  (refine wp_region_extail 2 (by kernel_rfl) (by kernel_rfl) ?_; simp only [List.take_succ_cons, List.take_zero, List.drop_succ_cons, List.drop_zero]; (repeat (go_big_quiet_step ((fail)))); refine wpQuiet_nil ?_; intro W5 hw'; have hW5 := ext_below hw'; clear hw')
  have F5 := F1.below hW5
  have B5 := Bw.step B1 hW5
  clear X1 c20 c21 f20 f21
  obtain ⟨l1, c10, c11, f10, f11⟩ := id F5
  go_wp2
  exact bodyPost_ret (resF2 rfl rfl (F5.set2 c i)) rfl ⟨rfl, Bw.set (Bw.set B5 (by show w.heap.size ≤ w.heap.size + 1; omega) _) (by show w.heap.size ≤ w.heap.size + 1; omega) _⟩
set_option maxHeartbeats 1000000 in
theorem rDataSize_nat (R C p q : Nat) (w : World) (h2 : R ≤ 32) (h4 : C ≤ 32) (h5 : p ≤ C) (h6 : q ≤ R) :
    Calls Tryz.prog 21 #[shpV R C p q] w fun e w' => e = .returned (.int .i64 (((R - q) * (C - p) : Nat) : Int)) ∧ Below w.heap.size w w' := by
  have hm := mul32 (a := R - q) (b := C - p) (by omega) (by omega)
  have e1 : ((R - q : Nat) : Int) = (R : Int) - q := by omega
  have e2 : ((C - p : Nat) : Int) = (C : Int) - p := by omega
  rw [e1, e2] at hm
  rw [Int.natCast_mul, e1, e2]
  clear e1 e2
  go_enter Tryz.func21, Tryz.ntmps21
  go_wp2
  go_ret
  exact ⟨rfl, by (repeat (first | exact Below.refl _ _ | assumption | refine Bw.al ?_ _ | refine Bw.step ?_ (by assumption) | refine Bw.drew ?_))⟩
/-! ### Places -/
theorem rowP_succ (C r : Nat) : ∀ k, ((List.range (k + 1)).map fun c => r * C + c) = ((List.range k).map fun c => r * C + c) ++ [r * C + k] := fun k => by rw [List.range_succ, List.map_append]; rfl
theorem colP_succ (C c : Nat) : ∀ k, ((List.range (k + 1)).map fun r => r * C + c) = ((List.range k).map fun r => r * C + c) ++ [k * C + c] := fun k => by rw [List.range_succ, List.map_append]; rfl
theorem place_int {R C r c : Nat} (hR : R ≤ 32) (hC : C ≤ 32) (hr : r < R) (hc : c < C) : (0 ≤ (r : Int) * (C : Int) ∧ (r : Int) * (C : Int) ≤ 1024) ∧ ((r * C + c : Nat) : Int) = (r : Int) * (C : Int) + c := by
  refine ⟨mul32 (by omega) hC, ?_⟩
  rw [Int.natCast_add, Int.natCast_mul]
theorem S4.under {w w' : World} {b B : Nat} {R C p q : Int} (h : S4 w b R C p q) (hb : Below B w w') (hB : b < B) : S4 w' b R C p q :=
  ⟨Nat.lt_of_lt_of_le h.1 hb.size, (hb.cell (p := ⟨b, 0, none⟩) hB).trans h.2.1, (hb.cell (p := ⟨b, 1, none⟩) hB).trans h.2.2.1, (hb.cell (p := ⟨b, 2, none⟩) hB).trans h.2.2.2.1, (hb.cell (p := ⟨b, 3, none⟩) hB).trans h.2.2.2.2⟩
theorem S5.under {w w' : World} {b B : Nat} {R C p q : Int} {v : Value} (h : S5 w b R C p q v) (hb : Below B w w') (hB : b < B) : S5 w' b R C p q v := ⟨h.1.under hb hB, (hb.cell (p := ⟨b, 4, none⟩) hB).trans h.2⟩
theorem S6.under {w w' : World} {b B : Nat} {R C p q : Int} {v m : Value} (h : S6 w b R C p q v m) (hb : Below B w w') (hB : b < B) : S6 w' b R C p q v m := ⟨h.1.under hb hB, (hb.cell (p := ⟨b, 5, none⟩) hB).trans h.2⟩
def rowK (C r k : Nat) : List Nat := (List.range k).map fun c => r * C + c
def colK (C c k : Nat) : List Nat := (List.range k).map fun r => r * C + c
theorem rowK_len (C r k : Nat) : (rowK C r k).length = k := by simp [rowK]
theorem colK_len (C c k : Nat) : (colK C c k).length = k := by simp [colK]
theorem toI_rowK (C r k : Nat) : toI (rowK C r (k + 1)) = toI (rowK C r k) ++ [(r : Int) * (C : Int) + (k : Int)] := by
  unfold rowK; rw [rowP_succ, toI_append]; simp [toI]
theorem toI_colK (C c k : Nat) : toI (colK C c (k + 1)) = toI (colK C c k) ++ [(k : Int) * (C : Int) + (c : Int)] := by
  unfold colK; rw [colP_succ, toI_append]; simp [toI]
set_option maxRecDepth 100000 in
set_option maxHeartbeats 2000000 in
theorem row_any (R C z : Nat) (p q : Int) (v : Value) (w : World) (hR : R ≤ 32) (hC : C ≤ 32) (hz : z < R) :
    Calls Tryz.prog 29 #[blkV R C p q v, .int .i64 (z : Int)] w fun e w' => ∃ A c, e = .returned (.slice A C c) ∧ OwI w' w.heap.size (.slice A C c) (toI (rowK C z C)) ∧ Below w.heap.size w w' := by
  have S0 := S5.new w R C p q v
  have B0 := below_new w (blkC R C p q v)
  go_enter Tryz.func29, Tryz.ntmps29
  go_wp2
  generalize w.alloc (blkC R C p q v) = W0 at *
  go_loopw [5, 10] (fun u i wr => ∃ k : Nat, k ≤ C ∧ i = .int .i64 k ∧ OwI wr (w.heap.size + 1) u (toI (rowK C z k)) ∧ S5 wr w.heap.size R C p q v ∧ Below w.heap.size w wr) (fun _ i _ => C - (intOf i).toNat)
  case atStart => exact ⟨0, Nat.zero_le _, rfl, OwI.nil _ _, S0, B0⟩
  case round =>
    obtain ⟨k, hk, rfl, ho, hs, hbw⟩ := hrel
    by_cases hlt : k < C
    · have HT := Lib.hid (toI_rowK C z k)
      have HO := Lib.hid ho
      have HS := Lib.hid hs
      have hl : (toI (rowK C z k)).length ≤ 32 := by rw [toI_len, rowK_len]; omega
      have hsz : w.heap.size + 1 ≤ wr.heap.size := hs.1.1
      obtain ⟨⟨ls, s0, s1, s2, s3⟩, s4⟩ := id hs
      have hmz := mul32 (a := z) (b := C) (by omega) (by omega)
      have hmk := mul32 (a := k) (b := C) (by omega) (by omega)
      generalize toI (rowK C z k) = L at *
      clear ho hs S0 B0
      go_wp2_with (at_builtin; refine wpList_app1I wr rfl (.tmp 13) (.tmp 21) rfl (w.heap.size + 1) _ L HO.out rfl _ _ rfl (by omega) hsz ?_; intro v1 w1 ho1 hb1)
      go_roundw
      case rel => first | exact ⟨k + 1, by omega, by go_num, by (rw [HT.out]; exact ho1), HS.out.under hb1 (Nat.lt_succ_self _), hbw.trans (hb1.mono (Nat.le_succ _))⟩ | ((repeat apply Exists.intro); exact ⟨⟨k + 1, by omega, by go_num, by (rw [HT.out]; exact ho1), HS.out.under hb1 (Nat.lt_succ_self _), hbw.trans (hb1.mono (Nat.le_succ _))⟩, rfl⟩)
      case measure => simp [intOf]; omega
    · obtain rfl : k = C := by omega
      obtain ⟨A1, c1, e1⟩ := ho.form
      rw [toI_len, rowK_len] at e1
      subst e1
      clear S0 B0
      go_wp2
      go_ret
      exact ⟨A1, c1, rfl, own_base ho (Nat.le_succ _), hbw⟩
set_option maxRecDepth 100000 in
set_option maxHeartbeats 2000000 in
theorem column_any (R C z : Nat) (p q : Int) (v : Value) (w : World) (hR : R ≤ 32) (hC : C ≤ 32) (hz : z < C) :
    Calls Tryz.prog 30 #[blkV R C p q v, .int .i64 (z : Int)] w fun e w' => ∃ A c, e = .returned (.slice A R c) ∧ OwI w' w.heap.size (.slice A R c) (toI (colK C z R)) ∧ Below w.heap.size w w' := by
  have S0 := S5.new w R C p q v
  have B0 := below_new w (blkC R C p q v)
  go_enter Tryz.func30, Tryz.ntmps30
  go_wp2
  generalize w.alloc (blkC R C p q v) = W0 at *
  go_loopw [5, 10] (fun u i wr => ∃ k : Nat, k ≤ R ∧ i = .int .i64 k ∧ OwI wr (w.heap.size + 1) u (toI (colK C z k)) ∧ S5 wr w.heap.size R C p q v ∧ Below w.heap.size w wr) (fun _ i _ => R - (intOf i).toNat)
  case atStart => exact ⟨0, Nat.zero_le _, rfl, OwI.nil _ _, S0, B0⟩
  case round =>
    obtain ⟨k, hk, rfl, ho, hs, hbw⟩ := hrel
    by_cases hlt : k < R
    · have HT := Lib.hid (toI_colK C z k)
      have HO := Lib.hid ho
      have HS := Lib.hid hs
      have hl : (toI (colK C z k)).length ≤ 32 := by rw [toI_len, colK_len]; omega
      have hsz : w.heap.size + 1 ≤ wr.heap.size := hs.1.1
      obtain ⟨⟨ls, s0, s1, s2, s3⟩, s4⟩ := id hs
      have hmz := mul32 (a := z) (b := C) (by omega) (by omega)
      have hmk := mul32 (a := k) (b := C) (by omega) (by omega)
      generalize toI (colK C z k) = L at *
      clear ho hs S0 B0
      go_wp2_with (at_builtin; refine wpList_app1I wr rfl (.tmp 13) (.tmp 21) rfl (w.heap.size + 1) _ L HO.out rfl _ _ rfl (by omega) hsz ?_; intro v1 w1 ho1 hb1)
      go_roundw
      case rel => first | exact ⟨k + 1, by omega, by go_num, by (rw [HT.out]; exact ho1), HS.out.under hb1 (Nat.lt_succ_self _), hbw.trans (hb1.mono (Nat.le_succ _))⟩ | ((repeat apply Exists.intro); exact ⟨⟨k + 1, by omega, by go_num, by (rw [HT.out]; exact ho1), HS.out.under hb1 (Nat.lt_succ_self _), hbw.trans (hb1.mono (Nat.le_succ _))⟩, rfl⟩)
      case measure => simp [intOf]; omega
    · obtain rfl : k = R := by omega
      obtain ⟨A1, c1, e1⟩ := ho.form
      rw [toI_len, colK_len] at e1
      subst e1
      clear S0 B0
      go_wp2
      go_ret
      exact ⟨A1, c1, rfl, own_base ho (Nat.le_succ _), hbw⟩
set_option maxRecDepth 100000 in
set_option maxHeartbeats 2000000 in
theorem get_any (R C p q : Int) (A I : Option Addr) (n c m ci : Nat) (l : List GF) (ps : List Nat) (w : World) (hl : RdB w A n l) (hi : RdI w I m (toI ps)) (hm : m ≤ 32) (hlt : ∀ i ∈ ps, i < n) (hn : n ≤ 1024) :
    Calls Tryz.prog 31 #[blkV R C p q (.slice A n c), .slice I m ci] w fun e w' => ∃ A' c', e = .returned (.slice A' m c') ∧ OwB w' w.heap.size (.slice A' m c') (getL l ps) ∧ Below w.heap.size w w' := by
  have lm : m = ps.length := by rw [← hi.1, toI_len]
  subst lm
  have S0 := S5.new w R C p q (.slice A n c)
  have B0 := below_new w (blkC R C p q (.slice A n c))
  have HL := Lib.hid hl
  have HI := Lib.hid hi
  have HLT := Lib.hid hlt
  clear hl hi hlt
  go_enter Tryz.func31, Tryz.ntmps31
  go_wp2
  generalize w.alloc (blkC R C p q (.slice A n c)) = W0 at *
  go_loopw [5, 10] (fun u i wr => ∃ k : Nat, k ≤ ps.length ∧ i = .int .i64 k ∧ OwB wr (w.heap.size + 1) u ((getL l ps).take k) ∧ S5 wr w.heap.size R C p q (.slice A n c) ∧ Below w.heap.size w wr) (fun _ i _ => ps.length - (intOf i).toNat)
  case atStart => exact ⟨0, Nat.zero_le _, rfl, OwB.nil _ _, S0, B0⟩
  case round =>
    obtain ⟨k, hk, rfl, ho, hs, hbw⟩ := hrel
    by_cases hlt : k < ps.length
    · have HT : Hid ((getL l ps).take (k + 1) = (getL l ps).take k ++ [l.getD (ps.getD k 0) 0]) := Lib.hid (by
        rw [List.take_succ_eq_append_getElem (by rw [getL_len]; exact hlt)]
        congr 2
        have := getL_get l ps hlt
        simpa [List.getD, getL_len, hlt] using this)
      have HO := Lib.hid ho
      have HS := Lib.hid hs
      have hkn := HLT.out _ (gmem hlt)
      obtain ⟨b, off, rfl, hlb, hcc⟩ := rdI_cell (HI.out.below hbw) (i := k) hlt
      rw [toI_getD] at hcc
      obtain ⟨b2, off2, rfl, hlb2, hc2⟩ := (HL.out.below hbw).2 (by omega)
      have hc3 := hc2 _ hkn
      clear hc2
      have hl2 : ((getL l ps).take k).length ≤ 32 := by rw [List.length_take]; omega
      have hsz : w.heap.size + 1 ≤ wr.heap.size := hs.1.1
      obtain ⟨⟨ls, s0, s1, s2, s3⟩, s4⟩ := id hs
      generalize (getL l ps).take k = L at *
      generalize ps.getD k 0 = j at *
      generalize l.getD j 0 = y at *
      clear ho hs S0 B0
      go_wp2_with (at_builtin; refine wpList_app1 wr rfl (.tmp 14) (.tmp 20) rfl (w.heap.size + 1) _ L HO.out rfl y _ rfl (by omega) hsz ?_; intro v1 w1 ho1 hb1)
      go_roundw
      case rel => first | exact ⟨k + 1, by omega, by go_num, by (rw [HT.out]; exact ho1), HS.out.under hb1 (Nat.lt_succ_self _), hbw.trans (hb1.mono (Nat.le_succ _))⟩ | ((repeat apply Exists.intro); exact ⟨⟨k + 1, by omega, by go_num, by (rw [HT.out]; exact ho1), HS.out.under hb1 (Nat.lt_succ_self _), hbw.trans (hb1.mono (Nat.le_succ _))⟩, rfl⟩)
      case measure => simp [intOf]; omega
    · obtain rfl : k = ps.length := by omega
      rw [List.take_of_length_le (by rw [getL_len]; exact Nat.le_refl _)] at ho
      obtain ⟨A1, c1, e1⟩ := ho.form
      rw [getL_len] at e1
      subst e1
      clear S0 B0
      go_wp2
      go_ret
      exact ⟨A1, c1, rfl, own_base ho (Nat.le_succ _), hbw⟩
set_option maxRecDepth 100000 in
set_option maxHeartbeats 2000000 in
theorem set_any (R C p q : Int) (g n cap m ci cw B S : Nat) (I W : Option Addr) (b wd : List GF) (ps : List Nat) (w : World) (hb : OwB w B (.slice (some ⟨g, 0, none⟩) n cap) b) (hi : OwI w S (.slice I ps.length ci) (toI ps)) (hw : OwB w S (.slice W m cw) wd)
    (hg : g < S) (hm : ps.length ≤ m) (hp : ps.length ≤ 32) (hlt : ∀ i ∈ ps, i < n) (hn : n ≤ 1024) :
    Calls Tryz.prog 28 #[blkV R C p q (.slice (some ⟨g, 0, none⟩) n cap), .slice I ps.length ci, .slice W m cw] w fun e w' => e = .returned (.tuple #[]) ∧ OwB w' B (.slice (some ⟨g, 0, none⟩) n cap) (putN b ps (fun k => wd.getD k 0) ps.length) ∧ Exc [g] w w' := by
  have S0 := S5.new w R C p q (.slice (some ⟨g, 0, none⟩) n cap)
  have B0 := below_new w (blkC R C p q (.slice (some ⟨g, 0, none⟩) n cap))
  have hgw := hb.lt.2
  have HB := Lib.hid (hb.below B0)
  have HI := Lib.hid (hi.below B0)
  have HW := Lib.hid (hw.below B0)
  have HX := Lib.hid (Exc.of [g] B0)
  have HLT := Lib.hid hlt
  clear hb hi hw hlt
  go_enter Tryz.func28, Tryz.ntmps28
  go_wp2
  generalize w.alloc (blkC R C p q (.slice (some ⟨g, 0, none⟩) n cap)) = W0 at *
  go_loopw [10] (fun i wr => ∃ k : Nat, k ≤ ps.length ∧ i = .int .i64 k ∧ OwB wr B (.slice (some ⟨g, 0, none⟩) n cap) (putN b ps (fun k => wd.getD k 0) k) ∧ OwI wr S (.slice I ps.length ci) (toI ps) ∧ OwB wr S (.slice W m cw) wd ∧ S5 wr w.heap.size R C p q (.slice (some ⟨g, 0, none⟩) n cap) ∧ Exc [g] w wr) (fun i _ => ps.length - (intOf i).toNat)
  case atStart => exact ⟨0, Nat.zero_le _, rfl, HB.out, HI.out, HW.out, S0, HX.out⟩
  case round =>
    obtain ⟨k, hk, rfl, ho, hi, hw, hs, hx⟩ := hrel
    by_cases hlt : k < ps.length
    · have hkn := HLT.out _ (gmem hlt)
      have HN := Lib.hid (ho.set (ps.getD k 0) (wd.getD k 0))
      have HNI := Lib.hid (own_low hi (p := ⟨g, ps.getD k 0, none⟩) hg (.int .u8 (wd.getD k 0).z))
      have HNW := Lib.hid (own_low hw (p := ⟨g, ps.getD k 0, none⟩) hg (.int .u8 (wd.getD k 0).z))
      have HNX := Lib.hid (hx.set (p := ⟨g, ps.getD k 0, none⟩) (List.mem_singleton.2 rfl) (.int .u8 (wd.getD k 0).z))
      have HNS := Lib.hid (hs.exc ((Exc.refl [g] wr).set (p := ⟨g, ps.getD k 0, none⟩) (List.mem_singleton.2 rfl) (.int .u8 (wd.getD k 0).z)) (by simp; omega))
      obtain ⟨bi, oi, rfl, hlb, hcc⟩ := rdI_cell hi.rd.1 (i := k) hlt
      rw [toI_getD] at hcc
      obtain ⟨gw, rfl⟩ := hw.head (by omega)
      have hcw := hw.cellAt (i := k) (by omega)
      have hco := ho.cellAt (i := ps.getD k 0) hkn
      have hfo := ho.frozenAt (ps.getD k 0)
      obtain ⟨⟨ls, s0, s1, s2, s3⟩, s4⟩ := id hs
      generalize (putN b ps (fun k => wd.getD k 0) k).getD (ps.getD k 0) 0 = yo at *
      have HPS : Hid (putN b ps (fun k => wd.getD k 0) (k + 1) = (putN b ps (fun k => wd.getD k 0) k).set (ps.getD k 0) (wd.getD k 0)) := Lib.hid rfl
      generalize ps.getD k 0 = j at *
      generalize wd.getD k 0 = y at *
      clear ho hi hw hs hx S0 B0
      go_wp2
      go_region
      go_wp2
      go_roundw
      case rel => first | exact ⟨k + 1, by omega, by go_num, by (rw [HPS.out]; exact HN.out), HNI.out, HNW.out, HNS.out, HNX.out.drew⟩ | ((repeat apply Exists.intro); exact ⟨⟨k + 1, by omega, by go_num, by (rw [HPS.out]; exact HN.out), HNI.out, HNW.out, HNS.out, HNX.out.drew⟩, rfl⟩)
      case measure => simp [intOf]; omega
    · obtain rfl : k = ps.length := by omega
      clear S0 B0
      go_wp2
      go_end0
      exact ⟨rfl, ho, hx⟩
theorem set_any2 (R C p q : Int) (g n cap mi m ci cw B S : Nat) (I W : Option Addr) (b wd : List GF) (ps : List Nat) (w : World) (hmi : mi = ps.length) (hb : OwB w B (.slice (some ⟨g, 0, none⟩) n cap) b) (hi : OwI w S (.slice I mi ci) (toI ps)) (hw : OwB w S (.slice W m cw) wd)
    (hg : g < S) (hm : mi ≤ m) (hp : mi ≤ 32) (hlt : ∀ i ∈ ps, i < n) (hn : n ≤ 1024) :
    Calls Tryz.prog 28 #[blkV R C p q (.slice (some ⟨g, 0, none⟩) n cap), .slice I mi ci, .slice W m cw] w fun e w' => e = .returned (.tuple #[]) ∧ OwB w' B (.slice (some ⟨g, 0, none⟩) n cap) (putN b ps (fun k => wd.getD k 0) mi) ∧ Exc [g] w w' := by
  subst hmi
  exact set_any R C p q g n cap m ci cw B S I W b wd ps w hb hi hw hg hm hp hlt hn
end Go.Proofs.YtmpjkdkgolmgdaaGreat
