/- Product codes: the law's dataFault and codeFault. -/
import Derived.Test.YtmpjkdkgolmgdaaPdM
namespace Go.Proofs.Ytmpjkdkgolmgdaa
open Go.RowKit
set_option linter.unusedVariables false

set_option maxHeartbeats 2000000 in
theorem dataFault_any (A : Option Addr) (n c : Nat) (R C p q : Int) (w : World) (hn : n ≤ 9223372036854775807) (hC : -9223372036854775808 ≤ C ∧ C ≤ 9223372036854775807) (hR : -9223372036854775808 ≤ R ∧ R ≤ 9223372036854775807) :
    Calls Try.prog 15 #[.slice A n c, shpV R C p q] w fun e w' => e = .returned (.agg #[.int .i64 (dtF n R C p q).1, .int .i64 (dtF n R C p q).2]) ∧ Below w.heap.size w w' := by
  have HV := Lib.hid (fun w => rShapeFault_any R C p q w hC hR)
  have S0 := (S4.new w R C p q).al (fltC 0 0)
  have F0 := Has.new (w.alloc (shpC R C p q)) 0 0 26
  have B0 : Below w.heap.size w ((w.alloc (shpC R C p q)).alloc (fltC 0 0)) := by (repeat (first | exact Below.refl _ _ | assumption | refine Bw.al ?_ _ | refine Bw.step ?_ (by assumption) | refine Bw.drew ?_))
  rw [World.size_alloc] at F0
  have hw1 : w.heap.size ≤ w.heap.size + 1 := Nat.le_succ _
  rcases dtF_cases n R C p q with ⟨R', C', p', q', rfl, rfl, rfl, rfl, h1, h2, h3, h4, h5, h6, hn', h⟩ | ⟨hf, h⟩ | ⟨R', C', p', q', rfl, rfl, rfl, rfl, h1, h2, h3, h4, h5, h6, hn', h⟩
  · rw [h]
    rw [shF_ok h1 h2 h3 h4 h5 h6] at HV
    have HD := Lib.hid (fun w => rDataSize_nat R' C' p' q' w h2 h4 (Nat.le_of_lt h5) (Nat.le_of_lt h6))
    rw [← hn'] at HD
    clear h hn'
    obtain ⟨ls, s0, s1, s2, s3⟩ := id S0
    go_enter Try.func15, Try.ntmps15
    go_wp2_with fail
    refine (HV.out _).mono ?_
    rintro e w1 ⟨rfl, hb1⟩
    have S1 := (S0.below hb1).al (fltC 0 0)
    have F1 := (F0.below hb1).al (fltC 0 0)
    have F2 := Has.new w1 0 0 26
    have B1 := Bw.al (Bw.step B0 hb1) (fltC 0 0)
    clear ls s0 s1 s2 s3
    obtain ⟨ls, s0, s1, s2, s3⟩ := id S1
    obtain ⟨l2, c20, c21, f20, f21⟩ := id F2
    go_wp2_with fail
    refine (HD.out _).mono ?_
    rintro e w2 ⟨rfl, hb2⟩
    have F1 := F1.below hb2
    have F2 := F2.below hb2
    have B1 := Bw.step B1 hb2
    clear ls s0 s1 s2 s3 l2 c20 c21 f20 f21
    obtain ⟨l1, c10, c11, f10, f11⟩ := id F1
    obtain ⟨l2, c20, c21, f20, f21⟩ := id F2
    go_wp2
    exact bodyPost_ret (resF1 rfl rfl (F1.set2 0 0)) rfl ⟨rfl, Bw.set (Bw.set B1 (p := ⟨w.heap.size + 1, 0, none⟩) hw1 _) (p := ⟨w.heap.size + 1, 1, none⟩) hw1 _⟩
  · rw [h]
    have hc := (shF_code R C p q).resolve_left hf
    generalize (shF R C p q).1 = f at *
    generalize (shF R C p q).2 = i at *
    have xC : (f == 0) = false := by rw [beq_eq_false_iff_ne]; omega
    clear hf hc h
    obtain ⟨ls, s0, s1, s2, s3⟩ := id S0
    go_enter Try.func15, Try.ntmps15
    go_wp2_with fail
    refine (HV.out _).mono ?_
    rintro e w1 ⟨rfl, hb1⟩
    have F1 := (F0.below hb1).al (fltC f i)
    have F2 := Has.new w1 f i 26
    have B1 := Bw.al (Bw.step B0 hb1) (fltC f i)
    clear ls s0 s1 s2 s3
    obtain ⟨l1, c10, c11, f10, f11⟩ := id F1
    obtain ⟨l2, c20, c21, f20, f21⟩ := id F2
    go_wp2
    exact bodyPost_ret (resF1 rfl rfl (F1.set2 f i)) rfl ⟨rfl, Bw.set (Bw.set B1 (p := ⟨w.heap.size + 1, 0, none⟩) hw1 _) (p := ⟨w.heap.size + 1, 1, none⟩) hw1 _⟩
  · rw [h]
    rw [shF_ok h1 h2 h3 h4 h5 h6] at HV
    have HD := Lib.hid (fun w => rDataSize_nat R' C' p' q' w h2 h4 (Nat.le_of_lt h5) (Nat.le_of_lt h6))
    generalize (R' - q') * (C' - p') = N at *
    have xN : ((n : Int) == (N : Int)) = false := by rw [beq_eq_false_iff_ne]; omega
    have xN2 : ((n : Int) != (N : Int)) = true := by rw [bne_iff_ne]; omega
    clear h
    obtain ⟨ls, s0, s1, s2, s3⟩ := id S0
    go_enter Try.func15, Try.ntmps15
    go_wp2_with fail
    refine (HV.out _).mono ?_
    rintro e w1 ⟨rfl, hb1⟩
    have S1 := (S0.below hb1).al (fltC 0 0)
    have F1 := (F0.below hb1).al (fltC 0 0)
    have F2 := Has.new w1 0 0 26
    have B1 := Bw.al (Bw.step B0 hb1) (fltC 0 0)
    have hgt : w.heap.size + 1 < w1.heap.size := Nat.lt_of_lt_of_le F0.1 hb1.size
    clear ls s0 s1 s2 s3
    obtain ⟨ls, s0, s1, s2, s3⟩ := id S1
    obtain ⟨l2, c20, c21, f20, f21⟩ := id F2
    go_wp2_with fail
    refine (HD.out _).mono ?_
    rintro e w2 ⟨rfl, hb2⟩
    have F1 := F1.below hb2
    have F2 := F2.below hb2
    have B1 := Bw.step B1 hb2
    clear ls s0 s1 s2 s3 l2 c20 c21 f20 f21
    go_wp2_with fail
    refine (rAtB _ _ _).mono ?_
    rintro e w3 ⟨rfl, hb3⟩
    have F1 := F1.below hb3
    have F2 := F2.below hb3
    have B1 := Bw.step B1 hb3
    have F3 := (F1.far (p := ⟨w1.heap.size, 0, none⟩) (show w1.heap.size ≠ w.heap.size + 1 by omega) (.int .i64 9)).far (p := ⟨w1.heap.size, 1, none⟩) (show w1.heap.size ≠ w.heap.size + 1 by omega) (.int .i64 (-1))
    have F4 := F2.set2 9 (-1)
    have B4 := Bw.set (Bw.set B1 (p := ⟨w1.heap.size, 0, none⟩) (show w.heap.size ≤ w1.heap.size by omega) (.int .i64 9)) (p := ⟨w1.heap.size, 1, none⟩) (show w.heap.size ≤ w1.heap.size by omega) (.int .i64 (-1))
    obtain ⟨l2, c20, c21, f20, f21⟩ := id F2
    obtain ⟨l3, c30, c31, f30, f31⟩ := id F3
    obtain ⟨l4, c40, c41, f40, f41⟩ := id F4
    go_wp2
    exact bodyPost_ret (resF1 rfl rfl (F3.set2 9 (-1))) rfl ⟨rfl, Bw.set (Bw.set B4 (p := ⟨w.heap.size + 1, 0, none⟩) hw1 _) (p := ⟨w.heap.size + 1, 1, none⟩) hw1 _⟩
set_option maxHeartbeats 2000000 in
theorem codeFault_any (A : Option Addr) (n c : Nat) (R C p q : Int) (w : World) (hn : n ≤ 9223372036854775807) (hC : -9223372036854775808 ≤ C ∧ C ≤ 9223372036854775807) (hR : -9223372036854775808 ≤ R ∧ R ≤ 9223372036854775807) :
    Calls Try.prog 20 #[.slice A n c, shpV R C p q] w fun e w' => e = .returned (.agg #[.int .i64 (cdF n R C p q).1, .int .i64 (cdF n R C p q).2]) ∧ Below w.heap.size w w' := by
  have HV := Lib.hid (fun w => rShapeFault_any R C p q w hC hR)
  have S0 := (S4.new w R C p q).al (fltC 0 0)
  have F0 := Has.new (w.alloc (shpC R C p q)) 0 0 26
  have B0 : Below w.heap.size w ((w.alloc (shpC R C p q)).alloc (fltC 0 0)) := by (repeat (first | exact Below.refl _ _ | assumption | refine Bw.al ?_ _ | refine Bw.step ?_ (by assumption) | refine Bw.drew ?_))
  rw [World.size_alloc] at F0
  have hw1 : w.heap.size ≤ w.heap.size + 1 := Nat.le_succ _
  rcases cdF_cases n R C p q with ⟨R', C', p', q', rfl, rfl, rfl, rfl, h1, h2, h3, h4, h5, h6, hn', h⟩ | ⟨hf, h⟩ | ⟨R', C', p', q', rfl, rfl, rfl, rfl, h1, h2, h3, h4, h5, h6, hn', h⟩
  · rw [h]
    rw [shF_ok h1 h2 h3 h4 h5 h6] at HV
    have hm := mul32 h2 h4
    have hne : ((n : Int) != (R' : Int) * (C' : Int)) = false := by rw [hn', Int.natCast_mul]; simp
    clear h hn'
    obtain ⟨ls, s0, s1, s2, s3⟩ := id S0
    go_enter Try.func20, Try.ntmps20
    go_wp2_with fail
    refine (HV.out _).mono ?_
    rintro e w1 ⟨rfl, hb1⟩
    have S1 := (S0.below hb1).al (fltC 0 0)
    have F1 := (F0.below hb1).al (fltC 0 0)
    have F2 := Has.new w1 0 0 26
    have B1 := Bw.al (Bw.step B0 hb1) (fltC 0 0)
    clear ls s0 s1 s2 s3
    obtain ⟨ls, s0, s1, s2, s3⟩ := id S1
    obtain ⟨l1, c10, c11, f10, f11⟩ := id F1
    obtain ⟨l2, c20, c21, f20, f21⟩ := id F2
    go_wp2
    exact bodyPost_ret (resF1 rfl rfl (F1.set2 0 0)) rfl ⟨rfl, Bw.set (Bw.set B1 (p := ⟨w.heap.size + 1, 0, none⟩) hw1 _) (p := ⟨w.heap.size + 1, 1, none⟩) hw1 _⟩
  · rw [h]
    have hc := (shF_code R C p q).resolve_left hf
    generalize (shF R C p q).1 = f at *
    generalize (shF R C p q).2 = i at *
    have xC : (f == 0) = false := by rw [beq_eq_false_iff_ne]; omega
    clear hf hc h
    obtain ⟨ls, s0, s1, s2, s3⟩ := id S0
    go_enter Try.func20, Try.ntmps20
    go_wp2_with fail
    refine (HV.out _).mono ?_
    rintro e w1 ⟨rfl, hb1⟩
    have F1 := (F0.below hb1).al (fltC f i)
    have F2 := Has.new w1 f i 26
    have B1 := Bw.al (Bw.step B0 hb1) (fltC f i)
    clear ls s0 s1 s2 s3
    obtain ⟨l1, c10, c11, f10, f11⟩ := id F1
    obtain ⟨l2, c20, c21, f20, f21⟩ := id F2
    go_wp2
    exact bodyPost_ret (resF1 rfl rfl (F1.set2 f i)) rfl ⟨rfl, Bw.set (Bw.set B1 (p := ⟨w.heap.size + 1, 0, none⟩) hw1 _) (p := ⟨w.heap.size + 1, 1, none⟩) hw1 _⟩
  · rw [h]
    rw [shF_ok h1 h2 h3 h4 h5 h6] at HV
    have hm := mul32 h2 h4
    have hne : ((n : Int) != (R' : Int) * (C' : Int)) = true := by rw [← Int.natCast_mul, bne_iff_ne]; omega
    have hne2 : ((n : Int) == (R' : Int) * (C' : Int)) = false := by rw [← Int.natCast_mul, beq_eq_false_iff_ne]; omega
    clear h hn'
    obtain ⟨ls, s0, s1, s2, s3⟩ := id S0
    go_enter Try.func20, Try.ntmps20
    go_wp2_with fail
    refine (HV.out _).mono ?_
    rintro e w1 ⟨rfl, hb1⟩
    have S1 := (S0.below hb1).al (fltC 0 0)
    have F1 := (F0.below hb1).al (fltC 0 0)
    have F2 := Has.new w1 0 0 26
    have B1 := Bw.al (Bw.step B0 hb1) (fltC 0 0)
    have hgt : w.heap.size + 1 < w1.heap.size := Nat.lt_of_lt_of_le F0.1 hb1.size
    clear ls s0 s1 s2 s3
    obtain ⟨ls, s0, s1, s2, s3⟩ := id S1
    obtain ⟨l2, c20, c21, f20, f21⟩ := id F2
    go_wp2_with fail
    refine (rAtB _ _ _).mono ?_
    rintro e w3 ⟨rfl, hb3⟩
    clear ls s0 s1 s2 s3 l2 c20 c21 f20 f21
    have F1 := F1.below hb3
    have F2 := F2.below hb3
    have B1 := Bw.step B1 hb3
    have F3 := (F1.far (p := ⟨w1.heap.size, 0, none⟩) (show w1.heap.size ≠ w.heap.size + 1 by omega) (.int .i64 9)).far (p := ⟨w1.heap.size, 1, none⟩) (show w1.heap.size ≠ w.heap.size + 1 by omega) (.int .i64 (-1))
    have F4 := F2.set2 9 (-1)
    have B4 := Bw.set (Bw.set B1 (p := ⟨w1.heap.size, 0, none⟩) (show w.heap.size ≤ w1.heap.size by omega) (.int .i64 9)) (p := ⟨w1.heap.size, 1, none⟩) (show w.heap.size ≤ w1.heap.size by omega) (.int .i64 (-1))
    obtain ⟨l2, c20, c21, f20, f21⟩ := id F2
    obtain ⟨l3, c30, c31, f30, f31⟩ := id F3
    obtain ⟨l4, c40, c41, f40, f41⟩ := id F4
    go_wp2
    exact bodyPost_ret (resF1 rfl rfl (F3.set2 9 (-1))) rfl ⟨rfl, Bw.set (Bw.set B4 (p := ⟨w.heap.size + 1, 0, none⟩) hw1 _) (p := ⟨w.heap.size + 1, 1, none⟩) hw1 _⟩
end Go.Proofs.Ytmpjkdkgolmgdaa
