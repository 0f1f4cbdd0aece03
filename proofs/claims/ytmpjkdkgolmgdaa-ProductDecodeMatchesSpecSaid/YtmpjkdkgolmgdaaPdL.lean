/- Product codes: Encode where it fails; the law's faults and 'transposed'. -/
import Derived.Test.YtmpjkdkgolmgdaaPdK
namespace Go.Proofs.Ytmpjkdkgolmgdaa
open Go.RowKit
set_option linter.unusedVariables false

/-- The fault of data. -/
def dtF (n : Nat) (R C p q : Int) : Int × Int := if shF R C p q ≠ (0, 0) then shF R C p q else if (n : Int) ≠ (R - q) * (C - p) then (9, -1) else (0, 0)
theorem sub_mul_int {R C p q : Nat} (h5 : p ≤ C) (h6 : q ≤ R) : (((R - q) * (C - p) : Nat) : Int) = ((R : Int) - q) * ((C : Int) - p) := by
  rw [Int.natCast_mul, Int.ofNat_sub h6, Int.ofNat_sub h5]
theorem dtF_ok {n R C p q : Nat} (h1 : 1 ≤ R) (h2 : R ≤ 32) (h3 : 1 ≤ C) (h4 : C ≤ 32) (h5 : p < C) (h6 : q < R) (hn : n = (R - q) * (C - p)) : dtF n R C p q = (0, 0) := by
  unfold dtF; rw [if_neg (by rw [shF_ok h1 h2 h3 h4 h5 h6]; exact fun h => h rfl), if_neg (by rw [hn, sub_mul_int (by omega) (by omega)]; exact fun h => h rfl)]
theorem dtF_cases (n : Nat) (R C p q : Int) : (∃ R' C' p' q' : Nat, R = R' ∧ C = C' ∧ p = p' ∧ q = q' ∧ 1 ≤ R' ∧ R' ≤ 32 ∧ 1 ≤ C' ∧ C' ≤ 32 ∧ p' < C' ∧ q' < R' ∧ n = (R' - q') * (C' - p') ∧ dtF n R C p q = (0, 0)) ∨
    (shF R C p q ≠ (0, 0) ∧ dtF n R C p q = shF R C p q) ∨ (∃ R' C' p' q' : Nat, R = R' ∧ C = C' ∧ p = p' ∧ q = q' ∧ 1 ≤ R' ∧ R' ≤ 32 ∧ 1 ≤ C' ∧ C' ≤ 32 ∧ p' < C' ∧ q' < R' ∧ n ≠ (R' - q') * (C' - p') ∧ dtF n R C p q = (9, -1)) := by
  by_cases h : shF R C p q = (0, 0)
  · obtain ⟨R', C', p', q', rfl, rfl, rfl, rfl, h1, h2, h3, h4, h5, h6⟩ := shF_nat h
    by_cases hn : n = (R' - q') * (C' - p')
    · exact .inl ⟨R', C', p', q', rfl, rfl, rfl, rfl, h1, h2, h3, h4, h5, h6, hn, dtF_ok h1 h2 h3 h4 h5 h6 hn⟩
    · refine .inr (.inr ⟨R', C', p', q', rfl, rfl, rfl, rfl, h1, h2, h3, h4, h5, h6, hn, ?_⟩)
      unfold dtF
      rw [if_neg (fun h' => h' h), if_pos (by rw [← sub_mul_int (by omega) (by omega)]; omega)]
  · exact .inr (.inl ⟨h, by unfold dtF; rw [if_pos h]⟩)
theorem dtF_code (n : Nat) (R C p q : Int) : dtF n R C p q = (0, 0) ∨ ((dtF n R C p q).1 ≠ 0) := by
  rcases dtF_cases n R C p q with ⟨_, _, _, _, _, _, _, _, _, _, _, _, _, _, _, h⟩ | ⟨h, h'⟩ | ⟨_, _, _, _, _, _, _, _, _, _, _, _, _, _, _, h⟩
  · exact .inl h
  · rw [h']; exact .inr (by have := (shF_code R C p q).resolve_left h; omega)
  · rw [h]; exact .inr (by decide)
set_option maxHeartbeats 2000000 in
theorem pdEncode_bad (A : Option Addr) (n c : Nat) (R C p q : Int) (w : World) (hn : n ≤ 9223372036854775807) (hf : dtF n R C p q ≠ (0, 0)) :
    Calls Try.prog 12 #[.slice A n c, shpV R C p q] w fun e w' => e = .returned (.tuple #[.slice none 0 0, .agg #[.int .i64 (dtF n R C p q).1, .int .i64 (dtF n R C p q).2]]) ∧ Below w.heap.size w w' := by
  have S0 := (S4.new w R C p q).al (fltC 0 0)
  have F0 := Has.new (w.alloc (shpC R C p q)) 0 0 26
  have B0 : Below w.heap.size w ((w.alloc (shpC R C p q)).alloc (fltC 0 0)) := by (repeat (first | exact Below.refl _ _ | assumption | refine Bw.al ?_ _ | refine Bw.step ?_ (by assumption) | refine Bw.drew ?_))
  rw [World.size_alloc] at F0
  have hw1 : w.heap.size ≤ w.heap.size + 1 := Nat.le_succ _
  rcases dtF_cases n R C p q with ⟨_, _, _, _, _, _, _, _, _, _, _, _, _, _, _, h⟩ | ⟨hf', h⟩ | ⟨R', C', p', q', rfl, rfl, rfl, rfl, h1, h2, h3, h4, h5, h6, hne, h⟩
  · exact absurd h hf
  · rw [h]
    have HSZ := Lib.hid (fun w => pdSize_bad R C p q w hf')
    have hc := (shF_code R C p q).resolve_left hf'
    generalize (shF R C p q).1 = f at *
    generalize (shF R C p q).2 = i at *
    have xC : (f == 0) = false := by rw [beq_eq_false_iff_ne]; omega
    clear hf hf' hc h
    obtain ⟨ls, s0, s1, s2, s3⟩ := id S0
    go_enter Try.func12, Try.ntmps12
    go_wp2_with fail
    refine (HSZ.out _).mono ?_
    rintro e w1 ⟨rfl, hb1⟩
    have F1 := (F0.below hb1).al (fltC f i)
    have F2 := Has.new w1 f i 26
    have B1 := Bw.al (Bw.step B0 hb1) (fltC f i)
    clear ls s0 s1 s2 s3
    obtain ⟨l2, c20, c21, f20, f21⟩ := id F2
    go_wp2
    generalize w1.alloc (fltC f i) = W at *
    generalize w1.heap.size = b1 at *
    have X1 := F2.ext
    (refine wp_region_extail 2 (by kernel_rfl) (by kernel_rfl) ?_; simp only [List.take_succ_cons, List.take_zero, List.drop_succ_cons, List.drop_zero]; (repeat (go_big_quiet_step ((fail)))); refine wpQuiet_nil ?_; intro W5 hw'; have hW5 := ext_below hw'; clear hw')
    have F5 := F1.below hW5
    have B5 := Bw.step B1 hW5
    clear X1 c20 c21 f20 f21
    obtain ⟨l1, c10, c11, f10, f11⟩ := id F5
    go_wp2
    exact bodyPost_ret (resF2 rfl rfl (F5.set2 f i)) rfl ⟨rfl, Bw.set (Bw.set B5 (p := ⟨w.heap.size + 1, 0, none⟩) hw1 _) (p := ⟨w.heap.size + 1, 1, none⟩) hw1 _⟩
  · rw [h]
    have HSZ := Lib.hid (fun w => pdSize_ok R' C' p' q' w h1 h2 h3 h4 h5 h6)
    generalize (R' - q') * (C' - p') = N at *
    have xN : ((n : Int) == (N : Int)) = false := by rw [beq_eq_false_iff_ne]; omega
    have xN2 : ((n : Int) != (N : Int)) = true := by rw [bne_iff_ne]; omega
    clear hf h
    obtain ⟨ls, s0, s1, s2, s3⟩ := id S0
    go_enter Try.func12, Try.ntmps12
    go_wp2_with fail
    refine (HSZ.out _).mono ?_
    rintro e w1 ⟨rfl, hb1⟩
    have F1 := (F0.below hb1).al (fltC 0 0)
    have F2 := Has.new w1 0 0 26
    have B1 := Bw.al (Bw.step B0 hb1) (fltC 0 0)
    clear ls s0 s1 s2 s3
    obtain ⟨l2, c20, c21, f20, f21⟩ := id F2
    go_wp2_with fail
    refine (pdFault_any _ _ _).mono ?_
    rintro e w2 ⟨rfl, hb2⟩
    have F3 := F1.below hb2
    have B3 := Bw.step B1 hb2
    clear l2 c20 c21 f20 f21
    obtain ⟨l1, c10, c11, f10, f11⟩ := id F3
    go_wp2
    exact bodyPost_ret (resF2 rfl rfl (F3.set2 9 (-1))) rfl ⟨rfl, Bw.set (Bw.set B3 (p := ⟨w.heap.size + 1, 0, none⟩) hw1 _) (p := ⟨w.heap.size + 1, 1, none⟩) hw1 _⟩
end Go.Proofs.Ytmpjkdkgolmgdaa
