/- The walk of the law LossplanChosenIsBest. -/
import Derived.Test.YtnajdmkdkpmdgaaLpS
namespace Go.Proofs.Ytnajdmkdkpmdgaa
open Go.RowKit
set_option linter.unusedVariables false

set_option maxRecDepth 100000 in
set_option maxHeartbeats 8000000 in
/-- Choose has failed. -/
theorem chosen_fail (m x h v s len rp cp C I : Int) (w : World) (hC : C ≠ 0) (HC : ∀ w, Calls Try.prog 14 #[loV m x h v s, .int .i64 len] w fun e w' => e = .returned (.tuple #[plV 0 0 0 0, .agg #[.int .i64 C, .int .i64 I]]) ∧ Below w.heap.size w w') :
    Calls Try.prog 6 #[loV m x h v s, .int .i64 len, .int .i64 rp, .int .i64 cp] w fun e w' => e = .returned (.bool true) ∧ Below w.heap.size w w' := by
  have HC' := Lib.hid HC
  have xC : (C == 0) = false := by rw [beq_eq_false_iff_ne]; exact hC
  have xC2 : (C != 0) = true := by rw [bne_iff_ne]; exact hC
  clear HC hC
  have B0 := below_new w (loC m x h v s)
  go_enter Try.func6, Try.ntmps6
  go_wp2_with fail
  refine (HC'.out _).mono ?_
  rintro e w1 ⟨rfl, hb1⟩
  have F1 := Has.new (w1.alloc (plC 0 0 0 0)) C I 27
  rw [World.size_alloc] at F1
  have B0 := Bw.al (Bw.al (Bw.step B0 hb1) (plC 0 0 0 0)) (.cells #[.int .i64 C, .int .i64 I] 27)
  obtain ⟨l1, c10, c11, f10, f11⟩ := id F1
  go_wp2_with (go_at_call 12; refine (planned_any _).mono ?_; rintro e w' ⟨rfl, hb9⟩)
  go_ret
  exact ⟨rfl, Bw.step B0 hb9⟩
/-- A plan was chosen. -/
structure Cho (w wr : World) (bp : Nat) (m x h v s r c d p : Int) : Prop where
  l : H5 wr w.heap.size m x h v s
  p : H4 wr bp r c d p
  bw : Below w.heap.size w wr
theorem Cho.below {w wr wr' : World} {bp : Nat} {m x h v s r c d p : Int} (f : Cho w wr bp m x h v s r c d p) (hb : Below wr.heap.size wr wr') : Cho w wr' bp m x h v s r c d p := ⟨f.l.below hb, f.p.below hb, Bw.step f.bw hb⟩
theorem Cho.al {w wr : World} {bp : Nat} {m x h v s r c d p : Int} (f : Cho w wr bp m x h v s r c d p) (o : Obj) : Cho w (wr.alloc o) bp m x h v s r c d p := f.below (below_new _ _)
set_option maxRecDepth 100000 in
set_option maxHeartbeats 8000000 in
theorem chosen_main (m x s len rp cp r c d p : Int) (H V : Nat) (w : World) (h' : loF m x H V s = (0, 0)) (hrp : -9223372036854775808 ≤ rp ∧ rp ≤ 9223372036854775807) (hcp : -9223372036854775808 ≤ cp ∧ cp ≤ 9223372036854775807) (hlen : 0 ≤ len ∧ len ≤ 9223372036854775807) (hres : ChRes H V s (m + 2 * x) len r c d p 0 0)
    (W1 : World) (bp : Nat) (K : Cho w W1 bp m x H V s r c d p) : True := by
  obtain ⟨_, hx0, _, _, _⟩ := loF_ok h'
  obtain ⟨hm0, _⟩ := loF_ok h'
  obtain ⟨k, hk, hr, hc, hp, _, hpl, hbe, hd, hpay, hall⟩ := hres.good rfl hm0.1 hx0.1
  trivial
end Go.Proofs.Ytnajdmkdkpmdgaa
