/- Product codes: the walk of the law that all lines of a code block are code words. -/
import Derived.Test.YtmpjkdkgolmgdaaPdW
import Derived.Test.YtmpjkdkgolmgdaaPdO
namespace Go.Proofs.Ytmpjkdkgolmgdaa
open Go.RowKit
set_option linter.unusedVariables false

theorem run_midB0 (g n c lo hi : Nat) (h1 : lo < hi) (h2 : hi ≤ n) (h3 : n ≤ c) (w : World) : (Instr.slice 22 (.slice (some ⟨g, 0, none⟩) n c) (some (.int .i64 (lo : Int))) (some (.int .i64 (hi : Int))) none).run Try.prog w = .ok (.slice (some ⟨g, lo, none⟩) (hi - lo) (c - lo)) w := by
  have := run_midB g 0 n c lo hi h1 h2 h3 w
  rw [Nat.zero_add] at this
  exact this
/-- A line of a block that lies in memory, cut out, as Check reads it. -/
theorem line_check {g c R C p r B : Nat} {b : List GF} {wr : World} (ho : OwB wr B (.slice (some ⟨g, 0, none⟩) (R * C) c) b) (hl : b.length = R * C) (hr : r < R) (h3 : 1 ≤ C) (h4 : C ≤ 32) (h5 : p < C) (hcw : isCW p (rowW C b r)) :
    ∀ W, Gr wr W → Calls Try.prog 26 #[.slice (some ⟨g, r * C, none⟩) C (c - r * C), .int .i64 p] W fun e w' => e = .returned (.tuple #[.bool true, .agg #[.int .i64 0, .int .i64 0]]) ∧ Below W.heap.size W w' := fun W hG => by
  have h1 : r * C + C ≤ R * C := by have := Nat.mul_le_mul_right C hr; rw [Nat.succ_mul] at this; exact this
  have RW : RdB W (some ⟨g, r * C, none⟩) C (rowW C b r) := by
    have := ((ho.rd.1.below hG).drop (r * C)).take (k := C) (by omega)
    rw [Nat.zero_add, row_take hl hr] at this
    exact this
  have := Check_ok (some ⟨g, r * C, none⟩) C (c - r * C) p _ W RW (by omega) (by omega) (by omega)
  rw [cwB_iff.2 hcw] at this
  exact this
set_option maxRecDepth 100000 in
set_option maxHeartbeats 8000000 in
theorem lwGood (A : Option Addr) (n c R C p q r k : Nat) (d : List GF) (w : World) (RL : RdB w A n d) (hn : n ≤ 9223372036854775807) (hnc : n ≤ c) (hnn : n = (R - q) * (C - p)) (h1 : 1 ≤ R) (h2 : R ≤ 32) (h3 : 1 ≤ C) (h4 : C ≤ 32) (h5 : p < C) (h6 : q < R) (hr : r < R) (hk : k < C) :
    Calls Try.prog 6 #[.slice A n c, shpV R C p q, .int .i64 (r : Int), .int .i64 (k : Int)] w fun e w' => e = .returned (.bool true) ∧ Below w.heap.size w w' := by
  have HDF := Lib.hid (fun w => dataFault_any A n c R C p q w hn (by omega) (by omega))
  have HEN := Lib.hid (fun w (hl : RdB w A n d) => pdEncode_ok A n c R C p q d w hl hnc hnn h1 h2 h3 h4 h5 h6)
  rw [dtF_ok h1 h2 h3 h4 h5 h6 hnn] at HDF
  have HI1 := Lib.hid (fun w => refIn_any (r : Int) 0 ((R : Int) - 1) w)
  have HI2 := Lib.hid (fun w => refIn_any (k : Int) 0 ((C : Int) - 1) w)
  rw [show inB (r : Int) 0 ((R : Int) - 1) = true by unfold inB; simp; omega] at HI1
  rw [show inB (k : Int) 0 ((C : Int) - 1) = true by unfold inB; simp; omega] at HI2
  have HRL := Lib.hid RL
  have hRC0 : 0 < R * C := Nat.mul_pos h1 h3
  have S0 := S4.new w R C p q
  have B0 := below_new w (shpC R C p q)
  clear RL hnn
  go_enter Try.func6, Try.ntmps6
  go_wp2_with fail
  refine (HEN.out _ (HRL.out.below B0)).mono ?_
  rintro e w1 ⟨A1, c1, b, rfl, ho1, hbk, hb1⟩
  obtain ⟨g1, rfl⟩ := ho1.head hRC0
  have hcap := ho1.cap.1
  ((first | replace B0 := Bw.step B0 hb1 | replace B0 := Bw.step (Bw.al B0 _) hb1 | replace B0 := Bw.step (Bw.al (Bw.al B0 _) _) hb1 | replace B0 := Bw.step (Bw.al (Bw.al (Bw.al B0 _) _) _) hb1 | replace B0 := Bw.step (Bw.al (Bw.al (Bw.al (Bw.al B0 _) _) _) _) hb1 | replace B0 := Bw.step (Bw.al (Bw.al (Bw.al (Bw.al (Bw.al B0 _) _) _) _) _) hb1 | replace B0 := Bw.step (Bw.al (Bw.al (Bw.al (Bw.al (Bw.al (Bw.al B0 _) _) _) _) _) _) hb1); (first | replace S0 := S0.below hb1 | replace S0 := (S0.al _).below hb1 | replace S0 := ((S0.al _).al _).below hb1 | replace S0 := (((S0.al _).al _).al _).below hb1 | replace S0 := ((((S0.al _).al _).al _).al _).below hb1 | replace S0 := (((((S0.al _).al _).al _).al _).al _).below hb1 | replace S0 := ((((((S0.al _).al _).al _).al _).al _).al _).below hb1))
  have HBK := Lib.hid hbk
  have F1 := Has.new w1 0 0 26
  have R1 : OwB (w1.alloc (fltC 0 0)) w.heap.size (.slice (some ⟨g1, 0, none⟩) (R * C) c1) b := own_base (own_below ho1 (below_new w1 _)) (by simp)
  clear ho1 hbk
  obtain ⟨ls, s0, s1, s2, s3⟩ := id S0
  go_wp2_with fail
  refine (HDF.out _).mono ?_
  rintro e w2 ⟨rfl, hb2⟩
  clear ls s0 s1 s2 s3
  ((first | replace B0 := Bw.step B0 hb2 | replace B0 := Bw.step (Bw.al B0 _) hb2 | replace B0 := Bw.step (Bw.al (Bw.al B0 _) _) hb2 | replace B0 := Bw.step (Bw.al (Bw.al (Bw.al B0 _) _) _) hb2 | replace B0 := Bw.step (Bw.al (Bw.al (Bw.al (Bw.al B0 _) _) _) _) hb2 | replace B0 := Bw.step (Bw.al (Bw.al (Bw.al (Bw.al (Bw.al B0 _) _) _) _) _) hb2 | replace B0 := Bw.step (Bw.al (Bw.al (Bw.al (Bw.al (Bw.al (Bw.al B0 _) _) _) _) _) _) hb2); (first | replace S0 := S0.below hb2 | replace S0 := (S0.al _).below hb2 | replace S0 := ((S0.al _).al _).below hb2 | replace S0 := (((S0.al _).al _).al _).below hb2 | replace S0 := ((((S0.al _).al _).al _).al _).below hb2 | replace S0 := (((((S0.al _).al _).al _).al _).al _).below hb2 | replace S0 := ((((((S0.al _).al _).al _).al _).al _).al _).below hb2); (first | replace F1 := F1.below hb2 | replace F1 := (F1.al _).below hb2 | replace F1 := ((F1.al _).al _).below hb2 | replace F1 := (((F1.al _).al _).al _).below hb2 | replace F1 := ((((F1.al _).al _).al _).al _).below hb2 | replace F1 := (((((F1.al _).al _).al _).al _).al _).below hb2 | replace F1 := ((((((F1.al _).al _).al _).al _).al _).al _).below hb2))
  replace R1 := R1.below hb2
  have hmul := mul32 h2 h4
  have hN : R * C ≤ 1024 := by have := hmul.2; rw [← Int.natCast_mul] at this; omega
  have em : ((R * C : Nat) : Int) = (R : Int) * (C : Int) := Int.natCast_mul _ _
  have em2 : (R : Int) * (C : Int) = ((R * C : Nat) : Int) := em.symm
  have em3 : IntKind.i64.wrap ((R : Int) * (C : Int)) = ((R * C : Nat) : Int) := by rw [IntWalk.i64_in _ (by omega)]; exact em2
  have HSL1 := fun w => run_midB0 g1 (R * C) c1 (r * C) ((r + 1) * C) (by rw [Nat.add_mul, Nat.one_mul]; omega) (Nat.mul_le_mul_right C hr) hcap w
  have hw1 : (r + 1) * C - r * C = C := by rw [Nat.add_mul, Nat.one_mul]; omega
  rw [hw1] at HSL1
  have ek1 : ((r * C : Nat) : Int) = (r : Int) * (C : Int) := Int.natCast_mul _ _
  have ek2 : (((r + 1) * C : Nat) : Int) = ((r : Int) + 1) * (C : Int) := by rw [Int.natCast_mul, Int.natCast_add]; rfl
  have hrb : (r + 1) * C ≤ R * C := Nat.mul_le_mul_right C hr
  have hrb2 : r * C ≤ (r + 1) * C := Nat.mul_le_mul_right C (Nat.le_succ r)
  have hm1 : 0 ≤ (r : Int) * (C : Int) ∧ (r : Int) * (C : Int) ≤ 1024 := by omega
  have hm2 : 0 ≤ ((r : Int) + 1) * (C : Int) ∧ ((r : Int) + 1) * (C : Int) ≤ 1024 := by omega
  rw [ek1, ek2] at HSL1
  have HCK1 := Lib.hid (line_check R1 HBK.out.1.1 hr h3 h4 h5 (HBK.out.1.2.1 r hr))
  have HT2 := Lib.hid (fun W B (hb : OwB W B (.slice (some ⟨g1, 0, none⟩) (R * C) c1) b) => transposed_any (some ⟨g1, 0, none⟩) (R * C) c1 R C b W hb.rd.1 rfl h2 h4)
  have HLT : Hid ((trL R C b).length = C * R) := Lib.hid (trL_len R C b)
  have HCW2 : Hid (isCW q (rowW R (trL R C b) k)) := Lib.hid (by rw [tr_row b hk]; exact HBK.out.1.2.2 k hk)
  have HLC := Lib.hid (fun (g7 c7 B : Nat) (wr : World) (h7 : OwB wr B (.slice (some ⟨g7, 0, none⟩) (R * C) c7) (trL R C b)) => line_check (g := g7) (c := c7) (R := C) (C := R) (p := q) (r := k) (B := B) (b := trL R C b) (by rw [Nat.mul_comm C R]; exact h7) HLT.out hk h1 h2 h6 HCW2.out)
  have hkb : (k + 1) * R ≤ R * C := by rw [Nat.mul_comm R C]; exact Nat.mul_le_mul_right R hk
  have hkb2 : k * R ≤ (k + 1) * R := Nat.mul_le_mul_right R (Nat.le_succ k)
  have HSL2 := Lib.hid (fun (g7 c7 : Nat) (hc : R * C ≤ c7) w => by
    have := run_midB0 g7 (R * C) c7 (k * R) ((k + 1) * R) (by rw [Nat.add_mul, Nat.one_mul]; omega) hkb hc w
    rw [show (k + 1) * R - k * R = R by rw [Nat.add_mul, Nat.one_mul]; omega, show ((k * R : Nat) : Int) = (k : Int) * (R : Int) from Int.natCast_mul _ _, show (((k + 1) * R : Nat) : Int) = ((k : Int) + 1) * (R : Int) by rw [Int.natCast_mul, Int.natCast_add]; rfl] at this
    exact this)
  have hm3 : 0 ≤ (k : Int) * (R : Int) ∧ (k : Int) * (R : Int) ≤ 1024 := by rw [← Int.natCast_mul]; omega
  have hm4 : 0 ≤ ((k : Int) + 1) * (R : Int) ∧ ((k : Int) + 1) * (R : Int) ≤ 1024 := by rw [show ((k : Int) + 1) = ((k + 1 : Nat) : Int) from rfl, ← Int.natCast_mul]; omega
  have HEM2 := Lib.hid em2
  have HEM3 := Lib.hid em3
  have HR1 := Lib.hid R1
  have HS0 := Lib.hid S0
  have HF1 := Lib.hid F1
  have HB0 := Lib.hid B0
  have HSL1h := Lib.hid HSL1
  have h6b : q ≤ 32 := by omega
  clear em em2 em3 HSL1 hw1 ek1 ek2 hrb hrb2 hkb hkb2 R1 S0 F1 B0 hcap
  obtain ⟨ls, s0, s1, s2, s3⟩ := id HS0.out
  obtain ⟨l1, c10, c11, f10, f11⟩ := id HF1.out
  have x2 := HEM2.out
  have x3 := HEM3.out
  have HRC0 := Lib.hid hRC0
  clear hRC0
  generalize hNN : R * C = NN at *
  have HNN := Lib.hid hNN
  clear hNN
  go_wp2_with (first | (go_at_call_of 25 (Value.int .i64 (r : Int)); refine (HI1.out _).mono ?_; rintro e w' ⟨rfl, rfl⟩) | (go_at_call 25; refine (HI2.out _).mono ?_; rintro e w' ⟨rfl, rfl⟩) | (go_at_call 25; refine (HI1.out _).mono ?_; rintro e w' ⟨rfl, rfl⟩))
  clear ls s0 s1 s2 s3 l1 c10 c11 f10 f11 x2 x3
  obtain ⟨lo, hlo⟩ : ∃ lo, r * C = lo := ⟨_, rfl⟩
  rw [hlo] at HSL1h HCK1
  obtain ⟨lk, hlk⟩ : ∃ lk, k * R = lk := ⟨_, rfl⟩
  rw [hlk] at HSL2 HLC
  clear hlo hlk
  apply wp_region_mid2 (α := Nat) (β := Unit) (fun z u W => Below w2.heap.size w2 W ∧ Has W z 0 0)
  case h =>
    intro QQ HQ
    obtain ⟨u, _⟩ : ∃ u : Unit, True := ⟨(), trivial⟩
    have hx1 := fun z (hz : Gr w2 z) x => cell_extz hz HS0.out.1 HS0.out.2.2.1 x
    have hx2 := fun z (hz : Gr w2 z) x => cell_extz hz HS0.out.1 HS0.out.2.2.2.1 x
    have hsl := HSL1h.out
    (refine wp_region_tree [0, 1, 2, 3, 4, 5, 6, 7, 8, 9, 10, 11, 12, 13, 14, 15, 16, 17, 18] [19] 19 (by kernel_rfl) (by kernel_rfl) (by kernel_rfl) ?_; intro V1 g1)
    have n1 : w2.heap.size ≤ V1.heap.size := g1.size
    (apply tree_quiet [0, 1, 2, 3, 4, 5, 6, 7, 8, 9, 10, 11, 12] (r := 6) (by kernel_rfl) (by kernel_rfl) (by kernel_rfl) (by kernel_rfl); (case hq => (intro z hz; simp only [pick, List.getElem?_cons_succ, List.getElem?_cons_zero]; ((have hx1 := hx1 z (g1.trans hz); have hx2 := hx2 z (g1.trans hz))); (repeat (go_big_quiet_step ((fail)))); refine wpQuiet_nil ?_; exact rfl)); (case' h => intro V2 g2))
    have n2 : V1.heap.size ≤ V2.heap.size := g2.size
    (refine tree_two 13 17 rfl rfl (by kernel_rfl) ?_ ?_)
    · skip
      go_wp2_with (go_at_call 26; refine (HCK1.out _ (g1.trans g2)).mono ?_; rintro e V3 ⟨rfl, g3⟩)
      refine ⟨g3, fun V4 g4 => ?_⟩
      have n3 : V2.heap.size ≤ V3.heap.size := g3.size
      have n4 : V3.heap.size ≤ V4.heap.size := g4.size
      replace g3 : Gr V2 V3 := g3
      (apply tree_quiet [14, 15, 16] (r := 2) (by kernel_rfl) (by kernel_rfl) (by kernel_rfl) (by kernel_rfl); (case hq => (intro z hz; simp only [pick, List.getElem?_cons_succ, List.getElem?_cons_zero]; (skip); (repeat (go_big_quiet_step ((fail)))); refine wpQuiet_nil ?_; exact rfl)); (case' h => intro V5 g5))
      have n5 : V4.heap.size ≤ V5.heap.size := g5.size
      (refine tree_one 17 rfl (by kernel_rfl) ?_)
      go_wp2
      refine ⟨below_new _ _, fun V6 hZ => ?_⟩
      have Z := (Has.new V5 0 0 26).below hZ
      have g6 : Gr V5 V6 := Bw.step (below_new _ (fltC 0 0)) hZ
      have nz : V5.heap.size < V6.heap.size := Z.1
      clear hZ
      generalize V5.heap.size = z at *
      (apply tree_quiet [18] (r := 0) (by kernel_rfl) (by kernel_rfl) (by kernel_rfl) (by kernel_rfl); (case hq => (intro z hz; simp only [pick, List.getElem?_cons_succ, List.getElem?_cons_zero]; (skip); (repeat (go_big_quiet_step ((fail)))); refine wpQuiet_nil ?_; exact rfl)); (case' h => intro V7 g7))
      have n7 : V6.heap.size ≤ V7.heap.size := g7.size
      have Z := Z.below g7
      obtain ⟨lz, z0, z1, y0, y1⟩ := id Z
      (refine tree_end (by kernel_rfl) ?_; simp only [pick, List.getElem?_cons_succ, List.getElem?_cons_zero])
      go_wp2
      exact HQ.out z u _ ⟨Bw.set (Bw.set (g1.trans (g2.trans (g3.trans (g4.trans (g5.trans (g6.trans g7)))))) (p := ⟨z, 0, none⟩) (by show w2.heap.size ≤ z; omega) _) (p := ⟨z, 1, none⟩) (by show w2.heap.size ≤ z; omega) _, Z.set2 0 0⟩
    · skip
      go_wp2
      refine ⟨below_new _ _, fun V3 hZ => ?_⟩
      have Z := (Has.new V2 0 0 26).below hZ
      have g3 : Gr V2 V3 := Bw.step (below_new _ (fltC 0 0)) hZ
      have nz : V2.heap.size < V3.heap.size := Z.1
      clear hZ
      generalize V2.heap.size = z at *
      (refine tree_one 13 rfl (by kernel_rfl) ?_)
      go_wp2_with (go_at_call 26; refine (HCK1.out _ (g1.trans (g2.trans g3))).mono ?_; rintro e V4 ⟨rfl, g4⟩)
      refine ⟨g4, fun V5 g5 => ?_⟩
      have n4 : V3.heap.size ≤ V4.heap.size := g4.size
      have n5 : V4.heap.size ≤ V5.heap.size := g5.size
      replace g4 : Gr V3 V4 := g4
      (apply tree_quiet [14, 15, 16] (r := 1) (by kernel_rfl) (by kernel_rfl) (by kernel_rfl) (by kernel_rfl); (case hq => (intro z hz; simp only [pick, List.getElem?_cons_succ, List.getElem?_cons_zero]; (skip); (repeat (go_big_quiet_step ((fail)))); refine wpQuiet_nil ?_; exact rfl)); (case' h => intro V6 g6))
      have n6 : V5.heap.size ≤ V6.heap.size := g6.size
      (apply tree_quiet [18] (r := 0) (by kernel_rfl) (by kernel_rfl) (by kernel_rfl) (by kernel_rfl); (case hq => (intro z hz; simp only [pick, List.getElem?_cons_succ, List.getElem?_cons_zero]; (skip); (repeat (go_big_quiet_step ((fail)))); refine wpQuiet_nil ?_; exact rfl)); (case' h => intro V7 g7))
      have n7 : V6.heap.size ≤ V7.heap.size := g7.size
      have Z := Z.below (g4.trans (g5.trans (g6.trans g7)))
      obtain ⟨lz, z0, z1, y0, y1⟩ := id Z
      (refine tree_end (by kernel_rfl) ?_; simp only [pick, List.getElem?_cons_succ, List.getElem?_cons_zero])
      go_wp2
      exact HQ.out z u _ ⟨Bw.set (Bw.set (g1.trans (g2.trans (g3.trans (g4.trans (g5.trans (g6.trans g7)))))) (p := ⟨z, 0, none⟩) (by show w2.heap.size ≤ z; omega) _) (p := ⟨z, 1, none⟩) (by show w2.heap.size ≤ z; omega) _, Z.set2 0 0⟩
  case h2 =>
    intro z u W hWO
    obtain ⟨hW, Z⟩ := hWO
    have HS5 := Lib.hid (HS0.out.below hW)
    have HF5 := Lib.hid (HF1.out.below hW)
    have HB5 := Lib.hid (Bw.step HB0.out hW)
    have HR5 := Lib.hid (HR1.out.below hW)
    have HZ5 := Lib.hid Z
    clear hW Z HS0 HF1 HB0 HR1 HSL1h HCK1
    obtain ⟨ls, s0, s1, s2, s3⟩ := id HS5.out
    go_wp2_with fail
    refine (HT2.out _ _ HR5.out).mono ?_
    rintro e w6 ⟨A7, c7, rfl, ho7, hb7⟩
    have hNN0 : 0 < NN := HRC0.out
    obtain ⟨g7, rfl⟩ := ho7.head hNN0
    have hsl := HSL2.out g7 c7 ho7.cap.1
    have HCK2 := Lib.hid (HLC.out g7 c7 _ _ ho7)
    have HS6 := Lib.hid (HS5.out.below hb7)
    have HF6 := Lib.hid (HF5.out.below hb7)
    have HB6 := Lib.hid (Bw.step HB5.out hb7)
    have HZ6 := Lib.hid (HZ5.out.below hb7)
    have HSLh := Lib.hid hsl
    clear hsl ho7 hb7 HS5 HF5 HB5 HZ5 HR5 HLC HSL2 HT2 ls s0 s1 s2 s3
    have z1 := z
    go_wp2
    apply wp_region_mid2 (α := Nat) (β := Unit) (fun z u W => Below w6.heap.size w6 W ∧ Has W z 0 0)
    case h =>
      intro QQ HQ
      obtain ⟨u, _⟩ : ∃ u : Unit, True := ⟨(), trivial⟩
      have hx1 := fun z (hz : Gr w6 z) x => cell_extz hz HS6.out.1 HS6.out.2.1 x
      have hx2 := fun z (hz : Gr w6 z) x => cell_extz hz HS6.out.1 HS6.out.2.2.2.2 x
      have hsl := HSLh.out
      (refine wp_region_tree [0, 1, 2, 3, 4, 5, 6, 7, 8, 9, 10, 11, 12, 13, 14, 15, 16, 17, 18] [19] 19 (by kernel_rfl) (by kernel_rfl) (by kernel_rfl) ?_; intro V1 g1)
      have n1 : w6.heap.size ≤ V1.heap.size := g1.size
      (apply tree_quiet [0, 1, 2, 3, 4, 5, 6, 7, 8, 9, 10, 11, 12] (r := 6) (by kernel_rfl) (by kernel_rfl) (by kernel_rfl) (by kernel_rfl); (case hq => (intro z hz; simp only [pick, List.getElem?_cons_succ, List.getElem?_cons_zero]; ((have hx1 := hx1 z (g1.trans hz); have hx2 := hx2 z (g1.trans hz))); (repeat (go_big_quiet_step ((fail)))); refine wpQuiet_nil ?_; exact rfl)); (case' h => intro V2 g2))
      have n2 : V1.heap.size ≤ V2.heap.size := g2.size
      (refine tree_two 13 17 rfl rfl (by kernel_rfl) ?_ ?_)
      · skip
        go_wp2_with (go_at_call 26; refine (HCK2.out _ (g1.trans g2)).mono ?_; rintro e V3 ⟨rfl, g3⟩)
        refine ⟨g3, fun V4 g4 => ?_⟩
        have n3 : V2.heap.size ≤ V3.heap.size := g3.size
        have n4 : V3.heap.size ≤ V4.heap.size := g4.size
        replace g3 : Gr V2 V3 := g3
        (apply tree_quiet [14, 15, 16] (r := 2) (by kernel_rfl) (by kernel_rfl) (by kernel_rfl) (by kernel_rfl); (case hq => (intro z hz; simp only [pick, List.getElem?_cons_succ, List.getElem?_cons_zero]; (skip); (repeat (go_big_quiet_step ((fail)))); refine wpQuiet_nil ?_; exact rfl)); (case' h => intro V5 g5))
        have n5 : V4.heap.size ≤ V5.heap.size := g5.size
        (refine tree_one 17 rfl (by kernel_rfl) ?_)
        go_wp2
        refine ⟨below_new _ _, fun V6 hZ => ?_⟩
        have Z := (Has.new V5 0 0 26).below hZ
        have g6 : Gr V5 V6 := Bw.step (below_new _ (fltC 0 0)) hZ
        have nz : V5.heap.size < V6.heap.size := Z.1
        clear hZ
        generalize V5.heap.size = z at *
        (apply tree_quiet [18] (r := 0) (by kernel_rfl) (by kernel_rfl) (by kernel_rfl) (by kernel_rfl); (case hq => (intro z hz; simp only [pick, List.getElem?_cons_succ, List.getElem?_cons_zero]; (skip); (repeat (go_big_quiet_step ((fail)))); refine wpQuiet_nil ?_; exact rfl)); (case' h => intro V7 g7))
        have n7 : V6.heap.size ≤ V7.heap.size := g7.size
        have Z := Z.below g7
        obtain ⟨lz, z0, z1, y0, y1⟩ := id Z
        (refine tree_end (by kernel_rfl) ?_; simp only [pick, List.getElem?_cons_succ, List.getElem?_cons_zero])
        go_wp2
        exact HQ.out z u _ ⟨Bw.set (Bw.set (g1.trans (g2.trans (g3.trans (g4.trans (g5.trans (g6.trans g7)))))) (p := ⟨z, 0, none⟩) (by show w6.heap.size ≤ z; omega) _) (p := ⟨z, 1, none⟩) (by show w6.heap.size ≤ z; omega) _, Z.set2 0 0⟩
      · skip
        go_wp2
        refine ⟨below_new _ _, fun V3 hZ => ?_⟩
        have Z := (Has.new V2 0 0 26).below hZ
        have g3 : Gr V2 V3 := Bw.step (below_new _ (fltC 0 0)) hZ
        have nz : V2.heap.size < V3.heap.size := Z.1
        clear hZ
        generalize V2.heap.size = z at *
        (refine tree_one 13 rfl (by kernel_rfl) ?_)
        go_wp2_with (go_at_call 26; refine (HCK2.out _ (g1.trans (g2.trans g3))).mono ?_; rintro e V4 ⟨rfl, g4⟩)
        refine ⟨g4, fun V5 g5 => ?_⟩
        have n4 : V3.heap.size ≤ V4.heap.size := g4.size
        have n5 : V4.heap.size ≤ V5.heap.size := g5.size
        replace g4 : Gr V3 V4 := g4
        (apply tree_quiet [14, 15, 16] (r := 1) (by kernel_rfl) (by kernel_rfl) (by kernel_rfl) (by kernel_rfl); (case hq => (intro z hz; simp only [pick, List.getElem?_cons_succ, List.getElem?_cons_zero]; (skip); (repeat (go_big_quiet_step ((fail)))); refine wpQuiet_nil ?_; exact rfl)); (case' h => intro V6 g6))
        have n6 : V5.heap.size ≤ V6.heap.size := g6.size
        (apply tree_quiet [18] (r := 0) (by kernel_rfl) (by kernel_rfl) (by kernel_rfl) (by kernel_rfl); (case hq => (intro z hz; simp only [pick, List.getElem?_cons_succ, List.getElem?_cons_zero]; (skip); (repeat (go_big_quiet_step ((fail)))); refine wpQuiet_nil ?_; exact rfl)); (case' h => intro V7 g7))
        have n7 : V6.heap.size ≤ V7.heap.size := g7.size
        have Z := Z.below (g4.trans (g5.trans (g6.trans g7)))
        obtain ⟨lz, z0, z1, y0, y1⟩ := id Z
        (refine tree_end (by kernel_rfl) ?_; simp only [pick, List.getElem?_cons_succ, List.getElem?_cons_zero])
        go_wp2
        exact HQ.out z u _ ⟨Bw.set (Bw.set (g1.trans (g2.trans (g3.trans (g4.trans (g5.trans (g6.trans g7)))))) (p := ⟨z, 0, none⟩) (by show w6.heap.size ≤ z; omega) _) (p := ⟨z, 1, none⟩) (by show w6.heap.size ≤ z; omega) _, Z.set2 0 0⟩
    case h2 =>
      intro z2 u2 W2 hWO
      obtain ⟨hW2, Z2⟩ := hWO
      have Z1 := HZ6.out.below hW2
      have B9 := Bw.step HB6.out hW2
      obtain ⟨l1, c10, c11, f10, f11⟩ := id Z1
      obtain ⟨l2, c20, c21, f20, f21⟩ := id Z2
      clear HS6 HF6 HB6 HZ6 hW2 HSLh HCK2
      go_wp2_with (go_at_call 16; refine (squared_any _).mono ?_; rintro e w' ⟨rfl, hb9⟩)
      go_ret
      exact ⟨rfl, Bw.step B9 hb9⟩
set_option maxRecDepth 100000 in
set_option maxHeartbeats 8000000 in
theorem lwOut (A : Option Addr) (n c R C p q : Nat) (r k : Int) (d : List GF) (w : World) (RL : RdB w A n d) (hn : n ≤ 9223372036854775807) (hnc : n ≤ c) (hnn : n = (R - q) * (C - p)) (h1 : 1 ≤ R) (h2 : R ≤ 32) (h3 : 1 ≤ C) (h4 : C ≤ 32) (h5 : p < C) (h6 : q < R) (ho : inB r 0 ((R : Int) - 1) = false ∨ (inB r 0 ((R : Int) - 1) = true ∧ inB k 0 ((C : Int) - 1) = false)) :
    Calls Try.prog 6 #[.slice A n c, shpV R C p q, .int .i64 r, .int .i64 k] w fun e w' => e = .returned (.bool true) ∧ Below w.heap.size w w' := by
  have HDF := Lib.hid (fun w => dataFault_any A n c R C p q w hn (by omega) (by omega))
  have HEN := Lib.hid (fun w (hl : RdB w A n d) => pdEncode_ok A n c R C p q d w hl hnc hnn h1 h2 h3 h4 h5 h6)
  rw [dtF_ok h1 h2 h3 h4 h5 h6 hnn] at HDF
  have HRL := Lib.hid RL
  have HO := Lib.hid ho
  have S0 := S4.new w R C p q
  have B0 := below_new w (shpC R C p q)
  clear RL hnn ho
  go_enter Try.func6, Try.ntmps6
  go_wp2_with fail
  refine (HEN.out _ (HRL.out.below B0)).mono ?_
  rintro e w1 ⟨A1, c1, b, rfl, ho1, hbk, hb1⟩
  ((first | replace B0 := Bw.step B0 hb1 | replace B0 := Bw.step (Bw.al B0 _) hb1 | replace B0 := Bw.step (Bw.al (Bw.al B0 _) _) hb1 | replace B0 := Bw.step (Bw.al (Bw.al (Bw.al B0 _) _) _) hb1 | replace B0 := Bw.step (Bw.al (Bw.al (Bw.al (Bw.al B0 _) _) _) _) hb1 | replace B0 := Bw.step (Bw.al (Bw.al (Bw.al (Bw.al (Bw.al B0 _) _) _) _) _) hb1 | replace B0 := Bw.step (Bw.al (Bw.al (Bw.al (Bw.al (Bw.al (Bw.al B0 _) _) _) _) _) _) hb1); (first | replace S0 := S0.below hb1 | replace S0 := (S0.al _).below hb1 | replace S0 := ((S0.al _).al _).below hb1 | replace S0 := (((S0.al _).al _).al _).below hb1 | replace S0 := ((((S0.al _).al _).al _).al _).below hb1 | replace S0 := (((((S0.al _).al _).al _).al _).al _).below hb1 | replace S0 := ((((((S0.al _).al _).al _).al _).al _).al _).below hb1))
  have F1 := Has.new w1 0 0 26
  clear ho1 hbk
  obtain ⟨ls, s0, s1, s2, s3⟩ := id S0
  go_wp2_with fail
  refine (HDF.out _).mono ?_
  rintro e w2 ⟨rfl, hb2⟩
  clear ls s0 s1 s2 s3
  ((first | replace B0 := Bw.step B0 hb2 | replace B0 := Bw.step (Bw.al B0 _) hb2 | replace B0 := Bw.step (Bw.al (Bw.al B0 _) _) hb2 | replace B0 := Bw.step (Bw.al (Bw.al (Bw.al B0 _) _) _) hb2 | replace B0 := Bw.step (Bw.al (Bw.al (Bw.al (Bw.al B0 _) _) _) _) hb2 | replace B0 := Bw.step (Bw.al (Bw.al (Bw.al (Bw.al (Bw.al B0 _) _) _) _) _) hb2 | replace B0 := Bw.step (Bw.al (Bw.al (Bw.al (Bw.al (Bw.al (Bw.al B0 _) _) _) _) _) _) hb2); (first | replace S0 := S0.below hb2 | replace S0 := (S0.al _).below hb2 | replace S0 := ((S0.al _).al _).below hb2 | replace S0 := (((S0.al _).al _).al _).below hb2 | replace S0 := ((((S0.al _).al _).al _).al _).below hb2 | replace S0 := (((((S0.al _).al _).al _).al _).al _).below hb2 | replace S0 := ((((((S0.al _).al _).al _).al _).al _).al _).below hb2); (first | replace F1 := F1.below hb2 | replace F1 := (F1.al _).below hb2 | replace F1 := ((F1.al _).al _).below hb2 | replace F1 := (((F1.al _).al _).al _).below hb2 | replace F1 := ((((F1.al _).al _).al _).al _).below hb2 | replace F1 := (((((F1.al _).al _).al _).al _).al _).below hb2 | replace F1 := ((((((F1.al _).al _).al _).al _).al _).al _).below hb2))
  obtain ⟨ls, s0, s1, s2, s3⟩ := id S0
  rcases HO.out with h | ⟨h, h'⟩
  · have HI1 := Lib.hid (fun w => refIn_any r 0 ((R : Int) - 1) w)
    rw [h] at HI1
    clear h
    go_wp2_with (first | (go_at_call 25; refine (HI1.out _).mono ?_; rintro e w' ⟨rfl, rfl⟩) | (go_at_call 16; refine (squared_any _).mono ?_; rintro e w' ⟨rfl, hb9⟩))
    go_ret
    exact ⟨rfl, Bw.step B0 hb9⟩
  · have HI1 := Lib.hid (fun w => refIn_any r 0 ((R : Int) - 1) w)
    have HI2 := Lib.hid (fun w => refIn_any k 0 ((C : Int) - 1) w)
    rw [h] at HI1
    rw [h'] at HI2
    clear h h'
    go_wp2_with fail
    refine (HI1.out _).mono ?_
    rintro e w' ⟨rfl, rfl⟩
    go_wp2_with fail
    refine (HI2.out _).mono ?_
    rintro e w' ⟨rfl, rfl⟩
    go_wp2_with (go_at_call 16; refine (squared_any _).mono ?_; rintro e w' ⟨rfl, hb9⟩)
    go_ret
    exact ⟨rfl, Bw.step B0 hb9⟩
set_option maxRecDepth 100000 in
set_option maxHeartbeats 4000000 in
theorem walkProductLinesAreWords (A : Option Addr) (n c : Nat) (zs : List Int) (R C p q r k : Int) (w : World) (w0 : IsRow .u8 w A n c zs) (w1 : (Lit.int .i64 R).wf = true ∧ (Lit.int .i64 C).wf = true ∧ (Lit.int .i64 p).wf = true ∧ (Lit.int .i64 q).wf = true) (w2 : (Lit.int .i64 r).wf = true) (w3 : (Lit.int .i64 k).wf = true) :
    Calls Try.prog 6 #[.slice A n c, shpV R C p q, .int .i64 r, .int .i64 k] w fun e w' => e = .returned (.bool true) ∧ Below w.heap.size w w' := by
  obtain ⟨l, RL, hn, hnc⟩ := w0.bytes4
  have hR := wf64 w1.1
  have hC := wf64 w1.2.1
  clear w0 w1 w2 w3
  by_cases hbad : dtF n R C p q = (0, 0)
  · rcases dtF_cases n R C p q with ⟨R, C, p, q, rfl, rfl, rfl, rfl, h1, h2, h3, h4, h5, h6, hnn, h⟩ | ⟨hs, h⟩ | ⟨_, _, _, _, _, _, _, _, _, _, _, _, _, _, _, h⟩
    · by_cases hin : inB r 0 ((R : Int) - 1) = true
      · by_cases hin2 : inB k 0 ((C : Int) - 1) = true
        · have e1 : 0 ≤ r ∧ r ≤ (R : Int) - 1 := by unfold inB at hin; simpa using hin
          have e2 : 0 ≤ k ∧ k ≤ (C : Int) - 1 := by unfold inB at hin2; simpa using hin2
          obtain ⟨r', rfl⟩ : ∃ r' : Nat, r = r' := ⟨r.toNat, by omega⟩
          obtain ⟨k', rfl⟩ : ∃ k' : Nat, k = k' := ⟨k.toNat, by omega⟩
          exact lwGood A n c R C p q r' k' l w RL hn hnc hnn h1 h2 h3 h4 h5 h6 (by omega) (by omega)
        · have hin2 : inB k 0 ((C : Int) - 1) = false := by
            cases h : inB k 0 ((C : Int) - 1) with
            | false => rfl
            | true => exact absurd h hin2
          exact lwOut A n c R C p q r k l w RL hn hnc hnn h1 h2 h3 h4 h5 h6 (.inr ⟨hin, hin2⟩)
      · have hin : inB r 0 ((R : Int) - 1) = false := by
          cases h : inB r 0 ((R : Int) - 1) with
          | false => rfl
          | true => exact absurd h hin
        exact lwOut A n c R C p q r k l w RL hn hnc hnn h1 h2 h3 h4 h5 h6 (.inl hin)
    · rw [h] at hbad; exact absurd hbad hs
    · rw [h] at hbad; cases hbad
  · have HEN := Lib.hid (fun w => pdEncode_bad A n c R C p q w hn hbad)
    have HDF := Lib.hid (fun w => dataFault_any A n c R C p q w hn hC hR)
    have hc := (dtF_code n R C p q).resolve_left hbad
    have hc0 : ((dtF n R C p q).1 == 0) = false := by rw [beq_eq_false_iff_ne]; exact hc
    have hc1 : ((dtF n R C p q).1 != 0) = true := by rw [bne, hc0]; rfl
    generalize (dtF n R C p q).1 = fc at *
    generalize (dtF n R C p q).2 = fi at *
    have S0 := S4.new w R C p q
    have B0 := below_new w (shpC R C p q)
    clear hbad RL
    go_enter Try.func6, Try.ntmps6
    go_wp2_with fail
    refine (HEN.out _).mono ?_
    rintro e w1 ⟨rfl, hb1⟩
    ((first | replace B0 := Bw.step B0 hb1 | replace B0 := Bw.step (Bw.al B0 _) hb1 | replace B0 := Bw.step (Bw.al (Bw.al B0 _) _) hb1 | replace B0 := Bw.step (Bw.al (Bw.al (Bw.al B0 _) _) _) hb1 | replace B0 := Bw.step (Bw.al (Bw.al (Bw.al (Bw.al B0 _) _) _) _) hb1 | replace B0 := Bw.step (Bw.al (Bw.al (Bw.al (Bw.al (Bw.al B0 _) _) _) _) _) hb1 | replace B0 := Bw.step (Bw.al (Bw.al (Bw.al (Bw.al (Bw.al (Bw.al B0 _) _) _) _) _) _) hb1); (first | replace S0 := S0.below hb1 | replace S0 := (S0.al _).below hb1 | replace S0 := ((S0.al _).al _).below hb1 | replace S0 := (((S0.al _).al _).al _).below hb1 | replace S0 := ((((S0.al _).al _).al _).al _).below hb1 | replace S0 := (((((S0.al _).al _).al _).al _).al _).below hb1 | replace S0 := ((((((S0.al _).al _).al _).al _).al _).al _).below hb1))
    have F1 := Has.new w1 fc fi 26
    obtain ⟨ls, s0, s1, s2, s3⟩ := id S0
    go_wp2_with fail
    refine (HDF.out _).mono ?_
    rintro e w2 ⟨rfl, hb2⟩
    clear ls s0 s1 s2 s3
    ((first | replace B0 := Bw.step B0 hb2 | replace B0 := Bw.step (Bw.al B0 _) hb2 | replace B0 := Bw.step (Bw.al (Bw.al B0 _) _) hb2 | replace B0 := Bw.step (Bw.al (Bw.al (Bw.al B0 _) _) _) hb2 | replace B0 := Bw.step (Bw.al (Bw.al (Bw.al (Bw.al B0 _) _) _) _) hb2 | replace B0 := Bw.step (Bw.al (Bw.al (Bw.al (Bw.al (Bw.al B0 _) _) _) _) _) hb2 | replace B0 := Bw.step (Bw.al (Bw.al (Bw.al (Bw.al (Bw.al (Bw.al B0 _) _) _) _) _) _) hb2); (first | replace F1 := F1.below hb2 | replace F1 := (F1.al _).below hb2 | replace F1 := ((F1.al _).al _).below hb2 | replace F1 := (((F1.al _).al _).al _).below hb2 | replace F1 := ((((F1.al _).al _).al _).al _).below hb2 | replace F1 := (((((F1.al _).al _).al _).al _).al _).below hb2 | replace F1 := ((((((F1.al _).al _).al _).al _).al _).al _).below hb2))
    obtain ⟨l1, c10, c11, f10, f11⟩ := id F1
    go_wp2_with (go_at_call 16; refine (squared_any _).mono ?_; rintro e w' ⟨rfl, hb9⟩)
    go_ret
    exact ⟨rfl, Bw.step B0 hb9⟩
end Go.Proofs.Ytmpjkdkgolmgdaa
