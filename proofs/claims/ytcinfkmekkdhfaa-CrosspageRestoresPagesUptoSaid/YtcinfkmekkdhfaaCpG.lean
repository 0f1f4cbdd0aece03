/- Cross pages: the reference's faults of Extend. -/
import Derived.Test.YtcinfkmekkdhfaaCpF
namespace Go.Proofs.Ytcinfkmekkdhfaa
open Go.RowKit Go.Shelf
set_option linter.unusedVariables false

theorem inB_t {n lo hi : Int} (h : lo ≤ n ∧ n ≤ hi) : inB n lo hi = true := by unfold inB; simp only [decide_eq_true_eq]; exact h
theorem inB_f {n lo hi : Int} (h : ¬ (lo ≤ n ∧ n ≤ hi)) : inB n lo hi = false := by unfold inB; simp only [decide_eq_false_iff_not]; exact h
def AggF (w : World) (c i : Int) (e : Ending) (w' : World) : Prop := e = .returned (.agg #[.int .i64 c, .int .i64 i]) ∧ Below w.heap.size w w'
set_option maxRecDepth 100000 in
set_option maxHeartbeats 1000000 in
theorem rExt_b1 (A : Option Addr) (m c : Nat) (p : Int) (w : World) (hp : p < 0 ∨ 16 < p) :
    Calls Try.prog 10 #[.slice A m c, .int .i64 p] w (AggF w 4 (-2)) := by
  have h1 : inB p 0 16 = false := inB_f (by omega)
  go_enter Try.func10, Try.ntmps10
  go_wp2_with (first | (go_at_call 26; refine (refIn_any _ _ _ _).mono ?_; rintro e w' ⟨rfl, rfl⟩) | (go_at_call 27; refine (refAt_any _ _ _).mono ?_; rintro e w' ⟨rfl, rfl⟩))
  exact bodyPost_ret (v := .agg #[.int .i64 4, .int .i64 (-2)]) (by simp [results, Try.results10, go_sem]) rfl ⟨rfl, by (repeat (first | exact Below.refl _ _ | assumption | refine Bw.al ?_ _ | refine Bw.step ?_ (by assumption) | refine Bw.drew ?_))⟩
set_option maxRecDepth 100000 in
set_option maxHeartbeats 1000000 in
theorem rExt_b2 (A : Option Addr) (c : Nat) (p : Int) (w : World) (hp : 0 ≤ p ∧ p ≤ 16) :
    Calls Try.prog 10 #[.slice A 0 c, .int .i64 p] w (AggF w 10 (-1)) := by
  have h1 : inB p 0 16 = true := inB_t (by omega)
  go_enter Try.func10, Try.ntmps10
  go_wp2_with (first | (go_at_call 26; refine (refIn_any _ _ _ _).mono ?_; rintro e w' ⟨rfl, rfl⟩) | (go_at_call 27; refine (refAt_any _ _ _).mono ?_; rintro e w' ⟨rfl, rfl⟩))
  exact bodyPost_ret (v := .agg #[.int .i64 10, .int .i64 (-1)]) (by simp [results, Try.results10, go_sem]) rfl ⟨rfl, by (repeat (first | exact Below.refl _ _ | assumption | refine Bw.al ?_ _ | refine Bw.step ?_ (by assumption) | refine Bw.drew ?_))⟩
set_option maxRecDepth 100000 in
set_option maxHeartbeats 1000000 in
theorem rExt_b3 (A : Option Addr) (m c : Nat) (p : Int) (w : World) (hp : 0 ≤ p ∧ p ≤ 16) (hm : 48 < m) :
    Calls Try.prog 10 #[.slice A m c, .int .i64 p] w (AggF w 2 (-1)) := by
  have h1 : inB p 0 16 = true := inB_t (by omega)
  have h3 : ((m : Int) == 0) = false := by rw [beq_eq_false_iff_ne]; omega
  have h4 : decide (48 < (m : Int)) = true := by simp; omega
  go_enter Try.func10, Try.ntmps10
  go_wp2_with (first | (go_at_call 26; refine (refIn_any _ _ _ _).mono ?_; rintro e w' ⟨rfl, rfl⟩) | (go_at_call 27; refine (refAt_any _ _ _).mono ?_; rintro e w' ⟨rfl, rfl⟩))
  exact bodyPost_ret (v := .agg #[.int .i64 2, .int .i64 (-1)]) (by simp [results, Try.results10, go_sem]) rfl ⟨rfl, by (repeat (first | exact Below.refl _ _ | assumption | refine Bw.al ?_ _ | refine Bw.step ?_ (by assumption) | refine Bw.drew ?_))⟩
theorem pgOk_in {q n : Nat} (h : 1 ≤ q ∧ q ≤ 384) : inB (q : Int) 1 384 = true := inB_t (by omega)
theorem pgOk_out {q : Nat} (h : ¬ (1 ≤ q ∧ q ≤ 384)) : inB (q : Int) 1 384 = false := inB_f (by omega)
set_option maxRecDepth 100000 in
set_option maxHeartbeats 2000000 in
theorem rExt_b4 (A : Option Addr) (m cap b : Nat) (p : Int) (P : List (List GF)) (w : World) (hM : RdM w A m P) (hp : 0 ≤ p ∧ p ≤ 16) (h2 : m ≤ 48) (hb : b < m) (hbad : ¬ pgOk P b) (hgood : ∀ i, i < b → pgOk P i) :
    Calls Try.prog 10 #[.slice A m cap, .int .i64 p] w (AggF w 9 b) := by
  have hPm : P.length = m := hM.1
  obtain ⟨bm, om, rfl, hbm, hcm⟩ := hM.2 (by omega)
  have HCM := Lib.hid hcm
  have HG := Lib.hid hgood
  have HBD := Lib.hid hbad
  obtain ⟨A0, c0, hc0, hr0⟩ := hcm 0 (by omega)
  rw [Nat.add_zero] at hc0
  clear hr0
  generalize hn : (P.getD 0 []).length = n at *
  have HN := Lib.hid hn
  have HC0 := Lib.hid hc0
  clear hM hcm hgood hbad hn hc0
  have h1 : inB p 0 16 = true := inB_t (by omega)
  have hm0 : ((m : Int) == 0) = false := by rw [beq_eq_false_iff_ne]; omega
  have hm4 : decide (48 < (m : Int)) = false := by simp; omega
  go_enter Try.func10, Try.ntmps10
  go_wp2_with (first | (go_at_call 26; refine (refIn_any _ _ _ _).mono ?_; rintro e w' ⟨rfl, rfl⟩) | (go_at_call 27; refine (refAt_any _ _ _).mono ?_; rintro e w' ⟨rfl, rfl⟩))
  have F1 := Has.new w 0 0 24
  have b1 := below_new w (.cells #[.int .i64 0, .int .i64 0] 24)
  generalize w.alloc (.cells #[.int .i64 0, .int .i64 0] 24) = W1 at *
  have HB1 := Lib.hid b1
  have HF1 := Lib.hid F1
  clear F1 b1
  go_loopw [5] (fun i wr => ∃ k : Nat, k ≤ b ∧ i = .int .i64 k ∧ Below W1.heap.size W1 wr) (fun i _ => b - (intOf i).toNat)
  case atStart => exact ⟨0, Nat.zero_le _, rfl, Below.refl _ _⟩
  case round =>
    obtain ⟨k, hk, rfl, hbw⟩ := hrel
    have HBK := Lib.hid (Bw.step HB1.out hbw)
    have HFK := Lib.hid (HF1.out.below hbw)
    have hbk : bm < wr.heap.size := Nat.lt_of_lt_of_le hbm HBK.out.size
    have HBW := Lib.hid hbw
    clear hbw
    obtain ⟨Ak, ck, hck, _⟩ := HCM.out k (by omega)
    replace hck := (HBK.out.cell (p := ⟨bm, om + k, none⟩) hbm).trans hck
    have hc0 := (HBK.out.cell (p := ⟨bm, om, none⟩) hbm).trans HC0.out
    by_cases hlk : k < b
    · have hg := HG.out k hlk
      unfold pgOk at hg
      rw [HN.out] at hg
      obtain ⟨g1, g2, g3⟩ := hg
      have hi := pgOk_in (n := n) ⟨g1, g2⟩
      rw [g3] at hck hi
      clear g1 g2 g3
      go_wp2
      have hx1 := fun x : Ext wr => (x.below.cell (p := ⟨bm, om + k, none⟩) hbk).trans hck
      have hx2 := fun x : Ext wr => (x.below.cell (p := ⟨bm, om, none⟩) hbk).trans hc0
      (refine wp_region_ext (by kernel_rfl) (by kernel_rfl) ?_; (repeat (go_big_quiet_step ((first | (go_at_call 27; exact ext_alloc (refAt_any _ _ _)) | (go_at_call 26; exact ext_same (refIn_any _ _ _ _)))))); refine wpQuiet_nil ?_; intro W5 hw'; have hW5 := ext_below hw'; clear hw')
      clear hx1 hx2
      go_wp2
      go_roundw
      case rel => first | exact ⟨k + 1, by omega, by go_num, Bw.step HBW.out hW5⟩ | ((repeat apply Exists.intro); exact ⟨⟨k + 1, by omega, by go_num, Bw.step HBW.out hW5⟩, rfl⟩)
      case measure => simp [intOf]; omega
    · obtain rfl : b = k := by omega
      have hbd := HBD.out
      unfold pgOk at hbd
      rw [HN.out] at hbd
      generalize (P.getD b []).length = q at *
      by_cases q0 : 1 ≤ q ∧ q ≤ 384
      · have hi := pgOk_in (n := n) q0
        have q4 : ((q : Int) == (n : Int)) = false := by rw [beq_eq_false_iff_ne]; omega
        clear hbd q0
        go_wp2
        have hx1 := fun x : Ext wr => (x.below.cell (p := ⟨bm, om + b, none⟩) hbk).trans hck
        have hx2 := fun x : Ext wr => (x.below.cell (p := ⟨bm, om, none⟩) hbk).trans hc0
        (refine wp_region_ext (by kernel_rfl) (by kernel_rfl) ?_; (repeat (go_big_quiet_step ((first | (go_at_call 27; exact ext_alloc (refAt_any _ _ _)) | (go_at_call 26; exact ext_same (refIn_any _ _ _ _)))))); refine wpQuiet_nil ?_; intro W5 hw'; have hW5 := ext_below hw'; clear hw')
        clear hx1 hx2
        obtain ⟨l0, c00, c01, f00, f01⟩ := HFK.out.below hW5
        go_wp2_with (first | (go_at_call 26; refine (refIn_any _ _ _ _).mono ?_; rintro e w' ⟨rfl, rfl⟩) | (go_at_call 27; refine (refAt_any _ _ _).mono ?_; rintro e w' ⟨rfl, rfl⟩))
        exact bodyPost_ret (resF1 rfl rfl (((HFK.out.below hW5).set2 9 b).al _)) rfl ⟨rfl, Bw.al (((Bw.step HBK.out hW5).setCell (p := ⟨w.heap.size, 0, none⟩) (Nat.le_refl _) _).setCell (p := ⟨w.heap.size, 1, none⟩) (Nat.le_refl _) _) _⟩
      · have hi := pgOk_out q0
        clear hbd q0
        go_wp2
        have hx1 := fun x : Ext wr => (x.below.cell (p := ⟨bm, om + b, none⟩) hbk).trans hck
        have hx2 := fun x : Ext wr => (x.below.cell (p := ⟨bm, om, none⟩) hbk).trans hc0
        (refine wp_region_ext (by kernel_rfl) (by kernel_rfl) ?_; (repeat (go_big_quiet_step ((first | (go_at_call 27; exact ext_alloc (refAt_any _ _ _)) | (go_at_call 26; exact ext_same (refIn_any _ _ _ _)))))); refine wpQuiet_nil ?_; intro W5 hw'; have hW5 := ext_below hw'; clear hw')
        clear hx1 hx2
        obtain ⟨l0, c00, c01, f00, f01⟩ := HFK.out.below hW5
        go_wp2_with (first | (go_at_call 26; refine (refIn_any _ _ _ _).mono ?_; rintro e w' ⟨rfl, rfl⟩) | (go_at_call 27; refine (refAt_any _ _ _).mono ?_; rintro e w' ⟨rfl, rfl⟩))
        exact bodyPost_ret (resF1 rfl rfl (((HFK.out.below hW5).set2 9 b).al _)) rfl ⟨rfl, Bw.al (((Bw.step HBK.out hW5).setCell (p := ⟨w.heap.size, 0, none⟩) (Nat.le_refl _) _).setCell (p := ⟨w.heap.size, 1, none⟩) (Nat.le_refl _) _) _⟩
set_option maxRecDepth 100000 in
set_option maxHeartbeats 2000000 in
theorem rExt_ok (A : Option Addr) (m cap : Nat) (p : Int) (P : List (List GF)) (w : World) (hM : RdM w A m P) (hp : 0 ≤ p ∧ p ≤ 16) (h1 : 1 ≤ m) (h2 : m ≤ 48) (hgood : ∀ i, i < m → pgOk P i) :
    Calls Try.prog 10 #[.slice A m cap, .int .i64 p] w (AggF w 0 0) := by
  have hPm : P.length = m := hM.1
  obtain ⟨bm, om, rfl, hbm, hcm⟩ := hM.2 (by omega)
  have HCM := Lib.hid hcm
  have HG := Lib.hid hgood
  obtain ⟨A0, c0, hc0, hr0⟩ := hcm 0 (by omega)
  rw [Nat.add_zero] at hc0
  clear hr0
  generalize hn : (P.getD 0 []).length = n at *
  have HN := Lib.hid hn
  have HC0 := Lib.hid hc0
  clear hM hcm hgood hn hc0
  have hi1 : inB p 0 16 = true := inB_t (by omega)
  have hm0 : ((m : Int) == 0) = false := by rw [beq_eq_false_iff_ne]; omega
  have hm4 : decide (48 < (m : Int)) = false := by simp; omega
  go_enter Try.func10, Try.ntmps10
  go_wp2_with (first | (go_at_call 26; refine (refIn_any _ _ _ _).mono ?_; rintro e w' ⟨rfl, rfl⟩) | (go_at_call 27; refine (refAt_any _ _ _).mono ?_; rintro e w' ⟨rfl, rfl⟩))
  have F1 := Has.new w 0 0 24
  have b1 := below_new w (.cells #[.int .i64 0, .int .i64 0] 24)
  generalize w.alloc (.cells #[.int .i64 0, .int .i64 0] 24) = W1 at *
  have HB1 := Lib.hid b1
  have HF1 := Lib.hid F1
  clear F1 b1
  go_loopw [5] (fun i wr => ∃ k : Nat, k ≤ m ∧ i = .int .i64 k ∧ Below W1.heap.size W1 wr) (fun i _ => m - (intOf i).toNat)
  case atStart => exact ⟨0, Nat.zero_le _, rfl, Below.refl _ _⟩
  case round =>
    obtain ⟨k, hk, rfl, hbw⟩ := hrel
    have HBK := Lib.hid (Bw.step HB1.out hbw)
    have HFK := Lib.hid (HF1.out.below hbw)
    have hbk : bm < wr.heap.size := Nat.lt_of_lt_of_le hbm HBK.out.size
    have HBW := Lib.hid hbw
    clear hbw
    have hc0 := (HBK.out.cell (p := ⟨bm, om, none⟩) hbm).trans HC0.out
    by_cases hlk : k < m
    · obtain ⟨Ak, ck, hck, _⟩ := HCM.out k (by omega)
      replace hck := (HBK.out.cell (p := ⟨bm, om + k, none⟩) hbm).trans hck
      have hg := HG.out k hlk
      unfold pgOk at hg
      rw [HN.out] at hg
      obtain ⟨g1, g2, g3⟩ := hg
      have hi := pgOk_in (n := n) ⟨g1, g2⟩
      rw [g3] at hck hi
      clear g1 g2 g3
      go_wp2
      have hx1 := fun x : Ext wr => (x.below.cell (p := ⟨bm, om + k, none⟩) hbk).trans hck
      have hx2 := fun x : Ext wr => (x.below.cell (p := ⟨bm, om, none⟩) hbk).trans hc0
      (refine wp_region_ext (by kernel_rfl) (by kernel_rfl) ?_; (repeat (go_big_quiet_step ((first | (go_at_call 27; exact ext_alloc (refAt_any _ _ _)) | (go_at_call 26; exact ext_same (refIn_any _ _ _ _)))))); refine wpQuiet_nil ?_; intro W5 hw'; have hW5 := ext_below hw'; clear hw')
      clear hx1 hx2
      go_wp2
      go_roundw
      case rel => first | exact ⟨k + 1, by omega, by go_num, Bw.step HBW.out hW5⟩ | ((repeat apply Exists.intro); exact ⟨⟨k + 1, by omega, by go_num, Bw.step HBW.out hW5⟩, rfl⟩)
      case measure => simp [intOf]; omega
    · obtain rfl : m = k := by omega
      obtain ⟨l0, c00, c01, f00, f01⟩ := HFK.out
      go_wp2_with (first | (go_at_call 26; refine (refIn_any _ _ _ _).mono ?_; rintro e w' ⟨rfl, rfl⟩) | (go_at_call 27; refine (refAt_any _ _ _).mono ?_; rintro e w' ⟨rfl, rfl⟩))
      exact bodyPost_ret (resF1 rfl rfl ((HFK.out.set2 0 0).al _)) rfl ⟨rfl, Bw.al ((HBK.out.setCell (p := ⟨w.heap.size, 0, none⟩) (Nat.le_refl _) _).setCell (p := ⟨w.heap.size, 1, none⟩) (Nat.le_refl _) _) _⟩
end Go.Proofs.Ytcinfkmekkdhfaa
