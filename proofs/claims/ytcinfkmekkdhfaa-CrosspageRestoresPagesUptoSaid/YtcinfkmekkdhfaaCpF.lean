/- Cross pages: Extend, whole: where the pages fit, and where they do not. -/
import Derived.Test.YtcinfkmekkdhfaaCpE
namespace Go.Proofs.Ytcinfkmekkdhfaa
open Go.RowKit Go.Shelf
set_option linter.unusedVariables false
attribute [local go_sem] Oper.semAt_some

theorem extend_ok (A : Option Addr) (m cap p n : Nat) (P : List (List GF)) (w : World) (hM : RdM w A m P) (h1 : 1 ≤ m) (h2 : m ≤ 48) (hp : p ≤ 16) (hn1 : 1 ≤ n) (hn2 : n ≤ 384) (hl : ∀ i, i < m → (P.getD i []).length = n) :
    Calls Try.prog 9 #[.slice A m cap, .int .i64 p] w fun e w' => ∃ A' c' hv L, e = .returned (.tuple #[.slice A' p c', .agg #[.int .i64 0, .int .i64 0]]) ∧ OwM w' w.heap.size (.slice A' p c') hv L ∧ ExtOK P p n L ∧ Below w.heap.size w w' :=
  callsIn_wide.1 (extend_in 4 (Nat.le_refl _) A m cap p n P w hM h1 h2 hp hn1 hn2 hl)
theorem cpFault_any (c i : Int) (w : World) :
    Calls Try.prog 23 #[.int .i64 c, .int .i64 i] w fun e w' => e = .returned (.agg #[.int .i64 c, .int .i64 i]) ∧ w.alloc (.cells #[.int .i64 c, .int .i64 i] 24) = w' := by
  go_enter Try.func23, Try.ntmps23
  go_wp2
  exact bodyPost_ret (v := .agg #[.int .i64 c, .int .i64 i]) (by simp [results, Try.results23, go_sem]) rfl ⟨rfl, rfl⟩
/-- How Extend fails. -/
def ExtBad (w : World) (c i : Int) (e : Ending) (w' : World) : Prop := e = .returned (.tuple #[.slice none 0 0, .agg #[.int .i64 c, .int .i64 i]]) ∧ Below w.heap.size w w'
theorem hasC (w : World) (v u : Value) (s t : TypeId) (c i : Int) : Has (((w.alloc (.cells #[v] s)).alloc (.cells #[u] t)).alloc (.cells #[.int .i64 c, .int .i64 i] 24)) (w.heap.size + 1 + 1) c i := by
  have := Has.new ((w.alloc (.cells #[v] s)).alloc (.cells #[u] t)) c i 24
  simpa only [World.size_alloc] using this
theorem bw4 (w : World) (a b c d : Obj) : Below w.heap.size w ((((w.alloc a).alloc b).alloc c).alloc d) := Bw.al (Bw.al (Bw.al (below_new w _) _) _) _
set_option maxRecDepth 100000 in
set_option maxHeartbeats 1000000 in
theorem extend_b1 (A : Option Addr) (m c : Nat) (p : Int) (w : World) (hp : p < 0 ∨ 16 < p) :
    Calls Try.prog 9 #[.slice A m c, .int .i64 p] w (ExtBad w 4 (-2)) := by
  by_cases h : p < 0
  · have h1 : decide (p < 0) = true := by simp; omega
    go_enter Try.func9, Try.ntmps9
    go_wp2_with (go_at_call 23; refine (cpFault_any _ _ _).mono ?_; rintro e w' ⟨rfl, rfl⟩)
    exact bodyPost_ret (resF2 rfl rfl ((hasC w _ _ _ _ _ _).al _)) rfl ⟨rfl, bw4 _ _ _ _ _⟩
  · have h1 : decide (p < 0) = false := by simp; omega
    have h2 : 16 < p := by omega
    go_enter Try.func9, Try.ntmps9
    go_wp2_with (go_at_call 23; refine (cpFault_any _ _ _).mono ?_; rintro e w' ⟨rfl, rfl⟩)
    exact bodyPost_ret (resF2 rfl rfl ((hasC w _ _ _ _ _ _).al _)) rfl ⟨rfl, bw4 _ _ _ _ _⟩
set_option maxRecDepth 100000 in
set_option maxHeartbeats 1000000 in
theorem extend_b2 (A : Option Addr) (c : Nat) (p : Int) (w : World) (hp : 0 ≤ p ∧ p ≤ 16) :
    Calls Try.prog 9 #[.slice A 0 c, .int .i64 p] w (ExtBad w 10 (-1)) := by
  have h1 : decide (p < 0) = false := by simp; omega
  have h2 : decide (16 < p) = false := by simp; omega
  go_enter Try.func9, Try.ntmps9
  go_wp2_with (go_at_call 23; refine (cpFault_any _ _ _).mono ?_; rintro e w' ⟨rfl, rfl⟩)
  exact bodyPost_ret (resF2 rfl rfl ((hasC w _ _ _ _ _ _).al _)) rfl ⟨rfl, bw4 _ _ _ _ _⟩
set_option maxRecDepth 100000 in
set_option maxHeartbeats 1000000 in
theorem extend_b3 (A : Option Addr) (m c : Nat) (p : Int) (w : World) (hp : 0 ≤ p ∧ p ≤ 16) (hm : 48 < m) :
    Calls Try.prog 9 #[.slice A m c, .int .i64 p] w (ExtBad w 2 (-1)) := by
  have h1 : decide (p < 0) = false := by simp; omega
  have h2 : decide (16 < p) = false := by simp; omega
  have h3 : ((m : Int) == 0) = false := by rw [beq_eq_false_iff_ne]; omega
  have h4 : decide (48 < (m : Int)) = true := by simp; omega
  go_enter Try.func9, Try.ntmps9
  go_wp2_with (go_at_call 23; refine (cpFault_any _ _ _).mono ?_; rintro e w' ⟨rfl, rfl⟩)
  exact bodyPost_ret (resF2 rfl rfl ((hasC w _ _ _ _ _ _).al _)) rfl ⟨rfl, bw4 _ _ _ _ _⟩
/-- A page of a length that fits. -/
def pgOk (P : List (List GF)) (i : Nat) : Prop := 1 ≤ (P.getD i []).length ∧ (P.getD i []).length ≤ 384 ∧ (P.getD i []).length = (P.getD 0 []).length
set_option maxRecDepth 100000 in
set_option maxHeartbeats 2000000 in
theorem extend_b4 (A : Option Addr) (m cap b : Nat) (p : Int) (P : List (List GF)) (w : World) (hM : RdM w A m P) (hp : 0 ≤ p ∧ p ≤ 16) (h2 : m ≤ 48) (hb : b < m) (hbad : ¬ pgOk P b) (hgood : ∀ i, i < b → pgOk P i) :
    Calls Try.prog 9 #[.slice A m cap, .int .i64 p] w (ExtBad w 9 b) := by
  have hPm : P.length = m := hM.1
  obtain ⟨bm, om, rfl, hbm, hcm⟩ := hM.2 (by omega)
  have HCM := Lib.hid hcm
  have HG := Lib.hid hgood
  have HBD := Lib.hid hbad
  have HM := Lib.hid hM
  clear hM hcm hgood hbad
  have h1 : decide (p < 0) = false := by simp; omega
  have h3 : decide (16 < p) = false := by simp; omega
  have hm0 : ((m : Int) == 0) = false := by rw [beq_eq_false_iff_ne]; omega
  have hm4 : decide (48 < (m : Int)) = false := by simp; omega
  obtain ⟨A0, c0, hc0, hr0⟩ := HCM.out 0 (by omega)
  rw [Nat.add_zero] at hc0
  clear hr0
  generalize hn : (P.getD 0 []).length = n at *
  have HN := Lib.hid hn
  clear hn
  have hc0' := ((Bw.al (Bw.al (below_new w (.cells #[.slice (some ⟨bm, om, none⟩) m cap] 22)) (.cells #[.int .i64 p] 3)) (.cells #[.int .i64 0, .int .i64 0] 24)).cell (p := ⟨bm, om, none⟩) hbm).trans hc0
  clear hc0
  go_enter Try.func9, Try.ntmps9
  go_wp2
  have F3 := hasC w (.slice (some ⟨bm, om, none⟩) m cap) (.int .i64 p) 22 3 0 0
  have b3 : Below w.heap.size w (((w.alloc (.cells #[.slice (some ⟨bm, om, none⟩) m cap] 22)).alloc (.cells #[.int .i64 p] 3)).alloc (.cells #[.int .i64 0, .int .i64 0] 24)) := Bw.al (Bw.al (below_new w _) _) _
  generalize ((w.alloc (.cells #[.slice (some ⟨bm, om, none⟩) m cap] 22)).alloc (.cells #[.int .i64 p] 3)).alloc (.cells #[.int .i64 0, .int .i64 0] 24) = W3 at *
  have HB3 := Lib.hid b3
  have HF3 := Lib.hid F3
  clear b3 F3 hc0'
  go_loopw [39] (fun i wr => ∃ k : Nat, k ≤ b ∧ i = .int .i64 k ∧ wr = W3) (fun i _ => b - (intOf i).toNat)
  case atStart => exact ⟨0, Nat.zero_le _, rfl, rfl⟩
  case round =>
    obtain ⟨k, hk, rfl, rfl⟩ := hrel
    obtain ⟨Ak, ck, hck, _⟩ := HCM.out k (by omega)
    have hck' := (HB3.out.cell (p := ⟨bm, om + k, none⟩) hbm).trans hck
    clear hck
    by_cases hlk : k < b
    · have hg := HG.out k hlk
      unfold pgOk at hg
      rw [HN.out] at hg
      obtain ⟨g1, g2, g3⟩ := hg
      rw [g3] at hck'
      have hn0 : ((n : Int) == 0) = false := by rw [beq_eq_false_iff_ne]; omega
      have hn3 : decide (384 < (n : Int)) = false := by simp; omega
      clear g1 g2 g3
      go_wp2
      go_roundw
      case rel => first | exact ⟨k + 1, by omega, by go_num, by first | trivial | rfl⟩ | ((repeat apply Exists.intro); exact ⟨⟨k + 1, by omega, by go_num, by first | trivial | rfl⟩, rfl⟩)
      case measure => simp [intOf]; omega
    · obtain rfl : b = k := by omega
      have hbd := HBD.out
      unfold pgOk at hbd
      rw [HN.out] at hbd
      generalize (P.getD b []).length = q at *
      have hF := HF3.out
      obtain ⟨l0, c00, c01, f00, f01⟩ := id hF
      have hFn := Lib.hid hF
      clear hF
      by_cases q0 : q = 0
      · subst q0
        clear hbd
        go_wp2_with (go_at_call 23; refine (cpFault_any _ _ _).mono ?_; rintro e w' ⟨rfl, rfl⟩)
        exact bodyPost_ret (resF2 rfl rfl ((hFn.out.set2 9 b).al _)) rfl ⟨rfl, Bw.al ((HB3.out.setCell (p := ⟨w.heap.size + 1 + 1, 0, none⟩) (by show w.heap.size ≤ w.heap.size + 1 + 1; omega) _).setCell (p := ⟨w.heap.size + 1 + 1, 1, none⟩) (by show w.heap.size ≤ w.heap.size + 1 + 1; omega) _) _⟩
      · have q1 : ((q : Int) == 0) = false := by rw [beq_eq_false_iff_ne]; omega
        by_cases q2 : 384 < q
        · have q3 : decide (384 < (q : Int)) = true := by simp; omega
          clear hbd q0
          go_wp2_with (go_at_call 23; refine (cpFault_any _ _ _).mono ?_; rintro e w' ⟨rfl, rfl⟩)
          exact bodyPost_ret (resF2 rfl rfl ((hFn.out.set2 9 b).al _)) rfl ⟨rfl, Bw.al ((HB3.out.setCell (p := ⟨w.heap.size + 1 + 1, 0, none⟩) (by show w.heap.size ≤ w.heap.size + 1 + 1; omega) _).setCell (p := ⟨w.heap.size + 1 + 1, 1, none⟩) (by show w.heap.size ≤ w.heap.size + 1 + 1; omega) _) _⟩
        · have q3 : decide (384 < (q : Int)) = false := by simp; omega
          have q4 : ((q : Int) == (n : Int)) = false := by rw [beq_eq_false_iff_ne]; omega
          clear hbd q0 q2
          go_wp2_with (go_at_call 23; refine (cpFault_any _ _ _).mono ?_; rintro e w' ⟨rfl, rfl⟩)
          exact bodyPost_ret (resF2 rfl rfl ((hFn.out.set2 9 b).al _)) rfl ⟨rfl, Bw.al ((HB3.out.setCell (p := ⟨w.heap.size + 1 + 1, 0, none⟩) (by show w.heap.size ≤ w.heap.size + 1 + 1; omega) _).setCell (p := ⟨w.heap.size + 1 + 1, 1, none⟩) (by show w.heap.size ≤ w.heap.size + 1 + 1; omega) _) _⟩
end Go.Proofs.Ytcinfkmekkdhfaa
