/- Walks of lossplan: within, Validate, Check, Shape, Payload; the reference's faults. -/
import Derived.Test.YtnajdmkdkpmdgaaLpB
import Derived.Test.YtnajdmkdkpmdgaaIlD
namespace Go.Proofs.Ytnajdmkdkpmdgaa
open Go.RowKit
set_option linter.unusedVariables false

set_option maxHeartbeats 400000 in
theorem lpFault_any (c i : Int) (w : World) :
    Calls Try.prog 22 #[.int .i64 c, .int .i64 i] w fun e w' => e = .returned (.agg #[.int .i64 c, .int .i64 i]) ∧ Below w.heap.size w w' := by
  go_enter Try.func22, Try.ntmps22
  go_wp2
  exact bodyPost_ret (v := .agg #[.int .i64 c, .int .i64 i]) (by simp [results, Try.results22, go_sem]) rfl ⟨rfl, by (repeat (first | exact Below.refl _ _ | assumption | refine Bw.al ?_ _ | refine Bw.step ?_ (by assumption) | refine Bw.drew ?_))⟩
abbrev Tri := Int × Int × Int
def triOk (t : Tri) : Prop := t.2.1 ≤ t.1 ∧ t.1 ≤ t.2.2
instance (t : Tri) : Decidable (triOk t) := by unfold triOk; exact inferInstance
/-- The fault of the first triple that is out of its range. -/
def wiR : List Tri → Nat → Int × Int
  | [], _ => (0, 0)
  | t :: ts, k => if triOk t then wiR ts (k + 1) else (4, k)
def wiF (ts : List Tri) : Int × Int := wiR ts 0
theorem wiR_drop (ts : List Tri) {k : Nat} (hk : k < ts.length) : wiR (ts.drop k) k = if triOk (ts.getD k (0, 0, 0)) then wiR (ts.drop (k + 1)) (k + 1) else (4, (k : Int)) := by
  rw [List.drop_eq_getElem_cons hk, wiR]
  simp [List.getD, hk]
def Tris (w : World) (b : Nat) (ts : List Tri) : Prop := b < w.heap.size ∧ ∀ i, i < ts.length → w.cell? ⟨b, i * 3, none⟩ = some (.int .i64 (ts.getD i (0, 0, 0)).1) ∧ w.cell? ⟨b, i * 3 + 1, none⟩ = some (.int .i64 (ts.getD i (0, 0, 0)).2.1) ∧ w.cell? ⟨b, i * 3 + 2, none⟩ = some (.int .i64 (ts.getD i (0, 0, 0)).2.2)
theorem Tris.below {w w' : World} {b : Nat} {ts : List Tri} (h : Tris w b ts) (hb : Below w.heap.size w w') : Tris w' b ts :=
  ⟨Nat.lt_of_lt_of_le h.1 hb.size, fun i hi => ⟨(hb.cell (p := ⟨b, i * 3, none⟩) h.1).trans (h.2 i hi).1, (hb.cell (p := ⟨b, i * 3 + 1, none⟩) h.1).trans (h.2 i hi).2.1, (hb.cell (p := ⟨b, i * 3 + 2, none⟩) h.1).trans (h.2 i hi).2.2⟩⟩
set_option maxRecDepth 100000 in
set_option maxHeartbeats 2000000 in
theorem within_any (b n c : Nat) (ts : List Tri) (w : World) (hn : ts.length = n) (hn5 : n ≤ 5) (ht : Tris w b ts) :
    Calls Try.prog 28 #[.slice (some ⟨b, 0, none⟩) n c] w fun e w' => e = .returned (.agg #[.int .i64 (wiF ts).1, .int .i64 (wiF ts).2]) ∧ Below w.heap.size w w' := by
  have HT := Lib.hid ht
  have HN := Lib.hid hn
  have hF0 := Has.new w 0 0 27
  have HW : Hid (wiF ts = wiR (ts.drop 0) 0) := Lib.hid rfl
  rw [HW.out]
  clear ht hn HW
  go_enter Try.func28, Try.ntmps28
  go_wp2
  go_loopw [7] (fun i wr => ∃ k : Nat, k ≤ n ∧ i = .int .i64 k ∧ wiR (ts.drop 0) 0 = wiR (ts.drop k) k ∧ Has wr w.heap.size 0 0 ∧ Below w.heap.size w wr) (fun i _ => n - (intOf i).toNat)
  case atStart => exact ⟨0, Nat.zero_le _, rfl, rfl, hF0, below_new _ _⟩
  case round =>
    obtain ⟨k, hk, rfl, hw, hF, hbw⟩ := hrel
    by_cases hlt : k < n
    · have hs := wiR_drop ts (k := k) (by rw [HN.out]; exact hlt)
      obtain ⟨hb, hc⟩ := HT.out.below hbw
      obtain ⟨hc0, hc1, hc2⟩ := hc k (by rw [HN.out]; exact hlt)
      generalize ts.getD k (0, 0, 0) = t at *
      obtain ⟨x, lo, hi⟩ := t
      simp only at hc0 hc1 hc2
      have HS := Lib.hid (hw.trans hs)
      obtain ⟨l1, c10, c11, f10, f11⟩ := id hF
      clear hc hw hs HT
      by_cases h1 : lo ≤ x
      · have d1 : decide (x < lo) = false := by simp only [decide_eq_false_iff_not]; omega
        by_cases h2 : x ≤ hi
        · rw [if_pos (show triOk (x, lo, hi) from ⟨h1, h2⟩)] at HS
          have d2 : decide (hi < x) = false := by simp only [decide_eq_false_iff_not]; omega
          clear h1 h2
          go_wp2
          go_roundw
          case rel => first | exact ⟨k + 1, by omega, by go_num, HS.out, hF.al _, Bw.al hbw _⟩ | ((repeat apply Exists.intro); exact ⟨⟨k + 1, by omega, by go_num, HS.out, hF.al _, Bw.al hbw _⟩, rfl⟩)
          case measure => simp [intOf]; omega
        · rw [if_neg (show ¬ triOk (x, lo, hi) from fun h => h2 h.2)] at HS
          have d2 : decide (hi < x) = true := by simp only [decide_eq_true_eq]; omega
          clear h1 h2
          go_wp2_with fail
          refine (lpFault_any _ _ _).mono ?_
          rintro e w1 ⟨rfl, hb1⟩
          have hF2 := (hF.al (.cells #[.int .i64 x, .int .i64 lo, .int .i64 hi] 51)).below hb1
          have hb2 := Bw.step (Bw.al hbw (.cells #[.int .i64 x, .int .i64 lo, .int .i64 hi] 51)) hb1
          clear l1 c10 c11 f10 f11
          obtain ⟨l1, c10, c11, f10, f11⟩ := id hF2
          go_wp2
          exact bodyPost_ret (resF1 rfl rfl (hF2.set2 4 k)) rfl ⟨by rw [HS.out], Bw.set (Bw.set hb2 (Nat.le_refl _) _) (Nat.le_refl _) _⟩
      · rw [if_neg (show ¬ triOk (x, lo, hi) from fun h => h1 h.1)] at HS
        have d1 : decide (x < lo) = true := by simp only [decide_eq_true_eq]; omega
        clear h1
        go_wp2_with fail
        refine (lpFault_any _ _ _).mono ?_
        rintro e w1 ⟨rfl, hb1⟩
        have hF2 := (hF.al (.cells #[.int .i64 x, .int .i64 lo, .int .i64 hi] 51)).below hb1
        have hb2 := Bw.step (Bw.al hbw (.cells #[.int .i64 x, .int .i64 lo, .int .i64 hi] 51)) hb1
        clear l1 c10 c11 f10 f11
        obtain ⟨l1, c10, c11, f10, f11⟩ := id hF2
        go_wp2
        exact bodyPost_ret (resF1 rfl rfl (hF2.set2 4 k)) rfl ⟨by rw [HS.out], Bw.set (Bw.set hb2 (Nat.le_refl _) _) (Nat.le_refl _) _⟩
    · obtain rfl : k = n := by omega
      have he : wiR (ts.drop k) k = (0, 0) := by rw [List.drop_of_length_le (by rw [HN.out]; exact Nat.le_refl _)]; rfl
      rw [he] at hw
      have HW := Lib.hid hw
      obtain ⟨l1, c10, c11, f10, f11⟩ := id hF
      clear hw he hlt
      go_wp2
      exact bodyPost_ret (resF1 rfl rfl (hF.set2 0 0)) rfl ⟨by rw [HW.out], Bw.set (Bw.set hbw (Nat.le_refl _) _) (Nat.le_refl _) _⟩
/-! ### Plans and losses -/
def planT (r c d p : Int) : List Tri := [(r, 0, 16), (c, 0, 12), (d, 1, 48), (p, 0, 16)]
def lossT (m x h v s : Int) : List Tri := [(m, 0, 16), (x, 0, 8), (h, 0, 16), (v, 0, 24), (s, 0, 384)]
theorem Tris.lit4 (w : World) (g : Nat) (hg : g = w.heap.size) (a b c d : Tri) (t : TypeId) : Tris (w.alloc (.cells #[.int .i64 a.1, .int .i64 a.2.1, .int .i64 a.2.2, .int .i64 b.1, .int .i64 b.2.1, .int .i64 b.2.2, .int .i64 c.1, .int .i64 c.2.1, .int .i64 c.2.2, .int .i64 d.1, .int .i64 d.2.1, .int .i64 d.2.2] t)) g [a, b, c, d] := by
  subst hg
  refine ⟨by simp, fun i hi => ?_⟩
  match i, hi with
  | 0, _ => exact ⟨by simp [go_sem], by simp [go_sem], by simp [go_sem]⟩
  | 1, _ => exact ⟨by simp [go_sem], by simp [go_sem], by simp [go_sem]⟩
  | 2, _ => exact ⟨by simp [go_sem], by simp [go_sem], by simp [go_sem]⟩
  | 3, _ => exact ⟨by simp [go_sem], by simp [go_sem], by simp [go_sem]⟩
theorem Tris.lit5 (w : World) (g : Nat) (hg : g = w.heap.size) (a b c d e : Tri) (t : TypeId) : Tris (w.alloc (.cells #[.int .i64 a.1, .int .i64 a.2.1, .int .i64 a.2.2, .int .i64 b.1, .int .i64 b.2.1, .int .i64 b.2.2, .int .i64 c.1, .int .i64 c.2.1, .int .i64 c.2.2, .int .i64 d.1, .int .i64 d.2.1, .int .i64 d.2.2, .int .i64 e.1, .int .i64 e.2.1, .int .i64 e.2.2] t)) g [a, b, c, d, e] := by
  subst hg
  refine ⟨by simp, fun i hi => ?_⟩
  match i, hi with
  | 0, _ => exact ⟨by simp [go_sem], by simp [go_sem], by simp [go_sem]⟩
  | 1, _ => exact ⟨by simp [go_sem], by simp [go_sem], by simp [go_sem]⟩
  | 2, _ => exact ⟨by simp [go_sem], by simp [go_sem], by simp [go_sem]⟩
  | 3, _ => exact ⟨by simp [go_sem], by simp [go_sem], by simp [go_sem]⟩
  | 4, _ => exact ⟨by simp [go_sem], by simp [go_sem], by simp [go_sem]⟩
def plF (r c d p : Int) : Int × Int := wiF (planT r c d p)
def loF (m x h v s : Int) : Int × Int := wiF (lossT m x h v s)
abbrev plV (r c d p : Int) : Value := .agg #[.int .i64 r, .int .i64 c, .int .i64 d, .int .i64 p]
abbrev loV (m x h v s : Int) : Value := .agg #[.int .i64 m, .int .i64 x, .int .i64 h, .int .i64 v, .int .i64 s]
set_option maxHeartbeats 1000000 in
theorem lpValidate_any (r c d p : Int) (w : World) :
    Calls Try.prog 18 #[plV r c d p] w fun e w' => e = .returned (.agg #[.int .i64 (plF r c d p).1, .int .i64 (plF r c d p).2]) ∧ Below w.heap.size w w' := by
  have HW := Lib.hid (fun (w : World) b (h : Tris w b (planT r c d p)) => within_any b 4 4 (planT r c d p) w rfl (by decide) h)
  have HF : Hid (wiF (planT r c d p) = plF r c d p) := Lib.hid rfl
  rw [HF.out] at HW
  generalize plF r c d p = f at *
  obtain ⟨C, I⟩ := f
  simp only at HW ⊢
  go_enter Try.func18, Try.ntmps18
  go_wp2_with fail
  refine (HW.out _ _ (Tris.lit4 _ _ (by simp) (r, 0, 16) (c, 0, 12) (d, 1, 48) (p, 0, 16) _)).mono ?_
  rintro e w1 ⟨rfl, hb1⟩
  have hF := ((Has.new (w.alloc (.cells #[.int .i64 r, .int .i64 c, .int .i64 d, .int .i64 p] 23)) 0 0 27).al _).below hb1
  rw [World.size_alloc] at hF
  have hb2 : Below w.heap.size w w1 := Bw.step (by (repeat (first | exact Below.refl _ _ | assumption | refine Bw.al ?_ _ | refine Bw.step ?_ (by assumption) | refine Bw.drew ?_))) hb1
  obtain ⟨l1, c10, c11, f10, f11⟩ := id hF
  go_wp2
  exact bodyPost_ret (resF1 rfl rfl (hF.set2 C I)) rfl ⟨rfl, Bw.set (Bw.set hb2 (Nat.le_succ _) _) (Nat.le_succ _) _⟩
set_option maxHeartbeats 1000000 in
theorem lpCheck_any (m x h v s : Int) (w : World) :
    Calls Try.prog 19 #[loV m x h v s] w fun e w' => e = .returned (.agg #[.int .i64 (loF m x h v s).1, .int .i64 (loF m x h v s).2]) ∧ Below w.heap.size w w' := by
  have HW := Lib.hid (fun (w : World) b (ht : Tris w b (lossT m x h v s)) => within_any b 5 5 (lossT m x h v s) w rfl (by decide) ht)
  have HF : Hid (wiF (lossT m x h v s) = loF m x h v s) := Lib.hid rfl
  rw [HF.out] at HW
  generalize loF m x h v s = f at *
  obtain ⟨C, I⟩ := f
  simp only at HW ⊢
  go_enter Try.func19, Try.ntmps19
  go_wp2_with fail
  refine (HW.out _ _ (Tris.lit5 _ _ (by simp) (m, 0, 16) (x, 0, 8) (h, 0, 16) (v, 0, 24) (s, 0, 384) _)).mono ?_
  rintro e w1 ⟨rfl, hb1⟩
  have hF := ((Has.new (w.alloc (.cells #[.int .i64 m, .int .i64 x, .int .i64 h, .int .i64 v, .int .i64 s] 25)) 0 0 27).al _).below hb1
  rw [World.size_alloc] at hF
  have hb2 : Below w.heap.size w w1 := Bw.step (by (repeat (first | exact Below.refl _ _ | assumption | refine Bw.al ?_ _ | refine Bw.step ?_ (by assumption) | refine Bw.drew ?_))) hb1
  obtain ⟨l1, c10, c11, f10, f11⟩ := id hF
  go_wp2
  exact bodyPost_ret (resF1 rfl rfl (hF.set2 C I)) rfl ⟨rfl, Bw.set (Bw.set hb2 (Nat.le_succ _) _) (Nat.le_succ _) _⟩
end Go.Proofs.Ytnajdmkdkpmdgaa
