/- Texts of this proof, laid together: XIl, XIlA, XIlB, XIlC, XIlD, XSp, XSpA, XSpB. -/
import Derived.Test.YtmpjkdkgolmgdaaGreatMa
import Derived.Handy
import Derived.RegionTactic
import Derived.Deep.LoopGhost
import Derived.Test.YtmpjkdkgolmgdaaGreatMb
import Derived.Deep.RegionWith
import Derived.Test.YtmpjkdkgolmgdaaGreatMc
/- The places of the bytes of a code block on a page: plain laws of lines and rows. -/
namespace Go.Proofs.YtmpjkdkgolmgdaaGreat
set_option linter.unusedVariables false

/-- The line of a row and a column; how many columns of a rectangle have a row's line among some lines. -/
def ilL (r c : Int) : Int := (r - 5 * c) % 16
def ilCnt (lo hi r left : Int) : Nat → Int
  | 0 => 0
  | c + 1 => ilCnt lo hi r left c + if lo ≤ ilL r (left + c) ∧ ilL r (left + c) < hi then 1 else 0
theorem ilL_bd (r c : Int) : 0 ≤ ilL r c ∧ ilL r c < 16 := by unfold ilL; omega
theorem ilL_iff {r c k : Int} (hr : 0 ≤ r ∧ r < 16) (hk : 0 ≤ k ∧ k < 16) : (k + 5 * c) % 16 = r ↔ ilL r c = k := by unfold ilL; omega
theorem ilCnt_nil (lo r left : Int) (c : Nat) : ilCnt lo lo r left c = 0 := by
  induction c with
  | zero => rfl
  | succ c ih => rw [ilCnt, ih, if_neg (by omega)]; rfl
theorem ilCnt_add (lo mid hi r left : Int) (h1 : lo ≤ mid) (h2 : mid ≤ hi) (c : Nat) : ilCnt lo mid r left c + ilCnt mid hi r left c = ilCnt lo hi r left c := by
  induction c with
  | zero => rfl
  | succ c ih =>
    simp only [ilCnt]
    rw [← ih]
    split <;> split <;> split <;> omega
theorem ilCnt_split (lo hi r left : Int) (a b : Nat) : ilCnt lo hi r left (a + b) = ilCnt lo hi r left a + ilCnt lo hi r (left + a) b := by
  induction b with
  | zero => simp [ilCnt]
  | succ b ih =>
    rw [← Nat.add_assoc, ilCnt, ih, ilCnt]
    have e : left + ((a + b : Nat) : Int) = left + a + b := by omega
    rw [e]; omega
theorem ilCnt_bd (lo hi r left : Int) (c : Nat) : 0 ≤ ilCnt lo hi r left c ∧ ilCnt lo hi r left c ≤ c := by
  induction c with
  | zero => simp [ilCnt]
  | succ c ih => simp only [ilCnt]; split <;> omega
/-- The numbers that Meets returns. -/
def ilM (top left h : Int) (w : Nat) (r : Nat) : Int := ilCnt top (top + h) r left w
def ilMeets (top left h : Int) (w : Nat) : List Int := (List.range 16).map (ilM top left h w)
theorem ilMeets_len (top left h : Int) (w : Nat) : (ilMeets top left h w).length = 16 := by simp [ilMeets]
theorem ilMeets_get (top left h : Int) (w : Nat) {r : Nat} (hr : r < 16) : (ilMeets top left h w).getD r 0 = ilM top left h w r := by
  simp [ilMeets, List.getD, hr]
/-- .. in the middle of the loops: r lines are done, and c columns of the next one. -/
def ilMid (top left r : Int) (w c : Nat) : List Int := (List.range 16).map fun (k : Nat) => ilCnt top (top + r) k left w + ilCnt (top + r) (top + r + 1) k left c
theorem ilMid_len (top left r : Int) (w c : Nat) : (ilMid top left r w c).length = 16 := by simp [ilMid]
theorem ilMid_get (top left r : Int) (w c : Nat) {k : Nat} (hk : k < 16) : (ilMid top left r w c).getD k 0 = ilCnt top (top + r) k left w + ilCnt (top + r) (top + r + 1) k left c := by
  simp [ilMid, List.getD, hk]
theorem map_set_range {f g : Nat → Int} {n i : Nat} (hi : i < n) (h : ∀ k, k < n → g k = if k = i then g i else f k) : ((List.range n).map f).set i (g i) = (List.range n).map g := by
  apply List.ext_getElem
  · simp
  · intro k h1 h2
    simp only [List.getElem_set, List.getElem_map, List.getElem_range]
    have hk : k < n := by simpa using h2
    rw [h k hk]
    by_cases e : i = k
    · subst e; simp
    · rw [if_neg e, if_neg (fun x => e x.symm)]
theorem ilMid_step (top left r : Int) (w c : Nat) (ht : 0 ≤ top) (hr : 0 ≤ r) (hlt : top + r < 16) (i : Nat) (hi : (i : Int) = (top + r + 5 * (left + c)) % 16) :
    (ilMid top left r w c).set i ((ilMid top left r w c).getD i 0 + 1) = ilMid top left r w (c + 1) := by
  have hi16 : i < 16 := by omega
  rw [ilMid_get _ _ _ _ _ hi16]
  have key : ∀ k : Nat, k < 16 → (ilCnt (top + r) (top + r + 1) k left (c + 1) = ilCnt (top + r) (top + r + 1) k left c + if k = i then 1 else 0) := by
    intro k hk
    simp only [ilCnt]
    congr 1
    have h := ilL_iff (r := k) (c := left + c) (k := top + r) ⟨by omega, by omega⟩ ⟨by omega, hlt⟩
    by_cases e : k = i
    · subst e
      have h2 := h.1 hi.symm
      rw [if_pos rfl, if_pos (by omega)]
    · rw [if_neg e]
      by_cases h3 : ilL k (left + c) = top + r
      · have := h.2 h3; omega
      · rw [if_neg (by omega)]
  have e1 : ilCnt top (top + r) i left w + ilCnt (top + r) (top + r + 1) i left c + 1 = ilCnt top (top + r) i left w + ilCnt (top + r) (top + r + 1) i left (c + 1) := by
    rw [key i hi16, if_pos rfl]; omega
  rw [e1]
  unfold ilMid
  refine map_set_range (g := fun (k : Nat) => ilCnt top (top + r) k left w + ilCnt (top + r) (top + r + 1) k left (c + 1)) hi16 (fun k hk => ?_)
  rw [key k hk]
  by_cases e : k = i
  · subst e; simp [key k hk]
  · rw [if_neg e, if_neg e]; omega
theorem ilMid_zero (top left : Int) (w : Nat) : ilMid top left 0 w 0 = List.replicate 16 0 := by
  refine List.eq_replicate_iff.2 ⟨by simp [ilMid], fun b hb => ?_⟩
  unfold ilMid at hb
  obtain ⟨k, _, rfl⟩ := List.mem_map.1 hb
  simp [ilCnt, ilCnt_nil]
theorem ilMid_row (top left r : Int) (w : Nat) (hr : 0 ≤ r) : ilMid top left r w w = ilMid top left (r + 1) w 0 := by
  unfold ilMid
  apply List.map_congr_left
  intro k _
  rw [ilCnt_add _ _ _ _ _ (by omega) (by omega)]
  simp [ilCnt, Int.add_assoc]
theorem ilMid_end (top left h : Int) (w : Nat) : ilMid top left h w 0 = ilMeets top left h w := by
  unfold ilMid ilMeets ilM
  apply List.map_congr_left
  intro k _
  simp [ilCnt]

/-- A small rectangle meets every row at most once. -/
theorem ilM_small (top left h : Int) (w r : Nat) (hh : h ≤ 5) (hw : w ≤ 3) (ht : 0 ≤ top) (h0 : 0 ≤ h) (h16 : top + h ≤ 16) : ilM top left h w r ≤ 1 := by
  unfold ilM
  have e0 : ∀ a b : Int, ilCnt a b r left 0 = 0 := fun _ _ => rfl
  have e1 : ∀ (a b : Int) (c : Nat), ilCnt a b r left (c + 1) = ilCnt a b r left c + if a ≤ ilL r (left + c) ∧ ilL r (left + c) < b then 1 else 0 := fun _ _ _ => rfl
  have l0 := ilL_bd r left
  have s1 : ilL r (left + 1) = (ilL r left + 11) % 16 := by unfold ilL; omega
  have s2 : ilL r (left + 2) = (ilL r left + 6) % 16 := by unfold ilL; omega
  rcases (show w = 0 ∨ w = 1 ∨ w = 2 ∨ w = 3 by omega) with rfl | rfl | rfl | rfl
  · rw [e0]; omega
  · rw [e1, e0]; split <;> omega
  · rw [e1, e1, e0]
    simp only [Int.natCast_zero, Int.add_zero, Int.natCast_one] at *
    generalize ilL r (left + 1) = y1 at *
    generalize ilL r left = y0 at *
    split <;> split <;> omega
  · rw [e1, e1, e1, e0]
    simp only [Int.natCast_zero, Int.add_zero, Int.natCast_one] at *
    have c2 : ((2 : Nat) : Int) = 2 := rfl
    rw [c2]
    generalize ilL r (left + 2) = y2 at *
    generalize ilL r (left + 1) = y1 at *
    generalize ilL r left = y0 at *
    split <;> split <;> split <;> omega
/-- A full line meets every row once or twice. -/
theorem ilM_line (top r : Nat) (ht : top < 16) (hr : r < 16) : 1 ≤ ilM top 0 1 24 r ∧ ilM top 0 1 24 r ≤ 2 := by
  have h : ∀ t : Fin 16, ∀ k : Fin 16, 1 ≤ ilM (t.val : Int) 0 1 24 k.val ∧ ilM (t.val : Int) 0 1 24 k.val ≤ 2 := by decide +kernel
  exact h ⟨top, ht⟩ ⟨r, hr⟩
/-- The sums over the rows. -/
def ilSum (top left h : Int) (w : Nat) : Nat → Int
  | 0 => 0
  | r + 1 => ilSum top left h w r + ilM top left h w r
def ilCol (lo hi c : Int) : Nat → Int
  | 0 => 0
  | r + 1 => ilCol lo hi c r + if lo ≤ ilL r c ∧ ilL r c < hi then 1 else 0
theorem ilSum_succ (top left h : Int) (w : Nat) (r : Nat) : ilSum top left h (w + 1) r = ilSum top left h w r + ilCol top (top + h) (left + w) r := by
  induction r with
  | zero => rfl
  | succ r ih =>
    simp only [ilSum, ilCol]
    rw [ih]
    have : ilM top left h (w + 1) r = ilM top left h w r + if top ≤ ilL r (left + w) ∧ ilL r (left + w) < top + h then 1 else 0 := rfl
    rw [this]; omega
theorem ilL_mod (r c : Int) : ilL r c = ilL r (c % 16) := by unfold ilL; omega
theorem ilCol_mod (lo hi c : Int) (r : Nat) : ilCol lo hi c r = ilCol lo hi (c % 16) r := by
  induction r with
  | zero => rfl
  | succ r ih => simp only [ilCol]; rw [ih, ilL_mod r c]
theorem ilCol_full (top h c : Int) (ht : 0 ≤ top) (hh : 0 ≤ h) (h16 : top + h ≤ 16) : ilCol top (top + h) c 16 = h := by
  have key : ∀ t : Fin 17, ∀ k : Fin 17, ∀ d : Fin 16, t.val + k.val ≤ 16 → ilCol (t.val : Int) ((t.val : Int) + k.val) d.val 16 = k.val := by decide +kernel
  rw [ilCol_mod]
  have h1 := key ⟨top.toNat, by omega⟩ ⟨h.toNat, by omega⟩ ⟨(c % 16).toNat, by omega⟩ (by simp only []; omega)
  simp only [] at h1
  rw [Int.toNat_of_nonneg ht, Int.toNat_of_nonneg hh, Int.toNat_of_nonneg (by omega)] at h1
  exact h1
theorem ilSum_full (top left h : Int) (w : Nat) (ht : 0 ≤ top) (hh : 0 ≤ h) (h16 : top + h ≤ 16) : ilSum top left h w 16 = h * w := by
  induction w with
  | zero =>
    have : ∀ r, ilSum top left h 0 r = 0 := fun r => by
      induction r with
      | zero => rfl
      | succ r ih => simp only [ilSum, ih, ilM, ilCnt]; rfl
    rw [this]; simp
  | succ w ih =>
    rw [ilSum_succ, ih, ilCol_full _ _ _ ht hh h16]
    rw [Int.natCast_add, Int.mul_add]; simp
end Go.Proofs.YtmpjkdkgolmgdaaGreat
/- Walks of the package interleave and of its reference: what Place, Source and Meets compute. -/
namespace Go.Proofs.YtmpjkdkgolmgdaaGreat
open Go.RowKit
set_option linter.unusedVariables false

theorem Has.drew {w : World} {b : Nat} {c i : Int} (h : Has w b c i) : Has w.drew b c i := h
set_option maxHeartbeats 400000 in
theorem ilFault_any (c i : Int) (w : World) :
    Calls Tryz.prog 32 #[.int .i64 c, .int .i64 i] w fun e w' => e = .returned (.agg #[.int .i64 c, .int .i64 i]) ∧ w.alloc (.cells #[.int .i64 c, .int .i64 i] 27) = w' := by
  go_enter Tryz.func32, Tryz.ntmps32
  go_wp2
  exact bodyPost_ret (v := .agg #[.int .i64 c, .int .i64 i]) (by simp [results, Tryz.results32, go_sem]) rfl ⟨rfl, rfl⟩
set_option maxHeartbeats 400000 in
theorem ilCheck_ok (r c : Int) (w : World) (hr : 0 ≤ r ∧ r < 16) (hc : 0 ≤ c ∧ c < 24) :
    Calls Tryz.prog 56 #[.int .i64 r, .int .i64 c] w fun e w' => e = .returned (.agg #[.int .i64 0, .int .i64 0]) ∧ Below w.heap.size w w' := by
  have h1 : decide (r < 0) = false := by simp; omega
  have h2 : decide (c < 0) = false := by simp; omega
  go_enter Tryz.func56, Tryz.ntmps56
  go_wp2
  exact bodyPost_ret (v := .agg #[.int .i64 0, .int .i64 0]) (by simp [results, Tryz.results56, go_sem]) rfl ⟨rfl, below_new _ _⟩
set_option maxHeartbeats 400000 in
theorem ilCheck_row (r c : Int) (w : World) (hr : ¬ (0 ≤ r ∧ r < 16)) :
    Calls Tryz.prog 56 #[.int .i64 r, .int .i64 c] w fun e w' => e = .returned (.agg #[.int .i64 4, .int .i64 (-1)]) ∧ Below w.heap.size w w' := by
  by_cases h : r < 0
  · have h1 : decide (r < 0) = true := by simp; omega
    go_enter Tryz.func56, Tryz.ntmps56
    go_wp2_with (go_at_call 32; refine (ilFault_any _ _ _).mono ?_; rintro e w' ⟨rfl, rfl⟩)
    exact bodyPost_ret (v := .agg #[.int .i64 4, .int .i64 (-1)]) (by simp [results, Tryz.results56, go_sem]) rfl ⟨rfl, below_new2 _ _ _⟩
  · have h1 : decide (r < 0) = false := by simp; omega
    have h2 : 16 ≤ r := by omega
    go_enter Tryz.func56, Tryz.ntmps56
    go_wp2_with (go_at_call 32; refine (ilFault_any _ _ _).mono ?_; rintro e w' ⟨rfl, rfl⟩)
    exact bodyPost_ret (v := .agg #[.int .i64 4, .int .i64 (-1)]) (by simp [results, Tryz.results56, go_sem]) rfl ⟨rfl, below_new2 _ _ _⟩
set_option maxHeartbeats 400000 in
theorem ilCheck_col (r c : Int) (w : World) (hr : 0 ≤ r ∧ r < 16) (hc : ¬ (0 ≤ c ∧ c < 24)) :
    Calls Tryz.prog 56 #[.int .i64 r, .int .i64 c] w fun e w' => e = .returned (.agg #[.int .i64 4, .int .i64 (-2)]) ∧ Below w.heap.size w w' := by
  have h0 : decide (r < 0) = false := by simp; omega
  by_cases h : c < 0
  · have h1 : decide (c < 0) = true := by simp; omega
    go_enter Tryz.func56, Tryz.ntmps56
    go_wp2_with (go_at_call 32; refine (ilFault_any _ _ _).mono ?_; rintro e w' ⟨rfl, rfl⟩)
    exact bodyPost_ret (v := .agg #[.int .i64 4, .int .i64 (-2)]) (by simp [results, Tryz.results56, go_sem]) rfl ⟨rfl, below_new2 _ _ _⟩
  · have h1 : decide (c < 0) = false := by simp; omega
    have h2 : 24 ≤ c := by omega
    go_enter Tryz.func56, Tryz.ntmps56
    go_wp2_with (go_at_call 32; refine (ilFault_any _ _ _).mono ?_; rintro e w' ⟨rfl, rfl⟩)
    exact bodyPost_ret (v := .agg #[.int .i64 4, .int .i64 (-2)]) (by simp [results, Tryz.results56, go_sem]) rfl ⟨rfl, below_new2 _ _ _⟩

theorem tmod16 (n : Int) : (n.tmod 16 + 16).tmod 16 = n % 16 := by
  rcases Int.lt_or_le n 0 with h | h
  · have h1 : n.tmod 16 = -((-n) % 16) := by rw [show n = -(-n) from by omega, Int.neg_tmod, Int.tmod_eq_emod_of_nonneg (by omega)]; simp
    rw [h1, Int.tmod_eq_emod_of_nonneg (by omega)]
    omega
  · rw [Int.tmod_eq_emod_of_nonneg h, Int.tmod_eq_emod_of_nonneg (by omega)]
    omega
set_option maxHeartbeats 400000 in
theorem ilLine_any (r c : Int) (w : World) (hr : 0 ≤ r ∧ r < 16) (hc : 0 ≤ c ∧ c < 24) :
    Calls Tryz.prog 33 #[.int .i64 r, .int .i64 c] w fun e w' => e = .returned (.int .i64 (ilL r c)) ∧ w = w' := by
  have hb : -16 < (r - 5 * c).tmod 16 ∧ (r - 5 * c).tmod 16 < 16 := ⟨Int.lt_tmod_of_pos _ (by omega), Int.tmod_lt_of_pos _ (by omega)⟩
  have H := Lib.hid (show ((r - 5 * c).tmod 16 + 16) % 16 = ilL r c by
    rw [← Int.tmod_eq_emod_of_nonneg (by omega)]; exact tmod16 (r - 5 * c))
  go_enter Tryz.func33, Tryz.ntmps33
  go_wp2
  go_ret
  exact ⟨by rw [← H.out]; rfl, rfl⟩
set_option maxHeartbeats 400000 in
theorem ilRow_any (l c : Int) (w : World) (hl : 0 ≤ l ∧ l < 64) (hc : 0 ≤ c ∧ c < 64) :
    Calls Tryz.prog 34 #[.int .i64 l, .int .i64 c] w fun e w' => e = .returned (.int .i64 ((l + 5 * c) % 16)) ∧ w = w' := by
  go_enter Tryz.func34, Tryz.ntmps34
  go_wp2
  go_ret
  exact ⟨rfl, rfl⟩

theorem ilCheck_bad (r c i : Int) (w : World) (h : (¬ (0 ≤ r ∧ r < 16) ∧ i = -1) ∨ ((0 ≤ r ∧ r < 16) ∧ ¬ (0 ≤ c ∧ c < 24) ∧ i = -2)) :
    Calls Tryz.prog 56 #[.int .i64 r, .int .i64 c] w fun e w' => e = .returned (.agg #[.int .i64 4, .int .i64 i]) ∧ Below w.heap.size w w' := by
  rcases h with ⟨h, rfl⟩ | ⟨h1, h2, rfl⟩
  · exact ilCheck_row r c _ h
  · exact ilCheck_col r c _ h1 h2
end Go.Proofs.YtmpjkdkgolmgdaaGreat
/- Walks of Meets, of the package interleave and of its reference. -/
namespace Go.Proofs.YtmpjkdkgolmgdaaGreat
open Go.RowKit
set_option linter.unusedVariables false

theorem Has.set {w : World} {b : Nat} {c i : Int} (h : Has w b c i) {p : Addr} (hp : p.block ≠ b) (u : Value) : Has (w.setCell p u) b c i := by
  obtain ⟨l, c0, c1, f0, f1⟩ := h
  refine ⟨by simpa [World.setCell] using l, ?_, ?_, by simpa using f0, by simpa using f1⟩
  · rw [World.cell?_setCell_other _ _ _ _ (by intro e; apply hp; rw [e])]; exact c0
  · rw [World.cell?_setCell_other _ _ _ _ (by intro e; apply hp; rw [e])]; exact c1

/-- What Meets has made: a slice of the call's own, and the result's block. -/
def MeetRel (w wr : World) (g : Nat) (l : List Int) : Prop := OwI wr w.heap.size (.slice (some ⟨g, 0, none⟩) 16 16) l ∧ Has wr w.heap.size 0 0 ∧ Below w.heap.size w wr ∧ g ≠ w.heap.size
theorem MeetRel.set {w wr : World} {g : Nat} {l l' : List Int} (h : MeetRel w wr g l) (i : Nat) (x : Int) (hl : l.set i x = l') : MeetRel w (wr.setCell ⟨g, i, none⟩ (.int .i64 x)) g l' := by
  obtain ⟨h1, h2, h3, h4⟩ := h
  refine ⟨hl ▸ h1.set i x, h2.set (by exact h4) _, Bw.set h3 h1.lt.1 _, h4⟩

set_option maxRecDepth 100000 in
set_option maxHeartbeats 1000000 in
theorem ilMeets_ok (top left : Int) (h wd : Nat) (w : World) (ht : 0 ≤ top ∧ top < 16) (hl : 0 ≤ left ∧ left < 24) (hh : top + h ≤ 16) (hw : left + wd ≤ 24) :
    Calls Tryz.prog 42 #[.int .i64 top, .int .i64 left, .int .i64 h, .int .i64 wd] w fun e w' =>
      ∃ g, e = .returned (.tuple #[.slice (some ⟨g, 0, none⟩) 16 16, .agg #[.int .i64 0, .int .i64 0]]) ∧ OwI w' w.heap.size (.slice (some ⟨g, 0, none⟩) 16 16) (ilMeets top left h wd) ∧ Below w.heap.size w w' := by
  have h1 : decide ((h : Int) < 0) = false := by simp
  have h2 : decide ((wd : Int) < 0) = false := by simp
  have h3 : decide (16 - top < (h : Int)) = false := by simp; omega
  have h4 : decide (24 - left < (wd : Int)) = false := by simp; omega
  have hmk := run_makeI 16 (by omega)
  have hmk' : ∀ w : World, (Instr.makeSlice 43 (.int .i64 16) (.int .i64 16)).run Tryz.prog w = .ok (.slice (some ⟨w.heap.size, 0, none⟩) 16 16) (w.alloc (.cells (zerosI 16) 3)) := hmk
  clear hmk
  go_enter Tryz.func42, Tryz.ntmps42
  go_wp2_with fail
  refine (ilCheck_ok _ _ _ ht hl).mono ?_; rintro e w1 ⟨rfl, hb1⟩
  have F0 := (Has.new w 0 0 _).below hb1
  obtain ⟨l0, c00, c01, f00, f01⟩ := id F0
  have M0 : MeetRel w ((w1.alloc (.cells #[.int .i64 0, .int .i64 0] 27)).alloc (.cells (zerosI 16) 3)) (w1.heap.size + 1) (ilMid top left 0 wd 0) := by
    have hs := hb1.size
    simp only [World.size_alloc] at hs
    have ho := OwI.new (w1.alloc (.cells #[.int .i64 0, .int .i64 0] 27)) w.heap.size 16 (by simp only [World.size_alloc]; omega) (by unfold maxLen; omega)
    rw [World.size_alloc] at ho
    rw [ilMid_zero]
    exact ⟨ho, (F0.al _).al _, Bw.al (Bw.al (Bw.step (below_new _ _) hb1) _) _, by omega⟩
  go_wp2
  generalize (w1.alloc (.cells #[.int .i64 0, .int .i64 0] 27)).alloc (.cells (zerosI 16) 3) = W at *
  generalize w1.heap.size + 1 = g at *
  generalize w1.heap.size = b1 at *
  clear hb1 F0 l0 c00 c01 f00 f01 hmk'
  have HM := Lib.hid M0
  clear M0
  go_loopw [41] (fun i wr => ∃ r : Nat, r ≤ h ∧ i = .int .i64 r ∧ MeetRel w wr g (ilMid top left r wd 0)) (fun i _ => h - (intOf i).toNat)
  case atStart => exact ⟨0, by omega, rfl, HM.out⟩
  case round =>
    obtain ⟨r, hr, rfl, M⟩ := hrel
    by_cases hlt : r < h
    · obtain ⟨wo, rfl⟩ : ∃ wo : World, wo = wr := ⟨_, rfl⟩
      go_wp2
      go_loopw [45] (fun i wr => ∃ c : Nat, c ≤ wd ∧ i = .int .i64 c ∧ MeetRel w wr g (ilMid top left r wd c)) (fun i _ => wd - (intOf i).toNat)
      case atStart => exact ⟨0, by omega, rfl, M⟩
      case round =>
        obtain ⟨c, hc, rfl, M2⟩ := hrel
        by_cases hlc : c < wd
        · obtain ⟨i, hi⟩ := Int.eq_ofNat_of_zero_le (show 0 ≤ (top + r + 5 * (left + c)) % 16 by omega)
          have hi16 : i < 16 := by omega
          have hst := M2.set i ((ilMid top left r wd c).getD i 0 + 1) (ilMid_step top left r wd c ht.1 (by omega) (by omega) i hi.symm)
          have hcl := M2.1.cellAt hi16
          have hfz := M2.1.frozenAt i
          rw [ilMid_get _ _ _ _ _ hi16] at hcl hst
          have b1 := ilCnt_bd top (top + r) i left wd
          have b2 := ilCnt_bd (top + r) (top + r + 1) i left c
          generalize ilCnt top (top + r) i left wd = x1 at *
          generalize ilCnt (top + r) (top + r + 1) i left c = x2 at *
          have HST := Lib.hid hst
          have HI := Lib.hid hi
          clear hst hi
          go_wp2_with (go_at_call 34; refine (ilRow_any _ _ _ (by omega) (by omega)).mono ?_; rw [HI.out]; rintro e w' ⟨rfl, rfl⟩)
          go_roundw
          case rel => exact ⟨c + 1, by omega, by go_num, HST.out⟩
          case measure => simp [intOf]; omega
        · have : c = wd := by omega
          subst this
          rw [ilMid_row _ _ _ _ (by omega)] at M2
          go_wp2
          go_roundw
          case rel => exact ⟨r + 1, by omega, by go_num, by simpa using M2⟩
          case measure => simp [intOf]; omega
    · have : r = h := by omega
      subst this
      rw [ilMid_end] at M
      obtain ⟨M1, M2, M3, M4⟩ := M
      obtain ⟨l0, c00, c01, f00, f01⟩ := id M2
      go_wp2
      refine bodyPost_ret (resF2 rfl rfl (M2.set2 0 0)) rfl ⟨g, rfl, ?_, Bw.set (Bw.set M3 (Nat.le_refl _) _) (Nat.le_refl _) _⟩
      exact (M1.far (by simpa using Ne.symm M4) _).far (by simpa using Ne.symm M4) _

theorem inB_true {n lo hi : Int} (h : lo ≤ n ∧ n ≤ hi) : inB n lo hi = true := by unfold inB; simp only [decide_eq_true_eq]; exact h
theorem inB_false {n lo hi : Int} (h : ¬ (lo ≤ n ∧ n ≤ hi)) : inB n lo hi = false := by unfold inB; simp only [decide_eq_false_iff_not]; exact h
/-- The fault of a rectangle. -/
def mfI (top left h wd : Int) : Int := if ¬ (0 ≤ top ∧ top ≤ 15) then -1 else if ¬ (0 ≤ left ∧ left ≤ 23) then -2 else if ¬ (0 ≤ h ∧ h ≤ 16 - top) then -3 else if ¬ (0 ≤ wd ∧ wd ≤ 24 - left) then -4 else 0
def mfC (top left h wd : Int) : Int := if mfI top left h wd = 0 then 0 else 4
theorem mf_ok {top left h wd : Int} (h1 : 0 ≤ top ∧ top ≤ 15) (h2 : 0 ≤ left ∧ left ≤ 23) (h3 : 0 ≤ h ∧ h ≤ 16 - top) (h4 : 0 ≤ wd ∧ wd ≤ 24 - left) : mfI top left h wd = 0 ∧ mfC top left h wd = 0 := by
  have : mfI top left h wd = 0 := by unfold mfI; rw [if_neg (by omega), if_neg (by omega), if_neg (by omega), if_neg (by omega)]
  exact ⟨this, by unfold mfC; rw [if_pos this]⟩
theorem mf_bad {top left h wd : Int} (h1 : ¬ ((0 ≤ top ∧ top ≤ 15) ∧ (0 ≤ left ∧ left ≤ 23) ∧ (0 ≤ h ∧ h ≤ 16 - top) ∧ (0 ≤ wd ∧ wd ≤ 24 - left))) : mfC top left h wd = 4 := by
  unfold mfC
  rw [if_neg]
  unfold mfI
  split
  · omega
  · split
    · omega
    · split
      · omega
      · split
        · omega
        · omega
set_option maxHeartbeats 400000 in
theorem refMeetsFault_any (top left h wd : Int) (w : World) (ht : -9223372036854775808 ≤ top ∧ top ≤ 9223372036854775807) (hl : -9223372036854775808 ≤ left ∧ left ≤ 9223372036854775807) :
    Calls Tryz.prog 6 #[.int .i64 top, .int .i64 left, .int .i64 h, .int .i64 wd] w fun e w' => e = .returned (.agg #[.int .i64 (mfC top left h wd), .int .i64 (mfI top left h wd)]) ∧ Below w.heap.size w w' := by
  by_cases h1 : 0 ≤ top ∧ top ≤ 15
  · have i1 := inB_true h1
    by_cases h2 : 0 ≤ left ∧ left ≤ 23
    · have i2 := inB_true h2
      by_cases h3 : 0 ≤ h ∧ h ≤ 16 - top
      · have i3 := inB_true h3
        by_cases h4 : 0 ≤ wd ∧ wd ≤ 24 - left
        · have i4 := inB_true h4
          obtain ⟨e1, e2⟩ := mf_ok h1 h2 h3 h4
          rw [e1, e2]
          clear e1 e2
          go_enter Tryz.func6, Tryz.ntmps6
          go_wp2_with (first | (go_at_call 19; refine (refIn_any _ _ _ _).mono ?_; rintro e w' ⟨rfl, rfl⟩) | (go_at_call 20; refine (refAt_any _ _ _).mono ?_; rintro e w' ⟨rfl, rfl⟩))
          exact bodyPost_ret (v := .agg #[.int .i64 0, .int .i64 0]) (by simp [results, Tryz.results6, go_sem]) rfl ⟨rfl, below_new2 _ _ _⟩
        · have i4 := inB_false h4
          have e1 : mfI top left h wd = -4 := by unfold mfI; rw [if_neg (by omega), if_neg (by omega), if_neg (by omega), if_pos h4]
          have e2 := mf_bad (top := top) (left := left) (h := h) (wd := wd) (fun x => h4 x.2.2.2)
          rw [e1, e2]
          clear e1 e2
          go_enter Tryz.func6, Tryz.ntmps6
          go_wp2_with (first | (go_at_call 19; refine (refIn_any _ _ _ _).mono ?_; rintro e w' ⟨rfl, rfl⟩) | (go_at_call 20; refine (refAt_any _ _ _).mono ?_; rintro e w' ⟨rfl, rfl⟩))
          exact bodyPost_ret (v := .agg #[.int .i64 4, .int .i64 (-4)]) (by simp [results, Tryz.results6, go_sem]) rfl ⟨rfl, below_new2 _ _ _⟩
      · have i3 := inB_false h3
        have e1 : mfI top left h wd = -3 := by unfold mfI; rw [if_neg (by omega), if_neg (by omega), if_pos h3]
        have e2 := mf_bad (top := top) (left := left) (h := h) (wd := wd) (fun x => h3 x.2.2.1)
        rw [e1, e2]
        clear e1 e2
        go_enter Tryz.func6, Tryz.ntmps6
        go_wp2_with (first | (go_at_call 19; refine (refIn_any _ _ _ _).mono ?_; rintro e w' ⟨rfl, rfl⟩) | (go_at_call 20; refine (refAt_any _ _ _).mono ?_; rintro e w' ⟨rfl, rfl⟩))
        exact bodyPost_ret (v := .agg #[.int .i64 4, .int .i64 (-3)]) (by simp [results, Tryz.results6, go_sem]) rfl ⟨rfl, below_new2 _ _ _⟩
    · have i2 := inB_false h2
      have e1 : mfI top left h wd = -2 := by unfold mfI; rw [if_neg (by omega), if_pos h2]
      have e2 := mf_bad (top := top) (left := left) (h := h) (wd := wd) (fun x => h2 x.2.1)
      rw [e1, e2]
      clear e1 e2
      go_enter Tryz.func6, Tryz.ntmps6
      go_wp2_with (first | (go_at_call 19; refine (refIn_any _ _ _ _).mono ?_; rintro e w' ⟨rfl, rfl⟩) | (go_at_call 20; refine (refAt_any _ _ _).mono ?_; rintro e w' ⟨rfl, rfl⟩))
      exact bodyPost_ret (v := .agg #[.int .i64 4, .int .i64 (-2)]) (by simp [results, Tryz.results6, go_sem]) rfl ⟨rfl, below_new2 _ _ _⟩
  · have i1 := inB_false h1
    have e1 : mfI top left h wd = -1 := by unfold mfI; rw [if_pos h1]
    have e2 := mf_bad (top := top) (left := left) (h := h) (wd := wd) (fun x => h1 x.1)
    rw [e1, e2]
    clear e1 e2
    go_enter Tryz.func6, Tryz.ntmps6
    go_wp2_with (first | (go_at_call 19; refine (refIn_any _ _ _ _).mono ?_; rintro e w' ⟨rfl, rfl⟩) | (go_at_call 20; refine (refAt_any _ _ _).mono ?_; rintro e w' ⟨rfl, rfl⟩))
    exact bodyPost_ret (v := .agg #[.int .i64 4, .int .i64 (-1)]) (by simp [results, Tryz.results6, go_sem]) rfl ⟨rfl, below_new2 _ _ _⟩
end Go.Proofs.YtmpjkdkgolmgdaaGreat
/- Walks of the reference's Meets and of Ints, which compares lists of numbers. -/
namespace Go.Proofs.YtmpjkdkgolmgdaaGreat
open Go.RowKit
set_option linter.unusedVariables false

def rmMid (top left h : Int) (w r c : Nat) : List Int := (List.range 16).map fun k => if k < r then ilM top left h w k else if k = r then ilCnt top (top + h) k left c else 0
theorem rmMid_get (top left h : Int) (w r c : Nat) {k : Nat} (hk : k < 16) : (rmMid top left h w r c).getD k 0 = if k < r then ilM top left h w k else if k = r then ilCnt top (top + h) k left c else 0 := by
  simp [rmMid, List.getD, hk]
theorem rmMid_yes (top left h : Int) (w r c : Nat) (hr : r < 16) (hc : top ≤ ilL r (left + c) ∧ ilL r (left + c) < top + h) : (rmMid top left h w r c).set r (ilCnt top (top + h) r left c + 1) = rmMid top left h w r (c + 1) := by
  have e : ilCnt top (top + h) r left c + 1 = (fun (k : Nat) => if k < r then ilM top left h w k else if k = r then ilCnt top (top + h) k left (c + 1) else 0) r := by
    simp only [Nat.lt_irrefl, if_false, if_true, ilCnt]
    rw [if_pos hc]
  rw [e]
  unfold rmMid
  refine map_set_range (g := fun (k : Nat) => if k < r then ilM top left h w k else if k = r then ilCnt top (top + h) k left (c + 1) else 0) hr (fun k hk => ?_)
  by_cases e : k = r
  · subst e; simp
  · simp [e]
theorem rmMid_no (top left h : Int) (w r c : Nat) (hc : ¬ (top ≤ ilL r (left + c) ∧ ilL r (left + c) < top + h)) : rmMid top left h w r c = rmMid top left h w r (c + 1) := by
  unfold rmMid
  apply List.map_congr_left
  intro k _
  by_cases e : k = r
  · subst e
    simp only [Nat.lt_irrefl, if_false, if_true, ilCnt]
    rw [if_neg hc]; omega
  · simp [e]
theorem rmMid_row (top left h : Int) (w r : Nat) : rmMid top left h w r w = rmMid top left h w (r + 1) 0 := by
  unfold rmMid
  apply List.map_congr_left
  intro k _
  by_cases e : k = r
  · subst e; simp [ilM]
  · by_cases e2 : k = r + 1
    · subst e2; simp [ilCnt]; omega
    · have : (k < r + 1) = (k < r) := by rw [eq_iff_iff]; omega
      simp [e, e2, this]
theorem rmMid_zero (top left h : Int) (w : Nat) : rmMid top left h w 0 0 = List.replicate 16 0 := by
  refine List.eq_replicate_iff.2 ⟨by simp [rmMid], fun b hb => ?_⟩
  unfold rmMid at hb
  obtain ⟨k, _, rfl⟩ := List.mem_map.1 hb
  by_cases e : k = 0
  · subst e; simp [ilCnt]
  · simp [e]
theorem rmMid_end (top left h : Int) (w : Nat) : rmMid top left h w 16 0 = ilMeets top left h w := by
  unfold rmMid ilMeets
  apply List.map_congr_left
  intro k hk
  have := List.mem_range.1 hk
  simp [this]

def RMRel (w wr : World) (g : Nat) (l : List Int) : Prop := OwI wr w.heap.size (.slice (some ⟨g, 0, none⟩) 16 16) l ∧ Below w.heap.size w wr
theorem RMRel.set {w wr : World} {g : Nat} {l l' : List Int} (h : RMRel w wr g l) (i : Nat) (x : Int) (hl : l.set i x = l') : RMRel w (wr.setCell ⟨g, i, none⟩ (.int .i64 x)) g l' :=
  ⟨hl ▸ h.1.set i x, Bw.set h.2 h.1.lt.1 _⟩

end Go.Proofs.YtmpjkdkgolmgdaaGreat
/- The walks of the statements on Meets, and on Place and Source. -/
namespace Go.Proofs.YtmpjkdkgolmgdaaGreat
open Go.RowKit
set_option linter.unusedVariables false

theorem mfI_row {top left h wd : Int} (h1 : ¬ (0 ≤ top ∧ top < 16)) : mfI top left h wd = -1 := by unfold mfI; rw [if_pos (by omega)]
theorem mfI_col {top left h wd : Int} (h1 : 0 ≤ top ∧ top < 16) (h2 : ¬ (0 ≤ left ∧ left < 24)) : mfI top left h wd = -2 := by unfold mfI; rw [if_neg (by omega), if_pos (by omega)]
theorem mfI_h {top left h wd : Int} (h1 : 0 ≤ top ∧ top < 16) (h2 : 0 ≤ left ∧ left < 24) (h3 : ¬ (0 ≤ h ∧ h ≤ 16 - top)) : mfI top left h wd = -3 := by unfold mfI; rw [if_neg (by omega), if_neg (by omega), if_pos (by omega)]
theorem mfI_w {top left h wd : Int} (h1 : 0 ≤ top ∧ top < 16) (h2 : 0 ≤ left ∧ left < 24) (h3 : 0 ≤ h ∧ h ≤ 16 - top) (h4 : ¬ (0 ≤ wd ∧ wd ≤ 24 - left)) : mfI top left h wd = -4 := by unfold mfI; rw [if_neg (by omega), if_neg (by omega), if_neg (by omega), if_pos (by omega)]
set_option maxRecDepth 100000 in
set_option maxHeartbeats 1000000 in
theorem ilMeets_check (top left h wd i : Int) (w : World) (hk : (¬ (0 ≤ top ∧ top < 16) ∧ i = -1) ∨ ((0 ≤ top ∧ top < 16) ∧ ¬ (0 ≤ left ∧ left < 24) ∧ i = -2)) :
    Calls Tryz.prog 42 #[.int .i64 top, .int .i64 left, .int .i64 h, .int .i64 wd] w fun e w' =>
      e = .returned (.tuple #[.slice none 0 0, .agg #[.int .i64 4, .int .i64 i]]) ∧ Below w.heap.size w w' := by
  go_enter Tryz.func42, Tryz.ntmps42
  go_wp2_with fail
  refine (ilCheck_bad _ _ _ _ hk).mono ?_; rintro e w1 ⟨rfl, hb1⟩
  have F0 := (Has.new w 0 0 _).below hb1
  obtain ⟨l0, c00, c01, f00, f01⟩ := id F0
  go_wp2
  go_region
  go_wp2
  exact bodyPost_ret (resF2 rfl rfl (Has.drew ((F0.set2 4 i).al _))) rfl ⟨rfl, Bw.drew (Bw.al (Bw.set (Bw.set (Bw.step (below_new _ _) hb1) (Nat.le_refl _) _) (Nat.le_refl _) _) _)⟩
set_option maxRecDepth 100000 in
set_option maxHeartbeats 1000000 in
theorem ilMeets_height (top left h wd : Int) (w : World) (h1 : 0 ≤ top ∧ top < 16) (h2 : 0 ≤ left ∧ left < 24) (h3 : ¬ (0 ≤ h ∧ h ≤ 16 - top)) :
    Calls Tryz.prog 42 #[.int .i64 top, .int .i64 left, .int .i64 h, .int .i64 wd] w fun e w' =>
      e = .returned (.tuple #[.slice none 0 0, .agg #[.int .i64 4, .int .i64 (-3)]]) ∧ Below w.heap.size w w' := by
  by_cases hn : h < 0
  · have d1 : decide (h < 0) = true := by simpa using hn
    go_enter Tryz.func42, Tryz.ntmps42
    go_wp2_with fail
    refine (ilCheck_ok _ _ _ h1 h2).mono ?_; rintro e w1 ⟨rfl, hb1⟩
    have F0 := (Has.new w 0 0 _).below hb1
    obtain ⟨l0, c00, c01, f00, f01⟩ := id F0
    go_wp2_with (go_at_call 32; refine (ilFault_any _ _ _).mono ?_; rintro e w' ⟨rfl, rfl⟩)
    exact bodyPost_ret (resF2 rfl rfl (((F0.set2 4 (-3)).al _).al _)) rfl ⟨rfl, Bw.al (Bw.al (Bw.set (Bw.set (Bw.step (below_new _ _) hb1) (Nat.le_refl _) _) (Nat.le_refl _) _) _) _⟩
  · have d1 : decide (h < 0) = false := by simpa using hn
    have d2 : 16 - top < h := by omega
    go_enter Tryz.func42, Tryz.ntmps42
    go_wp2_with fail
    refine (ilCheck_ok _ _ _ h1 h2).mono ?_; rintro e w1 ⟨rfl, hb1⟩
    have F0 := (Has.new w 0 0 _).below hb1
    obtain ⟨l0, c00, c01, f00, f01⟩ := id F0
    go_wp2_with (go_at_call 32; refine (ilFault_any _ _ _).mono ?_; rintro e w' ⟨rfl, rfl⟩)
    exact bodyPost_ret (resF2 rfl rfl (((F0.set2 4 (-3)).al _).al _)) rfl ⟨rfl, Bw.al (Bw.al (Bw.set (Bw.set (Bw.step (below_new _ _) hb1) (Nat.le_refl _) _) (Nat.le_refl _) _) _) _⟩
set_option maxRecDepth 100000 in
set_option maxHeartbeats 1000000 in
theorem ilMeets_width (top left h wd : Int) (w : World) (h1 : 0 ≤ top ∧ top < 16) (h2 : 0 ≤ left ∧ left < 24) (h3 : 0 ≤ h ∧ h ≤ 16 - top) (h4 : ¬ (0 ≤ wd ∧ wd ≤ 24 - left)) :
    Calls Tryz.prog 42 #[.int .i64 top, .int .i64 left, .int .i64 h, .int .i64 wd] w fun e w' =>
      e = .returned (.tuple #[.slice none 0 0, .agg #[.int .i64 4, .int .i64 (-4)]]) ∧ Below w.heap.size w w' := by
  have d0 : decide (h < 0) = false := by simp; omega
  have d3 : decide (16 - top < h) = false := by simp; omega
  by_cases hn : wd < 0
  · have d1 : decide (wd < 0) = true := by simpa using hn
    go_enter Tryz.func42, Tryz.ntmps42
    go_wp2_with fail
    refine (ilCheck_ok _ _ _ h1 h2).mono ?_; rintro e w1 ⟨rfl, hb1⟩
    have F0 := (Has.new w 0 0 _).below hb1
    obtain ⟨l0, c00, c01, f00, f01⟩ := id F0
    go_wp2_with (go_at_call 32; refine (ilFault_any _ _ _).mono ?_; rintro e w' ⟨rfl, rfl⟩)
    exact bodyPost_ret (resF2 rfl rfl (((F0.set2 4 (-4)).al _).al _)) rfl ⟨rfl, Bw.al (Bw.al (Bw.set (Bw.set (Bw.step (below_new _ _) hb1) (Nat.le_refl _) _) (Nat.le_refl _) _) _) _⟩
  · have d1 : decide (wd < 0) = false := by simpa using hn
    have d2 : 24 - left < wd := by omega
    go_enter Tryz.func42, Tryz.ntmps42
    go_wp2_with fail
    refine (ilCheck_ok _ _ _ h1 h2).mono ?_; rintro e w1 ⟨rfl, hb1⟩
    have F0 := (Has.new w 0 0 _).below hb1
    obtain ⟨l0, c00, c01, f00, f01⟩ := id F0
    go_wp2_with (go_at_call 32; refine (ilFault_any _ _ _).mono ?_; rintro e w' ⟨rfl, rfl⟩)
    exact bodyPost_ret (resF2 rfl rfl (((F0.set2 4 (-4)).al _).al _)) rfl ⟨rfl, Bw.al (Bw.al (Bw.set (Bw.set (Bw.step (below_new _ _) hb1) (Nat.le_refl _) _) (Nat.le_refl _) _) _) _⟩
theorem ilMeets_bad (top left h wd : Int) (w : World) (hk : ¬ ((0 ≤ top ∧ top ≤ 15) ∧ (0 ≤ left ∧ left ≤ 23) ∧ (0 ≤ h ∧ h ≤ 16 - top) ∧ (0 ≤ wd ∧ wd ≤ 24 - left))) :
    Calls Tryz.prog 42 #[.int .i64 top, .int .i64 left, .int .i64 h, .int .i64 wd] w fun e w' =>
      e = .returned (.tuple #[.slice none 0 0, .agg #[.int .i64 4, .int .i64 (mfI top left h wd)]]) ∧ Below w.heap.size w w' := by
  by_cases h1 : 0 ≤ top ∧ top < 16
  · by_cases h2 : 0 ≤ left ∧ left < 24
    · by_cases h3 : 0 ≤ h ∧ h ≤ 16 - top
      · have h4 : ¬ (0 ≤ wd ∧ wd ≤ 24 - left) := fun h4 => hk ⟨by omega, by omega, h3, h4⟩
        rw [mfI_w h1 h2 h3 h4]; exact ilMeets_width top left h wd w h1 h2 h3 h4
      · rw [mfI_h h1 h2 h3]; exact ilMeets_height top left h wd w h1 h2 h3
    · rw [mfI_col h1 h2]; exact ilMeets_check top left h wd _ w (.inr ⟨h1, h2, rfl⟩)
  · rw [mfI_row h1]; exact ilMeets_check top left h wd _ w (.inl ⟨h1, rfl⟩)

end Go.Proofs.YtmpjkdkgolmgdaaGreat
/- Where the bytes of a code block stand on a page: the places as a permutation of 384 numbers. -/
namespace Go.Proofs.YtmpjkdkgolmgdaaGreat
set_option linter.unusedVariables false

/-- The place of a byte, and the byte of a place. -/
def ilPlc (i : Nat) : Nat := 24 * ((i / 24 + 11 * (i % 24)) % 16) + i % 24
def ilSrc (j : Nat) : Nat := 24 * ((j / 24 + 5 * (j % 24)) % 16) + j % 24
theorem ilPlc_lt {i : Nat} (h : i < 384) : ilPlc i < 384 := by unfold ilPlc; omega
theorem ilSrc_lt {i : Nat} (h : i < 384) : ilSrc i < 384 := by unfold ilSrc; omega
theorem ilSrc_plc {i : Nat} (h : i < 384) : ilSrc (ilPlc i) = i := by
  have a : ∀ i : Fin 384, ilSrc (ilPlc i.val) = i.val := by decide +kernel
  exact a ⟨i, h⟩
theorem ilPlc_src {i : Nat} (h : i < 384) : ilPlc (ilSrc i) = i := by
  have a : ∀ i : Fin 384, ilPlc (ilSrc i.val) = i.val := by decide +kernel
  exact a ⟨i, h⟩
theorem ilPlc_eq (i : Nat) (h : i < 384) : ilL ((i : Int) / 24) ((i : Int) % 24) * 24 + (i : Int) % 24 = (ilPlc i : Nat) := by
  unfold ilPlc ilL; omega
theorem ilSrc_eq (i : Nat) (h : i < 384) : (((i : Int) / 24) + 5 * ((i : Int) % 24)) % 16 * 24 + (i : Int) % 24 = (ilSrc i : Nat) := by
  unfold ilSrc; omega
/-- What Spread and Gather return, and what they have made after k bytes. -/
def spreadL (l : List GF) : List GF := (List.range 384).map fun j => l.getD (ilSrc j) 0
def gatherL (l : List GF) : List GF := (List.range 384).map fun j => l.getD (ilPlc j) 0
def spMid (l : List GF) (k : Nat) : List GF := (List.range 384).map fun j => if ilSrc j < k then l.getD (ilSrc j) 0 else 0
def gaMid (l : List GF) (k : Nat) : List GF := (List.range 384).map fun j => if ilPlc j < k then l.getD (ilPlc j) 0 else 0
theorem map_set_rangeG {f g : Nat → GF} {n i : Nat} (hi : i < n) (h : ∀ k, k < n → g k = if k = i then g i else f k) : ((List.range n).map f).set i (g i) = (List.range n).map g := by
  apply List.ext_getElem
  · simp
  · intro k h1 h2
    simp only [List.getElem_set, List.getElem_map, List.getElem_range]
    have hk : k < n := by simpa using h2
    rw [h k hk]
    by_cases e : i = k
    · subst e; simp
    · rw [if_neg e, if_neg (fun x => e x.symm)]
theorem spMid_zero (l : List GF) : spMid l 0 = List.replicate 384 0 :=
  List.eq_replicate_iff.2 ⟨by simp [spMid], fun b hb => by unfold spMid at hb; obtain ⟨k, _, rfl⟩ := List.mem_map.1 hb; simp⟩
theorem gaMid_zero (l : List GF) : gaMid l 0 = List.replicate 384 0 :=
  List.eq_replicate_iff.2 ⟨by simp [gaMid], fun b hb => by unfold gaMid at hb; obtain ⟨k, _, rfl⟩ := List.mem_map.1 hb; simp⟩
theorem spMid_end (l : List GF) : spMid l 384 = spreadL l := by
  unfold spMid spreadL
  apply List.map_congr_left
  intro k hk
  rw [if_pos (ilSrc_lt (List.mem_range.1 hk))]
theorem gaMid_end (l : List GF) : gaMid l 384 = gatherL l := by
  unfold gaMid gatherL
  apply List.map_congr_left
  intro k hk
  rw [if_pos (ilPlc_lt (List.mem_range.1 hk))]
theorem spMid_step (l : List GF) {k : Nat} (hk : k < 384) : (spMid l k).set (ilPlc k) (l.getD k 0) = spMid l (k + 1) := by
  have e : l.getD k 0 = (fun j => if ilSrc j < k + 1 then l.getD (ilSrc j) 0 else 0) (ilPlc k) := by simp only [ilSrc_plc hk]; rw [if_pos (by omega)]
  rw [e]
  unfold spMid
  refine map_set_rangeG (g := fun j => if ilSrc j < k + 1 then l.getD (ilSrc j) 0 else 0) (ilPlc_lt hk) (fun j hj => ?_)
  by_cases h : j = ilPlc k
  · subst h; simp
  · rw [if_neg h]
    have hne : ilSrc j ≠ k := fun hh => h (by rw [← hh, ilPlc_src hj])
    by_cases h2 : ilSrc j < k
    · rw [if_pos h2, if_pos (by omega)]
    · rw [if_neg h2, if_neg (by omega)]
theorem gaMid_step (l : List GF) {k : Nat} (hk : k < 384) : (gaMid l k).set (ilSrc k) (l.getD k 0) = gaMid l (k + 1) := by
  have e : l.getD k 0 = (fun j => if ilPlc j < k + 1 then l.getD (ilPlc j) 0 else 0) (ilSrc k) := by simp only [ilPlc_src hk]; rw [if_pos (by omega)]
  rw [e]
  unfold gaMid
  refine map_set_rangeG (g := fun j => if ilPlc j < k + 1 then l.getD (ilPlc j) 0 else 0) (ilSrc_lt hk) (fun j hj => ?_)
  by_cases h : j = ilSrc k
  · subst h; simp
  · rw [if_neg h]
    have hne : ilPlc j ≠ k := fun hh => h (by rw [← hh, ilSrc_plc hj])
    by_cases h2 : ilPlc j < k
    · rw [if_pos h2, if_pos (by omega)]
    · rw [if_neg h2, if_neg (by omega)]
theorem spreadL_len (l : List GF) : (spreadL l).length = 384 := by simp [spreadL]
theorem gatherL_len (l : List GF) : (gatherL l).length = 384 := by simp [gatherL]
theorem spMid_len (l : List GF) (k : Nat) : (spMid l k).length = 384 := by simp [spMid]
theorem gaMid_len (l : List GF) (k : Nat) : (gaMid l k).length = 384 := by simp [gaMid]
theorem list_of_getD {a b : List GF} {n : Nat} (ha : a.length = n) (hb : b.length = n) (h : ∀ i, i < n → a.getD i 0 = b.getD i 0) : a = b := by
  apply List.ext_getElem (by rw [ha, hb])
  intro i h1 h2
  have := h i (by omega)
  simpa [List.getD, List.getElem?_eq_getElem h1, List.getElem?_eq_getElem h2] using this
theorem spreadL_get (l : List GF) {j : Nat} (hj : j < 384) : (spreadL l).getD j 0 = l.getD (ilSrc j) 0 := by simp [spreadL, List.getD, hj]
theorem gatherL_get (l : List GF) {j : Nat} (hj : j < 384) : (gatherL l).getD j 0 = l.getD (ilPlc j) 0 := by simp [gatherL, List.getD, hj]
theorem gather_spread {l : List GF} (h : l.length = 384) : gatherL (spreadL l) = l :=
  list_of_getD (gatherL_len _) h fun i hi => by rw [gatherL_get _ hi, spreadL_get _ (ilPlc_lt hi), ilSrc_plc hi]
theorem spread_gather {l : List GF} (h : l.length = 384) : spreadL (gatherL l) = l :=
  list_of_getD (spreadL_len _) h fun i hi => by rw [spreadL_get _ hi, gatherL_get _ (ilSrc_lt hi), ilPlc_src hi]
end Go.Proofs.YtmpjkdkgolmgdaaGreat
/- Walks of Spread and Gather, and of the reference's Laid. -/
namespace Go.Proofs.YtmpjkdkgolmgdaaGreat
open Go.RowKit
set_option linter.unusedVariables false

/-- What the loops hold: a slice of the call's own, the result's block, and the argument as it was. -/
def SpRel (w wr : World) (g : Nat) (l : List GF) : Prop := OwB wr w.heap.size (.slice (some ⟨g, 0, none⟩) 384 384) l ∧ Has wr w.heap.size 0 0 ∧ Below w.heap.size w wr ∧ g ≠ w.heap.size
theorem SpRel.set {w wr : World} {g : Nat} {l l' : List GF} (h : SpRel w wr g l) (i : Nat) (x : GF) (hl : l.set i x = l') : SpRel w (wr.setCell ⟨g, i, none⟩ (.int .u8 x.z)) g l' := by
  obtain ⟨h1, h2, h3, h4⟩ := h
  exact ⟨hl ▸ h1.set i x, h2.set (by exact h4) _, Bw.set h3 h1.lt.1 _, h4⟩

set_option maxRecDepth 100000 in
set_option maxHeartbeats 1000000 in
theorem ilSpread_bad (A : Option Addr) (n c : Nat) (w : World) (hn : n ≠ 384) :
    Calls Tryz.prog 11 #[.slice A n c] w fun e w' => e = .returned (.tuple #[.slice none 0 0, .agg #[.int .i64 9, .int .i64 (-1)]]) ∧ Below w.heap.size w w' := by
  have h1 : ((n : Int) != 384) = true := by rw [bne_iff_ne]; omega
  clear hn
  go_enter Tryz.func11, Tryz.ntmps11
  go_wp2_with (go_at_call 32; refine (ilFault_any _ _ _).mono ?_; rintro e w' ⟨rfl, rfl⟩)
  exact bodyPost_ret (v := .tuple #[.slice none 0 0, .agg #[.int .i64 9, .int .i64 (-1)]]) (by simp [results, Tryz.results11, go_sem]) rfl ⟨rfl, below_new2 _ _ _⟩
set_option maxRecDepth 100000 in
set_option maxHeartbeats 1000000 in
theorem ilGather_bad (A : Option Addr) (n c : Nat) (w : World) (hn : n ≠ 384) :
    Calls Tryz.prog 12 #[.slice A n c] w fun e w' => e = .returned (.tuple #[.slice none 0 0, .agg #[.int .i64 9, .int .i64 (-1)]]) ∧ Below w.heap.size w w' := by
  have h1 : ((n : Int) != 384) = true := by rw [bne_iff_ne]; omega
  clear hn
  go_enter Tryz.func12, Tryz.ntmps12
  go_wp2_with (go_at_call 32; refine (ilFault_any _ _ _).mono ?_; rintro e w' ⟨rfl, rfl⟩)
  exact bodyPost_ret (v := .tuple #[.slice none 0 0, .agg #[.int .i64 9, .int .i64 (-1)]]) (by simp [results, Tryz.results12, go_sem]) rfl ⟨rfl, below_new2 _ _ _⟩

set_option maxRecDepth 100000 in
set_option maxHeartbeats 1000000 in
theorem ilSpread_ok (A : Option Addr) (c : Nat) (l : List GF) (w : World) (hl : RdB w A 384 l) :
    Calls Tryz.prog 11 #[.slice A 384 c] w fun e w' =>
      ∃ g, e = .returned (.tuple #[.slice (some ⟨g, 0, none⟩) 384 384, .agg #[.int .i64 0, .int .i64 0]]) ∧ OwB w' w.heap.size (.slice (some ⟨g, 0, none⟩) 384 384) (spreadL l) ∧ Below w.heap.size w w' := by
  have hmk : ∀ w : World, (Instr.makeSlice 24 (.int .i64 384) (.int .i64 384)).run Tryz.prog w = .ok (.slice (some ⟨w.heap.size, 0, none⟩) 384 384) (w.alloc (.cells (zerosB 384) 5)) := run_makeB 384 (by omega)
  have M0 : SpRel w ((w.alloc (.cells #[.int .i64 0, .int .i64 0] 27)).alloc (.cells (zerosB 384) 5)) (w.heap.size + 1) (spMid l 0) := by
    have ho := OwB.new (w.alloc (.cells #[.int .i64 0, .int .i64 0] 27)) w.heap.size 384 (by simp only [World.size_alloc]; omega) (by unfold maxLen; omega)
    rw [World.size_alloc] at ho
    rw [spMid_zero]
    exact ⟨ho, (Has.new w 0 0 _).al _, below_new2 _ _ _, by omega⟩
  have HM := Lib.hid M0
  obtain ⟨ba, oa, rfl, hlt, hca⟩ := hl.2 (by omega)
  have HC := Lib.hid hca
  have HL := Lib.hid hl.1
  clear M0 hca hl
  go_enter Tryz.func11, Tryz.ntmps11
  go_wp2
  generalize (w.alloc (.cells #[.int .i64 0, .int .i64 0] 27)).alloc (.cells (zerosB 384) 5) = W at *
  generalize w.heap.size + 1 = g at *
  clear hmk
  go_loopw [17] (fun i wr => ∃ k : Nat, k ≤ 384 ∧ i = .int .i64 k ∧ SpRel w wr g (spMid l k)) (fun i _ => 384 - (intOf i).toNat)
  case atStart => exact ⟨0, by omega, rfl, HM.out⟩
  case round =>
    obtain ⟨k, hk, rfl, M⟩ := hrel
    by_cases hlk : k < 384
    · have hst := M.set (ilPlc k) (l.getD k 0) (spMid_step l hlk)
      have hp := ilPlc_lt hlk
      have hcl := M.1.cellAt (i := ilPlc k) hp
      have hfz := M.1.frozenAt (ilPlc k)
      have hx := (M.2.2.1.cell (p := ⟨ba, oa + k, none⟩) hlt).trans (HC.out k hlk)
      have hpe := ilPlc_eq k hlk
      have hrb : 0 ≤ (k : Int) / 24 ∧ (k : Int) / 24 < 16 := by omega
      have hcb : 0 ≤ (k : Int) % 24 ∧ (k : Int) % 24 < 24 := by omega
      have hlb := ilL_bd ((k : Int) / 24) ((k : Int) % 24)
      have HST := Lib.hid hst
      have hv : ∃ v, (spMid l k).getD (ilPlc k) 0 = v := ⟨_, rfl⟩
      obtain ⟨v, hv⟩ := hv
      rw [hv] at hcl
      generalize l.getD k 0 = x at *
      generalize ilPlc k = p at *
      clear hst hv M
      go_wp2_with (go_at_call 33; refine (ilLine_any _ _ _ hrb hcb).mono ?_; rintro e w' ⟨rfl, rfl⟩)
      go_roundw
      case rel => exact ⟨k + 1, by omega, by go_num, HST.out⟩
      case measure => simp [intOf]; omega
    · have : k = 384 := by omega
      subst this
      rw [spMid_end] at M
      obtain ⟨M1, M2, M3, M4⟩ := M
      obtain ⟨l0, c00, c01, f00, f01⟩ := id M2
      go_wp2
      refine bodyPost_ret (resF2 rfl rfl (M2.set2 0 0)) rfl ⟨g, rfl, ?_, Bw.set (Bw.set M3 (Nat.le_refl _) _) (Nat.le_refl _) _⟩
      exact (M1.far (by simpa using Ne.symm M4) _).far (by simpa using Ne.symm M4) _
set_option maxRecDepth 100000 in
set_option maxHeartbeats 1000000 in
theorem ilGather_ok (A : Option Addr) (c : Nat) (l : List GF) (w : World) (hl : RdB w A 384 l) :
    Calls Tryz.prog 12 #[.slice A 384 c] w fun e w' =>
      ∃ g, e = .returned (.tuple #[.slice (some ⟨g, 0, none⟩) 384 384, .agg #[.int .i64 0, .int .i64 0]]) ∧ OwB w' w.heap.size (.slice (some ⟨g, 0, none⟩) 384 384) (gatherL l) ∧ Below w.heap.size w w' := by
  have hmk : ∀ w : World, (Instr.makeSlice 24 (.int .i64 384) (.int .i64 384)).run Tryz.prog w = .ok (.slice (some ⟨w.heap.size, 0, none⟩) 384 384) (w.alloc (.cells (zerosB 384) 5)) := run_makeB 384 (by omega)
  have M0 : SpRel w ((w.alloc (.cells #[.int .i64 0, .int .i64 0] 27)).alloc (.cells (zerosB 384) 5)) (w.heap.size + 1) (gaMid l 0) := by
    have ho := OwB.new (w.alloc (.cells #[.int .i64 0, .int .i64 0] 27)) w.heap.size 384 (by simp only [World.size_alloc]; omega) (by unfold maxLen; omega)
    rw [World.size_alloc] at ho
    rw [gaMid_zero]
    exact ⟨ho, (Has.new w 0 0 _).al _, below_new2 _ _ _, by omega⟩
  have HM := Lib.hid M0
  obtain ⟨ba, oa, rfl, hlt, hca⟩ := hl.2 (by omega)
  have HC := Lib.hid hca
  have HL := Lib.hid hl.1
  clear M0 hca hl
  go_enter Tryz.func12, Tryz.ntmps12
  go_wp2
  generalize (w.alloc (.cells #[.int .i64 0, .int .i64 0] 27)).alloc (.cells (zerosB 384) 5) = W at *
  generalize w.heap.size + 1 = g at *
  clear hmk
  go_loopw [17] (fun i wr => ∃ k : Nat, k ≤ 384 ∧ i = .int .i64 k ∧ SpRel w wr g (gaMid l k)) (fun i _ => 384 - (intOf i).toNat)
  case atStart => exact ⟨0, by omega, rfl, HM.out⟩
  case round =>
    obtain ⟨k, hk, rfl, M⟩ := hrel
    by_cases hlk : k < 384
    · have hst := M.set (ilSrc k) (l.getD k 0) (gaMid_step l hlk)
      have hp := ilSrc_lt hlk
      have hcl := M.1.cellAt (i := ilSrc k) hp
      have hfz := M.1.frozenAt (ilSrc k)
      have hx := (M.2.2.1.cell (p := ⟨ba, oa + k, none⟩) hlt).trans (HC.out k hlk)
      have hpe := ilSrc_eq k hlk
      have hrb : 0 ≤ (k : Int) / 24 ∧ (k : Int) / 24 < 16 := by omega
      have hcb : 0 ≤ (k : Int) % 24 ∧ (k : Int) % 24 < 24 := by omega
      have hlb : 0 ≤ ((k : Int) / 24 + 5 * ((k : Int) % 24)) % 16 ∧ ((k : Int) / 24 + 5 * ((k : Int) % 24)) % 16 < 16 := by omega
      have HST := Lib.hid hst
      have hv : ∃ v, (gaMid l k).getD (ilSrc k) 0 = v := ⟨_, rfl⟩
      obtain ⟨v, hv⟩ := hv
      rw [hv] at hcl
      generalize l.getD k 0 = x at *
      generalize ilSrc k = p at *
      clear hst hv M
      go_wp2_with (go_at_call 34; refine (ilRow_any _ _ _ (by omega) (by omega)).mono ?_; rintro e w' ⟨rfl, rfl⟩)
      go_roundw
      case rel => exact ⟨k + 1, by omega, by go_num, HST.out⟩
      case measure => simp [intOf]; omega
    · have : k = 384 := by omega
      subst this
      rw [gaMid_end] at M
      obtain ⟨M1, M2, M3, M4⟩ := M
      obtain ⟨l0, c00, c01, f00, f01⟩ := id M2
      go_wp2
      refine bodyPost_ret (resF2 rfl rfl (M2.set2 0 0)) rfl ⟨g, rfl, ?_, Bw.set (Bw.set M3 (Nat.le_refl _) _) (Nat.le_refl _) _⟩
      exact (M1.far (by simpa using Ne.symm M4) _).far (by simpa using Ne.symm M4) _

def LaRel (w wr : World) (g : Nat) (l : List GF) : Prop := OwB wr w.heap.size (.slice (some ⟨g, 0, none⟩) 384 384) l ∧ Below w.heap.size w wr
theorem LaRel.set {w wr : World} {g : Nat} {l l' : List GF} (h : LaRel w wr g l) (i : Nat) (x : GF) (hl : l.set i x = l') : LaRel w (wr.setCell ⟨g, i, none⟩ (.int .u8 x.z)) g l' :=
  ⟨hl ▸ h.1.set i x, Bw.set h.2 h.1.lt.1 _⟩
theorem LaRel.drew {w wr : World} {g : Nat} {l : List GF} (h : LaRel w wr g l) : LaRel w wr.drew g l := ⟨h.1, Bw.drew h.2⟩
end Go.Proofs.YtmpjkdkgolmgdaaGreat
/- The walks of the statements InterleaveSpreadMatchesSpec and InterleaveGatherUndoesSpread. -/
namespace Go.Proofs.YtmpjkdkgolmgdaaGreat
open Go.RowKit
set_option linter.unusedVariables false

end Go.Proofs.YtmpjkdkgolmgdaaGreat
