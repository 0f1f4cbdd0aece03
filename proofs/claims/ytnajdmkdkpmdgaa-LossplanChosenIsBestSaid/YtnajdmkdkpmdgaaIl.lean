/- The places of the bytes of a code block on a page: plain laws of lines and rows. -/
namespace Go.Proofs.Ytnajdmkdkpmdgaa
set_option linter.unusedVariables false

/-- The line of a row and a column; how many columns of a rectangle have a row's line among some lines. -/
def ilL (r c : Int) : Int := (r - 5 * c) % 16
def ilCnt (lo hi r left : Int) : Nat → Int
  | 0 => 0
  | c + 1 => ilCnt lo hi r left c + if lo ≤ ilL r (left + c) ∧ ilL r (left + c) < hi then 1 else 0
theorem ilL_bd (r c : Int) : 0 ≤ ilL r c ∧ ilL r c < 16 := by unfold ilL; omega
theorem ilL_iff {r c k : Int} (hr : 0 ≤ r ∧ r < 16) (hk : 0 ≤ k ∧ k < 16) : (k + 5 * c) % 16 = r ↔ ilL r c = k := by unfold ilL; omega
theorem ilCnt_nil (lo r left : Int) (c : Nat) : ilCnt lo lo r left c = 0 := by
  induction c with
  | zero => rfl
  | succ c ih => rw [ilCnt, ih, if_neg (by omega)]; rfl
theorem ilCnt_add (lo mid hi r left : Int) (h1 : lo ≤ mid) (h2 : mid ≤ hi) (c : Nat) : ilCnt lo mid r left c + ilCnt mid hi r left c = ilCnt lo hi r left c := by
  induction c with
  | zero => rfl
  | succ c ih =>
    simp only [ilCnt]
    rw [← ih]
    split <;> split <;> split <;> omega
theorem ilCnt_split (lo hi r left : Int) (a b : Nat) : ilCnt lo hi r left (a + b) = ilCnt lo hi r left a + ilCnt lo hi r (left + a) b := by
  induction b with
  | zero => simp [ilCnt]
  | succ b ih =>
    rw [← Nat.add_assoc, ilCnt, ih, ilCnt]
    have e : left + ((a + b : Nat) : Int) = left + a + b := by omega
    rw [e]; omega
theorem ilCnt_bd (lo hi r left : Int) (c : Nat) : 0 ≤ ilCnt lo hi r left c ∧ ilCnt lo hi r left c ≤ c := by
  induction c with
  | zero => simp [ilCnt]
  | succ c ih => simp only [ilCnt]; split <;> omega
/-- The numbers that Meets returns. -/
def ilM (top left h : Int) (w : Nat) (r : Nat) : Int := ilCnt top (top + h) r left w
def ilMeets (top left h : Int) (w : Nat) : List Int := (List.range 16).map (ilM top left h w)
theorem ilMeets_len (top left h : Int) (w : Nat) : (ilMeets top left h w).length = 16 := by simp [ilMeets]
theorem ilMeets_get (top left h : Int) (w : Nat) {r : Nat} (hr : r < 16) : (ilMeets top left h w).getD r 0 = ilM top left h w r := by
  simp [ilMeets, List.getD, hr]
/-- .. in the middle of the loops: r lines are done, and c columns of the next one. -/
def ilMid (top left r : Int) (w c : Nat) : List Int := (List.range 16).map fun (k : Nat) => ilCnt top (top + r) k left w + ilCnt (top + r) (top + r + 1) k left c
theorem ilMid_len (top left r : Int) (w c : Nat) : (ilMid top left r w c).length = 16 := by simp [ilMid]
theorem ilMid_get (top left r : Int) (w c : Nat) {k : Nat} (hk : k < 16) : (ilMid top left r w c).getD k 0 = ilCnt top (top + r) k left w + ilCnt (top + r) (top + r + 1) k left c := by
  simp [ilMid, List.getD, hk]
theorem map_set_range {f g : Nat → Int} {n i : Nat} (hi : i < n) (h : ∀ k, k < n → g k = if k = i then g i else f k) : ((List.range n).map f).set i (g i) = (List.range n).map g := by
  apply List.ext_getElem
  · simp
  · intro k h1 h2
    simp only [List.getElem_set, List.getElem_map, List.getElem_range]
    have hk : k < n := by simpa using h2
    rw [h k hk]
    by_cases e : i = k
    · subst e; simp
    · rw [if_neg e, if_neg (fun x => e x.symm)]
theorem ilMid_step (top left r : Int) (w c : Nat) (ht : 0 ≤ top) (hr : 0 ≤ r) (hlt : top + r < 16) (i : Nat) (hi : (i : Int) = (top + r + 5 * (left + c)) % 16) :
    (ilMid top left r w c).set i ((ilMid top left r w c).getD i 0 + 1) = ilMid top left r w (c + 1) := by
  have hi16 : i < 16 := by omega
  rw [ilMid_get _ _ _ _ _ hi16]
  have key : ∀ k : Nat, k < 16 → (ilCnt (top + r) (top + r + 1) k left (c + 1) = ilCnt (top + r) (top + r + 1) k left c + if k = i then 1 else 0) := by
    intro k hk
    simp only [ilCnt]
    congr 1
    have h := ilL_iff (r := k) (c := left + c) (k := top + r) ⟨by omega, by omega⟩ ⟨by omega, hlt⟩
    by_cases e : k = i
    · subst e
      have h2 := h.1 hi.symm
      rw [if_pos rfl, if_pos (by omega)]
    · rw [if_neg e]
      by_cases h3 : ilL k (left + c) = top + r
      · have := h.2 h3; omega
      · rw [if_neg (by omega)]
  have e1 : ilCnt top (top + r) i left w + ilCnt (top + r) (top + r + 1) i left c + 1 = ilCnt top (top + r) i left w + ilCnt (top + r) (top + r + 1) i left (c + 1) := by
    rw [key i hi16, if_pos rfl]; omega
  rw [e1]
  unfold ilMid
  refine map_set_range (g := fun (k : Nat) => ilCnt top (top + r) k left w + ilCnt (top + r) (top + r + 1) k left (c + 1)) hi16 (fun k hk => ?_)
  rw [key k hk]
  by_cases e : k = i
  · subst e; simp [key k hk]
  · rw [if_neg e, if_neg e]; omega
theorem ilMid_zero (top left : Int) (w : Nat) : ilMid top left 0 w 0 = List.replicate 16 0 := by
  refine List.eq_replicate_iff.2 ⟨by simp [ilMid], fun b hb => ?_⟩
  unfold ilMid at hb
  obtain ⟨k, _, rfl⟩ := List.mem_map.1 hb
  simp [ilCnt, ilCnt_nil]
theorem ilMid_row (top left r : Int) (w : Nat) (hr : 0 ≤ r) : ilMid top left r w w = ilMid top left (r + 1) w 0 := by
  unfold ilMid
  apply List.map_congr_left
  intro k _
  rw [ilCnt_add _ _ _ _ _ (by omega) (by omega)]
  simp [ilCnt, Int.add_assoc]
theorem ilMid_end (top left h : Int) (w : Nat) : ilMid top left h w 0 = ilMeets top left h w := by
  unfold ilMid ilMeets ilM
  apply List.map_congr_left
  intro k _
  simp [ilCnt]

/-- A small rectangle meets every row at most once. -/
theorem ilM_small (top left h : Int) (w r : Nat) (hh : h ≤ 5) (hw : w ≤ 3) (ht : 0 ≤ top) (h0 : 0 ≤ h) (h16 : top + h ≤ 16) : ilM top left h w r ≤ 1 := by
  unfold ilM
  have e0 : ∀ a b : Int, ilCnt a b r left 0 = 0 := fun _ _ => rfl
  have e1 : ∀ (a b : Int) (c : Nat), ilCnt a b r left (c + 1) = ilCnt a b r left c + if a ≤ ilL r (left + c) ∧ ilL r (left + c) < b then 1 else 0 := fun _ _ _ => rfl
  have l0 := ilL_bd r left
  have s1 : ilL r (left + 1) = (ilL r left + 11) % 16 := by unfold ilL; omega
  have s2 : ilL r (left + 2) = (ilL r left + 6) % 16 := by unfold ilL; omega
  rcases (show w = 0 ∨ w = 1 ∨ w = 2 ∨ w = 3 by omega) with rfl | rfl | rfl | rfl
  · rw [e0]; omega
  · rw [e1, e0]; split <;> omega
  · rw [e1, e1, e0]
    simp only [Int.natCast_zero, Int.add_zero, Int.natCast_one] at *
    generalize ilL r (left + 1) = y1 at *
    generalize ilL r left = y0 at *
    split <;> split <;> omega
  · rw [e1, e1, e1, e0]
    simp only [Int.natCast_zero, Int.add_zero, Int.natCast_one] at *
    have c2 : ((2 : Nat) : Int) = 2 := rfl
    rw [c2]
    generalize ilL r (left + 2) = y2 at *
    generalize ilL r (left + 1) = y1 at *
    generalize ilL r left = y0 at *
    split <;> split <;> split <;> omega
/-- A full line meets every row once or twice. -/
theorem ilM_line (top r : Nat) (ht : top < 16) (hr : r < 16) : 1 ≤ ilM top 0 1 24 r ∧ ilM top 0 1 24 r ≤ 2 := by
  have h : ∀ t : Fin 16, ∀ k : Fin 16, 1 ≤ ilM (t.val : Int) 0 1 24 k.val ∧ ilM (t.val : Int) 0 1 24 k.val ≤ 2 := by decide +kernel
  exact h ⟨top, ht⟩ ⟨r, hr⟩
/-- The sums over the rows. -/
def ilSum (top left h : Int) (w : Nat) : Nat → Int
  | 0 => 0
  | r + 1 => ilSum top left h w r + ilM top left h w r
def ilCol (lo hi c : Int) : Nat → Int
  | 0 => 0
  | r + 1 => ilCol lo hi c r + if lo ≤ ilL r c ∧ ilL r c < hi then 1 else 0
theorem ilSum_succ (top left h : Int) (w : Nat) (r : Nat) : ilSum top left h (w + 1) r = ilSum top left h w r + ilCol top (top + h) (left + w) r := by
  induction r with
  | zero => rfl
  | succ r ih =>
    simp only [ilSum, ilCol]
    rw [ih]
    have : ilM top left h (w + 1) r = ilM top left h w r + if top ≤ ilL r (left + w) ∧ ilL r (left + w) < top + h then 1 else 0 := rfl
    rw [this]; omega
theorem ilL_mod (r c : Int) : ilL r c = ilL r (c % 16) := by unfold ilL; omega
theorem ilCol_mod (lo hi c : Int) (r : Nat) : ilCol lo hi c r = ilCol lo hi (c % 16) r := by
  induction r with
  | zero => rfl
  | succ r ih => simp only [ilCol]; rw [ih, ilL_mod r c]
theorem ilCol_full (top h c : Int) (ht : 0 ≤ top) (hh : 0 ≤ h) (h16 : top + h ≤ 16) : ilCol top (top + h) c 16 = h := by
  have key : ∀ t : Fin 17, ∀ k : Fin 17, ∀ d : Fin 16, t.val + k.val ≤ 16 → ilCol (t.val : Int) ((t.val : Int) + k.val) d.val 16 = k.val := by decide +kernel
  rw [ilCol_mod]
  have h1 := key ⟨top.toNat, by omega⟩ ⟨h.toNat, by omega⟩ ⟨(c % 16).toNat, by omega⟩ (by simp only []; omega)
  simp only [] at h1
  rw [Int.toNat_of_nonneg ht, Int.toNat_of_nonneg hh, Int.toNat_of_nonneg (by omega)] at h1
  exact h1
theorem ilSum_full (top left h : Int) (w : Nat) (ht : 0 ≤ top) (hh : 0 ≤ h) (h16 : top + h ≤ 16) : ilSum top left h w 16 = h * w := by
  induction w with
  | zero =>
    have : ∀ r, ilSum top left h 0 r = 0 := fun r => by
      induction r with
      | zero => rfl
      | succ r ih => simp only [ilSum, ih, ilM, ilCnt]; rfl
    rw [this]; simp
  | succ w ih =>
    rw [ilSum_succ, ih, ilCol_full _ _ _ ht hh h16]
    rw [Int.natCast_add, Int.mul_add]; simp
end Go.Proofs.Ytnajdmkdkpmdgaa
