/- Texts of this proof, laid together: XLpA, XLpB, XLpC, XLpD, XLpE, XLpF. -/
import Derived.Test.YtmpjkdkgolmgdaaGreatMa
import Derived.Test.YtmpjkdkgolmgdaaGreatMh
/- The rows that can have too many wrong bytes, plain: the least sums of k needs (the reference's table) are the sums of the k least ones (the program's sorted list). No program in sight. -/
namespace Go.Proofs.YtmpjkdkgolmgdaaGreat
set_option linter.unusedVariables false

/-- Sums of the first k. -/
def preS (s : List Int) (k : Nat) : Int := (s.take k).sum
theorem preS_zero (s : List Int) : preS s 0 = 0 := by simp [preS]
theorem preS_nil (k : Nat) : preS [] k = 0 := by simp [preS]
theorem preS_cons (x : Int) (s : List Int) (k : Nat) : preS (x :: s) (k + 1) = x + preS s k := by simp [preS]
theorem preS_succ {s : List Int} {k : Nat} (hk : k < s.length) : preS s (k + 1) = preS s k + s.getD k 0 := by
  unfold preS
  rw [List.take_succ_eq_append_getElem hk, List.sum_append]
  simp [hk]
def ins (x : Int) : List Int → List Int
  | [] => [x]
  | y :: s => if x ≤ y then x :: y :: s else y :: ins x s
theorem ins_len (x : Int) (s : List Int) : (ins x s).length = s.length + 1 := by
  induction s with
  | nil => rfl
  | cons y s ih => unfold ins; split; rfl; simp [ih]
def Srt (s : List Int) : Prop := s.Pairwise (· ≤ ·)
theorem mem_ins {x y : Int} {s : List Int} (h : y ∈ ins x s) : y = x ∨ y ∈ s := by
  induction s with
  | nil => simp [ins] at h; exact .inl h
  | cons z s ih =>
    unfold ins at h
    split at h
    · rcases List.mem_cons.1 h with h | h
      · exact .inl h
      · exact .inr h
    · rcases List.mem_cons.1 h with h | h
      · exact .inr (h ▸ List.mem_cons_self ..)
      · rcases ih h with h | h
        · exact .inl h
        · exact .inr (List.mem_cons_of_mem _ h)
theorem ins_srt (x : Int) {s : List Int} (h : Srt s) : Srt (ins x s) := by
  induction s with
  | nil => exact List.pairwise_singleton _ _
  | cons y s ih =>
    have h' := List.pairwise_cons.1 h
    unfold ins
    split
    · rename_i hxy
      refine List.pairwise_cons.2 ⟨fun z hz => ?_, h⟩
      rcases List.mem_cons.1 hz with hz | hz
      · rw [hz]; exact hxy
      · exact Int.le_trans hxy (h'.1 z hz)
    · rename_i hxy
      refine List.pairwise_cons.2 ⟨fun z hz => ?_, ih h'.2⟩
      rcases mem_ins hz with hz | hz
      · rw [hz]; omega
      · exact h'.1 z hz
/-- The k + 1 least of a list with x. -/
theorem preS_ins (x : Int) {s : List Int} (h : Srt s) : ∀ k, k < s.length → preS (ins x s) (k + 1) = min (preS s (k + 1)) (preS s k + x) := by
  induction s with
  | nil => intro k hk; exact absurd hk (Nat.not_lt_zero _)
  | cons y s ih =>
    intro k hk
    have h' := List.pairwise_cons.1 h
    unfold ins
    split
    · rename_i hxy
      rw [preS_cons]
      have hle : x ≤ (y :: s).getD k 0 := by
        cases k with
        | zero => exact hxy
        | succ k =>
          have hk' : k < s.length := by simpa using hk
          have : (y :: s).getD (k + 1) 0 = s[k] := by simp [hk']
          rw [this]
          exact Int.le_trans hxy (h'.1 _ (List.getElem_mem hk'))
      have := preS_succ hk
      omega
    · rename_i hxy
      rw [preS_cons]
      cases k with
      | zero =>
        rw [preS_zero, preS_cons, preS_zero, preS_zero]
        omega
      | succ k =>
        have hk' : k < s.length := by simpa using hk
        rw [ih h'.2 k hk', preS_cons, preS_cons]
        omega
theorem preS_all (x : Int) (s : List Int) : preS (ins x s) (s.length + 1) = preS s s.length + x := by
  induction s with
  | nil => simp [ins, preS]
  | cons y s ih =>
    unfold ins
    split
    · rw [List.length_cons, preS_cons]; omega
    · rw [List.length_cons, preS_cons, ih, preS_cons]; omega
/-- The list sorted, element by element. -/
def isrt (l : List Int) : List Int := l.foldl (fun s x => ins x s) []
theorem isrt_nil : isrt [] = [] := rfl
theorem isrt_snoc (l : List Int) (x : Int) : isrt (l ++ [x]) = ins x (isrt l) := by simp [isrt]
theorem snocI_ind {P : List Int → Prop} (h0 : P []) (h1 : ∀ a x, P a → P (a ++ [x])) : ∀ a, P a := by
  intro a
  have : ∀ b : List Int, P b.reverse := by
    intro b
    induction b with
    | nil => exact h0
    | cons x b ih => rw [List.reverse_cons]; exact h1 _ _ ih
  have h := this a.reverse
  rwa [List.reverse_reverse] at h
theorem isrt_len (l : List Int) : (isrt l).length = l.length := by
  refine snocI_ind (P := fun l => (isrt l).length = l.length) rfl (fun a x ih => ?_) l
  rw [isrt_snoc, ins_len, ih, List.length_append, List.length_singleton]
theorem isrt_srt (l : List Int) : Srt (isrt l) := by
  refine snocI_ind (P := fun l => Srt (isrt l)) List.Pairwise.nil (fun a x ih => ?_) l
  rw [isrt_snoc]; exact ins_srt x ih
theorem ins_perm (x : Int) (s : List Int) : (ins x s).Perm (x :: s) := by
  induction s with
  | nil => exact List.Perm.refl _
  | cons y s ih =>
    unfold ins
    split
    · exact List.Perm.refl _
    · exact (List.Perm.cons y ih).trans (List.Perm.swap x y s)
theorem isrt_perm (l : List Int) : (isrt l).Perm l := by
  refine snocI_ind (P := fun l => (isrt l).Perm l) (List.Perm.refl _) (fun a x ih => ?_) l
  rw [isrt_snoc]
  refine (ins_perm x _).trans ?_
  refine (List.Perm.cons x ih).trans ?_
  exact (List.perm_append_singleton x a).symm
theorem srt_unique : ∀ {a b : List Int}, Srt a → Srt b → a.Perm b → a = b
  | [], b, _, _, h => by rw [List.nil_perm] at h; exact h.symm
  | x :: a, [], _, _, h => by rw [List.perm_nil] at h; exact absurd h (by simp)
  | x :: a, y :: b, ha, hb, h => by
    have ha' := List.pairwise_cons.1 ha
    have hb' := List.pairwise_cons.1 hb
    have h1 : x ≤ y := by
      have : y ∈ x :: a := h.symm.subset (List.mem_cons_self ..)
      rcases List.mem_cons.1 this with e | e
      · rw [e]; exact Int.le_refl _
      · exact ha'.1 y e
    have h2 : y ≤ x := by
      have : x ∈ y :: b := h.subset (List.mem_cons_self ..)
      rcases List.mem_cons.1 this with e | e
      · rw [e]; exact Int.le_refl _
      · exact hb'.1 x e
    obtain rfl : x = y := by omega
    rw [srt_unique ha'.2 hb'.2 ((List.perm_cons x).1 h)]
theorem merge_isrt (l : List Int) : l.mergeSort (fun x y => decide (x ≤ y)) = isrt l := by
  refine srt_unique ?_ (isrt_srt l) ((List.mergeSort_perm l _).trans (isrt_perm l).symm)
  have := List.pairwise_mergeSort (le := fun x y : Int => decide (x ≤ y)) (fun a b c h1 h2 => by simp only [decide_eq_true_eq] at *; omega) (fun a b => by simp only [Bool.or_eq_true, decide_eq_true_eq]; omega) l
  exact this.imp fun h => by simpa using h
/-! ### The reference's table -/
def tab (l : List Int) : List Int := (List.range (l.length + 1)).map (preS (isrt l))
theorem tab_len (l : List Int) : (tab l).length = l.length + 1 := by simp [tab]
theorem tab_get (l : List Int) {k : Nat} (hk : k ≤ l.length) : (tab l).getD k 0 = preS (isrt l) k := by simp [tab, List.getD, show k < l.length + 1 by omega]
theorem tab_nil : tab [] = [0] := rfl
/-- The row for one more, after k of its elements were compared. -/
def tabMid (l : List Int) (x : Int) (k : Nat) : List Int := (List.range (l.length + 2)).map fun i => if i = l.length + 1 then preS (isrt l) l.length + x else if 0 < i ∧ i < k then min (preS (isrt l) i) (preS (isrt l) (i - 1) + x) else preS (isrt l) i
theorem tabMid_len (l : List Int) (x : Int) (k : Nat) : (tabMid l x k).length = l.length + 2 := by simp [tabMid]
theorem tabMid_get (l : List Int) (x : Int) (k : Nat) {i : Nat} (hi : i < l.length + 2) : (tabMid l x k).getD i 0 = if i = l.length + 1 then preS (isrt l) l.length + x else if 0 < i ∧ i < k then min (preS (isrt l) i) (preS (isrt l) (i - 1) + x) else preS (isrt l) i := by simp [tabMid, List.getD, hi]
theorem eqI_of_getD {a b : List Int} (hl : a.length = b.length) (h : ∀ i, i < a.length → a.getD i 0 = b.getD i 0) : a = b := by
  apply List.ext_getElem hl
  intro i h1 h2
  have := h i h1
  simpa [List.getD, List.getElem?_eq_getElem h1, List.getElem?_eq_getElem h2] using this
theorem appI_getD (a : List Int) (y : Int) (i : Nat) : (a ++ [y]).getD i 0 = if i < a.length then a.getD i 0 else if i = a.length then y else 0 := by
  by_cases h : i < a.length
  · rw [if_pos h]; simp [List.getD, List.getElem?_append, h]
  · rw [if_neg h]
    by_cases h2 : i = a.length
    · rw [if_pos h2]; subst h2; simp [List.getD]
    · rw [if_neg h2]; simp [List.getD, List.getElem?_append, h, show ¬ (i - a.length < 1) by omega]
theorem tabMid_start (l : List Int) (x : Int) : tab l ++ [preS (isrt l) l.length + x] = tabMid l x 1 := by
  refine eqI_of_getD (by rw [List.length_append, tab_len, tabMid_len]; rfl) fun i hi => ?_
  rw [List.length_append, tab_len, List.length_singleton] at hi
  rw [tabMid_get _ _ _ (by omega), appI_getD, tab_len]
  by_cases h : i < l.length + 1
  · rw [if_pos h, if_neg (by omega), if_neg (by omega), tab_get _ (by omega)]
  · rw [if_neg h, if_pos (by omega), if_pos (by omega)]
theorem tabMid_keep (l : List Int) (x : Int) {k : Nat} (hk : 0 < k) (hl : k ≤ l.length) (h : ¬ (preS (isrt l) (k - 1) + x < preS (isrt l) k)) : tabMid l x (k + 1) = tabMid l x k := by
  refine eqI_of_getD (by rw [tabMid_len, tabMid_len]) fun i hi => ?_
  rw [tabMid_len] at hi
  rw [tabMid_get _ _ _ hi, tabMid_get _ _ _ hi]
  by_cases h1 : i = l.length + 1
  · rw [if_pos h1, if_pos h1]
  · rw [if_neg h1, if_neg h1]
    by_cases h2 : i = k
    · subst h2; rw [if_pos ⟨hk, by omega⟩, if_neg (by omega)]; omega
    · by_cases h3 : 0 < i ∧ i < k
      · rw [if_pos h3, if_pos (by omega)]
      · rw [if_neg h3, if_neg (by omega)]
theorem tabMid_set (l : List Int) (x : Int) {k : Nat} (hk : 0 < k) (hl : k ≤ l.length) (h : preS (isrt l) (k - 1) + x < preS (isrt l) k) : (tabMid l x k).set k (preS (isrt l) (k - 1) + x) = tabMid l x (k + 1) := by
  refine eqI_of_getD (by rw [List.length_set, tabMid_len, tabMid_len]) fun i hi => ?_
  rw [List.length_set, tabMid_len] at hi
  rw [tabMid_get _ _ _ hi]
  by_cases h2 : i = k
  · subst h2
    have : ((tabMid l x i).set i (preS (isrt l) (i - 1) + x)).getD i 0 = preS (isrt l) (i - 1) + x := by
      have : i < (tabMid l x i).length := by rw [tabMid_len]; exact hi
      simp [List.getD, this]
    rw [this, if_neg (by omega), if_pos ⟨hk, by omega⟩]; omega
  · have : ((tabMid l x k).set k (preS (isrt l) (k - 1) + x)).getD i 0 = (tabMid l x k).getD i 0 := by simp [List.getD, Ne.symm h2]
    rw [this, tabMid_get _ _ _ hi]
    by_cases h1 : i = l.length + 1
    · rw [if_pos h1, if_pos h1]
    · rw [if_neg h1, if_neg h1]
      by_cases h3 : 0 < i ∧ i < k
      · rw [if_pos h3, if_pos (by omega)]
      · rw [if_neg h3, if_neg (by omega)]
theorem tabMid_end (l : List Int) (x : Int) : tabMid l x (l.length + 1) = tab (l ++ [x]) := by
  refine eqI_of_getD (by rw [tabMid_len, tab_len, List.length_append, List.length_singleton]) fun i hi => ?_
  rw [tabMid_len] at hi
  have hl := isrt_len l
  rw [tabMid_get _ _ _ hi, tab_get _ (by rw [List.length_append, List.length_singleton]; omega), isrt_snoc]
  by_cases h1 : i = l.length + 1
  · rw [if_pos h1, h1]
    have := preS_all x (isrt l)
    rw [hl] at this
    exact this.symm
  · rw [if_neg h1]
    cases i with
    | zero => rw [if_neg (by omega), preS_zero, preS_zero]
    | succ i => rw [if_pos ⟨by omega, by omega⟩, preS_ins x (isrt_srt l) i (by omega)]; rfl
/-! ### The count -/
def cntS : List Int → Int → Nat
  | [], _ => 0
  | x :: s, m => if m - x < 0 then 0 else cntS s (m - x) + 1
theorem cntS_le (s : List Int) (m : Int) : cntS s m ≤ s.length := by
  induction s generalizing m with
  | nil => exact Nat.le_refl _
  | cons x s ih =>
    unfold cntS
    split
    · exact Nat.zero_le _
    · have := ih (m - x); rw [List.length_cons]; omega
theorem preS_nonneg {s : List Int} (h : ∀ x ∈ s, 0 ≤ x) (k : Nat) : 0 ≤ preS s k := by
  induction s generalizing k with
  | nil => rw [preS_nil]; exact Int.le_refl _
  | cons x s ih =>
    cases k with
    | zero => rw [preS_zero]; exact Int.le_refl _
    | succ k =>
      rw [preS_cons]
      have h1 := h x (List.mem_cons_self ..)
      have h2 := ih (fun y hy => h y (List.mem_cons_of_mem _ hy)) k
      omega
/-- Just the first ones fit. -/
theorem cntS_iff {s : List Int} (h : ∀ x ∈ s, 0 ≤ x) {m : Int} (hm : 0 ≤ m) (k : Nat) (hk : k ≤ s.length) : preS s k ≤ m ↔ k ≤ cntS s m := by
  induction s generalizing m k with
  | nil =>
    have : k = 0 := by simpa using hk
    subst this
    simp [preS, cntS, hm]
  | cons x s ih =>
    have hx := h x (List.mem_cons_self ..)
    have hs := fun y hy => h y (List.mem_cons_of_mem _ hy)
    cases k with
    | zero => rw [preS_zero]; simp [hm]
    | succ k =>
      rw [preS_cons]
      unfold cntS
      have hp := preS_nonneg hs k
      split
      · constructor
        · intro h; omega
        · intro h; omega
      · rename_i hlt
        have := ih hs (m := m - x) (by omega) k (by simpa using hk)
        constructor
        · intro h; have := this.1 (by omega); omega
        · intro h; have := this.2 (by omega); omega
/-- The reference's best: the last k that fits. -/
def bestT (f : Nat → Int) (m : Int) : Nat → Nat
  | 0 => 0
  | k + 1 => if f k ≤ m then k else bestT f m k
theorem bestT_cnt {l : List Int} (h : ∀ x ∈ l, 0 ≤ x) {m : Int} (hm : 0 ≤ m) : bestT (preS (isrt l)) m (l.length + 1) = cntS (isrt l) m := by
  have hs : ∀ x ∈ isrt l, 0 ≤ x := fun x hx => h x ((isrt_perm l).subset hx)
  have hle := cntS_le (isrt l) m
  have hl := isrt_len l
  have key : ∀ k, k ≤ l.length + 1 → bestT (preS (isrt l)) m k = if k = 0 then 0 else min (k - 1) (cntS (isrt l) m) := by
    intro k
    induction k with
    | zero => intro _; rfl
    | succ k ih =>
      intro hk
      rw [if_neg (by omega), bestT]
      have hi := cntS_iff hs hm k (by omega)
      by_cases hf : preS (isrt l) k ≤ m
      · rw [if_pos hf]
        have := hi.1 hf
        omega
      · rw [if_neg hf, ih (by omega)]
        have : ¬ k ≤ cntS (isrt l) m := fun h => hf (hi.2 h)
        by_cases h0 : k = 0
        · omega
        · rw [if_neg h0]; omega
  rw [key _ (Nat.le_refl _), if_neg (by omega)]
  omega
/-! ### The rows of a page -/
def needL (t : Int) (h : List Int) : List Int := h.map fun n => max (t + 1 - n) 0
theorem needL_nonneg (t : Int) (h : List Int) : ∀ x ∈ needL t h, 0 ≤ x := by
  intro x hx
  unfold needL at hx
  obtain ⟨n, _, rfl⟩ := List.mem_map.1 hx
  omega
theorem needL_len (t : Int) (h : List Int) : (needL t h).length = h.length := by simp [needL]
def badC (h : List Int) (t m : Int) : Nat := cntS (isrt (needL t h)) m
/-- Sums of the least ones grow with the list. -/
theorem preS_mono : ∀ {a b : List Int}, a.length = b.length → (∀ i, a.getD i 0 ≤ b.getD i 0) → ∀ k, k ≤ a.length → preS (isrt a) k ≤ preS (isrt b) k := by
  have key : ∀ (n : Nat) (a b : List Int), a.length = n → b.length = n → (∀ i, a.getD i 0 ≤ b.getD i 0) → ∀ k, k ≤ n → preS (isrt a) k ≤ preS (isrt b) k := by
    intro n
    induction n with
    | zero =>
      intro a b ha hb _ k hk
      obtain rfl : k = 0 := by omega
      rw [preS_zero, preS_zero]; exact Int.le_refl _
    | succ n ih =>
      intro a b ha hb hle k hk
      obtain ⟨a', x, rfl⟩ : ∃ a' x, a = a' ++ [x] := ⟨a.dropLast, a.getLast (by intro e; rw [e] at ha; simp at ha), (List.dropLast_concat_getLast _).symm⟩
      obtain ⟨b', y, rfl⟩ : ∃ b' y, b = b' ++ [y] := ⟨b.dropLast, b.getLast (by intro e; rw [e] at hb; simp at hb), (List.dropLast_concat_getLast _).symm⟩
      have la : a'.length = n := by simpa using ha
      have lb : b'.length = n := by simpa using hb
      have hle' : ∀ i, a'.getD i 0 ≤ b'.getD i 0 := fun i => by
        by_cases hi : i < n
        · have := hle i
          rw [appI_getD, appI_getD, if_pos (by omega), if_pos (by omega)] at this
          exact this
        · simp [List.getD, show a'.length ≤ i by omega, show b'.length ≤ i by omega]
      have hxy : x ≤ y := by
        have := hle n
        simpa only [appI_getD, la, lb, Nat.lt_irrefl, if_false, if_true] using this
      rw [isrt_snoc, isrt_snoc]
      have h := ih a' b' la lb hle'
      have sa := isrt_len a'
      have sb := isrt_len b'
      cases k with
      | zero => rw [preS_zero, preS_zero]; exact Int.le_refl _
      | succ k =>
        by_cases hkn : k < n
        · rw [preS_ins x (isrt_srt a') k (by omega), preS_ins y (isrt_srt b') k (by omega)]
          have h1 := h k (by omega)
          have h2 := h (k + 1) (by omega)
          omega
        · obtain rfl : k = n := by omega
          have e1 := preS_all x (isrt a')
          have e2 := preS_all y (isrt b')
          rw [sa, la] at e1
          rw [sb, lb] at e2
          rw [e1, e2]
          have h1 := h k (Nat.le_refl _)
          omega
  intro a b hl hle k hk
  exact key a.length a b rfl hl.symm hle k hk
theorem needL_getD (t : Int) {h : List Int} {i : Nat} (hi : i < h.length) : (needL t h).getD i 0 = max (t + 1 - h.getD i 0) 0 := by simp [needL, List.getD, hi]
theorem badC_mono {h h' : List Int} {t t' m m' : Int} (hl : h.length = h'.length) (hh : ∀ i, h.getD i 0 ≤ h'.getD i 0) (ht : t' ≤ t) (hm : 0 ≤ m) (hmm : m ≤ m') : badC h t m ≤ badC h' t' m' := by
  unfold badC
  have hn := fun x hx => needL_nonneg t h x ((isrt_perm _).subset hx)
  have hn' := fun x hx => needL_nonneg t' h' x ((isrt_perm _).subset hx)
  have hle := cntS_le (isrt (needL t h)) m
  have h1 := (cntS_iff hn hm _ hle).2 (Nat.le_refl _)
  have hlen : (isrt (needL t' h')).length = (isrt (needL t h)).length := by rw [isrt_len, isrt_len, needL_len, needL_len, hl]
  refine (cntS_iff hn' (by omega) _ (by omega)).1 ?_
  have h2 := preS_mono (a := needL t' h') (b := needL t h) (by rw [needL_len, needL_len, hl]) (fun i => by
    by_cases hi : i < h.length
    · rw [needL_getD t hi, needL_getD t' (by omega)]
      have := hh i
      omega
    · simp [List.getD, needL, show h.length ≤ i by omega, show h'.length ≤ i by omega]) (cntS (isrt (needL t h)) m) (by rw [needL_len, ← hl]; rw [isrt_len, needL_len] at hle; exact hle)
  omega
end Go.Proofs.YtmpjkdkgolmgdaaGreat
/- Pages that bear losses, and the choice of a plan, plain. -/
namespace Go.Proofs.YtmpjkdkgolmgdaaGreat
set_option linter.unusedVariables false

theorem ilMeets_h0 (top left : Int) (w : Nat) : ilMeets top left 0 w = List.replicate 16 0 := by
  refine List.eq_replicate_iff.2 ⟨ilMeets_len _ _ _ _, fun x hx => ?_⟩
  unfold ilMeets ilM at hx
  obtain ⟨r, _, rfl⟩ := List.mem_map.1 hx
  rw [Int.add_zero, ilCnt_nil]
theorem ilMeets_w0 (top left h : Int) : ilMeets top left h 0 = List.replicate 16 0 := by
  refine List.eq_replicate_iff.2 ⟨ilMeets_len _ _ _ _, fun x hx => ?_⟩
  unfold ilMeets ilM at hx
  obtain ⟨r, _, rfl⟩ := List.mem_map.1 hx
  rfl
/-- The block of a page bears a rectangle of H lines and W columns, and S scattered bytes: rows bear t wrong bytes, columns c. -/
def rowB (t : Int) (c : Int) (H W : Nat) (S : Int) (top : Nat) : Bool := (List.range (25 - W)).all fun left => decide ((badC (ilMeets top left H W) t S : Int) ≤ c)
def pageB (t : Int) (c : Int) (H W : Nat) (S : Int) : Bool := (List.range (17 - H)).all (rowB t c H W S)
theorem pageB_iff {t c : Int} {H W : Nat} {S : Int} : pageB t c H W S = true ↔ ∀ top, top < 17 - H → ∀ left, left < 25 - W → (badC (ilMeets (top : Nat) (left : Nat) H W) t S : Int) ≤ c := by
  unfold pageB rowB
  simp only [List.all_eq_true, List.mem_range, decide_eq_true_eq]
/-- A smaller rectangle inside a larger one has no more bytes in a row. -/
theorem ilCnt_grow (lo hi lo' hi' r left : Int) (h1 : lo' ≤ lo) (h2 : hi ≤ hi') (h3 : lo ≤ hi) (c : Nat) : ilCnt lo hi r left c ≤ ilCnt lo' hi' r left c := by
  have e1 := ilCnt_add lo' lo hi' r left h1 (by omega) c
  have e2 := ilCnt_add lo hi hi' r left h3 h2 c
  have b1 := ilCnt_bd lo' lo r left c
  have b2 := ilCnt_bd hi hi' r left c
  omega
theorem ilMeets_grow {top left top' left' : Int} {H W H' W' : Nat} (h1 : top' ≤ top) (h2 : top + H ≤ top' + H') (h3 : left' ≤ left) (h4 : left + W ≤ left' + W') : ∀ i, (ilMeets top left H W).getD i 0 ≤ (ilMeets top' left' H' W').getD i 0 := by
  intro i
  by_cases hi : i < 16
  · rw [ilMeets_get _ _ _ _ hi, ilMeets_get _ _ _ _ hi]
    unfold ilM
    obtain ⟨a, ha⟩ := Int.eq_ofNat_of_zero_le (show 0 ≤ left - left' by omega)
    obtain ⟨b, hb⟩ := Int.eq_ofNat_of_zero_le (show 0 ≤ (left' + W') - (left + W) by omega)
    have hW : W' = (a + W) + b := by omega
    have e1 := ilCnt_split top' (top' + H') i left' (a + W) b
    have e2 := ilCnt_split top' (top' + H') i left' a W
    rw [hW, e1, e2, show left' + (a : Int) = left by omega]
    have g := ilCnt_grow top (top + H) top' (top' + H') i left h1 h2 (by omega) W
    have b1 := ilCnt_bd top' (top' + H') i left' a
    have b2 := ilCnt_bd top' (top' + H') i (left' + (a + W : Nat)) b
    omega
  · simp [List.getD, ilMeets_len, show 16 ≤ i by omega]
/-- Less damage, more parity. -/
theorem pageB_less {t t' c c' : Int} {H W H' W' : Nat} {S S' : Int} (h : pageB t c H W S = true) (ht : t ≤ t') (hc : c ≤ c') (hH : H' ≤ H) (hW : W' ≤ W) (hS0 : 0 ≤ S') (hS : S' ≤ S) (h16 : H ≤ 16) (h24 : W ≤ 24) : pageB t' c' H' W' S' = true := by
  rw [pageB_iff] at h ⊢
  intro top htop left hleft
  have h1 := h (min top (16 - H)) (by omega) (min left (24 - W)) (by omega)
  have h2 := badC_mono (h := ilMeets (top : Nat) (left : Nat) H' W') (h' := ilMeets ((min top (16 - H) : Nat) : Int) ((min left (24 - W) : Nat) : Int) H W) (t := t') (t' := t) (m := S') (m' := S)
    (by rw [ilMeets_len, ilMeets_len]) (ilMeets_grow (by omega) (by omega) (by omega) (by omega)) ht hS0 hS
  omega
/-! ### The choice -/
def candR (k : Nat) : Nat := 2 * (k / 7)
def candC (k : Nat) : Nat := 2 * (k % 7)
def payQ (r c : Nat) : Nat := (24 - r) * (16 - c)
def payK (k : Nat) : Nat := payQ (candR k) (candC k)
/-- The first of the candidates below n that bear and have the largest payload. -/
def BestN (B : Nat → Bool) (n : Nat) : Option Nat → Prop
  | none => ∀ k, k < n → B k = false
  | some x => x < n ∧ B x = true ∧ (∀ k, k < x → B k = true → payK k < payK x) ∧ ∀ k, k < n → B k = true → payK k ≤ payK x
theorem BestN.unique {B : Nat → Bool} {n : Nat} {a b : Option Nat} (ha : BestN B n a) (hb : BestN B n b) : a = b := by
  cases a with
  | none =>
    cases b with
    | none => rfl
    | some y => have := ha y hb.1; rw [hb.2.1] at this; cases this
  | some x =>
    cases b with
    | none => have := hb x ha.1; rw [ha.2.1] at this; cases this
    | some y =>
      obtain ⟨a1, a2, a3, a4⟩ := ha
      obtain ⟨b1, b2, b3, b4⟩ := hb
      rcases Nat.lt_trichotomy x y with h | h | h
      · have := b3 x h a2; have := a4 y b1 b2; omega
      · rw [h]
      · have := a3 y h b2; have := b4 x a1 a2; omega
theorem BestN.start (B : Nat → Bool) : BestN B 0 none := fun k hk => absurd hk (Nat.not_lt_zero _)
theorem BestN.take {B : Nat → Bool} {n : Nat} {a : Option Nat} (h : BestN B n a) (hB : B n = true) (hp : ∀ x, a = some x → payK x < payK n) : BestN B (n + 1) (some n) := by
  refine ⟨Nat.lt_succ_self _, hB, fun k hk hk' => ?_, fun k hk hk' => ?_⟩
  · cases a with
    | none => have := h k hk; rw [hk'] at this; cases this
    | some x => have := h.2.2.2 k hk hk'; have := hp x rfl; omega
  · by_cases e : k = n
    · rw [e]; exact Nat.le_refl _
    · cases a with
      | none => have := h k (by omega); rw [hk'] at this; cases this
      | some x => have := h.2.2.2 k (by omega) hk'; have := hp x rfl; omega
theorem BestN.leave {B : Nat → Bool} {n : Nat} {a : Option Nat} (h : BestN B n a) (hB : B n = true → ∃ x, a = some x ∧ payK n ≤ payK x) : BestN B (n + 1) a := by
  cases a with
  | none =>
    intro k hk
    by_cases e : k = n
    · subst e
      cases hb : B k with
      | false => rfl
      | true => obtain ⟨x, hx, _⟩ := hB hb; cases hx
    · exact h k (by omega)
  | some x =>
    refine ⟨by have := h.1; omega, h.2.1, h.2.2.1, fun k hk hk' => ?_⟩
    by_cases e : k = n
    · subst e
      obtain ⟨y, hy, hle⟩ := hB hk'
      injection hy with hy
      subst hy
      exact hle
    · exact h.2.2.2 k (by omega) hk'
/-- The reference's way: the payloads from the largest one down. -/
def UpTo (B : Nat → Bool) (s : Nat) : Prop := ∀ k, k < 63 → B k = true → payK k ≤ s
theorem UpTo.next {B : Nat → Bool} {s : Nat} (h : UpTo B (s + 1)) (hn : ∀ k, k < 63 → payK k = s + 1 → B k = false) : UpTo B s := fun k hk hb => by
  have h1 := h k hk hb
  by_cases e : payK k = s + 1
  · have := hn k hk e; rw [hb] at this; cases this
  · omega
theorem UpTo.best {B : Nat → Bool} {s x : Nat} (h : UpTo B s) (hx : x < 63) (hb : B x = true) (hp : payK x = s) (hf : ∀ k, k < x → payK k = s → B k = false) : BestN B 63 (some x) := by
  refine ⟨hx, hb, fun k hk hk' => ?_, fun k hk hk' => by rw [hp]; exact h k hk hk'⟩
  have h1 := h k (by omega) hk'
  by_cases e : payK k = s
  · have := hf k hk e; rw [hk'] at this; cases this
  · omega
theorem UpTo.none {B : Nat → Bool} (h : UpTo B 0) : BestN B 63 none := fun k hk => by
  cases hb : B k with
  | false => rfl
  | true =>
    have h1 := h k hk hb
    have h2 : 0 < payK k := by
      unfold payK payQ candR candC
      exact Nat.mul_pos (by omega) (by omega)
    omega
theorem payK_bd (k : Nat) (hk : k < 63) : 32 ≤ payK k ∧ payK k ≤ 384 := by
  unfold payK payQ candR candC
  have h1 : k / 7 ≤ 8 := by omega
  have h2 : k % 7 ≤ 6 := by omega
  generalize k / 7 = a at *
  generalize k % 7 = b at *
  exact ⟨Nat.le_trans (show 32 ≤ 8 * 4 by decide) (Nat.mul_le_mul (by omega) (by omega)), Nat.le_trans (Nat.mul_le_mul (show 24 - 2 * a ≤ 24 by omega) (show 16 - 2 * b ≤ 16 by omega)) (by decide)⟩
theorem UpTo.start (B : Nat → Bool) : UpTo B 384 := fun k hk _ => (payK_bd k hk).2
end Go.Proofs.YtmpjkdkgolmgdaaGreat
/- Walks of lossplan: within, Validate, Check, Shape, Payload; the reference's faults. -/
namespace Go.Proofs.YtmpjkdkgolmgdaaGreat
open Go.RowKit
set_option linter.unusedVariables false

set_option maxHeartbeats 400000 in
theorem lpFault_any (c i : Int) (w : World) :
    Calls Tryz.prog 17 #[.int .i64 c, .int .i64 i] w fun e w' => e = .returned (.agg #[.int .i64 c, .int .i64 i]) ∧ Below w.heap.size w w' := by
  go_enter Tryz.func17, Tryz.ntmps17
  go_wp2
  exact bodyPost_ret (v := .agg #[.int .i64 c, .int .i64 i]) (by simp [results, Tryz.results17, go_sem]) rfl ⟨rfl, by (repeat (first | exact Below.refl _ _ | assumption | refine Bw.al ?_ _ | refine Bw.step ?_ (by assumption) | refine Bw.drew ?_))⟩
abbrev Tri := Int × Int × Int
def triOk (t : Tri) : Prop := t.2.1 ≤ t.1 ∧ t.1 ≤ t.2.2
instance (t : Tri) : Decidable (triOk t) := by unfold triOk; exact inferInstance
/-- The fault of the first triple that is out of its range. -/
def wiR : List Tri → Nat → Int × Int
  | [], _ => (0, 0)
  | t :: ts, k => if triOk t then wiR ts (k + 1) else (4, k)
def wiF (ts : List Tri) : Int × Int := wiR ts 0
theorem wiR_drop (ts : List Tri) {k : Nat} (hk : k < ts.length) : wiR (ts.drop k) k = if triOk (ts.getD k (0, 0, 0)) then wiR (ts.drop (k + 1)) (k + 1) else (4, (k : Int)) := by
  rw [List.drop_eq_getElem_cons hk, wiR]
  simp [List.getD, hk]
def Tris (w : World) (b : Nat) (ts : List Tri) : Prop := b < w.heap.size ∧ ∀ i, i < ts.length → w.cell? ⟨b, i * 3, none⟩ = some (.int .i64 (ts.getD i (0, 0, 0)).1) ∧ w.cell? ⟨b, i * 3 + 1, none⟩ = some (.int .i64 (ts.getD i (0, 0, 0)).2.1) ∧ w.cell? ⟨b, i * 3 + 2, none⟩ = some (.int .i64 (ts.getD i (0, 0, 0)).2.2)
theorem Tris.below {w w' : World} {b : Nat} {ts : List Tri} (h : Tris w b ts) (hb : Below w.heap.size w w') : Tris w' b ts :=
  ⟨Nat.lt_of_lt_of_le h.1 hb.size, fun i hi => ⟨(hb.cell (p := ⟨b, i * 3, none⟩) h.1).trans (h.2 i hi).1, (hb.cell (p := ⟨b, i * 3 + 1, none⟩) h.1).trans (h.2 i hi).2.1, (hb.cell (p := ⟨b, i * 3 + 2, none⟩) h.1).trans (h.2 i hi).2.2⟩⟩
set_option maxRecDepth 100000 in
set_option maxHeartbeats 2000000 in
theorem within_any (b n c : Nat) (ts : List Tri) (w : World) (hn : ts.length = n) (hn5 : n ≤ 5) (ht : Tris w b ts) :
    Calls Tryz.prog 41 #[.slice (some ⟨b, 0, none⟩) n c] w fun e w' => e = .returned (.agg #[.int .i64 (wiF ts).1, .int .i64 (wiF ts).2]) ∧ Below w.heap.size w w' := by
  have HT := Lib.hid ht
  have HN := Lib.hid hn
  have hF0 := Has.new w 0 0 27
  have HW : Hid (wiF ts = wiR (ts.drop 0) 0) := Lib.hid rfl
  rw [HW.out]
  clear ht hn HW
  go_enter Tryz.func41, Tryz.ntmps41
  go_wp2
  go_loopw [7] (fun i wr => ∃ k : Nat, k ≤ n ∧ i = .int .i64 k ∧ wiR (ts.drop 0) 0 = wiR (ts.drop k) k ∧ Has wr w.heap.size 0 0 ∧ Below w.heap.size w wr) (fun i _ => n - (intOf i).toNat)
  case atStart => exact ⟨0, Nat.zero_le _, rfl, rfl, hF0, below_new _ _⟩
  case round =>
    obtain ⟨k, hk, rfl, hw, hF, hbw⟩ := hrel
    by_cases hlt : k < n
    · have hs := wiR_drop ts (k := k) (by rw [HN.out]; exact hlt)
      obtain ⟨hb, hc⟩ := HT.out.below hbw
      obtain ⟨hc0, hc1, hc2⟩ := hc k (by rw [HN.out]; exact hlt)
      generalize ts.getD k (0, 0, 0) = t at *
      obtain ⟨x, lo, hi⟩ := t
      simp only at hc0 hc1 hc2
      have HS := Lib.hid (hw.trans hs)
      obtain ⟨l1, c10, c11, f10, f11⟩ := id hF
      clear hc hw hs HT
      by_cases h1 : lo ≤ x
      · have d1 : decide (x < lo) = false := by simp only [decide_eq_false_iff_not]; omega
        by_cases h2 : x ≤ hi
        · rw [if_pos (show triOk (x, lo, hi) from ⟨h1, h2⟩)] at HS
          have d2 : decide (hi < x) = false := by simp only [decide_eq_false_iff_not]; omega
          clear h1 h2
          go_wp2
          go_roundw
          case rel => first | exact ⟨k + 1, by omega, by go_num, HS.out, hF.al _, Bw.al hbw _⟩ | ((repeat apply Exists.intro); exact ⟨⟨k + 1, by omega, by go_num, HS.out, hF.al _, Bw.al hbw _⟩, rfl⟩)
          case measure => simp [intOf]; omega
        · rw [if_neg (show ¬ triOk (x, lo, hi) from fun h => h2 h.2)] at HS
          have d2 : decide (hi < x) = true := by simp only [decide_eq_true_eq]; omega
          clear h1 h2
          go_wp2_with fail
          refine (lpFault_any _ _ _).mono ?_
          rintro e w1 ⟨rfl, hb1⟩
          have hF2 := (hF.al (.cells #[.int .i64 x, .int .i64 lo, .int .i64 hi] 75)).below hb1
          have hb2 := Bw.step (Bw.al hbw (.cells #[.int .i64 x, .int .i64 lo, .int .i64 hi] 75)) hb1
          clear l1 c10 c11 f10 f11
          obtain ⟨l1, c10, c11, f10, f11⟩ := id hF2
          go_wp2
          exact bodyPost_ret (resF1 rfl rfl (hF2.set2 4 k)) rfl ⟨by rw [HS.out], Bw.set (Bw.set hb2 (Nat.le_refl _) _) (Nat.le_refl _) _⟩
      · rw [if_neg (show ¬ triOk (x, lo, hi) from fun h => h1 h.1)] at HS
        have d1 : decide (x < lo) = true := by simp only [decide_eq_true_eq]; omega
        clear h1
        go_wp2_with fail
        refine (lpFault_any _ _ _).mono ?_
        rintro e w1 ⟨rfl, hb1⟩
        have hF2 := (hF.al (.cells #[.int .i64 x, .int .i64 lo, .int .i64 hi] 75)).below hb1
        have hb2 := Bw.step (Bw.al hbw (.cells #[.int .i64 x, .int .i64 lo, .int .i64 hi] 75)) hb1
        clear l1 c10 c11 f10 f11
        obtain ⟨l1, c10, c11, f10, f11⟩ := id hF2
        go_wp2
        exact bodyPost_ret (resF1 rfl rfl (hF2.set2 4 k)) rfl ⟨by rw [HS.out], Bw.set (Bw.set hb2 (Nat.le_refl _) _) (Nat.le_refl _) _⟩
    · obtain rfl : k = n := by omega
      have he : wiR (ts.drop k) k = (0, 0) := by rw [List.drop_of_length_le (by rw [HN.out]; exact Nat.le_refl _)]; rfl
      rw [he] at hw
      have HW := Lib.hid hw
      obtain ⟨l1, c10, c11, f10, f11⟩ := id hF
      clear hw he hlt
      go_wp2
      exact bodyPost_ret (resF1 rfl rfl (hF.set2 0 0)) rfl ⟨by rw [HW.out], Bw.set (Bw.set hbw (Nat.le_refl _) _) (Nat.le_refl _) _⟩
/-! ### Plans and losses -/
def planT (r c d p : Int) : List Tri := [(r, 0, 16), (c, 0, 12), (d, 1, 48), (p, 0, 16)]
def lossT (m x h v s : Int) : List Tri := [(m, 0, 16), (x, 0, 8), (h, 0, 16), (v, 0, 24), (s, 0, 384)]
theorem Tris.lit4 (w : World) (g : Nat) (hg : g = w.heap.size) (a b c d : Tri) (t : TypeId) : Tris (w.alloc (.cells #[.int .i64 a.1, .int .i64 a.2.1, .int .i64 a.2.2, .int .i64 b.1, .int .i64 b.2.1, .int .i64 b.2.2, .int .i64 c.1, .int .i64 c.2.1, .int .i64 c.2.2, .int .i64 d.1, .int .i64 d.2.1, .int .i64 d.2.2] t)) g [a, b, c, d] := by
  subst hg
  refine ⟨by simp, fun i hi => ?_⟩
  match i, hi with
  | 0, _ => exact ⟨by simp [go_sem], by simp [go_sem], by simp [go_sem]⟩
  | 1, _ => exact ⟨by simp [go_sem], by simp [go_sem], by simp [go_sem]⟩
  | 2, _ => exact ⟨by simp [go_sem], by simp [go_sem], by simp [go_sem]⟩
  | 3, _ => exact ⟨by simp [go_sem], by simp [go_sem], by simp [go_sem]⟩
theorem Tris.lit5 (w : World) (g : Nat) (hg : g = w.heap.size) (a b c d e : Tri) (t : TypeId) : Tris (w.alloc (.cells #[.int .i64 a.1, .int .i64 a.2.1, .int .i64 a.2.2, .int .i64 b.1, .int .i64 b.2.1, .int .i64 b.2.2, .int .i64 c.1, .int .i64 c.2.1, .int .i64 c.2.2, .int .i64 d.1, .int .i64 d.2.1, .int .i64 d.2.2, .int .i64 e.1, .int .i64 e.2.1, .int .i64 e.2.2] t)) g [a, b, c, d, e] := by
  subst hg
  refine ⟨by simp, fun i hi => ?_⟩
  match i, hi with
  | 0, _ => exact ⟨by simp [go_sem], by simp [go_sem], by simp [go_sem]⟩
  | 1, _ => exact ⟨by simp [go_sem], by simp [go_sem], by simp [go_sem]⟩
  | 2, _ => exact ⟨by simp [go_sem], by simp [go_sem], by simp [go_sem]⟩
  | 3, _ => exact ⟨by simp [go_sem], by simp [go_sem], by simp [go_sem]⟩
  | 4, _ => exact ⟨by simp [go_sem], by simp [go_sem], by simp [go_sem]⟩
def plF (r c d p : Int) : Int × Int := wiF (planT r c d p)
def loF (m x h v s : Int) : Int × Int := wiF (lossT m x h v s)
abbrev plV (r c d p : Int) : Value := .agg #[.int .i64 r, .int .i64 c, .int .i64 d, .int .i64 p]
abbrev loV (m x h v s : Int) : Value := .agg #[.int .i64 m, .int .i64 x, .int .i64 h, .int .i64 v, .int .i64 s]
set_option maxHeartbeats 1000000 in
theorem lpValidate_any (r c d p : Int) (w : World) :
    Calls Tryz.prog 15 #[plV r c d p] w fun e w' => e = .returned (.agg #[.int .i64 (plF r c d p).1, .int .i64 (plF r c d p).2]) ∧ Below w.heap.size w w' := by
  have HW := Lib.hid (fun (w : World) b (h : Tris w b (planT r c d p)) => within_any b 4 4 (planT r c d p) w rfl (by decide) h)
  have HF : Hid (wiF (planT r c d p) = plF r c d p) := Lib.hid rfl
  rw [HF.out] at HW
  generalize plF r c d p = f at *
  obtain ⟨C, I⟩ := f
  simp only at HW ⊢
  go_enter Tryz.func15, Tryz.ntmps15
  go_wp2_with fail
  refine (HW.out _ _ (Tris.lit4 _ _ (by simp) (r, 0, 16) (c, 0, 12) (d, 1, 48) (p, 0, 16) _)).mono ?_
  rintro e w1 ⟨rfl, hb1⟩
  have hF := ((Has.new (w.alloc (.cells #[.int .i64 r, .int .i64 c, .int .i64 d, .int .i64 p] 23)) 0 0 27).al _).below hb1
  rw [World.size_alloc] at hF
  have hb2 : Below w.heap.size w w1 := Bw.step (by (repeat (first | exact Below.refl _ _ | assumption | refine Bw.al ?_ _ | refine Bw.step ?_ (by assumption) | refine Bw.drew ?_))) hb1
  obtain ⟨l1, c10, c11, f10, f11⟩ := id hF
  go_wp2
  exact bodyPost_ret (resF1 rfl rfl (hF.set2 C I)) rfl ⟨rfl, Bw.set (Bw.set hb2 (Nat.le_succ _) _) (Nat.le_succ _) _⟩
set_option maxHeartbeats 1000000 in
theorem lpCheck_any (m x h v s : Int) (w : World) :
    Calls Tryz.prog 16 #[loV m x h v s] w fun e w' => e = .returned (.agg #[.int .i64 (loF m x h v s).1, .int .i64 (loF m x h v s).2]) ∧ Below w.heap.size w w' := by
  have HW := Lib.hid (fun (w : World) b (ht : Tris w b (lossT m x h v s)) => within_any b 5 5 (lossT m x h v s) w rfl (by decide) ht)
  have HF : Hid (wiF (lossT m x h v s) = loF m x h v s) := Lib.hid rfl
  rw [HF.out] at HW
  generalize loF m x h v s = f at *
  obtain ⟨C, I⟩ := f
  simp only at HW ⊢
  go_enter Tryz.func16, Tryz.ntmps16
  go_wp2_with fail
  refine (HW.out _ _ (Tris.lit5 _ _ (by simp) (m, 0, 16) (x, 0, 8) (h, 0, 16) (v, 0, 24) (s, 0, 384) _)).mono ?_
  rintro e w1 ⟨rfl, hb1⟩
  have hF := ((Has.new (w.alloc (.cells #[.int .i64 m, .int .i64 x, .int .i64 h, .int .i64 v, .int .i64 s] 31)) 0 0 27).al _).below hb1
  rw [World.size_alloc] at hF
  have hb2 : Below w.heap.size w w1 := Bw.step (by (repeat (first | exact Below.refl _ _ | assumption | refine Bw.al ?_ _ | refine Bw.step ?_ (by assumption) | refine Bw.drew ?_))) hb1
  obtain ⟨l1, c10, c11, f10, f11⟩ := id hF
  go_wp2
  exact bodyPost_ret (resF1 rfl rfl (hF.set2 C I)) rfl ⟨rfl, Bw.set (Bw.set hb2 (Nat.le_succ _) _) (Nat.le_succ _) _⟩
end Go.Proofs.YtmpjkdkgolmgdaaGreat
/- Walks: the reference's faults of plans and losses; shapes and payloads. -/
namespace Go.Proofs.YtmpjkdkgolmgdaaGreat
open Go.RowKit
set_option linter.unusedVariables false

theorem wi_ok {t : Tri} {ts : List Tri} {k : Nat} (h : triOk t) : wiR (t :: ts) k = wiR ts (k + 1) := by rw [wiR, if_pos h]
theorem wi_bad {t : Tri} {ts : List Tri} {k : Nat} (h : ¬ triOk t) : wiR (t :: ts) k = (4, (k : Int)) := by rw [wiR, if_neg h]
theorem in_ok {n lo hi : Int} (h : triOk (n, lo, hi)) : inB n lo hi = true := inB_true h
theorem in_bad {n lo hi : Int} (h : ¬ triOk (n, lo, hi)) : inB n lo hi = false := inB_false h
set_option maxHeartbeats 2000000 in
theorem rPlanFault_any (r c d p : Int) (w : World) :
    Calls Tryz.prog 5 #[plV r c d p] w fun e w' => e = .returned (.agg #[.int .i64 (plF r c d p).1, .int .i64 (plF r c d p).2]) ∧ Below w.heap.size w w' := by
  unfold plF wiF planT
  by_cases h0 : triOk (r, 0, 16)
  · rw [wi_ok h0]
    have i0 := in_ok h0
    by_cases h1 : triOk (c, 0, 12)
    · rw [wi_ok h1]
      have i1 := in_ok h1
      by_cases h2 : triOk (d, 1, 48)
      · rw [wi_ok h2]
        have i2 := in_ok h2
        by_cases h3 : triOk (p, 0, 16)
        · rw [wi_ok h3]
          have i3 := in_ok h3
          clear h0 h1 h2 h3
          go_enter Tryz.func5, Tryz.ntmps5
          go_wp2_with (first | (go_at_call 19; refine (refIn_any _ _ _ _).mono ?_; rintro e w' ⟨rfl, rfl⟩) | (go_at_call 20; refine (refAt_any _ _ _).mono ?_; rintro e w' ⟨rfl, rfl⟩))
          exact bodyPost_ret (v := .agg #[.int .i64 0, .int .i64 0]) (by simp [results, Tryz.results5, go_sem]) rfl ⟨rfl, by (repeat (first | exact Below.refl _ _ | assumption | refine Bw.al ?_ _ | refine Bw.step ?_ (by assumption) | refine Bw.drew ?_))⟩
        · rw [wi_bad h3]
          have i3 := in_bad h3
          clear h0 h1 h2 h3
          go_enter Tryz.func5, Tryz.ntmps5
          go_wp2_with (first | (go_at_call 19; refine (refIn_any _ _ _ _).mono ?_; rintro e w' ⟨rfl, rfl⟩) | (go_at_call 20; refine (refAt_any _ _ _).mono ?_; rintro e w' ⟨rfl, rfl⟩))
          exact bodyPost_ret (v := .agg #[.int .i64 4, .int .i64 3]) (by simp [results, Tryz.results5, go_sem]) rfl ⟨rfl, by (repeat (first | exact Below.refl _ _ | assumption | refine Bw.al ?_ _ | refine Bw.step ?_ (by assumption) | refine Bw.drew ?_))⟩
      · rw [wi_bad h2]
        have i2 := in_bad h2
        clear h0 h1 h2
        go_enter Tryz.func5, Tryz.ntmps5
        go_wp2_with (first | (go_at_call 19; refine (refIn_any _ _ _ _).mono ?_; rintro e w' ⟨rfl, rfl⟩) | (go_at_call 20; refine (refAt_any _ _ _).mono ?_; rintro e w' ⟨rfl, rfl⟩))
        exact bodyPost_ret (v := .agg #[.int .i64 4, .int .i64 2]) (by simp [results, Tryz.results5, go_sem]) rfl ⟨rfl, by (repeat (first | exact Below.refl _ _ | assumption | refine Bw.al ?_ _ | refine Bw.step ?_ (by assumption) | refine Bw.drew ?_))⟩
    · rw [wi_bad h1]
      have i1 := in_bad h1
      clear h0 h1
      go_enter Tryz.func5, Tryz.ntmps5
      go_wp2_with (first | (go_at_call 19; refine (refIn_any _ _ _ _).mono ?_; rintro e w' ⟨rfl, rfl⟩) | (go_at_call 20; refine (refAt_any _ _ _).mono ?_; rintro e w' ⟨rfl, rfl⟩))
      exact bodyPost_ret (v := .agg #[.int .i64 4, .int .i64 1]) (by simp [results, Tryz.results5, go_sem]) rfl ⟨rfl, by (repeat (first | exact Below.refl _ _ | assumption | refine Bw.al ?_ _ | refine Bw.step ?_ (by assumption) | refine Bw.drew ?_))⟩
  · rw [wi_bad h0]
    have i0 := in_bad h0
    clear h0
    go_enter Tryz.func5, Tryz.ntmps5
    go_wp2_with (first | (go_at_call 19; refine (refIn_any _ _ _ _).mono ?_; rintro e w' ⟨rfl, rfl⟩) | (go_at_call 20; refine (refAt_any _ _ _).mono ?_; rintro e w' ⟨rfl, rfl⟩))
    exact bodyPost_ret (v := .agg #[.int .i64 4, .int .i64 0]) (by simp [results, Tryz.results5, go_sem]) rfl ⟨rfl, by (repeat (first | exact Below.refl _ _ | assumption | refine Bw.al ?_ _ | refine Bw.step ?_ (by assumption) | refine Bw.drew ?_))⟩
/-! ### Shapes and payloads -/
abbrev shV (a b c d : Int) : Value := .agg #[.int .i64 a, .int .i64 b, .int .i64 c, .int .i64 d]
theorem pay_bd {r c : Int} (hr : 0 ≤ r ∧ r ≤ 16) (hc : 0 ≤ c ∧ c ≤ 12) : 32 ≤ (24 - r) * (16 - c) ∧ (24 - r) * (16 - c) ≤ 384 :=
  ⟨Int.le_trans (show (32 : Int) ≤ 8 * 4 by decide) (Int.mul_le_mul (by omega) (by omega) (by decide) (by omega)), Int.le_trans (Int.mul_le_mul (show 24 - r ≤ 24 by omega) (show 16 - c ≤ 16 by omega) (by omega) (by decide)) (by decide)⟩
set_option maxHeartbeats 400000 in
theorem lpPay_any (r c d p : Int) (w : World) (hr : 0 ≤ r ∧ r ≤ 16) (hc : 0 ≤ c ∧ c ≤ 12) :
    Calls Tryz.prog 44 #[plV r c d p] w fun e w' => e = .returned (.int .i64 ((24 - r) * (16 - c))) ∧ Below w.heap.size w w' := by
  have hb := pay_bd hr hc
  go_enter Tryz.func44, Tryz.ntmps44
  go_wp2
  go_ret
  exact ⟨rfl, by (repeat (first | exact Below.refl _ _ | assumption | refine Bw.al ?_ _ | refine Bw.step ?_ (by assumption) | refine Bw.drew ?_))⟩
set_option maxHeartbeats 400000 in
theorem rDataSize_any (a b c d : Int) (w : World) (ha : 0 ≤ a ∧ a ≤ 32) (hb : 0 ≤ b ∧ b ≤ 32) (hc : 0 ≤ c ∧ c ≤ b) (hd : 0 ≤ d ∧ d ≤ a) :
    Calls Tryz.prog 21 #[shV a b c d] w fun e w' => e = .returned (.int .i64 ((a - d) * (b - c))) ∧ Below w.heap.size w w' := by
  have h1 : 0 ≤ (a - d) * (b - c) := Int.mul_nonneg (by omega) (by omega)
  have h2 : (a - d) * (b - c) ≤ 32 * 32 := Int.mul_le_mul (by omega) (by omega) (by omega) (by omega)
  go_enter Tryz.func21, Tryz.ntmps21
  go_wp2
  go_ret
  exact ⟨rfl, by (repeat (first | exact Below.refl _ _ | assumption | refine Bw.al ?_ _ | refine Bw.step ?_ (by assumption) | refine Bw.drew ?_))⟩
set_option maxHeartbeats 400000 in
theorem rShapeOf_any (r c d p : Int) (w : World) :
    Calls Tryz.prog 22 #[plV r c d p] w fun e w' => e = .returned (shV 16 24 r c) ∧ Below w.heap.size w w' := by
  go_enter Tryz.func22, Tryz.ntmps22
  go_wp2
  exact bodyPost_ret (v := shV 16 24 r c) (by simp [results, Tryz.results22, go_sem]) rfl ⟨rfl, by (repeat (first | exact Below.refl _ _ | assumption | refine Bw.al ?_ _ | refine Bw.step ?_ (by assumption) | refine Bw.drew ?_))⟩
set_option maxHeartbeats 400000 in
theorem rPayloadOf_any (r c d p : Int) (w : World) (hr : 0 ≤ r ∧ r ≤ 16) (hc : 0 ≤ c ∧ c ≤ 12) :
    Calls Tryz.prog 7 #[plV r c d p] w fun e w' => e = .returned (.int .i64 ((24 - r) * (16 - c))) ∧ Below w.heap.size w w' := by
  rw [Int.mul_comm]
  go_enter Tryz.func7, Tryz.ntmps7
  go_wp2_with (first
    | (go_at_call 22; refine (rShapeOf_any _ _ _ _ _).mono ?_; rintro e w1 ⟨rfl, hb1⟩)
    | (go_at_call 21; refine (rDataSize_any _ _ _ _ _ (by omega) (by omega) (by omega) (by omega)).mono ?_; rintro e w2 ⟨rfl, hb2⟩))
  go_ret
  exact ⟨rfl, Bw.step (Bw.step (below_new _ _) hb1) hb2⟩
end Go.Proofs.YtmpjkdkgolmgdaaGreat
/- Variables of struct types in memory; walks of lossplan.Shape and lossplan.Payload. -/
namespace Go.Proofs.YtmpjkdkgolmgdaaGreat
open Go.RowKit
set_option linter.unusedVariables false

/-- A variable of four numbers. -/
def H4 (w : World) (b : Nat) (a0 a1 a2 a3 : Int) : Prop := b < w.heap.size ∧ (w.cell? ⟨b, 0, none⟩ = some (.int .i64 a0) ∧ w.cell? ⟨b, 1, none⟩ = some (.int .i64 a1) ∧ w.cell? ⟨b, 2, none⟩ = some (.int .i64 a2) ∧ w.cell? ⟨b, 3, none⟩ = some (.int .i64 a3)) ∧ w.frozen? ⟨b, 0, none⟩ = false ∧ w.frozen? ⟨b, 1, none⟩ = false ∧ w.frozen? ⟨b, 2, none⟩ = false ∧ w.frozen? ⟨b, 3, none⟩ = false
theorem H4.new (w : World) (a0 a1 a2 a3 : Int) (t : TypeId) : H4 (w.alloc (.cells #[.int .i64 a0, .int .i64 a1, .int .i64 a2, .int .i64 a3] t)) w.heap.size a0 a1 a2 a3 :=
  ⟨by simp, ⟨by simp [go_sem], by simp [go_sem], by simp [go_sem], by simp [go_sem]⟩, by simp [go_sem], by simp [go_sem], by simp [go_sem], by simp [go_sem]⟩
section
variable {w w' : World} {b : Nat} {a0 a1 a2 a3 : Int}
theorem H4.below (h : H4 w b a0 a1 a2 a3) (hb : Below w.heap.size w w') : H4 w' b a0 a1 a2 a3 :=
  ⟨Nat.lt_of_lt_of_le h.1 hb.size, ⟨(hb.cell (p := ⟨b, 0, none⟩) h.1).trans h.2.1.1, (hb.cell (p := ⟨b, 1, none⟩) h.1).trans h.2.1.2.1, (hb.cell (p := ⟨b, 2, none⟩) h.1).trans h.2.1.2.2.1, (hb.cell (p := ⟨b, 3, none⟩) h.1).trans h.2.1.2.2.2⟩,
    (hb.frozen (p := ⟨b, 0, none⟩) h.1).trans h.2.2.1, (hb.frozen (p := ⟨b, 1, none⟩) h.1).trans h.2.2.2.1, (hb.frozen (p := ⟨b, 2, none⟩) h.1).trans h.2.2.2.2.1, (hb.frozen (p := ⟨b, 3, none⟩) h.1).trans h.2.2.2.2.2⟩
theorem H4.al (h : H4 w b a0 a1 a2 a3) (o : Obj) : H4 (w.alloc o) b a0 a1 a2 a3 := h.below (below_new w o)
theorem H4.drew (h : H4 w b a0 a1 a2 a3) : H4 w.drew b a0 a1 a2 a3 := h
theorem H4.far (h : H4 w b a0 a1 a2 a3) {p : Addr} (hp : p.block ≠ b) (u : Value) : H4 (w.setCell p u) b a0 a1 a2 a3 := by
  obtain ⟨l, ⟨c0, c1, c2, c3⟩, f0, f1, f2, f3⟩ := h
  have hc : ∀ i, (w.setCell p u).cell? ⟨b, i, none⟩ = w.cell? ⟨b, i, none⟩ := fun i => World.cell?_of_block (a := ⟨b, i, none⟩) (Below.heap_setCell w p u b (Ne.symm hp))
  exact ⟨by simpa [World.setCell] using l, ⟨(hc 0).trans c0, (hc 1).trans c1, (hc 2).trans c2, (hc 3).trans c3⟩, by simpa using f0, by simpa using f1, by simpa using f2, by simpa using f3⟩
theorem H4.set0 (h : H4 w b a0 a1 a2 a3) (x : Int) : H4 (w.setCell ⟨b, 0, none⟩ (.int .i64 x)) b x a1 a2 a3 := by
  obtain ⟨l, ⟨c0, c1, c2, c3⟩, f0, f1, f2, f3⟩ := h
  exact ⟨by simpa [World.setCell] using l, ⟨cell_set_same c0, by rw [World.cell?_setCell_other _ _ _ _ (by simp)]; exact c1, by rw [World.cell?_setCell_other _ _ _ _ (by simp)]; exact c2, by rw [World.cell?_setCell_other _ _ _ _ (by simp)]; exact c3⟩, by simpa using f0, by simpa using f1, by simpa using f2, by simpa using f3⟩
theorem H4.set1 (h : H4 w b a0 a1 a2 a3) (x : Int) : H4 (w.setCell ⟨b, 1, none⟩ (.int .i64 x)) b a0 x a2 a3 := by
  obtain ⟨l, ⟨c0, c1, c2, c3⟩, f0, f1, f2, f3⟩ := h
  exact ⟨by simpa [World.setCell] using l, ⟨by rw [World.cell?_setCell_other _ _ _ _ (by simp)]; exact c0, cell_set_same c1, by rw [World.cell?_setCell_other _ _ _ _ (by simp)]; exact c2, by rw [World.cell?_setCell_other _ _ _ _ (by simp)]; exact c3⟩, by simpa using f0, by simpa using f1, by simpa using f2, by simpa using f3⟩
theorem H4.set2 (h : H4 w b a0 a1 a2 a3) (x : Int) : H4 (w.setCell ⟨b, 2, none⟩ (.int .i64 x)) b a0 a1 x a3 := by
  obtain ⟨l, ⟨c0, c1, c2, c3⟩, f0, f1, f2, f3⟩ := h
  exact ⟨by simpa [World.setCell] using l, ⟨by rw [World.cell?_setCell_other _ _ _ _ (by simp)]; exact c0, by rw [World.cell?_setCell_other _ _ _ _ (by simp)]; exact c1, cell_set_same c2, by rw [World.cell?_setCell_other _ _ _ _ (by simp)]; exact c3⟩, by simpa using f0, by simpa using f1, by simpa using f2, by simpa using f3⟩
theorem H4.set3 (h : H4 w b a0 a1 a2 a3) (x : Int) : H4 (w.setCell ⟨b, 3, none⟩ (.int .i64 x)) b a0 a1 a2 x := by
  obtain ⟨l, ⟨c0, c1, c2, c3⟩, f0, f1, f2, f3⟩ := h
  exact ⟨by simpa [World.setCell] using l, ⟨by rw [World.cell?_setCell_other _ _ _ _ (by simp)]; exact c0, by rw [World.cell?_setCell_other _ _ _ _ (by simp)]; exact c1, by rw [World.cell?_setCell_other _ _ _ _ (by simp)]; exact c2, cell_set_same c3⟩, by simpa using f0, by simpa using f1, by simpa using f2, by simpa using f3⟩
theorem H4.set (h : H4 w b a0 a1 a2 a3) (x0 x1 x2 x3 : Int) : H4 ((((w.setCell ⟨b, 0, none⟩ (.int .i64 x0)).setCell ⟨b, 1, none⟩ (.int .i64 x1)).setCell ⟨b, 2, none⟩ (.int .i64 x2)).setCell ⟨b, 3, none⟩ (.int .i64 x3)) b x0 x1 x2 x3 := (((h.set0 x0).set1 x1).set2 x2).set3 x3
theorem H4.far4 (h : H4 w b a0 a1 a2 a3) {g : Nat} (hg : g ≠ b) (u0 u1 u2 u3 : Value) : H4 ((((w.setCell ⟨g, 0, none⟩ u0).setCell ⟨g, 1, none⟩ u1).setCell ⟨g, 2, none⟩ u2).setCell ⟨g, 3, none⟩ u3) b a0 a1 a2 a3 :=
  (((h.far (p := ⟨g, 0, none⟩) hg u0).far (p := ⟨g, 1, none⟩) hg u1).far (p := ⟨g, 2, none⟩) hg u2).far (p := ⟨g, 3, none⟩) hg u3
theorem H4.far2 (h : H4 w b a0 a1 a2 a3) {g : Nat} (hg : g ≠ b) (u0 u1 : Value) : H4 ((w.setCell ⟨g, 0, none⟩ u0).setCell ⟨g, 1, none⟩ u1) b a0 a1 a2 a3 := (h.far (p := ⟨g, 0, none⟩) hg u0).far (p := ⟨g, 1, none⟩) hg u1
theorem HasFar {c i : Int} (h : Has w b c i) {p : Addr} (hp : p.block ≠ b) (u : Value) : Has (w.setCell p u) b c i := h.set hp u
theorem Has.far4 {c i : Int} (h : Has w b c i) {g : Nat} (hg : g ≠ b) (u0 u1 u2 u3 : Value) : Has ((((w.setCell ⟨g, 0, none⟩ u0).setCell ⟨g, 1, none⟩ u1).setCell ⟨g, 2, none⟩ u2).setCell ⟨g, 3, none⟩ u3) b c i :=
  HasFar (HasFar (HasFar (HasFar h (p := ⟨g, 0, none⟩) hg u0) (p := ⟨g, 1, none⟩) hg u1) (p := ⟨g, 2, none⟩) hg u2) (p := ⟨g, 3, none⟩) hg u3
theorem Bw.set4 {w a : World} (h : Below w.heap.size w a) {g : Nat} (hg : w.heap.size ≤ g) (u0 u1 u2 u3 : Value) : Below w.heap.size w ((((a.setCell ⟨g, 0, none⟩ u0).setCell ⟨g, 1, none⟩ u1).setCell ⟨g, 2, none⟩ u2).setCell ⟨g, 3, none⟩ u3) :=
  Bw.set (Bw.set (Bw.set (Bw.set h (p := ⟨g, 0, none⟩) hg u0) (p := ⟨g, 1, none⟩) hg u1) (p := ⟨g, 2, none⟩) hg u2) (p := ⟨g, 3, none⟩) hg u3
theorem Bw.set2 {w a : World} (h : Below w.heap.size w a) {g : Nat} (hg : w.heap.size ≤ g) (u0 u1 : Value) : Below w.heap.size w ((a.setCell ⟨g, 0, none⟩ u0).setCell ⟨g, 1, none⟩ u1) :=
  Bw.set (Bw.set h (p := ⟨g, 0, none⟩) hg u0) (p := ⟨g, 1, none⟩) hg u1
end
/-- The results of a function: a struct of four numbers and a fault, both in memory. -/
theorem resS {fn : Func} {a a' : Nat} {t : TypeId} (h : fn.results = #[.cell a t, .cell a' 27]) (ht : t = 37 ∨ t = 23) {tmps : Array Value} {b b' : Nat} {x0 x1 x2 x3 c i : Int} {w : World} (ha : tmps.getD a undef = .pointer (some ⟨b, 0, none⟩)) (ha' : tmps.getD a' undef = .pointer (some ⟨b', 0, none⟩)) (hh : H4 w b x0 x1 x2 x3) (hf : Has w b' c i) :
    (results fn tmps).run Tryz.prog w = .ok (.tuple #[.agg #[.int .i64 x0, .int .i64 x1, .int .i64 x2, .int .i64 x3], .agg #[.int .i64 c, .int .i64 i]]) w := by
  obtain ⟨l, ⟨c0, c1, c2, c3⟩, f0, f1, f2, f3⟩ := hh
  obtain ⟨l', d0, d1, g0, g1⟩ := hf
  simp at ha ha'
  rcases ht with rfl | rfl
  · simp [results, h, ha, ha', c0, c1, c2, c3, d0, d1, go_sem]
  · simp [results, h, ha, ha', c0, c1, c2, c3, d0, d1, go_sem]
/-- A variable of five numbers. -/
def H5 (w : World) (b : Nat) (a0 a1 a2 a3 a4 : Int) : Prop := b < w.heap.size ∧ w.cell? ⟨b, 0, none⟩ = some (.int .i64 a0) ∧ w.cell? ⟨b, 1, none⟩ = some (.int .i64 a1) ∧ w.cell? ⟨b, 2, none⟩ = some (.int .i64 a2) ∧ w.cell? ⟨b, 3, none⟩ = some (.int .i64 a3) ∧ w.cell? ⟨b, 4, none⟩ = some (.int .i64 a4)
theorem H5.new (w : World) (a0 a1 a2 a3 a4 : Int) (t : TypeId) : H5 (w.alloc (.cells #[.int .i64 a0, .int .i64 a1, .int .i64 a2, .int .i64 a3, .int .i64 a4] t)) w.heap.size a0 a1 a2 a3 a4 :=
  ⟨by simp, by simp [go_sem], by simp [go_sem], by simp [go_sem], by simp [go_sem], by simp [go_sem]⟩
theorem H5.below {w w' : World} {b : Nat} {a0 a1 a2 a3 a4 : Int} (h : H5 w b a0 a1 a2 a3 a4) (hb : Below w.heap.size w w') : H5 w' b a0 a1 a2 a3 a4 :=
  ⟨Nat.lt_of_lt_of_le h.1 hb.size, (hb.cell (p := ⟨b, 0, none⟩) h.1).trans h.2.1, (hb.cell (p := ⟨b, 1, none⟩) h.1).trans h.2.2.1, (hb.cell (p := ⟨b, 2, none⟩) h.1).trans h.2.2.2.1, (hb.cell (p := ⟨b, 3, none⟩) h.1).trans h.2.2.2.2.1, (hb.cell (p := ⟨b, 4, none⟩) h.1).trans h.2.2.2.2.2⟩
theorem H5.al {w : World} {b : Nat} {a0 a1 a2 a3 a4 : Int} (h : H5 w b a0 a1 a2 a3 a4) (o : Obj) : H5 (w.alloc o) b a0 a1 a2 a3 a4 := h.below (below_new w o)
theorem H5.far {w : World} {b : Nat} {a0 a1 a2 a3 a4 : Int} (h : H5 w b a0 a1 a2 a3 a4) {p : Addr} (hp : p.block ≠ b) (u : Value) : H5 (w.setCell p u) b a0 a1 a2 a3 a4 := by
  obtain ⟨l, c0, c1, c2, c3, c4⟩ := h
  have hc : ∀ i, (w.setCell p u).cell? ⟨b, i, none⟩ = w.cell? ⟨b, i, none⟩ := fun i => World.cell?_of_block (a := ⟨b, i, none⟩) (Below.heap_setCell w p u b (Ne.symm hp))
  exact ⟨by simpa [World.setCell] using l, (hc 0).trans c0, (hc 1).trans c1, (hc 2).trans c2, (hc 3).trans c3, (hc 4).trans c4⟩
theorem plF_code (r c d p : Int) : plF r c d p = (0, 0) ∨ (plF r c d p).1 = 4 := by
  unfold plF wiF planT
  by_cases h0 : triOk (r, 0, 16)
  · rw [wi_ok h0]
    by_cases h1 : triOk (c, 0, 12)
    · rw [wi_ok h1]
      by_cases h2 : triOk (d, 1, 48)
      · rw [wi_ok h2]
        by_cases h3 : triOk (p, 0, 16)
        · rw [wi_ok h3]; exact .inl rfl
        · rw [wi_bad h3]; exact .inr rfl
      · rw [wi_bad h2]; exact .inr rfl
    · rw [wi_bad h1]; exact .inr rfl
  · rw [wi_bad h0]; exact .inr rfl
theorem plF_ok {r c d p : Int} (h : plF r c d p = (0, 0)) : (0 ≤ r ∧ r ≤ 16) ∧ (0 ≤ c ∧ c ≤ 12) ∧ (1 ≤ d ∧ d ≤ 48) ∧ (0 ≤ p ∧ p ≤ 16) := by
  unfold plF wiF planT at h
  by_cases h0 : triOk (r, 0, 16)
  · rw [wi_ok h0] at h
    by_cases h1 : triOk (c, 0, 12)
    · rw [wi_ok h1] at h
      by_cases h2 : triOk (d, 1, 48)
      · rw [wi_ok h2] at h
        by_cases h3 : triOk (p, 0, 16)
        · exact ⟨h0, h1, h2, h3⟩
        · rw [wi_bad h3] at h; cases h
      · rw [wi_bad h2] at h; cases h
    · rw [wi_bad h1] at h; cases h
  · rw [wi_bad h0] at h; cases h
theorem plF_of {r c d p : Int} (h0 : 0 ≤ r ∧ r ≤ 16) (h1 : 0 ≤ c ∧ c ≤ 12) (h2 : 1 ≤ d ∧ d ≤ 48) (h3 : 0 ≤ p ∧ p ≤ 16) : plF r c d p = (0, 0) := by
  unfold plF wiF planT
  rw [wi_ok (t := (r, 0, 16)) h0, wi_ok (t := (c, 0, 12)) h1, wi_ok (t := (d, 1, 48)) h2, wi_ok (t := (p, 0, 16)) h3]; rfl
theorem loF_ok {m x h v s : Int} (e : loF m x h v s = (0, 0)) : (0 ≤ m ∧ m ≤ 16) ∧ (0 ≤ x ∧ x ≤ 8) ∧ (0 ≤ h ∧ h ≤ 16) ∧ (0 ≤ v ∧ v ≤ 24) ∧ (0 ≤ s ∧ s ≤ 384) := by
  unfold loF wiF lossT at e
  by_cases h0 : triOk (m, 0, 16)
  · rw [wi_ok h0] at e
    by_cases h1 : triOk (x, 0, 8)
    · rw [wi_ok h1] at e
      by_cases h2 : triOk (h, 0, 16)
      · rw [wi_ok h2] at e
        by_cases h3 : triOk (v, 0, 24)
        · rw [wi_ok h3] at e
          by_cases h4 : triOk (s, 0, 384)
          · exact ⟨h0, h1, h2, h3, h4⟩
          · rw [wi_bad h4] at e; cases e
        · rw [wi_bad h3] at e; cases e
      · rw [wi_bad h2] at e; cases e
    · rw [wi_bad h1] at e; cases e
  · rw [wi_bad h0] at e; cases e
theorem loF_of {m x h v s : Int} (h0 : 0 ≤ m ∧ m ≤ 16) (h1 : 0 ≤ x ∧ x ≤ 8) (h2 : 0 ≤ h ∧ h ≤ 16) (h3 : 0 ≤ v ∧ v ≤ 24) (h4 : 0 ≤ s ∧ s ≤ 384) : loF m x h v s = (0, 0) := by
  unfold loF wiF lossT
  rw [wi_ok (t := (m, 0, 16)) h0, wi_ok (t := (x, 0, 8)) h1, wi_ok (t := (h, 0, 16)) h2, wi_ok (t := (v, 0, 24)) h3, wi_ok (t := (s, 0, 384)) h4]; rfl
theorem loF_code (m x h v s : Int) : loF m x h v s = (0, 0) ∨ ((loF m x h v s).1 = 4 ∧ 0 ≤ (loF m x h v s).2 ∧ (loF m x h v s).2 ≤ 4) := by
  unfold loF wiF lossT
  by_cases h0 : triOk (m, 0, 16)
  · rw [wi_ok h0]
    by_cases h1 : triOk (x, 0, 8)
    · rw [wi_ok h1]
      by_cases h2 : triOk (h, 0, 16)
      · rw [wi_ok h2]
        by_cases h3 : triOk (v, 0, 24)
        · rw [wi_ok h3]
          by_cases h4 : triOk (s, 0, 384)
          · rw [wi_ok h4]; exact .inl rfl
          · rw [wi_bad h4]; exact .inr ⟨rfl, by decide, by decide⟩
        · rw [wi_bad h3]; exact .inr ⟨rfl, by decide, by decide⟩
      · rw [wi_bad h2]; exact .inr ⟨rfl, by decide, by decide⟩
    · rw [wi_bad h1]; exact .inr ⟨rfl, by decide, by decide⟩
  · rw [wi_bad h0]; exact .inr ⟨rfl, by decide, by decide⟩
end Go.Proofs.YtmpjkdkgolmgdaaGreat
/- Walks of lossplan.Shape, lossplan.Payload. -/
namespace Go.Proofs.YtmpjkdkgolmgdaaGreat
open Go.RowKit
set_option linter.unusedVariables false

set_option maxHeartbeats 1000000 in
theorem lpShape_ok (r c d p : Int) (w : World) (h : plF r c d p = (0, 0)) :
    Calls Tryz.prog 9 #[plV r c d p] w fun e w' => e = .returned (.tuple #[shV 16 24 r c, .agg #[.int .i64 0, .int .i64 0]]) ∧ Below w.heap.size w w' := by
  have HV := Lib.hid (fun w => lpValidate_any r c d p w)
  rw [h] at HV
  have P0 := H4.new w r c d p 23
  have S0 := H4.new (w.alloc (.cells #[.int .i64 r, .int .i64 c, .int .i64 d, .int .i64 p] 23)) 0 0 0 0 37
  have F0 := Has.new ((w.alloc (.cells #[.int .i64 r, .int .i64 c, .int .i64 d, .int .i64 p] 23)).alloc (.cells #[.int .i64 0, .int .i64 0, .int .i64 0, .int .i64 0] 37)) 0 0 27
  have P0 := (P0.al (.cells #[.int .i64 0, .int .i64 0, .int .i64 0, .int .i64 0] 37)).al (.cells #[.int .i64 0, .int .i64 0] 27)
  have S0 := S0.al (.cells #[.int .i64 0, .int .i64 0] 27)
  have B0 : Below w.heap.size w (((w.alloc (.cells #[.int .i64 r, .int .i64 c, .int .i64 d, .int .i64 p] 23)).alloc (.cells #[.int .i64 0, .int .i64 0, .int .i64 0, .int .i64 0] 37)).alloc (.cells #[.int .i64 0, .int .i64 0] 27)) := by (repeat (first | exact Below.refl _ _ | assumption | refine Bw.al ?_ _ | refine Bw.step ?_ (by assumption) | refine Bw.drew ?_))
  simp only [World.size_alloc] at S0 F0
  clear h
  go_enter Tryz.func9, Tryz.ntmps9
  go_wp2_with fail
  generalize ((w.alloc (.cells #[.int .i64 r, .int .i64 c, .int .i64 d, .int .i64 p] 23)).alloc (.cells #[.int .i64 0, .int .i64 0, .int .i64 0, .int .i64 0] 37)).alloc (.cells #[.int .i64 0, .int .i64 0] 27) = W at *
  refine (HV.out _).mono ?_
  rintro e w1 ⟨rfl, hb1⟩
  have P0 := P0.below hb1
  have S0 := S0.below hb1
  have F0 := F0.below hb1
  have B0 := Bw.step B0 hb1
  have F1 := Has.new w1 0 0 27
  have P0 := P0.al (.cells #[.int .i64 0, .int .i64 0] 27)
  have S0 := S0.al (.cells #[.int .i64 0, .int .i64 0] 27)
  have F0 := F0.al (.cells #[.int .i64 0, .int .i64 0] 27)
  have B0 := Bw.al B0 (.cells #[.int .i64 0, .int .i64 0] 27)
  obtain ⟨lf, f0, f1, g0, g1⟩ := id F1
  obtain ⟨lp, ⟨p0, p1, p2, p3⟩, q0, q1, q2, q3⟩ := id P0
  obtain ⟨ls, ⟨s0, s1, s2, s3⟩, t0, t1, t2, t3⟩ := id S0
  obtain ⟨l0, x0, x1, y0, y1⟩ := id F0
  go_wp2
  exact bodyPost_ret (resS rfl (.inl rfl) rfl rfl ((S0.set 16 24 r c).far2 (by omega) _ _) ((F0.far4 (by omega) _ _ _ _).set2 0 0)) rfl ⟨rfl, Bw.set2 (Bw.set4 B0 (by omega) _ _ _ _) (by omega) _ _⟩
set_option maxHeartbeats 1000000 in
theorem lpShape_bad (r c d p : Int) (w : World) (h : plF r c d p ≠ (0, 0)) :
    Calls Tryz.prog 9 #[plV r c d p] w fun e w' => e = .returned (.tuple #[shV 0 0 0 0, .agg #[.int .i64 (plF r c d p).1, .int .i64 (plF r c d p).2]]) ∧ Below w.heap.size w w' := by
  have HV := Lib.hid (fun w => lpValidate_any r c d p w)
  have hc := (plF_code r c d p).resolve_left h
  generalize (plF r c d p).1 = C at *
  generalize (plF r c d p).2 = F at *
  have xC : (C == 0) = false := by rw [beq_eq_false_iff_ne]; omega
  clear hc
  have P0 := H4.new w r c d p 23
  have S0 := H4.new (w.alloc (.cells #[.int .i64 r, .int .i64 c, .int .i64 d, .int .i64 p] 23)) 0 0 0 0 37
  have F0 := Has.new ((w.alloc (.cells #[.int .i64 r, .int .i64 c, .int .i64 d, .int .i64 p] 23)).alloc (.cells #[.int .i64 0, .int .i64 0, .int .i64 0, .int .i64 0] 37)) 0 0 27
  have P0 := (P0.al (.cells #[.int .i64 0, .int .i64 0, .int .i64 0, .int .i64 0] 37)).al (.cells #[.int .i64 0, .int .i64 0] 27)
  have S0 := S0.al (.cells #[.int .i64 0, .int .i64 0] 27)
  have B0 : Below w.heap.size w (((w.alloc (.cells #[.int .i64 r, .int .i64 c, .int .i64 d, .int .i64 p] 23)).alloc (.cells #[.int .i64 0, .int .i64 0, .int .i64 0, .int .i64 0] 37)).alloc (.cells #[.int .i64 0, .int .i64 0] 27)) := by (repeat (first | exact Below.refl _ _ | assumption | refine Bw.al ?_ _ | refine Bw.step ?_ (by assumption) | refine Bw.drew ?_))
  simp only [World.size_alloc] at S0 F0
  clear h
  go_enter Tryz.func9, Tryz.ntmps9
  go_wp2_with fail
  generalize ((w.alloc (.cells #[.int .i64 r, .int .i64 c, .int .i64 d, .int .i64 p] 23)).alloc (.cells #[.int .i64 0, .int .i64 0, .int .i64 0, .int .i64 0] 37)).alloc (.cells #[.int .i64 0, .int .i64 0] 27) = W at *
  refine (HV.out _).mono ?_
  rintro e w1 ⟨rfl, hb1⟩
  have P0 := P0.below hb1
  have S0 := S0.below hb1
  have hs1 := S0.1
  have F0 := F0.below hb1
  have B0 := Bw.step B0 hb1
  have F1 := Has.new w1 C F 27
  have P0 := P0.al (.cells #[.int .i64 C, .int .i64 F] 27)
  have S0 := S0.al (.cells #[.int .i64 C, .int .i64 F] 27)
  have F0 := F0.al (.cells #[.int .i64 C, .int .i64 F] 27)
  have B0 := Bw.al B0 (.cells #[.int .i64 C, .int .i64 F] 27)
  obtain ⟨lfA, f0A, f1A, g0A, g1A⟩ := F1.far4 (g := w.heap.size + 1) (by omega) (.int .i64 0) (.int .i64 0) (.int .i64 0) (.int .i64 0)
  clear hs1
  obtain ⟨lf, f0, f1, g0, g1⟩ := id F1
  obtain ⟨lp, ⟨p0, p1, p2, p3⟩, q0, q1, q2, q3⟩ := id P0
  obtain ⟨ls, ⟨s0, s1, s2, s3⟩, t0, t1, t2, t3⟩ := id S0
  obtain ⟨l0, x0, x1, y0, y1⟩ := id F0
  go_wp2
  go_region
  go_wp2
  exact bodyPost_ret (resS rfl (.inl rfl) rfl rfl (H4.drew ((S0.set 0 0 0 0).far2 (by omega) _ _)) (Has.drew ((F0.far4 (by omega) _ _ _ _).set2 C F))) rfl ⟨rfl, Bw.drew (Bw.set2 (Bw.set4 B0 (by omega) _ _ _ _) (by omega) _ _)⟩
set_option maxHeartbeats 1000000 in
theorem lpPayload_ok (r c d p : Int) (w : World) (h : plF r c d p = (0, 0)) :
    Calls Tryz.prog 23 #[plV r c d p] w fun e w' => e = .returned (.tuple #[.int .i64 ((24 - r) * (16 - c)), .agg #[.int .i64 0, .int .i64 0]]) ∧ Below w.heap.size w w' := by
  have HV := Lib.hid (fun w => lpValidate_any r c d p w)
  rw [h] at HV
  obtain ⟨hr, hc, _, _⟩ := plF_ok h
  have HP := Lib.hid (fun w => lpPay_any r c d p w hr hc)
  generalize (24 - r) * (16 - c) = sz at *
  have P0 := H4.new w r c d p 23
  have F0 := Has.new (w.alloc (.cells #[.int .i64 r, .int .i64 c, .int .i64 d, .int .i64 p] 23)) 0 0 27
  have P0 := P0.al (.cells #[.int .i64 0, .int .i64 0] 27)
  have B0 : Below w.heap.size w ((w.alloc (.cells #[.int .i64 r, .int .i64 c, .int .i64 d, .int .i64 p] 23)).alloc (.cells #[.int .i64 0, .int .i64 0] 27)) := by (repeat (first | exact Below.refl _ _ | assumption | refine Bw.al ?_ _ | refine Bw.step ?_ (by assumption) | refine Bw.drew ?_))
  simp only [World.size_alloc] at F0
  clear h hr hc
  go_enter Tryz.func23, Tryz.ntmps23
  go_wp2_with fail
  generalize (w.alloc (.cells #[.int .i64 r, .int .i64 c, .int .i64 d, .int .i64 p] 23)).alloc (.cells #[.int .i64 0, .int .i64 0] 27) = W at *
  refine (HV.out _).mono ?_
  rintro e w1 ⟨rfl, hb1⟩
  have P0 := (P0.below hb1).al (.cells #[.int .i64 0, .int .i64 0] 27)
  have F0 := (F0.below hb1).al (.cells #[.int .i64 0, .int .i64 0] 27)
  have B0 := Bw.al (Bw.step B0 hb1) (.cells #[.int .i64 0, .int .i64 0] 27)
  have F1 := Has.new w1 0 0 27
  obtain ⟨lf, f0, f1, g0, g1⟩ := id F1
  obtain ⟨lp, ⟨p0, p1, p2, p3⟩, q0, q1, q2, q3⟩ := id P0
  go_wp2_with fail
  refine (HP.out _).mono ?_
  rintro e w2 ⟨rfl, hb2⟩
  have F0 := F0.below hb2
  have B0 := Bw.step B0 hb2
  obtain ⟨l0, x0, x1, y0, y1⟩ := id F0
  go_wp2
  exact bodyPost_ret (resF2 rfl rfl (F0.set2 0 0)) rfl ⟨rfl, Bw.set2 B0 (by omega) _ _⟩
set_option maxHeartbeats 1000000 in
theorem lpPayload_bad (r c d p : Int) (w : World) (h : plF r c d p ≠ (0, 0)) :
    Calls Tryz.prog 23 #[plV r c d p] w fun e w' => e = .returned (.tuple #[.int .i64 0, .agg #[.int .i64 (plF r c d p).1, .int .i64 (plF r c d p).2]]) ∧ Below w.heap.size w w' := by
  have HV := Lib.hid (fun w => lpValidate_any r c d p w)
  have hc := (plF_code r c d p).resolve_left h
  generalize (plF r c d p).1 = C at *
  generalize (plF r c d p).2 = F at *
  have xC : (C == 0) = false := by rw [beq_eq_false_iff_ne]; omega
  have F0 := Has.new (w.alloc (.cells #[.int .i64 r, .int .i64 c, .int .i64 d, .int .i64 p] 23)) 0 0 27
  have B0 : Below w.heap.size w ((w.alloc (.cells #[.int .i64 r, .int .i64 c, .int .i64 d, .int .i64 p] 23)).alloc (.cells #[.int .i64 0, .int .i64 0] 27)) := by (repeat (first | exact Below.refl _ _ | assumption | refine Bw.al ?_ _ | refine Bw.step ?_ (by assumption) | refine Bw.drew ?_))
  simp only [World.size_alloc] at F0
  clear h hc
  go_enter Tryz.func23, Tryz.ntmps23
  go_wp2_with fail
  generalize (w.alloc (.cells #[.int .i64 r, .int .i64 c, .int .i64 d, .int .i64 p] 23)).alloc (.cells #[.int .i64 0, .int .i64 0] 27) = W at *
  refine (HV.out _).mono ?_
  rintro e w1 ⟨rfl, hb1⟩
  have F0 := (F0.below hb1).al (.cells #[.int .i64 C, .int .i64 F] 27)
  have B0 := Bw.al (Bw.step B0 hb1) (.cells #[.int .i64 C, .int .i64 F] 27)
  have F1 := Has.new w1 C F 27
  obtain ⟨lf, f0, f1, g0, g1⟩ := id F1
  obtain ⟨l0, x0, x1, y0, y1⟩ := id F0
  go_wp2
  go_region
  go_wp2
  exact bodyPost_ret (resF2 rfl rfl (Has.drew (F0.set2 C F))) rfl ⟨rfl, Bw.drew (Bw.set2 B0 (by omega) _ _)⟩
end Go.Proofs.YtmpjkdkgolmgdaaGreat
