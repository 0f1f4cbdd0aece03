/- The rows that can have too many wrong bytes, plain: the least sums of k needs (the reference's table) are the sums of the k least ones (the program's sorted list). No program in sight. -/
import Derived.Test.YtnajdmkdkpmdgaaGf
namespace Go.Proofs.Ytnajdmkdkpmdgaa
set_option linter.unusedVariables false

/-- Sums of the first k. -/
def preS (s : List Int) (k : Nat) : Int := (s.take k).sum
theorem preS_zero (s : List Int) : preS s 0 = 0 := by simp [preS]
theorem preS_nil (k : Nat) : preS [] k = 0 := by simp [preS]
theorem preS_cons (x : Int) (s : List Int) (k : Nat) : preS (x :: s) (k + 1) = x + preS s k := by simp [preS]
theorem preS_succ {s : List Int} {k : Nat} (hk : k < s.length) : preS s (k + 1) = preS s k + s.getD k 0 := by
  unfold preS
  rw [List.take_succ_eq_append_getElem hk, List.sum_append]
  simp [hk]
def ins (x : Int) : List Int → List Int
  | [] => [x]
  | y :: s => if x ≤ y then x :: y :: s else y :: ins x s
theorem ins_len (x : Int) (s : List Int) : (ins x s).length = s.length + 1 := by
  induction s with
  | nil => rfl
  | cons y s ih => unfold ins; split; rfl; simp [ih]
def Srt (s : List Int) : Prop := s.Pairwise (· ≤ ·)
theorem mem_ins {x y : Int} {s : List Int} (h : y ∈ ins x s) : y = x ∨ y ∈ s := by
  induction s with
  | nil => simp [ins] at h; exact .inl h
  | cons z s ih =>
    unfold ins at h
    split at h
    · rcases List.mem_cons.1 h with h | h
      · exact .inl h
      · exact .inr h
    · rcases List.mem_cons.1 h with h | h
      · exact .inr (h ▸ List.mem_cons_self ..)
      · rcases ih h with h | h
        · exact .inl h
        · exact .inr (List.mem_cons_of_mem _ h)
theorem ins_srt (x : Int) {s : List Int} (h : Srt s) : Srt (ins x s) := by
  induction s with
  | nil => exact List.pairwise_singleton _ _
  | cons y s ih =>
    have h' := List.pairwise_cons.1 h
    unfold ins
    split
    · rename_i hxy
      refine List.pairwise_cons.2 ⟨fun z hz => ?_, h⟩
      rcases List.mem_cons.1 hz with hz | hz
      · rw [hz]; exact hxy
      · exact Int.le_trans hxy (h'.1 z hz)
    · rename_i hxy
      refine List.pairwise_cons.2 ⟨fun z hz => ?_, ih h'.2⟩
      rcases mem_ins hz with hz | hz
      · rw [hz]; omega
      · exact h'.1 z hz
/-- The k + 1 least of a list with x. -/
theorem preS_ins (x : Int) {s : List Int} (h : Srt s) : ∀ k, k < s.length → preS (ins x s) (k + 1) = min (preS s (k + 1)) (preS s k + x) := by
  induction s with
  | nil => intro k hk; exact absurd hk (Nat.not_lt_zero _)
  | cons y s ih =>
    intro k hk
    have h' := List.pairwise_cons.1 h
    unfold ins
    split
    · rename_i hxy
      rw [preS_cons]
      have hle : x ≤ (y :: s).getD k 0 := by
        cases k with
        | zero => exact hxy
        | succ k =>
          have hk' : k < s.length := by simpa using hk
          have : (y :: s).getD (k + 1) 0 = s[k] := by simp [hk']
          rw [this]
          exact Int.le_trans hxy (h'.1 _ (List.getElem_mem hk'))
      have := preS_succ hk
      omega
    · rename_i hxy
      rw [preS_cons]
      cases k with
      | zero =>
        rw [preS_zero, preS_cons, preS_zero, preS_zero]
        omega
      | succ k =>
        have hk' : k < s.length := by simpa using hk
        rw [ih h'.2 k hk', preS_cons, preS_cons]
        omega
theorem preS_all (x : Int) (s : List Int) : preS (ins x s) (s.length + 1) = preS s s.length + x := by
  induction s with
  | nil => simp [ins, preS]
  | cons y s ih =>
    unfold ins
    split
    · rw [List.length_cons, preS_cons]; omega
    · rw [List.length_cons, preS_cons, ih, preS_cons]; omega
/-- The list sorted, element by element. -/
def isrt (l : List Int) : List Int := l.foldl (fun s x => ins x s) []
theorem isrt_nil : isrt [] = [] := rfl
theorem isrt_snoc (l : List Int) (x : Int) : isrt (l ++ [x]) = ins x (isrt l) := by simp [isrt]
theorem snocI_ind {P : List Int → Prop} (h0 : P []) (h1 : ∀ a x, P a → P (a ++ [x])) : ∀ a, P a := by
  intro a
  have : ∀ b : List Int, P b.reverse := by
    intro b
    induction b with
    | nil => exact h0
    | cons x b ih => rw [List.reverse_cons]; exact h1 _ _ ih
  have h := this a.reverse
  rwa [List.reverse_reverse] at h
theorem isrt_len (l : List Int) : (isrt l).length = l.length := by
  refine snocI_ind (P := fun l => (isrt l).length = l.length) rfl (fun a x ih => ?_) l
  rw [isrt_snoc, ins_len, ih, List.length_append, List.length_singleton]
theorem isrt_srt (l : List Int) : Srt (isrt l) := by
  refine snocI_ind (P := fun l => Srt (isrt l)) List.Pairwise.nil (fun a x ih => ?_) l
  rw [isrt_snoc]; exact ins_srt x ih
theorem ins_perm (x : Int) (s : List Int) : (ins x s).Perm (x :: s) := by
  induction s with
  | nil => exact List.Perm.refl _
  | cons y s ih =>
    unfold ins
    split
    · exact List.Perm.refl _
    · exact (List.Perm.cons y ih).trans (List.Perm.swap x y s)
theorem isrt_perm (l : List Int) : (isrt l).Perm l := by
  refine snocI_ind (P := fun l => (isrt l).Perm l) (List.Perm.refl _) (fun a x ih => ?_) l
  rw [isrt_snoc]
  refine (ins_perm x _).trans ?_
  refine (List.Perm.cons x ih).trans ?_
  exact (List.perm_append_singleton x a).symm
theorem srt_unique : ∀ {a b : List Int}, Srt a → Srt b → a.Perm b → a = b
  | [], b, _, _, h => by rw [List.nil_perm] at h; exact h.symm
  | x :: a, [], _, _, h => by rw [List.perm_nil] at h; exact absurd h (by simp)
  | x :: a, y :: b, ha, hb, h => by
    have ha' := List.pairwise_cons.1 ha
    have hb' := List.pairwise_cons.1 hb
    have h1 : x ≤ y := by
      have : y ∈ x :: a := h.symm.subset (List.mem_cons_self ..)
      rcases List.mem_cons.1 this with e | e
      · rw [e]; exact Int.le_refl _
      · exact ha'.1 y e
    have h2 : y ≤ x := by
      have : x ∈ y :: b := h.subset (List.mem_cons_self ..)
      rcases List.mem_cons.1 this with e | e
      · rw [e]; exact Int.le_refl _
      · exact hb'.1 x e
    obtain rfl : x = y := by omega
    rw [srt_unique ha'.2 hb'.2 ((List.perm_cons x).1 h)]
theorem merge_isrt (l : List Int) : l.mergeSort (fun x y => decide (x ≤ y)) = isrt l := by
  refine srt_unique ?_ (isrt_srt l) ((List.mergeSort_perm l _).trans (isrt_perm l).symm)
  have := List.pairwise_mergeSort (le := fun x y : Int => decide (x ≤ y)) (fun a b c h1 h2 => by simp only [decide_eq_true_eq] at *; omega) (fun a b => by simp only [Bool.or_eq_true, decide_eq_true_eq]; omega) l
  exact this.imp fun h => by simpa using h
/-! ### The reference's table -/
def tab (l : List Int) : List Int := (List.range (l.length + 1)).map (preS (isrt l))
theorem tab_len (l : List Int) : (tab l).length = l.length + 1 := by simp [tab]
theorem tab_get (l : List Int) {k : Nat} (hk : k ≤ l.length) : (tab l).getD k 0 = preS (isrt l) k := by simp [tab, List.getD, show k < l.length + 1 by omega]
theorem tab_nil : tab [] = [0] := rfl
/-- The row for one more, after k of its elements were compared. -/
def tabMid (l : List Int) (x : Int) (k : Nat) : List Int := (List.range (l.length + 2)).map fun i => if i = l.length + 1 then preS (isrt l) l.length + x else if 0 < i ∧ i < k then min (preS (isrt l) i) (preS (isrt l) (i - 1) + x) else preS (isrt l) i
theorem tabMid_len (l : List Int) (x : Int) (k : Nat) : (tabMid l x k).length = l.length + 2 := by simp [tabMid]
theorem tabMid_get (l : List Int) (x : Int) (k : Nat) {i : Nat} (hi : i < l.length + 2) : (tabMid l x k).getD i 0 = if i = l.length + 1 then preS (isrt l) l.length + x else if 0 < i ∧ i < k then min (preS (isrt l) i) (preS (isrt l) (i - 1) + x) else preS (isrt l) i := by simp [tabMid, List.getD, hi]
theorem eqI_of_getD {a b : List Int} (hl : a.length = b.length) (h : ∀ i, i < a.length → a.getD i 0 = b.getD i 0) : a = b := by
  apply List.ext_getElem hl
  intro i h1 h2
  have := h i h1
  simpa [List.getD, List.getElem?_eq_getElem h1, List.getElem?_eq_getElem h2] using this
theorem appI_getD (a : List Int) (y : Int) (i : Nat) : (a ++ [y]).getD i 0 = if i < a.length then a.getD i 0 else if i = a.length then y else 0 := by
  by_cases h : i < a.length
  · rw [if_pos h]; simp [List.getD, List.getElem?_append, h]
  · rw [if_neg h]
    by_cases h2 : i = a.length
    · rw [if_pos h2]; subst h2; simp [List.getD]
    · rw [if_neg h2]; simp [List.getD, List.getElem?_append, h, show ¬ (i - a.length < 1) by omega]
theorem tabMid_start (l : List Int) (x : Int) : tab l ++ [preS (isrt l) l.length + x] = tabMid l x 1 := by
  refine eqI_of_getD (by rw [List.length_append, tab_len, tabMid_len]; rfl) fun i hi => ?_
  rw [List.length_append, tab_len, List.length_singleton] at hi
  rw [tabMid_get _ _ _ (by omega), appI_getD, tab_len]
  by_cases h : i < l.length + 1
  · rw [if_pos h, if_neg (by omega), if_neg (by omega), tab_get _ (by omega)]
  · rw [if_neg h, if_pos (by omega), if_pos (by omega)]
theorem tabMid_keep (l : List Int) (x : Int) {k : Nat} (hk : 0 < k) (hl : k ≤ l.length) (h : ¬ (preS (isrt l) (k - 1) + x < preS (isrt l) k)) : tabMid l x (k + 1) = tabMid l x k := by
  refine eqI_of_getD (by rw [tabMid_len, tabMid_len]) fun i hi => ?_
  rw [tabMid_len] at hi
  rw [tabMid_get _ _ _ hi, tabMid_get _ _ _ hi]
  by_cases h1 : i = l.length + 1
  · rw [if_pos h1, if_pos h1]
  · rw [if_neg h1, if_neg h1]
    by_cases h2 : i = k
    · subst h2; rw [if_pos ⟨hk, by omega⟩, if_neg (by omega)]; omega
    · by_cases h3 : 0 < i ∧ i < k
      · rw [if_pos h3, if_pos (by omega)]
      · rw [if_neg h3, if_neg (by omega)]
theorem tabMid_set (l : List Int) (x : Int) {k : Nat} (hk : 0 < k) (hl : k ≤ l.length) (h : preS (isrt l) (k - 1) + x < preS (isrt l) k) : (tabMid l x k).set k (preS (isrt l) (k - 1) + x) = tabMid l x (k + 1) := by
  refine eqI_of_getD (by rw [List.length_set, tabMid_len, tabMid_len]) fun i hi => ?_
  rw [List.length_set, tabMid_len] at hi
  rw [tabMid_get _ _ _ hi]
  by_cases h2 : i = k
  · subst h2
    have : ((tabMid l x i).set i (preS (isrt l) (i - 1) + x)).getD i 0 = preS (isrt l) (i - 1) + x := by
      have : i < (tabMid l x i).length := by rw [tabMid_len]; exact hi
      simp [List.getD, this]
    rw [this, if_neg (by omega), if_pos ⟨hk, by omega⟩]; omega
  · have : ((tabMid l x k).set k (preS (isrt l) (k - 1) + x)).getD i 0 = (tabMid l x k).getD i 0 := by simp [List.getD, Ne.symm h2]
    rw [this, tabMid_get _ _ _ hi]
    by_cases h1 : i = l.length + 1
    · rw [if_pos h1, if_pos h1]
    · rw [if_neg h1, if_neg h1]
      by_cases h3 : 0 < i ∧ i < k
      · rw [if_pos h3, if_pos (by omega)]
      · rw [if_neg h3, if_neg (by omega)]
theorem tabMid_end (l : List Int) (x : Int) : tabMid l x (l.length + 1) = tab (l ++ [x]) := by
  refine eqI_of_getD (by rw [tabMid_len, tab_len, List.length_append, List.length_singleton]) fun i hi => ?_
  rw [tabMid_len] at hi
  have hl := isrt_len l
  rw [tabMid_get _ _ _ hi, tab_get _ (by rw [List.length_append, List.length_singleton]; omega), isrt_snoc]
  by_cases h1 : i = l.length + 1
  · rw [if_pos h1, h1]
    have := preS_all x (isrt l)
    rw [hl] at this
    exact this.symm
  · rw [if_neg h1]
    cases i with
    | zero => rw [if_neg (by omega), preS_zero, preS_zero]
    | succ i => rw [if_pos ⟨by omega, by omega⟩, preS_ins x (isrt_srt l) i (by omega)]; rfl
/-! ### The count -/
def cntS : List Int → Int → Nat
  | [], _ => 0
  | x :: s, m => if m - x < 0 then 0 else cntS s (m - x) + 1
theorem cntS_le (s : List Int) (m : Int) : cntS s m ≤ s.length := by
  induction s generalizing m with
  | nil => exact Nat.le_refl _
  | cons x s ih =>
    unfold cntS
    split
    · exact Nat.zero_le _
    · have := ih (m - x); rw [List.length_cons]; omega
theorem preS_nonneg {s : List Int} (h : ∀ x ∈ s, 0 ≤ x) (k : Nat) : 0 ≤ preS s k := by
  induction s generalizing k with
  | nil => rw [preS_nil]; exact Int.le_refl _
  | cons x s ih =>
    cases k with
    | zero => rw [preS_zero]; exact Int.le_refl _
    | succ k =>
      rw [preS_cons]
      have h1 := h x (List.mem_cons_self ..)
      have h2 := ih (fun y hy => h y (List.mem_cons_of_mem _ hy)) k
      omega
/-- Just the first ones fit. -/
theorem cntS_iff {s : List Int} (h : ∀ x ∈ s, 0 ≤ x) {m : Int} (hm : 0 ≤ m) (k : Nat) (hk : k ≤ s.length) : preS s k ≤ m ↔ k ≤ cntS s m := by
  induction s generalizing m k with
  | nil =>
    have : k = 0 := by simpa using hk
    subst this
    simp [preS, cntS, hm]
  | cons x s ih =>
    have hx := h x (List.mem_cons_self ..)
    have hs := fun y hy => h y (List.mem_cons_of_mem _ hy)
    cases k with
    | zero => rw [preS_zero]; simp [hm]
    | succ k =>
      rw [preS_cons]
      unfold cntS
      have hp := preS_nonneg hs k
      split
      · constructor
        · intro h; omega
        · intro h; omega
      · rename_i hlt
        have := ih hs (m := m - x) (by omega) k (by simpa using hk)
        constructor
        · intro h; have := this.1 (by omega); omega
        · intro h; have := this.2 (by omega); omega
/-- The reference's best: the last k that fits. -/
def bestT (f : Nat → Int) (m : Int) : Nat → Nat
  | 0 => 0
  | k + 1 => if f k ≤ m then k else bestT f m k
theorem bestT_cnt {l : List Int} (h : ∀ x ∈ l, 0 ≤ x) {m : Int} (hm : 0 ≤ m) : bestT (preS (isrt l)) m (l.length + 1) = cntS (isrt l) m := by
  have hs : ∀ x ∈ isrt l, 0 ≤ x := fun x hx => h x ((isrt_perm l).subset hx)
  have hle := cntS_le (isrt l) m
  have hl := isrt_len l
  have key : ∀ k, k ≤ l.length + 1 → bestT (preS (isrt l)) m k = if k = 0 then 0 else min (k - 1) (cntS (isrt l) m) := by
    intro k
    induction k with
    | zero => intro _; rfl
    | succ k ih =>
      intro hk
      rw [if_neg (by omega), bestT]
      have hi := cntS_iff hs hm k (by omega)
      by_cases hf : preS (isrt l) k ≤ m
      · rw [if_pos hf]
        have := hi.1 hf
        omega
      · rw [if_neg hf, ih (by omega)]
        have : ¬ k ≤ cntS (isrt l) m := fun h => hf (hi.2 h)
        by_cases h0 : k = 0
        · omega
        · rw [if_neg h0]; omega
  rw [key _ (Nat.le_refl _), if_neg (by omega)]
  omega
/-! ### The rows of a page -/
def needL (t : Int) (h : List Int) : List Int := h.map fun n => max (t + 1 - n) 0
theorem needL_nonneg (t : Int) (h : List Int) : ∀ x ∈ needL t h, 0 ≤ x := by
  intro x hx
  unfold needL at hx
  obtain ⟨n, _, rfl⟩ := List.mem_map.1 hx
  omega
theorem needL_len (t : Int) (h : List Int) : (needL t h).length = h.length := by simp [needL]
def badC (h : List Int) (t m : Int) : Nat := cntS (isrt (needL t h)) m
/-- Sums of the least ones grow with the list. -/
theorem preS_mono : ∀ {a b : List Int}, a.length = b.length → (∀ i, a.getD i 0 ≤ b.getD i 0) → ∀ k, k ≤ a.length → preS (isrt a) k ≤ preS (isrt b) k := by
  have key : ∀ (n : Nat) (a b : List Int), a.length = n → b.length = n → (∀ i, a.getD i 0 ≤ b.getD i 0) → ∀ k, k ≤ n → preS (isrt a) k ≤ preS (isrt b) k := by
    intro n
    induction n with
    | zero =>
      intro a b ha hb _ k hk
      obtain rfl : k = 0 := by omega
      rw [preS_zero, preS_zero]; exact Int.le_refl _
    | succ n ih =>
      intro a b ha hb hle k hk
      obtain ⟨a', x, rfl⟩ : ∃ a' x, a = a' ++ [x] := ⟨a.dropLast, a.getLast (by intro e; rw [e] at ha; simp at ha), (List.dropLast_concat_getLast _).symm⟩
      obtain ⟨b', y, rfl⟩ : ∃ b' y, b = b' ++ [y] := ⟨b.dropLast, b.getLast (by intro e; rw [e] at hb; simp at hb), (List.dropLast_concat_getLast _).symm⟩
      have la : a'.length = n := by simpa using ha
      have lb : b'.length = n := by simpa using hb
      have hle' : ∀ i, a'.getD i 0 ≤ b'.getD i 0 := fun i => by
        by_cases hi : i < n
        · have := hle i
          rw [appI_getD, appI_getD, if_pos (by omega), if_pos (by omega)] at this
          exact this
        · simp [List.getD, show a'.length ≤ i by omega, show b'.length ≤ i by omega]
      have hxy : x ≤ y := by
        have := hle n
        simpa only [appI_getD, la, lb, Nat.lt_irrefl, if_false, if_true] using this
      rw [isrt_snoc, isrt_snoc]
      have h := ih a' b' la lb hle'
      have sa := isrt_len a'
      have sb := isrt_len b'
      cases k with
      | zero => rw [preS_zero, preS_zero]; exact Int.le_refl _
      | succ k =>
        by_cases hkn : k < n
        · rw [preS_ins x (isrt_srt a') k (by omega), preS_ins y (isrt_srt b') k (by omega)]
          have h1 := h k (by omega)
          have h2 := h (k + 1) (by omega)
          omega
        · obtain rfl : k = n := by omega
          have e1 := preS_all x (isrt a')
          have e2 := preS_all y (isrt b')
          rw [sa, la] at e1
          rw [sb, lb] at e2
          rw [e1, e2]
          have h1 := h k (Nat.le_refl _)
          omega
  intro a b hl hle k hk
  exact key a.length a b rfl hl.symm hle k hk
theorem needL_getD (t : Int) {h : List Int} {i : Nat} (hi : i < h.length) : (needL t h).getD i 0 = max (t + 1 - h.getD i 0) 0 := by simp [needL, List.getD, hi]
theorem badC_mono {h h' : List Int} {t t' m m' : Int} (hl : h.length = h'.length) (hh : ∀ i, h.getD i 0 ≤ h'.getD i 0) (ht : t' ≤ t) (hm : 0 ≤ m) (hmm : m ≤ m') : badC h t m ≤ badC h' t' m' := by
  unfold badC
  have hn := fun x hx => needL_nonneg t h x ((isrt_perm _).subset hx)
  have hn' := fun x hx => needL_nonneg t' h' x ((isrt_perm _).subset hx)
  have hle := cntS_le (isrt (needL t h)) m
  have h1 := (cntS_iff hn hm _ hle).2 (Nat.le_refl _)
  have hlen : (isrt (needL t' h')).length = (isrt (needL t h)).length := by rw [isrt_len, isrt_len, needL_len, needL_len, hl]
  refine (cntS_iff hn' (by omega) _ (by omega)).1 ?_
  have h2 := preS_mono (a := needL t' h') (b := needL t h) (by rw [needL_len, needL_len, hl]) (fun i => by
    by_cases hi : i < h.length
    · rw [needL_getD t hi, needL_getD t' (by omega)]
      have := hh i
      omega
    · simp [List.getD, needL, show h.length ≤ i by omega, show h'.length ≤ i by omega]) (cntS (isrt (needL t h)) m) (by rw [needL_len, ← hl]; rw [isrt_len, needL_len] at hle; exact hle)
  omega
end Go.Proofs.Ytnajdmkdkpmdgaa
