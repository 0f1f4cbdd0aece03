/- Texts of this proof, laid together: XSvB, XSvC, XQuF, XQuG, XQuH, XQuI, XSvD. -/
import Derived.Test.YtcinfkmekkdhfaaMa
import Derived.Test.YtcinfkmekkdhfaaMd
import Derived.Test.YtcinfkmekkdhfaaMc
import Derived.Lib.Hide
/- Slices of slices of bytes that a call owns: the outer row, the inner rows, all in blocks of their own. -/
namespace Go.Proofs.Ytcinfkmekkdhfaa
open Go.RowKit
set_option linter.unusedVariables false

theorem infoS : (Try.prog.info? 41).map (fun i => (i.zero, i.size, i.bytes)) = some (some (.slice none 0 0), 1, 24) := by kernel_rfl
/-- Two values do not own one block. -/
def Apt (a b : Value) : Prop := a.ownBlock = none ∨ a.ownBlock ≠ b.ownBlock
theorem Apt.symm {a b : Value} (h : Apt a b) : Apt b a := by
  unfold Apt at *
  cases hb : b.ownBlock with
  | none => exact .inl rfl
  | some g => exact .inr fun e => h.elim (fun h => by rw [h] at e; cases e) (fun h => h (by rw [hb]; exact e.symm))
structure OwM (w : World) (B : Nat) (v : Value) (hv : List Value) (L : List (List GF)) : Prop where
  len : hv.length = L.length
  out : w.ownsRow B 41 1 v hv.length hv
  row : ∀ i, i < L.length → OwB w B (hv.getD i undef) (L.getD i [])
  sep : ∀ i j, i < L.length → j < L.length → i ≠ j → Apt (hv.getD i undef) (hv.getD j undef)
  far : ∀ i, i < L.length → Apt (hv.getD i undef) v
theorem OwM.nil (w : World) (B : Nat) : OwM w B (.slice none 0 0) [] [] :=
  ⟨rfl, World.ownsRow_nil w B 41 1, fun i hi => absurd hi (Nat.not_lt_zero _), fun i j hi => absurd hi (Nat.not_lt_zero _), fun i hi => absurd hi (Nat.not_lt_zero _)⟩
theorem OwM.below {w w' : World} {B : Nat} {v : Value} {hv : List Value} {L : List (List GF)} (h : OwM w B v hv L) (hb : Below w.heap.size w w') : OwM w' B v hv L :=
  ⟨h.len, own_below h.out hb, fun i hi => (h.row i hi).below hb, h.sep, h.far⟩
/-- The outer row's growth, or another owned row's: the matrix stays. -/
theorem OwM.kept {w w' : World} {B : Nat} {v : Value} {hv : List Value} {L : List (List GF)} {r : Option Nat} (h : OwM w B v hv L) (hg : w.grownBy w' r) (hv' : v.ownBlock = none ∨ v.ownBlock ≠ r) (hr : ∀ i, i < L.length → (hv.getD i undef).ownBlock = none ∨ (hv.getD i undef).ownBlock ≠ r) : OwM w' B v hv L :=
  ⟨h.len, World.ownsRow.kept h.out hg hv', fun i hi => World.ownsRow.kept (h.row i hi) hg (hr i hi), h.sep, h.far⟩
theorem getD_app_l {α : Type} {l r : List α} {d : α} {i : Nat} (h : i < l.length) : (l ++ r).getD i d = l.getD i d := by
  simp [List.getD, List.getElem?_append_left h]
theorem getD_app_r {α : Type} {l : List α} {x d : α} : (l ++ [x]).getD l.length d = x := by simp [List.getD]
theorem OwM.head {w : World} {B : Nat} {v : Value} {hv : List Value} {L : List (List GF)} (h : OwM w B v hv L) (hn : 0 < L.length) : ∃ g c, v = .slice (some ⟨g, 0, none⟩) L.length c ∧ B ≤ g ∧ g < w.heap.size := by
  rcases h.out.2 with ⟨h1, h2⟩ | ⟨g, cap, cur, hv', hB, hh, _⟩
  · have := h.len; omega
  · refine ⟨g, cap, by rw [hv', h.len], hB, ?_⟩
    rcases Nat.lt_or_ge g w.heap.size with h' | h'
    · exact h'
    · rw [Array.getElem?_eq_none h'] at hh; cases hh
theorem OwM.form {w : World} {B : Nat} {v : Value} {hv : List Value} {L : List (List GF)} (h : OwM w B v hv L) : ∃ A c, v = .slice A L.length c := by
  rcases h.out.2 with ⟨h1, h2⟩ | ⟨g, cap, cur, hv', hB, hh, _⟩
  · have := h.len; exact ⟨none, 0, by rw [h1]; congr 1; omega⟩
  · exact ⟨_, cap, by rw [hv', h.len]⟩
theorem OwM.cellAt {w : World} {B g c : Nat} {hv : List Value} {L : List (List GF)} (h : OwM w B (.slice (some ⟨g, 0, none⟩) L.length c) hv L) {i : Nat} (hi : i < L.length) : w.cell? ⟨g, i, none⟩ = some (hv.getD i undef) := by
  have ho := h.out
  rw [← h.len] at ho
  have := World.ownsRow.cellAt (g := g) (cap := c) ho i (by have := h.len; omega)
  rw [this]
  simp [List.getD, show i < hv.length by rw [h.len]; exact hi]
theorem OwM.frozenAt {w : World} {B g c : Nat} {hv : List Value} {L : List (List GF)} (h : OwM w B (.slice (some ⟨g, 0, none⟩) L.length c) hv L) (i : Nat) : w.frozen? ⟨g, i, none⟩ = false := by
  have ho := h.out
  rw [← h.len] at ho
  exact World.ownsRow.frozenAt (g := g) (cap := c) ho i
theorem getD_set_eq {α : Type} {l : List α} {i : Nat} {x d : α} (h : i < l.length) : (l.set i x).getD i d = x := by simp [List.getD, h]
theorem getD_set_neq {α : Type} {l : List α} {i j : Nat} {x d : α} (h : i ≠ j) : (l.set i x).getD j d = l.getD j d := by simp [List.getD, h]
/-- A cell of an inner row is written. -/
theorem OwM.put {w : World} {B g c gi ni ci : Nat} {hv : List Value} {L : List (List GF)} (h : OwM w B (.slice (some ⟨g, 0, none⟩) L.length c) hv L) {i : Nat} (hi : i < L.length) (hvi : hv.getD i undef = .slice (some ⟨gi, 0, none⟩) ni ci) (k : Nat) (y : GF) :
    OwM (w.setCell ⟨gi, k, none⟩ (.int .u8 y.z)) B (.slice (some ⟨g, 0, none⟩) L.length c) hv (L.set i ((L.getD i []).set k y)) := by
  have hne : gi ≠ g := by
    rcases h.far i hi with e | e
    · rw [hvi] at e; cases e
    · rw [hvi] at e; exact fun e2 => e (by rw [e2]; rfl)
  refine ⟨by rw [List.length_set]; exact h.len, own_far h.out (p := ⟨gi, k, none⟩) hne _, fun j hj => ?_, fun a b ha hb => ?_, fun j hj => ?_⟩
  · rw [List.length_set] at hj
    have hr := h.row j hj
    by_cases e : j = i
    · subst e
      rw [getD_set_eq hj]
      rw [hvi] at hr ⊢
      exact hr.set k y
    · rw [getD_set_neq (fun e' => e e'.symm)]
      rcases h.sep i j hi hj (fun e' => e e'.symm) with e2 | e2
      · rw [hvi] at e2; cases e2
      · -- another block, or none
        obtain ⟨A', c', hf⟩ := hr.form
        rw [hf] at hr e2 ⊢
        cases A' with
        | none =>
          rcases hr.2 with ⟨h1, h2⟩ | ⟨g', cap, cur, hv', _⟩
          · exact ⟨hr.1, .inl ⟨h1, h2⟩⟩
          · cases hv'
        | some ad =>
          rcases hr.2 with ⟨h1, h2⟩ | ⟨g', cap, cur, hv', hB, hh, hx⟩
          · cases h1
          · injection hv' with e3 e4 e5
            injection e3 with e3
            subst e3
            refine hr.far (p := ⟨gi, k, none⟩) (fun e4 => e2 ?_) _
            rw [hvi]
            show some gi = some g'
            rw [show gi = g' from e4]
  · rw [List.length_set] at ha hb; exact h.sep a b ha hb
  · rw [List.length_set] at hj; exact h.far j hj
/-- Two of the outer row's cells are exchanged. -/
theorem OwM.swap {w : World} {B g c : Nat} {hv : List Value} {L : List (List GF)} (h : OwM w B (.slice (some ⟨g, 0, none⟩) L.length c) hv L) {i j : Nat} (hi : i < L.length) (hj : j < L.length) :
    OwM ((w.setCell ⟨g, i, none⟩ (hv.getD j undef)).setCell ⟨g, j, none⟩ (hv.getD i undef)) B (.slice (some ⟨g, 0, none⟩) L.length c) ((hv.set i (hv.getD j undef)).set j (hv.getD i undef)) ((L.set i (L.getD j [])).set j (L.getD i [])) := by
  have hl := h.len
  have hvl : ∀ k, ((hv.set i (hv.getD j undef)).set j (hv.getD i undef)).getD k undef = hv.getD (if k = j then i else if k = i then j else k) undef := fun k => by
    by_cases e : k = j
    · subst e; rw [if_pos rfl, getD_set_eq (by rw [List.length_set, hl]; exact hj)]
    · rw [if_neg e, getD_set_neq (fun e' => e e'.symm)]
      by_cases e2 : k = i
      · subst e2; rw [if_pos rfl, getD_set_eq (by rw [hl]; exact hi)]
      · rw [if_neg e2, getD_set_neq (fun e' => e2 e'.symm)]
  have hLl : ∀ k, ((L.set i (L.getD j [])).set j (L.getD i [])).getD k [] = L.getD (if k = j then i else if k = i then j else k) [] := fun k => by
    by_cases e : k = j
    · subst e; rw [if_pos rfl, getD_set_eq (by rw [List.length_set]; exact hj)]
    · rw [if_neg e, getD_set_neq (fun e' => e e'.symm)]
      by_cases e2 : k = i
      · subst e2; rw [if_pos rfl, getD_set_eq hi]
      · rw [if_neg e2, getD_set_neq (fun e' => e2 e'.symm)]
  have hlt : ∀ k, k < L.length → (if k = j then i else if k = i then j else k) < L.length := fun k hk => by split; exact hi; split; exact hj; exact hk
  have hinj : ∀ a b, a ≠ b → (if a = j then i else if a = i then j else a) ≠ (if b = j then i else if b = i then j else b) := fun a b hab => by
    repeat' split
    all_goals omega
  have hrow : ∀ k, k < L.length → Apt (hv.getD k undef) (.slice (some ⟨g, 0, none⟩) L.length c) := h.far
  have ho : ((w.setCell ⟨g, i, none⟩ (hv.getD j undef)).setCell ⟨g, j, none⟩ (hv.getD i undef)).ownsRow B 41 1 (.slice (some ⟨g, 0, none⟩) L.length c) L.length ((hv.set i (hv.getD j undef)).set j (hv.getD i undef)) := by
    have h0 := h.out
    rw [hl] at h0
    have h1 := (World.ownsRow.stored (g := g) (cap := c) h0 i (hv.getD j undef)).1
    exact (World.ownsRow.stored (g := g) (cap := c) h1 j (hv.getD i undef)).1
  -- the inner rows lie in other blocks
  have hin : ∀ k, k < L.length → OwB ((w.setCell ⟨g, i, none⟩ (hv.getD j undef)).setCell ⟨g, j, none⟩ (hv.getD i undef)) B (hv.getD k undef) (L.getD k []) := fun k hk => by
    have hr := h.row k hk
    obtain ⟨A', c', hf⟩ := hr.form
    have hfar := h.far k hk
    rw [hf] at hr hfar ⊢
    cases A' with
    | none =>
      rcases hr.2 with ⟨h1, h2⟩ | ⟨g', cap, cur, hv', _⟩
      · exact ⟨hr.1, .inl ⟨h1, h2⟩⟩
      · cases hv'
    | some ad =>
      rcases hr.2 with ⟨h1, h2⟩ | ⟨g', cap, cur, hv', hB, hh, hx⟩
      · cases h1
      · injection hv' with e3 e4 e5
        injection e3 with e3
        subst e3
        have hgg : g ≠ g' := by
          rcases hfar with e | e
          · cases e
          · exact fun e2 => e (by rw [← e2]; rfl)
        exact (hr.far (p := ⟨g, i, none⟩) hgg _).far (p := ⟨g, j, none⟩) hgg _
  refine ⟨by simp [hl], by simpa [hl] using ho, fun k hk => ?_, fun a b ha hb hab => ?_, fun k hk => ?_⟩
  · simp only [List.length_set] at hk
    rw [hvl, hLl]; exact hin _ (hlt k hk)
  · simp only [List.length_set] at ha hb
    rw [hvl, hvl]; exact h.sep _ _ (hlt a ha) (hlt b hb) (hinj a b hab)
  · simp only [List.length_set] at hk
    rw [hvl]; simpa using h.far _ (hlt k hk)
end Go.Proofs.Ytcinfkmekkdhfaa
/- Slices of slices: reading, pushing a row, writes far away; the matrix in memory against the matrix as a function. -/
namespace Go.Proofs.Ytcinfkmekkdhfaa
open Go.RowKit
set_option linter.unusedVariables false

/-- Rows that can be read. -/
def RdM (w : World) (A : Option Addr) (n : Nat) (L : List (List GF)) : Prop :=
  L.length = n ∧ (0 < n → ∃ b off, A = some ⟨b, off, none⟩ ∧ b < w.heap.size ∧ ∀ i, i < n → ∃ Ai ci, w.cell? ⟨b, off + i, none⟩ = some (.slice Ai (L.getD i []).length ci) ∧ RdB w Ai (L.getD i []).length (L.getD i []))
theorem RdM.below {w w' : World} {A : Option Addr} {n : Nat} {L : List (List GF)} (h : RdM w A n L) (hb : Below w.heap.size w w') : RdM w' A n L := by
  refine ⟨h.1, fun hn => ?_⟩
  obtain ⟨b, off, e, hlt, hc⟩ := h.2 hn
  refine ⟨b, off, e, Nat.lt_of_lt_of_le hlt hb.size, fun i hi => ?_⟩
  obtain ⟨Ai, ci, h1, h2⟩ := hc i hi
  exact ⟨Ai, ci, (hb.cell (p := ⟨b, off + i, none⟩) hlt).trans h1, h2.below hb⟩
theorem OwM.rd {w : World} {B : Nat} {A : Option Addr} {n c : Nat} {hv : List Value} {L : List (List GF)} (h : OwM w B (.slice A n c) hv L) : RdM w A n L ∧ n = L.length := by
  have hn : n = L.length := by
    obtain ⟨A', c', e⟩ := h.form
    injection e
  subst hn
  refine ⟨⟨rfl, fun h0 => ?_⟩, rfl⟩
  obtain ⟨g, c', e, hB, hlt⟩ := h.head h0
  injection e with e1 e2 e3
  subst e1; subst e3
  refine ⟨g, 0, rfl, hlt, fun i hi => ?_⟩
  obtain ⟨Ai, ci, hf⟩ := (h.row i hi).form
  have hr := h.row i hi
  rw [hf] at hr
  exact ⟨Ai, ci, by rw [Nat.zero_add, h.cellAt hi, hf], hr.rd.1⟩
theorem own_lt {w : World} {B : Nat} {e : TypeId} {s : Nat} {v : Value} {n : Nat} {xs : List Value} (h : w.ownsRow B e s v n xs) {g : Nat} (hg : v.ownBlock = some g) : B ≤ g ∧ g < w.heap.size := World.ownsRow.lt h g hg
/-- What was owned, and what was made later. -/
theorem Apt.fresh {w w' : World} {B B' : Nat} {e e' : TypeId} {s s' : Nat} {v v' : Value} {n n' : Nat} {xs xs' : List Value} (h : w.ownsRow B e s v n xs) (h' : w'.ownsRow B' e' s' v' n' xs') (hB : w.heap.size ≤ B') : Apt v v' := by
  unfold Apt
  cases hv : v.ownBlock with
  | none => exact .inl rfl
  | some g =>
    refine .inr fun e => ?_
    have h1 := own_lt h hv
    have h2 := own_lt h' e.symm
    omega
/-- A change at or above S leaves what lies below it. -/
theorem own_belowS {w w' : World} {B S : Nat} {e : TypeId} {s : Nat} {v : Value} {n : Nat} {xs : List Value} (h : w.ownsRow B e s v n xs) (hS : ∀ g, v.ownBlock = some g → g < S) (hb : Below S w w') : w'.ownsRow B e s v n xs := by
  refine ⟨h.1, ?_⟩
  rcases h.2 with h' | ⟨g, cap, cur, hv, hB, hh, hn⟩
  · exact .inl h'
  · exact .inr ⟨g, cap, cur, hv, hB, (hb.block g (hS g (by rw [hv]; rfl))).trans hh, hn⟩
def OwM.low (S : Nat) (v : Value) (hv : List Value) : Prop := (∀ g, v.ownBlock = some g → g < S) ∧ ∀ i g, i < hv.length → (hv.getD i undef).ownBlock = some g → g < S
theorem OwM.belowS {w w' : World} {B S : Nat} {v : Value} {hv : List Value} {L : List (List GF)} (h : OwM w B v hv L) (hS : OwM.low S v hv) (hb : Below S w w') : OwM w' B v hv L :=
  ⟨h.len, own_belowS h.out hS.1 hb, fun i hi => own_belowS (h.row i hi) (fun g hg => hS.2 i g (by rw [h.len]; exact hi) hg) hb, h.sep, h.far⟩
theorem OwM.lows {w : World} {B : Nat} {v : Value} {hv : List Value} {L : List (List GF)} (h : OwM w B v hv L) : OwM.low w.heap.size v hv :=
  ⟨fun g hg => (own_lt h.out hg).2, fun i g hi hg => (own_lt (h.row i (by rw [← h.len]; exact hi)) hg).2⟩
theorem RdV.one (w : World) (r : Value) (t : TypeId) (hr : r.cells = #[r]) : RdV (w.alloc (.cells #[r] t)) (some ⟨w.heap.size, 0, none⟩) 1 [r] := by
  refine ⟨rfl, fun _ => ⟨w.heap.size, 0, rfl, fun j u hu => ?_⟩⟩
  cases j with
  | zero =>
    have : u = r := by simpa using hu.symm
    subst this
    simp [go_sem]
  | succ j => simp at hu
/-- append of one row. -/
theorem wpList_pushM (w : World) {ops : Array Oper} {rest : List Oper} {o : Oper} {a : Act} {Q : Exit → Act → World → Prop} (hgd : o.guard = none) (s x : Operand)
    (ho : o.op = .call { callee := .builtin .append, args := #[s, x], argTypes := #[22, 22] }) (B : Nat)
    (v : Value) (hv : List Value) (L : List (List GF)) (hM : OwM w B v hv L) (r : Value) (l : List GF) (hr : OwB w B r l) (hsep : ∀ i, i < L.length → Apt (hv.getD i undef) r) (hfar : Apt r v)
    (hs : a.eval s = v) (t : TypeId) (hx : a.eval x = .slice (some ⟨w.heap.size, 0, none⟩) 1 1) (hlen : L.length ≤ 1099511627) (hbase : B ≤ w.heap.size)
    (h : ∀ v' w', OwM w' B v' (hv ++ [r]) (L ++ [l]) → Below B w w' → wpList Try.prog ops Q rest (a.put o.dst v') w') : wpList Try.prog ops Q (o :: rest) a (w.alloc (.cells #[r] t)) := by
  obtain ⟨A, c, hf⟩ := hr.form
  have hl := hM.len
  have h0 := hM.below (below_new w (.cells #[r] t))
  refine wpList_app _ hgd s x _ ho B 41 (.slice none 0 0) 24 Try.underlying22 infoS rfl v hv.length hv hs h0.out (some ⟨w.heap.size, 0, none⟩) 1 1 [r] hx (RdV.one w r t (by rw [hf]; rfl)) (by intro u hu; rw [List.mem_singleton] at hu; subst hu; rw [hf]; rfl) (by unfold maxLen; omega) (by omega) (by simp; omega) (fun v' w' h1 h2 h3 => h v' w' ?_ ?_)
  · have hz : (w.alloc (.cells #[r] t)).heap.size = w.heap.size + 1 := by simp
    have hfar' : ∀ u L, OwB w B u L → Apt u v → Apt u v' := fun u L hu hne => by
      unfold Apt at *
      cases hb : u.ownBlock with
      | none => exact .inl rfl
      | some g =>
        right
        rcases h3 with h3 | h3
        · rw [h3]
          rcases hne with e | e
          · rw [e] at hb; cases hb
          · rw [← hb]; exact e
        · rw [h3, hz]
          intro e
          have := own_lt hu hb
          have : g = w.heap.size + 1 := Option.some.inj e
          omega
    refine ⟨by simp [hl], ?_, fun i hi => ?_, fun i j hi hj hij => ?_, fun i hi => ?_⟩
    · rw [List.length_append]; exact h1
    · rw [List.length_append, List.length_singleton] at hi
      by_cases e : i < L.length
      · rw [getD_app_l (by rw [hl]; exact e), getD_app_l e]
        exact World.ownsRow.kept (h0.row i e) h2 (h0.far i e)
      · obtain rfl : i = L.length := by omega
        rw [show (hv ++ [r]).getD L.length undef = r by rw [← hl]; exact getD_app_r, getD_app_r]
        exact World.ownsRow.kept (hr.below (below_new w _)) h2 hfar
    · rw [List.length_append, List.length_singleton] at hi hj
      by_cases ei : i < L.length
      · rw [getD_app_l (by rw [hl]; exact ei)]
        by_cases ej : j < L.length
        · rw [getD_app_l (by rw [hl]; exact ej)]; exact hM.sep i j ei ej hij
        · obtain rfl : j = L.length := by omega
          rw [show (hv ++ [r]).getD L.length undef = r by rw [← hl]; exact getD_app_r]; exact hsep i ei
      · obtain rfl : i = L.length := by omega
        rw [show (hv ++ [r]).getD L.length undef = r by rw [← hl]; exact getD_app_r]
        have ej : j < L.length := by omega
        rw [getD_app_l (by rw [hl]; exact ej)]; exact (hsep j ej).symm
    · rw [List.length_append, List.length_singleton] at hi
      by_cases e : i < L.length
      · rw [getD_app_l (by rw [hl]; exact e)]; exact hfar' _ _ (hM.row i e) (hM.far i e)
      · obtain rfl : i = L.length := by omega
        rw [show (hv ++ [r]).getD L.length undef = r by rw [← hl]; exact getD_app_r]
        exact hfar' _ _ hr hfar
  · exact ((below_new w _).mono hbase).trans (grown_below h2 h0.out (by simp; omega))
/-! ### Against the matrix as a function -/
def Agr (L : List (List GF)) (h u : Nat) (M : Mat) : Prop := L.length = h ∧ (∀ i, i < h → (L.getD i []).length = u + 1) ∧ ∀ i, i < h → ∀ k, k ≤ u → (L.getD i []).getD k 0 = M i k
theorem Agr.congr {L : List (List GF)} {h u : Nat} {M M' : Mat} (a : Agr L h u M) (e : ∀ i, i < h → ∀ k, k ≤ u → M i k = M' i k) : Agr L h u M' :=
  ⟨a.1, a.2.1, fun i hi k hk => by rw [a.2.2 i hi k hk, e i hi k hk]⟩
theorem Agr.put {L : List (List GF)} {h u : Nat} {M M' : Mat} (a : Agr L h u M) {i k : Nat} (hi : i < h) (hk : k ≤ u) {y : GF} (e1 : M' i k = y) (e2 : ∀ j, j < h → ∀ t, t ≤ u → (j ≠ i ∨ t ≠ k) → M' j t = M j t) : Agr (L.set i ((L.getD i []).set k y)) h u M' := by
  obtain ⟨a1, a2, a3⟩ := a
  refine ⟨by rw [List.length_set]; exact a1, fun j hj => ?_, fun j hj t ht => ?_⟩
  · by_cases e : j = i
    · subst e; rw [getD_set_eq (by omega), List.length_set]; exact a2 j hj
    · rw [getD_set_neq (fun e' => e e'.symm)]; exact a2 j hj
  · by_cases e : j = i
    · subst e
      rw [getD_set_eq (by omega)]
      by_cases e2' : t = k
      · subst e2'; rw [getD_set_eq (by rw [a2 j hj]; omega), e1]
      · rw [getD_set_neq (fun e' => e2' e'.symm), a3 j hj t ht, e2 j hj t ht (.inr e2')]
    · rw [getD_set_neq (fun e' => e e'.symm), a3 j hj t ht, e2 j hj t ht (.inl e)]
theorem Agr.swap {L : List (List GF)} {h u : Nat} {M : Mat} (ag : Agr L h u M) {a d : Nat} (ha : a < h) (hd : d < h) : Agr ((L.set a (L.getD d [])).set d (L.getD a [])) h u (swM M a d) := by
  obtain ⟨a1, a2, a3⟩ := ag
  have hL : ∀ k, k < h → ((L.set a (L.getD d [])).set d (L.getD a [])).getD k [] = L.getD (if k = d then a else if k = a then d else k) [] := fun k hk => by
    by_cases e : k = d
    · subst e; rw [if_pos rfl, getD_set_eq (by rw [List.length_set]; omega)]
    · rw [if_neg e, getD_set_neq (fun e' => e e'.symm)]
      by_cases e2 : k = a
      · subst e2; rw [if_pos rfl, getD_set_eq (by omega)]
      · rw [if_neg e2, getD_set_neq (fun e' => e2 e'.symm)]
  refine ⟨by simp [a1], fun i hi => ?_, fun i hi k hk => ?_⟩
  · rw [hL i hi]
    refine a2 _ ?_
    split
    · exact ha
    · split
      · exact hd
      · exact hi
  · rw [hL i hi]
    unfold swM
    split
    · exact a3 a ha k hk
    · split
      · exact a3 d hd k hk
      · exact a3 i hi k hk
end Go.Proofs.Ytcinfkmekkdhfaa
/- A region that draws its order, with operations that make memory floating among those that read: the head (n operations) reads what was there, each with one value in whatever world that extends the first; behind it in the text a chain of operations that make memory alone (up to m), which may come up before the head is done; behind all of them a chain that may write. -/
namespace Go.Proofs.Ytcinfkmekkdhfaa
open Go.RowKit

/-- The world has only grown. -/
def Gr (w w' : World) : Prop := Below w.heap.size w w'
theorem Gr.refl (w : World) : Gr w w := Below.refl _ _
theorem Gr.trans {a b c : World} (h : Gr a b) (k : Gr b c) : Gr a c := Bw.step h k
section
variable {P : Program} {ops : Array Oper} {md : Region.Mode} {w0 : World}

def gUpon (P : Program) (o : Oper) (a : Act) (K : Act → World → Prop) : Result Next → Prop
  | .ok (.value v) w' => K (a.put o.dst v) w'
  | .ok .skip w' => K (a.put o.dst undef) w'
  | .ok (.enter f args) w' => Calls P f args w' (fun e w'' => ∃ v, e = .returned v ∧ K (a.put o.dst v) w'')
  | .ok (.row row args) w' => Rows P row args w' (fun v w'' => K (a.put o.dst v) w'')
  | _ => False
/-- Operation i comes up, ends as it should, and then K. -/
def gOp (P : Program) (ops : Array Oper) (i : Nat) (K : Act → World → Prop) (a : Act) (w : World) : Prop :=
  match ops[i]? with
  | none => False
  | some o => if Region.wanted o (yielded ops a.tmps) then gUpon P o a K ((execOp a.eval o).run P w) else K (a.put o.dst undef) w
theorem gOp_wpOp {Q : Exit → Act → World → Prop} {i : Nat} {K : Act → World → Prop} {a : Act} {w : World} (h : gOp P ops i K a w) : wpOp P ops Q i K a w := by
  unfold gOp at h
  unfold wpOp
  cases ho : ops[i]? with
  | none => simp only [ho] at h
  | some o =>
    simp only [ho] at h ⊢
    split
    · rename_i hw
      simp only [hw, if_true] at h
      left
      unfold Oper.wp
      generalize (execOp a.eval o).run P w = r at *
      cases r with
      | ok n w' =>
        cases n <;> simp only [gUpon] at h <;> simp only [Oper.upon] <;> try exact h
        exact h.mono fun e w'' ⟨v, he, hk⟩ => by subst he; exact hk
      | halt x w' => simp only [gUpon] at h
    · rename_i hw; simp only [hw] at h; exact h
theorem gUpon_mono {o : Oper} {a : Act} {K K' : Act → World → Prop} {r : Result Next} (hk : ∀ u w', K (a.put o.dst u) w' → K' (a.put o.dst u) w') (h : gUpon P o a K r) : gUpon P o a K' r := by
  cases r with
  | ok n w' =>
    cases n <;> simp only [gUpon] at h ⊢
    · exact hk _ _ h
    · exact hk _ _ h
    · exact h.mono fun e w'' ⟨v, he, hv⟩ => ⟨v, he, hk _ _ hv⟩
    · exact h.mono fun v w'' hv => hk _ _ hv
  | halt x w' => simp only [gUpon] at h
theorem gOp_put {j : Nat} {oi oj : Oper} {v : Value} (hj : ops[j]? = some oj) (hap : oi.apart ops oj = true) (hsj : ∀ cs b, oj.op ≠ .select cs b) {K K' : Act → World → Prop} {a : Act} {w : World}
    (hk : ∀ u w', K ((a.put oj.dst u).put oi.dst v) w' → K' (a.put oj.dst u) w') (h : gOp P ops j K (a.put oi.dst v) w) : gOp P ops j K' a w := by
  obtain ⟨h1, h2, h3⟩ := Oper.apart_spec hap
  unfold gOp at *
  simp only [hj] at *
  rw [wanted_put oj a oi.dst v h1, execOp_put oj hsj a oi.dst v h1] at h
  have hcomm : ∀ u, (a.put oi.dst v).put oj.dst u = (a.put oj.dst u).put oi.dst v := fun u => Act.put_comm a v u h2
  split
  · rename_i hw
    simp only [hw, if_true] at h
    generalize (execOp a.eval oj).run P w = r at *
    cases r with
    | ok n w' =>
      cases n <;> simp only [gUpon] at h ⊢
      · rw [hcomm] at h; exact hk _ _ h
      · rw [hcomm] at h; exact hk _ _ h
      · exact h.mono fun e w'' ⟨u, he, hu⟩ => ⟨u, he, hk _ _ (by rw [← hcomm]; exact hu)⟩
      · exact h.mono fun u w'' hu => hk _ _ (by rw [← hcomm]; exact hu)
    | halt x w' => simp only [gUpon] at h
  · rename_i hw
    simp only [hw] at h
    simp only [Bool.false_eq_true, if_false] at h
    rw [hcomm] at h; exact hk _ _ h
/-- In every world that extends w0 the operation yields v, and the world has only grown. -/
def YB (P : Program) (ops : Array Oper) (w0 : World) (o : Oper) (v : Value) (a : Act) : Prop :=
  (Region.wanted o (yielded ops a.tmps) = true ∧ ∀ w, Gr w0 w → o.quietAt P a (Gr w) w v) ∨ (Region.wanted o (yielded ops a.tmps) = false ∧ v = undef)
theorem YB.gOp {i : Nat} {o : Oper} {v : Value} {a : Act} {w : World} {K : Act → World → Prop} (hi : ops[i]? = some o) (hy : YB P ops w0 o v a) (hw : Gr w0 w) (hk : ∀ w', Gr w w' → K (a.put o.dst v) w') : gOp P ops i K a w := by
  unfold Proofs.Ytcinfkmekkdhfaa.gOp
  simp only [hi]
  rcases hy with ⟨hwd, hv⟩ | ⟨hwd, rfl⟩
  · simp only [hwd, if_true]
    have h3 := hv w hw
    unfold Oper.quietAt at h3
    generalize (execOp a.eval o).run P w = r at *
    cases r with
    | ok n w' =>
      cases n <;> simp only [Oper.quietUpon] at h3 <;> simp only [gUpon]
      · obtain ⟨rfl, rfl⟩ := h3; exact hk _ (Gr.refl _)
      · obtain ⟨rfl, rfl⟩ := h3; exact hk _ (Gr.refl _)
      · obtain ⟨rfl, hc⟩ := h3
        exact hc.mono fun e w'' ⟨he, hg⟩ => ⟨v, he, hk _ hg⟩
    | halt x w' => simp only [Oper.quietUpon] at h3
  · simp only [hwd, Bool.false_eq_true, if_false]; exact hk _ (Gr.refl _)
theorem YB.put {oi oj : Oper} {v u : Value} {a : Act} (hy : YB P ops w0 oi v a) (hap : oi.apart ops oj = true) (hsi : ∀ cs b, oi.op ≠ .select cs b) : YB P ops w0 oi v (a.put oj.dst u) := by
  obtain ⟨h1, h2, h3⟩ := Oper.apart_spec hap
  unfold YB Oper.quietAt at *
  rw [wanted_put oi a oj.dst u h3, execOp_put oi hsi a oj.dst u h3]
  exact hy
/-- Whatever order: the first m operations, f of them left; then L. -/
def headF (P : Program) (md : Region.Mode) (ops : Array Oper) (m : Nat) (L : Array Bool → Act → World → Prop) : Nat → Array Bool → Act → World → Prop
  | 0, s, a, w => L s a w
  | f + 1, s, a, w => Region.ready md ops s ≠ [] ∧ ∀ i ∈ Region.ready md ops s, i < m ∧ gOp P ops i (fun a' w' => Gr w w' ∧ ∀ w'', Gr w' w'' → headF P md ops m L f (s.setIfInBounds i true) a' w'') a w
theorem gOp_mono {i : Nat} {K K' : Act → World → Prop} {a : Act} {w : World} (hk : ∀ a' w', K a' w' → K' a' w') (h : gOp P ops i K a w) : gOp P ops i K' a w := by
  unfold gOp at *
  cases ho : ops[i]? with
  | none => simp only [ho] at h
  | some o =>
    simp only [ho] at h ⊢
    split
    · rename_i hw; simp only [hw, if_true] at h; exact gUpon_mono (fun u w' => hk _ w') h
    · rename_i hw; simp only [hw] at h; exact hk _ _ h
theorem headF_any {m g : Nat} {L : Array Bool → Act → World → Prop} {R : Exit → Act → World → Prop} (hL : ∀ s a w, L s a w → wpAny P md ops R g s a w) (f : Nat) :
    ∀ (s : Array Bool) (a : Act) (w : World), headF P md ops m L f s a w → wpAny P md ops R (f + g) s a w := by
  induction f with
  | zero => intro s a w h; rw [Nat.zero_add]; exact hL s a w h
  | succ f ih =>
    intro s a w h
    rw [show f + 1 + g = (f + g) + 1 by omega]
    exact ⟨fun h0 => absurd h0 h.1, fun i hi => gOp_wpOp (gOp_mono (fun a' w' hk => ih _ a' w' (hk.2 _ (Gr.refl _))) (h.2 i hi).2)⟩
theorem headF_first {m i : Nat} {oi : Oper} {v : Value} {L : Array Bool → Act → World → Prop} (T : Tailed md ops m) (hi : ops[i]? = some oi) (him : i < m) (hdone : ∀ s a w, L s a w → ∀ j ∈ Region.ready md ops s, m ≤ j) (f : Nat) :
    ∀ (s : Array Bool) (a : Act) (w : World), HeadInv md ops m s →
      (∀ j oj, ops[j]? = some oj → j ≠ i → s.getD j true = false → (∀ e ∈ oj.after, Region.binds md e = true → e.on ≠ i) → oi.apart ops oj = true) →
      i ∈ Region.ready md ops s → YB P ops w0 oi v a → Gr w0 w → (∀ w', Gr w w' → headF P md ops m L f (s.setIfInBounds i true) (a.put oi.dst v) w') → headF P md ops m L (f + 1) s a w := by
  induction f with
  | zero =>
    intro s a w inv _ hr hy hw H
    refine ⟨fun h => (by rw [h] at hr; cases hr), fun j hj => ?_⟩
    have hjm := T.head inv him (mem_ready.1 hr).1 hj
    by_cases e : j = i
    · subst e; exact ⟨hjm, hy.gOp hi hw fun w' hg => ⟨hg, fun w'' hg' => H w'' (hg.trans hg')⟩⟩
    · exact absurd (hdone _ _ _ (H w (Gr.refl _)) j (ready_mono hj e)) (by omega)
  | succ f ih =>
    intro s a w inv hfree hr hy hw H
    have hun := (mem_ready.1 hr).1
    refine ⟨fun h => (by rw [h] at hr; cases hr), fun j hj => ?_⟩
    have hjm := T.head inv him hun hj
    by_cases e : j = i
    · subst e; exact ⟨hjm, hy.gOp hi hw fun w' hg => ⟨hg, fun w'' hg' => H w'' (hg.trans hg')⟩⟩
    · obtain ⟨hjun, oj, hoj, hall⟩ := mem_ready.1 hj
      have hnot : ∀ d ∈ oj.after, Region.binds md d = true → d.on ≠ i := fun d hd hb he => by
        have h1 := hall d hd hb
        rw [he, getD_both hun] at h1
        cases h1
      have hap := hfree j oj hoj e hjun hnot
      have hsi := fun cs b => Region.noSelect_spec T.sel i oi cs b hi
      have hsj := fun cs b => Region.noSelect_spec T.sel j oj cs b hoj
      have h2 := ((H w (Gr.refl _)).2 j (ready_mono hj e)).2
      refine ⟨hjm, gOp_put hoj hap hsj (fun u w' hk => ⟨hk.1, fun w'' hg => ?_⟩) h2⟩
      refine ih _ _ _ (inv.set hj hjm) (fun k ok hk' hki hku hno => hfree k ok hk' hki ?_ hno) (ready_mono hr (Ne.symm e)) (hy.put hap hsi) (hw.trans (hk.1.trans hg)) (fun w3 hg3 => ?_)
      · by_cases hjk : j = k
        · subst hjk; exact hjun
        · rw [getD_set_ne true hjk] at hku; exact hku
      · rw [Array.setIfInBounds_comm _ _ e]; exact hk.2 _ (hg.trans hg3)
/-- The head's walk in the order of the text. -/
def wpQB (P : Program) (ops : Array Oper) (w0 : World) (Q : Act → Prop) : List Oper → Act → Prop
  | [], a => Q a
  | o :: rest, a => ∃ v, YB P ops w0 o v a ∧ wpQB P ops w0 Q rest (a.put o.dst v)
theorem headF_lex {n m g r : Nat} {L : Array Bool → Act → World → Prop} (T : Tailed md ops m) (hnm : n ≤ m) (hdone : ∀ s a w, L s a w → ∀ j ∈ Region.ready md ops s, m ≤ j) :
    ∀ (l : List Oper) (k : Nat) (s : Array Bool) (a : Act) (w : World), (∀ j, j < l.length → l[j]? = ops[k + j]?) → k + l.length = n → HeadInv md ops m s → Region.lexHead md ops g l.length k s = true → Gr w0 w →
      wpQB P ops w0 (fun a' => ∀ s', Region.seqB md ops g n s' = true → HeadInv md ops m s' → ∀ W, Gr w0 W → headF P md ops m L r s' a' W) l a → headF P md ops m L (l.length + r) s a w := by
  intro l
  induction l with
  | nil =>
    intro k s a w _ hk inv hB hw h
    have e : k = n := by simpa using hk
    subst e
    rw [List.length_nil, Nat.zero_add]
    exact h s (by simpa [Region.lexHead] using hB) inv w hw
  | cons o l ih =>
    intro k s a w hl hk inv hB hw h
    have h0 : ops[k]? = some o := by simpa using (hl 0 (by simp)).symm
    simp only [List.length_cons, Region.lexHead, Bool.and_eq_true] at hB
    obtain ⟨⟨hr, hf⟩, hB'⟩ := hB
    have hkn : k < n := by simp only [List.length_cons] at hk; omega
    have hr' : k ∈ Region.ready md ops s := by simpa using hr
    obtain ⟨v, hy, hK⟩ := h
    rw [List.length_cons, show l.length + 1 + r = (l.length + r) + 1 by omega]
    refine headF_first T h0 (by omega) hdone (l.length + r) s a w inv (Region.free_spec h0 hf) hr' hy hw (fun w' hg => ih (k + 1) _ _ _ (fun j hj => ?_) ?_ (inv.set hr' (by omega)) hB' (hw.trans hg) hK)
    · have := hl (j + 1) (by simp; omega)
      simpa [Nat.add_assoc, Nat.add_comm 1 j] using this
    · simp only [List.length_cons] at hk; omega
/-- The chain that makes memory, each operation in whatever world the last one's has grown to; then the tail. -/
def chainF (P : Program) (ops : Array Oper) (Q : Exit → Act → World → Prop) (tail : List Oper) : List Oper → Act → World → Prop
  | [], a, w => wpList P ops Q tail a w
  | o :: rest, a, w => wpList P ops (fun ex a' w' => ex = .normal ∧ a'.defers = a.defers ∧ Gr w w' ∧ ∀ w'', Gr w' w'' → chainF P ops Q tail rest a' w'') [o] a w
theorem put_defers (a : Act) (d : Option Tmp) (v : Value) : (a.put d v).defers = a.defers := by cases d <;> rfl
theorem chain_gOp {i : Nat} {o : Oper} {a : Act} {w : World} {K : Act → World → Prop} (hi : ops[i]? = some o) (h : wpList P ops (fun ex a' w' => ex = .normal ∧ a'.defers = a.defers ∧ K a' w') [o] a w) : gOp P ops i K a w := by
  unfold gOp
  simp only [hi]
  simp only [wpList] at h
  split
  · rename_i hw
    simp only [hw, if_true] at h
    rcases h with h | ⟨_, a', w', h⟩
    · unfold Oper.wp at h
      generalize hr : (execOp a.eval o).run P w = r at *
      cases r with
      | ok n w' =>
        cases n <;> simp only [Oper.upon] at h <;> simp only [gUpon]
        case value => exact h.2.2
        case skip => exact h.2.2
        case defer d =>
          have h1 := h.2.1
          rw [put_defers] at h1
          have := congrArg List.length h1
          simp at this
        case enter f args =>
          refine h.mono fun e w'' he => ?_
          cases e with
          | returned v => exact ⟨v, rfl, he.2.2⟩
          | panicked c => cases he.1
          | outgrown => obtain ⟨_, _, hh, _⟩ := he; cases hh
        case row r args => exact h.mono fun v w'' hv => hv.2.2
      | halt x w' =>
        cases x <;> simp only [Oper.upon] at h
        exact absurd h.1 (by intro hh; cases hh)
    · cases h.1
  · rename_i hw; simp only [hw] at h; exact h.2.2
theorem headF_chain {m g : Nat} {Q : Exit → Act → World → Prop} {tail : List Oper} : ∀ (l : List Oper) (k : Nat) (s : Array Bool) (a : Act) (w : World), (∀ j, j < l.length → l[j]? = ops[k + j]?) → k + l.length = m →
    Region.seqB md ops (l.length + g) k s = true → chainF P ops Q tail l a w → headF P md ops m (fun s a w => Region.seqB md ops g m s = true ∧ wpList P ops Q tail a w) l.length s a w := by
  intro l
  induction l with
  | nil =>
    intro k s a w _ hk hB h
    have e : k = m := by simpa using hk
    subst e
    rw [List.length_nil, Nat.zero_add] at hB
    exact ⟨hB, h⟩
  | cons o l ih =>
    intro k s a w hl hk hB h
    have h0 : ops[k]? = some o := by simpa using (hl 0 (by simp)).symm
    rw [List.length_cons, show l.length + 1 + g = (l.length + g) + 1 by omega] at hB
    simp only [Region.seqB, Bool.and_eq_true, decide_eq_true_eq] at hB
    obtain ⟨hr, hB'⟩ := hB
    refine ⟨fun e => (by rw [hr] at e; cases e), fun i hi => ?_⟩
    rw [hr, List.mem_singleton] at hi
    subst hi
    refine ⟨by simp only [List.length_cons] at hk; omega, gOp_mono (fun a' w' hk' => ⟨hk'.1, fun w'' hg => ih (i + 1) _ a' w'' (fun j hj => ?_) ?_ hB' (hk'.2 w'' hg)⟩) (chain_gOp h0 h)⟩
    · have := hl (j + 1) (by simp; omega)
      simpa [Nat.add_assoc, Nat.add_comm 1 j] using this
    · simp only [List.length_cons] at hk; omega
/-! ### The head's values are the same in every class -/
def dstOk (sz : Nat) : List Oper → Bool
  | [] => true
  | o :: l => (match o.dst with | some d => decide (d < sz) && l.all (fun p => p.dst != some d) | none => false) && dstOk sz l
theorem put_far (a : Act) {x : Option Tmp} {d : Nat} (h : x ≠ some d) (v : Value) : (a.put x v).tmps[d]? = a.tmps[d]? := by
  cases x with
  | none => rfl
  | some e =>
    have : e ≠ d := fun he => h (by rw [he])
    simp [Act.put, this]
theorem put_size (a : Act) (x : Option Tmp) (v : Value) : (a.put x v).tmps.size = a.tmps.size := by cases x <;> simp [Act.put]
theorem put_at (a : Act) {d : Nat} (h : d < a.tmps.size) (v : Value) : (a.put (some d) v).tmps[d]? = some v := by simp [Act.put, h]
theorem quiet_keeps {C : World → Prop} {b : Act} {d : Nat} : ∀ (l : List Oper) (a : Act), (l.all fun p => p.dst != some d) = true → wpQuiet P ops C (fun a' => a' = b) l a → b.tmps[d]? = a.tmps[d]? := by
  intro l
  induction l with
  | nil => intro a _ h; rw [show a = b from h]
  | cons o l ih =>
    intro a hd h
    simp only [List.all_cons, Bool.and_eq_true, bne_iff_ne, ne_eq] at hd
    unfold wpQuiet at h
    split at h
    · obtain ⟨v, _, h⟩ := h
      rw [ih _ hd.2 h, put_far a hd.1]
    · rw [ih _ hd.2 h, put_far a hd.1]
theorem wpQB_of_quiet {b : Act} : ∀ (l : List Oper) (a : Act), dstOk a.tmps.size l = true → (∀ z, Gr w0 z → wpQuiet P ops (fun w' => ∃ x : Ext z, w' = x.w) (fun a' => a' = b) l a) → wpQB P ops w0 (fun a' => a' = b) l a := by
  intro l
  induction l with
  | nil => intro a _ h; exact h w0 (Gr.refl _)
  | cons o l ih =>
    intro a hd h
    unfold dstOk at hd
    simp only [Bool.and_eq_true] at hd
    obtain ⟨hd1, hd2⟩ := hd
    cases hdst : o.dst with
    | none => simp only [hdst] at hd1; cases hd1
    | some d =>
      simp only [hdst, Bool.and_eq_true, decide_eq_true_eq] at hd1
      by_cases hw : Region.wanted o (yielded ops a.tmps) = true
      · have h' : ∀ z, Gr w0 z → ∃ v, (∀ w, (∃ x : Ext z, w = x.w) → o.quietAt P a (fun w' => ∃ x : Ext z, w' = x.w) w v) ∧ wpQuiet P ops (fun w' => ∃ x : Ext z, w' = x.w) (fun a' => a' = b) l (a.put o.dst v) := fun z hz => by
          have := h z hz
          unfold wpQuiet at this
          simp only [hw, if_true] at this
          exact this
        obtain ⟨v, _, hv⟩ := h' w0 (Gr.refl _)
        have hval : ∀ u z, wpQuiet P ops (fun w' => ∃ x : Ext z, w' = x.w) (fun a' => a' = b) l (a.put o.dst u) → b.tmps[d]? = some u := fun u z hu => by
          rw [quiet_keeps l _ hd1.2 hu, hdst, put_at a hd1.1]
        have hsame : ∀ z, Gr w0 z → (o.quietAt P a (fun w' => ∃ x : Ext z, w' = x.w) z v) ∧ wpQuiet P ops (fun w' => ∃ x : Ext z, w' = x.w) (fun a' => a' = b) l (a.put o.dst v) := fun z hz => by
          obtain ⟨u, hu1, hu2⟩ := h' z hz
          have : u = v := by
            have e := (hval u z hu2).symm.trans (hval v w0 hv)
            exact Option.some.inj e
          subst this
          exact ⟨hu1 z ⟨⟨z, Below.refl _ _⟩, rfl⟩, hu2⟩
        refine ⟨v, .inl ⟨hw, fun w hg => ?_⟩, ih _ (by rw [put_size]; exact hd2) fun z hz => (hsame z hz).2⟩
        have h3 := (hsame w hg).1
        unfold Oper.quietAt at *
        generalize (execOp a.eval o).run P w = r at *
        cases r with
        | ok n w' =>
          cases n <;> simp only [Oper.quietUpon] at h3 ⊢ <;> try exact h3
          exact ⟨h3.1, h3.2.mono fun e w'' he => ⟨he.1, ext_below he.2⟩⟩
        | halt x w' => simp only [Oper.quietUpon] at h3
      · refine ⟨undef, .inr ⟨by simpa using hw, rfl⟩, ih _ (by rw [put_size]; exact hd2) fun z hz => ?_⟩
        have := h z hz
        unfold wpQuiet at this
        simp only [hw] at this
        exact this
def floatB (md : Region.Mode) (ops : Array Oper) (n m : Nat) : Bool :=
  Region.noSelect ops && decide (m < ops.size) && decide (n ≤ m) && Region.sinkB md ops m && Region.chainB md ops m && Region.lexHead md ops (ops.size - n) n 0 (Array.replicate ops.size false)
theorem wpQB_mono {Q Q' : Act → Prop} (h : ∀ a, Q a → Q' a) : ∀ (l : List Oper) (a : Act), wpQB P ops w0 Q l a → wpQB P ops w0 Q' l a
  | [], a, hq => h a hq
  | _ :: l, _, ⟨v, hy, hq⟩ => ⟨v, hy, wpQB_mono h l _ hq⟩
end
theorem cell_extz {w z : World} (hz : Gr w z) {b o : Nat} {v : Value} (hb : b < w.heap.size) (h : w.cell? ⟨b, o, none⟩ = some v) (x : Ext z) : x.w.cell? ⟨b, o, none⟩ = some v :=
  ((Bw.step hz x.below).cell (p := ⟨b, o, none⟩) hb).trans h
/-- The law. -/
theorem wp_region_float {P : Program} {id : Nat} {Q : Exit → Act → World → Prop} {a b : Act} {w : World} {l : List Oper} (n m : Nat) (hm : P.follows .mixedOrders = true) (hB : floatB .any l.toArray n m = true) (hd : dstOk a.tmps.size (l.take n) = true)
    (hq : ∀ z, Gr w z → wpQuiet P l.toArray (fun w' => ∃ x : Ext z, w' = x.w) (fun a' => a' = b) (l.take n) a)
    (hc : ∀ W, Gr w W → chainF P l.toArray Q (l.drop m) ((l.drop n).take (m - n)) b W) : (Code.region id l.toArray true).wp P Q a w := by
  simp only [floatB, Bool.and_eq_true, decide_eq_true_eq] at hB
  obtain ⟨⟨⟨⟨⟨h1, h2⟩, hnm⟩, h3⟩, h4⟩, hlex⟩ := hB
  have hsz : m < l.length := by simpa using h2
  have htl : (l.take n).length = n := by simp; omega
  have hml : ((l.drop n).take (m - n)).length = m - n := by simp; omega
  have hdl : (l.drop m).length = l.toArray.size - m := by simp
  have inv0 : HeadInv .any l.toArray m (Array.replicate l.toArray.size false) :=
    ⟨by simp, fun j oj _ hl => (by rw [getD_replicate_false] at hl; cases hl), fun t _ ht => getD_in (by simpa using ht) (getD_replicate_false _ _)⟩
  have T : Tailed .any l.toArray m := ⟨h1, h2, h3, h4⟩
  have H := headF_lex (P := P) (w0 := w) (md := .any) (g := l.toArray.size - n) (n := n) (m := m) (r := m - n) (L := fun s a w => Region.seqB .any l.toArray (l.toArray.size - m) m s = true ∧ wpList P l.toArray Q (l.drop m) a w) T hnm (fun s a w hL => seqB_ready hL.1)
    (l.take n) 0 _ a { w with drawn := w.drawn + 1 } (fun j hj => by
      have hj' : j < n := by rw [htl] at hj; exact hj
      simp [hj']) (by simpa using htl) inv0 (by rw [htl]; exact hlex) (Below.refl _ w).drew
    (wpQB_mono (fun a' he s' hs' _ W hW => by
      subst he
      have := headF_chain (P := P) (md := .any) (ops := l.toArray) (m := m) (g := l.toArray.size - m) (Q := Q) (tail := l.drop m) ((l.drop n).take (m - n)) n s' a' W (fun j hj => by
        have hj' : j < m - n := by rw [hml] at hj; exact hj
        rw [List.getElem?_take, if_pos hj', List.getElem?_drop]; simp) (by rw [hml]; omega) (by rw [hml, show m - n + (l.toArray.size - m) = l.toArray.size - n by omega]; exact hs') (hc W hW)
      rw [hml] at this
      exact this) _ _ (wpQB_of_quiet _ _ hd hq))
  have K := headF_any (R := Q) (g := l.toArray.size - m) (fun s a' w' hL => by
    have := wpAny_of_seq (md := .any) (Q' := Q) (l.drop m) m s a' w' (fun j => by simp [List.getElem?_drop]) (by rw [hdl]; exact hL.1) hL.2
    rwa [hdl] at this) _ _ _ _ H
  rw [htl, show n + (m - n) + (l.toArray.size - m) = l.toArray.size by omega] at K
  exact wp_region_any hm K
end Go.Proofs.Ytcinfkmekkdhfaa
/- The same law for any order in which the head, the operations that make memory and the writing tail can be named: lists of the operations' numbers. -/
namespace Go.Proofs.Ytcinfkmekkdhfaa
open Go.RowKit
set_option linter.unusedVariables false
section
variable {P : Program} {ops : Array Oper} {md : Region.Mode} {w0 : World}

/-- Whatever an operation that has come up waited for has come up. -/
structure Clo (md : Region.Mode) (ops : Array Oper) (s : Array Bool) : Prop where
  size : s.size = ops.size
  closed : ∀ j oj, ops[j]? = some oj → s.getD j false = true → ∀ e ∈ oj.after, Region.binds md e = true → s.getD e.on false = true
theorem Clo.start : Clo md ops (Array.replicate ops.size false) :=
  ⟨by simp, fun j oj _ hl => (by rw [getD_replicate_false] at hl; cases hl)⟩
theorem getD_set_mono {s : Array Bool} {i j : Nat} (h : s.getD j false = true) : (s.setIfInBounds i true).getD j false = true := by
  by_cases e : i = j
  · subst e
    have hlt : i < s.size := by
      rcases Nat.lt_or_ge i s.size with h' | h'
      · exact h'
      · rw [Array.getD_eq_getD_getElem?, Array.getElem?_eq_none h'] at h; cases h
    simp [Array.getD, hlt]
  · rw [getD_set_ne false e]; exact h
theorem Clo.set {s : Array Bool} {i : Nat} (c : Clo md ops s) (hi : i ∈ Region.ready md ops s) : Clo md ops (s.setIfInBounds i true) := by
  obtain ⟨hun, oi, hoi, hall⟩ := mem_ready.1 hi
  refine ⟨by simp [c.size], fun j oj hj hl e he hb => ?_⟩
  by_cases hij : i = j
  · subst hij
    rw [hoi] at hj
    cases hj
    exact getD_set_mono (hall e he hb)
  · rw [getD_set_ne false hij] at hl
    exact getD_set_mono (c.closed j oj hj hl e he hb)
/-- Operation j waits for i, maybe through others. -/
def reachB (md : Region.Mode) (ops : Array Oper) : Nat → Nat → Nat → Bool
  | 0, _, _ => false
  | f + 1, j, i => match ops[j]? with
    | none => false
    | some oj => oj.after.any fun e => Region.binds md e && (e.on == i || reachB md ops f e.on i)
theorem reach_listed {s : Array Bool} (c : Clo md ops s) : ∀ (f j i : Nat), s.getD j false = true → reachB md ops f j i = true → s.getD i false = true := by
  intro f
  induction f with
  | zero => intro j i _ h; cases h
  | succ f ih =>
    intro j i hj h
    unfold reachB at h
    cases ho : ops[j]? with
    | none => simp only [ho] at h; cases h
    | some oj =>
      simp only [ho] at h
      rw [Array.any_eq_true'] at h
      obtain ⟨e, he, h⟩ := h
      simp only [Bool.and_eq_true, Bool.or_eq_true, beq_iff_eq] at h
      have h1 := c.closed j oj ho hj e he h.1
      rcases h.2 with h2 | h2
      · rw [← h2]; exact h1
      · exact ih _ _ h1 h2
theorem reach_ready {s : Array Bool} (c : Clo md ops s) {f j i : Nat} (hr : j ∈ Region.ready md ops s) (h : reachB md ops f j i = true) : s.getD i false = true := by
  obtain ⟨hun, oj, hoj, hall⟩ := mem_ready.1 hr
  cases f with
  | zero => cases h
  | succ f =>
    unfold reachB at h
    simp only [hoj] at h
    rw [Array.any_eq_true'] at h
    obtain ⟨e, he, h⟩ := h
    simp only [Bool.and_eq_true, Bool.or_eq_true, beq_iff_eq] at h
    have h1 := hall e he h.1
    rcases h.2 with h2 | h2
    · rw [← h2]; exact h1
    · exact reach_listed c f _ _ h1 h2
/-- The numbers in A (the head and what makes memory) come up ahead of all others. -/
def aheadB (md : Region.Mode) (ops : Array Oper) (A : List Nat) : Bool := (List.range ops.size).all fun k => A.contains k || A.all fun i => reachB md ops (ops.size + 1) k i
theorem ahead {A : List Nat} (hA : aheadB md ops A = true) {s : Array Bool} (c : Clo md ops s) {i j : Nat} (hi : i ∈ A) (hun : s.getD i true = false) (hj : j ∈ Region.ready md ops s) : j ∈ A := by
  obtain ⟨_, oj, hoj, _⟩ := mem_ready.1 hj
  have hlt : j < ops.size := (Array.getElem?_eq_some_iff.1 hoj).1
  have h := List.all_eq_true.1 hA j (List.mem_range.2 hlt)
  simp only [Bool.or_eq_true] at h
  rcases h with h | h
  · simpa using h
  · have h2 := reach_ready c hj (List.all_eq_true.1 h i hi)
    rw [getD_both hun] at h2
    cases h2
/-- Whatever order: the operations in A, f of them left; then L. -/
def headG (P : Program) (md : Region.Mode) (ops : Array Oper) (A : List Nat) (L : Array Bool → Act → World → Prop) : Nat → Array Bool → Act → World → Prop
  | 0, s, a, w => L s a w
  | f + 1, s, a, w => Region.ready md ops s ≠ [] ∧ ∀ i ∈ Region.ready md ops s, gOp P ops i (fun a' w' => Gr w w' ∧ ∀ w'', Gr w' w'' → headG P md ops A L f (s.setIfInBounds i true) a' w'') a w
theorem headG_any {A : List Nat} {g : Nat} {L : Array Bool → Act → World → Prop} {R : Exit → Act → World → Prop} (hL : ∀ s a w, L s a w → wpAny P md ops R g s a w) (f : Nat) :
    ∀ (s : Array Bool) (a : Act) (w : World), headG P md ops A L f s a w → wpAny P md ops R (f + g) s a w := by
  induction f with
  | zero => intro s a w h; rw [Nat.zero_add]; exact hL s a w h
  | succ f ih =>
    intro s a w h
    rw [show f + 1 + g = (f + g) + 1 by omega]
    exact ⟨fun h0 => absurd h0 h.1, fun i hi => gOp_wpOp (gOp_mono (fun a' w' hk => ih _ a' w' (hk.2 _ (Gr.refl _))) (h.2 i hi))⟩
theorem headG_first {A : List Nat} {i : Nat} {oi : Oper} {v : Value} {L : Array Bool → Act → World → Prop} (hsel : Region.noSelect ops = true) (hA : aheadB md ops A = true) (hi : ops[i]? = some oi) (hiA : i ∈ A) (hdone : ∀ s a w, L s a w → ∀ j ∈ Region.ready md ops s, j ∉ A) (f : Nat) :
    ∀ (s : Array Bool) (a : Act) (w : World), Clo md ops s →
      (∀ j oj, ops[j]? = some oj → j ≠ i → s.getD j true = false → (∀ e ∈ oj.after, Region.binds md e = true → e.on ≠ i) → oi.apart ops oj = true) →
      i ∈ Region.ready md ops s → YB P ops w0 oi v a → Gr w0 w → (∀ w', Gr w w' → headG P md ops A L f (s.setIfInBounds i true) (a.put oi.dst v) w') → headG P md ops A L (f + 1) s a w := by
  induction f with
  | zero =>
    intro s a w inv _ hr hy hw H
    refine ⟨fun h => (by rw [h] at hr; cases hr), fun j hj => ?_⟩
    have hjA := ahead hA inv hiA (mem_ready.1 hr).1 hj
    by_cases e : j = i
    · subst e; exact hy.gOp hi hw fun w' hg => ⟨hg, fun w'' hg' => H w'' (hg.trans hg')⟩
    · exact absurd hjA (hdone _ _ _ (H w (Gr.refl _)) j (ready_mono hj e))
  | succ f ih =>
    intro s a w inv hfree hr hy hw H
    have hun := (mem_ready.1 hr).1
    refine ⟨fun h => (by rw [h] at hr; cases hr), fun j hj => ?_⟩
    by_cases e : j = i
    · subst e; exact hy.gOp hi hw fun w' hg => ⟨hg, fun w'' hg' => H w'' (hg.trans hg')⟩
    · obtain ⟨hjun, oj, hoj, hall⟩ := mem_ready.1 hj
      have hnot : ∀ d ∈ oj.after, Region.binds md d = true → d.on ≠ i := fun d hd hb he => by
        have h1 := hall d hd hb
        rw [he, getD_both hun] at h1
        cases h1
      have hap := hfree j oj hoj e hjun hnot
      have hsi := fun cs b => Region.noSelect_spec hsel i oi cs b hi
      have hsj := fun cs b => Region.noSelect_spec hsel j oj cs b hoj
      have h2 := (H w (Gr.refl _)).2 j (ready_mono hj e)
      refine gOp_put hoj hap hsj (fun u w' hk => ⟨hk.1, fun w'' hg => ?_⟩) h2
      refine ih _ _ _ (inv.set hj) (fun k ok hk' hki hku hno => hfree k ok hk' hki ?_ hno) (ready_mono hr (Ne.symm e)) (hy.put hap hsi) (hw.trans (hk.1.trans hg)) (fun w3 hg3 => ?_)
      · by_cases hjk : j = k
        · subst hjk; exact hjun
        · rw [getD_set_ne true hjk] at hku; exact hku
      · rw [Array.setIfInBounds_comm _ _ e]; exact hk.2 _ (hg.trans hg3)
/-- One operation after the other. -/
def ordSeq (md : Region.Mode) (ops : Array Oper) (R : Array Bool → Bool) : List Nat → Array Bool → Bool
  | [], s => R s
  | i :: I, s => decide (Region.ready md ops s = [i]) && ordSeq md ops R I (s.setIfInBounds i true)
def ordHead (md : Region.Mode) (ops : Array Oper) (R : Array Bool → Bool) : List Nat → Array Bool → Bool
  | [], s => R s
  | i :: I, s => (Region.ready md ops s).contains i && Region.free md ops s i && ordHead md ops R I (s.setIfInBounds i true)
/-- The operations with these numbers. -/
def pick (l : List Oper) : List Nat → List Oper
  | [] => []
  | i :: I => match l[i]? with
    | some o => o :: pick l I
    | none => pick l I
def allIn (l : List Oper) (I : List Nat) : Bool := I.all fun i => decide (i < l.length)
theorem pick_cons {l : List Oper} {i : Nat} {I : List Nat} (h : allIn l (i :: I) = true) : ∃ o, l[i]? = some o ∧ pick l (i :: I) = o :: pick l I ∧ allIn l I = true := by
  simp only [allIn, List.all_cons, Bool.and_eq_true, decide_eq_true_eq] at h
  exact ⟨l[i], by simp [h.1], by simp [pick, h.1], h.2⟩
end
section
variable {P : Program} {l : List Oper} {md : Region.Mode} {w0 : World}
theorem headG_lex {A : List Nat} {r : Nat} {R : Array Bool → Bool} {L : Array Bool → Act → World → Prop} (hsel : Region.noSelect l.toArray = true) (hA : aheadB md l.toArray A = true) (hdone : ∀ s a w, L s a w → ∀ j ∈ Region.ready md l.toArray s, j ∉ A) :
    ∀ (I : List Nat) (s : Array Bool) (a : Act) (w : World), allIn l I = true → (∀ i ∈ I, i ∈ A) → Clo md l.toArray s → ordHead md l.toArray R I s = true → Gr w0 w →
      wpQB P l.toArray w0 (fun a' => ∀ s', R s' = true → Clo md l.toArray s' → ∀ W, Gr w0 W → headG P md l.toArray A L r s' a' W) (pick l I) a → headG P md l.toArray A L (I.length + r) s a w := by
  intro I
  induction I with
  | nil =>
    intro s a w _ _ inv hB hw h
    rw [List.length_nil, Nat.zero_add]
    exact h s hB inv w hw
  | cons i I ih =>
    intro s a w hin hIA inv hB hw h
    obtain ⟨o, h0, hp, hin'⟩ := pick_cons hin
    have h0' : l.toArray[i]? = some o := by simpa using h0
    simp only [ordHead, Bool.and_eq_true] at hB
    obtain ⟨⟨hr, hf⟩, hB'⟩ := hB
    have hr' : i ∈ Region.ready md l.toArray s := by simpa using hr
    rw [hp] at h
    obtain ⟨v, hy, hK⟩ := h
    rw [List.length_cons, show I.length + 1 + r = (I.length + r) + 1 by omega]
    exact headG_first hsel hA h0' (hIA i (List.mem_cons_self ..)) hdone (I.length + r) s a w inv (Region.free_spec h0' hf) hr' hy hw (fun w' hg => ih _ _ _ hin' (fun k hk => hIA k (List.mem_cons_of_mem _ hk)) (inv.set hr') hB' (hw.trans hg) hK)
theorem headG_chain {A : List Nat} {Q : Exit → Act → World → Prop} {tail : List Oper} {R : Array Bool → Bool} : ∀ (J : List Nat) (s : Array Bool) (a : Act) (w : World), allIn l J = true → ordSeq md l.toArray R J s = true → chainF P l.toArray Q tail (pick l J) a w →
    headG P md l.toArray A (fun s a w => R s = true ∧ wpList P l.toArray Q tail a w) J.length s a w := by
  intro J
  induction J with
  | nil => intro s a w _ hB h; exact ⟨hB, h⟩
  | cons j J ih =>
    intro s a w hin hB h
    obtain ⟨o, h0, hp, hin'⟩ := pick_cons hin
    have h0' : l.toArray[j]? = some o := by simpa using h0
    simp only [ordSeq, Bool.and_eq_true, decide_eq_true_eq] at hB
    obtain ⟨hr, hB'⟩ := hB
    rw [hp] at h
    refine ⟨fun e => (by rw [hr] at e; cases e), fun i hi => ?_⟩
    rw [hr, List.mem_singleton] at hi
    subst hi
    exact gOp_mono (fun a' w' hk' => ⟨hk'.1, fun w'' hg => ih _ a' w'' hin' hB' (hk'.2 w'' hg)⟩) (chain_gOp h0' h)
theorem wpAny_of_ord {Q' : Exit → Act → World → Prop} : ∀ (K : List Nat) (s : Array Bool) (a : Act) (w : World), allIn l K = true → ordSeq md l.toArray (fun s => (Region.ready md l.toArray s).isEmpty) K s = true → wpList P l.toArray Q' (pick l K) a w → wpAny P md l.toArray Q' K.length s a w := by
  intro K
  induction K with
  | nil => intro s a w _ hB h; exact ⟨by simpa [ordSeq] using hB, h⟩
  | cons k K ih =>
    intro s a w hin hB h
    obtain ⟨o, h0, hp, hin'⟩ := pick_cons hin
    have h0' : l.toArray[k]? = some o := by simpa using h0
    simp only [ordSeq, Bool.and_eq_true, decide_eq_true_eq] at hB
    obtain ⟨hr, hB'⟩ := hB
    rw [hp] at h
    refine ⟨fun e => (by rw [hr] at e; cases e), fun i hi => ?_⟩
    rw [hr, List.mem_singleton] at hi
    subst hi
    unfold wpOp
    simp only [h0']
    unfold wpList at h
    split
    · rename_i hw
      simp only [hw, if_true] at h
      rcases h with h | h
      · exact .inl (Oper.wp_mono (fun a' w' hk => ih _ a' w' hin' hB' hk) h)
      · exact .inr h
    · rename_i hw
      simp only [hw] at h
      exact ih _ _ _ hin' hB' h
def orderB (l : List Oper) (I J K : List Nat) : Bool :=
  Region.noSelect l.toArray && aheadB .any l.toArray (I ++ J) && allIn l I && allIn l J && allIn l K && decide (I.length + J.length + K.length = l.length) && K.all (fun k => !(I ++ J).contains k) &&
  ordHead .any l.toArray (ordSeq .any l.toArray (ordSeq .any l.toArray (fun s => (Region.ready .any l.toArray s).isEmpty) K) J) I (Array.replicate l.toArray.size false)
theorem ordSeq_ready {ops : Array Oper} {R : Array Bool → Bool} (hR : ∀ s, R s = true → Region.ready md ops s = []) : ∀ (K : List Nat) (s : Array Bool), ordSeq md ops R K s = true → ∀ j ∈ Region.ready md ops s, j ∈ K
  | [], s, h, j, hj => by rw [hR s h] at hj; cases hj
  | k :: K, s, h, j, hj => by
    simp only [ordSeq, Bool.and_eq_true, decide_eq_true_eq] at h
    rw [h.1, List.mem_singleton] at hj
    subst hj
    exact List.mem_cons_self ..
/-- The law. -/
theorem wp_region_order {id : Nat} {Q : Exit → Act → World → Prop} {a b : Act} {w : World} (I J K : List Nat) (hm : P.follows .mixedOrders = true) (hB : orderB l I J K = true) (hd : dstOk a.tmps.size (pick l I) = true)
    (hq : ∀ z, Gr w z → wpQuiet P l.toArray (fun w' => ∃ x : Ext z, w' = x.w) (fun a' => a' = b) (pick l I) a)
    (hc : ∀ W, Gr w W → chainF P l.toArray Q (pick l K) (pick l J) b W) : (Code.region id l.toArray true).wp P Q a w := by
  simp only [orderB, Bool.and_eq_true, decide_eq_true_eq] at hB
  obtain ⟨⟨⟨⟨⟨⟨⟨h1, hA⟩, hI⟩, hJ⟩, hK⟩, hlen⟩, hKn⟩, hord⟩ := hB
  have hdone : ∀ s, ordSeq .any l.toArray (fun s => (Region.ready .any l.toArray s).isEmpty) K s = true → ∀ j ∈ Region.ready .any l.toArray s, j ∉ I ++ J := fun s hs j hj => by
    have hjK := ordSeq_ready (fun s hs => by simpa using hs) K s hs j hj
    have := List.all_eq_true.1 hKn j hjK
    simpa using this
  have H := headG_lex (P := P) (w0 := w) (md := .any) (A := I ++ J) (r := J.length) (R := ordSeq .any l.toArray (ordSeq .any l.toArray (fun s => (Region.ready .any l.toArray s).isEmpty) K) J)
    (L := fun s a w => ordSeq .any l.toArray (fun s => (Region.ready .any l.toArray s).isEmpty) K s = true ∧ wpList P l.toArray Q (pick l K) a w) h1 hA (fun s a w hL => hdone s hL.1)
    I _ a { w with drawn := w.drawn + 1 } hI (fun i hi => List.mem_append_left _ hi) Clo.start hord (Below.refl _ w).drew
    (wpQB_mono (fun a' he s' hs' _ W hW => by
      subst he
      exact headG_chain J s' a' W hJ hs' (hc W hW)) _ _ (wpQB_of_quiet _ _ hd hq))
  have K' := headG_any (R := Q) (g := K.length) (fun s a' w' hL => wpAny_of_ord K s a' w' hK hL.1 hL.2) _ _ _ _ H
  rw [hlen, show l.length = l.toArray.size by simp] at K'
  exact wp_region_any hm K'
end
end Go.Proofs.Ytcinfkmekkdhfaa
/- The same law where some operations look at the frame alone: they may come up whenever they can, behind a write too. -/
namespace Go.Proofs.Ytcinfkmekkdhfaa
open Go.RowKit
set_option linter.unusedVariables false

/-- One world. -/
def Just (z : World) : Type := { v : World // v = z }
def Just.w {z : World} (x : Just z) : World := x.1
instance {z : World} : Inhabited (Just z) := ⟨⟨z, rfl⟩⟩
theorem Just.eq {z : World} (x : Just z) : x.w = z := x.2
section
variable {P : Program} {ops : Array Oper} {md : Region.Mode} {w0 : World}

/-- Whatever order, f operations; each ends as it should; then L. -/
def headH (P : Program) (md : Region.Mode) (ops : Array Oper) (L : Array Bool → Act → World → Prop) : Nat → Array Bool → Act → World → Prop
  | 0, s, a, w => L s a w
  | f + 1, s, a, w => Region.ready md ops s ≠ [] ∧ ∀ i ∈ Region.ready md ops s, gOp P ops i (fun a' w' => headH P md ops L f (s.setIfInBounds i true) a' w') a w
theorem headH_any {g : Nat} {L : Array Bool → Act → World → Prop} {R : Exit → Act → World → Prop} (hL : ∀ s a w, L s a w → wpAny P md ops R g s a w) (f : Nat) :
    ∀ (s : Array Bool) (a : Act) (w : World), headH P md ops L f s a w → wpAny P md ops R (f + g) s a w := by
  induction f with
  | zero => intro s a w h; rw [Nat.zero_add]; exact hL s a w h
  | succ f ih =>
    intro s a w h
    rw [show f + 1 + g = (f + g) + 1 by omega]
    exact ⟨fun h0 => absurd h0 h.1, fun i hi => gOp_wpOp (gOp_mono (fun a' w' hk => ih _ a' w' hk) (h.2 i hi))⟩
theorem headH_of_G {A : List Nat} {g : Nat} {L : Array Bool → Act → World → Prop} {L1 : Array Bool → Act → World → Prop} (hL : ∀ s a w, L1 s a w → headH P md ops L g s a w) (f : Nat) :
    ∀ (s : Array Bool) (a : Act) (w : World), headG P md ops A L1 f s a w → headH P md ops L (f + g) s a w := by
  induction f with
  | zero => intro s a w h; rw [Nat.zero_add]; exact hL s a w h
  | succ f ih =>
    intro s a w h
    rw [show f + 1 + g = (f + g) + 1 by omega]
    exact ⟨h.1, fun i hi => gOp_mono (fun a' w' hk => ih _ a' w' (hk.2 _ (Gr.refl _))) (h.2 i hi)⟩
/-- An operation that looks at the frame alone: in every world the same value, the world as it was. -/
def YA (P : Program) (ops : Array Oper) (o : Oper) (v : Value) (a : Act) : Prop :=
  (Region.wanted o (yielded ops a.tmps) = true ∧ ∀ w, o.quietAt P a (fun w'' => w'' = w) w v) ∨ (Region.wanted o (yielded ops a.tmps) = false ∧ v = undef)
theorem YA.gOp {i : Nat} {o : Oper} {v : Value} {a : Act} {w : World} {K : Act → World → Prop} (hi : ops[i]? = some o) (hy : YA P ops o v a) (hk : K (a.put o.dst v) w) : gOp P ops i K a w := by
  unfold Proofs.Ytcinfkmekkdhfaa.gOp
  simp only [hi]
  rcases hy with ⟨hwd, hv⟩ | ⟨hwd, rfl⟩
  · simp only [hwd, if_true]
    have h3 := hv w
    unfold Oper.quietAt at h3
    generalize (execOp a.eval o).run P w = r at *
    cases r with
    | ok n w' =>
      cases n <;> simp only [Oper.quietUpon] at h3 <;> simp only [gUpon]
      · obtain ⟨rfl, rfl⟩ := h3; exact hk
      · obtain ⟨rfl, rfl⟩ := h3; exact hk
      · obtain ⟨rfl, hc⟩ := h3
        exact hc.mono fun e w'' ⟨he, hg⟩ => ⟨v, he, by rw [hg]; exact hk⟩
    | halt x w' => simp only [Oper.quietUpon] at h3
  · simp only [hwd, Bool.false_eq_true, if_false]; exact hk
theorem YA.put {oi oj : Oper} {v u : Value} {a : Act} (hy : YA P ops oi v a) (hap : oi.apart ops oj = true) (hsi : ∀ cs b, oi.op ≠ .select cs b) : YA P ops oi v (a.put oj.dst u) := by
  obtain ⟨h1, h2, h3⟩ := Oper.apart_spec hap
  unfold YA Oper.quietAt at *
  rw [wanted_put oi a oj.dst u h3, execOp_put oi hsi a oj.dst u h3]
  exact hy
theorem headH_first {i : Nat} {oi : Oper} {v : Value} {L : Array Bool → Act → World → Prop} (hsel : Region.noSelect ops = true) (hi : ops[i]? = some oi) (hdone : ∀ s a w, L s a w → Region.ready md ops s = []) (f : Nat) :
    ∀ (s : Array Bool) (a : Act) (w : World),
      (∀ j oj, ops[j]? = some oj → j ≠ i → s.getD j true = false → (∀ e ∈ oj.after, Region.binds md e = true → e.on ≠ i) → oi.apart ops oj = true) →
      i ∈ Region.ready md ops s → YA P ops oi v a → headH P md ops L f (s.setIfInBounds i true) (a.put oi.dst v) w → headH P md ops L (f + 1) s a w := by
  induction f with
  | zero =>
    intro s a w _ hr hy H
    refine ⟨fun h => (by rw [h] at hr; cases hr), fun j hj => ?_⟩
    by_cases e : j = i
    · subst e; exact hy.gOp hi H
    · have := ready_mono hj e
      rw [hdone _ _ _ H] at this
      cases this
  | succ f ih =>
    intro s a w hfree hr hy H
    have hun := (mem_ready.1 hr).1
    refine ⟨fun h => (by rw [h] at hr; cases hr), fun j hj => ?_⟩
    by_cases e : j = i
    · subst e; exact hy.gOp hi H
    · obtain ⟨hjun, oj, hoj, hall⟩ := mem_ready.1 hj
      have hnot : ∀ d ∈ oj.after, Region.binds md d = true → d.on ≠ i := fun d hd hb he => by
        have h1 := hall d hd hb
        rw [he, getD_both hun] at h1
        cases h1
      have hap := hfree j oj hoj e hjun hnot
      have hsi := fun cs b => Region.noSelect_spec hsel i oi cs b hi
      have hsj := fun cs b => Region.noSelect_spec hsel j oj cs b hoj
      have h2 := H.2 j (ready_mono hj e)
      refine gOp_put hoj hap hsj (fun u w' hk => ?_) h2
      refine ih _ _ _ (fun k ok hk' hki hku hno => hfree k ok hk' hki ?_ hno) (ready_mono hr (Ne.symm e)) (hy.put hap hsi) ?_
      · by_cases hjk : j = k
        · subst hjk; exact hjun
        · rw [getD_set_ne true hjk] at hku; exact hku
      · rw [Array.setIfInBounds_comm _ _ e]; exact hk
def aheadF (md : Region.Mode) (ops : Array Oper) (A F : List Nat) : Bool := (List.range ops.size).all fun k => A.contains k || F.contains k || A.all fun i => reachB md ops (ops.size + 1) k i
theorem aheadF_spec {A F : List Nat} (hA : aheadF md ops A F = true) {s : Array Bool} (c : Clo md ops s) (hF : ∀ f ∈ F, s.getD f false = true) {i j : Nat} (hi : i ∈ A) (hun : s.getD i true = false) (hj : j ∈ Region.ready md ops s) : j ∈ A := by
  obtain ⟨hjun, oj, hoj, _⟩ := mem_ready.1 hj
  have hlt : j < ops.size := (Array.getElem?_eq_some_iff.1 hoj).1
  have h := List.all_eq_true.1 hA j (List.mem_range.2 hlt)
  simp only [Bool.or_eq_true] at h
  rcases h with (h | h) | h
  · simpa using h
  · have h2 := hF j (by simpa using h)
    rw [getD_both hjun] at h2
    cases h2
  · have h2 := reach_ready c hj (List.all_eq_true.1 h i hi)
    rw [getD_both hun] at h2
    cases h2
theorem headG_firstF {A F : List Nat} {i : Nat} {oi : Oper} {v : Value} {L : Array Bool → Act → World → Prop} (hsel : Region.noSelect ops = true) (hA : aheadF md ops A F = true) (hi : ops[i]? = some oi) (hiA : i ∈ A) (hdone : ∀ s a w, L s a w → ∀ j ∈ Region.ready md ops s, j ∉ A) (f : Nat) :
    ∀ (s : Array Bool) (a : Act) (w : World), Clo md ops s → (∀ f ∈ F, s.getD f false = true) →
      (∀ j oj, ops[j]? = some oj → j ≠ i → s.getD j true = false → (∀ e ∈ oj.after, Region.binds md e = true → e.on ≠ i) → oi.apart ops oj = true) →
      i ∈ Region.ready md ops s → YB P ops w0 oi v a → Gr w0 w → (∀ w', Gr w w' → headG P md ops A L f (s.setIfInBounds i true) (a.put oi.dst v) w') → headG P md ops A L (f + 1) s a w := by
  induction f with
  | zero =>
    intro s a w inv hF _ hr hy hw H
    refine ⟨fun h => (by rw [h] at hr; cases hr), fun j hj => ?_⟩
    have hjA := aheadF_spec hA inv hF hiA (mem_ready.1 hr).1 hj
    by_cases e : j = i
    · subst e; exact hy.gOp hi hw fun w' hg => ⟨hg, fun w'' hg' => H w'' (hg.trans hg')⟩
    · exact absurd hjA (hdone _ _ _ (H w (Gr.refl _)) j (ready_mono hj e))
  | succ f ih =>
    intro s a w inv hF hfree hr hy hw H
    have hun := (mem_ready.1 hr).1
    refine ⟨fun h => (by rw [h] at hr; cases hr), fun j hj => ?_⟩
    by_cases e : j = i
    · subst e; exact hy.gOp hi hw fun w' hg => ⟨hg, fun w'' hg' => H w'' (hg.trans hg')⟩
    · obtain ⟨hjun, oj, hoj, hall⟩ := mem_ready.1 hj
      have hnot : ∀ d ∈ oj.after, Region.binds md d = true → d.on ≠ i := fun d hd hb he => by
        have h1 := hall d hd hb
        rw [he, getD_both hun] at h1
        cases h1
      have hap := hfree j oj hoj e hjun hnot
      have hsi := fun cs b => Region.noSelect_spec hsel i oi cs b hi
      have hsj := fun cs b => Region.noSelect_spec hsel j oj cs b hoj
      have h2 := (H w (Gr.refl _)).2 j (ready_mono hj e)
      refine gOp_put hoj hap hsj (fun u w' hk => ⟨hk.1, fun w'' hg => ?_⟩) h2
      refine ih _ _ _ (inv.set hj) (fun f hf => getD_set_mono (hF f hf)) (fun k ok hk' hki hku hno => hfree k ok hk' hki ?_ hno) (ready_mono hr (Ne.symm e)) (hy.put hap hsi) (hw.trans (hk.1.trans hg)) (fun w3 hg3 => ?_)
      · by_cases hjk : j = k
        · subst hjk; exact hjun
        · rw [getD_set_ne true hjk] at hku; exact hku
      · rw [Array.setIfInBounds_comm _ _ e]; exact hk.2 _ (hg.trans hg3)
/-- The writing tail, each operation by itself. -/
def chainK (P : Program) (ops : Array Oper) (Q : Act → World → Prop) : List Oper → Act → World → Prop
  | [], a, w => Q a w
  | o :: rest, a, w => wpList P ops (fun ex a' w' => ex = .normal ∧ a'.defers = a.defers ∧ chainK P ops Q rest a' w') [o] a w
end
section
variable {P : Program} {l : List Oper} {md : Region.Mode} {w0 : World}
theorem headH_chain {Q : Act → World → Prop} : ∀ (K : List Nat) (s : Array Bool) (a : Act) (w : World), allIn l K = true → ordSeq md l.toArray (fun s => (Region.ready md l.toArray s).isEmpty) K s = true → chainK P l.toArray Q (pick l K) a w →
    headH P md l.toArray (fun s a w => Region.ready md l.toArray s = [] ∧ Q a w) K.length s a w := by
  intro K
  induction K with
  | nil => intro s a w _ hB h; exact ⟨by simpa [ordSeq] using hB, h⟩
  | cons k K ih =>
    intro s a w hin hB h
    obtain ⟨o, h0, hp, hin'⟩ := pick_cons hin
    have h0' : l.toArray[k]? = some o := by simpa using h0
    simp only [ordSeq, Bool.and_eq_true, decide_eq_true_eq] at hB
    obtain ⟨hr, hB'⟩ := hB
    rw [hp] at h
    refine ⟨fun e => (by rw [hr] at e; cases e), fun i hi => ?_⟩
    rw [hr, List.mem_singleton] at hi
    subst hi
    exact gOp_mono (fun a' w' hk' => ih _ a' w' hin' hB' hk') (chain_gOp h0' h)
theorem headG_lexF {A F : List Nat} {r : Nat} {R : Array Bool → Bool} {L : Array Bool → Act → World → Prop} (hsel : Region.noSelect l.toArray = true) (hA : aheadF md l.toArray A F = true) (hdone : ∀ s a w, L s a w → ∀ j ∈ Region.ready md l.toArray s, j ∉ A) :
    ∀ (I : List Nat) (s : Array Bool) (a : Act) (w : World), allIn l I = true → (∀ i ∈ I, i ∈ A) → Clo md l.toArray s → (∀ f ∈ F, s.getD f false = true) → ordHead md l.toArray R I s = true → Gr w0 w →
      wpQB P l.toArray w0 (fun a' => ∀ s', R s' = true → Clo md l.toArray s' → ∀ W, Gr w0 W → headG P md l.toArray A L r s' a' W) (pick l I) a → headG P md l.toArray A L (I.length + r) s a w := by
  intro I
  induction I with
  | nil =>
    intro s a w _ _ inv hF hB hw h
    rw [List.length_nil, Nat.zero_add]
    exact h s hB inv w hw
  | cons i I ih =>
    intro s a w hin hIA inv hF hB hw h
    obtain ⟨o, h0, hp, hin'⟩ := pick_cons hin
    have h0' : l.toArray[i]? = some o := by simpa using h0
    simp only [ordHead, Bool.and_eq_true] at hB
    obtain ⟨⟨hr, hf⟩, hB'⟩ := hB
    have hr' : i ∈ Region.ready md l.toArray s := by simpa using hr
    rw [hp] at h
    obtain ⟨v, hy, hK⟩ := h
    rw [List.length_cons, show I.length + 1 + r = (I.length + r) + 1 by omega]
    exact headG_firstF hsel hA h0' (hIA i (List.mem_cons_self ..)) hdone (I.length + r) s a w inv hF (Region.free_spec h0' hf) hr' hy hw (fun w' hg => ih _ _ _ hin' (fun k hk => hIA k (List.mem_cons_of_mem _ hk)) (inv.set hr') (fun f hf => getD_set_mono (hF f hf)) hB' (hw.trans hg) hK)
/-- The frame's walk. -/
def wpYA (P : Program) (ops : Array Oper) (Q : Act → Prop) : List Oper → Act → Prop
  | [], a => Q a
  | o :: rest, a => ∃ v, YA P ops o v a ∧ wpYA P ops Q rest (a.put o.dst v)
theorem headH_lex {g : Nat} {R : Array Bool → Bool} {L : Array Bool → Act → World → Prop} (hsel : Region.noSelect l.toArray = true) (hdone : ∀ s a w, L s a w → Region.ready md l.toArray s = []) :
    ∀ (I : List Nat) (s : Array Bool) (a : Act) (w : World), allIn l I = true → Clo md l.toArray s → ordHead md l.toArray R I s = true →
      wpYA P l.toArray (fun a' => ∀ s', R s' = true → Clo md l.toArray s' → headH P md l.toArray L g s' a' w) (pick l I) a → headH P md l.toArray L (I.length + g) s a w := by
  intro I
  induction I with
  | nil =>
    intro s a w _ inv hB h
    rw [List.length_nil, Nat.zero_add]
    exact h s hB inv
  | cons i I ih =>
    intro s a w hin inv hB h
    obtain ⟨o, h0, hp, hin'⟩ := pick_cons hin
    have h0' : l.toArray[i]? = some o := by simpa using h0
    simp only [ordHead, Bool.and_eq_true] at hB
    obtain ⟨⟨hr, hf⟩, hB'⟩ := hB
    have hr' : i ∈ Region.ready md l.toArray s := by simpa using hr
    rw [hp] at h
    obtain ⟨v, hy, hK⟩ := h
    rw [List.length_cons, show I.length + 1 + g = (I.length + g) + 1 by omega]
    exact headH_first hsel h0' hdone (I.length + g) s a w (Region.free_spec h0' hf) hr' hy (ih _ _ _ hin' (inv.set hr') hB' hK)
theorem wpYA_of_quiet (w0 : World) {ops : Array Oper} {b : Act} : ∀ (l : List Oper) (a : Act), dstOk a.tmps.size l = true → (∀ z, wpQuiet P ops (fun w' => ∃ x : Just z, w' = x.w) (fun a' => a' = b) l a) → wpYA P ops (fun a' => a' = b) l a := by
  intro l
  induction l with
  | nil => intro a _ h; exact h w0
  | cons o l ih =>
    intro a hd h
    unfold dstOk at hd
    simp only [Bool.and_eq_true] at hd
    obtain ⟨hd1, hd2⟩ := hd
    cases hdst : o.dst with
    | none => simp only [hdst] at hd1; cases hd1
    | some d =>
      simp only [hdst, Bool.and_eq_true, decide_eq_true_eq] at hd1
      by_cases hw : Region.wanted o (yielded ops a.tmps) = true
      · have h' : ∀ z, ∃ v, (∀ w, (∃ x : Just z, w = x.w) → o.quietAt P a (fun w' => ∃ x : Just z, w' = x.w) w v) ∧ wpQuiet P ops (fun w' => ∃ x : Just z, w' = x.w) (fun a' => a' = b) l (a.put o.dst v) := fun z => by
          have := h z
          unfold wpQuiet at this
          simp only [hw, if_true] at this
          exact this
        obtain ⟨v, _, hv⟩ := h' w0
        have hval : ∀ u z, wpQuiet P ops (fun w' => ∃ x : Just z, w' = x.w) (fun a' => a' = b) l (a.put o.dst u) → b.tmps[d]? = some u := fun u z hu => by
          rw [quiet_keeps l _ hd1.2 hu, hdst, put_at a hd1.1]
        have hsame : ∀ z, (o.quietAt P a (fun w' => ∃ x : Just z, w' = x.w) z v) ∧ wpQuiet P ops (fun w' => ∃ x : Just z, w' = x.w) (fun a' => a' = b) l (a.put o.dst v) := fun z => by
          obtain ⟨u, hu1, hu2⟩ := h' z
          have : u = v := Option.some.inj ((hval u z hu2).symm.trans (hval v w0 hv))
          subst this
          exact ⟨hu1 z ⟨⟨z, rfl⟩, rfl⟩, hu2⟩
        refine ⟨v, .inl ⟨hw, fun w => ?_⟩, ih _ (by rw [put_size]; exact hd2) fun z => (hsame z).2⟩
        have h3 := (hsame w).1
        unfold Oper.quietAt at *
        generalize (execOp a.eval o).run P w = r at *
        cases r with
        | ok n w' =>
          cases n <;> simp only [Oper.quietUpon] at h3 ⊢ <;> try exact h3
          exact ⟨h3.1, h3.2.mono fun e w'' he => ⟨he.1, by obtain ⟨x, hx⟩ := he.2; rw [hx]; exact x.eq⟩⟩
        | halt x w' => simp only [Oper.quietUpon] at h3
      · refine ⟨undef, .inr ⟨by simpa using hw, rfl⟩, ih _ (by rw [put_size]; exact hd2) fun z => ?_⟩
        have := h z
        unfold wpQuiet at this
        simp only [hw] at this
        exact this
def freeB (l : List Oper) (F I J K : List Nat) : Bool :=
  Region.noSelect l.toArray && aheadF .any l.toArray (I ++ J) F && allIn l F && allIn l I && allIn l J && allIn l K && decide (F.length + (I.length + J.length + K.length) = l.length) && K.all (fun k => !(I ++ J).contains k) &&
  ordHead .any l.toArray (fun s => F.all (fun f => s.getD f false) && ordHead .any l.toArray (ordSeq .any l.toArray (ordSeq .any l.toArray (fun s => (Region.ready .any l.toArray s).isEmpty) K) J) I s) F (Array.replicate l.toArray.size false)
/-- The makers in front of the tail. -/
def chainJ (P : Program) (ops : Array Oper) (T : Act → World → Prop) : List Oper → Act → World → Prop
  | [], a, w => T a w
  | o :: rest, a, w => wpList P ops (fun ex a' w' => ex = .normal ∧ a'.defers = a.defers ∧ Gr w w' ∧ ∀ w'', Gr w' w'' → chainJ P ops T rest a' w'') [o] a w
theorem headG_chainJ {A : List Nat} {T : Act → World → Prop} {R : Array Bool → Bool} : ∀ (J : List Nat) (s : Array Bool) (a : Act) (w : World), allIn l J = true → ordSeq md l.toArray R J s = true → chainJ P l.toArray T (pick l J) a w →
    headG P md l.toArray A (fun s a w => R s = true ∧ T a w) J.length s a w := by
  intro J
  induction J with
  | nil => intro s a w _ hB h; exact ⟨hB, h⟩
  | cons j J ih =>
    intro s a w hin hB h
    obtain ⟨o, h0, hp, hin'⟩ := pick_cons hin
    have h0' : l.toArray[j]? = some o := by simpa using h0
    simp only [ordSeq, Bool.and_eq_true, decide_eq_true_eq] at hB
    obtain ⟨hr, hB'⟩ := hB
    rw [hp] at h
    refine ⟨fun e => (by rw [hr] at e; cases e), fun i hi => ?_⟩
    rw [hr, List.mem_singleton] at hi
    subst hi
    exact gOp_mono (fun a' w' hk' => ⟨hk'.1, fun w'' hg => ih _ a' w'' hin' hB' (hk'.2 w'' hg)⟩) (chain_gOp h0' h)
/-- The law. -/
theorem wp_region_free {id : Nat} {Q : Exit → Act → World → Prop} {a b0 b : Act} {w : World} (F I J K : List Nat) (hm : P.follows .mixedOrders = true) (hB : freeB l F I J K = true) (hd0 : dstOk a.tmps.size (pick l F) = true)
    (hq0 : ∀ z, wpQuiet P l.toArray (fun w' => ∃ x : Just z, w' = x.w) (fun a' => a' = b0) (pick l F) a) (hd : dstOk b0.tmps.size (pick l I) = true)
    (hq : ∀ z, Gr w z → wpQuiet P l.toArray (fun w' => ∃ x : Ext z, w' = x.w) (fun a' => a' = b) (pick l I) b0)
    (hc : ∀ W, Gr w W → chainJ P l.toArray (chainK P l.toArray (fun a' w' => Q .normal a' w') (pick l K)) (pick l J) b W) : (Code.region id l.toArray true).wp P Q a w := by
  simp only [freeB, Bool.and_eq_true, decide_eq_true_eq] at hB
  obtain ⟨⟨⟨⟨⟨⟨⟨⟨h1, hA⟩, hF⟩, hI⟩, hJ⟩, hK⟩, hlen⟩, hKn⟩, hord⟩ := hB
  have hdone : ∀ s, ordSeq .any l.toArray (fun s => (Region.ready .any l.toArray s).isEmpty) K s = true → ∀ j ∈ Region.ready .any l.toArray s, j ∉ I ++ J := fun s hs j hj => by
    have hjK := ordSeq_ready (fun s hs => by simpa using hs) K s hs j hj
    have := List.all_eq_true.1 hKn j hjK
    simpa using this
  have H := headH_lex (P := P) (md := .any) (l := l) (g := I.length + J.length + K.length) (L := fun s a w => Region.ready .any l.toArray s = [] ∧ Q .normal a w)
    (R := fun s => F.all (fun f => s.getD f false) && ordHead .any l.toArray (ordSeq .any l.toArray (ordSeq .any l.toArray (fun s => (Region.ready .any l.toArray s).isEmpty) K) J) I s) h1 (fun s a w hL => hL.1) F _ a { w with drawn := w.drawn + 1 } hF Clo.start hord
    (by
      have hY := wpYA_of_quiet (P := P) w (ops := l.toArray) (b := b0) _ _ hd0 hq0
      revert hY
      generalize pick l F = lF
      generalize a = a0
      intro hY
      induction lF generalizing a0 with
      | nil =>
        intro s' hs' hcl
        have he : a0 = b0 := hY
        subst he
        simp only [Bool.and_eq_true] at hs'
        have hFs : ∀ f ∈ F, s'.getD f false = true := fun f hf => List.all_eq_true.1 hs'.1 f hf
        have G := headG_lexF (P := P) (w0 := w) (md := .any) (A := I ++ J) (F := F) (r := J.length) (R := ordSeq .any l.toArray (ordSeq .any l.toArray (fun s => (Region.ready .any l.toArray s).isEmpty) K) J)
          (L := fun s a w => ordSeq .any l.toArray (fun s => (Region.ready .any l.toArray s).isEmpty) K s = true ∧ chainK P l.toArray (fun a' w' => Q .normal a' w') (pick l K) a w) h1 hA (fun s a w hL => hdone s hL.1)
          I s' a0 { w with drawn := w.drawn + 1 } hI (fun i hi => List.mem_append_left _ hi) hcl hFs hs'.2 (Below.refl _ w).drew
          (wpQB_mono (fun a' he s'' hs'' _ W hW => by
            subst he
            exact headG_chainJ J s'' a' W hJ hs'' (hc W hW)) _ _ (wpQB_of_quiet _ _ hd hq))
        exact headH_of_G (fun s a w hL => headH_chain K s a w hK hL.1 hL.2) _ _ _ _ G
      | cons o lF ih =>
        obtain ⟨v, hy, hr⟩ := hY
        exact ⟨v, hy, ih _ hr⟩)
  have K' := headH_any (R := Q) (g := 0) (fun s a' w' hL => (⟨hL.1, hL.2⟩ : wpAny P .any l.toArray Q 0 s a' w')) _ _ _ _ H
  rw [Nat.add_zero, hlen, show l.length = l.toArray.size by simp] at K'
  exact wp_region_any hm K'
end
end Go.Proofs.Ytcinfkmekkdhfaa
/- A region that draws its order, walked as a tree: quiet operations at once, in one order; operations that make memory one by one, in each order that the draw allows; a writing tail at the end. -/
namespace Go.Proofs.Ytcinfkmekkdhfaa
open Go.RowKit
set_option linter.unusedVariables false
section
variable {P : Program} {l : List Oper}

/-- What is asked behind the tree. -/
def endL (P : Program) (l : List Oper) (K : List Nat) (Q : Exit → Act → World → Prop) : Array Bool → Act → World → Prop :=
  fun s a w => ordSeq .any l.toArray (fun s => (Region.ready .any l.toArray s).isEmpty) K s = true ∧ wpList P l.toArray Q (pick l K) a w
def treeB (l : List Oper) (A K : List Nat) : Bool :=
  Region.noSelect l.toArray && aheadB .any l.toArray A && allIn l K && decide (A.length + K.length = l.length) && K.all (fun k => !A.contains k)
theorem treeB_done {A K : List Nat} {Q : Exit → Act → World → Prop} (hB : treeB l A K = true) : ∀ s a w, endL P l K Q s a w → ∀ j ∈ Region.ready .any l.toArray s, j ∉ A := by
  simp only [treeB, Bool.and_eq_true, decide_eq_true_eq] at hB
  intro s a w h j hj
  have hjK := ordSeq_ready (fun s hs => by simpa using hs) K s h.1 j hj
  have := List.all_eq_true.1 hB.2 j hjK
  simpa using this
/-- The region's statement: the tree of the operations in A, then those in K one behind the other. -/
theorem wp_region_tree {id : Nat} {Q : Exit → Act → World → Prop} {a : Act} {w : World} (A K : List Nat) (n : Nat) (hm : P.follows .mixedOrders = true) (hB : treeB l A K = true) (hn : A.length = n)
    (h : ∀ W, Gr w W → headG P .any l.toArray A (endL P l K Q) n (Array.replicate l.toArray.size false) a W) : (Code.region id l.toArray true).wp P Q a w := by
  subst hn
  have hB' := hB
  simp only [treeB, Bool.and_eq_true, decide_eq_true_eq] at hB'
  obtain ⟨⟨⟨⟨h1, hA⟩, hK⟩, hlen⟩, hKn⟩ := hB'
  have H := h { w with drawn := w.drawn + 1 } (Below.refl _ w).drew
  have K' := headG_any (R := Q) (g := K.length) (fun s a' w' hL => wpAny_of_ord K s a' w' hK hL.1 hL.2) _ _ _ _ H
  rw [hlen, show l.length = l.toArray.size by simp] at K'
  exact wp_region_any hm K'
/-- The operations of a list have come up. -/
def setsB (s : Array Bool) : List Nat → Array Bool
  | [] => s
  | i :: I => setsB (s.setIfInBounds i true) I
def cloB (l : List Oper) (s : Array Bool) : Bool :=
  decide (s.size = l.toArray.size) && (List.range l.length).all fun j => !s.getD j false || (match l[j]? with | none => true | some o => o.after.toList.all fun e => !Region.binds .any e || s.getD e.on false)
theorem cloB_spec {s : Array Bool} (h : cloB l s = true) : Clo .any l.toArray s := by
  simp only [cloB, Bool.and_eq_true, decide_eq_true_eq] at h
  refine ⟨h.1, fun j oj hj hs e he hb => ?_⟩
  have hlt : j < l.length := by
    have := (Array.getElem?_eq_some_iff.1 hj).1
    simpa using this
  have h2 := List.all_eq_true.1 h.2 j (List.mem_range.2 hlt)
  have hj' : l[j]? = some oj := by simpa using hj
  simp only [hj', hs, Bool.not_true, Bool.false_or] at h2
  have h3 := List.all_eq_true.1 h2 e (by simpa using he)
  simpa [hb] using h3
def quietB (l : List Oper) (A I : List Nat) (s : Array Bool) : Bool :=
  allIn l I && I.all (fun i => A.contains i) && cloB l s && ordHead .any l.toArray (fun s' => decide (s' = setsB s I)) I s
/-- Quiet operations, in one order for all. -/
theorem tree_quiet {A K : List Nat} {Q : Exit → Act → World → Prop} {s : Array Bool} {a b : Act} {w : World} (I : List Nat) {r n : Nat} (hB : treeB l A K = true) (hI : quietB l A I s = true) (hn : n = I.length + r) (hd : dstOk a.tmps.size (pick l I) = true)
    (hq : ∀ z, Gr w z → wpQuiet P l.toArray (fun w' => ∃ x : Ext z, w' = x.w) (fun a' => a' = b) (pick l I) a)
    (h : ∀ W, Gr w W → headG P .any l.toArray A (endL P l K Q) r (setsB s I) b W) : headG P .any l.toArray A (endL P l K Q) n s a w := by
  subst hn
  have hB' := hB
  simp only [treeB, Bool.and_eq_true, decide_eq_true_eq] at hB'
  obtain ⟨⟨⟨⟨h1, hA⟩, hK⟩, hlen⟩, hKn⟩ := hB'
  simp only [quietB, Bool.and_eq_true] at hI
  obtain ⟨⟨⟨i1, i2⟩, i3⟩, i4⟩ := hI
  refine headG_lex (w0 := w) h1 hA (treeB_done hB) I s a w i1 (fun i hi => by simpa using List.all_eq_true.1 i2 i hi) (cloB_spec i3) i4 (Gr.refl w) ?_
  refine wpQB_mono (fun a' he s' hs' _ W hW => ?_) _ _ (wpQB_of_quiet _ _ hd hq)
  subst he
  rw [show s' = setsB s I by simpa using hs']
  exact h W hW
/-- One operation that makes memory is ready. -/
theorem tree_one {A K : List Nat} {Q : Exit → Act → World → Prop} {s : Array Bool} {a : Act} {w : World} {f : Nat} (i : Nat) {o : Oper} (ho : l[i]? = some o) (hr : Region.ready .any l.toArray s = [i])
    (h : wpList P l.toArray (fun ex a' w' => ex = .normal ∧ a'.defers = a.defers ∧ Gr w w' ∧ ∀ w'', Gr w' w'' → headG P .any l.toArray A (endL P l K Q) f (setsB s [i]) a' w'') [o] a w) : headG P .any l.toArray A (endL P l K Q) (f + 1) s a w := by
  refine ⟨fun e => (by rw [hr] at e; cases e), fun j hj => ?_⟩
  rw [hr, List.mem_singleton] at hj
  subst hj
  exact chain_gOp (by simpa using ho) h
/-- Two are ready. -/
theorem tree_two {A K : List Nat} {Q : Exit → Act → World → Prop} {s : Array Bool} {a : Act} {w : World} {f : Nat} (i j : Nat) {o o' : Oper} (ho : l[i]? = some o) (ho' : l[j]? = some o') (hr : Region.ready .any l.toArray s = [i, j])
    (h : wpList P l.toArray (fun ex a' w' => ex = .normal ∧ a'.defers = a.defers ∧ Gr w w' ∧ ∀ w'', Gr w' w'' → headG P .any l.toArray A (endL P l K Q) f (setsB s [i]) a' w'') [o] a w)
    (h' : wpList P l.toArray (fun ex a' w' => ex = .normal ∧ a'.defers = a.defers ∧ Gr w w' ∧ ∀ w'', Gr w' w'' → headG P .any l.toArray A (endL P l K Q) f (setsB s [j]) a' w'') [o'] a w) : headG P .any l.toArray A (endL P l K Q) (f + 1) s a w := by
  refine ⟨fun e => (by rw [hr] at e; cases e), fun k hk => ?_⟩
  rw [hr, List.mem_cons, List.mem_singleton] at hk
  rcases hk with rfl | rfl
  · exact chain_gOp (by simpa using ho) h
  · exact chain_gOp (by simpa using ho') h'
/-- Three are ready. -/
theorem tree_three {A K : List Nat} {Q : Exit → Act → World → Prop} {s : Array Bool} {a : Act} {w : World} {f : Nat} (i j k : Nat) {o o' o'' : Oper} (ho : l[i]? = some o) (ho' : l[j]? = some o') (ho'' : l[k]? = some o'') (hr : Region.ready .any l.toArray s = [i, j, k])
    (h : wpList P l.toArray (fun ex a' w' => ex = .normal ∧ a'.defers = a.defers ∧ Gr w w' ∧ ∀ w'', Gr w' w'' → headG P .any l.toArray A (endL P l K Q) f (setsB s [i]) a' w'') [o] a w)
    (h' : wpList P l.toArray (fun ex a' w' => ex = .normal ∧ a'.defers = a.defers ∧ Gr w w' ∧ ∀ w'', Gr w' w'' → headG P .any l.toArray A (endL P l K Q) f (setsB s [j]) a' w'') [o'] a w)
    (h'' : wpList P l.toArray (fun ex a' w' => ex = .normal ∧ a'.defers = a.defers ∧ Gr w w' ∧ ∀ w'', Gr w' w'' → headG P .any l.toArray A (endL P l K Q) f (setsB s [k]) a' w'') [o''] a w) : headG P .any l.toArray A (endL P l K Q) (f + 1) s a w := by
  refine ⟨fun e => (by rw [hr] at e; cases e), fun m hm => ?_⟩
  rw [hr, List.mem_cons, List.mem_cons, List.mem_singleton] at hm
  rcases hm with rfl | rfl | rfl
  · exact chain_gOp (by simpa using ho) h
  · exact chain_gOp (by simpa using ho') h'
  · exact chain_gOp (by simpa using ho'') h''
theorem tree_end {A K : List Nat} {Q : Exit → Act → World → Prop} {s : Array Bool} {a : Act} {w : World} (hr : ordSeq .any l.toArray (fun s => (Region.ready .any l.toArray s).isEmpty) K s = true) (h : wpList P l.toArray Q (pick l K) a w) : headG P .any l.toArray A (endL P l K Q) 0 s a w := ⟨hr, h⟩
/-- What holds behind the region in all orders, by some values that the order may change. -/
theorem wp_region_mid2 {α β : Type} {fr : α → β → Act} {id : Nat} {ops : Array Oper} {Q : Exit → Act → World → Prop} {a : Act} {w : World} (F : α → β → World → Prop)
    (h : ∀ QQ : Exit → Act → World → Prop, Hid (∀ x y w', F x y w' → QQ .normal (fr x y) w') → (Code.region id ops true).wp P QQ a w) (h2 : ∀ x y w', F x y w' → Q .normal (fr x y) w') : (Code.region id ops true).wp P Q a w :=
  h Q (Lib.hid h2)
theorem wp_region_mid3 {α β γ : Type} {fr : α → β → γ → Act} {id : Nat} {ops : Array Oper} {Q : Exit → Act → World → Prop} {a : Act} {w : World} (F : α → β → γ → World → Prop)
    (h : ∀ QQ : Exit → Act → World → Prop, Hid (∀ x y z w', F x y z w' → QQ .normal (fr x y z) w') → (Code.region id ops true).wp P QQ a w) (h2 : ∀ x y z w', F x y z w' → Q .normal (fr x y z) w') : (Code.region id ops true).wp P Q a w :=
  h Q (Lib.hid h2)
theorem wp_region_mid4 {α β γ δ : Type} {fr : α → β → γ → δ → Act} {id : Nat} {ops : Array Oper} {Q : Exit → Act → World → Prop} {a : Act} {w : World} (F : α → β → γ → δ → World → Prop)
    (h : ∀ QQ : Exit → Act → World → Prop, Hid (∀ x y z t w', F x y z t w' → QQ .normal (fr x y z t) w') → (Code.region id ops true).wp P QQ a w) (h2 : ∀ x y z t w', F x y z t w' → Q .normal (fr x y z t) w') : (Code.region id ops true).wp P Q a w :=
  h Q (Lib.hid h2)
theorem wp_region_mid6 {α β γ δ ε ζ : Type} {fr : α → β → γ → δ → ε → ζ → Act} {id : Nat} {ops : Array Oper} {Q : Exit → Act → World → Prop} {a : Act} {w : World} (F : α → β → γ → δ → ε → ζ → World → Prop)
    (h : ∀ QQ : Exit → Act → World → Prop, Hid (∀ x y z t u v w', F x y z t u v w' → QQ .normal (fr x y z t u v) w') → (Code.region id ops true).wp P QQ a w) (h2 : ∀ x y z t u v w', F x y z t u v w' → Q .normal (fr x y z t u v) w') : (Code.region id ops true).wp P Q a w :=
  h Q (Lib.hid h2)
theorem wp_region_mid1 {α : Type} {fr : α → Act} {id : Nat} {ops : Array Oper} {Q : Exit → Act → World → Prop} {a : Act} {w : World} (F : α → World → Prop)
    (h : ∀ QQ : Exit → Act → World → Prop, Hid (∀ x w', F x w' → QQ .normal (fr x) w') → (Code.region id ops true).wp P QQ a w) (h2 : ∀ x w', F x w' → Q .normal (fr x) w') : (Code.region id ops true).wp P Q a w :=
  h Q (Lib.hid h2)
end
end Go.Proofs.Ytcinfkmekkdhfaa
/- What stays through the elimination in the reference's Solve. -/
namespace Go.Proofs.Ytcinfkmekkdhfaa
open Go.RowKit
set_option linter.unusedVariables false

/-- The equations, with their right sides. -/
def eqM (L : List (List GF)) (b : List GF) (u : Nat) : Mat := fun i k => if k < u then (L.getD i []).getD k 0 else b.getD i 0
def extL (L : List (List GF)) (b : List GF) (k : Nat) : List (List GF) := (List.range k).map fun i => L.getD i [] ++ [b.getD i 0]
theorem extL_succ (L : List (List GF)) (b : List GF) (k : Nat) : extL L b (k + 1) = extL L b k ++ [L.getD k [] ++ [b.getD k 0]] := by simp [extL, List.range_succ]
theorem extL_len (L : List (List GF)) (b : List GF) (k : Nat) : (extL L b k).length = k := by simp [extL]
theorem extL_agr {L : List (List GF)} {b : List GF} {h u : Nat} (hl : ∀ i, i < h → (L.getD i []).length = u) : Agr (extL L b h) h u (eqM L b u) := by
  have e : ∀ i, i < h → (extL L b h).getD i [] = L.getD i [] ++ [b.getD i 0] := fun i hi => by simp [extL, List.getD, hi]
  refine ⟨extL_len _ _ _, fun i hi => by rw [e i hi, List.length_append, hl i hi]; rfl, fun i hi k hk => ?_⟩
  rw [e i hi]
  unfold eqM
  by_cases h1 : k < u
  · rw [if_pos h1, getD_app_l (by rw [hl i hi]; exact h1)]
  · rw [if_neg h1]
    obtain rfl : k = (L.getD i []).length := by rw [hl i hi]; omega
    exact getD_app_r
/-- What stays through the elimination: the matrix, the row of zeros, the pivots. -/
structure Sw (h u B S1 S2 : Nat) (v o pv : Value) (piv : List Nat) (w0 wr : World) (hv : List Value) (L : List (List GF)) (M : Mat) : Prop where
  m : OwM wr B v hv L
  low : OwM.low S1 v hv
  ag : Agr L h u M
  z : OwB wr S1 o (List.replicate u 0)
  ol : ∀ g, o.ownBlock = some g → g < S2
  p : OwI wr S2 pv (toI piv)
  bw : Below B w0 wr
  b1 : B ≤ S1
  b2 : S1 ≤ S2
  b3 : S2 ≤ wr.heap.size
theorem own_low {w : World} {B : Nat} {e : TypeId} {s : Nat} {v : Value} {n : Nat} {xs : List Value} (h : w.ownsRow B e s v n xs) {p : Addr} (hp : p.block < B) (u : Value) : (w.setCell p u).ownsRow B e s v n xs := by
  refine ⟨h.1, ?_⟩
  rcases h.2 with h' | ⟨g, cap, cur, hv, hB, hh, hn⟩
  · exact .inl h'
  · exact .inr ⟨g, cap, cur, hv, hB, (Below.heap_setCell w p u g (by omega)).trans hh, hn⟩
section
variable {h u B S1 S2 : Nat} {v o pv : Value} {piv : List Nat} {w0 wr wr' : World} {hv : List Value} {L : List (List GF)} {M : Mat}
theorem Sw.below (s : Sw h u B S1 S2 v o pv piv w0 wr hv L M) (hb : Below wr.heap.size wr wr') : Sw h u B S1 S2 v o pv piv w0 wr' hv L M :=
  ⟨s.m.below hb, s.low, s.ag, s.z.below hb, s.ol, s.p.below hb, s.bw.trans (hb.mono (Nat.le_trans s.b1 (Nat.le_trans s.b2 s.b3))), s.b1, s.b2, Nat.le_trans s.b3 hb.size⟩
theorem Sw.form (s : Sw h u B S1 S2 v o pv piv w0 wr hv L M) (hp : 0 < h) : ∃ g c, v = .slice (some ⟨g, 0, none⟩) h c ∧ B ≤ g ∧ g < S1 ∧ g < wr.heap.size := by
  obtain ⟨g, c, e, h1, h2⟩ := s.m.head (by rw [s.ag.1]; exact hp)
  rw [s.ag.1] at e
  exact ⟨g, c, e, h1, s.low.1 g (by rw [e]; rfl), h2⟩
theorem Sw.row (s : Sw h u B S1 S2 v o pv piv w0 wr hv L M) {i : Nat} (hi : i < h) : ∃ gi ci, hv.getD i undef = .slice (some ⟨gi, 0, none⟩) (u + 1) ci ∧ B ≤ gi ∧ gi < S1 ∧ gi < wr.heap.size ∧ (∀ k, k ≤ u → wr.cell? ⟨gi, k, none⟩ = some (.int .u8 (M i k).z)) ∧ ∀ k, wr.frozen? ⟨gi, k, none⟩ = false := by
  have hr := s.m.row i (by rw [s.ag.1]; exact hi)
  obtain ⟨A, c, e⟩ := hr.form
  rw [s.ag.2.1 i hi] at e
  rw [e] at hr
  obtain ⟨gi, rfl⟩ := hr.head (by omega)
  have hlt := hr.lt
  exact ⟨gi, c, e, hlt.1, s.low.2 i gi (by rw [s.m.len, s.ag.1]; exact hi) (by rw [e]; rfl), hlt.2, fun k hk => by rw [hr.cellAt (i := k) (by omega), s.ag.2.2 i hi k hk], fun k => hr.frozenAt k⟩
theorem Sw.cell {g c : Nat} (s : Sw h u B S1 S2 (.slice (some ⟨g, 0, none⟩) h c) o pv piv w0 wr hv L M) {i : Nat} (hi : i < h) : wr.cell? ⟨g, i, none⟩ = some (hv.getD i undef) := by
  have hm := s.m
  have hl := s.ag.1
  rw [← hl] at hm
  exact hm.cellAt (by rw [hl]; exact hi)
theorem Sw.frz {g c : Nat} (s : Sw h u B S1 S2 (.slice (some ⟨g, 0, none⟩) h c) o pv piv w0 wr hv L M) (i : Nat) : wr.frozen? ⟨g, i, none⟩ = false := by
  have hm := s.m
  have hl := s.ag.1
  rw [← hl] at hm
  exact hm.frozenAt i
/-- The outer row behind the first of two stores. -/
theorem Sw.mid {g c : Nat} (s : Sw h u B S1 S2 (.slice (some ⟨g, 0, none⟩) h c) o pv piv w0 wr hv L M) {i j : Nat} (hj : j < h) (x : Value) : (wr.setCell ⟨g, i, none⟩ x).cell? ⟨g, j, none⟩ = some ((hv.set i x).getD j undef) := by
  have hm := s.m.out
  have hl : hv.length = h := by rw [s.m.len, s.ag.1]
  rw [hl] at hm
  have h1 := (World.ownsRow.stored (g := g) (cap := c) hm i x).1
  have h2 := World.ownsRow.cellAt (g := g) (cap := c) h1 j (by omega)
  rw [h2]
  simp [List.getD, hl, hj]
theorem Sw.midF {g c : Nat} (s : Sw h u B S1 S2 (.slice (some ⟨g, 0, none⟩) h c) o pv piv w0 wr hv L M) {i : Nat} (j : Nat) (x : Value) : (wr.setCell ⟨g, i, none⟩ x).frozen? ⟨g, j, none⟩ = false := by
  have hm := s.m.out
  have hl : hv.length = h := by rw [s.m.len, s.ag.1]
  rw [hl] at hm
  exact World.ownsRow.frozenAt (g := g) (cap := c) (World.ownsRow.stored (g := g) (cap := c) hm i x).1 j
theorem Sw.put {g c gi ci : Nat} {M' : Mat} (s : Sw h u B S1 S2 (.slice (some ⟨g, 0, none⟩) h c) o pv piv w0 wr hv L M) {i k : Nat} (hi : i < h) (hk : k ≤ u) (hvi : hv.getD i undef = .slice (some ⟨gi, 0, none⟩) (u + 1) ci) {y : GF} (e1 : M' i k = y) (e2 : ∀ j, j < h → ∀ t, t ≤ u → (j ≠ i ∨ t ≠ k) → M' j t = M j t) :
    Sw h u B S1 S2 (.slice (some ⟨g, 0, none⟩) h c) o pv piv w0 (wr.setCell ⟨gi, k, none⟩ (.int .u8 y.z)) hv (L.set i ((L.getD i []).set k y)) M' := by
  have hl := s.ag.1
  have hm := s.m
  rw [← hl] at hm
  have hlow := s.low.2 i gi (by rw [s.m.len, hl]; exact hi) (by rw [hvi]; rfl)
  have hB := (own_lt (s.m.row i (by rw [hl]; exact hi)) (g := gi) (by rw [hvi]; rfl)).1
  have b2 := s.b2
  have hp := hm.put (by rw [hl]; exact hi) hvi k y
  rw [hl] at hp
  exact ⟨hp, s.low, s.ag.put hi hk e1 e2, own_low s.z (p := ⟨gi, k, none⟩) hlow _, s.ol, own_low s.p (p := ⟨gi, k, none⟩) (Nat.lt_of_lt_of_le hlow b2) _, s.bw.setCell (p := ⟨gi, k, none⟩) hB _, s.b1, s.b2, by have := s.b3; simpa [World.setCell] using this⟩
theorem Sw.swap {g c : Nat} (s : Sw h u B S1 S2 (.slice (some ⟨g, 0, none⟩) h c) o pv piv w0 wr hv L M) {a d : Nat} (ha : a < h) (hd : d < h) :
    Sw h u B S1 S2 (.slice (some ⟨g, 0, none⟩) h c) o pv piv w0 ((wr.setCell ⟨g, a, none⟩ (hv.getD d undef)).setCell ⟨g, d, none⟩ (hv.getD a undef)) ((hv.set a (hv.getD d undef)).set d (hv.getD a undef)) ((L.set a (L.getD d [])).set d (L.getD a [])) (swM M a d) := by
  have hl := s.ag.1
  have hm := s.m
  rw [← hl] at hm
  have hlow := s.low.1 g rfl
  have hB := (own_lt s.m.out (g := g) rfl).1
  have b2 := s.b2
  have hp := hm.swap (by rw [hl]; exact ha) (by rw [hl]; exact hd)
  rw [hl] at hp
  refine ⟨hp, ⟨s.low.1, fun i gi hi hg => ?_⟩, s.ag.swap ha hd, own_low (own_low s.z (p := ⟨g, a, none⟩) hlow _) (p := ⟨g, d, none⟩) hlow _, s.ol, own_low (own_low s.p (p := ⟨g, a, none⟩) (Nat.lt_of_lt_of_le hlow b2) _) (p := ⟨g, d, none⟩) (Nat.lt_of_lt_of_le hlow b2) _, (s.bw.setCell (p := ⟨g, a, none⟩) hB _).setCell (p := ⟨g, d, none⟩) hB _, s.b1, s.b2, by have := s.b3; simpa [World.setCell] using this⟩
  simp only [List.length_set] at hi
  have hlv : hv.length = h := by rw [s.m.len, hl]
  by_cases e : i = d
  · subst e
    rw [getD_set_eq (by rw [List.length_set]; exact hi)] at hg
    exact s.low.2 a gi (by omega) hg
  · rw [getD_set_neq (fun e' => e e'.symm)] at hg
    by_cases e2 : i = a
    · subst e2
      rw [getD_set_eq hi] at hg
      exact s.low.2 d gi (by omega) hg
    · rw [getD_set_neq (fun e' => e2 e'.symm)] at hg
      exact s.low.2 i gi hi hg
theorem Sw.congr {M' : Mat} (s : Sw h u B S1 S2 v o pv piv w0 wr hv L M) (e : ∀ i, i < h → ∀ k, k ≤ u → M i k = M' i k) : Sw h u B S1 S2 v o pv piv w0 wr hv L M' :=
  ⟨s.m, s.low, s.ag.congr e, s.z, s.ol, s.p, s.bw, s.b1, s.b2, s.b3⟩
/-- A pivot more. -/
theorem Sw.push {pv' : Value} {c : Nat} (s : Sw h u B S1 S2 v o pv piv w0 wr hv L M) (hp : OwI wr' S2 pv' (toI (piv ++ [c]))) (hb : Below S2 wr wr') : Sw h u B S1 S2 v o pv' (piv ++ [c]) w0 wr' hv L M :=
  ⟨s.m.belowS ⟨fun g hg => Nat.lt_of_lt_of_le (s.low.1 g hg) s.b2, fun i g hi hg => Nat.lt_of_lt_of_le (s.low.2 i g hi hg) s.b2⟩ hb, s.low, s.ag, own_belowS s.z s.ol hb, s.ol, hp, s.bw.trans (hb.mono (Nat.le_trans s.b1 s.b2)), s.b1, s.b2, Nat.le_trans s.b3 hb.size⟩
end
/-- The end: the solution is being written. -/
structure Sz (h u B S1 : Nat) (v pv : Value) (piv : List Nat) (w0 wr : World) (hv : List Value) (L : List (List GF)) (M : Mat) (n : Nat) (xs : List GF) : Prop where
  m : OwM wr B v hv L
  low : OwM.low S1 v hv
  ag : Agr L h u M
  z : OwB wr S1 (.slice (some ⟨S1, 0, none⟩) u u) xs
  len : xs.length = u
  val : ∀ q, q < u → xs.getD q 0 = outM M piv u n q
  p : OwI wr (S1 + 1) pv (toI piv)
  bw : Below B w0 wr
  b1 : B ≤ S1
section
variable {h u B S1 : Nat} {v pv : Value} {piv : List Nat} {w0 wr wr' : World} {hv : List Value} {L : List (List GF)} {M : Mat} {n : Nat} {xs : List GF}
theorem Sw.end (s : Sw h u B S1 (S1 + 1) v (.slice (some ⟨S1, 0, none⟩) u u) pv piv w0 wr hv L M) : Sz h u B S1 v pv piv w0 wr hv L M 0 (List.replicate u 0) :=
  ⟨s.m, s.low, s.ag, s.z, List.length_replicate, fun q hq => by rw [outM_zero]; simp [List.getD, hq], s.p, s.bw, s.b1⟩
theorem Sz.form (s : Sz h u B S1 v pv piv w0 wr hv L M n xs) (hp : 0 < h) : ∃ g c, v = .slice (some ⟨g, 0, none⟩) h c ∧ B ≤ g ∧ g < S1 ∧ g < wr.heap.size := by
  obtain ⟨g, c, e, h1, h2⟩ := s.m.head (by rw [s.ag.1]; exact hp)
  rw [s.ag.1] at e
  exact ⟨g, c, e, h1, s.low.1 g (by rw [e]; rfl), h2⟩
theorem Sz.below (s : Sz h u B S1 v pv piv w0 wr hv L M n xs) (hb : Below wr.heap.size wr wr') : Sz h u B S1 v pv piv w0 wr' hv L M n xs :=
  ⟨s.m.below hb, s.low, s.ag, s.z.below hb, s.len, s.val, s.p.below hb, s.bw.trans (hb.mono (Nat.le_trans s.b1 (Nat.le_of_lt s.z.lt.2))), s.b1⟩
theorem Sz.row (s : Sz h u B S1 v pv piv w0 wr hv L M n xs) {i : Nat} (hi : i < h) : ∃ gi ci, hv.getD i undef = .slice (some ⟨gi, 0, none⟩) (u + 1) ci ∧ gi < wr.heap.size ∧ ∀ k, k ≤ u → wr.cell? ⟨gi, k, none⟩ = some (.int .u8 (M i k).z) := by
  have hr := s.m.row i (by rw [s.ag.1]; exact hi)
  obtain ⟨A, c, e⟩ := hr.form
  rw [s.ag.2.1 i hi] at e
  rw [e] at hr
  obtain ⟨gi, rfl⟩ := hr.head (by omega)
  have hlt := hr.lt
  exact ⟨gi, c, e, hlt.2, fun k hk => by rw [hr.cellAt (i := k) (by omega), s.ag.2.2 i hi k hk]⟩
theorem Sz.cell {g c : Nat} (s : Sz h u B S1 (.slice (some ⟨g, 0, none⟩) h c) pv piv w0 wr hv L M n xs) {i : Nat} (hi : i < h) : wr.cell? ⟨g, i, none⟩ = some (hv.getD i undef) := by
  have hm := s.m
  have hl := s.ag.1
  rw [← hl] at hm
  exact hm.cellAt (by rw [hl]; exact hi)
theorem toI_getD (l : List Nat) (i : Nat) : (toI l).getD i 0 = ((l.getD i 0 : Nat) : Int) := by
  unfold toI
  by_cases h : i < l.length
  · simp [List.getD, h]
  · simp [List.getD, Nat.le_of_not_lt h]
theorem Sz.pcell (s : Sz h u B S1 v pv piv w0 wr hv L M n xs) {i : Nat} (hi : i < piv.length) : ∃ gp cp, pv = .slice (some ⟨gp, 0, none⟩) piv.length cp ∧ gp < wr.heap.size ∧ wr.cell? ⟨gp, i, none⟩ = some (.int .i64 (piv.getD i 0 : Nat)) := by
  have hp := s.p
  obtain ⟨A, c, e⟩ := hp.form
  rw [toI_len] at e
  subst e
  rcases hp.2 with h' | ⟨g, cap, cur, hv, hB, hh, hn⟩
  · exact absurd h'.2 (by rw [toI_len]; omega)
  · injection hv with e1 e2 e3
    subst e1
    exact ⟨g, c, rfl, hp.lt.2, by rw [hp.cellAt hi, toI_getD]⟩
theorem Sz.put (s : Sz h u B S1 v pv piv w0 wr hv L M n xs) (hn : piv.getD n 0 < u) : Sz h u B S1 v pv piv w0 (wr.setCell ⟨S1, piv.getD n 0, none⟩ (.int .u8 (M n u).z)) hv L M (n + 1) (xs.set (piv.getD n 0) (M n u)) :=
  ⟨s.m.belowS s.low ((Below.refl _ _).setCell (p := ⟨S1, piv.getD n 0, none⟩) (Nat.le_refl _) _), s.low, s.ag, s.z.set _ _, by rw [List.length_set]; exact s.len, fun q hq => by
    rw [outM_succ]
    by_cases e : piv.getD n 0 = q
    · rw [if_pos e, e, getD_set_eq (by rw [s.len]; exact hq)]
    · rw [if_neg e, getD_set_neq e, s.val q hq], own_low s.p (p := ⟨S1, piv.getD n 0, none⟩) (Nat.lt_succ_self _) _, s.bw.setCell (p := ⟨S1, piv.getD n 0, none⟩) s.b1 _, s.b1⟩
end
end Go.Proofs.Ytcinfkmekkdhfaa
