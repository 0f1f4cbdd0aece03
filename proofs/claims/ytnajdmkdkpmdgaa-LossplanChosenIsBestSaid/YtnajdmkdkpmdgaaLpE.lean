/- Variables of struct types in memory; walks of lossplan.Shape and lossplan.Payload. -/
import Derived.Test.YtnajdmkdkpmdgaaLpD
namespace Go.Proofs.Ytnajdmkdkpmdgaa
open Go.RowKit
set_option linter.unusedVariables false

/-- A variable of four numbers. -/
def H4 (w : World) (b : Nat) (a0 a1 a2 a3 : Int) : Prop := b < w.heap.size ∧ (w.cell? ⟨b, 0, none⟩ = some (.int .i64 a0) ∧ w.cell? ⟨b, 1, none⟩ = some (.int .i64 a1) ∧ w.cell? ⟨b, 2, none⟩ = some (.int .i64 a2) ∧ w.cell? ⟨b, 3, none⟩ = some (.int .i64 a3)) ∧ w.frozen? ⟨b, 0, none⟩ = false ∧ w.frozen? ⟨b, 1, none⟩ = false ∧ w.frozen? ⟨b, 2, none⟩ = false ∧ w.frozen? ⟨b, 3, none⟩ = false
theorem H4.new (w : World) (a0 a1 a2 a3 : Int) (t : TypeId) : H4 (w.alloc (.cells #[.int .i64 a0, .int .i64 a1, .int .i64 a2, .int .i64 a3] t)) w.heap.size a0 a1 a2 a3 :=
  ⟨by simp, ⟨by simp [go_sem], by simp [go_sem], by simp [go_sem], by simp [go_sem]⟩, by simp [go_sem], by simp [go_sem], by simp [go_sem], by simp [go_sem]⟩
section
variable {w w' : World} {b : Nat} {a0 a1 a2 a3 : Int}
theorem H4.below (h : H4 w b a0 a1 a2 a3) (hb : Below w.heap.size w w') : H4 w' b a0 a1 a2 a3 :=
  ⟨Nat.lt_of_lt_of_le h.1 hb.size, ⟨(hb.cell (p := ⟨b, 0, none⟩) h.1).trans h.2.1.1, (hb.cell (p := ⟨b, 1, none⟩) h.1).trans h.2.1.2.1, (hb.cell (p := ⟨b, 2, none⟩) h.1).trans h.2.1.2.2.1, (hb.cell (p := ⟨b, 3, none⟩) h.1).trans h.2.1.2.2.2⟩,
    (hb.frozen (p := ⟨b, 0, none⟩) h.1).trans h.2.2.1, (hb.frozen (p := ⟨b, 1, none⟩) h.1).trans h.2.2.2.1, (hb.frozen (p := ⟨b, 2, none⟩) h.1).trans h.2.2.2.2.1, (hb.frozen (p := ⟨b, 3, none⟩) h.1).trans h.2.2.2.2.2⟩
theorem H4.al (h : H4 w b a0 a1 a2 a3) (o : Obj) : H4 (w.alloc o) b a0 a1 a2 a3 := h.below (below_new w o)
theorem H4.drew (h : H4 w b a0 a1 a2 a3) : H4 w.drew b a0 a1 a2 a3 := h
theorem H4.far (h : H4 w b a0 a1 a2 a3) {p : Addr} (hp : p.block ≠ b) (u : Value) : H4 (w.setCell p u) b a0 a1 a2 a3 := by
  obtain ⟨l, ⟨c0, c1, c2, c3⟩, f0, f1, f2, f3⟩ := h
  have hc : ∀ i, (w.setCell p u).cell? ⟨b, i, none⟩ = w.cell? ⟨b, i, none⟩ := fun i => World.cell?_of_block (a := ⟨b, i, none⟩) (Below.heap_setCell w p u b (Ne.symm hp))
  exact ⟨by simpa [World.setCell] using l, ⟨(hc 0).trans c0, (hc 1).trans c1, (hc 2).trans c2, (hc 3).trans c3⟩, by simpa using f0, by simpa using f1, by simpa using f2, by simpa using f3⟩
theorem H4.set0 (h : H4 w b a0 a1 a2 a3) (x : Int) : H4 (w.setCell ⟨b, 0, none⟩ (.int .i64 x)) b x a1 a2 a3 := by
  obtain ⟨l, ⟨c0, c1, c2, c3⟩, f0, f1, f2, f3⟩ := h
  exact ⟨by simpa [World.setCell] using l, ⟨cell_set_same c0, by rw [World.cell?_setCell_other _ _ _ _ (by simp)]; exact c1, by rw [World.cell?_setCell_other _ _ _ _ (by simp)]; exact c2, by rw [World.cell?_setCell_other _ _ _ _ (by simp)]; exact c3⟩, by simpa using f0, by simpa using f1, by simpa using f2, by simpa using f3⟩
theorem H4.set1 (h : H4 w b a0 a1 a2 a3) (x : Int) : H4 (w.setCell ⟨b, 1, none⟩ (.int .i64 x)) b a0 x a2 a3 := by
  obtain ⟨l, ⟨c0, c1, c2, c3⟩, f0, f1, f2, f3⟩ := h
  exact ⟨by simpa [World.setCell] using l, ⟨by rw [World.cell?_setCell_other _ _ _ _ (by simp)]; exact c0, cell_set_same c1, by rw [World.cell?_setCell_other _ _ _ _ (by simp)]; exact c2, by rw [World.cell?_setCell_other _ _ _ _ (by simp)]; exact c3⟩, by simpa using f0, by simpa using f1, by simpa using f2, by simpa using f3⟩
theorem H4.set2 (h : H4 w b a0 a1 a2 a3) (x : Int) : H4 (w.setCell ⟨b, 2, none⟩ (.int .i64 x)) b a0 a1 x a3 := by
  obtain ⟨l, ⟨c0, c1, c2, c3⟩, f0, f1, f2, f3⟩ := h
  exact ⟨by simpa [World.setCell] using l, ⟨by rw [World.cell?_setCell_other _ _ _ _ (by simp)]; exact c0, by rw [World.cell?_setCell_other _ _ _ _ (by simp)]; exact c1, cell_set_same c2, by rw [World.cell?_setCell_other _ _ _ _ (by simp)]; exact c3⟩, by simpa using f0, by simpa using f1, by simpa using f2, by simpa using f3⟩
theorem H4.set3 (h : H4 w b a0 a1 a2 a3) (x : Int) : H4 (w.setCell ⟨b, 3, none⟩ (.int .i64 x)) b a0 a1 a2 x := by
  obtain ⟨l, ⟨c0, c1, c2, c3⟩, f0, f1, f2, f3⟩ := h
  exact ⟨by simpa [World.setCell] using l, ⟨by rw [World.cell?_setCell_other _ _ _ _ (by simp)]; exact c0, by rw [World.cell?_setCell_other _ _ _ _ (by simp)]; exact c1, by rw [World.cell?_setCell_other _ _ _ _ (by simp)]; exact c2, cell_set_same c3⟩, by simpa using f0, by simpa using f1, by simpa using f2, by simpa using f3⟩
theorem H4.set (h : H4 w b a0 a1 a2 a3) (x0 x1 x2 x3 : Int) : H4 ((((w.setCell ⟨b, 0, none⟩ (.int .i64 x0)).setCell ⟨b, 1, none⟩ (.int .i64 x1)).setCell ⟨b, 2, none⟩ (.int .i64 x2)).setCell ⟨b, 3, none⟩ (.int .i64 x3)) b x0 x1 x2 x3 := (((h.set0 x0).set1 x1).set2 x2).set3 x3
theorem H4.far4 (h : H4 w b a0 a1 a2 a3) {g : Nat} (hg : g ≠ b) (u0 u1 u2 u3 : Value) : H4 ((((w.setCell ⟨g, 0, none⟩ u0).setCell ⟨g, 1, none⟩ u1).setCell ⟨g, 2, none⟩ u2).setCell ⟨g, 3, none⟩ u3) b a0 a1 a2 a3 :=
  (((h.far (p := ⟨g, 0, none⟩) hg u0).far (p := ⟨g, 1, none⟩) hg u1).far (p := ⟨g, 2, none⟩) hg u2).far (p := ⟨g, 3, none⟩) hg u3
theorem H4.far2 (h : H4 w b a0 a1 a2 a3) {g : Nat} (hg : g ≠ b) (u0 u1 : Value) : H4 ((w.setCell ⟨g, 0, none⟩ u0).setCell ⟨g, 1, none⟩ u1) b a0 a1 a2 a3 := (h.far (p := ⟨g, 0, none⟩) hg u0).far (p := ⟨g, 1, none⟩) hg u1
theorem HasFar {c i : Int} (h : Has w b c i) {p : Addr} (hp : p.block ≠ b) (u : Value) : Has (w.setCell p u) b c i := h.set hp u
theorem Has.far4 {c i : Int} (h : Has w b c i) {g : Nat} (hg : g ≠ b) (u0 u1 u2 u3 : Value) : Has ((((w.setCell ⟨g, 0, none⟩ u0).setCell ⟨g, 1, none⟩ u1).setCell ⟨g, 2, none⟩ u2).setCell ⟨g, 3, none⟩ u3) b c i :=
  HasFar (HasFar (HasFar (HasFar h (p := ⟨g, 0, none⟩) hg u0) (p := ⟨g, 1, none⟩) hg u1) (p := ⟨g, 2, none⟩) hg u2) (p := ⟨g, 3, none⟩) hg u3
theorem Bw.set4 {w a : World} (h : Below w.heap.size w a) {g : Nat} (hg : w.heap.size ≤ g) (u0 u1 u2 u3 : Value) : Below w.heap.size w ((((a.setCell ⟨g, 0, none⟩ u0).setCell ⟨g, 1, none⟩ u1).setCell ⟨g, 2, none⟩ u2).setCell ⟨g, 3, none⟩ u3) :=
  Bw.set (Bw.set (Bw.set (Bw.set h (p := ⟨g, 0, none⟩) hg u0) (p := ⟨g, 1, none⟩) hg u1) (p := ⟨g, 2, none⟩) hg u2) (p := ⟨g, 3, none⟩) hg u3
theorem Bw.set2 {w a : World} (h : Below w.heap.size w a) {g : Nat} (hg : w.heap.size ≤ g) (u0 u1 : Value) : Below w.heap.size w ((a.setCell ⟨g, 0, none⟩ u0).setCell ⟨g, 1, none⟩ u1) :=
  Bw.set (Bw.set h (p := ⟨g, 0, none⟩) hg u0) (p := ⟨g, 1, none⟩) hg u1
end
/-- The results of a function: a struct of four numbers and a fault, both in memory. -/
theorem resS {fn : Func} {a a' : Nat} {t : TypeId} (h : fn.results = #[.cell a t, .cell a' 27]) (ht : t = 43 ∨ t = 23) {tmps : Array Value} {b b' : Nat} {x0 x1 x2 x3 c i : Int} {w : World} (ha : tmps.getD a undef = .pointer (some ⟨b, 0, none⟩)) (ha' : tmps.getD a' undef = .pointer (some ⟨b', 0, none⟩)) (hh : H4 w b x0 x1 x2 x3) (hf : Has w b' c i) :
    (results fn tmps).run Try.prog w = .ok (.tuple #[.agg #[.int .i64 x0, .int .i64 x1, .int .i64 x2, .int .i64 x3], .agg #[.int .i64 c, .int .i64 i]]) w := by
  obtain ⟨l, ⟨c0, c1, c2, c3⟩, f0, f1, f2, f3⟩ := hh
  obtain ⟨l', d0, d1, g0, g1⟩ := hf
  simp at ha ha'
  rcases ht with rfl | rfl
  · simp [results, h, ha, ha', c0, c1, c2, c3, d0, d1, go_sem]
  · simp [results, h, ha, ha', c0, c1, c2, c3, d0, d1, go_sem]
/-- A variable of five numbers. -/
def H5 (w : World) (b : Nat) (a0 a1 a2 a3 a4 : Int) : Prop := b < w.heap.size ∧ w.cell? ⟨b, 0, none⟩ = some (.int .i64 a0) ∧ w.cell? ⟨b, 1, none⟩ = some (.int .i64 a1) ∧ w.cell? ⟨b, 2, none⟩ = some (.int .i64 a2) ∧ w.cell? ⟨b, 3, none⟩ = some (.int .i64 a3) ∧ w.cell? ⟨b, 4, none⟩ = some (.int .i64 a4)
theorem H5.new (w : World) (a0 a1 a2 a3 a4 : Int) (t : TypeId) : H5 (w.alloc (.cells #[.int .i64 a0, .int .i64 a1, .int .i64 a2, .int .i64 a3, .int .i64 a4] t)) w.heap.size a0 a1 a2 a3 a4 :=
  ⟨by simp, by simp [go_sem], by simp [go_sem], by simp [go_sem], by simp [go_sem], by simp [go_sem]⟩
theorem H5.below {w w' : World} {b : Nat} {a0 a1 a2 a3 a4 : Int} (h : H5 w b a0 a1 a2 a3 a4) (hb : Below w.heap.size w w') : H5 w' b a0 a1 a2 a3 a4 :=
  ⟨Nat.lt_of_lt_of_le h.1 hb.size, (hb.cell (p := ⟨b, 0, none⟩) h.1).trans h.2.1, (hb.cell (p := ⟨b, 1, none⟩) h.1).trans h.2.2.1, (hb.cell (p := ⟨b, 2, none⟩) h.1).trans h.2.2.2.1, (hb.cell (p := ⟨b, 3, none⟩) h.1).trans h.2.2.2.2.1, (hb.cell (p := ⟨b, 4, none⟩) h.1).trans h.2.2.2.2.2⟩
theorem H5.al {w : World} {b : Nat} {a0 a1 a2 a3 a4 : Int} (h : H5 w b a0 a1 a2 a3 a4) (o : Obj) : H5 (w.alloc o) b a0 a1 a2 a3 a4 := h.below (below_new w o)
theorem H5.far {w : World} {b : Nat} {a0 a1 a2 a3 a4 : Int} (h : H5 w b a0 a1 a2 a3 a4) {p : Addr} (hp : p.block ≠ b) (u : Value) : H5 (w.setCell p u) b a0 a1 a2 a3 a4 := by
  obtain ⟨l, c0, c1, c2, c3, c4⟩ := h
  have hc : ∀ i, (w.setCell p u).cell? ⟨b, i, none⟩ = w.cell? ⟨b, i, none⟩ := fun i => World.cell?_of_block (a := ⟨b, i, none⟩) (Below.heap_setCell w p u b (Ne.symm hp))
  exact ⟨by simpa [World.setCell] using l, (hc 0).trans c0, (hc 1).trans c1, (hc 2).trans c2, (hc 3).trans c3, (hc 4).trans c4⟩
theorem plF_code (r c d p : Int) : plF r c d p = (0, 0) ∨ (plF r c d p).1 = 4 := by
  unfold plF wiF planT
  by_cases h0 : triOk (r, 0, 16)
  · rw [wi_ok h0]
    by_cases h1 : triOk (c, 0, 12)
    · rw [wi_ok h1]
      by_cases h2 : triOk (d, 1, 48)
      · rw [wi_ok h2]
        by_cases h3 : triOk (p, 0, 16)
        · rw [wi_ok h3]; exact .inl rfl
        · rw [wi_bad h3]; exact .inr rfl
      · rw [wi_bad h2]; exact .inr rfl
    · rw [wi_bad h1]; exact .inr rfl
  · rw [wi_bad h0]; exact .inr rfl
theorem plF_ok {r c d p : Int} (h : plF r c d p = (0, 0)) : (0 ≤ r ∧ r ≤ 16) ∧ (0 ≤ c ∧ c ≤ 12) ∧ (1 ≤ d ∧ d ≤ 48) ∧ (0 ≤ p ∧ p ≤ 16) := by
  unfold plF wiF planT at h
  by_cases h0 : triOk (r, 0, 16)
  · rw [wi_ok h0] at h
    by_cases h1 : triOk (c, 0, 12)
    · rw [wi_ok h1] at h
      by_cases h2 : triOk (d, 1, 48)
      · rw [wi_ok h2] at h
        by_cases h3 : triOk (p, 0, 16)
        · exact ⟨h0, h1, h2, h3⟩
        · rw [wi_bad h3] at h; cases h
      · rw [wi_bad h2] at h; cases h
    · rw [wi_bad h1] at h; cases h
  · rw [wi_bad h0] at h; cases h
theorem plF_of {r c d p : Int} (h0 : 0 ≤ r ∧ r ≤ 16) (h1 : 0 ≤ c ∧ c ≤ 12) (h2 : 1 ≤ d ∧ d ≤ 48) (h3 : 0 ≤ p ∧ p ≤ 16) : plF r c d p = (0, 0) := by
  unfold plF wiF planT
  rw [wi_ok (t := (r, 0, 16)) h0, wi_ok (t := (c, 0, 12)) h1, wi_ok (t := (d, 1, 48)) h2, wi_ok (t := (p, 0, 16)) h3]; rfl
theorem loF_ok {m x h v s : Int} (e : loF m x h v s = (0, 0)) : (0 ≤ m ∧ m ≤ 16) ∧ (0 ≤ x ∧ x ≤ 8) ∧ (0 ≤ h ∧ h ≤ 16) ∧ (0 ≤ v ∧ v ≤ 24) ∧ (0 ≤ s ∧ s ≤ 384) := by
  unfold loF wiF lossT at e
  by_cases h0 : triOk (m, 0, 16)
  · rw [wi_ok h0] at e
    by_cases h1 : triOk (x, 0, 8)
    · rw [wi_ok h1] at e
      by_cases h2 : triOk (h, 0, 16)
      · rw [wi_ok h2] at e
        by_cases h3 : triOk (v, 0, 24)
        · rw [wi_ok h3] at e
          by_cases h4 : triOk (s, 0, 384)
          · exact ⟨h0, h1, h2, h3, h4⟩
          · rw [wi_bad h4] at e; cases e
        · rw [wi_bad h3] at e; cases e
      · rw [wi_bad h2] at e; cases e
    · rw [wi_bad h1] at e; cases e
  · rw [wi_bad h0] at e; cases e
theorem loF_of {m x h v s : Int} (h0 : 0 ≤ m ∧ m ≤ 16) (h1 : 0 ≤ x ∧ x ≤ 8) (h2 : 0 ≤ h ∧ h ≤ 16) (h3 : 0 ≤ v ∧ v ≤ 24) (h4 : 0 ≤ s ∧ s ≤ 384) : loF m x h v s = (0, 0) := by
  unfold loF wiF lossT
  rw [wi_ok (t := (m, 0, 16)) h0, wi_ok (t := (x, 0, 8)) h1, wi_ok (t := (h, 0, 16)) h2, wi_ok (t := (v, 0, 24)) h3, wi_ok (t := (s, 0, 384)) h4]; rfl
theorem loF_code (m x h v s : Int) : loF m x h v s = (0, 0) ∨ ((loF m x h v s).1 = 4 ∧ 0 ≤ (loF m x h v s).2 ∧ (loF m x h v s).2 ≤ 4) := by
  unfold loF wiF lossT
  by_cases h0 : triOk (m, 0, 16)
  · rw [wi_ok h0]
    by_cases h1 : triOk (x, 0, 8)
    · rw [wi_ok h1]
      by_cases h2 : triOk (h, 0, 16)
      · rw [wi_ok h2]
        by_cases h3 : triOk (v, 0, 24)
        · rw [wi_ok h3]
          by_cases h4 : triOk (s, 0, 384)
          · rw [wi_ok h4]; exact .inl rfl
          · rw [wi_bad h4]; exact .inr ⟨rfl, by decide, by decide⟩
        · rw [wi_bad h3]; exact .inr ⟨rfl, by decide, by decide⟩
      · rw [wi_bad h2]; exact .inr ⟨rfl, by decide, by decide⟩
    · rw [wi_bad h1]; exact .inr ⟨rfl, by decide, by decide⟩
  · rw [wi_bad h0]; exact .inr ⟨rfl, by decide, by decide⟩
end Go.Proofs.Ytnajdmkdkpmdgaa
