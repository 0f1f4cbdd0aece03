/- Product codes: slices of bools, variables of block types, worlds that change in some blocks alone; walks of Validate, Size, DataSize. -/
import Derived.Test.YtmpjkdkgolmgdaaGreatMg
import Derived.Test.YtmpjkdkgolmgdaaGreatMd
import Derived.Test.YtmpjkdkgolmgdaaGreatMe
namespace Go.Proofs.YtmpjkdkgolmgdaaGreat
open Go.RowKit
set_option linter.unusedVariables false

/-! ### Slices of bools -/
def cT (l : List Bool) : List Value := l.map fun x => .bool x
theorem cT_len (l : List Bool) : (cT l).length = l.length := List.length_map _
def OwT (w : World) (B : Nat) (v : Value) (l : List Bool) : Prop := w.ownsRow B 4 1 v l.length (cT l)
theorem OwT.below {w w' : World} {B : Nat} {v : Value} {l : List Bool} (h : OwT w B v l) (hb : Below w.heap.size w w') : OwT w' B v l := own_below h hb
theorem OwT.form {w : World} {B : Nat} {v : Value} {l : List Bool} (h : OwT w B v l) : ∃ A c, v = .slice A l.length c := by
  rcases h.2 with ⟨rfl, h0⟩ | ⟨g, cap, cur, rfl, _⟩
  · rw [h0]; exact ⟨_, _, rfl⟩
  · exact ⟨_, _, rfl⟩
theorem OwT.len {w : World} {B n c : Nat} {A : Option Addr} {l : List Bool} (h : OwT w B (.slice A n c) l) : n = l.length := by
  obtain ⟨A', c', e⟩ := h.form
  injection e
theorem OwT.cellAt {w : World} {B n c g : Nat} {l : List Bool} (h : OwT w B (.slice (some ⟨g, 0, none⟩) n c) l) {i : Nat} (hi : i < n) : w.cell? ⟨g, i, none⟩ = some (.bool (l.getD i false)) := by
  have hn := h.len
  subst hn
  have hcell := World.ownsRow.cellAt (g := g) (cap := c) h i (by omega)
  rw [hcell]; unfold cT
  rw [List.getElem?_map, List.getElem?_eq_getElem hi]
  simp [List.getD, List.getElem?_eq_getElem hi]
theorem OwT.frozenAt {w : World} {B n c g : Nat} {l : List Bool} (h : OwT w B (.slice (some ⟨g, 0, none⟩) n c) l) (i : Nat) : w.frozen? ⟨g, i, none⟩ = false := by
  have hn := h.len
  subst hn
  exact World.ownsRow.frozenAt (g := g) (cap := c) h i
theorem OwT.set {w : World} {B n c g : Nat} {l : List Bool} (h : OwT w B (.slice (some ⟨g, 0, none⟩) n c) l) (i : Nat) (x : Bool) : OwT (w.setCell ⟨g, i, none⟩ (.bool x)) B (.slice (some ⟨g, 0, none⟩) n c) (l.set i x) := by
  have hn := h.len
  subst hn
  have := (World.ownsRow.stored (g := g) (cap := c) h i (.bool x)).1
  unfold OwT
  rw [List.length_set]
  have e : cT (l.set i x) = (cT l).set i (.bool x) := by unfold cT; rw [List.map_set]
  rw [e]; exact this
theorem OwT.lt {w : World} {B n c g : Nat} {l : List Bool} (h : OwT w B (.slice (some ⟨g, 0, none⟩) n c) l) : B ≤ g ∧ g < w.heap.size := World.ownsRow.lt h g rfl
theorem OwT.far {w : World} {B g n c : Nat} {l : List Bool} (h : OwT w B (.slice (some ⟨g, 0, none⟩) n c) l) {p : Addr} (hp : p.block ≠ g) (u : Value) : OwT (w.setCell p u) B (.slice (some ⟨g, 0, none⟩) n c) l := own_far h hp u
def zerosT (n : Nat) : Array Value := madeCells #[.bool false] n
theorem OwT.new (w : World) (B n : Nat) (hB : B ≤ w.heap.size) (hn : n ≤ maxLen) : OwT (w.alloc (.cells (zerosT n) 4)) B (.slice (some ⟨w.heap.size, 0, none⟩) n n) (List.replicate n false) := by
  have := own_made w B 4 (.bool false) n hB hn
  unfold OwT cT zerosT
  rw [List.length_replicate, List.map_replicate]; exact this
theorem infoT : (Tryz.prog.info? 4).map (fun i => (i.zero, i.size, i.bytes)) = some (some (.bool false), 1, 1) := by kernel_rfl
theorem run_makeT (n : Nat) (hn : n ≤ 140737488355328) (w : World) : (Instr.makeSlice 68 (.int .i64 (n : Int)) (.int .i64 (n : Int))).run Tryz.prog w = .ok (.slice (some ⟨w.heap.size, 0, none⟩) n n) (w.alloc (.cells (zerosT n) 4)) :=
  run_make_row' 68 4 (.bool false) 1 Tryz.underlying68 infoT rfl .i64 .i64 n (by omega) (by omega) w

/-! ### Worlds that change in some blocks alone -/
structure Exc (gs : List Nat) (w w' : World) : Prop where
  os : w'.os = w.os
  tape : w'.tape = w.tape
  output : w'.output = w.output
  size : w.heap.size ≤ w'.heap.size
  block : ∀ k, k < w.heap.size → k ∉ gs → w'.heap[k]? = w.heap[k]?
theorem Exc.refl (gs : List Nat) (w : World) : Exc gs w w := ⟨rfl, rfl, rfl, Nat.le_refl _, fun _ _ _ => rfl⟩
theorem Exc.trans {gs : List Nat} {a b c : World} (h : Exc gs a b) (k : Exc gs b c) : Exc gs a c :=
  ⟨k.os.trans h.os, k.tape.trans h.tape, k.output.trans h.output, Nat.le_trans h.size k.size, fun i hi hn => (k.block i (Nat.lt_of_lt_of_le hi h.size) hn).trans (h.block i hi hn)⟩
theorem Exc.of {w w' : World} (gs : List Nat) (h : Below w.heap.size w w') : Exc gs w w' := ⟨h.os, h.tape, h.output, h.size, fun k hk _ => h.block k hk⟩
theorem Exc.more {gs gs' : List Nat} {w w' : World} (h : Exc gs w w') (hs : ∀ k ∈ gs, k ∈ gs') : Exc gs' w w' := ⟨h.os, h.tape, h.output, h.size, fun k hk hn => h.block k hk fun e => hn (hs k e)⟩
theorem Exc.step {gs : List Nat} {a b c : World} (h : Exc gs a b) (k : Below b.heap.size b c) : Exc gs a c := h.trans (Exc.of gs k)
theorem Exc.set {gs : List Nat} {a b : World} (h : Exc gs a b) {p : Addr} (hp : p.block ∈ gs) (u : Value) : Exc gs a (b.setCell p u) :=
  h.trans ⟨rfl, rfl, rfl, by simp [World.setCell], fun k hk hn => Below.heap_setCell _ _ _ _ fun e => hn (e ▸ hp)⟩
theorem Exc.drew {gs : List Nat} {a b : World} (h : Exc gs a b) : Exc gs a b.drew := ⟨h.os, h.tape, h.output, h.size, h.block⟩
theorem Exc.below {gs : List Nat} {w w' : World} (h : Exc gs w w') {B : Nat} (hB : B ≤ w.heap.size) (hg : ∀ g ∈ gs, B ≤ g) : Below B w w' :=
  ⟨h.os, h.tape, h.output, h.size, fun k hk => h.block k (by omega) fun e => by have := hg k e; omega⟩
theorem Exc.cell {gs : List Nat} {w w' : World} (h : Exc gs w w') {p : Addr} (hp : p.block < w.heap.size) (hn : p.block ∉ gs) : w'.cell? p = w.cell? p := World.cell?_of_block (w := w) (h.block p.block hp hn)
/-- What is owned in another block stays. -/
theorem own_exc {gs : List Nat} {w w' : World} {B : Nat} {e : TypeId} {s : Nat} {v : Value} {n : Nat} {xs : List Value} (h : w.ownsRow B e s v n xs) (hx : Exc gs w w') (hn : ∀ g, v.ownBlock = some g → g ∉ gs) : w'.ownsRow B e s v n xs := by
  refine ⟨h.1, ?_⟩
  rcases h.2 with h' | ⟨g, cap, cur, hv, hB, hh, hr⟩
  · exact .inl h'
  · have hlt : g < w.heap.size := by
      rcases Nat.lt_or_ge g w.heap.size with hlt | hge
      · exact hlt
      · rw [Array.getElem?_eq_none hge] at hh; cases hh
    exact .inr ⟨g, cap, cur, hv, hB, (hx.block g hlt (hn g (by rw [hv]; rfl))).trans hh, hr⟩
theorem RdB.exc {gs : List Nat} {w w' : World} {A : Option Addr} {n : Nat} {l : List GF} (h : RdB w A n l) (hx : Exc gs w w') (hn : ∀ b o, A = some ⟨b, o, none⟩ → b ∉ gs) : RdB w' A n l :=
  ⟨h.1, fun h0 => by
    obtain ⟨b, off, e, hlt, hc⟩ := h.2 h0
    exact ⟨b, off, e, Nat.lt_of_lt_of_le hlt hx.size, fun i hi => (hx.cell (p := ⟨b, off + i, none⟩) hlt (hn b off e)).trans (hc i hi)⟩⟩

/-! ### Variables of the block types -/
def S4 (w : World) (b : Nat) (R C p q : Int) : Prop := b < w.heap.size ∧ w.cell? ⟨b, 0, none⟩ = some (.int .i64 R) ∧ w.cell? ⟨b, 1, none⟩ = some (.int .i64 C) ∧ w.cell? ⟨b, 2, none⟩ = some (.int .i64 p) ∧ w.cell? ⟨b, 3, none⟩ = some (.int .i64 q)
def S5 (w : World) (b : Nat) (R C p q : Int) (v : Value) : Prop := S4 w b R C p q ∧ w.cell? ⟨b, 4, none⟩ = some v
def S6 (w : World) (b : Nat) (R C p q : Int) (v m : Value) : Prop := S5 w b R C p q v ∧ w.cell? ⟨b, 5, none⟩ = some m
abbrev shpV (R C p q : Int) : Value := .agg #[.int .i64 R, .int .i64 C, .int .i64 p, .int .i64 q]
abbrev blkV (R C p q : Int) (v : Value) : Value := .agg #[.int .i64 R, .int .i64 C, .int .i64 p, .int .i64 q, v]
abbrev decV (R C p q : Int) (v m : Value) : Value := .agg #[.int .i64 R, .int .i64 C, .int .i64 p, .int .i64 q, v, m]
abbrev shpC (R C p q : Int) : Obj := .cells #[.int .i64 R, .int .i64 C, .int .i64 p, .int .i64 q] 37
abbrev blkC (R C p q : Int) (v : Value) : Obj := .cells #[.int .i64 R, .int .i64 C, .int .i64 p, .int .i64 q, v] 60
abbrev decC (R C p q : Int) (v m : Value) : Obj := .cells #[.int .i64 R, .int .i64 C, .int .i64 p, .int .i64 q, v, m] 70
abbrev fltC (c i : Int) : Obj := .cells #[.int .i64 c, .int .i64 i] 27
section
variable {w w' : World} {b : Nat} {R C p q : Int} {v m : Value} {gs : List Nat}
theorem S4.new (w : World) (R C p q : Int) : S4 (w.alloc (shpC R C p q)) w.heap.size R C p q := ⟨by simp, by simp [go_sem], by simp [go_sem], by simp [go_sem], by simp [go_sem]⟩
theorem S5.new (w : World) (R C p q : Int) (v : Value) : S5 (w.alloc (blkC R C p q v)) w.heap.size R C p q v := ⟨⟨by simp, by simp [go_sem], by simp [go_sem], by simp [go_sem], by simp [go_sem]⟩, by simp [go_sem]⟩
theorem S6.new (w : World) (R C p q : Int) (v m : Value) : S6 (w.alloc (decC R C p q v m)) w.heap.size R C p q v m := ⟨⟨⟨by simp, by simp [go_sem], by simp [go_sem], by simp [go_sem], by simp [go_sem]⟩, by simp [go_sem]⟩, by simp [go_sem]⟩
theorem S4.exc (h : S4 w b R C p q) (hx : Exc gs w w') (hn : b ∉ gs) : S4 w' b R C p q :=
  ⟨Nat.lt_of_lt_of_le h.1 hx.size, (hx.cell (p := ⟨b, 0, none⟩) h.1 hn).trans h.2.1, (hx.cell (p := ⟨b, 1, none⟩) h.1 hn).trans h.2.2.1, (hx.cell (p := ⟨b, 2, none⟩) h.1 hn).trans h.2.2.2.1, (hx.cell (p := ⟨b, 3, none⟩) h.1 hn).trans h.2.2.2.2⟩
theorem S5.exc (h : S5 w b R C p q v) (hx : Exc gs w w') (hn : b ∉ gs) : S5 w' b R C p q v := ⟨h.1.exc hx hn, (hx.cell (p := ⟨b, 4, none⟩) h.1.1 hn).trans h.2⟩
theorem S6.exc (h : S6 w b R C p q v m) (hx : Exc gs w w') (hn : b ∉ gs) : S6 w' b R C p q v m := ⟨h.1.exc hx hn, (hx.cell (p := ⟨b, 5, none⟩) h.1.1.1 hn).trans h.2⟩
theorem S4.below (h : S4 w b R C p q) (hb : Below w.heap.size w w') : S4 w' b R C p q := h.exc (Exc.of [] hb) (by simp)
theorem S5.below (h : S5 w b R C p q v) (hb : Below w.heap.size w w') : S5 w' b R C p q v := h.exc (Exc.of [] hb) (by simp)
theorem S6.below (h : S6 w b R C p q v m) (hb : Below w.heap.size w w') : S6 w' b R C p q v m := h.exc (Exc.of [] hb) (by simp)
theorem S4.al (h : S4 w b R C p q) (o : Obj) : S4 (w.alloc o) b R C p q := h.below (below_new w o)
theorem S5.al (h : S5 w b R C p q v) (o : Obj) : S5 (w.alloc o) b R C p q v := h.below (below_new w o)
theorem S6.al (h : S6 w b R C p q v m) (o : Obj) : S6 (w.alloc o) b R C p q v m := h.below (below_new w o)
end
/-! ### The fault of a shape -/
def shF (R C p q : Int) : Int × Int := if ¬ (1 ≤ R ∧ R ≤ 32) then (4, 0) else if ¬ (1 ≤ C ∧ C ≤ 32) then (4, 1) else if ¬ (0 ≤ p ∧ p ≤ C - 1) then (4, 2) else if ¬ (0 ≤ q ∧ q ≤ R - 1) then (4, 3) else (0, 0)
theorem shF_cases (R C p q : Int) : (∃ R' C' p' q' : Nat, R = R' ∧ C = C' ∧ p = p' ∧ q = q' ∧ 1 ≤ R' ∧ R' ≤ 32 ∧ 1 ≤ C' ∧ C' ≤ 32 ∧ p' < C' ∧ q' < R' ∧ shF R C p q = (0, 0)) ∨
    (¬ (1 ≤ R ∧ R ≤ 32) ∧ shF R C p q = (4, 0)) ∨ ((1 ≤ R ∧ R ≤ 32) ∧ ¬ (1 ≤ C ∧ C ≤ 32) ∧ shF R C p q = (4, 1)) ∨ ((1 ≤ R ∧ R ≤ 32) ∧ (1 ≤ C ∧ C ≤ 32) ∧ ¬ (0 ≤ p ∧ p ≤ C - 1) ∧ shF R C p q = (4, 2)) ∨
    ((1 ≤ R ∧ R ≤ 32) ∧ (1 ≤ C ∧ C ≤ 32) ∧ (0 ≤ p ∧ p ≤ C - 1) ∧ ¬ (0 ≤ q ∧ q ≤ R - 1) ∧ shF R C p q = (4, 3)) := by
  unfold shF
  by_cases h1 : 1 ≤ R ∧ R ≤ 32
  · by_cases h2 : 1 ≤ C ∧ C ≤ 32
    · by_cases h3 : 0 ≤ p ∧ p ≤ C - 1
      · by_cases h4 : 0 ≤ q ∧ q ≤ R - 1
        · left
          refine ⟨R.toNat, C.toNat, p.toNat, q.toNat, by omega, by omega, by omega, by omega, by omega, by omega, by omega, by omega, by omega, by omega, ?_⟩
          rw [if_neg (by omega), if_neg (by omega), if_neg (by omega), if_neg (by omega)]
        · exact .inr (.inr (.inr (.inr ⟨h1, h2, h3, h4, by rw [if_neg (by omega), if_neg (by omega), if_neg (by omega), if_pos h4]⟩)))
      · exact .inr (.inr (.inr (.inl ⟨h1, h2, h3, by rw [if_neg (by omega), if_neg (by omega), if_pos h3]⟩)))
    · exact .inr (.inr (.inl ⟨h1, h2, by rw [if_neg (by omega), if_pos h2]⟩))
  · exact .inr (.inl ⟨h1, by rw [if_pos h1]⟩)
theorem shF_ok {R C p q : Nat} (h1 : 1 ≤ R) (h2 : R ≤ 32) (h3 : 1 ≤ C) (h4 : C ≤ 32) (h5 : p < C) (h6 : q < R) : shF R C p q = (0, 0) := by
  unfold shF; rw [if_neg (by omega), if_neg (by omega), if_neg (by omega), if_neg (by omega)]
theorem shF_code (R C p q : Int) : shF R C p q = (0, 0) ∨ ((shF R C p q).1 = 4) := by
  rcases shF_cases R C p q with ⟨_, _, _, _, _, _, _, _, _, _, _, _, _, _, h⟩ | ⟨_, h⟩ | ⟨_, _, h⟩ | ⟨_, _, _, h⟩ | ⟨_, _, _, _, h⟩
  · exact .inl h
  all_goals exact .inr (by rw [h])
theorem shF_nat {R C p q : Int} (h : shF R C p q = (0, 0)) : ∃ R' C' p' q' : Nat, R = R' ∧ C = C' ∧ p = p' ∧ q = q' ∧ 1 ≤ R' ∧ R' ≤ 32 ∧ 1 ≤ C' ∧ C' ≤ 32 ∧ p' < C' ∧ q' < R' := by
  rcases shF_cases R C p q with ⟨a, b, c, d, e1, e2, e3, e4, h1, h2, h3, h4, h5, h6, _⟩ | ⟨_, h'⟩ | ⟨_, _, h'⟩ | ⟨_, _, _, h'⟩ | ⟨_, _, _, _, h'⟩
  · exact ⟨a, b, c, d, e1, e2, e3, e4, h1, h2, h3, h4, h5, h6⟩
  all_goals rw [h'] at h; cases h
theorem pdFault_any (c i : Int) (w : World) :
    Calls Tryz.prog 26 #[.int .i64 c, .int .i64 i] w fun e w' => e = .returned (.agg #[.int .i64 c, .int .i64 i]) ∧ Below w.heap.size w w' := by
  go_enter Tryz.func26, Tryz.ntmps26
  go_wp2
  exact bodyPost_ret (v := .agg #[.int .i64 c, .int .i64 i]) (by simp [results, Tryz.results26, go_sem]) rfl ⟨rfl, below_new _ _⟩
theorem rAtB (c i : Int) (w : World) : Calls Tryz.prog 20 #[.int .i64 c, .int .i64 i] w fun e w' => e = .returned (.agg #[.int .i64 c, .int .i64 i]) ∧ Below w.heap.size w w' :=
  (refAt_any c i w).mono fun _ _ ⟨h1, h2⟩ => ⟨h1, h2 ▸ below_new _ _⟩
set_option maxHeartbeats 2000000 in
theorem pdValidate_any (R C p q : Int) (w : World) :
    Calls Tryz.prog 46 #[shpV R C p q] w fun e w' => e = .returned (.agg #[.int .i64 (shF R C p q).1, .int .i64 (shF R C p q).2]) ∧ Below w.heap.size w w' := by
  have F0 := Has.new (w.alloc (shpC R C p q)) 0 0 27
  have B0 : Below w.heap.size w ((w.alloc (shpC R C p q)).alloc (fltC 0 0)) := by (repeat (first | exact Below.refl _ _ | assumption | refine Bw.al ?_ _ | refine Bw.step ?_ (by assumption) | refine Bw.drew ?_))
  rw [World.size_alloc] at F0
  rcases shF_cases R C p q with ⟨R', C', p', q', rfl, rfl, rfl, rfl, h1, h2, h3, h4, h5, h6, h⟩ | ⟨h1, h⟩ | ⟨h1, h2, h⟩ | ⟨h1, h2, h3, h⟩ | ⟨h1, h2, h3, h4, h⟩
  · rw [h]
    clear h
    go_enter Tryz.func46, Tryz.ntmps46
    go_wp2
    exact bodyPost_ret (resF1 rfl rfl (F0)) rfl ⟨rfl, B0⟩
  all_goals rw [h]; clear h
  · have hc : R < 1 ∨ (1 ≤ R ∧ 32 < R) := by omega
    clear h1
    rcases hc with h | ⟨h, h'⟩
    all_goals
      go_enter Tryz.func46, Tryz.ntmps46
      go_wp2_with fail
      refine (pdFault_any _ _ _).mono ?_
      rintro e w1 ⟨rfl, hb1⟩
      have F1 := F0.below hb1
      have B1 := Bw.step B0 hb1
      obtain ⟨l0, c00, c01, f00, f01⟩ := id F1
      go_wp2
      exact bodyPost_ret (resF1 rfl rfl (F1.set2 4 0)) rfl ⟨rfl, Bw.set (Bw.set B1 (by show w.heap.size ≤ w.heap.size + 1; omega) _) (by show w.heap.size ≤ w.heap.size + 1; omega) _⟩
  · have hc : C < 1 ∨ (1 ≤ C ∧ 32 < C) := by omega
    clear h2
    rcases hc with h | ⟨h, h'⟩
    all_goals
      go_enter Tryz.func46, Tryz.ntmps46
      go_wp2_with fail
      refine (pdFault_any _ _ _).mono ?_
      rintro e w1 ⟨rfl, hb1⟩
      have F1 := F0.below hb1
      have B1 := Bw.step B0 hb1
      obtain ⟨l0, c00, c01, f00, f01⟩ := id F1
      go_wp2
      exact bodyPost_ret (resF1 rfl rfl (F1.set2 4 1)) rfl ⟨rfl, Bw.set (Bw.set B1 (by show w.heap.size ≤ w.heap.size + 1; omega) _) (by show w.heap.size ≤ w.heap.size + 1; omega) _⟩
  · have hc : p < 0 ∨ (0 ≤ p ∧ C ≤ p) := by omega
    clear h3
    rcases hc with h | ⟨h, h'⟩
    all_goals
      go_enter Tryz.func46, Tryz.ntmps46
      go_wp2_with fail
      refine (pdFault_any _ _ _).mono ?_
      rintro e w1 ⟨rfl, hb1⟩
      have F1 := F0.below hb1
      have B1 := Bw.step B0 hb1
      obtain ⟨l0, c00, c01, f00, f01⟩ := id F1
      go_wp2
      exact bodyPost_ret (resF1 rfl rfl (F1.set2 4 2)) rfl ⟨rfl, Bw.set (Bw.set B1 (by show w.heap.size ≤ w.heap.size + 1; omega) _) (by show w.heap.size ≤ w.heap.size + 1; omega) _⟩
  · have hc : q < 0 ∨ (0 ≤ q ∧ R ≤ q) := by omega
    have h3' : p < C := by omega
    clear h4
    rcases hc with h | ⟨h, h'⟩
    all_goals
      go_enter Tryz.func46, Tryz.ntmps46
      go_wp2_with fail
      refine (pdFault_any _ _ _).mono ?_
      rintro e w1 ⟨rfl, hb1⟩
      have F1 := F0.below hb1
      have B1 := Bw.step B0 hb1
      obtain ⟨l0, c00, c01, f00, f01⟩ := id F1
      go_wp2
      exact bodyPost_ret (resF1 rfl rfl (F1.set2 4 3)) rfl ⟨rfl, Bw.set (Bw.set B1 (by show w.heap.size ≤ w.heap.size + 1; omega) _) (by show w.heap.size ≤ w.heap.size + 1; omega) _⟩
end Go.Proofs.YtmpjkdkgolmgdaaGreat
