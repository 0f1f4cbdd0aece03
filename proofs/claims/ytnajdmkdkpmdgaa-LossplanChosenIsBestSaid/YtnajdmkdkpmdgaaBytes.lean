/- Bytes as elements of the field, and slices of bytes and of integers as lists. -/
import Derived.Test.YtnajdmkdkpmdgaaGfC
import Derived.Test.YtnajdmkdkpmdgaaQuiet
import Derived.Laws.BytesArg
import Derived.Laws.OwnMore
import Derived.Laws.MakeOwn
import Derived.Deep.OwnRows
namespace Go.Proofs.Ytnajdmkdkpmdgaa
open Go.RowKit
set_option linter.unusedVariables false

/-- The bytes: the elements of the field. -/
def GF : Type := Fin 256
def GF.v (x : GF) : Nat := Fin.val x
def GF.mk (n : Nat) (h : n < 256) : GF := ⟨n, h⟩
theorem GF.lt (x : GF) : x.v < 256 := Fin.isLt x
theorem GF.v_mk (n : Nat) (h : n < 256) : (GF.mk n h).v = n := rfl
theorem GF.ext {x y : GF} (h : x.v = y.v) : x = y := Fin.ext h
theorem GF.v_inj {x y : GF} : x.v = y.v ↔ x = y := ⟨GF.ext, fun h => h ▸ rfl⟩
instance : DecidableEq GF := inferInstanceAs (DecidableEq (Fin 256))
instance : Inhabited GF := ⟨GF.mk 0 (by omega)⟩
instance : Zero GF := ⟨GF.mk 0 (by omega)⟩
instance : One GF := ⟨GF.mk 1 (by omega)⟩
instance : Add GF := ⟨fun x y => GF.mk (x.v ^^^ y.v) (xor_lt256 x.lt y.lt)⟩
instance : Mul GF := ⟨fun x y => GF.mk (gm x.v y.v) (gm_lt x.lt y.v)⟩
theorem GF.v_zero : (0 : GF).v = 0 := rfl
theorem GF.v_one : (1 : GF).v = 1 := rfl
theorem GF.v_add (x y : GF) : (x + y).v = x.v ^^^ y.v := rfl
theorem GF.v_mul (x y : GF) : (x * y).v = gm x.v y.v := rfl
/-- The inverse (of 0: 0). -/
def GF.inv (x : GF) : GF := GF.mk (gi x.v) (gi_lt x.lt)
theorem GF.v_inv (x : GF) : x.inv.v = gi x.v := rfl
/-- A power of the generator. -/
def GF.exp (n : Int) : GF := GF.mk (ge (n % 255).toNat) (ge_lt _)
theorem GF.add_comm (x y : GF) : x + y = y + x := GF.ext (Nat.xor_comm _ _)
theorem GF.add_assoc (x y z : GF) : x + y + z = x + (y + z) := GF.ext (Nat.xor_assoc _ _ _)
theorem GF.add_self (x : GF) : x + x = 0 := GF.ext (Nat.xor_self _)
theorem GF.add_zero (x : GF) : x + 0 = x := GF.ext (Nat.xor_zero _)
theorem GF.zero_add (x : GF) : 0 + x = x := GF.ext (Nat.zero_xor _)
theorem GF.mul_comm (x y : GF) : x * y = y * x := GF.ext (gm_comm x.lt y.lt)
theorem GF.mul_assoc (x y z : GF) : x * y * z = x * (y * z) := GF.ext (gm_assoc x.lt y.lt z.lt)
theorem GF.mul_add (x y z : GF) : x * (y + z) = x * y + x * z := GF.ext (gm_xor_right _ _ _)
theorem GF.add_mul (x y z : GF) : (x + y) * z = x * z + y * z := GF.ext (gm_xor_left x.lt y.lt _)
theorem GF.mul_one (x : GF) : x * 1 = x := GF.ext (gm_one_right _)
theorem GF.one_mul (x : GF) : 1 * x = x := GF.ext (gm_one_left _ x.lt)
theorem GF.mul_zero (x : GF) : x * 0 = 0 := GF.ext (gm_zero_right _)
theorem GF.zero_mul (x : GF) : 0 * x = 0 := GF.ext (gm_zero_left _)
theorem GF.v_ne {x : GF} (h : x ≠ 0) : x.v ≠ 0 := fun e => h (GF.ext e)
theorem GF.mul_inv {x : GF} (h : x ≠ 0) : x * x.inv = 1 := GF.ext (gm_gi x.lt (GF.v_ne h))
theorem GF.inv_mul {x : GF} (h : x ≠ 0) : x.inv * x = 1 := by rw [GF.mul_comm, GF.mul_inv h]
theorem GF.one_ne : (1 : GF) ≠ 0 := by decide
theorem GF.mul_eq_zero {x y : GF} (h : x * y = 0) : x = 0 ∨ y = 0 := by
  rcases gm_eq_zero x.lt y.lt (by have := congrArg GF.v h; exact this) with h | h
  · exact .inl (GF.ext h)
  · exact .inr (GF.ext h)

/-- A byte as the walks write it. -/
def GF.z (x : GF) : Int := (x.v : Int)
theorem GF.z_bd (x : GF) : 0 ≤ x.z ∧ x.z < 256 := by have := x.lt; unfold GF.z; omega
theorem GF.z_inj {x y : GF} : x.z = y.z ↔ x = y := by unfold GF.z; rw [← GF.v_inj]; omega
theorem gA_z (x y : GF) : gA x.z y.z = (x + y).z := by unfold gA GF.z; simp [GF.v_add]
theorem gM_z (x y : GF) : gM x.z y.z = (x * y).z := by unfold gM GF.z; simp [GF.v_mul]
theorem gI_z (x : GF) : gI x.z = x.inv.z := by unfold gI GF.z; simp [GF.v_inv]
theorem gE_z (n : Int) : gE n = (GF.exp n).z := rfl
theorem GF.of_z {a : Int} (h : 0 ≤ a ∧ a < 256) : ∃ x : GF, x.z = a := ⟨GF.mk a.toNat (by omega), by unfold GF.z; rw [GF.v_mk]; omega⟩
theorem GF.z_zero : (0 : GF).z = 0 := rfl
theorem GF.z_one : (1 : GF).z = 1 := rfl

/-- A slice of integers that reads as a list. -/
def RdI (w : World) (A : Option Addr) (n : Nat) (l : List Int) : Prop :=
  l.length = n ∧ (0 < n → ∃ b off, A = some ⟨b, off, none⟩ ∧ b < w.heap.size ∧ ∀ i, i < n → w.cell? ⟨b, off + i, none⟩ = some (.int .i64 (l.getD i 0)))
/-- A slice of bytes that reads as a list. -/
def RdB (w : World) (A : Option Addr) (n : Nat) (l : List GF) : Prop :=
  l.length = n ∧ (0 < n → ∃ b off, A = some ⟨b, off, none⟩ ∧ b < w.heap.size ∧ ∀ i, i < n → w.cell? ⟨b, off + i, none⟩ = some (.int .u8 (l.getD i 0).z))
theorem RdI.below {w w' : World} {A : Option Addr} {n : Nat} {l : List Int} (h : RdI w A n l) (hb : Below w.heap.size w w') : RdI w' A n l :=
  ⟨h.1, fun hn => by
    obtain ⟨b, off, e, hlt, hc⟩ := h.2 hn
    exact ⟨b, off, e, Nat.lt_of_lt_of_le hlt hb.size, fun i hi => (hb.cell (p := ⟨b, off + i, none⟩) hlt).trans (hc i hi)⟩⟩
theorem RdB.below {w w' : World} {A : Option Addr} {n : Nat} {l : List GF} (h : RdB w A n l) (hb : Below w.heap.size w w') : RdB w' A n l :=
  ⟨h.1, fun hn => by
    obtain ⟨b, off, e, hlt, hc⟩ := h.2 hn
    exact ⟨b, off, e, Nat.lt_of_lt_of_le hlt hb.size, fun i hi => (hb.cell (p := ⟨b, off + i, none⟩) hlt).trans (hc i hi)⟩⟩
theorem RdI.al {w : World} {A : Option Addr} {n : Nat} {l : List Int} (h : RdI w A n l) (o : Obj) : RdI (w.alloc o) A n l := h.below (below_new w o)
theorem RdB.al {w : World} {A : Option Addr} {n : Nat} {l : List GF} (h : RdB w A n l) (o : Obj) : RdB (w.alloc o) A n l := h.below (below_new w o)

/-- The cells of a list of bytes, of integers. -/
def cB (l : List GF) : List Value := l.map fun x => .int .u8 x.z
def cI (l : List Int) : List Value := l.map fun x => .int .i64 x
theorem cB_len (l : List GF) : (cB l).length = l.length := List.length_map _
theorem cI_len (l : List Int) : (cI l).length = l.length := List.length_map _
/-- A slice of the call's own, from block B on. -/
def OwB (w : World) (B : Nat) (v : Value) (l : List GF) : Prop := w.ownsRow B 5 1 v l.length (cB l)
def OwI (w : World) (B : Nat) (v : Value) (l : List Int) : Prop := w.ownsRow B 3 1 v l.length (cI l)
theorem own_below {w w' : World} {B : Nat} {e : TypeId} {s : Nat} {v : Value} {n : Nat} {xs : List Value} (h : w.ownsRow B e s v n xs) (hb : Below w.heap.size w w') : w'.ownsRow B e s v n xs := by
  refine ⟨h.1, ?_⟩
  rcases h.2 with h' | ⟨g, cap, cur, hv, hB, hh, hn⟩
  · exact .inl h'
  · have hlt : g < w.heap.size := by
      rcases Nat.lt_or_ge g w.heap.size with hlt | hge
      · exact hlt
      · rw [Array.getElem?_eq_none hge] at hh; cases hh
    exact .inr ⟨g, cap, cur, hv, hB, (hb.block g hlt).trans hh, hn⟩
theorem own_base {w : World} {B B' : Nat} {e : TypeId} {s : Nat} {v : Value} {n : Nat} {xs : List Value} (h : w.ownsRow B e s v n xs) (hB : B' ≤ B) : w.ownsRow B' e s v n xs := by
  refine ⟨h.1, ?_⟩
  rcases h.2 with h' | ⟨g, cap, cur, hv, hb, hh⟩
  · exact .inl h'
  · exact .inr ⟨g, cap, cur, hv, by omega, hh⟩
theorem OwB.below {w w' : World} {B : Nat} {v : Value} {l : List GF} (h : OwB w B v l) (hb : Below w.heap.size w w') : OwB w' B v l := own_below h hb
theorem OwI.below {w w' : World} {B : Nat} {v : Value} {l : List Int} (h : OwI w B v l) (hb : Below w.heap.size w w') : OwI w' B v l := own_below h hb
theorem OwB.rd {w : World} {B n c : Nat} {A : Option Addr} {l : List GF} (h : OwB w B (.slice A n c) l) : RdB w A n l ∧ n = l.length := by
  rcases h.2 with ⟨h1, h2⟩ | ⟨g, cap, cur, hv, hB, hh, h1, h2, h3, h4⟩
  · injection h1 with e1 e2 e3
    have : l.length = n := by omega
    exact ⟨⟨this, fun hn => by omega⟩, this.symm⟩
  · injection hv with e1 e2 e3
    subst e2
    have hlt : g < w.heap.size := by
      rcases Nat.lt_or_ge g w.heap.size with hlt | hge
      · exact hlt
      · rw [Array.getElem?_eq_none hge] at hh; cases hh
    refine ⟨⟨rfl, fun hn => ⟨g, 0, e1, hlt, fun i hi => ?_⟩⟩, rfl⟩
    subst e1
    have hcell := World.ownsRow.cellAt (g := g) (cap := c) h i (by omega)
    rw [Nat.zero_add, hcell]
    unfold cB
    rw [List.getElem?_map, List.getElem?_eq_getElem hi]
    simp [List.getD, List.getElem?_eq_getElem hi]
theorem OwI.rd {w : World} {B n c : Nat} {A : Option Addr} {l : List Int} (h : OwI w B (.slice A n c) l) : RdI w A n l ∧ n = l.length := by
  rcases h.2 with ⟨h1, h2⟩ | ⟨g, cap, cur, hv, hB, hh, h1, h2, h3, h4⟩
  · injection h1 with e1 e2 e3
    have : l.length = n := by omega
    exact ⟨⟨this, fun hn => by omega⟩, this.symm⟩
  · injection hv with e1 e2 e3
    subst e2
    have hlt : g < w.heap.size := by
      rcases Nat.lt_or_ge g w.heap.size with hlt | hge
      · exact hlt
      · rw [Array.getElem?_eq_none hge] at hh; cases hh
    refine ⟨⟨rfl, fun hn => ⟨g, 0, e1, hlt, fun i hi => ?_⟩⟩, rfl⟩
    subst e1
    have hcell := World.ownsRow.cellAt (g := g) (cap := c) h i (by omega)
    rw [Nat.zero_add, hcell]
    unfold cI
    rw [List.getElem?_map, List.getElem?_eq_getElem hi]
    simp [List.getD, List.getElem?_eq_getElem hi]

theorem OwI.cellAt {w : World} {B n c g : Nat} {l : List Int} (h : OwI w B (.slice (some ⟨g, 0, none⟩) n c) l) {i : Nat} (hi : i < n) : w.cell? ⟨g, i, none⟩ = some (.int .i64 (l.getD i 0)) := by
  have hn := h.rd.2
  subst hn
  have hcell := World.ownsRow.cellAt (g := g) (cap := c) h i (by omega)
  rw [hcell]; unfold cI
  rw [List.getElem?_map, List.getElem?_eq_getElem hi]
  simp [List.getD, List.getElem?_eq_getElem hi]
theorem OwB.cellAt {w : World} {B n c g : Nat} {l : List GF} (h : OwB w B (.slice (some ⟨g, 0, none⟩) n c) l) {i : Nat} (hi : i < n) : w.cell? ⟨g, i, none⟩ = some (.int .u8 (l.getD i 0).z) := by
  have hn := h.rd.2
  subst hn
  have hcell := World.ownsRow.cellAt (g := g) (cap := c) h i (by omega)
  rw [hcell]; unfold cB
  rw [List.getElem?_map, List.getElem?_eq_getElem hi]
  simp [List.getD, List.getElem?_eq_getElem hi]
theorem OwI.frozenAt {w : World} {B n c g : Nat} {l : List Int} (h : OwI w B (.slice (some ⟨g, 0, none⟩) n c) l) (i : Nat) : w.frozen? ⟨g, i, none⟩ = false := by
  have hn := h.rd.2
  subst hn
  exact World.ownsRow.frozenAt (g := g) (cap := c) h i
theorem OwB.frozenAt {w : World} {B n c g : Nat} {l : List GF} (h : OwB w B (.slice (some ⟨g, 0, none⟩) n c) l) (i : Nat) : w.frozen? ⟨g, i, none⟩ = false := by
  have hn := h.rd.2
  subst hn
  exact World.ownsRow.frozenAt (g := g) (cap := c) h i
theorem OwI.set {w : World} {B n c g : Nat} {l : List Int} (h : OwI w B (.slice (some ⟨g, 0, none⟩) n c) l) (i : Nat) (x : Int) : OwI (w.setCell ⟨g, i, none⟩ (.int .i64 x)) B (.slice (some ⟨g, 0, none⟩) n c) (l.set i x) := by
  have hn := h.rd.2
  subst hn
  have := (World.ownsRow.stored (g := g) (cap := c) h i (.int .i64 x)).1
  unfold OwI
  rw [List.length_set]
  have e : cI (l.set i x) = (cI l).set i (.int .i64 x) := by unfold cI; rw [List.map_set]
  rw [e]; exact this
theorem OwB.set {w : World} {B n c g : Nat} {l : List GF} (h : OwB w B (.slice (some ⟨g, 0, none⟩) n c) l) (i : Nat) (x : GF) : OwB (w.setCell ⟨g, i, none⟩ (.int .u8 x.z)) B (.slice (some ⟨g, 0, none⟩) n c) (l.set i x) := by
  have hn := h.rd.2
  subst hn
  have := (World.ownsRow.stored (g := g) (cap := c) h i (.int .u8 x.z)).1
  unfold OwB
  rw [List.length_set]
  have e : cB (l.set i x) = (cB l).set i (.int .u8 x.z) := by unfold cB; rw [List.map_set]
  rw [e]; exact this
theorem OwI.lt {w : World} {B n c g : Nat} {l : List Int} (h : OwI w B (.slice (some ⟨g, 0, none⟩) n c) l) : B ≤ g ∧ g < w.heap.size := World.ownsRow.lt h g rfl
theorem OwB.lt {w : World} {B n c g : Nat} {l : List GF} (h : OwB w B (.slice (some ⟨g, 0, none⟩) n c) l) : B ≤ g ∧ g < w.heap.size := World.ownsRow.lt h g rfl
theorem own_far {w : World} {B : Nat} {e : TypeId} {s : Nat} {g n c : Nat} {m : Nat} {xs : List Value} (h : w.ownsRow B e s (.slice (some ⟨g, 0, none⟩) n c) m xs) {p : Addr} (hp : p.block ≠ g) (u : Value) : (w.setCell p u).ownsRow B e s (.slice (some ⟨g, 0, none⟩) n c) m xs := by
  refine ⟨h.1, ?_⟩
  rcases h.2 with h' | ⟨g', cap, cur, hv, hB, hh, hn⟩
  · exact .inl h'
  · refine .inr ⟨g', cap, cur, hv, hB, ?_, hn⟩
    have : g' = g := by injection hv with e1; injection e1 with e2; injection e2 with e3; exact e3.symm
    subst this
    exact (Below.heap_setCell w p u g' (fun e => hp e.symm)).trans hh
theorem OwI.far {w : World} {B g n c : Nat} {l : List Int} (h : OwI w B (.slice (some ⟨g, 0, none⟩) n c) l) {p : Addr} (hp : p.block ≠ g) (u : Value) : OwI (w.setCell p u) B (.slice (some ⟨g, 0, none⟩) n c) l := own_far h hp u
theorem OwB.far {w : World} {B g n c : Nat} {l : List GF} (h : OwB w B (.slice (some ⟨g, 0, none⟩) n c) l) {p : Addr} (hp : p.block ≠ g) (u : Value) : OwB (w.setCell p u) B (.slice (some ⟨g, 0, none⟩) n c) l := own_far h hp u
/-- n zeros, as 'make' lays them. -/
def zerosI (n : Nat) : Array Value := madeCells #[.int .i64 0] n
def zerosB (n : Nat) : Array Value := madeCells #[.int .u8 0] n
theorem made_list (z : Value) (n : Nat) : (madeCells #[z] n).toList = List.replicate n z := by
  apply List.ext_getElem?
  intro j
  by_cases hj : j < n
  · simp [madeCells, hj, Nat.mod_one]
  · simp [madeCells, hj]
theorem own_made (w : World) (B : Nat) (e : TypeId) (z : Value) (n : Nat) (hB : B ≤ w.heap.size) (hn : n ≤ maxLen) :
    (w.alloc (.cells (madeCells #[z] n) e)).ownsRow B e 1 (.slice (some ⟨w.heap.size, 0, none⟩) n n) n (List.replicate n z) := by
  have hs : (madeCells #[z] n).size = n := by rw [← Array.length_toList, made_list, List.length_replicate]
  refine ⟨by simp, .inr ⟨w.heap.size, n, _, rfl, hB, heap_alloc_new w _, Nat.le_refl _, hn, by rw [hs]; omega, ?_⟩⟩
  rw [made_list, Nat.mul_one, List.take_of_length_le (by simp)]
theorem OwI.new (w : World) (B n : Nat) (hB : B ≤ w.heap.size) (hn : n ≤ maxLen) : OwI (w.alloc (.cells (zerosI n) 3)) B (.slice (some ⟨w.heap.size, 0, none⟩) n n) (List.replicate n 0) := by
  have := own_made w B 3 (.int .i64 0) n hB hn
  unfold OwI cI zerosI
  rw [List.length_replicate, List.map_replicate]; exact this
theorem OwB.new (w : World) (B n : Nat) (hB : B ≤ w.heap.size) (hn : n ≤ maxLen) : OwB (w.alloc (.cells (zerosB n) 5)) B (.slice (some ⟨w.heap.size, 0, none⟩) n n) (List.replicate n 0) := by
  have := own_made w B 5 (.int .u8 0) n hB hn
  unfold OwB cB zerosB
  rw [List.length_replicate, List.map_replicate]; exact this
theorem infoI : (Try.prog.info? 3).map (fun i => (i.zero, i.size, i.bytes)) = some (some (.int .i64 0), 1, 8) := by kernel_rfl
theorem infoB : (Try.prog.info? 5).map (fun i => (i.zero, i.size, i.bytes)) = some (some (.int .u8 0), 1, 1) := by kernel_rfl
theorem run_makeI (n : Nat) (hn : n ≤ 1099511627776) (w : World) : (Instr.makeSlice 53 (.int .i64 (n : Int)) (.int .i64 (n : Int))).run Try.prog w = .ok (.slice (some ⟨w.heap.size, 0, none⟩) n n) (w.alloc (.cells (zerosI n) 3)) :=
  run_make_row' 53 3 (.int .i64 0) 8 Try.underlying53 infoI rfl .i64 .i64 n (by omega) (by omega) w
/-! ### Two byte strings compared -/
def sameB (a b : List GF) : Bool := decide (a = b)
theorem sameB_self (a : List GF) : sameB a a = true := by simp [sameB]
def strB (l : List GF) : ByteArray := strOfNums (l.map GF.z)
theorem strB_data (l : List GF) : (strB l).data.toList = l.map fun x => UInt8.ofNat x.v := by
  unfold strB strOfNums
  simp [GF.z]
theorem ofNat_inj {x y : GF} (h : UInt8.ofNat x.v = UInt8.ofNat y.v) : x = y := by
  have h2 := congrArg UInt8.toNat h
  simp only [UInt8.toNat_ofNat'] at h2
  have hx := x.lt
  have hy := y.lt
  rw [Nat.mod_eq_of_lt hx, Nat.mod_eq_of_lt hy] at h2
  exact GF.ext h2
theorem map_ofNat_inj : ∀ (a b : List GF), (a.map fun x => UInt8.ofNat x.v) = (b.map fun x => UInt8.ofNat x.v) → a = b
  | [], [], _ => rfl
  | [], _ :: _, h => by simp at h
  | _ :: _, [], h => by simp at h
  | x :: a, y :: b, h => by
    simp only [List.map_cons, List.cons.injEq] at h
    rw [ofNat_inj h.1, map_ofNat_inj a b h.2]
theorem strB_eq (a b : List GF) : ((strB a).toList == (strB b).toList) = sameB a b := by
  have e : ∀ l, (strB l).toList = (strB l).data.toList := fun l => ByteArray.toList_eq _
  rw [e, e, strB_data, strB_data]
  unfold sameB
  by_cases h : a = b
  · subst h; simp
  · rw [decide_eq_false h, beq_eq_false_iff_ne]
    exact fun hh => h (map_ofNat_inj _ _ hh)
end Go.Proofs.Ytnajdmkdkpmdgaa
