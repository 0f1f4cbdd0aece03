/- Rows of a matrix that grow; matrices that came in. -/
import Derived.Test.YtcinfkmekkdhfaaMf
import Derived.Test.YtcinfkmekkdhfaaMc
import Derived.Deep.Matrix
namespace Go.Proofs.Ytcinfkmekkdhfaa
open Go.RowKit
set_option linter.unusedVariables false

theorem own_off {w : World} {B : Nat} {e : TypeId} {s : Nat} {v : Value} {n : Nat} {xs : List Value} (h : w.ownsRow B e s v n xs) {p : Addr} (hp : ∀ g, v.ownBlock = some g → g ≠ p.block) (u : Value) : (w.setCell p u).ownsRow B e s v n xs := by
  refine ⟨h.1, ?_⟩
  rcases h.2 with h' | ⟨g, cap, cur, hv, hB, hh, hn⟩
  · exact .inl h'
  · exact .inr ⟨g, cap, cur, hv, hB, (Below.heap_setCell w p u g (hp g (by rw [hv]; rfl))).trans hh, hn⟩
/-- A row has grown and is put back. -/
theorem OwM.grow {w w1 : World} {B g c : Nat} {hv : List Value} {L : List (List GF)} (h : OwM w B (.slice (some ⟨g, 0, none⟩) L.length c) hv L) {i : Nat} (hi : i < L.length) {v' : Value} {l' : List GF} (hk : Keeps w w1 (hv.getD i undef) v') (ho : OwB w1 B v' l') :
    OwM (w1.setCell ⟨g, i, none⟩ v') B (.slice (some ⟨g, 0, none⟩) L.length c) (hv.set i v') (L.set i l') := by
  have hl := h.len
  obtain ⟨hout, hfo⟩ := hk _ _ _ _ _ _ h.out (h.far i hi).symm
  have hrow : ∀ j, j < L.length → j ≠ i → OwB w1 B (hv.getD j undef) (L.getD j []) ∧ Apt (hv.getD j undef) v' := fun j hj hji => hk _ _ _ _ _ _ (h.row j hj) (h.sep j i hj hi hji)
  have hg : ∀ u : Value, Apt u (.slice (some ⟨g, 0, none⟩) L.length c) → ∀ b, u.ownBlock = some b → b ≠ g := fun u hu b hb e => by
    rcases hu with h1 | h1
    · rw [h1] at hb; cases hb
    · exact h1 (by rw [hb, e]; rfl)
  have hsv : ∀ k, (hv.set i v').getD k undef = if k = i ∧ i < hv.length then v' else hv.getD k undef := fun k => by
    by_cases e : k = i
    · subst e; rw [getD_set_eq (by rw [hl]; exact hi), if_pos ⟨rfl, by rw [hl]; exact hi⟩]
    · rw [getD_set_neq (fun e' => e e'.symm), if_neg (fun h => e h.1)]
  have hsl : ∀ k, (L.set i l').getD k [] = if k = i then l' else L.getD k [] := fun k => by
    by_cases e : k = i
    · subst e; rw [getD_set_eq hi, if_pos rfl]
    · rw [getD_set_neq (fun e' => e e'.symm), if_neg e]
  have hil : i < hv.length := by rw [hl]; exact hi
  refine ⟨by simp [hl], ?_, fun j hj => ?_, fun a b ha hb hab => ?_, fun j hj => ?_⟩
  · have h0 := hout
    rw [hl] at h0
    have := (World.ownsRow.stored (g := g) (cap := c) h0 i v').1
    simpa [hl] using this
  · rw [List.length_set] at hj
    rw [hsv, hsl]
    by_cases e : j = i
    · rw [if_pos ⟨e, hil⟩, if_pos e]
      exact own_off ho (hg v' hfo.symm) _
    · rw [if_neg (fun h => e h.1), if_neg e]
      exact own_off (hrow j hj e).1 (hg _ (h.far j hj)) _
  · rw [List.length_set] at ha hb
    rw [hsv, hsv]
    by_cases e : a = i
    · have e2 : b ≠ i := fun e' => hab (by rw [e, e'])
      rw [if_pos ⟨e, hil⟩, if_neg (fun h => e2 h.1)]
      exact (hrow b hb e2).2.symm
    · by_cases e2 : b = i
      · rw [if_neg (fun h => e h.1), if_pos ⟨e2, hil⟩]
        exact (hrow a ha e).2
      · rw [if_neg (fun h => e h.1), if_neg (fun h => e2 h.1)]
        exact h.sep a b ha hb hab
  · rw [List.length_set] at hj
    rw [hsv]
    by_cases e : j = i
    · rw [if_pos ⟨e, hil⟩]; simpa using hfo.symm
    · rw [if_neg (fun h => e h.1)]; simpa using h.far j hj
/-! ### a matrix that came in -/
/-- What the walk is told of a slice of slices of integers that came in. -/
def IsMat (k : IntKind) (w : World) (a : Option Addr) (len cap : Nat) (A : Nat → Option Addr) (Ln C : Nat → Nat) (Z : Nat → List Int) : Prop :=
  (a = none ∧ len = 0 ∧ cap = 0) ∨
  ∃ x, a = some x ∧ len ≤ cap ∧ cap ≤ maxLen ∧ ∀ r, r < cap → w.cell? (x.add r) = some (.slice (A r) (Ln r) (C r)) ∧ IsRow k w (A r) (Ln r) (C r) (Z r)
theorem IsMat.bytes {w : World} {a : Option Addr} {len cap : Nat} {A : Nat → Option Addr} {Ln C : Nat → Nat} {Z : Nat → List Int} (h : IsMat .u8 w a len cap A Ln C Z) : ∃ P : List (List GF), RdM w a len P ∧ len ≤ maxLen ∧ ∀ r, r < len → (P.getD r []).length = Ln r := by
  rcases h with ⟨rfl, rfl, rfl⟩ | ⟨x, rfl, hl, hm, hc⟩
  · exact ⟨[], ⟨rfl, fun h => absurd h (Nat.lt_irrefl 0)⟩, Nat.zero_le _, fun r hr => absurd hr (Nat.not_lt_zero _)⟩
  · have hb : ∀ r, r < cap → ∃ l : List GF, RdB w (A r) (Ln r) l := fun r hr => by
      obtain ⟨l, h1, _⟩ := (hc r hr).2.bytes
      exact ⟨l, h1⟩
    obtain ⟨f, hf⟩ : ∃ f : Nat → List GF, ∀ r, r < cap → RdB w (A r) (Ln r) (f r) :=
      ⟨fun r => if h : r < cap then (hb r h).choose else [], fun r hr => by simp only [hr, dif_pos]; exact (hb r hr).choose_spec⟩
    have hget : ∀ r, r < len → ((List.range len).map f).getD r [] = f r := fun r hr => by simp [List.getD, hr]
    refine ⟨(List.range len).map f, ⟨by simp, fun hn => ?_⟩, by omega, fun r hr => by rw [hget r hr]; exact (hf r (by omega)).1⟩
    obtain ⟨b, off, spot⟩ := x
    have h0 := (hc 0 (by omega)).1
    have hspot : spot = none := by simpa [Addr.add] using World.cell?_spot h0
    subst hspot
    have hlt : b < w.heap.size := by
      rcases Nat.lt_or_ge b w.heap.size with h | h
      · exact h
      · rw [addr_add] at h0
        simp [World.cell?, Array.getElem?_eq_none h] at h0
    refine ⟨b, off, rfl, hlt, fun i hi => ⟨A i, C i, ?_, ?_⟩⟩
    · rw [hget i hi, (hf i (by omega)).1, ← addr_add]; exact (hc i (by omega)).1
    · rw [hget i hi, (hf i (by omega)).1]; exact hf i (by omega)
end Go.Proofs.Ytcinfkmekkdhfaa
