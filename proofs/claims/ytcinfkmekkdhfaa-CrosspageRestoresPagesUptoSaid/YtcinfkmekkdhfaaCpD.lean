/- Cross pages: what Extend computes; its walk. -/
import Derived.Test.YtcinfkmekkdhfaaCpB
import Derived.Test.YtcinfkmekkdhfaaCpC
import Derived.Test.YtcinfkmekkdhfaaQuJ
namespace Go.Proofs.Ytcinfkmekkdhfaa
open Go.RowKit Go.Shelf
set_option linter.unusedVariables false
attribute [local go_sem] Oper.semAt_some

def nilsM (n : Nat) : Array Value := madeCells #[.slice none 0 0] n
theorem run_makeM (n : Nat) (hn : n ≤ 1000) (w : World) : (Instr.makeSlice 22 (.int .i64 (n : Int)) (.int .i64 (n : Int))).run Try.prog w = .ok (.slice (some ⟨w.heap.size, 0, none⟩) n n) (w.alloc (.cells (nilsM n) 41)) :=
  run_make_row' 22 41 (.slice none 0 0) 24 Try.underlying22 infoS rfl .i64 .i64 n (by omega) (by omega) w
theorem OwM.new (w : World) (B n : Nat) (hB : B ≤ w.heap.size) (hn : n ≤ 1000) : OwM (w.alloc (.cells (nilsM n) 41)) B (.slice (some ⟨w.heap.size, 0, none⟩) n n) (List.replicate n (.slice none 0 0)) (List.replicate n []) := by
  have h := own_made w B 41 (.slice none 0 0) n hB (by unfold maxLen; omega)
  have hg : ∀ i, i < n → (List.replicate n (Value.slice none 0 0)).getD i undef = .slice none 0 0 := fun i hi => by simp [List.getD, hi]
  refine ⟨by simp, by simpa [nilsM] using h, fun i hi => ?_, fun i j hi hj _ => ?_, fun i hi => ?_⟩
  · rw [List.length_replicate] at hi
    rw [hg i hi, show (List.replicate n ([] : List GF)).getD i [] = [] by simp [List.getD, hi]]
    exact OwB.nil _ _
  · rw [List.length_replicate] at hi
    rw [hg i hi]; exact .inl rfl
  · rw [List.length_replicate] at hi
    rw [hg i hi]; exact .inl rfl
/-- Parity pages of the first k positions. -/
def ExtOK (P : List (List GF)) (p k : Nat) (L : List (List GF)) : Prop := L.length = p ∧ ∀ i, i < p → (L.getD i []).length = k ∧ ∀ t, t < k → ∀ wd, IsEnc (wordP P t) p wd → (L.getD i []).getD t 0 = wd.getD (P.length + i) 0
theorem ExtOK.start (P : List (List GF)) (p : Nat) : ExtOK P p 0 (List.replicate p []) :=
  ⟨by simp, fun i hi => ⟨by simp [List.getD, hi], fun t ht => absurd ht (Nat.not_lt_zero t)⟩⟩
/-- .. and, of the next one, the first j pages. -/
def ExtMid (P : List (List GF)) (p k j : Nat) (wd : List GF) (L0 L : List (List GF)) : Prop := L.length = p ∧ ∀ i, i < p → L.getD i [] = if i < j then L0.getD i [] ++ [wd.getD (P.length + i) 0] else L0.getD i []
theorem ExtMid.start {P : List (List GF)} {p k : Nat} {wd : List GF} {L : List (List GF)} (h : L.length = p) : ExtMid P p k 0 wd L L := ⟨h, fun i hi => by rw [if_neg (Nat.not_lt_zero i)]⟩
theorem ExtMid.step {P : List (List GF)} {p k j : Nat} {wd : List GF} {L0 L : List (List GF)} (h : ExtMid P p k j wd L0 L) (hj : j < p) : ExtMid P p k (j + 1) wd L0 (L.set j (L.getD j [] ++ [wd.getD (P.length + j) 0])) := by
  refine ⟨by rw [List.length_set]; exact h.1, fun i hi => ?_⟩
  by_cases e : i = j
  · subst e
    rw [getD_set_eq (by rw [h.1]; exact hi), h.2 i hi, if_neg (Nat.lt_irrefl i), if_pos (Nat.lt_succ_self i)]
  · rw [getD_set_neq (fun e' => e e'.symm), h.2 i hi]
    by_cases hij : i < j
    · rw [if_pos hij, if_pos (by omega)]
    · rw [if_neg hij, if_neg (by omega)]
theorem ExtMid.done {P : List (List GF)} {p k : Nat} {wd : List GF} {L0 L : List (List GF)} (h0 : ExtOK P p k L0) (h : ExtMid P p k p wd L0 L) (hw : IsEnc (wordP P k) p wd) (hlen : P.length + p ≤ 255) : ExtOK P p (k + 1) L := by
  refine ⟨h.1, fun i hi => ?_⟩
  have hr := h0.2 i hi
  rw [h.2 i hi, if_pos hi]
  refine ⟨by rw [List.length_append, hr.1]; rfl, fun t ht wd' hw' => ?_⟩
  by_cases e : t < k
  · rw [show (L0.getD i [] ++ [wd.getD (P.length + i) 0]).getD t 0 = (L0.getD i []).getD t 0 from getD_app_l (by rw [hr.1]; exact e)]
    exact hr.2 t e wd' hw'
  · obtain rfl : t = k := by omega
    obtain rfl := IsEnc_unique (by rw [wordP_len]; exact hlen) hw hw'
    rw [← hr.1]; exact getD_app_r
theorem positions_any (A : Option Addr) (m c : Nat) (n : Int) (w : World) :
    Calls Try.prog 24 #[.slice A m c, .int .i64 n] w fun e w' => e = .returned (.func (.func 35) #[] #[.pointer (some ⟨w.heap.size + 1, 0, none⟩), .pointer (some ⟨w.heap.size, 0, none⟩)]) ∧ (w.alloc (.cells #[.slice A m c] 22)).alloc (.cells #[.int .i64 n] 3) = w' := by
  go_enter Try.func24, Try.ntmps24
  go_wp2
  go_ret
  exact ⟨rfl, rfl⟩
theorem pos_each (k0 : Nat) (hk0 : 1 ≤ k0) (B1 B2 n m cap : Nat) (A : Option Addr) (P : List (List GF)) (hm : m ≤ 64) (hn : n ≤ 384) (w0 w : World) (hM : RdM w0 A m P) (hb : Below w0.heap.size w0 w) (hB1 : B1 < w.heap.size) (hB2 : B2 < w.heap.size)
    (h1 : w.cell? ⟨B1, 0, none⟩ = some (.int .i64 n)) (h2 : w.cell? ⟨B2, 0, none⟩ = some (.slice A m cap)) (hl : ∀ i, i < m → (P.getD i []).length = 0 ∨ (P.getD i []).length = n) :
    SeqEach k0 Try.prog 35 #[.pointer (some ⟨B1, 0, none⟩), .pointer (some ⟨B2, 0, none⟩)] (encPos m) (FPos P n) (KB2 w0.heap.size B1 B2) (fun xs => xs.length = n) n w := fun l J W hW hJ hY h0 => by
  have hs := hb.size
  have hs2 := hW.size
  exact positions1_in k0 hk0 l B1 B2 w0.heap.size n m cap A P hm hn J (fun _ _ => True) W (by omega) (by omega) (by omega) hJ hY ((hW.cell (p := ⟨B1, 0, none⟩) hB1).trans h1) ((hW.cell (p := ⟨B2, 0, none⟩) hB2).trans h2)
    (fun W' hK => hM.below ((hb.trans (hW.mono hs)).trans hK.1)) hl h0
end Go.Proofs.Ytcinfkmekkdhfaa
