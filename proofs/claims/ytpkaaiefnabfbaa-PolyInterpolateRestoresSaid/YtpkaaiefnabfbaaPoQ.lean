/- poly.Interpolate with its faults; the reference's InterpolateFault and Interpolate (the formula of Lagrange). -/
import Derived.Test.YtpkaaiefnabfbaaPoP
namespace Go.Proofs.Ytpkaaiefnabfbaa
open Go.RowKit
set_option linter.unusedVariables false

def repR (xs : List GF) : Nat → Int × Int
  | 0 => (0, 0)
  | m + 1 => if xs.getD (xs.length - (m + 1)) 0 ∈ xs.take (xs.length - (m + 1)) then (8, ((xs.length - (m + 1) : Nat) : Int)) else repR xs m
theorem repR_at (xs : List GF) {k : Nat} (hk : k < xs.length) : repR xs (xs.length - k) = if xs.getD k 0 ∈ xs.take k then (8, (k : Int)) else repR xs (xs.length - (k + 1)) := by
  obtain ⟨m, hm⟩ : ∃ m, xs.length - k = m + 1 := ⟨xs.length - k - 1, by omega⟩
  rw [hm]
  have e1 : xs.length - (m + 1) = k := by omega
  have e2 : xs.length - (k + 1) = m := by omega
  rw [e2]
  show (if xs.getD (xs.length - (m + 1)) 0 ∈ xs.take (xs.length - (m + 1)) then _ else _) = _
  rw [e1]
theorem repR_end (xs : List GF) : repR xs (xs.length - xs.length) = (0, 0) := by rw [Nat.sub_self]; rfl
/-- The fault of points. -/
def ipF (xs : List GF) (m : Nat) : Int × Int := if 255 < xs.length then (2, -1) else if m ≠ xs.length then (9, -2) else repR xs xs.length
theorem repR_good {xs : List GF} (h : repR xs xs.length = (0, 0)) : ∀ k, k ≤ xs.length → repR xs (xs.length - k) = (0, 0) ∧ ∀ i, i < k → xs.getD i 0 ∉ xs.take i := by
  intro k
  induction k with
  | zero => intro _; exact ⟨h, fun i hi => absurd hi (Nat.not_lt_zero _)⟩
  | succ k ih =>
    intro hk
    obtain ⟨h1, h2⟩ := ih (by omega)
    rw [repR_at xs (by omega)] at h1
    by_cases c1 : xs.getD k 0 ∈ xs.take k
    · rw [if_pos c1] at h1; exact absurd (congrArg Prod.fst h1) (by simp)
    · rw [if_neg c1] at h1
      refine ⟨h1, fun i hi => ?_⟩
      by_cases e : i = k
      · subst e; exact c1
      · exact h2 i (by omega)
theorem repR_code (xs : List GF) : repR xs xs.length = (0, 0) ∨ ∃ k, k < xs.length ∧ repR xs xs.length = (8, (k : Int)) := by
  have : ∀ m, m ≤ xs.length → repR xs m = (0, 0) ∨ ∃ k, k < xs.length ∧ repR xs m = (8, (k : Int)) := by
    intro m
    induction m with
    | zero => intro _; exact .inl rfl
    | succ m ih =>
      intro hm
      have e : m + 1 = xs.length - (xs.length - (m + 1)) := by omega
      rw [e, repR_at xs (by omega)]
      split
      · exact .inr ⟨_, by omega, rfl⟩
      · rw [show xs.length - (xs.length - (m + 1) + 1) = m by omega]; exact ih (by omega)
  exact this _ (Nat.le_refl _)
theorem notMem_take {xs : List GF} {i j : Nat} (h : xs.getD i 0 ∉ xs.take i) (hj : j < i) (hi : i < xs.length) : xs.getD i 0 ≠ xs.getD j 0 := by
  intro e
  apply h
  rw [e]
  have hl : j < (xs.take i).length := by rw [List.length_take]; omega
  have e2 : xs.getD j 0 = (xs.take i)[j] := by simp [List.getD, show j < xs.length by omega]
  rw [e2]
  exact List.getElem_mem hl
theorem nodup_of_takes {xs : List GF} (h : ∀ i, i < xs.length → xs.getD i 0 ∉ xs.take i) : xs.Nodup := by
  rw [List.nodup_iff_pairwise_ne, List.pairwise_iff_getElem]
  intro i j hi hj hij
  have := notMem_take (h j hj) hij hj
  simp only [List.getD, List.getElem?_eq_getElem hi, List.getElem?_eq_getElem hj, Option.getD_some] at this
  exact fun e => this e.symm
attribute [irreducible] repR ipF
set_option maxRecDepth 100000 in
set_option maxHeartbeats 2000000 in
theorem poInter_bad (A B : Option Addr) (n m c d : Nat) (xs : List GF) (w : World) (hx : RdB w A n xs) (hn : n ≤ 9223372036854775807) (hm : m ≤ 9223372036854775807) (hc : n ≤ c) (hbad : ipF xs m ≠ (0, 0)) :
    Calls Try.prog 33 #[.slice A n c, .slice B m d] w fun e w' => e = .returned (.tuple #[.slice none 0 0, .agg #[.int .i64 (ipF xs m).1, .int .i64 (ipF xs m).2]]) ∧ Below w.heap.size w w' := by
  have lx := hx.1
  subst lx
  have HX := Lib.hid hx
  clear hx
  have F0 := Has.new w 0 0 24
  have B0 := below_new w (.cells #[.int .i64 0, .int .i64 0] 24)
  by_cases h1 : 255 < xs.length
  · rw [show ipF xs m = (2, -1) by unfold ipF; rw [if_pos h1]]
    clear hbad
    go_enter Try.func33, Try.ntmps33
    go_wp2_with (go_at_call 38; refine (poFault_any _ _ _).mono ?_; rintro e w' ⟨rfl, rfl⟩)
    exact bodyPost_ret (resF2 rfl rfl ((Has.new w 2 (-1) _).al _)) rfl ⟨rfl, Bw.al (below_new w _) _⟩
  · by_cases h2 : m = xs.length
    · have hF : ipF xs m = repR xs xs.length := by unfold ipF; rw [if_neg h1, if_neg (by simpa using h2)]
      rw [hF] at hbad ⊢
      have HF := Lib.hid hF
      have HBD := Lib.hid hbad
      subst h2
      have HS : Hid (repR xs xs.length = repR xs (xs.length - 0)) := Lib.hid rfl
      clear hF hbad
      go_enter Try.func33, Try.ntmps33
      go_wp2
      generalize w.alloc (.cells #[.int .i64 0, .int .i64 0] 24) = W at *
      have HF0 := Lib.hid F0
      have HB0 := Lib.hid B0
      clear F0 B0
      go_loop [26] (fun i => ∃ k : Nat, k ≤ xs.length ∧ i = .int .i64 k ∧ repR xs xs.length = repR xs (xs.length - k)) (fun i => xs.length - (intOf i).toNat)
      case atStart => exact ⟨0, Nat.zero_le _, rfl, HS.out⟩
      case round =>
        obtain ⟨k, hk, rfl, hs⟩ := hrel
        by_cases hlt : k < xs.length
        · have HCN := Lib.hid (containsB_any A k c (xs.take k) (xs.getD k 0) W ((HX.out.below HB0.out).take (by omega)) (by omega))
          obtain ⟨b, off, rfl, hlb, hcc⟩ := rd_cell (HX.out.below HB0.out) (i := k) hlt
          rw [show cf xs k = xs.getD k 0 from rfl] at hcc
          rw [repR_at xs hlt] at hs
          by_cases hmm : xs.getD k 0 ∈ xs.take k
          · rw [if_pos hmm] at hs
            rw [hasB_true hmm] at HCN
            have HSS := Lib.hid hs
            obtain ⟨l0, c00, c01, f00, f01⟩ := id HF0.out
            clear hs hmm
            generalize xs.getD k 0 = x at *
            go_wp2_with (first | (go_at_call 48; refine HCN.out.mono ?_; rintro e w' ⟨rfl, rfl⟩) | (go_at_call 38; refine (poFault_any _ _ _).mono ?_; rintro e w' ⟨rfl, rfl⟩))
            rw [HSS.out]
            exact bodyPost_ret (resF2 rfl rfl ((HF0.out.set2 8 k).al _)) rfl ⟨rfl, Bw.al (Bw.set (Bw.set HB0.out (Nat.le_refl _) _) (Nat.le_refl _) _) _⟩
          · rw [if_neg hmm] at hs
            rw [hasB_false hmm] at HCN
            have HSS := Lib.hid hs
            clear hs hmm
            generalize xs.getD k 0 = x at *
            go_wp2_with (go_at_call 48; refine HCN.out.mono ?_; rintro e w' ⟨rfl, rfl⟩)
            go_round
            case rel => exact ⟨k + 1, by omega, by go_num, HSS.out⟩
            case measure => simp [intOf]; omega
        · obtain rfl : k = xs.length := by omega
          rw [repR_end] at hs
          exact absurd hs HBD.out
    · rw [show ipF xs m = (9, -2) by unfold ipF; rw [if_neg h1, if_pos h2]]
      have h3 : ((m : Int) == (xs.length : Int)) = false := by rw [beq_eq_false_iff_ne]; omega
      have h4 : ¬ (m : Int) = xs.length := by omega
      clear hbad
      go_enter Try.func33, Try.ntmps33
      go_wp2_with (go_at_call 38; refine (poFault_any _ _ _).mono ?_; rintro e w' ⟨rfl, rfl⟩)
      exact bodyPost_ret (resF2 rfl rfl ((Has.new w 9 (-2) _).al _)) rfl ⟨rfl, Bw.al (below_new w _) _⟩
end Go.Proofs.Ytpkaaiefnabfbaa
