/- The walk of the statement TintNeighboursDifferInOneBit. -/
import Derived.Test.YtbhcjgjeedhnaaaTiK
namespace Go.Proofs.Ytbhcjgjeedhnaaa
open Go.RowKit
set_option linter.unusedVariables false

def nwN (lv q m u : Nat) : Nat := if m % 2 = 1 then (if q = 0 ∨ (u % 2 = 1 ∧ q + 1 < lv) then q + 1 else q - 1) else q
theorem nwN_lt {lv q m u : Nat} (h : lv = 2 ∨ lv = 4) (hq : q < lv) : nwN lv q m u < lv := by unfold nwN; split <;> (try split) <;> omega
theorem nwN_nb {lv q m u : Nat} (h : lv = 2 ∨ lv = 4) (hq : q < lv) (hm : m % 2 = 1) : nb lv q (nwN lv q m u) = true := by
  have h1 := nwN_lt (m := m) (u := u) h hq
  simp only [nb, Bool.and_eq_true, Bool.or_eq_true, decide_eq_true_eq]
  refine ⟨⟨?_, hq⟩, h1⟩
  unfold nwN; rw [if_pos hm]; split <;> omega
def nwG (b : GF) (lv m u i : Nat) : GF := GF.mk (nwN lv (cellN b.v lv i) (m / 2 ^ i) (u / 2 ^ i) % 256) (by omega)
theorem nwG_v {lv : Nat} (h : lv = 2 ∨ lv = 4) (b : GF) (m u i : Nat) : (nwG b lv m u i).v = nwN lv (cellN b.v lv i) (m / 2 ^ i) (u / 2 ^ i) := by
  have := nwN_lt (m := m / 2 ^ i) (u := u / 2 ^ i) h (cellN_lt h b.v i)
  unfold nwG; rw [GF.v_mk]; omega
def midN (b : GF) (lv m u k : Nat) : List GF := (List.range (16 / lv)).map fun i => if i < k then nwG b lv m u i else cellG b lv i
theorem midN_len (b : GF) (lv m u k : Nat) : (midN b lv m u k).length = 16 / lv := by simp [midN]
theorem midN_get (b : GF) (lv m u k : Nat) {i : Nat} (hi : i < 16 / lv) : (midN b lv m u k).getD i 0 = if i < k then nwG b lv m u i else cellG b lv i := by simp [midN, List.getD, hi]
theorem eq_getD {a b : List GF} (hl : a.length = b.length) (h : ∀ i, i < a.length → a.getD i 0 = b.getD i 0) : a = b := by
  apply List.ext_getElem hl
  intro i h1 h2
  have := h i h1
  simpa [List.getD, List.getElem?_eq_getElem h1, List.getElem?_eq_getElem h2] using this
theorem midN_zero (b : GF) (lv m u : Nat) : midN b lv m u 0 = cellsT b lv :=
  eq_getD (by rw [midN_len, cellsT_len]) fun i hi => by
    rw [midN_len] at hi
    rw [midN_get _ _ _ _ _ hi, if_neg (by omega), cells_get b hi]
theorem midN_step (b : GF) (lv m u : Nat) {k : Nat} (hk : k < 16 / lv) : (midN b lv m u k).set k (nwG b lv m u k) = midN b lv m u (k + 1) := by
  refine eq_getD (by rw [List.length_set, midN_len, midN_len]) fun i hi => ?_
  rw [List.length_set, midN_len] at hi
  rw [midN_get _ _ _ _ _ hi]
  by_cases e : k = i
  · subst e
    rw [if_pos (by omega)]
    simp [List.getD, midN_len, hk]
  · have h1 : ((midN b lv m u k).set k (nwG b lv m u k)).getD i 0 = (midN b lv m u k).getD i 0 := by simp [List.getD, e]
    rw [h1, midN_get _ _ _ _ _ hi]
    by_cases h2 : i < k
    · rw [if_pos h2, if_pos (by omega)]
    · rw [if_neg h2, if_neg (by omega)]
theorem midN_same (b : GF) (lv m u : Nat) (h : lv = 2 ∨ lv = 4) {k : Nat} (hk : k < 16 / lv) (hm : ¬ m / 2 ^ k % 2 = 1) : midN b lv m u (k + 1) = midN b lv m u k := by
  refine eq_getD (by rw [midN_len, midN_len]) fun i hi => ?_
  rw [midN_len] at hi
  rw [midN_get _ _ _ _ _ hi, midN_get _ _ _ _ _ hi]
  by_cases e : i = k
  · subst e
    rw [if_pos (by omega), if_neg (by omega)]
    apply GF.ext
    rw [nwG_v h, cellG_v h]
    unfold nwN; rw [if_neg hm]
  · by_cases h2 : i < k
    · rw [if_pos h2, if_pos (by omega)]
    · rw [if_neg h2, if_neg (by omega)]
def cntU (m : Nat) : Nat → Nat
  | 0 => 0
  | k + 1 => cntU m k + if m / 2 ^ k % 2 = 1 then 1 else 0
theorem cntU_le (m k : Nat) : cntU m k ≤ k := by
  induction k with
  | zero => exact Nat.le_refl _
  | succ k ih => unfold cntU; split <;> omega
theorem mid_lt (b : GF) (lv m u : Nat) (h : lv = 2 ∨ lv = 4) (k : Nat) : ∀ i, i < (midN b lv m u k).length → ((midN b lv m u k).getD i 0).v < lv := by
  intro i hi
  rw [midN_len] at hi
  rw [midN_get _ _ _ _ _ hi]
  split
  · rw [nwG_v h]; exact nwN_lt h (cellN_lt h _ _)
  · rw [cellG_v h]; exact cellN_lt h _ _
theorem mid_nb (b : GF) (lv m u : Nat) (h : lv = 2 ∨ lv = 4) (i : Nat) (hi : i < 16 / lv) : if m / 2 ^ i % 2 = 1 then nb lv ((cellsT b lv).getD i 0).v ((midN b lv m u (16 / lv)).getD i 0).v = true else (cellsT b lv).getD i 0 = (midN b lv m u (16 / lv)).getD i 0 := by
  rw [midN_get _ _ _ _ _ hi, if_pos hi, cells_get b hi]
  by_cases hm : m / 2 ^ i % 2 = 1
  · rw [if_pos hm, nwG_v h, cellG_v h]; exact nwN_nb h (cellN_lt h _ _) hm
  · rw [if_neg hm]
    apply GF.ext
    rw [nwG_v h, cellG_v h]
    unfold nwN; rw [if_neg hm]
theorem mid_or (b : GF) (lv m u : Nat) (h : lv = 2 ∨ lv = 4) : ∀ i, i < (cellsT b lv).length → (cellsT b lv).getD i 0 = (midN b lv m u (16 / lv)).getD i 0 ∨ nb lv ((cellsT b lv).getD i 0).v ((midN b lv m u (16 / lv)).getD i 0).v = true := by
  intro i hi
  rw [cellsT_len] at hi
  have := mid_nb b lv m u h i hi
  split at this
  · exact .inr this
  · exact .inl this
theorem dif_cnt (b : GF) (lv m u : Nat) (h : lv = 2 ∨ lv = 4) : ∀ k, k ≤ 16 / lv → difU (cellsT b lv) (midN b lv m u (16 / lv)) k = cntU m k := by
  intro k
  induction k with
  | zero => intro _; rfl
  | succ k ih =>
    intro hk
    show difU _ _ k + _ = cntU m k + _
    rw [ih (by omega)]
    congr 1
    have := mid_nb b lv m u h k (by omega)
    by_cases hm : m / 2 ^ k % 2 = 1
    · rw [if_pos hm] at this ⊢
      rw [if_neg]
      intro e; rw [e] at this; simp [nb] at this
    · rw [if_neg hm] at this ⊢
      rw [if_pos this]
/-- As many bits change as cells. -/
theorem pop_cnt (b : GF) (lv m u : Nat) (h : lv = 2 ∨ lv = 4) : popF 8 (joinN lv (midN b lv m u (16 / lv)) ^^^ b.v) = cntU m (16 / lv) := by
  have hj := join_cells h b
  have e1 : (cellsT b lv).take (16 / lv) = cellsT b lv := List.take_of_length_le (by rw [cellsT_len]; exact Nat.le_refl _)
  have e2 : (midN b lv m u (16 / lv)).take (16 / lv) = midN b lv m u (16 / lv) := List.take_of_length_le (by rw [midN_len]; exact Nat.le_refl _)
  rw [← dif_cnt b lv m u h _ (Nat.le_refl _), Nat.xor_comm]
  rcases h with rfl | rfl
  · have := pop_join2 (cells_lt (.inl rfl) b) (mid_lt b 2 m u (.inl rfl) _) (by rw [cellsT_len, midN_len]) (mid_or b 2 m u (.inl rfl)) (16 / 2) (by rw [cellsT_len]; exact Nat.le_refl _)
    rw [e1, e2, hj] at this
    exact this
  · have := pop_join4 (cells_lt (.inr rfl) b) (mid_lt b 4 m u (.inr rfl) _) (by rw [cellsT_len, midN_len]) (mid_or b 4 m u (.inr rfl)) (16 / 4) (by rw [cellsT_len]; exact Nat.le_refl _)
    rw [e1, e2, hj] at this
    exact this
theorem OwB.head' {w : World} {B n c : Nat} {A : Option Addr} {l : List GF} (h : OwB w B (.slice A n c) l) (hn : 0 < n) : ∃ g, A = some ⟨g, 0, none⟩ := by
  rcases h.2 with ⟨h1, h2⟩ | ⟨g, cap, cur, hv, _⟩
  · injection h1 with e1 e2 e3; omega
  · injection hv with e1 e2 e3; exact ⟨g, e1⟩
theorem div_pow_succ (m k : Nat) : m / 2 ^ k / 2 = m / 2 ^ (k + 1) := by rw [Nat.pow_succ, Nat.div_div_eq_div_mul]
theorem xor_u8 (a b : Nat) (ha : a < 256) (hb : b < 256) : bits .xor .u8 (a : Int) (b : Int) = ((a ^^^ b : Nat) : Int) := by
  have := u8_xor (a : Int) (b : Int) (by omega) (by omega) (by omega) (by omega)
  rw [this]; simp
set_option maxRecDepth 100000 in
set_option maxHeartbeats 4000000 in
theorem walkNb2 (b m u : GF) (w : World) :
    Calls Try.prog 6 #[.int .u8 b.z, .int .u8 m.z, .int .u8 u.z, .int .i64 2] w fun e w' => e = .returned (.bool true) ∧ Below w.heap.size w w' := by
  have HP := Lib.hid (show popF 8 (joinN 2 (midN b 2 m.v u.v 8) ^^^ b.v) = cntU m.v 8 from pop_cnt b 2 m.v u.v (by omega))
  have HML := Lib.hid (mid_lt b 2 m.v u.v (by omega) 8)
  have HMLEN := Lib.hid (midN_len b 2 m.v u.v 8)
  have EB := Lib.hid (show b.z = ((b.v : Nat) : Int) from rfl)
  have EM := Lib.hid (show m.z = ((m.v / 2 ^ 0 : Nat) : Int) by rw [Nat.pow_zero, Nat.div_one]; rfl)
  have EU := Lib.hid (show u.z = ((u.v / 2 ^ 0 : Nat) : Int) by rw [Nat.pow_zero, Nat.div_one]; rfl)
  have mlt := m.lt
  have ult := u.lt
  go_enter Try.func6, Try.ntmps6
  go_wp2_with fail
  refine (tiSplit2 b _).mono ?_; rintro e w1 ⟨A1, c1, rfl, ho1, hb1⟩
  obtain ⟨g, rfl⟩ := ho1.head' (by omega)
  have F1 := Has.new w1 0 0 23
  have hg : g ≠ w1.heap.size := by have := ho1.lt.2; omega
  have HG := Lib.hid hg
  have O1 := Lib.hid (ho1.below (below_new w1 (.cells #[.int .i64 0, .int .i64 0] 23)))
  have BW := Bw.al hb1 (.cells #[.int .i64 0, .int .i64 0] 23)
  clear ho1 hb1 hg
  go_wp2
  generalize w1.alloc (.cells #[.int .i64 0, .int .i64 0] 23) = W0 at *
  generalize w1.heap.size = b1 at *
  go_loopw [1, 2, 11, 12] (fun mv uv cn i wr => ∃ k : Nat, k ≤ 8 ∧ i = .int .i64 k ∧ mv = .int .u8 (m.v / 2 ^ k : Nat) ∧ uv = .int .u8 (u.v / 2 ^ k : Nat) ∧ cn = .int .i64 (cntU m.v k : Nat) ∧ OwB wr w.heap.size (.slice (some ⟨g, 0, none⟩) 8 c1) (midN b 2 m.v u.v k) ∧ Has wr b1 0 0 ∧ Below w.heap.size w wr) (fun _ _ _ i _ => 8 - (intOf i).toNat)
  case atStart => exact ⟨0, Nat.zero_le _, rfl, by rw [EM.out], by rw [EU.out], rfl, by rw [midN_zero]; exact O1.out, F1, BW⟩
  case round =>
    obtain ⟨k, hk, rfl, rfl, rfl, rfl, ho, hF, hbw⟩ := hrel
    have hcl := cntU_le m.v k
    by_cases hlt : k < 8
    · have hcell := ho.cellAt (i := k) hlt
      have hfz := ho.frozenAt k
      rw [midN_get _ _ _ _ _ (by omega), if_neg (by omega)] at hcell
      have ey : (cellG b 2 k).z = ((cellN b.v 2 k : Nat) : Int) := by unfold GF.z; rw [cellG_v (by omega)]
      rw [ey] at hcell
      have hq : cellN b.v 2 k < 2 := cellN_lt (by omega) _ _
      have HM := Lib.hid (div_pow_succ m.v k)
      have HU := Lib.hid (div_pow_succ u.v k)
      have HC := Lib.hid (show cntU m.v (k + 1) = cntU m.v k + if m.v / 2 ^ k % 2 = 1 then 1 else 0 from rfl)
      have HV := Lib.hid (nwG_v (lv := 2) (by omega) b m.v u.v k)
      have hst := ho.set k (nwG b 2 m.v u.v k)
      rw [midN_step _ _ _ _ (by omega)] at hst
      have hm8 : m.v / 2 ^ k < 256 := Nat.lt_of_le_of_lt (Nat.div_le_self _ _) mlt
      have hu8 : u.v / 2 ^ k < 256 := Nat.lt_of_le_of_lt (Nat.div_le_self _ _) ult
      have HSAME := Lib.hid (fun h => midN_same b 2 m.v u.v (by omega) (k := k) (by omega) h)
      have HO := Lib.hid ho
      have HLT := Lib.hid ho.lt
      generalize cntU m.v k = cn at *
      generalize m.v / 2 ^ k = mk at *
      generalize u.v / 2 ^ k = uk at *
      generalize cellN b.v 2 k = q at *
      have HST : Hid (∀ r : Nat, r = nwN 2 q mk uk → OwB (wr.setCell ⟨g, k, none⟩ (.int .u8 (r : Int))) w.heap.size (.slice (some ⟨g, 0, none⟩) 8 c1) (midN b 2 m.v u.v (k + 1))) := Lib.hid fun r hr => by
        have e : (nwG b 2 m.v u.v k).z = ((r : Nat) : Int) := by unfold GF.z; rw [HV.out, hr]
        rw [e] at hst; exact hst
      clear hst ho ey
      by_cases hp : mk % 2 = 1
      · have x1 : ((mk : Int) % 2 == 1) = true := by simp only [beq_iff_eq]; omega
        rw [if_pos hp] at HC
        by_cases h0 : q = 0
        · have HR := Lib.hid (HST.out (q + 1) (by unfold nwN; rw [if_pos hp, if_pos (.inl h0)]))
          have x2 : ((q : Int) == 0) = true := by simp only [beq_iff_eq]; omega
          clear hp h0
          go_wp2
          go_roundw
          case rel => exact ⟨k + 1, by omega, by go_num, by rw [← HM.out]; go_num, by rw [← HU.out]; go_num, by rw [HC.out]; go_num, HR.out, hF.off HG.out _, Bw.set hbw HLT.out.1 _⟩
          case measure => simp [intOf]; omega
        · have x2 : ((q : Int) == 0) = false := by simp only [beq_eq_false_iff_ne, ne_eq]; omega
          by_cases h1 : uk % 2 = 1
          · have x3 : ((uk : Int) % 2 == 1) = true := by simp only [beq_iff_eq]; omega
            by_cases h2 : q + 1 < 2
            · have HR := Lib.hid (HST.out (q + 1) (by unfold nwN; rw [if_pos hp, if_pos (.inr ⟨h1, h2⟩)]))
              clear hp h0 h1
              go_wp2
              go_roundw
              case rel => exact ⟨k + 1, by omega, by go_num, by rw [← HM.out]; go_num, by rw [← HU.out]; go_num, by rw [HC.out]; go_num, HR.out, hF.off HG.out _, Bw.set hbw HLT.out.1 _⟩
              case measure => simp [intOf]; omega
            · have hr : q - 1 = nwN 2 q mk uk := by unfold nwN; rw [if_pos hp, if_neg (by omega)]
              have HR := HST.out (q - 1) hr
              rw [show ((q - 1 : Nat) : Int) = (q : Int) - 1 by omega] at HR
              have HR' := Lib.hid HR
              have hq1 : 1 ≤ q := by omega
              clear hp h0 h1 hr HR
              go_wp2
              go_roundw
              case rel => exact ⟨k + 1, by omega, by go_num, by rw [← HM.out]; go_num, by rw [← HU.out]; go_num, by rw [HC.out]; go_num, HR'.out, hF.off HG.out _, Bw.set hbw HLT.out.1 _⟩
              case measure => simp [intOf]; omega
          · have x3 : ((uk : Int) % 2 == 1) = false := by simp only [beq_eq_false_iff_ne, ne_eq]; omega
            have hr : q - 1 = nwN 2 q mk uk := by unfold nwN; rw [if_pos hp, if_neg (by omega)]
            have HR := HST.out (q - 1) hr
            rw [show ((q - 1 : Nat) : Int) = (q : Int) - 1 by omega] at HR
            have HR' := Lib.hid HR
            have hq1 : 1 ≤ q := by omega
            clear hp h0 h1 hr HR
            go_wp2
            go_roundw
            case rel => exact ⟨k + 1, by omega, by go_num, by rw [← HM.out]; go_num, by rw [← HU.out]; go_num, by rw [HC.out]; go_num, HR'.out, hF.off HG.out _, Bw.set hbw HLT.out.1 _⟩
            case measure => simp [intOf]; omega
      · have x1 : ((mk : Int) % 2 == 1) = false := by simp only [beq_eq_false_iff_ne, ne_eq]; omega
        rw [if_neg hp] at HC
        have HS2 := Lib.hid (HSAME.out hp)
        clear hp
        go_wp2
        go_roundw
        case rel => exact ⟨k + 1, by omega, by go_num, by rw [← HM.out]; go_num, by rw [← HU.out]; go_num, by rw [HC.out]; go_num, by rw [HS2.out]; exact HO.out, hF, hbw⟩
        case measure => simp [intOf]; omega
    · obtain rfl : k = 8 := by omega
      have R9 := ho.rd.1
      generalize cntU m.v 8 = cn at *
      generalize m.v / 2 ^ 8 = mk at *
      generalize u.v / 2 ^ 8 = uk at *
      clear ho
      go_wp2_with fail
      refine (tiJoin2 _ _ _ _ R9 HML.out).mono ?_
      rintro e w3 ⟨rfl, hb3⟩
      have hj : joinN 2 (midN b 2 m.v u.v 8) < 256 := by
        have := joinN_bd (lv := 2) (by omega) _ HML.out HMLEN.out _ (Nat.le_refl _)
        rwa [List.take_of_length_le (Nat.le_refl _)] at this
      generalize joinN 2 (midN b 2 m.v u.v 8) = jn at *
      have F3 := Has.new w3 0 0 23
      have BW3 := Bw.al (Bw.step hbw hb3) (.cells #[.int .i64 0, .int .i64 0] 23)
      have hb8 := b.lt
      have hxr : jn ^^^ b.v < 2 ^ 8 := Nat.xor_lt_two_pow hj hb8
      have hxw := xor_u8 jn b.v hj hb8
      rw [← EB.out] at hxw
      generalize jn ^^^ b.v = xr at *
      obtain ⟨l3, c30, c31, f30, f31⟩ := id F3
      go_wp2
      go_loop [15, 16] (fun s d => ∃ f dn sn : Nat, dn < 2 ^ f ∧ f ≤ 8 ∧ s = .int .i64 sn ∧ d = .int .u8 dn ∧ sn + popF f dn = cn) (fun _ d => (intOf d).toNat)
      case atStart => exact ⟨8, xr, 0, hxr, Nat.le_refl _, rfl, rfl, by rw [Nat.zero_add]; exact HP.out⟩
      case round =>
        obtain ⟨f, dn, sn, hd, hf, rfl, rfl, hs⟩ := hrel
        have hd8 : dn < 256 := Nat.lt_of_lt_of_le hd (Nat.pow_le_pow_right (by omega) hf)
        rcases Nat.eq_zero_or_pos dn with h0 | h0
        · subst h0
          rw [popF_zero, Nat.add_zero] at hs
          subst hs
          go_wp2_with (go_at_call 11; refine (tinted_any _).mono ?_; rintro e w' ⟨rfl, hb6⟩)
          go_ret
          exact ⟨rfl, Bw.step BW3 hb6⟩
        · cases f with
          | zero => exact absurd hd (by simp; omega)
          | succ f =>
            have HS := Lib.hid (show sn + dn % 2 + popF f (dn / 2) = cn by rw [← hs]; show _ = sn + (popF f (dn / 2) + dn % 2); omega)
            have HD := Lib.hid (show dn / 2 < 2 ^ f by rw [Nat.pow_succ] at hd; omega)
            have hsn : sn ≤ cn := by omega
            clear hs hd
            go_wp2
            go_round
            case rel => exact ⟨f, dn / 2, sn + dn % 2, HD.out, by omega, by go_num, by go_num, HS.out⟩
            case measure => simp [intOf]; omega
set_option maxRecDepth 100000 in
set_option maxHeartbeats 4000000 in
theorem walkNb4 (b m u : GF) (w : World) :
    Calls Try.prog 6 #[.int .u8 b.z, .int .u8 m.z, .int .u8 u.z, .int .i64 4] w fun e w' => e = .returned (.bool true) ∧ Below w.heap.size w w' := by
  have HP := Lib.hid (show popF 8 (joinN 4 (midN b 4 m.v u.v 4) ^^^ b.v) = cntU m.v 4 from pop_cnt b 4 m.v u.v (by omega))
  have HML := Lib.hid (mid_lt b 4 m.v u.v (by omega) 4)
  have HMLEN := Lib.hid (midN_len b 4 m.v u.v 4)
  have EB := Lib.hid (show b.z = ((b.v : Nat) : Int) from rfl)
  have EM := Lib.hid (show m.z = ((m.v / 2 ^ 0 : Nat) : Int) by rw [Nat.pow_zero, Nat.div_one]; rfl)
  have EU := Lib.hid (show u.z = ((u.v / 2 ^ 0 : Nat) : Int) by rw [Nat.pow_zero, Nat.div_one]; rfl)
  have mlt := m.lt
  have ult := u.lt
  go_enter Try.func6, Try.ntmps6
  go_wp2_with fail
  refine (tiSplit4 b _).mono ?_; rintro e w1 ⟨A1, c1, rfl, ho1, hb1⟩
  obtain ⟨g, rfl⟩ := ho1.head' (by omega)
  have F1 := Has.new w1 0 0 23
  have hg : g ≠ w1.heap.size := by have := ho1.lt.2; omega
  have HG := Lib.hid hg
  have O1 := Lib.hid (ho1.below (below_new w1 (.cells #[.int .i64 0, .int .i64 0] 23)))
  have BW := Bw.al hb1 (.cells #[.int .i64 0, .int .i64 0] 23)
  clear ho1 hb1 hg
  go_wp2
  generalize w1.alloc (.cells #[.int .i64 0, .int .i64 0] 23) = W0 at *
  generalize w1.heap.size = b1 at *
  go_loopw [1, 2, 11, 12] (fun mv uv cn i wr => ∃ k : Nat, k ≤ 4 ∧ i = .int .i64 k ∧ mv = .int .u8 (m.v / 2 ^ k : Nat) ∧ uv = .int .u8 (u.v / 2 ^ k : Nat) ∧ cn = .int .i64 (cntU m.v k : Nat) ∧ OwB wr w.heap.size (.slice (some ⟨g, 0, none⟩) 4 c1) (midN b 4 m.v u.v k) ∧ Has wr b1 0 0 ∧ Below w.heap.size w wr) (fun _ _ _ i _ => 4 - (intOf i).toNat)
  case atStart => exact ⟨0, Nat.zero_le _, rfl, by rw [EM.out], by rw [EU.out], rfl, by rw [midN_zero]; exact O1.out, F1, BW⟩
  case round =>
    obtain ⟨k, hk, rfl, rfl, rfl, rfl, ho, hF, hbw⟩ := hrel
    have hcl := cntU_le m.v k
    by_cases hlt : k < 4
    · have hcell := ho.cellAt (i := k) hlt
      have hfz := ho.frozenAt k
      rw [midN_get _ _ _ _ _ (by omega), if_neg (by omega)] at hcell
      have ey : (cellG b 4 k).z = ((cellN b.v 4 k : Nat) : Int) := by unfold GF.z; rw [cellG_v (by omega)]
      rw [ey] at hcell
      have hq : cellN b.v 4 k < 4 := cellN_lt (by omega) _ _
      have HM := Lib.hid (div_pow_succ m.v k)
      have HU := Lib.hid (div_pow_succ u.v k)
      have HC := Lib.hid (show cntU m.v (k + 1) = cntU m.v k + if m.v / 2 ^ k % 2 = 1 then 1 else 0 from rfl)
      have HV := Lib.hid (nwG_v (lv := 4) (by omega) b m.v u.v k)
      have hst := ho.set k (nwG b 4 m.v u.v k)
      rw [midN_step _ _ _ _ (by omega)] at hst
      have hm8 : m.v / 2 ^ k < 256 := Nat.lt_of_le_of_lt (Nat.div_le_self _ _) mlt
      have hu8 : u.v / 2 ^ k < 256 := Nat.lt_of_le_of_lt (Nat.div_le_self _ _) ult
      have HSAME := Lib.hid (fun h => midN_same b 4 m.v u.v (by omega) (k := k) (by omega) h)
      have HO := Lib.hid ho
      have HLT := Lib.hid ho.lt
      generalize cntU m.v k = cn at *
      generalize m.v / 2 ^ k = mk at *
      generalize u.v / 2 ^ k = uk at *
      generalize cellN b.v 4 k = q at *
      have HST : Hid (∀ r : Nat, r = nwN 4 q mk uk → OwB (wr.setCell ⟨g, k, none⟩ (.int .u8 (r : Int))) w.heap.size (.slice (some ⟨g, 0, none⟩) 4 c1) (midN b 4 m.v u.v (k + 1))) := Lib.hid fun r hr => by
        have e : (nwG b 4 m.v u.v k).z = ((r : Nat) : Int) := by unfold GF.z; rw [HV.out, hr]
        rw [e] at hst; exact hst
      clear hst ho ey
      by_cases hp : mk % 2 = 1
      · have x1 : ((mk : Int) % 2 == 1) = true := by simp only [beq_iff_eq]; omega
        rw [if_pos hp] at HC
        by_cases h0 : q = 0
        · have HR := Lib.hid (HST.out (q + 1) (by unfold nwN; rw [if_pos hp, if_pos (.inl h0)]))
          have x2 : ((q : Int) == 0) = true := by simp only [beq_iff_eq]; omega
          clear hp h0
          go_wp2
          go_roundw
          case rel => exact ⟨k + 1, by omega, by go_num, by rw [← HM.out]; go_num, by rw [← HU.out]; go_num, by rw [HC.out]; go_num, HR.out, hF.off HG.out _, Bw.set hbw HLT.out.1 _⟩
          case measure => simp [intOf]; omega
        · have x2 : ((q : Int) == 0) = false := by simp only [beq_eq_false_iff_ne, ne_eq]; omega
          by_cases h1 : uk % 2 = 1
          · have x3 : ((uk : Int) % 2 == 1) = true := by simp only [beq_iff_eq]; omega
            by_cases h2 : q + 1 < 4
            · have HR := Lib.hid (HST.out (q + 1) (by unfold nwN; rw [if_pos hp, if_pos (.inr ⟨h1, h2⟩)]))
              clear hp h0 h1
              go_wp2
              go_roundw
              case rel => exact ⟨k + 1, by omega, by go_num, by rw [← HM.out]; go_num, by rw [← HU.out]; go_num, by rw [HC.out]; go_num, HR.out, hF.off HG.out _, Bw.set hbw HLT.out.1 _⟩
              case measure => simp [intOf]; omega
            · have hr : q - 1 = nwN 4 q mk uk := by unfold nwN; rw [if_pos hp, if_neg (by omega)]
              have HR := HST.out (q - 1) hr
              rw [show ((q - 1 : Nat) : Int) = (q : Int) - 1 by omega] at HR
              have HR' := Lib.hid HR
              have hq1 : 1 ≤ q := by omega
              clear hp h0 h1 hr HR
              go_wp2
              go_roundw
              case rel => exact ⟨k + 1, by omega, by go_num, by rw [← HM.out]; go_num, by rw [← HU.out]; go_num, by rw [HC.out]; go_num, HR'.out, hF.off HG.out _, Bw.set hbw HLT.out.1 _⟩
              case measure => simp [intOf]; omega
          · have x3 : ((uk : Int) % 2 == 1) = false := by simp only [beq_eq_false_iff_ne, ne_eq]; omega
            have hr : q - 1 = nwN 4 q mk uk := by unfold nwN; rw [if_pos hp, if_neg (by omega)]
            have HR := HST.out (q - 1) hr
            rw [show ((q - 1 : Nat) : Int) = (q : Int) - 1 by omega] at HR
            have HR' := Lib.hid HR
            have hq1 : 1 ≤ q := by omega
            clear hp h0 h1 hr HR
            go_wp2
            go_roundw
            case rel => exact ⟨k + 1, by omega, by go_num, by rw [← HM.out]; go_num, by rw [← HU.out]; go_num, by rw [HC.out]; go_num, HR'.out, hF.off HG.out _, Bw.set hbw HLT.out.1 _⟩
            case measure => simp [intOf]; omega
      · have x1 : ((mk : Int) % 2 == 1) = false := by simp only [beq_eq_false_iff_ne, ne_eq]; omega
        rw [if_neg hp] at HC
        have HS2 := Lib.hid (HSAME.out hp)
        clear hp
        go_wp2
        go_roundw
        case rel => exact ⟨k + 1, by omega, by go_num, by rw [← HM.out]; go_num, by rw [← HU.out]; go_num, by rw [HC.out]; go_num, by rw [HS2.out]; exact HO.out, hF, hbw⟩
        case measure => simp [intOf]; omega
    · obtain rfl : k = 4 := by omega
      have R9 := ho.rd.1
      generalize cntU m.v 4 = cn at *
      generalize m.v / 2 ^ 4 = mk at *
      generalize u.v / 2 ^ 4 = uk at *
      clear ho
      go_wp2_with fail
      refine (tiJoin4 _ _ _ _ R9 HML.out).mono ?_
      rintro e w3 ⟨rfl, hb3⟩
      have hj : joinN 4 (midN b 4 m.v u.v 4) < 256 := by
        have := joinN_bd (lv := 4) (by omega) _ HML.out HMLEN.out _ (Nat.le_refl _)
        rwa [List.take_of_length_le (Nat.le_refl _)] at this
      generalize joinN 4 (midN b 4 m.v u.v 4) = jn at *
      have F3 := Has.new w3 0 0 23
      have BW3 := Bw.al (Bw.step hbw hb3) (.cells #[.int .i64 0, .int .i64 0] 23)
      have hb8 := b.lt
      have hxr : jn ^^^ b.v < 2 ^ 8 := Nat.xor_lt_two_pow hj hb8
      have hxw := xor_u8 jn b.v hj hb8
      rw [← EB.out] at hxw
      generalize jn ^^^ b.v = xr at *
      obtain ⟨l3, c30, c31, f30, f31⟩ := id F3
      go_wp2
      go_loop [15, 16] (fun s d => ∃ f dn sn : Nat, dn < 2 ^ f ∧ f ≤ 8 ∧ s = .int .i64 sn ∧ d = .int .u8 dn ∧ sn + popF f dn = cn) (fun _ d => (intOf d).toNat)
      case atStart => exact ⟨8, xr, 0, hxr, Nat.le_refl _, rfl, rfl, by rw [Nat.zero_add]; exact HP.out⟩
      case round =>
        obtain ⟨f, dn, sn, hd, hf, rfl, rfl, hs⟩ := hrel
        have hd8 : dn < 256 := Nat.lt_of_lt_of_le hd (Nat.pow_le_pow_right (by omega) hf)
        rcases Nat.eq_zero_or_pos dn with h0 | h0
        · subst h0
          rw [popF_zero, Nat.add_zero] at hs
          subst hs
          go_wp2_with (go_at_call 11; refine (tinted_any _).mono ?_; rintro e w' ⟨rfl, hb6⟩)
          go_ret
          exact ⟨rfl, Bw.step BW3 hb6⟩
        · cases f with
          | zero => exact absurd hd (by simp; omega)
          | succ f =>
            have HS := Lib.hid (show sn + dn % 2 + popF f (dn / 2) = cn by rw [← hs]; show _ = sn + (popF f (dn / 2) + dn % 2); omega)
            have HD := Lib.hid (show dn / 2 < 2 ^ f by rw [Nat.pow_succ] at hd; omega)
            have hsn : sn ≤ cn := by omega
            clear hs hd
            go_wp2
            go_round
            case rel => exact ⟨f, dn / 2, sn + dn % 2, HD.out, by omega, by go_num, by go_num, HS.out⟩
            case measure => simp [intOf]; omega
set_option maxRecDepth 100000 in
set_option maxHeartbeats 1000000 in
theorem walkNbBad (b m u lv : Int) (w : World) (h2 : lv ≠ 2) (h4 : lv ≠ 4) :
    Calls Try.prog 6 #[.int .u8 b, .int .u8 m, .int .u8 u, .int .i64 lv] w fun e w' => e = .returned (.bool true) ∧ Below w.heap.size w w' := by
  have x2 : (lv != 2) = true := by simpa using h2
  have x4 : (lv != 4) = true := by simpa using h4
  go_enter Try.func6, Try.ntmps6
  go_wp2_with fail
  refine (tiSplit_bad _ _ _ h2 h4).mono ?_; rintro e w1 ⟨rfl, hb1⟩
  go_wp2_with (go_at_call 11; refine (tinted_any _).mono ?_; rintro e w' ⟨rfl, hb6⟩)
  go_ret
  exact ⟨rfl, by (repeat (first | exact Below.refl _ _ | assumption | refine Bw.al ?_ _ | refine Bw.step ?_ (by assumption) | refine Bw.drew ?_))⟩
theorem walkTintNeighboursDifferInOneBit (b m u lv : Int) (w : World) (w0 : (Lit.int .u8 b).wf = true) (w1 : (Lit.int .u8 m).wf = true) (w2 : (Lit.int .u8 u).wf = true) (w3 : (Lit.int .i64 lv).wf = true) :
    Calls Try.prog 6 #[.int .u8 b, .int .u8 m, .int .u8 u, .int .i64 lv] w fun e w' => e = .returned (.bool true) ∧ Below w.heap.size w w' := by
  obtain ⟨b, rfl⟩ := GF.of_z (wfu8 w0)
  obtain ⟨m, rfl⟩ := GF.of_z (wfu8 w1)
  obtain ⟨u, rfl⟩ := GF.of_z (wfu8 w2)
  by_cases h2 : lv = 2
  · subst h2; exact walkNb2 b m u w
  · by_cases h4 : lv = 4
    · subst h4; exact walkNb4 b m u w
    · exact walkNbBad _ _ _ lv w h2 h4
end Go.Proofs.Ytbhcjgjeedhnaaa
