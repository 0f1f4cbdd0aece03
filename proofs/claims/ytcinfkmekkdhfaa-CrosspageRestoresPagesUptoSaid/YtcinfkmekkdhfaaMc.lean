/- Texts of this proof, laid together: XDivA, XRow, XPoD, XPoE, XPoF, XSlA, XQuT, XSlB, XRsE, XRsF, XRsG, XRsH. -/
import Derived.Test.YtcinfkmekkdhfaaMb
import Derived.Test.YtcinfkmekkdhfaaMa
import Derived.Lib.AppendZerosOnto
import Derived.StillTail
/- Walk of the division of polynomials. -/
namespace Go.Proofs.Ytcinfkmekkdhfaa
open Go.RowKit
set_option linter.unusedVariables false

/-- What the division holds at the head of a round: the quotient and the rest, in blocks of their own. -/
def DvRel (a b : List GF) (w wr : World) (gq nq : Nat) (A : Option Addr) (c : Nat) (r ql : List GF) : Prop :=
  OwB wr w.heap.size (.slice A r.length c) r ∧ OwB wr w.heap.size (.slice (some ⟨gq, 0, none⟩) nq nq) ql ∧ (∀ g, A = some ⟨g, 0, none⟩ → g ≠ gq) ∧ Below w.heap.size w wr ∧
  Tr r ∧ (∀ j, j + b.length ≤ r.length → cf ql j = 0) ∧ r.length + 1 ≤ nq + b.length ∧ ∀ i, cf a i = cv (cf ql) (cf b) i + cf r i
theorem gq_lt {w : World} {B g n c : Nat} {l : List GF} (h : OwB w B (.slice (some ⟨g, 0, none⟩) n c) l) : g < w.heap.size := h.lt.2
set_option maxRecDepth 100000 in
set_option maxHeartbeats 4000000 in
theorem poDiv_any (A B : Option Addr) (n m c d : Nat) (a b : List GF) (w : World) (ha : RdB w A n a) (hb : RdB w B m b) (hn : n ≤ 1000000) (hm : m ≤ 1000000) (hc : n ≤ c) (hT : Tr b) (hne : b ≠ []) :
    Calls Try.prog 61 #[.slice A n c, .slice B m d] w fun e w' => ∃ A1 c1 A2 c2 q r, e = .returned (.tuple #[.slice A1 q.length c1, .slice A2 r.length c2]) ∧ OwB w' w.heap.size (.slice A1 q.length c1) q ∧ OwB w' w.heap.size (.slice A2 r.length c2) r ∧ Div a b q r ∧ Below w.heap.size w w' := by
  have la := ha.1
  have lb := hb.1
  subst la lb
  obtain ⟨nb, hnb, htop, hdb⟩ := Tr_top hT hne
  have HA := Lib.hid ha
  have HB := Lib.hid hb
  have HT := Lib.hid hT
  have hlen := trim_len_le a
  clear ha hb hT hne
  obtain ⟨b0, o0, hBe, hlb0, hcb0⟩ := HB.out.2 (by omega)
  subst hBe
  have hz : 0 < (cf b nb).z := by
    have h1 := GF.z_bd (cf b nb)
    have h2 : (cf b nb).z ≠ 0 := fun e => htop (GF.z_inj.1 e)
    omega
  have HTOP := Lib.hid htop
  have HNB := Lib.hid hnb
  have hb0 : 0 < b.length := by omega
  have hxb : w.cell? ⟨b0, o0 + (b.length - 1), none⟩ = some (.int .u8 (cf b nb).z) := by
    rw [hcb0 (b.length - 1) (by omega), show b.length - 1 = nb by omega]; rfl
  have HCB := Lib.hid hcb0
  clear htop hdb hnb hcb0
  go_enter Try.func61, Try.ntmps61
  go_wp2_with fail
  refine (poTrim_any _ _ _ _ _ HA.out hc (by omega)).mono ?_; rintro e w1 ⟨A1, c1, rfl, ho1, hb1⟩
  have HR0 := Lib.hid (show ∀ i, cf a i = cf (trimL a) i from fun i => by rw [cf_trim])
  have HTr0 := Lib.hid (Tr_trim a)
  generalize trimL a = r0 at *
  have hr0 : r0.length ≤ 1000000 := by omega
  have hi1 : (b.length : Int) - 1 = ((b.length - 1 : Nat) : Int) := by omega
  have hi2 : b.length - 1 < b.length := by omega
  have zI := GF.z_bd (cf b nb)
  have mI := gI_z (cf b nb)
  obtain ⟨nq, hnq⟩ : ∃ nq : Nat, nq = r0.length + 1 - b.length := ⟨_, rfl⟩
  have HNQ := Lib.hid hnq
  have hnqle : nq ≤ 1000001 := by omega
  have Q0 : OwB (w1.alloc (.cells (zerosB nq) 5)) w.heap.size (.slice (some ⟨w1.heap.size, 0, none⟩) nq nq) (List.replicate nq 0) := OwB.new w1 _ _ hb1.size (by unfold maxLen; omega)
  have HQ0 := Lib.hid Q0
  have R0 := Lib.hid (ho1.below (below_new w1 (.cells (zerosB nq) 5)))
  have BW0 := Lib.hid (Bw.al hb1 (.cells (zerosB nq) 5))
  have hG0 : ∀ g, A1 = some ⟨g, 0, none⟩ → g ≠ w1.heap.size := fun g e => by
    subst e; have := ho1.lt.2; omega
  have HG0 := Lib.hid hG0
  have hxb1 := (BW0.out.cell (p := ⟨b0, o0 + (b.length - 1), none⟩) hlb0).trans hxb
  clear Q0 hG0 hxb ho1
  have cases2 : (∃ X : Int, X = if (r0.length : Int) - b.length + 1 < 0 then 0 else (r0.length : Int) - b.length + 1) := ⟨_, rfl⟩
  rcases Nat.lt_or_ge (r0.length + 1) b.length with hcase | hcase
  all_goals
    first
      | (have hz0 : nq = 0 := by omega
         have hmk : ∀ w : World, (Instr.makeSlice 41 (.int .i64 0) (.int .i64 0)).run Try.prog w = .ok (.slice (some ⟨w.heap.size, 0, none⟩) nq nq) (w.alloc (.cells (zerosB nq) 5)) := by
           rw [hz0]; exact run_makeB 0 (by omega)
         have hlt : (r0.length : Int) - b.length + 1 < 0 := by omega
         clear hz0)
      | (have hmk := run_makeB nq (by omega)
         have e1 : (nq : Int) = (r0.length : Int) - b.length + 1 := by omega
         rw [e1] at hmk
         have hlt : 0 ≤ (r0.length : Int) - b.length + 1 := by omega
         clear e1)
    clear hnq cases2 hcase
    go_wp2_with fail
    clear hmk hlt
    refine (gfInverse_any _ _ (by omega)).mono ?_
    rw [mI]
    rintro e w2 ⟨rfl, hb2⟩
    have BW2 := Bw.step BW0.out hb2
    have Q2 := HQ0.out.below hb2
    have R2 := R0.out.below hb2
    have BW3 := Bw.al BW2 (.cells #[.int .i64 0, .int .i64 0] 24)
    have Q3 := Q2.below (below_new w2 (.cells #[.int .i64 0, .int .i64 0] 24))
    have R3 := R2.below (below_new w2 (.cells #[.int .i64 0, .int .i64 0] 24))
    have D0 : DvRel a b w (w2.alloc (.cells #[.int .i64 0, .int .i64 0] 24)) w1.heap.size nq A1 c1 r0 (List.replicate nq 0) := by
      have hq := HNQ.out
      refine ⟨R3, Q3, HG0.out, BW3, HTr0.out, fun j _ => ?_, by omega, fun i => ?_⟩
      · unfold cf
        by_cases hj : j < nq
        · simp [List.getD, hj]
        · simp [List.getD, hj]
      · have e : cf (List.replicate nq 0) = pz := by
          funext j; unfold cf pz
          by_cases hj : j < nq
          · simp [List.getD, hj]
          · simp [List.getD, hj]
        rw [e, cv_pz, GF.zero_add]; exact HR0.out i
    have HD := Lib.hid D0
    clear BW2 Q2 R2 BW3 Q3 R3 D0 HQ0 R0 BW0 HG0 hb2 hxb1 hb1 HTr0 HR0 HNQ
    go_wp2
    generalize w2.alloc (.cells #[.int .i64 0, .int .i64 0] 24) = W at *
    generalize w1.heap.size = gq at *
    generalize w2.heap.size = s2 at *
    go_loopw [6] (fun v wr => ∃ A c r ql, v = .slice A r.length c ∧ r.length ≤ 1000000 ∧ DvRel a b w wr gq nq A c r ql) (fun v _ => match v with | .slice _ n _ => n | _ => 0)
    case atStart => exact ⟨A1, c1, r0, _, rfl, hr0, HD.out⟩
    case round =>
      obtain ⟨A, c, r, ql, rfl, hrl, hD⟩ := hrel
      have HD2 := Lib.hid hD
      clear hD
      by_cases hge : b.length ≤ r.length
      · obtain ⟨ho, hq, hA, hbw, hTr, hq0, hnq, hinv⟩ := HD2.out
        obtain ⟨g, rfl⟩ := ho.head (by omega)
        have hgq := hA g rfl
        have hlq := hq.rd.2
        obtain ⟨at', hat⟩ : ∃ at' : Nat, at' + b.length = r.length := ⟨r.length - b.length, by omega⟩
        have hx := ho.cellAt (i := r.length - 1) (by omega)
        have hqf := hq.frozenAt at'
        have hqc := hq.cellAt (i := at') (by omega)
        have hsh := div_shorter HNB.out hat HTOP.out
        have hrd := div_round (q := cf r (r.length - 1) * (cf b nb).inv) hat (by omega) (hq0 at' (by omega)) hinv
        rw [show r.getD (r.length - 1) 0 = cf r (r.length - 1) from rfl] at hx
        generalize cf r (r.length - 1) = x at *
        have m1 := gM_z x (cf b nb).inv
        generalize (cf b nb).inv = y at *
        have z1 := GF.z_bd x
        have z2 := GF.z_bd y
        have z3 := GF.z_bd (x * y)
        generalize hxy : x * y = q at *
        have hb1 : (r.length : Int) - 1 = ((r.length - 1 : Nat) : Int) := by omega
        have hb2 : (r.length : Int) - b.length = (at' : Int) := by omega
        have dge : decide ((r.length : Int) ≥ b.length) = true := by simp only [decide_eq_true_eq]; omega
        have dge2 : decide ((b.length : Int) ≤ r.length) = true := by simp only [decide_eq_true_eq]; omega
        have hq1 := hq.set at' q
        have ho1 := ho.far (p := ⟨gq, at', none⟩) (fun e => hgq e.symm) (.int .u8 q.z)
        have hbw1 := Below.setCell (p := ⟨gq, at', none⟩) hbw hq.lt.1 (.int .u8 q.z)
        have HS := Lib.hid hq1
        have HS2 := Lib.hid ho1
        have HS3 := Lib.hid hbw1
        clear hq1 ho1 hbw1 ho hq hA hbw hinv
        go_wp2_with fail
        refine (gfMul_any _ _ _ (by omega) (by omega)).mono ?_
        rw [m1]
        rintro e w' ⟨rfl, rfl⟩
        have J0 : OwB (wr.setCell ⟨gq, at', none⟩ (.int .u8 q.z)) w.heap.size (.slice (some ⟨g, 0, none⟩) r.length c) (dvMid r b q at' 0) ∧ OwB (wr.setCell ⟨gq, at', none⟩ (.int .u8 q.z)) w.heap.size (.slice (some ⟨gq, 0, none⟩) nq nq) (ql.set at' q) ∧ Below w.heap.size w (wr.setCell ⟨gq, at', none⟩ (.int .u8 q.z)) :=
          ⟨by rw [dvMid_zero]; exact HS2.out, HS.out, HS3.out⟩
        have HJ := Lib.hid J0
        have HSH := Lib.hid hsh
        have HRD := Lib.hid hrd
        have HAT := Lib.hid hat
        have HQ0 := Lib.hid hq0
        have HTr := Lib.hid hTr
        have HLQ := Lib.hid hlq
        have hatle : at' ≤ 1000000 := by omega
        clear J0 HS HS2 HS3 hsh hrd hq0 hTr hlq
        go_wp2
        clear dge dge2 hqc hqf hx hb1 hb2 m1 hge
        generalize wr.setCell ⟨gq, at', none⟩ (.int .u8 q.z) = W2 at *
        go_loopw [58] (fun j wr => ∃ k : Nat, k ≤ b.length ∧ j = .int .i64 k ∧ OwB wr w.heap.size (.slice (some ⟨g, 0, none⟩) r.length c) (dvMid r b q at' k) ∧ OwB wr w.heap.size (.slice (some ⟨gq, 0, none⟩) nq nq) (ql.set at' q) ∧ Below w.heap.size w wr) (fun j _ => b.length - (intOf j).toNat)
        case atStart => exact ⟨0, Nat.zero_le _, rfl, HJ.out⟩
        case round =>
          obtain ⟨k, hk, rfl, ho, hq, hbw⟩ := hrel
          by_cases hlk : k < b.length
          · obtain ⟨bb, ob, hBB, hlb, hcb⟩ := (HB.out.below hbw).2 (by omega)
            cases hBB
            have hxb : wr.cell? ⟨b0, o0 + k, none⟩ = some (.int .u8 (cf b k).z) := hcb k hlk
            have hikN : at' + k < r.length := by omega
            have hcl := ho.cellAt (i := at' + k) hikN
            rw [dvMid_get _ _ _ _ _ hikN, if_neg (by omega)] at hcl
            have hfz := ho.frozenAt (at' + k)
            have hst := ho.set (at' + k) (cf r (at' + k) + q * cf b k)
            rw [dvMid_step r b q hikN] at hst
            have HST := Lib.hid hst
            have HLT := Lib.hid ho.lt
            have HFA := Lib.hid (fun u => hq.far (p := ⟨g, at' + k, none⟩) hgq u)
            have dlk : decide ((k : Int) < b.length) = true := by simp only [decide_eq_true_eq]; omega
            generalize cf r (at' + k) = s at *
            generalize cf b k = yb at *
            have m1 := gM_z q yb
            have m2 := gA_z s (q * yb)
            have z4 := GF.z_bd yb
            have z5 := GF.z_bd s
            have z6 := GF.z_bd (q * yb)
            have w1 : IntKind.i64.wrap ((at' : Int) + k) = at' + k := IntWalk.i64_in _ (by omega)
            have w2 : ((at' : Int) + k).toNat = at' + k := by omega
            have w3 : 0 ≤ (at' : Int) + k := by omega
            have w4 : (at' : Int) + k < r.length := by omega
            clear hst hcb ho hq hat
            go_wp2
            go_region_with ((first | (go_at_call 75; refine (gfMul_any _ _ _ (by omega) (by omega)).mono ?_; rintro e w' ⟨rfl, rfl⟩) | (go_at_call 74; refine (gfAdd_any _ _ _ (by omega) (by omega)).mono ?_; rintro e w' ⟨rfl, rfl⟩)))
            all_goals
              go_wp2
              go_roundw
              case rel => exact ⟨k + 1, by omega, by go_num, HST.out, HFA.out _, (hbw.setCell HLT.out.1 _).drew⟩
              case measure => simp [intOf]; omega
          · obtain rfl : k = b.length := by omega
            have HO := Lib.hid ho
            have HQ := Lib.hid hq
            have HBW := Lib.hid hbw
            have HT2 := Lib.hid (poTrim_any _ _ _ _ _ ho.rd.1 ho.cap.1 (by omega))
            clear ho hq hlk hk
            go_wp2_with fail
            refine HT2.out.mono ?_
            rintro e w3 ⟨A3, c3, rfl, ho3, hb3⟩
            have D3 : DvRel a b w w3 gq nq A3 c3 (trimL (dvMid r b q at' b.length)) (ql.set at' q) := by
              have hl := HSH.out
              refine ⟨own_base ho3 HBW.out.size, HQ.out.below hb3, fun g' e => ?_, Bw.step HBW.out hb3, Tr_trim _, fun j hj => ?_, by omega, HRD.out⟩
              · subst e
                have := ho3.lt.1
                have := HQ.out.lt.2
                omega
              · have h2 := HAT.out
                rw [cf_set _ _ (by rw [← HLQ.out]; omega), if_neg (by omega)]
                exact HQ0.out j (by omega)
            have HD3 := Lib.hid D3
            have hl3 := HSH.out
            generalize trimL (dvMid r b q at' b.length) = r3 at *
            go_wp2
            go_roundw
            case rel => exact ⟨A3, c3, r3, _, rfl, by omega, HD3.out⟩
            case measure => omega
      · obtain ⟨ho, hq, hA, hbw, hTr, hq0, hnq, hinv⟩ := HD2.out
        have dge2 : decide ((b.length : Int) ≤ r.length) = false := by simp only [decide_eq_false_iff_not]; omega
        have HT2 := Lib.hid (poTrim_any _ _ _ _ _ hq.rd.1 hq.cap.1 (by omega))
        clear ho hq hA hTr hq0 hinv
        go_wp2_with fail
        refine HT2.out.mono ?_
        rintro e w3 ⟨A3, c3, rfl, ho3, hb3⟩
        go_wp2
        go_ret2
        obtain ⟨ho, hq, hA, hbw, hTr, hq0, hnq, hinv⟩ := HD2.out
        exact ⟨A3, c3, A, c, _, r, rfl, own_base ho3 hbw.size, ho.below hb3, ⟨Tr_trim _, hTr, by omega, fun i => by rw [cf_trim]; exact hinv i⟩, Bw.step hbw hb3⟩
end Go.Proofs.Ytcinfkmekkdhfaa
/- What a walk is told of the slices that came in. -/
namespace Go.Proofs.Ytcinfkmekkdhfaa
open Go.RowKit
set_option linter.unusedVariables false

theorem wfu8 {a : Int} (h : (Lit.int .u8 a).wf = true) : 0 ≤ a ∧ a < 256 := by
  simp [Lit.wf, IntKind.min, IntKind.max, IntKind.signed, IntKind.bits] at h
  omega
/-- What the walk is told of a slice of integers that came in. -/
def IsRow (k : IntKind) (w : World) (a : Option Addr) (len cap : Nat) (zs : List Int) : Prop :=
  (a = none ∧ len = 0 ∧ cap = 0 ∧ zs = []) ∨
  ∃ x, a = some x ∧ len ≤ cap ∧ cap ≤ maxLen ∧ zs.length = cap ∧ (∀ i, i < zs.length → w.cell? (x.add i) = some (.int k (zs.getD i 0))) ∧ ∀ n ∈ zs, (Lit.int k n).wf = true
theorem getD_mem {zs : List Int} {i : Nat} (h : i < zs.length) : zs.getD i 0 ∈ zs := by
  simp [List.getD, List.getElem?_eq_getElem h]
/-- A slice of bytes that came in, as a list of bytes. -/
theorem IsRow.bytes {w : World} {a : Option Addr} {len cap : Nat} {zs : List Int} (h : IsRow .u8 w a len cap zs) : ∃ l : List GF, RdB w a len l ∧ len ≤ maxLen := by
  rcases h with ⟨rfl, rfl, rfl, rfl⟩ | ⟨x, rfl, hl, hm, hz, hcell, hwz⟩
  · exact ⟨[], ⟨rfl, fun h => by omega⟩, Nat.zero_le _⟩
  · refine ⟨(List.range len).map fun i => GF.mk (zs.getD i 0).toNat.succ.pred (by
      by_cases hi : i < zs.length
      · have := wfu8 (hwz _ (getD_mem hi)); simp only [Nat.pred_succ]; omega
      · simp [List.getD, List.getElem?_eq_none (Nat.le_of_not_lt hi)]), ⟨by simp, fun hn => ?_⟩, by omega⟩
    obtain ⟨b, off, spot⟩ := x
    have hc0 := hcell 0 (by omega)
    have hspot : spot = none := by simpa [Addr.add] using World.cell?_spot hc0
    subst hspot
    have hadd : ∀ i, (⟨b, off, none⟩ : Addr).add i = ⟨b, off + i, none⟩ := fun i => by unfold Addr.add; split <;> simp_all
    have hlt : b < w.heap.size := by
      have h0 := hcell 0 (by omega)
      rw [hadd] at h0
      rcases Nat.lt_or_ge b w.heap.size with h | h
      · exact h
      · simp [World.cell?, Array.getElem?_eq_none h] at h0
    refine ⟨b, off, rfl, hlt, fun i hi => ?_⟩
    have hi2 : i < zs.length := by omega
    rw [← hadd, hcell i hi2]
    have hwf := wfu8 (hwz _ (getD_mem hi2))
    simp only [List.getD, List.getElem?_map, List.getElem?_range hi, Option.map_some, Option.getD_some]
    unfold GF.z
    rw [GF.v_mk]
    simp only [Nat.pred_succ]
    congr 2
    simp only [List.getD] at hwf
    omega

end Go.Proofs.Ytcinfkmekkdhfaa
/- Walks of the package poly: the functions Add, Mul, Divide, Value. -/
namespace Go.Proofs.Ytcinfkmekkdhfaa
open Go.RowKit
set_option linter.unusedVariables false

theorem OwB.low {w : World} {B : Nat} {v : Value} {l : List GF} (h : OwB w B v l) {p : Addr} (hp : p.block < B) (u : Value) : OwB (w.setCell p u) B v l := by
  rcases h.2 with h' | ⟨g, cap, cur, hv, hB, hh⟩
  · exact ⟨h.1, .inl h'⟩
  · subst hv; exact own_far h (by omega) u
/-- The fault of two lengths. -/
def lC (n m : Nat) : Int := if 512 < n ∨ 512 < m then 3 else 0
def lI (n m : Nat) : Int := if 512 < n then -1 else if 512 < m then -2 else 0
theorem lens2 (w : World) (A B : Option Addr) (n m c d : Nat) (t : TypeId) : LensAt (w.alloc (.cells #[.slice A n c, .slice B m d] t)) w.heap.size [n, m] := by
  refine ⟨by simp, fun i hi => ?_⟩
  have hi2 : i < 2 := hi
  rcases Nat.lt_or_ge i 1 with h | h
  · obtain rfl : i = 0 := by omega
    exact ⟨A, c, by simp [go_sem]⟩
  · obtain rfl : i = 1 := by omega
    exact ⟨B, d, by simp [go_sem]⟩
theorem lens1 (w : World) (A : Option Addr) (n c : Nat) (t : TypeId) : LensAt (w.alloc (.cells #[.slice A n c] t)) w.heap.size [n] := by
  refine ⟨by simp, fun i hi => ?_⟩
  obtain rfl : i = 0 := by simpa using hi
  exact ⟨A, c, by simp [go_sem]⟩
theorem chk2 (w : World) (g : Nat) (A B : Option Addr) (n m c d : Nat) (t : TypeId) (hg : g = w.heap.size) (hn : n ≤ 9223372036854775807) (hm : m ≤ 9223372036854775807) :
    Calls Try.prog 54 #[.slice (some ⟨g, 0, none⟩) 2 2] (w.alloc (.cells #[.slice A n c, .slice B m d] t)) fun e w' => e = .returned (.agg #[.int .i64 (lC n m), .int .i64 (lI n m)]) ∧ Below w.heap.size w w' := by
  subst hg
  have H := lens2 w A B n m c d t
  have B0 := below_new w (.cells #[.slice A n c, .slice B m d] t)
  by_cases h1 : 512 < n
  · refine (poCheck_bad w.heap.size 2 0 [n, m] _ H (by simp) (fun i hi => by omega) (by simp) h1 hn).mono ?_
    rintro e w' ⟨rfl, hb⟩
    exact ⟨by unfold lC lI; rw [if_pos (.inl h1), if_pos h1]; rfl, Bw.step B0 hb⟩
  · by_cases h2 : 512 < m
    · refine (poCheck_bad w.heap.size 2 1 [n, m] _ H (by simp) (fun i hi => by (have h0 : i = 0 := by omega); subst h0; exact Nat.le_of_not_lt h1) (by simp) h2 hm).mono ?_
      rintro e w' ⟨rfl, hb⟩
      exact ⟨by unfold lC lI; rw [if_pos (.inr h2), if_neg h1, if_pos h2]; rfl, Bw.step B0 hb⟩
    · refine (poCheck_ok w.heap.size 2 [n, m] _ H (by simp) (fun i hi => ?_)).mono ?_
      · have hi2 : i < 2 := hi
        rcases Nat.lt_or_ge i 1 with h | h
        · obtain rfl : i = 0 := by omega
          exact Nat.le_of_not_lt h1
        · obtain rfl : i = 1 := by omega
          exact Nat.le_of_not_lt h2
      · rintro e w' ⟨rfl, hb⟩
        exact ⟨by unfold lC lI; rw [if_neg (by omega), if_neg h1, if_neg h2], Bw.step B0 hb⟩
theorem chk1 (w : World) (g : Nat) (A : Option Addr) (n c : Nat) (t : TypeId) (hg : g = w.heap.size) (hn : n ≤ 9223372036854775807) :
    Calls Try.prog 54 #[.slice (some ⟨g, 0, none⟩) 1 1] (w.alloc (.cells #[.slice A n c] t)) fun e w' => e = .returned (.agg #[.int .i64 (lC n 0), .int .i64 (lI n 0)]) ∧ Below w.heap.size w w' := by
  subst hg
  have H := lens1 w A n c t
  have B0 := below_new w (.cells #[.slice A n c] t)
  by_cases h1 : 512 < n
  · refine (poCheck_bad w.heap.size 1 0 [n] _ H (by simp) (fun i hi => by omega) (by simp) h1 hn).mono ?_
    rintro e w' ⟨rfl, hb⟩
    exact ⟨by unfold lC lI; rw [if_pos (.inl h1), if_pos h1]; rfl, Bw.step B0 hb⟩
  · refine (poCheck_ok w.heap.size 1 [n] _ H (by simp) (fun i hi => ?_)).mono ?_
    · obtain rfl : i = 0 := by simpa using hi
      exact Nat.le_of_not_lt h1
    · rintro e w' ⟨rfl, hb⟩
      exact ⟨by unfold lC lI; rw [if_neg (by omega), if_neg h1, if_neg (by omega)], Bw.step B0 hb⟩
theorem lC_ok {n m : Nat} (hn : n ≤ 512) (hm : m ≤ 512) : lC n m = 0 ∧ lI n m = 0 := by
  unfold lC lI; rw [if_neg (by omega), if_neg (by omega), if_neg (by omega)]; exact ⟨rfl, rfl⟩
theorem lC_bad {n m : Nat} (h : ¬ (n ≤ 512 ∧ m ≤ 512)) : lC n m = 3 := by
  unfold lC; rw [if_pos (by omega)]
set_option maxHeartbeats 1000000 in
theorem poAddP_ok (A B : Option Addr) (n m c d : Nat) (a b : List GF) (w : World) (ha : RdB w A n a) (hb : RdB w B m b) (hn : n ≤ 512) (hm : m ≤ 512) :
    Calls Try.prog 80 #[.slice A n c, .slice B m d] w fun e w' => ∃ A' c', e = .returned (.tuple #[.slice A' (sumP a b).length c', .agg #[.int .i64 0, .int .i64 0]]) ∧ OwB w' w.heap.size (.slice A' (sumP a b).length c') (sumP a b) ∧ Below w.heap.size w w' := by
  have HA := Lib.hid ha
  have HB := Lib.hid hb
  have HC := Lib.hid fun w (ha : RdB w A n a) (hb : RdB w B m b) => poAdd_any A B n m c d a b w ha hb (by omega) (by omega)
  clear ha hb
  generalize sumP a b = S at *
  go_enter Try.func80, Try.ntmps80
  go_wp2_with fail
  refine (chk2 (w.alloc _) _ A B n m c d _ (by simp) (by omega) (by omega)).mono ?_
  rw [(lC_ok hn hm).1, (lC_ok hn hm).2]
  rintro e w1 ⟨rfl, hb1⟩
  have F0 := (Has.new w 0 0 24).below hb1
  have B1 := Bw.step (below_new w (.cells #[.int .i64 0, .int .i64 0] 24)) hb1
  have RA := HA.out.below B1
  have RB := HB.out.below B1
  go_wp2_with fail
  refine (HC.out _ (RA.al _) (RB.al _)).mono ?_
  rintro e w2 ⟨A2, c2, rfl, ho2, hb2⟩
  have F2 := (F0.al _).below hb2
  obtain ⟨l0, c00, c01, f00, f01⟩ := id F2
  go_wp2
  have B2 := Bw.step (Bw.al B1 (.cells #[.int .i64 0, .int .i64 0] 24)) hb2
  exact bodyPost_ret (resF2 rfl rfl (F2.set2 0 0)) rfl ⟨A2, c2, rfl, own_base ((ho2.low (p := ⟨w.heap.size, 0, none⟩) (by have := F0.1; simp; omega) _).low (p := ⟨w.heap.size, 1, none⟩) (by have := F0.1; simp; omega) _) (by have := F0.1; simp; omega), Bw.set (Bw.set B2 (Nat.le_refl _) _) (Nat.le_refl _) _⟩
set_option maxHeartbeats 1000000 in
theorem poAddP_bad (A B : Option Addr) (n m c d : Nat) (w : World) (hn : n ≤ 9223372036854775807) (hm : m ≤ 9223372036854775807) (hbad : ¬ (n ≤ 512 ∧ m ≤ 512)) :
    Calls Try.prog 80 #[.slice A n c, .slice B m d] w fun e w' => e = .returned (.tuple #[.slice none 0 0, .agg #[.int .i64 3, .int .i64 (lI n m)]]) ∧ Below w.heap.size w w' := by
  have HC := Lib.hid (lC_bad hbad)
  clear hbad
  generalize hx : lI n m = x
  have HX := Lib.hid hx
  clear hx
  go_enter Try.func80, Try.ntmps80
  go_wp2_with fail
  refine (chk2 (w.alloc _) _ A B n m c d _ (by simp) hn hm).mono ?_
  rw [HC.out, HX.out]
  rintro e w1 ⟨rfl, hb1⟩
  have F0 := (Has.new w 0 0 24).below hb1
  have B1 := Bw.step (below_new w (.cells #[.int .i64 0, .int .i64 0] 24)) hb1
  have F1 := F0.al (.cells #[.int .i64 3, .int .i64 x] 24)
  have F6 := Has.new w1 3 x 24
  have B2 := Bw.al B1 (.cells #[.int .i64 3, .int .i64 x] 24)
  obtain ⟨l0, c00, c01, f00, f01⟩ := id F1
  obtain ⟨l6, c60, c61, f60, f61⟩ := id F6
  go_wp2
  go_region
  all_goals
    go_wp2
    exact bodyPost_ret (resF2 rfl rfl (F1.set2 3 x)) rfl ⟨rfl, Bw.drew (Bw.set (Bw.set B2 (Nat.le_refl _) _) (Nat.le_refl _) _)⟩
set_option maxHeartbeats 1000000 in
theorem poMulP_ok (A B : Option Addr) (n m c d : Nat) (a b : List GF) (w : World) (ha : RdB w A n a) (hb : RdB w B m b) (hn : n ≤ 512) (hm : m ≤ 512) :
    Calls Try.prog 37 #[.slice A n c, .slice B m d] w fun e w' => ∃ A' c', e = .returned (.tuple #[.slice A' (prodP a b).length c', .agg #[.int .i64 0, .int .i64 0]]) ∧ OwB w' w.heap.size (.slice A' (prodP a b).length c') (prodP a b) ∧ Below w.heap.size w w' := by
  have HA := Lib.hid ha
  have HB := Lib.hid hb
  have HC := Lib.hid fun w (ha : RdB w A n a) (hb : RdB w B m b) => poMul_any A B n m c d a b w ha hb (by omega) (by omega)
  clear ha hb
  generalize prodP a b = S at *
  go_enter Try.func37, Try.ntmps37
  go_wp2_with fail
  refine (chk2 (w.alloc _) _ A B n m c d _ (by simp) (by omega) (by omega)).mono ?_
  rw [(lC_ok hn hm).1, (lC_ok hn hm).2]
  rintro e w1 ⟨rfl, hb1⟩
  have F0 := (Has.new w 0 0 24).below hb1
  have B1 := Bw.step (below_new w (.cells #[.int .i64 0, .int .i64 0] 24)) hb1
  have RA := HA.out.below B1
  have RB := HB.out.below B1
  go_wp2_with fail
  refine (HC.out _ (RA.al _) (RB.al _)).mono ?_
  rintro e w2 ⟨A2, c2, rfl, ho2, hb2⟩
  have F2 := (F0.al _).below hb2
  obtain ⟨l0, c00, c01, f00, f01⟩ := id F2
  go_wp2
  have B2 := Bw.step (Bw.al B1 (.cells #[.int .i64 0, .int .i64 0] 24)) hb2
  exact bodyPost_ret (resF2 rfl rfl (F2.set2 0 0)) rfl ⟨A2, c2, rfl, own_base ((ho2.low (p := ⟨w.heap.size, 0, none⟩) (by have := F0.1; simp; omega) _).low (p := ⟨w.heap.size, 1, none⟩) (by have := F0.1; simp; omega) _) (by have := F0.1; simp; omega), Bw.set (Bw.set B2 (Nat.le_refl _) _) (Nat.le_refl _) _⟩
set_option maxHeartbeats 1000000 in
theorem poMulP_bad (A B : Option Addr) (n m c d : Nat) (w : World) (hn : n ≤ 9223372036854775807) (hm : m ≤ 9223372036854775807) (hbad : ¬ (n ≤ 512 ∧ m ≤ 512)) :
    Calls Try.prog 37 #[.slice A n c, .slice B m d] w fun e w' => e = .returned (.tuple #[.slice none 0 0, .agg #[.int .i64 3, .int .i64 (lI n m)]]) ∧ Below w.heap.size w w' := by
  have HC := Lib.hid (lC_bad hbad)
  clear hbad
  generalize hx : lI n m = x
  have HX := Lib.hid hx
  clear hx
  go_enter Try.func37, Try.ntmps37
  go_wp2_with fail
  refine (chk2 (w.alloc _) _ A B n m c d _ (by simp) hn hm).mono ?_
  rw [HC.out, HX.out]
  rintro e w1 ⟨rfl, hb1⟩
  have F0 := (Has.new w 0 0 24).below hb1
  have B1 := Bw.step (below_new w (.cells #[.int .i64 0, .int .i64 0] 24)) hb1
  have F1 := F0.al (.cells #[.int .i64 3, .int .i64 x] 24)
  have F6 := Has.new w1 3 x 24
  have B2 := Bw.al B1 (.cells #[.int .i64 3, .int .i64 x] 24)
  obtain ⟨l0, c00, c01, f00, f01⟩ := id F1
  obtain ⟨l6, c60, c61, f60, f61⟩ := id F6
  go_wp2
  go_region
  all_goals
    go_wp2
    exact bodyPost_ret (resF2 rfl rfl (F1.set2 3 x)) rfl ⟨rfl, Bw.drew (Bw.set (Bw.set B2 (Nat.le_refl _) _) (Nat.le_refl _) _)⟩
end Go.Proofs.Ytcinfkmekkdhfaa
/- Walks of the package poly: the functions Value and Divide. -/
namespace Go.Proofs.Ytcinfkmekkdhfaa
open Go.RowKit
set_option linter.unusedVariables false

set_option maxHeartbeats 1000000 in
theorem poValueP_ok (A : Option Addr) (n c : Nat) (a : List GF) (x : GF) (w : World) (ha : RdB w A n a) (hn : n ≤ 512) :
    Calls Try.prog 70 #[.slice A n c, .int .u8 x.z] w fun e w' => e = .returned (.tuple #[.int .u8 (valL a x).z, .agg #[.int .i64 0, .int .i64 0]]) ∧ Below w.heap.size w w' := by
  have la := ha.1
  subst la
  have HA := Lib.hid ha
  have HC := Lib.hid fun w (ha : RdB w A a.length a) => polyVal_any A c a x w (by omega) ha
  clear ha
  generalize (valL a x).z = S at *
  go_enter Try.func70, Try.ntmps70
  go_wp2_with fail
  refine (chk1 (w.alloc _) _ A a.length c _ (by simp) (by omega)).mono ?_
  rw [(lC_ok hn (Nat.zero_le _)).1, (lC_ok hn (Nat.zero_le _)).2]
  rintro e w1 ⟨rfl, hb1⟩
  have F0 := (Has.new w 0 0 24).below hb1
  have B1 := Bw.step (below_new w (.cells #[.int .i64 0, .int .i64 0] 24)) hb1
  have RA := HA.out.below B1
  go_wp2_with fail
  refine (HC.out _ (RA.al _)).mono ?_
  rintro e w2 ⟨rfl, hb2⟩
  have F2 := (F0.al _).below hb2
  obtain ⟨l0, c00, c01, f00, f01⟩ := id F2
  go_wp2
  have B2 := Bw.step (Bw.al B1 (.cells #[.int .i64 0, .int .i64 0] 24)) hb2
  exact bodyPost_ret (resF2 rfl rfl (F2.set2 0 0)) rfl ⟨rfl, Bw.set (Bw.set B2 (Nat.le_refl _) _) (Nat.le_refl _) _⟩
set_option maxHeartbeats 1000000 in
theorem poValueP_bad (A : Option Addr) (n c : Nat) (y : Int) (w : World) (hn : n ≤ 9223372036854775807) (hbad : ¬ n ≤ 512) :
    Calls Try.prog 70 #[.slice A n c, .int .u8 y] w fun e w' => e = .returned (.tuple #[.int .u8 0, .agg #[.int .i64 3, .int .i64 (lI n 0)]]) ∧ Below w.heap.size w w' := by
  have HC := Lib.hid (lC_bad (n := n) (m := 0) (fun h => hbad h.1))
  clear hbad
  generalize hx : lI n 0 = x
  have HX := Lib.hid hx
  clear hx
  go_enter Try.func70, Try.ntmps70
  go_wp2_with fail
  refine (chk1 (w.alloc _) _ A n c _ (by simp) hn).mono ?_
  rw [HC.out, HX.out]
  rintro e w1 ⟨rfl, hb1⟩
  have F0 := (Has.new w 0 0 24).below hb1
  have B1 := Bw.step (below_new w (.cells #[.int .i64 0, .int .i64 0] 24)) hb1
  have F1 := F0.al (.cells #[.int .i64 3, .int .i64 x] 24)
  have F6 := Has.new w1 3 x 24
  have B2 := Bw.al B1 (.cells #[.int .i64 3, .int .i64 x] 24)
  obtain ⟨l0, c00, c01, f00, f01⟩ := id F1
  obtain ⟨l6, c60, c61, f60, f61⟩ := id F6
  go_wp2
  go_region
  all_goals
    go_wp2
    exact bodyPost_ret (resF2 rfl rfl (F1.set2 3 x)) rfl ⟨rfl, Bw.drew (Bw.set (Bw.set B2 (Nat.le_refl _) _) (Nat.le_refl _) _)⟩
set_option maxHeartbeats 1000000 in
theorem poDivideP_bad (A B : Option Addr) (n m c d : Nat) (w : World) (hn : n ≤ 9223372036854775807) (hm : m ≤ 9223372036854775807) (hbad : ¬ (n ≤ 512 ∧ m ≤ 512)) :
    Calls Try.prog 41 #[.slice A n c, .slice B m d] w fun e w' => e = .returned (.tuple #[.slice none 0 0, .slice none 0 0, .agg #[.int .i64 3, .int .i64 (lI n m)]]) ∧ Below w.heap.size w w' := by
  have HC := Lib.hid (lC_bad hbad)
  clear hbad
  generalize hx : lI n m = x
  have HX := Lib.hid hx
  clear hx
  go_enter Try.func41, Try.ntmps41
  go_wp2_with fail
  refine (chk2 (w.alloc _) _ A B n m c d _ (by simp) hn hm).mono ?_
  rw [HC.out, HX.out]
  rintro e w1 ⟨rfl, hb1⟩
  have F0 := (Has.new w 0 0 24).below hb1
  have B1 := Bw.step (below_new w (.cells #[.int .i64 0, .int .i64 0] 24)) hb1
  have F1 := F0.al (.cells #[.int .i64 3, .int .i64 x] 24)
  have F6 := Has.new w1 3 x 24
  have B2 := Bw.al B1 (.cells #[.int .i64 3, .int .i64 x] 24)
  obtain ⟨l0, c00, c01, f00, f01⟩ := id F1
  obtain ⟨l6, c60, c61, f60, f61⟩ := id F6
  go_wp2
  go_region
  all_goals
    go_wp2
    exact bodyPost_ret (resF3 rfl rfl (F1.set2 3 x)) rfl ⟨rfl, Bw.drew (Bw.set (Bw.set B2 (Nat.le_refl _) _) (Nat.le_refl _) _)⟩
set_option maxHeartbeats 1000000 in
theorem poDivideP_zero (A B : Option Addr) (n m c d : Nat) (b : List GF) (w : World) (hb : RdB w B m b) (hn : n ≤ 512) (hm : m ≤ 512) (hd : m ≤ d) (h0 : trimL b = []) :
    Calls Try.prog 41 #[.slice A n c, .slice B m d] w fun e w' => e = .returned (.tuple #[.slice none 0 0, .slice none 0 0, .agg #[.int .i64 26, .int .i64 (-2)]]) ∧ Below w.heap.size w w' := by
  have HB := Lib.hid hb
  have H0 := Lib.hid h0
  clear hb h0
  go_enter Try.func41, Try.ntmps41
  go_wp2_with fail
  refine (chk2 (w.alloc _) _ A B n m c d _ (by simp) (by omega) (by omega)).mono ?_
  rw [(lC_ok hn hm).1, (lC_ok hn hm).2]
  rintro e w1 ⟨rfl, hb1⟩
  have F0 := (Has.new w 0 0 24).below hb1
  have B1 := Bw.step (below_new w (.cells #[.int .i64 0, .int .i64 0] 24)) hb1
  have RB := HB.out.below B1
  go_wp2_with fail
  refine (poTrim_any _ _ _ _ _ (RB.al _) hd (by omega)).mono ?_
  rw [H0.out]
  rintro e w2 ⟨A2, c2, rfl, ho2, hb2⟩
  have F2 := (F0.al _).below hb2
  have B2 := Bw.step (Bw.al B1 (.cells #[.int .i64 0, .int .i64 0] 24)) hb2
  go_wp2_with fail
  refine (poFault_any _ _ _).mono ?_
  rintro e w3 ⟨rfl, rfl⟩
  have F3 := F2.al (.cells #[.int .i64 26, .int .i64 (-2)] 24)
  have B3 := Bw.al B2 (.cells #[.int .i64 26, .int .i64 (-2)] 24)
  obtain ⟨l0, c00, c01, f00, f01⟩ := id F3
  go_wp2
  exact bodyPost_ret (resF3 rfl rfl (F3.set2 26 (-2))) rfl ⟨rfl, Bw.set (Bw.set B3 (Nat.le_refl _) _) (Nat.le_refl _) _⟩
set_option maxHeartbeats 1000000 in
theorem poDivideP_ok (A B : Option Addr) (n m c d : Nat) (a b : List GF) (w : World) (ha : RdB w A n a) (hb : RdB w B m b) (hn : n ≤ 512) (hm : m ≤ 512) (hc : n ≤ c) (hd : m ≤ d) (h0 : trimL b ≠ []) :
    Calls Try.prog 41 #[.slice A n c, .slice B m d] w fun e w' => ∃ A1 c1 A2 c2 q r, e = .returned (.tuple #[.slice A1 q.length c1, .slice A2 r.length c2, .agg #[.int .i64 0, .int .i64 0]]) ∧ OwB w' w.heap.size (.slice A1 q.length c1) q ∧ OwB w' w.heap.size (.slice A2 r.length c2) r ∧ Div a (trimL b) q r ∧ Below w.heap.size w w' := by
  have HA := Lib.hid ha
  have HB := Lib.hid hb
  have hT := Tr_trim b
  have HTR := Lib.hid fun w (hb : RdB w B m b) => poTrim_any B m d b w hb hd (by omega)
  have hlen := trim_len_le b
  rw [hb.1] at hlen
  have hpos : 0 < (trimL b).length := List.length_pos_iff.2 h0
  clear ha hb
  generalize trimL b = b' at *
  have HC := Lib.hid fun w B c1 (ha : RdB w A n a) (hb : RdB w B b'.length b') => poDiv_any A B n b'.length c c1 a b' w ha hb (by omega) (by omega) hc hT h0
  have x0 : ((b'.length : Int) == 0) = false := by rw [beq_eq_false_iff_ne]; omega
  clear hT h0
  go_enter Try.func41, Try.ntmps41
  go_wp2_with fail
  refine (chk2 (w.alloc _) _ A B n m c d _ (by simp) (by omega) (by omega)).mono ?_
  rw [(lC_ok hn hm).1, (lC_ok hn hm).2]
  rintro e w1 ⟨rfl, hb1⟩
  have F0 := (Has.new w 0 0 24).below hb1
  have B1 := Bw.step (below_new w (.cells #[.int .i64 0, .int .i64 0] 24)) hb1
  have RA := HA.out.below B1
  have RB := HB.out.below B1
  go_wp2_with fail
  refine (HTR.out _ (RB.al _)).mono ?_
  rintro e w2 ⟨A2, c2, rfl, ho2, hb2⟩
  have F2 := (F0.al _).below hb2
  have B2 := Bw.step (Bw.al B1 (.cells #[.int .i64 0, .int .i64 0] 24)) hb2
  have RA2 := (RA.al _).below hb2
  go_wp2_with fail
  refine (HC.out _ _ _ RA2 ho2.rd.1).mono ?_
  rintro e w3 ⟨A3, c3, A4, c4, q, r, rfl, ho3, ho4, hdv, hb3⟩
  have HD := Lib.hid hdv
  have F3 := F2.below hb3
  have B3 := Bw.step B2 hb3
  clear hdv
  obtain ⟨l0, c00, c01, f00, f01⟩ := id F3
  go_wp2
  have l2 := F2.1
  exact bodyPost_ret (resF3 rfl rfl (F3.set2 0 0)) rfl ⟨A3, c3, A4, c4, q, r, rfl, own_base ((ho3.low (p := ⟨w.heap.size, 0, none⟩) l2 _).low (p := ⟨w.heap.size, 1, none⟩) l2 _) (Nat.le_of_lt l2), own_base ((ho4.low (p := ⟨w.heap.size, 0, none⟩) l2 _).low (p := ⟨w.heap.size, 1, none⟩) l2 _) (Nat.le_of_lt l2), HD.out, Bw.set (Bw.set B3 (Nat.le_refl _) _) (Nat.le_refl _) _⟩
end Go.Proofs.Ytcinfkmekkdhfaa
/- Walks of the statements' helpers long and expanded. -/
namespace Go.Proofs.Ytcinfkmekkdhfaa
open Go.RowKit
set_option linter.unusedVariables false

theorem RdB.lits (w : World) (g : Nat) (zs : List Int) (l : List GF) (t : TypeId) (hg : g = w.heap.size) (h : zs = l.map GF.z) : RdB (w.alloc (.cells (zs.map fun z => Value.int .u8 z).toArray t)) (some ⟨g, 0, none⟩) l.length l := by
  subst h hg
  refine ⟨rfl, fun hn => ⟨_, 0, rfl, by simp, fun i hi => ?_⟩⟩
  simp [go_sem, hi, List.getD]
def b1 : GF := GF.mk 1 (by decide)
def b2 : GF := GF.mk 2 (by decide)
def b3 : GF := GF.mk 3 (by decide)
theorem RdB.l2 (w : World) (g : Nat) (x y : Int) (a b : GF) (t : TypeId) (hg : g = w.heap.size) (h : x = a.z ∧ y = b.z) : RdB (w.alloc (.cells #[.int .u8 x, .int .u8 y] t)) (some ⟨g, 0, none⟩) 2 [a, b] := RdB.lits w g [x, y] [a, b] t hg (by rw [h.1, h.2]; rfl)
theorem RdB.l3 (w : World) (g : Nat) (x y z : Int) (a b c : GF) (t : TypeId) (hg : g = w.heap.size) (h : x = a.z ∧ y = b.z ∧ z = c.z) : RdB (w.alloc (.cells #[.int .u8 x, .int .u8 y, .int .u8 z] t)) (some ⟨g, 0, none⟩) 3 [a, b, c] := RdB.lits w g [x, y, z] [a, b, c] t hg (by rw [h.1, h.2.1, h.2.2]; rfl)
theorem RdB.l1 (w : World) (g : Nat) (x : Int) (a : GF) (t : TypeId) (hg : g = w.heap.size) (h : x = a.z) : RdB (w.alloc (.cells #[.int .u8 x] t)) (some ⟨g, 0, none⟩) 1 [a] := RdB.lits w g [x] [a] t hg (by rw [h]; rfl)
theorem ex_prod : prodP [b1, b1] [b2, b1] = [b2, b3, b1] := by decide +kernel
theorem ex_trim : trimL [b1, b1] = [b1, b1] := by decide +kernel
theorem ex_val : valL [b2, b3, b1] 0 = b2 := by decide +kernel
theorem ex_div {q r : List GF} (h : Div [b3, b3, b1] [b1, b1] q r) : q = [b2, b1] ∧ r = [b1] := by
  refine Div_unique (.inr (by decide +kernel)) (by simp) h ⟨.inr (by decide +kernel), .inr (by decide +kernel), by decide, fun i => ?_⟩
  rcases Nat.lt_or_ge i 3 with h | h
  · have : ∀ i, i < 3 → cf [b3, b3, b1] i = cv (cf [b2, b1]) (cf [b1, b1]) i + cf [b1] i := by decide +kernel
    exact this i h
  · rw [degB_cf [b3, b3, b1] i h, degB_cf [b1] i (by simp; omega), degB_cv (m := 1) (n := 1) (degB_cf [b2, b1]) (degB_cf [b1, b1]) i h]; rfl
theorem z_b2 : b2.z = 2 := rfl
end Go.Proofs.Ytcinfkmekkdhfaa
/- Walks of Go's slices: Grow and Concat of bytes. -/
namespace Go.Proofs.Ytcinfkmekkdhfaa
open Go.RowKit
set_option linter.unusedVariables false

theorem zc_size (z : Value) (hz : z.cells = #[z]) (k : Nat) : (Builtin.zeroCells z.cells k).size = k := by rw [hz]; simp [Builtin.zeroCells]
/-- append(nil, make([]byte, n)...): a new row of n zeros. -/
theorem wpList_growB (w : World) {ops : Array Oper} {rest : List Oper} {o : Oper} {a : Act} {Q : Exit → Act → World → Prop} (hgd : o.guard = none) (s x : Operand)
    (ho : o.op = .call { callee := .builtin .append, args := #[s, x], argTypes := #[41, 3] }) (n : Nat) (h0 : 0 < n) (hn : n ≤ 1099511627)
    (hs : a.eval s = .slice none 0 0) (hx : a.eval x = .int .i64 n)
    (h : ∀ (G : Nat) w', n ≤ G → G ≤ 9223372036854775807 → OwB w' w.heap.size (.slice (some ⟨w.heap.size, 0, none⟩) 0 G) [] → Below w.heap.size w w' → wpList Try.prog ops Q rest (a.put o.dst (.slice (some ⟨w.heap.size, 0, none⟩) n G)) w') : wpList Try.prog ops Q (o :: rest) a w := by
  obtain ⟨i0, hi, hz0, hsz, hb⟩ := info_parts infoB
  have hold : (Builtin.firstCells i0.size 0 (.slice none 0 0)).run Try.prog w.drew = .ok ([] : List Value).toArray w.drew := run_firstCells_none w.drew i0.size 0 0 0
  have hrz := Lib.run_append_grow_zeros (P := Try.prog) w 41 3 o.type 5 i0 (.int .u8 0) .i64 .i64 Try.underlying41 Try.underlying3 hi hz0 none 0 0 [] hold n h0 (by omega) (by omega) (by omega) (by rw [hb]; omega)
    (by rw [Nat.zero_add, nextslicecap_zero h0, hb]; omega)
  rw [Nat.zero_add] at hrz
  have hG1 : n ≤ grownCap w n 0 5 := grownCap_ge w _ _ _
  have hG2 : grownCap w n 0 5 ≤ maxLen := grownCap_le_maxLen w n 0 5 (by unfold maxLen; omega)
  refine wpList_plain hgd fun _ hK => ?_
  unfold Oper.wp execOp
  simp only [ho, resolve, invoke, builtin, Sem.run_bind, Sem.run_pure, Result.andThen_ok, List.map_toArray, List.map_cons, List.map_nil, hs, hx, hrz]
  refine hK _ _ (h _ _ hG1 (by unfold maxLen at hG2; exact hG2) ⟨rfl, .inr ⟨w.heap.size, grownCap w n 0 5, _, rfl, Nat.le_refl _, heap_alloc_new w.drew _, Nat.zero_le _, hG2, ?_, rfl⟩⟩ ((Below.refl _ w).drew.alloc (Nat.le_refl _) _))
  simp only [Array.size_append, zc_size (.int .u8 0) rfl]
  simp; omega
set_option maxHeartbeats 1000000 in
theorem growB_any (n : Nat) (w : World) (hn : n ≤ 1099511627) :
    Calls Try.prog 58 #[.slice none 0 0, .int .i64 n] w fun e w' => ∃ A c, e = .returned (.slice A 0 c) ∧ OwB w' w.heap.size (.slice A 0 c) [] ∧ Below w.heap.size w w' := by
  rcases Nat.eq_zero_or_pos n with h0 | h0
  · subst h0
    go_enter Try.func58, Try.ntmps58
    go_wp2
    go_ret
    exact ⟨none, 0, rfl, OwB.nil _ _, Below.refl _ _⟩
  · go_enter Try.func58, Try.ntmps58
    go_wp2_with (at_builtin; refine wpList_growB _ rfl (.tmp 20) (.tmp 21) rfl n h0 hn rfl rfl ?_; intro G w1 hG1 hG2 ho1 hb1)
    go_ret
    exact ⟨_, _, rfl, ho1, hb1⟩
/-- Two slices in a row. -/
def TwoAt (w : World) (g : Nat) (A B : Option Addr) (n m c d : Nat) : Prop := g < w.heap.size ∧ w.cell? ⟨g, 0, none⟩ = some (.slice A n c) ∧ w.cell? ⟨g, 1, none⟩ = some (.slice B m d)
theorem TwoAt.below {w w' : World} {g : Nat} {A B : Option Addr} {n m c d : Nat} (h : TwoAt w g A B n m c d) (hb : Below w.heap.size w w') : TwoAt w' g A B n m c d :=
  ⟨Nat.lt_of_lt_of_le h.1 hb.size, (hb.cell (p := ⟨g, 0, none⟩) h.1).trans h.2.1, (hb.cell (p := ⟨g, 1, none⟩) h.1).trans h.2.2⟩
theorem TwoAt.new (w : World) (A B : Option Addr) (n m c d : Nat) (t : TypeId) : TwoAt (w.alloc (.cells #[.slice A n c, .slice B m d] t)) w.heap.size A B n m c d := ⟨by simp, by simp [go_sem], by simp [go_sem]⟩
theorem TwoAt.mk' (w : World) (g : Nat) (A B : Option Addr) (n m c d : Nat) (t : TypeId) (hg : g = w.heap.size) : TwoAt (w.alloc (.cells #[.slice A n c, .slice B m d] t)) g A B n m c d := by subst hg; exact TwoAt.new w A B n m c d t
def catL (a b : List GF) (k : Nat) : List GF := if k = 0 then [] else if k = 1 then a else a ++ b
set_option maxRecDepth 100000 in
set_option maxHeartbeats 2000000 in
theorem concat2_any (g e : Nat) (A B : Option Addr) (n m c d : Nat) (a b : List GF) (w : World) (hT : TwoAt w g A B n m c d) (ha : RdB w A n a) (hb : RdB w B m b) (hn : n ≤ 1000000) (hm : m ≤ 1000000) :
    Calls Try.prog 39 #[.slice (some ⟨g, 0, none⟩) 2 e] w fun e w' => ∃ A' c', e = .returned (.slice A' (a ++ b).length c') ∧ OwB w' w.heap.size (.slice A' (a ++ b).length c') (a ++ b) ∧ Below w.heap.size w w' := by
  have la := ha.1
  have lb := hb.1
  subst la lb
  have HT := Lib.hid hT
  have HA := Lib.hid ha
  have HB := Lib.hid hb
  clear hT ha hb
  go_enter Try.func39, Try.ntmps39
  go_wp2
  go_loop [3, 11] (fun s i => ∃ k : Nat, k ≤ 2 ∧ i = .int .i64 k ∧ s = .int .i64 ((catL a b k).length : Nat)) (fun _ i => 2 - (intOf i).toNat)
  case atStart => exact ⟨0, Nat.zero_le _, rfl, rfl⟩
  case round =>
    obtain ⟨k, hk, rfl, rfl⟩ := hrel
    obtain ⟨h1, h2, h3⟩ := HT.out
    obtain rfl | rfl | rfl : k = 0 ∨ k = 1 ∨ k = 2 := by omega
    · rw [show (catL a b 0).length = 0 from rfl]
      go_wp2
      go_round
      case rel => first | exact ⟨1, by omega, by first | rfl | go_num, by first | rfl | go_num⟩ | ((repeat apply Exists.intro); exact ⟨⟨1, by omega, by first | rfl | go_num, by first | rfl | go_num⟩, rfl⟩)
      case measure => simp [intOf]
    · rw [show (catL a b 1).length = a.length from rfl]
      go_wp2
      go_round
      case rel => first | exact ⟨2, by omega, by first | rfl | go_num, by (show _ = Value.int .i64 ((a ++ b).length : Nat); rw [List.length_append]; go_num)⟩ | ((repeat apply Exists.intro); exact ⟨⟨2, by omega, by first | rfl | go_num, by (show _ = Value.int .i64 ((a ++ b).length : Nat); rw [List.length_append]; go_num)⟩, rfl⟩)
      case measure => simp [intOf]
    · rw [show (catL a b 2).length = a.length + b.length from List.length_append]
      have e1 : ((a.length + b.length : Nat) : Int) = (a.length : Int) + b.length := by omega
      go_wp2_with fail
      refine (growB_any (a.length + b.length) _ (by omega)).mono ?_
      rintro e w1 ⟨A1, c1, rfl, ho1, hb1⟩
      have HT1 := Lib.hid (HT.out.below hb1)
      have HA1 := Lib.hid (HA.out.below hb1)
      have HB1 := Lib.hid (HB.out.below hb1)
      clear h1 h2 h3 e1
      go_wp2
      go_loopw [6, 27] (fun v i wr => ∃ k : Nat, k ≤ 2 ∧ i = .int .i64 k ∧ OwB wr w.heap.size v (catL a b k) ∧ Below w.heap.size w wr) (fun _ i _ => 2 - (intOf i).toNat)
      case atStart => exact ⟨0, Nat.zero_le _, rfl, ho1, hb1⟩
      case round =>
        obtain ⟨k, hk, rfl, ho, hbw⟩ := hrel
        obtain ⟨h1, h2, h3⟩ := HT.out.below hbw
        have HA2 := Lib.hid (HA.out.below hbw)
        have HB2 := Lib.hid (HB.out.below hbw)
        have hsz := hbw.size
        have HO := Lib.hid ho
        clear ho
        obtain rfl | rfl | rfl : k = 0 ∨ k = 1 ∨ k = 2 := by omega
        · go_wp2_with (at_builtin; refine wpList_appB _ rfl (.tmp 31) (.tmp 32) rfl w.heap.size _ [] rfl HO.out A a.length c a rfl HA2.out (by simp; omega) hsz ?_; intro v1 w2 ho2 hg2 hat2)
          have hb2 := hbw.trans (grown_below hg2 HO.out hsz)
          rw [List.nil_append] at ho2
          go_wp2
          go_roundw
          case rel => first | exact ⟨1, by omega, by first | rfl | go_num, ho2, hb2⟩ | ((repeat apply Exists.intro); exact ⟨⟨1, by omega, by first | rfl | go_num, ho2, hb2⟩, rfl⟩)
          case measure => simp [intOf]
        · have HO1 : Hid (OwB wr w.heap.size _ a) := HO
          clear HO
          go_wp2_with (at_builtin; refine wpList_appB _ rfl (.tmp 31) (.tmp 32) rfl w.heap.size _ a rfl HO1.out B b.length d b rfl HB2.out (by omega) hsz ?_; intro v1 w2 ho2 hg2 hat2)
          have hb2 := hbw.trans (grown_below hg2 HO1.out hsz)
          go_wp2
          go_roundw
          case rel => first | exact ⟨2, by omega, by first | rfl | go_num, ho2, hb2⟩ | ((repeat apply Exists.intro); exact ⟨⟨2, by omega, by first | rfl | go_num, ho2, hb2⟩, rfl⟩)
          case measure => simp [intOf]
        · have HO1 : Hid (OwB wr w.heap.size _ (a ++ b)) := HO
          clear HO
          obtain ⟨A3, c3, hv⟩ := HO1.out.form
          subst hv
          go_wp2
          go_ret
          exact ⟨A3, c3, rfl, HO1.out, hbw⟩
end Go.Proofs.Ytcinfkmekkdhfaa
/- A region that draws its order: operations that read memory that was there, and callees that make new memory alone; behind all of them a chain of operations that may write. One walk in the order of the text serves every order. -/
namespace Go.Proofs.Ytcinfkmekkdhfaa
open Go.RowKit
section
variable {P : Program} {ops : Array Oper} {md : Region.Mode} {C : World → Prop}

/-- The head of the region in whatever order, f operations of it; then L. -/
def headQ (P : Program) (md : Region.Mode) (ops : Array Oper) (C : World → Prop) (n : Nat) (L : Array Bool → Act → Prop) : Nat → Array Bool → Act → Prop
  | 0, s, a => L s a
  | f + 1, s, a => Region.ready md ops s ≠ [] ∧ ∀ i ∈ Region.ready md ops s, i < n ∧ qOp P ops C i (headQ P md ops C n L f (s.setIfInBounds i true)) a
theorem headQ_any {n g : Nat} {L : Array Bool → Act → Prop} {R : Exit → Act → World → Prop} (hL : ∀ s a w, C w → L s a → wpAny P md ops R g s a w) (f : Nat) :
    ∀ (s : Array Bool) (a : Act) (w : World), C w → headQ P md ops C n L f s a → wpAny P md ops R (f + g) s a w := by
  induction f with
  | zero => intro s a w hw h; rw [Nat.zero_add]; exact hL s a w hw h
  | succ f ih =>
    intro s a w hw h
    rw [show f + 1 + g = (f + g) + 1 by omega]
    exact ⟨fun h0 => absurd h0 h.1, fun i hi => wpOp_of_qOp hw (fun a' w' hw' h' => ih _ a' w' hw' h') (h.2 i hi).2⟩
/-- What is needed of the region's edges. -/
structure Tailed (md : Region.Mode) (ops : Array Oper) (n : Nat) : Prop where
  sel : Region.noSelect ops = true
  lt : n < ops.size
  sink : Region.sinkB md ops n = true
  chain : Region.chainB md ops n = true
theorem Tailed.head {n i j : Nat} (T : Tailed md ops n) {s : Array Bool} (inv : HeadInv md ops n s) (hi : i < n) (hun : s.getD i true = false) (hj : j ∈ Region.ready md ops s) : j < n := by
  rcases Nat.lt_or_ge j n with h | h
  · exact h
  · exact absurd hj (tail_waits T.sink T.chain T.lt inv _ i rfl hi hun j h)
theorem headQ_first {n i : Nat} {oi : Oper} {v : Value} {L : Array Bool → Act → Prop} (T : Tailed md ops n) (hi : ops[i]? = some oi) (hin : i < n) (hdone : ∀ s a, L s a → ∀ j ∈ Region.ready md ops s, n ≤ j) (f : Nat) :
    ∀ (s : Array Bool) (a : Act), HeadInv md ops n s →
      (∀ j oj, ops[j]? = some oj → j ≠ i → s.getD j true = false → (∀ e ∈ oj.after, Region.binds md e = true → e.on ≠ i) → oi.apart ops oj = true) →
      i ∈ Region.ready md ops s → YieldsIn P ops C oi v a → headQ P md ops C n L f (s.setIfInBounds i true) (a.put oi.dst v) → headQ P md ops C n L (f + 1) s a := by
  induction f with
  | zero =>
    intro s a inv _ hr hy H
    refine ⟨fun h => (by rw [h] at hr; cases hr), fun j hj => ?_⟩
    have hjn := T.head inv hin (mem_ready.1 hr).1 hj
    by_cases e : j = i
    · subst e; exact ⟨hjn, hy.qOp hi H⟩
    · exact absurd (hdone _ _ H j (ready_mono hj e)) (by omega)
  | succ f ih =>
    intro s a inv hfree hr hy H
    have hun := (mem_ready.1 hr).1
    refine ⟨fun h => (by rw [h] at hr; cases hr), fun j hj => ?_⟩
    have hjn := T.head inv hin hun hj
    by_cases e : j = i
    · subst e; exact ⟨hjn, hy.qOp hi H⟩
    · obtain ⟨hjun, oj, hoj, hall⟩ := mem_ready.1 hj
      have hnot : ∀ d ∈ oj.after, Region.binds md d = true → d.on ≠ i := fun d hd hb he => by
        have h1 := hall d hd hb
        rw [he, getD_both hun] at h1
        cases h1
      have h2 := qOp_put hoj (hfree j oj hoj e hjun hnot) (fun cs b => Region.noSelect_spec T.sel i oi cs b hi) (fun cs b => Region.noSelect_spec T.sel j oj cs b hoj) hy (H.2 j (ready_mono hj e)).2
      refine ⟨hjn, qOp_mono (fun a' h3 => ih _ a' (inv.set hj hjn) (fun k ok hk hki hku hno => hfree k ok hk hki ?_ hno) (ready_mono hr (Ne.symm e)) h3.1 ?_) h2⟩
      · by_cases hjk : j = k
        · subst hjk; exact hjun
        · rw [getD_set_ne true hjk] at hku; exact hku
      · rw [Array.setIfInBounds_comm _ _ e]; exact h3.2
theorem headQ_lex {n g : Nat} {Lq : Act → Prop} (T : Tailed md ops n) : ∀ (l : List Oper) (k : Nat) (s : Array Bool) (a : Act), (∀ j, j < l.length → l[j]? = ops[k + j]?) → k + l.length = n → HeadInv md ops n s →
    Region.lexHead md ops g l.length k s = true → wpQuiet P ops C Lq l a → headQ P md ops C n (fun s' a' => Region.seqB md ops g n s' = true ∧ Lq a') l.length s a := by
  intro l
  induction l with
  | nil =>
    intro k s a _ hk _ hB h
    have e : k = n := by simpa using hk
    subst e
    exact ⟨by simpa [Region.lexHead] using hB, h⟩
  | cons o l ih =>
    intro k s a hl hk inv hB h
    have h0 : ops[k]? = some o := by simpa using (hl 0 (by simp)).symm
    simp only [List.length_cons, Region.lexHead, Bool.and_eq_true] at hB
    obtain ⟨⟨hr, hf⟩, hB'⟩ := hB
    have hkn : k < n := by simp only [List.length_cons] at hk; omega
    have hr' : k ∈ Region.ready md ops s := by simpa using hr
    have hst : qOp P ops C k (wpQuiet P ops C Lq l) a := by unfold qOp; simp only [h0]; exact h
    obtain ⟨v, hy, hK⟩ := yieldsIn_of_qOp h0 hst
    refine headQ_first T h0 hkn (fun s' a' hL => seqB_ready hL.1) l.length s a inv (Region.free_spec h0 hf) hr' hy (ih (k + 1) _ _ (fun j hj => ?_) ?_ (inv.set hr' hkn) hB' hK)
    · have := hl (j + 1) (by simp; omega)
      simpa [Nat.add_assoc, Nat.add_comm 1 j] using this
    · simp only [List.length_cons] at hk; omega
/-- The law: the head in every world of the class, the tail in one. -/
theorem wp_region_tail {id : Nat} {Q : Exit → Act → World → Prop} {a : Act} {w : World} {l : List Oper} (n : Nat) (hm : P.follows .mixedOrders = true) (hB : Region.lexTailB .any l.toArray n = true) (hC : C { w with drawn := w.drawn + 1 })
    (h : wpQuiet P l.toArray C (fun a' => ∀ w', C w' → wpList P l.toArray Q (l.drop n) a' w') (l.take n) a) : (Code.region id l.toArray true).wp P Q a w := by
  simp only [Region.lexTailB, Bool.and_eq_true, decide_eq_true_eq] at hB
  obtain ⟨⟨⟨⟨h1, h2⟩, h3⟩, h4⟩, hlex⟩ := hB
  have hn : n < l.length := by simpa using h2
  have htl : (l.take n).length = n := by simp; omega
  have hdl : (l.drop n).length = l.toArray.size - n := by simp
  have inv0 : HeadInv .any l.toArray n (Array.replicate l.toArray.size false) :=
    ⟨by simp, fun j oj _ hl => (by rw [getD_replicate_false] at hl; cases hl), fun t _ ht => getD_in (by simpa using ht) (getD_replicate_false _ _)⟩
  have H := headQ_lex (md := .any) (g := l.toArray.size - n) ⟨h1, h2, h3, h4⟩ (l.take n) 0 _ a (fun j hj => by
    have hj' : j < n := by rw [htl] at hj; exact hj
    simp [hj']) (by simpa using htl) inv0 (by rw [htl]; exact hlex) h
  have K := headQ_any (R := Q) (g := l.toArray.size - n) (fun s a' w' hw' hL => by
    have := wpAny_of_seq (md := .any) (Q' := Q) (l.drop n) n s a' w' (fun j => by simp [List.getElem?_drop]) (by rw [hdl]; exact hL.1) (hL.2 w' hw')
    rwa [hdl] at this) _ _ _ _ hC H
  rw [htl, show n + (l.toArray.size - n) = l.toArray.size by omega] at K
  exact wp_region_any hm K
end
theorem wp_region_extail {P : Program} {id : Nat} {Q : Exit → Act → World → Prop} {a : Act} {w : World} {l : List Oper} (n : Nat) (hm : P.follows .mixedOrders = true) (hB : Region.lexTailB .any l.toArray n = true)
    (h : wpQuiet P l.toArray (fun w' => ∃ x : Ext w, w' = x.w) (fun a' => ∀ w', (∃ x : Ext w, w' = x.w) → wpList P l.toArray Q (l.drop n) a' w') (l.take n) a) : (Code.region id l.toArray true).wp P Q a w :=
  wp_region_tail n hm hB ⟨⟨_, (Below.refl _ w).drew⟩, rfl⟩ h
end Go.Proofs.Ytcinfkmekkdhfaa
/- Walks of Go's slices: Reverse of bytes in place; Clone, Contains of integers; and of rs.isZero. -/
namespace Go.Proofs.Ytcinfkmekkdhfaa
open Go.RowKit
set_option linter.unusedVariables false

/-- A list after k exchanges from both ends. -/
def rvMid (l : List GF) (k : Nat) : List GF := (List.range l.length).map fun i => if i < k ∨ l.length - 1 - k < i then l.getD (l.length - 1 - i) 0 else l.getD i 0
theorem rvMid_len (l : List GF) (k : Nat) : (rvMid l k).length = l.length := by simp [rvMid]
theorem rvMid_get (l : List GF) (k : Nat) {i : Nat} (hi : i < l.length) : (rvMid l k).getD i 0 = if i < k ∨ l.length - 1 - k < i then l.getD (l.length - 1 - i) 0 else l.getD i 0 := by simp [rvMid, List.getD, hi]
theorem rvMid_zero (l : List GF) : rvMid l 0 = l :=
  list_eq_getD (rvMid_len l 0) fun i hi => by rw [rvMid_len] at hi; rw [rvMid_get _ _ hi, if_neg (by omega)]
theorem getD_set_self {l : List GF} {i : Nat} (h : i < l.length) (x : GF) : (l.set i x).getD i 0 = x := by simp [List.getD, h]
theorem getD_set_other {l : List GF} {i j : Nat} (h : i ≠ j) (x : GF) : (l.set i x).getD j 0 = l.getD j 0 := by simp [List.getD, h]
theorem rvMid_step (l : List GF) {k : Nat} (hk : k < l.length - 1 - k) : ((rvMid l k).set k (l.getD (l.length - 1 - k) 0)).set (l.length - 1 - k) (l.getD k 0) = rvMid l (k + 1) := by
  refine list_eq_getD (by simp [rvMid_len]) fun i hi => ?_
  simp only [List.length_set, rvMid_len] at hi
  rw [rvMid_get _ _ hi]
  by_cases e1 : i = l.length - 1 - k
  · subst e1
    rw [getD_set_self (by rw [List.length_set, rvMid_len]; exact hi), if_pos (by omega)]
    congr 1; omega
  · rw [getD_set_other (Ne.symm e1)]
    by_cases e2 : i = k
    · subst e2
      rw [getD_set_self (by rw [rvMid_len]; exact hi), if_pos (by omega)]
    · rw [getD_set_other (Ne.symm e2), rvMid_get _ _ hi]
      by_cases h : i < k ∨ l.length - 1 - k < i
      · rw [if_pos h, if_pos (by omega)]
      · rw [if_neg h, if_neg (by omega)]
theorem rvMid_end (l : List GF) {k : Nat} (hk : ¬ k < l.length - 1 - k) (hk2 : k ≤ l.length) : rvMid l k = l.reverse := by
  refine list_eq_getD (by simp [rvMid_len]) fun i hi => ?_
  rw [rvMid_len] at hi
  rw [rvMid_get _ _ hi]
  have e : l.reverse.getD i 0 = l.getD (l.length - 1 - i) 0 := by simp [List.getD, List.getElem?_reverse hi]
  rw [e]
  split
  · rfl
  · congr 1; omega
set_option maxRecDepth 100000 in
set_option maxHeartbeats 2000000 in
theorem reverseB_any (g n c B : Nat) (l : List GF) (w : World) (ho : OwB w B (.slice (some ⟨g, 0, none⟩) n c) l) (hn : n ≤ 1000000) :
    Calls Try.prog 40 #[.slice (some ⟨g, 0, none⟩) n c] w fun e w' => (∃ v, e = .returned v) ∧ OwB w' B (.slice (some ⟨g, 0, none⟩) n c) l.reverse ∧ Below B w w' := by
  have hl := ho.rd.2
  subst hl
  have HO := Lib.hid ho
  clear ho
  go_enter Try.func40, Try.ntmps40
  go_wp2
  go_loopw [2, 3] (fun i j wr => ∃ k : Nat, k ≤ l.length ∧ i = .int .i64 k ∧ j = .int .i64 ((l.length : Int) - 1 - k) ∧ OwB wr B (.slice (some ⟨g, 0, none⟩) l.length c) (rvMid l k) ∧ Below B w wr) (fun i _ _ => l.length - (intOf i).toNat)
  case atStart => exact ⟨0, Nat.zero_le _, rfl, by simp, by rw [rvMid_zero]; exact HO.out, Below.refl _ _⟩
  case round =>
    obtain ⟨k, hk, rfl, rfl, ho, hbw⟩ := hrel
    by_cases hlt : k < l.length - 1 - k
    · obtain ⟨j, hj⟩ : ∃ j : Nat, j = l.length - 1 - k := ⟨_, rfl⟩
      have ej : (l.length : Int) - 1 - k = (j : Int) := by omega
      have HJ := Lib.hid (show (l.length : Int) - 1 - ((k + 1 : Nat) : Int) = (j : Int) - 1 by omega)
      rw [ej]
      have c1 := ho.cellAt (i := k) (by omega)
      have c2 := ho.cellAt (i := j) (by omega)
      rw [rvMid_get _ _ (by omega), if_neg (by omega)] at c1
      rw [rvMid_get _ _ (by omega), if_neg (by omega)] at c2
      have f1 := ho.frozenAt k
      have f2 := ho.frozenAt j
      have hst := (ho.set k (l.getD j 0)).set j (l.getD k 0)
      rw [hj, rvMid_step l hlt, ← hj] at hst
      have HST := Lib.hid hst
      have HLT := Lib.hid ho.lt.1
      have hjl : j < l.length := by omega
      have hkl : k < l.length := by omega
      have hkj : k < j := by omega
      generalize l.getD j 0 = y at *
      generalize l.getD k 0 = x at *
      have wk : 0 ≤ (k : Int) ∧ (k : Int) < l.length := by omega
      have wj : 0 ≤ (j : Int) ∧ (j : Int) < l.length := by omega
      clear hst ho ej hj
      go_wp2
      go_region
      all_goals
        go_wp2
        go_roundw
        case rel => exact ⟨k + 1, by omega, by go_num, by rw [HJ.out], HST.out, ((hbw.setCell (p := ⟨g, k, none⟩) HLT.out _).setCell (p := ⟨g, j, none⟩) HLT.out _).drew⟩
        case measure => simp [intOf]; omega
    · rw [rvMid_end l hlt hk] at ho
      have hge : (l.length : Int) - 1 - k ≤ k := by omega
      generalize (l.length : Int) - 1 - k = J at *
      go_wp2
      go_end0
      exact ⟨⟨_, rfl⟩, ho, hbw⟩
/-! ### Integers -/
theorem OwI.nil' (w : World) (B : Nat) : OwI w B (.slice none 0 0) [] := OwI.nil w B
theorem OwI.empty (w : World) (B : Nat) (hB : B ≤ w.heap.size) : OwI (w.alloc (.cells #[] 3)) B (.slice (some ⟨w.heap.size, 0, none⟩) 0 0) [] := World.ownsRow_made w #[] 0 hB (Nat.zero_le _) rfl
theorem run_nilI (w : World) (A : Option Addr) (n c : Nat) : (binOp .eql 40 (.slice A n c) (.slice none 0 0)).run Try.prog w = .ok (.bool A.isNone) w :=
  Lib.run_eql_slice_nil w _ _ A n c 0 0 Try.underlying40
set_option maxHeartbeats 1000000 in
theorem cloneI_any (A : Option Addr) (n c : Nat) (l : List Int) (w : World) (hl : RdI w A n l) (hn : n ≤ 1099511627) :
    Calls Try.prog 69 #[.slice A n c] w fun e w' => ∃ A' c', e = .returned (.slice A' l.length c') ∧ OwI w' w.heap.size (.slice A' l.length c') l ∧ Below w.heap.size w w' := by
  have hq := fun w => run_nilI w A n c
  rcases A with _ | ad
  · have h0 : n = 0 := by
      rcases Nat.eq_zero_or_pos n with h | h
      · exact h
      · obtain ⟨b, off, e, _⟩ := hl.2 h; cases e
    subst h0
    have hz : l = [] := List.eq_nil_of_length_eq_zero hl.1
    subst hz
    go_enter Try.func69, Try.ntmps69
    go_wp2
    go_ret
    exact ⟨none, 0, rfl, OwI.nil _ _, Below.refl _ _⟩
  · have hlen : l.length ≤ 1099511627 := by have := hl.1; omega
    go_enter Try.func69, Try.ntmps69
    go_wp2_with (at_builtin; refine wpList_appI _ rfl (.tmp 5) (.tmp 6) rfl w.heap.size (.slice (some ⟨w.heap.size, 0, none⟩) 0 0) [] rfl (OwI.empty w _ (Nat.le_refl _)) (some ad) n c l rfl (hl.al _) ?_ ?_ ?_; (simp; omega); (simp); intro v1 w1 ho1 hg1 hat1)
    obtain ⟨A1, c1, hv1⟩ := ho1.form
    go_ret
    rw [List.nil_append] at ho1 hv1
    subst hv1
    exact ⟨A1, c1, rfl, ho1, (below_new _ _).trans (grown_below hg1 (OwI.empty w _ (Nat.le_refl _)) (by simp))⟩
theorem rdI_cell {w : World} {A : Option Addr} {n : Nat} {l : List Int} (h : RdI w A n l) {i : Nat} (hi : i < n) : ∃ b off, A = some ⟨b, off, none⟩ ∧ b < w.heap.size ∧ w.cell? ⟨b, off + i, none⟩ = some (.int .i64 (l.getD i 0)) := by
  obtain ⟨b, off, e, hb, hc⟩ := h.2 (by omega)
  exact ⟨b, off, e, hb, hc i hi⟩
theorem memI_at {l : List Int} {x : Int} (h : x ∈ l) : ∃ j, j < l.length ∧ l.getD j 0 = x ∧ ∀ i, i < j → l.getD i 0 ≠ x := by
  induction l with
  | nil => simp at h
  | cons y l ih =>
    by_cases e : y = x
    · exact ⟨0, by simp, by simpa using e, fun i hi => by omega⟩
    · have hx : x ∈ l := by
        rcases List.mem_cons.1 h with h | h
        · exact absurd h.symm e
        · exact h
      obtain ⟨j, h1, h2, h3⟩ := ih hx
      refine ⟨j + 1, by simp; omega, by simpa using h2, fun i hi => ?_⟩
      cases i with
      | zero => simpa using e
      | succ i => simpa using h3 i (by omega)
theorem not_memI_at {l : List Int} {x : Int} (h : x ∉ l) (i : Nat) (hi : i < l.length) : l.getD i 0 ≠ x := by
  intro e; apply h; rw [← e]; simp [List.getD, List.getElem?_eq_getElem hi]
set_option maxHeartbeats 1000000 in
theorem indexI_in (A : Option Addr) (n c : Nat) (l : List Int) (x : Int) (j : Nat) (w : World) (hl : RdI w A n l) (hn : n ≤ 1099511627) (hj : j < n) (hx : l.getD j 0 = x) (hb : ∀ i, i < j → l.getD i 0 ≠ x) :
    Calls Try.prog 47 #[.slice A n c, .int .i64 x] w fun e w' => e = .returned (.int .i64 j) ∧ w = w' := by
  have HL := Lib.hid hl
  have HX := Lib.hid hx
  have HB := Lib.hid hb
  clear hl hx hb
  go_enter Try.func47, Try.ntmps47
  go_wp2
  go_loop [8] (fun i => ∃ k : Nat, k ≤ j ∧ i = .int .i64 k) (fun i => n - (intOf i).toNat)
  case atStart => exact ⟨0, Nat.zero_le _, rfl⟩
  case round =>
    obtain ⟨k, hk, rfl⟩ := hrel
    obtain ⟨b, off, rfl, hlb, hcc⟩ := rdI_cell HL.out (i := k) (by omega)
    by_cases hlt : k < j
    · have z0 : (x == l.getD k 0) = false := by rw [beq_eq_false_iff_ne]; exact fun e => HB.out k hlt e.symm
      generalize l.getD k 0 = y at *
      go_wp2
      go_round
      case rel => exact ⟨k + 1, by omega, by go_num⟩
      case measure => simp [intOf]; omega
    · obtain rfl : k = j := by omega
      have z0 : (x == l.getD k 0) = true := by rw [beq_iff_eq]; exact HX.out.symm
      generalize l.getD k 0 = y at *
      go_wp2
      go_ret
      exact ⟨rfl, rfl⟩
set_option maxHeartbeats 1000000 in
theorem indexI_out (A : Option Addr) (n c : Nat) (l : List Int) (x : Int) (w : World) (hl : RdI w A n l) (hn : n ≤ 1099511627) (hb : ∀ i, i < n → l.getD i 0 ≠ x) :
    Calls Try.prog 47 #[.slice A n c, .int .i64 x] w fun e w' => e = .returned (.int .i64 (-1)) ∧ w = w' := by
  have HL := Lib.hid hl
  have HB := Lib.hid hb
  clear hl hb
  go_enter Try.func47, Try.ntmps47
  go_wp2
  go_loop [8] (fun i => ∃ k : Nat, k ≤ n ∧ i = .int .i64 k) (fun i => n - (intOf i).toNat)
  case atStart => exact ⟨0, Nat.zero_le _, rfl⟩
  case round =>
    obtain ⟨k, hk, rfl⟩ := hrel
    by_cases hlt : k < n
    · obtain ⟨b, off, rfl, hlb, hcc⟩ := rdI_cell HL.out (i := k) (by omega)
      have z0 : (x == l.getD k 0) = false := by rw [beq_eq_false_iff_ne]; exact fun e => HB.out k hlt e.symm
      generalize l.getD k 0 = y at *
      go_wp2
      go_round
      case rel => exact ⟨k + 1, by omega, by go_num⟩
      case measure => simp [intOf]; omega
    · obtain rfl : k = n := by omega
      go_wp2
      go_ret
      exact ⟨rfl, rfl⟩
def hasI (l : List Int) (x : Int) : Bool := decide (x ∈ l)
set_option maxHeartbeats 1000000 in
theorem containsI_any (A : Option Addr) (n c : Nat) (l : List Int) (x : Int) (w : World) (hl : RdI w A n l) (hn : n ≤ 1099511627) :
    Calls Try.prog 31 #[.slice A n c, .int .i64 x] w fun e w' => e = .returned (.bool (hasI l x)) ∧ w = w' := by
  by_cases h : x ∈ l
  · rw [show hasI l x = true from decide_eq_true h]
    obtain ⟨j, h1, h2, h3⟩ := memI_at h
    have HC := Lib.hid (indexI_in A n c l x j w hl hn (by rw [← hl.1]; exact h1) h2 h3)
    clear hl h h2 h3
    go_enter Try.func31, Try.ntmps31
    go_wp2_with (go_at_call 47; refine HC.out.mono ?_; rintro e w' ⟨rfl, rfl⟩)
    go_ret
    exact ⟨rfl, rfl⟩
  · rw [show hasI l x = false from decide_eq_false h]
    have HC := Lib.hid (indexI_out A n c l x w hl hn (fun i hi => not_memI_at h i (by rw [hl.1]; exact hi)))
    clear hl h
    go_enter Try.func31, Try.ntmps31
    go_wp2_with (go_at_call 47; refine HC.out.mono ?_; rintro e w' ⟨rfl, rfl⟩)
    go_ret
    exact ⟨rfl, rfl⟩
/-! ### isZero -/
def zeroB (l : List GF) : Bool := decide (∀ i, i < l.length → l.getD i 0 = 0)
theorem not_zero_at {l : List GF} (h : ¬ ∀ i, i < l.length → l.getD i 0 = 0) : ∃ j, j < l.length ∧ l.getD j 0 ≠ 0 ∧ ∀ i, i < j → l.getD i 0 = 0 := by
  induction l with
  | nil => exact absurd (fun i hi => absurd hi (Nat.not_lt_zero _)) h
  | cons y l ih =>
    by_cases e : y = 0
    · have h2 : ¬ ∀ i, i < l.length → l.getD i 0 = 0 := by
        intro h2
        apply h
        intro i hi
        cases i with
        | zero => simpa using e
        | succ i => simpa using h2 i (by simpa using hi)
      obtain ⟨j, h3, h4, h5⟩ := ih h2
      refine ⟨j + 1, by simp; omega, by simpa using h4, fun i hi => ?_⟩
      cases i with
      | zero => simpa using e
      | succ i => simpa using h5 i (by omega)
    · exact ⟨0, by simp, by simpa using e, fun i hi => by omega⟩
set_option maxHeartbeats 1000000 in
theorem isZero1_any (x : GF) (b : Bool) (w : World) (hb : (x.z != 0) = b) :
    Calls Try.prog 79 #[.int .u8 x.z] w fun e w' => e = .returned (.bool b) ∧ w = w' := by
  go_enter Try.func79, Try.ntmps79
  go_wp2
  go_ret
  exact ⟨rfl, rfl⟩
set_option maxHeartbeats 1000000 in
theorem indexF_in (A : Option Addr) (n c : Nat) (l : List GF) (j : Nat) (w : World) (hl : RdB w A n l) (hn : n ≤ 1099511627) (hj : j < n) (hx : l.getD j 0 ≠ 0) (hb : ∀ i, i < j → l.getD i 0 = 0) :
    Calls Try.prog 83 #[.slice A n c, .func (.func 79) #[] #[]] w fun e w' => e = .returned (.int .i64 j) ∧ w = w' := by
  have HL := Lib.hid hl
  have HX := Lib.hid hx
  have HB := Lib.hid hb
  clear hl hx hb
  go_enter Try.func83, Try.ntmps83
  go_wp2
  go_loop [8] (fun i => ∃ k : Nat, k ≤ j ∧ i = .int .i64 k) (fun i => n - (intOf i).toNat)
  case atStart => exact ⟨0, Nat.zero_le _, rfl⟩
  case round =>
    obtain ⟨k, hk, rfl⟩ := hrel
    obtain ⟨b, off, rfl, hlb, hcc⟩ := rd_cell HL.out (i := k) (by omega)
    by_cases hlt : k < j
    · have z0 : ((cf l k).z != 0) = false := by rw [show cf l k = 0 from HB.out k hlt]; rfl
      have HC := Lib.hid (fun w => isZero1_any (cf l k) false w z0)
      clear z0
      generalize cf l k = y at *
      go_wp2_with (go_at_call 79; refine (HC.out _).mono ?_; rintro e w' ⟨rfl, rfl⟩)
      go_round
      case rel => exact ⟨k + 1, by omega, by go_num⟩
      case measure => simp [intOf]; omega
    · obtain rfl : k = j := by omega
      have z0 : ((cf l k).z != 0) = true := by rw [bne_iff_ne]; exact fun e => HX.out (GF.z_inj.1 e)
      have HC := Lib.hid (fun w => isZero1_any (cf l k) true w z0)
      clear z0
      generalize cf l k = y at *
      go_wp2_with (go_at_call 79; refine (HC.out _).mono ?_; rintro e w' ⟨rfl, rfl⟩)
      go_ret
      exact ⟨rfl, rfl⟩
set_option maxHeartbeats 1000000 in
theorem indexF_out (A : Option Addr) (n c : Nat) (l : List GF) (w : World) (hl : RdB w A n l) (hn : n ≤ 1099511627) (hb : ∀ i, i < n → l.getD i 0 = 0) :
    Calls Try.prog 83 #[.slice A n c, .func (.func 79) #[] #[]] w fun e w' => e = .returned (.int .i64 (-1)) ∧ w = w' := by
  have HL := Lib.hid hl
  have HB := Lib.hid hb
  clear hl hb
  go_enter Try.func83, Try.ntmps83
  go_wp2
  go_loop [8] (fun i => ∃ k : Nat, k ≤ n ∧ i = .int .i64 k) (fun i => n - (intOf i).toNat)
  case atStart => exact ⟨0, Nat.zero_le _, rfl⟩
  case round =>
    obtain ⟨k, hk, rfl⟩ := hrel
    by_cases hlt : k < n
    · obtain ⟨b, off, rfl, hlb, hcc⟩ := rd_cell HL.out (i := k) (by omega)
      have z0 : ((cf l k).z != 0) = false := by rw [show cf l k = 0 from HB.out k hlt]; rfl
      have HC := Lib.hid (fun w => isZero1_any (cf l k) false w z0)
      clear z0
      generalize cf l k = y at *
      go_wp2_with (go_at_call 79; refine (HC.out _).mono ?_; rintro e w' ⟨rfl, rfl⟩)
      go_round
      case rel => exact ⟨k + 1, by omega, by go_num⟩
      case measure => simp [intOf]; omega
    · obtain rfl : k = n := by omega
      go_wp2
      go_ret
      exact ⟨rfl, rfl⟩
set_option maxHeartbeats 1000000 in
theorem isZero_any (A : Option Addr) (n c : Nat) (l : List GF) (w : World) (hl : RdB w A n l) (hn : n ≤ 1099511627) :
    Calls Try.prog 65 #[.slice A n c] w fun e w' => e = .returned (.bool (zeroB l)) ∧ w = w' := by
  by_cases h : ∀ i, i < l.length → l.getD i 0 = 0
  · rw [show zeroB l = true from decide_eq_true h]
    have HC := Lib.hid (indexF_out A n c l w hl hn (fun i hi => h i (by rw [hl.1]; exact hi)))
    have C2 : Calls Try.prog 78 #[.slice A n c, .func (.func 79) #[] #[]] w fun e w' => e = .returned (.bool false) ∧ w = w' := by
      clear hl h
      go_enter Try.func78, Try.ntmps78
      go_wp2_with (go_at_call 83; refine HC.out.mono ?_; rintro e w' ⟨rfl, rfl⟩)
      go_ret
      exact ⟨rfl, rfl⟩
    have H2 := Lib.hid C2
    clear hl h C2
    go_enter Try.func65, Try.ntmps65
    go_wp2_with (go_at_call 78; refine H2.out.mono ?_; rintro e w' ⟨rfl, rfl⟩)
    go_ret
    exact ⟨rfl, rfl⟩
  · rw [show zeroB l = false from decide_eq_false h]
    obtain ⟨j, h1, h2, h3⟩ := not_zero_at h
    have HC := Lib.hid (indexF_in A n c l j w hl hn (by rw [← hl.1]; exact h1) h2 h3)
    have C2 : Calls Try.prog 78 #[.slice A n c, .func (.func 79) #[] #[]] w fun e w' => e = .returned (.bool true) ∧ w = w' := by
      clear hl h h2 h3
      go_enter Try.func78, Try.ntmps78
      go_wp2_with (go_at_call 83; refine HC.out.mono ?_; rintro e w' ⟨rfl, rfl⟩)
      go_ret
      exact ⟨rfl, rfl⟩
    have H2 := Lib.hid C2
    clear hl h h2 h3 C2
    go_enter Try.func65, Try.ntmps65
    go_wp2_with (go_at_call 78; refine H2.out.mono ?_; rintro e w' ⟨rfl, rfl⟩)
    go_ret
    exact ⟨rfl, rfl⟩
end Go.Proofs.Ytcinfkmekkdhfaa
/- Walks of the package rs: fault, syndromes, Syndromes, Check; of the reference: Syndromes, Zero, WordFault, DataFault. -/
namespace Go.Proofs.Ytcinfkmekkdhfaa
open Go.RowKit
set_option linter.unusedVariables false

set_option maxHeartbeats 400000 in
theorem rsFault_any (c i : Int) (w : World) :
    Calls Try.prog 36 #[.int .i64 c, .int .i64 i] w fun e w' => e = .returned (.agg #[.int .i64 c, .int .i64 i]) ∧ w.alloc (.cells #[.int .i64 c, .int .i64 i] 24) = w' := by
  go_enter Try.func36, Try.ntmps36
  go_wp2
  exact bodyPost_ret (v := .agg #[.int .i64 c, .int .i64 i]) (by simp [results, Try.results36, go_sem]) rfl ⟨rfl, rfl⟩
/-- The syndromes. -/
def syndL (l : List GF) (p : Nat) : List GF := (List.range p).map (synd l)
theorem syndL_len (l : List GF) (p : Nat) : (syndL l p).length = p := by simp [syndL]
theorem syndL_get (l : List GF) {p j : Nat} (hj : j < p) : (syndL l p).getD j 0 = synd l j := by simp [syndL, List.getD, hj]
theorem syndL_zero {l : List GF} {p : Nat} : zeroB (syndL l p) = true ↔ isCW p l := by
  unfold zeroB
  rw [decide_eq_true_eq, syndL_len]
  exact ⟨fun h j hj => by rw [← syndL_get l hj]; exact h j hj, fun h j hj => by rw [syndL_get l hj]; exact h j hj⟩
def hw (l : List GF) (x : GF) (k : Nat) : GF := valL (l.take k).reverse x
theorem hw_zero (l : List GF) (x : GF) : hw l x 0 = 0 := by simp [hw, valL]
theorem hw_succ (l : List GF) (x : GF) {k : Nat} (hk : k < l.length) : hw l x (k + 1) = hw l x k * x + cf l k := by
  unfold hw
  rw [trim_take hk, List.reverse_append, List.reverse_singleton]; rfl
theorem hw_full (l : List GF) (j : Nat) : hw l (GF.exp j) l.length = synd l j := by unfold hw synd; rw [List.take_of_length_le (Nat.le_refl _)]
def syIn (l : List GF) (p j k : Nat) : List GF := (List.range p).map fun i => if i < j then synd l i else if i = j then hw l (GF.exp j) k else 0
theorem syIn_len (l : List GF) (p j k : Nat) : (syIn l p j k).length = p := by simp [syIn]
theorem syIn_get (l : List GF) {p i : Nat} (j k : Nat) (hi : i < p) : (syIn l p j k).getD i 0 = if i < j then synd l i else if i = j then hw l (GF.exp j) k else 0 := by simp [syIn, List.getD, hi]
theorem syIn_start (l : List GF) (p : Nat) : syIn l p 0 0 = List.replicate p 0 := by
  refine list_eq_getD (by rw [syIn_len, List.length_replicate]) fun i hi => ?_
  rw [syIn_len] at hi
  rw [syIn_get _ _ _ hi, if_neg (by omega), hw_zero]
  have : (List.replicate p (0 : GF)).getD i 0 = 0 := by simp [List.getD, hi]
  rw [this]; split <;> rfl
theorem syIn_step (l : List GF) {p j : Nat} (k : Nat) (hj : j < p) : (syIn l p j k).set j (hw l (GF.exp j) (k + 1)) = syIn l p j (k + 1) := by
  refine list_eq_getD (by rw [List.length_set, syIn_len, syIn_len]) fun i hi => ?_
  rw [List.length_set, syIn_len] at hi
  rw [syIn_get _ _ _ hi]
  by_cases e : i = j
  · subst e; rw [getD_set_self (by rw [syIn_len]; exact hi), if_neg (by omega), if_pos rfl]
  · rw [getD_set_other (Ne.symm e), syIn_get _ _ _ hi]
    rw [if_neg e, if_neg e]
theorem syIn_next (l : List GF) (p j : Nat) : syIn l p j l.length = syIn l p (j + 1) 0 := by
  refine list_eq_getD (by rw [syIn_len, syIn_len]) fun i hi => ?_
  rw [syIn_len] at hi
  rw [syIn_get _ _ _ hi, syIn_get _ _ _ hi, hw_full, hw_zero]
  by_cases h1 : i < j
  · rw [if_pos h1, if_pos (by omega)]
  · rw [if_neg h1]
    by_cases h2 : i = j
    · rw [if_pos h2, if_pos (by omega), h2]
    · rw [if_neg h2, if_neg (by omega)]; split <;> rfl
theorem syIn_end (l : List GF) (p : Nat) : syIn l p p 0 = syndL l p := by
  refine list_eq_getD (by rw [syIn_len, syndL_len]) fun i hi => ?_
  rw [syIn_len] at hi
  rw [syIn_get _ _ _ hi, if_pos hi, syndL_get l hi]
set_option maxRecDepth 100000 in
set_option maxHeartbeats 2000000 in
theorem syndromes_any (A : Option Addr) (n c p : Nat) (l : List GF) (w : World) (hl : RdB w A n l) (hn : n ≤ 1000000) (hp : p ≤ 1000000) :
    Calls Try.prog 64 #[.slice A n c, .int .i64 p] w fun e w' => ∃ A' c', e = .returned (.slice A' p c') ∧ OwB w' w.heap.size (.slice A' p c') (syndL l p) ∧ Below w.heap.size w w' := by
  have ll := hl.1
  subst ll
  have HL := Lib.hid hl
  have hmk := run_makeB p (by omega)
  have O0 := OwB.new w w.heap.size p (Nat.le_refl _) (by unfold maxLen; omega)
  rw [← syIn_start l p] at O0
  have HO := Lib.hid O0
  have B0 := below_new w (.cells (zerosB p) 5)
  clear hl O0
  go_enter Try.func64, Try.ntmps64
  go_wp2
  generalize w.alloc (.cells (zerosB p) 5) = W at *
  generalize hg : w.heap.size = g at *
  have HG := Lib.hid hg
  clear hmk hg
  go_loopw [14] (fun i wr => ∃ j : Nat, j ≤ p ∧ i = .int .i64 j ∧ OwB wr g (.slice (some ⟨g, 0, none⟩) p p) (syIn l p j 0) ∧ Below g w wr) (fun i _ => p - (intOf i).toNat)
  case atStart => exact ⟨0, Nat.zero_le _, rfl, HO.out, B0⟩
  case round =>
    obtain ⟨j, hj, rfl, ho, hbw⟩ := hrel
    by_cases hlt : j < p
    · have HO := Lib.hid ho
      obtain ⟨wo, rfl⟩ : ∃ wo : World, wo = wr := ⟨_, rfl⟩
      have dj : decide ((j : Int) < p) = true := by simp only [decide_eq_true_eq]; omega
      clear ho
      go_wp2_with (go_at_call 38; refine (gExpZ _ _).mono ?_; rintro e w' ⟨rfl, rfl⟩)
      go_loopw [21] (fun i wr => ∃ k : Nat, k ≤ l.length ∧ i = .int .i64 k ∧ OwB wr g (.slice (some ⟨g, 0, none⟩) p p) (syIn l p j k) ∧ Below g w wr) (fun i _ => l.length - (intOf i).toNat)
      case atStart => exact ⟨0, Nat.zero_le _, rfl, HO.out, hbw⟩
      case round =>
        obtain ⟨k, hk, rfl, ho, hbw2⟩ := hrel
        by_cases hlk : k < l.length
        · obtain ⟨b, off, rfl, hlb, hcc⟩ := rd_cell (HL.out.below (by rw [HG.out]; exact hbw2)) (i := k) hlk
          have hcl := ho.cellAt (i := j) hlt
          rw [syIn_get _ _ _ hlt, if_neg (by omega), if_pos rfl] at hcl
          have hfz := ho.frozenAt j
          have hst := ho.set j (hw l (GF.exp j) (k + 1))
          rw [syIn_step l k hlt, hw_succ l _ hlk] at hst
          have HST := Lib.hid hst
          have HLT := Lib.hid ho.lt.1
          generalize hw l (GF.exp j) k = s at *
          generalize cf l k = y at *
          generalize GF.exp (j : Int) = x at *
          clear ho hst
          go_wp2_with (first
            | (go_at_call 75; refine (gMulZ s x _).mono ?_; rintro e w' ⟨rfl, rfl⟩)
            | (go_at_call 74; refine (gAddZ (s * x) y _).mono ?_; rintro e w' ⟨rfl, rfl⟩))
          go_roundw
          case rel => exact ⟨k + 1, by omega, by go_num, HST.out, hbw2.setCell HLT.out _⟩
          case measure => simp [intOf]; omega
        · obtain rfl : k = l.length := by omega
          rw [syIn_next] at ho
          have HO2 := Lib.hid ho
          clear ho
          go_wp2
          go_roundw
          case rel => first | exact ⟨j + 1, by omega, by go_num, HO2.out, hbw2⟩ | ((repeat apply Exists.intro); exact ⟨⟨j + 1, by omega, by go_num, HO2.out, hbw2⟩, rfl⟩)
          case measure => simp [intOf]; omega
    · obtain rfl : j = p := by omega
      rw [syIn_end] at ho
      go_wp2
      go_ret
      exact ⟨_, _, rfl, by rw [HG.out]; exact ho, by rw [HG.out]; exact hbw⟩
/-- The faults of a word. -/
def wF (n : Nat) (p : Int) : Int × Int := if ¬ (0 ≤ p ∧ p ≤ 32) then (4, -2) else if ¬ (p + 1 ≤ n ∧ n ≤ 255) then (9, -1) else (0, 0)
theorem wF_ok {n p : Nat} (h1 : p ≤ 32) (h2 : p + 1 ≤ n) (h3 : n ≤ 255) : wF n p = (0, 0) := by unfold wF; rw [if_neg (by omega), if_neg (by omega)]
theorem wF_cases (n : Nat) (p : Int) : (∃ q : Nat, p = q ∧ q ≤ 32 ∧ q + 1 ≤ n ∧ n ≤ 255 ∧ wF n p = (0, 0)) ∨ (¬ (0 ≤ p ∧ p ≤ 32) ∧ wF n p = (4, -2)) ∨ ((0 ≤ p ∧ p ≤ 32) ∧ ¬ (p + 1 ≤ n ∧ n ≤ 255) ∧ wF n p = (9, -1)) := by
  by_cases h1 : 0 ≤ p ∧ p ≤ 32
  · by_cases h2 : p + 1 ≤ n ∧ n ≤ 255
    · obtain ⟨q, rfl⟩ := Int.eq_ofNat_of_zero_le h1.1
      exact .inl ⟨q, rfl, by omega, by omega, by omega, wF_ok (by omega) (by omega) (by omega)⟩
    · exact .inr (.inr ⟨h1, h2, by unfold wF; rw [if_neg (by omega), if_pos h2]⟩)
  · exact .inr (.inl ⟨h1, by unfold wF; rw [if_pos h1]⟩)
set_option maxHeartbeats 1000000 in
theorem Syndromes_ok (A : Option Addr) (n c p : Nat) (l : List GF) (w : World) (hl : RdB w A n l) (h1 : p ≤ 32) (h2 : p + 1 ≤ n) (h3 : n ≤ 255) :
    Calls Try.prog 48 #[.slice A n c, .int .i64 p] w fun e w' => ∃ A' c', e = .returned (.tuple #[.slice A' p c', .agg #[.int .i64 0, .int .i64 0]]) ∧ OwB w' w.heap.size (.slice A' p c') (syndL l p) ∧ Below w.heap.size w w' := by
  have HL := Lib.hid hl
  have d1 : decide ((p : Int) < 0) = false := by simp only [decide_eq_false_iff_not]; omega
  have d2 : decide ((n : Int) < (p : Int) + 1) = false := by simp only [decide_eq_false_iff_not]; omega
  clear hl
  go_enter Try.func48, Try.ntmps48
  go_wp2_with fail
  refine (syndromes_any _ _ _ _ _ _ (HL.out.al _) (by omega) (by omega)).mono ?_
  rintro e w1 ⟨A1, c1, rfl, ho1, hb1⟩
  have F0 := (Has.new w 0 0 24).below hb1
  have B1 := Bw.step (below_new w (.cells #[.int .i64 0, .int .i64 0] 24)) hb1
  rw [World.size_alloc] at ho1
  obtain ⟨l0, c00, c01, f00, f01⟩ := id F0
  go_wp2
  exact bodyPost_ret (resF2 rfl rfl (F0.set2 0 0)) rfl ⟨A1, c1, rfl, own_base ((ho1.low (p := ⟨w.heap.size, 0, none⟩) (Nat.lt_succ_self _) _).low (p := ⟨w.heap.size, 1, none⟩) (Nat.lt_succ_self _) _) (Nat.le_succ _), Bw.set (Bw.set B1 (Nat.le_refl _) _) (Nat.le_refl _) _⟩
set_option maxHeartbeats 1000000 in
theorem Syndromes_bad (A : Option Addr) (n c : Nat) (p : Int) (w : World) (hn : n ≤ 9223372036854775807) (hp : -9223372036854775808 ≤ p ∧ p ≤ 9223372036854775807) (hbad : wF n p ≠ (0, 0)) :
    Calls Try.prog 48 #[.slice A n c, .int .i64 p] w fun e w' => e = .returned (.tuple #[.slice none 0 0, .agg #[.int .i64 (wF n p).1, .int .i64 (wF n p).2]]) ∧ Below w.heap.size w w' := by
  rcases wF_cases n p with ⟨q, _, _, _, _, h⟩ | ⟨h1, h⟩ | ⟨h1, h2, h⟩
  · exact absurd h hbad
  · rw [h]
    clear h hbad
    rcases Int.lt_or_le p 0 with h | h
    all_goals
      first
        | (have d1 : decide (p < 0) = true := by simp only [decide_eq_true_eq]; omega)
        | (have d1 : decide (p < 0) = false := by simp only [decide_eq_false_iff_not]; omega
           have d2 : 32 < p := by omega)
      go_enter Try.func48, Try.ntmps48
      go_wp2_with fail
      refine (rsFault_any _ _ _).mono ?_; rintro e w1 ⟨rfl, rfl⟩
      have F1 := (Has.new w 0 0 24).al (.cells #[.int .i64 4, .int .i64 (-2)] 24)
      have B1 := Bw.al (below_new w (.cells #[.int .i64 0, .int .i64 0] 24)) (.cells #[.int .i64 4, .int .i64 (-2)] 24)
      obtain ⟨l0, c00, c01, f00, f01⟩ := id F1
      go_wp2
      exact bodyPost_ret (resF2 rfl rfl ((Has.new w 4 (-2) _).al _)) rfl ⟨rfl, Bw.al (below_new w _) _⟩
  · rw [h]
    clear h hbad
    have d1 : decide (p < 0) = false := by simp only [decide_eq_false_iff_not]; omega
    rcases Int.lt_or_le (n : Int) (p + 1) with h | h
    all_goals
      first
        | (have d2 : decide ((n : Int) < p + 1) = true := by simp only [decide_eq_true_eq]; omega)
        | (have d2 : decide ((n : Int) < p + 1) = false := by simp only [decide_eq_false_iff_not]; omega
           have d3 : 255 < n := by omega)
      go_enter Try.func48, Try.ntmps48
      go_wp2_with fail
      refine (rsFault_any _ _ _).mono ?_; rintro e w1 ⟨rfl, rfl⟩
      have F1 := (Has.new w 0 0 24).al (.cells #[.int .i64 9, .int .i64 (-1)] 24)
      have B1 := Bw.al (below_new w (.cells #[.int .i64 0, .int .i64 0] 24)) (.cells #[.int .i64 9, .int .i64 (-1)] 24)
      obtain ⟨l0, c00, c01, f00, f01⟩ := id F1
      go_wp2
      exact bodyPost_ret (resF2 rfl rfl ((Has.new w 9 (-1) _).al _)) rfl ⟨rfl, Bw.al (below_new w _) _⟩
end Go.Proofs.Ytcinfkmekkdhfaa
/- Walks of rs.Check, and of the reference's Syndromes, Zero, WordFault, DataFault, Increasing, Has. -/
namespace Go.Proofs.Ytcinfkmekkdhfaa
open Go.RowKit
set_option linter.unusedVariables false

def cwB (p : Nat) (l : List GF) : Bool := zeroB (syndL l p)
theorem cwB_iff {p : Nat} {l : List GF} : cwB p l = true ↔ isCW p l := syndL_zero
/-! ### The reference -/
theorem synd_take (l : List GF) (x : GF) {t : Nat} (ht : t < l.length) : valL (l.reverse.take (t + 1)) x = valL (l.reverse.take t) x + l.getD (l.length - 1 - t) 0 * gpow x t := by
  rw [valL_take l.reverse x (by rw [List.length_reverse]; exact ht), rev_get l ht]
def synUp (l : List GF) (k : Nat) : List GF := (List.range k).map (synd l)
theorem synUp_succ (l : List GF) (k : Nat) : synUp l (k + 1) = synUp l k ++ [synd l k] := by simp [synUp, List.range_succ]
theorem synUp_len (l : List GF) (k : Nat) : (synUp l k).length = k := by simp [synUp]
set_option maxRecDepth 100000 in
set_option maxHeartbeats 2000000 in
theorem rSyndromes_any (A : Option Addr) (n c p : Nat) (l : List GF) (w : World) (hl : RdB w A n l) (hn : n ≤ 1000000) (hp : p ≤ 1000000) :
    Calls Try.prog 44 #[.slice A n c, .int .i64 p] w fun e w' => ∃ A' c', e = .returned (.slice A' p c') ∧ OwB w' w.heap.size (.slice A' p c') (syndL l p) ∧ Below w.heap.size w w' := by
  have ll := hl.1
  subst ll
  have HL := Lib.hid hl
  clear hl
  go_enter Try.func44, Try.ntmps44
  go_wp2
  go_loopw [5, 6] (fun v i wr => ∃ j : Nat, j ≤ p ∧ i = .int .i64 j ∧ OwB wr w.heap.size v (synUp l j) ∧ Below w.heap.size w wr) (fun _ i _ => p - (intOf i).toNat)
  case atStart => exact ⟨0, Nat.zero_le _, rfl, OwB.nil _ _, Below.refl _ _⟩
  case round =>
    obtain ⟨j, hj, rfl, ho, hbw⟩ := hrel
    by_cases hlt : j < p
    · have hsl := synUp_len l j
      have HS := Lib.hid (synUp_succ l j)
      have hsz := hbw.size
      have HO := Lib.hid ho
      have RL := Lib.hid (HL.out.below hbw)
      have dj : decide ((j : Int) < p) = true := by simp only [decide_eq_true_eq]; omega
      have HE := Lib.hid (show valL (l.reverse.take l.length) (GF.exp j) = synd l j by unfold synd; rw [List.take_of_length_le (by rw [List.length_reverse]; exact Nat.le_refl _)])
      generalize synUp l j = L at *
      generalize hx : GF.exp (j : Int) = x at *
      have HX := Lib.hid hx
      clear ho
      go_wp2_with (go_at_call 51; refine (rExpZ _ _).mono ?_; rw [HX.out]; rintro e w' ⟨rfl, rfl⟩)
      clear hx
      go_loop [7, 9, 10] (fun s q i => ∃ t : Nat, t ≤ l.length ∧ i = .int .i64 ((l.length : Int) - 1 - t) ∧ s = .int .u8 (valL (l.reverse.take t) x).z ∧ q = .int .u8 (gpow x t).z) (fun _ _ i => (intOf i + 1).toNat)
      case atStart => exact ⟨0, Nat.zero_le _, by simp, rfl, rfl⟩
      case round =>
        obtain ⟨t, ht, rfl, rfl, rfl⟩ := hrel
        by_cases hlk : t < l.length
        · obtain ⟨m, hm⟩ : ∃ m : Nat, m = l.length - 1 - t := ⟨_, rfl⟩
          have em : (l.length : Int) - 1 - t = (m : Int) := by omega
          have HM := Lib.hid (show (l.length : Int) - 1 - ((t + 1 : Nat) : Int) = (m : Int) - 1 by omega)
          obtain ⟨b, off, rfl, hlb, hcc⟩ := rd_cell RL.out (i := m) (by omega)
          have HV := Lib.hid (synd_take l x hlk)
          rw [← hm] at HV
          rw [em]
          have xz := xorZ (valL (l.reverse.take t) x) (cf l m * gpow x t)
          have HG := Lib.hid (show gpow x (t + 1) = gpow x t * x from rfl)
          have HCF := Lib.hid (show cf l m = l.getD m 0 from rfl)
          generalize valL (l.reverse.take t) x = s at *
          generalize gpow x t = pw at *
          have hml : m < l.length := by omega
          clear em hm
          go_wp2_with (first
            | (go_at_call 63; (with_reducible refine (rMulZ (cf l m) pw _).mono ?_); rintro e w' ⟨rfl, rfl⟩)
            | (go_at_call 63; (with_reducible refine (rMulZ pw x _).mono ?_); rintro e w' ⟨rfl, rfl⟩))
          go_round
          case rel => first | exact ⟨t + 1, by omega, by rw [HM.out], by (rw [HV.out, ← HCF.out]), by rw [HG.out]⟩ | ((repeat apply Exists.intro); exact ⟨⟨t + 1, by omega, by rw [HM.out], by (rw [HV.out, ← HCF.out]), by rw [HG.out]⟩, rfl⟩)
          case measure => simp [intOf]
        · obtain rfl : t = l.length := by omega
          rw [show (l.length : Int) - 1 - l.length = -1 by omega, HE.out]
          generalize gpow x l.length = pw at *
          go_wp2_with (at_builtin; refine wpList_app1 wr rfl (.tmp 36) (.tmp 38) rfl w.heap.size _ L HO.out rfl (synd l j) _ rfl (by omega) hsz ?_; intro v1 w1 ho1 hb1)
          have hb2 := hbw.trans hb1
          go_wp2
          go_roundw
          case rel => first | exact ⟨j + 1, by omega, by go_num, by (rw [HS.out]; exact ho1), hb2⟩ | ((repeat apply Exists.intro); exact ⟨⟨j + 1, by omega, by go_num, by (rw [HS.out]; exact ho1), hb2⟩, rfl⟩)
          case measure => simp [intOf]; omega
    · obtain rfl : j = p := by omega
      obtain ⟨A1, c1, rfl⟩ := ho.form
      rw [synUp_len] at ho ⊢
      go_wp2
      go_ret
      exact ⟨A1, c1, rfl, ho, hbw⟩
end Go.Proofs.Ytcinfkmekkdhfaa
/- Reed-Solomon codes: plain laws of encoding. -/
namespace Go.Proofs.Ytcinfkmekkdhfaa
open Go.RowKit
set_option linter.unusedVariables false

/-- The polynomial with the first powers of the generator as its roots. -/
def genP : Nat → List GF
  | 0 => [1]
  | p + 1 => prodP (genP p) [GF.exp p, 1]
theorem Tr_genP (p : Nat) : Tr (genP p) := by
  cases p with
  | zero => exact .inr GF.one_ne
  | succ p => exact Tr_ofF _ _
theorem genP_top (p : Nat) : (genP p).length = p + 1 ∧ cf (genP p) p = 1 := by
  induction p with
  | zero => exact ⟨rfl, rfl⟩
  | succ p ih =>
    have hd := degB_cf (genP p)
    rw [ih.1] at hd
    have h1 := cv_top (m := p) (n := 1) hd (degB_cf [GF.exp p, 1])
    rw [ih.2, show cf [GF.exp p, 1] 1 = 1 from rfl, GF.mul_one] at h1
    have h2 : cf (genP (p + 1)) (p + 1) = 1 := by show cf (prodP _ _) (p + 1) = 1; rw [cf_prodP]; exact h1
    refine ⟨?_, h2⟩
    have h3 : degB (p + 1 + 1) (cf (genP (p + 1))) := by show degB _ (cf (prodP _ _)); rw [cf_prodP]; exact degB_cv (m := p) (n := 1) hd (degB_cf [GF.exp p, 1])
    have h4 := Tr_len (Tr_genP (p + 1)) h3
    rcases Nat.lt_or_ge (p + 1) (genP (p + 1)).length with h5 | h5
    · omega
    · rw [degB_cf (genP (p + 1)) (p + 1) h5] at h2
      exact absurd h2.symm GF.one_ne
theorem genP_root {p j : Nat} (hj : j < p) : valL (genP p) (GF.exp j) = 0 := by
  induction p with
  | zero => omega
  | succ p ih =>
    show valL (prodP _ _) _ = 0
    rw [valL_prod, valL_lin]
    by_cases e : j = p
    · subst e; rw [GF.add_self, GF.mul_zero]
    · rw [ih (by omega), GF.zero_mul]
theorem genP_ne (p : Nat) : genP p ≠ [] := by
  intro h
  have := (genP_top p).1
  rw [h] at this
  simp at this
/-- The word of data. -/
def IsEnc (data : List GF) (p : Nat) (wd : List GF) : Prop := wd.length = data.length + p ∧ wd.take data.length = data ∧ isCW p wd
theorem take_getD {a b : List GF} {n : Nat} (h : a.take n = b) (hb : b.length = n) {i : Nat} (hi : i < n) : a.getD i 0 = b.getD i 0 := by
  subst h
  simp [List.getD, hi]
theorem IsEnc_unique {data a b : List GF} {p : Nat} (hn : data.length + p ≤ 255) (ha : IsEnc data p a) (hb : IsEnc data p b) : a = b := by
  refine cw_unique (ha.1.trans hb.1.symm) (by rw [ha.1]; exact hn) ha.2.2 hb.2.2 ((List.range p).map fun i => data.length + i) ?_ ?_ ?_ ?_
  · unfold List.Nodup
    rw [List.pairwise_map]
    exact List.Pairwise.imp (fun h e => h (by omega)) List.nodup_range
  · intro i hi
    obtain ⟨k, hk, rfl⟩ := List.mem_map.1 hi
    have := List.mem_range.1 hk
    rw [ha.1]; omega
  · simp
  · intro i hi hik
    have hid : i < data.length := by
      rcases Nat.lt_or_ge i data.length with h | h
      · exact h
      · exact absurd (List.mem_map.2 ⟨i - data.length, List.mem_range.2 (by rw [ha.1] at hi; omega), by omega⟩) hik
    rw [take_getD ha.2.1 rfl hid, take_getD hb.2.1 rfl hid]
def encMid (data r : List GF) (p k : Nat) : List GF := data ++ (List.range p).map fun i => if p - 1 - i < k then cf r (p - 1 - i) else 0
def encOf (data r : List GF) (p : Nat) : List GF := data ++ (List.range p).map fun i => cf r (p - 1 - i)
theorem encMid_len (data r : List GF) (p k : Nat) : (encMid data r p k).length = data.length + p := by simp [encMid]
theorem encOf_len (data r : List GF) (p : Nat) : (encOf data r p).length = data.length + p := by simp [encOf]
theorem app_get {data : List GF} {p : Nat} (f : Nat → GF) {i : Nat} (hi : i < data.length + p) : (data ++ (List.range p).map f).getD i 0 = if i < data.length then data.getD i 0 else f (i - data.length) := by
  by_cases h : i < data.length
  · rw [if_pos h]; simp [List.getD, List.getElem?_append, h]
  · rw [if_neg h]
    have h2 : i - data.length < p := by omega
    simp [List.getD, List.getElem?_append, h, h2]
theorem encMid_zero (data r : List GF) (p : Nat) : encMid data r p 0 = data ++ List.replicate p 0 := by
  unfold encMid
  congr 1
  refine list_eq_getD (by simp) fun i hi => ?_
  have hi : i < p := by simpa using hi
  simp [List.getD, hi]
theorem encMid_step (data r : List GF) {p k : Nat} (hk : k < p) : (encMid data r p k).set (data.length + p - 1 - k) (cf r k) = encMid data r p (k + 1) := by
  refine list_eq_getD (by rw [List.length_set, encMid_len, encMid_len]) fun i hi => ?_
  rw [List.length_set, encMid_len] at hi
  unfold encMid
  rw [app_get _ hi]
  by_cases e : i = data.length + p - 1 - k
  · subst e
    rw [getD_set_self (by simp; omega), if_neg (by omega), if_pos (by omega)]
    congr 1; omega
  · rw [getD_set_other (Ne.symm e), app_get _ hi]
    by_cases h : i < data.length
    · rw [if_pos h, if_pos h]
    · rw [if_neg h, if_neg h]
      by_cases h2 : p - 1 - (i - data.length) < k
      · rw [if_pos h2, if_pos (by omega)]
      · rw [if_neg h2, if_neg (by omega)]
theorem encMid_end (data r : List GF) (p : Nat) : encMid data r p r.length = encOf data r p := by
  unfold encMid encOf
  congr 1
  apply List.map_congr_left
  intro i _
  split
  · rfl
  · rename_i h; exact (degB_cf r _ (by omega)).symm
theorem rev_cf_enc (data r : List GF) (p : Nat) (hr : r.length ≤ p) : cf (encOf data r p).reverse = padd (cf (data ++ List.replicate p 0).reverse) (cf r) := by
  funext i
  by_cases hi : i < data.length + p
  · rw [rev_get _ (by rw [encOf_len]; exact hi), encOf_len]
    unfold encOf
    rw [app_get _ (by omega)]
    show _ = cf (data ++ List.replicate p 0).reverse i + cf r i
    rw [rev_get _ (by simp; exact hi)]
    have e : (data ++ List.replicate p (0 : GF)).getD ((data ++ List.replicate p (0 : GF)).length - 1 - i) 0 = if data.length + p - 1 - i < data.length then data.getD (data.length + p - 1 - i) 0 else 0 := by
      rw [List.length_append, List.length_replicate]
      by_cases h : data.length + p - 1 - i < data.length
      · rw [if_pos h]; simp [List.getD, List.getElem?_append, h]
      · rw [if_neg h]
        have h2 : data.length + p - 1 - i - data.length < p := by omega
        simp [List.getD, List.getElem?_append, h, h2]
    rw [e]
    by_cases h : data.length + p - 1 - i < data.length
    · rw [if_pos h, if_pos h, degB_cf r i (by omega), GF.add_zero]
    · rw [if_neg h, if_neg h, GF.zero_add]
      congr 1; omega
  · rw [degB_cf _ i (by rw [List.length_reverse, encOf_len]; omega)]
    show 0 = cf (data ++ List.replicate p 0).reverse i + cf r i
    rw [degB_cf _ i (by simp; omega), degB_cf r i (by omega), GF.add_zero]
theorem encOf_cw {data q r : List GF} {p : Nat} (h : Div (data ++ List.replicate p 0).reverse (genP p) q r) : IsEnc data p (encOf data r p) := by
  obtain ⟨h1, h2, h3, h4⟩ := h
  rw [(genP_top p).1] at h3
  refine ⟨encOf_len _ _ _, by simp [encOf], fun j hj => ?_⟩
  have e : cf (encOf data r p).reverse = cv (cf q) (cf (genP p)) := by
    rw [rev_cf_enc data r p (by omega)]
    funext i
    show cf (data ++ List.replicate p 0).reverse i + cf r i = _
    rw [h4 i, GF.add_assoc, GF.add_self, GF.add_zero]
  unfold synd
  rw [valL_of _ e (degB_cv' (degB_cf q) (degB_cf (genP p))), vH_cv _ (degB_cf q) (degB_cf (genP p)) (Nat.le_refl _), ← valL_vH, ← valL_vH, genP_root hj, GF.mul_zero]
/-- The fault of data. -/
def dF (n : Nat) (p : Int) : Int × Int := if ¬ (0 ≤ p ∧ p ≤ 32) then (4, -2) else if ¬ (1 ≤ (n : Int) ∧ n ≤ 255 - p) then (9, -1) else (0, 0)
theorem dF_cases (n : Nat) (p : Int) : (∃ q : Nat, p = q ∧ q ≤ 32 ∧ 1 ≤ n ∧ n + q ≤ 255 ∧ dF n p = (0, 0)) ∨ (¬ (0 ≤ p ∧ p ≤ 32) ∧ dF n p = (4, -2)) ∨ ((0 ≤ p ∧ p ≤ 32) ∧ ¬ (1 ≤ (n : Int) ∧ n ≤ 255 - p) ∧ dF n p = (9, -1)) := by
  by_cases h1 : 0 ≤ p ∧ p ≤ 32
  · by_cases h2 : 1 ≤ (n : Int) ∧ n ≤ 255 - p
    · obtain ⟨q, rfl⟩ := Int.eq_ofNat_of_zero_le h1.1
      exact .inl ⟨q, rfl, by omega, by omega, by omega, by unfold dF; rw [if_neg (by omega), if_neg (by omega)]⟩
    · exact .inr (.inr ⟨h1, h2, by unfold dF; rw [if_neg (by omega), if_pos h2]⟩)
  · exact .inr (.inl ⟨h1, by unfold dF; rw [if_pos h1]⟩)
end Go.Proofs.Ytcinfkmekkdhfaa
/- Walk of rs.Encode. -/
namespace Go.Proofs.Ytcinfkmekkdhfaa
open Go.RowKit
set_option linter.unusedVariables false

theorem Tr_trim_self {a : List GF} (h : Tr a) : trimL a = a := Tr_ext (Tr_trim a) h (cf_trim a)
theorem prodP_le (a b : List GF) : (prodP a b).length ≤ a.length + b.length := by
  have := trim_len_le ((List.range (a.length + b.length)).map (cv (cf a) (cf b)))
  rw [List.length_map, List.length_range] at this
  exact this
theorem OwB.under {w w' : World} {B : Nat} {v : Value} {l : List GF} {B' : Nat} (h : OwB w B v l) (hb : Below B' w w') (hlt : ∀ g n c, v = .slice (some ⟨g, 0, none⟩) n c → g < B') : OwB w' B v l := by
  refine ⟨h.1, ?_⟩
  rcases h.2 with h' | ⟨g, cap, cur, hv, hB, hh, hn⟩
  · exact .inl h'
  · exact .inr ⟨g, cap, cur, hv, hB, (hb.block g (hlt g _ _ hv)).trans hh, hn⟩
theorem RdB.under {w w' : World} {A : Option Addr} {n B : Nat} {l : List GF} (h : RdB w A n l) (hb : Below B w w') (hB : ∀ b o, A = some ⟨b, o, none⟩ → b < B) : RdB w' A n l :=
  ⟨h.1, fun hn => by
    obtain ⟨b, off, e, hlt, hc⟩ := h.2 hn
    have := hB b off e
    exact ⟨b, off, e, Nat.lt_of_lt_of_le hlt hb.size, fun i hi => (hb.cell (p := ⟨b, off + i, none⟩) this).trans (hc i hi)⟩⟩
theorem RdB.old {w w' W : World} {A : Option Addr} {n : Nat} {l : List GF} (h : RdB w A n l) (h1 : Below w.heap.size w W) (h2 : Below W.heap.size W w') : RdB w' A n l := h.below (Bw.step h1 h2)
set_option maxRecDepth 100000 in
set_option maxHeartbeats 4000000 in
theorem Encode_ok (A : Option Addr) (n c p : Nat) (data : List GF) (w : World) (hl : RdB w A n data) (h1 : p ≤ 32) (h2 : 1 ≤ n) (h3 : n + p ≤ 255) :
    Calls Try.prog 25 #[.slice A n c, .int .i64 p] w fun e w' => ∃ A' c' wd, e = .returned (.tuple #[.slice A' (List.length wd) c', .agg #[.int .i64 0, .int .i64 0]]) ∧ OwB w' w.heap.size (.slice A' (List.length wd) c') wd ∧ IsEnc data p wd ∧ Below w.heap.size w w' := by
  have ll := hl.1
  subst ll
  have HL := Lib.hid hl
  have d1 : decide ((p : Int) < 0) = false := by simp only [decide_eq_false_iff_not]; omega
  have d2 : ((data.length : Int) == 0) = false := by rw [beq_eq_false_iff_ne]; omega
  have d3 : ¬ (255 - (p : Int) < data.length) := by omega
  have hmk := run_makeB p (by omega)
  have F0 := Has.new w 0 0 24
  have B0 := below_new w (.cells #[.int .i64 0, .int .i64 0] 24)
  clear hl
  go_enter Try.func25, Try.ntmps25
  go_wp2
  clear d1 d2 d3
  have RG := RdB.l1 (w.alloc (.cells #[.int .i64 0, .int .i64 0] 24)) (w.heap.size + 1) 1 1 5 (by simp) rfl
  have hs0 : w.heap.size + 1 ≤ (w.alloc (.cells #[.int .i64 0, .int .i64 0] 24)).heap.size := by simp
  generalize w.alloc (.cells #[.int .i64 0, .int .i64 0] 24) = W0 at *
  have BG := below_new W0 (.cells #[.int .u8 1] 5)
  go_loopw [6, 35] (fun u i wr => ∃ (k : Nat) (A : Option Addr) (c : Nat), k ≤ p ∧ u = .slice A (genP k).length c ∧ (genP k).length ≤ c ∧ i = .int .i64 k ∧ RdB wr A (genP k).length (genP k) ∧ Below W0.heap.size W0 wr) (fun _ i _ => p - (intOf i).toNat)
  case atStart => exact ⟨0, _, 1, Nat.zero_le _, rfl, Nat.le_refl _, rfl, RG, BG⟩
  case round =>
    obtain ⟨k, A1, c1, hk, rfl, hc1, rfl, R1, hb1⟩ := hrel
    have hgl := (genP_top k).1
    by_cases hlt : k < p
    · have HM := Lib.hid (fun (w : World) A2 (h1 : RdB w A1 (genP k).length (genP k)) (h2 : RdB w A2 2 [GF.exp k, 1]) => poMulP_ok A1 A2 (genP k).length 2 c1 2 (genP k) [GF.exp k, 1] w h1 h2 (by omega) (by omega))
      rw [show prodP (genP k) [GF.exp k, 1] = genP (k + 1) from rfl] at HM
      have HGL := Lib.hid hgl
      clear hgl
      have HX := Lib.hid (fun w => gExpZ (k : Int) w)
      generalize GF.exp (k : Int) = x at *
      go_wp2_with fail
      refine (HX.out _).mono ?_; rintro e w2 ⟨rfl, rfl⟩
      go_wp2_with fail
      refine (HM.out _ _ (R1.al _) (RdB.l2 _ _ x.z 1 x 1 _ rfl ⟨rfl, rfl⟩)).mono ?_
      rintro e w2 ⟨A2, c2, rfl, ho2, hb2⟩
      have R2 := ho2.rd.1
      have C2 := ho2.cap.1
      have hb3 := Bw.step (Bw.al hb1 _) hb2
      clear ho2
      go_wp2
      go_roundw
      case rel => exact ⟨k + 1, A2, c2, by omega, rfl, C2, by go_num, R2, hb3⟩
      case measure => simp [intOf]; omega
    · obtain rfl : k = p := by omega
      have BW := Bw.step B0 hb1
      have F1 := F0.below hb1
      have RL := HL.out.below BW
      have hsz1 := hb1.size
      have Z1 := (OwB.new wr wr.heap.size k (Nat.le_refl _) (by unfold maxLen; omega)).rd.1
      have HGL := Lib.hid hgl
      have HTG := Lib.hid (Tr_trim_self (Tr_genP k))
      have HGN := Lib.hid (genP_ne k)
      have hgk : (genP k).length ≤ 512 := by omega
      clear hgl RG BG
      go_wp2_with fail
      refine (concat2_any _ _ A _ data.length k c k data (List.replicate k 0) _ (TwoAt.mk' _ _ A _ data.length k c k _ (by simp)) ((RL.al _).al _) (Z1.al _) (by omega) (by omega)).mono ?_
      rintro e w2 ⟨A2, c2, rfl, ho2, hb2⟩
      have hN : (data ++ List.replicate k (0 : GF)).length = data.length + k := by simp
      generalize hNN : (data ++ List.replicate k (0 : GF)).length = N at *
      have hN2 : N ≤ 255 := by omega
      have hN3 : 1 ≤ N := by omega
      have HN := Lib.hid hN
      clear hN hNN
      obtain ⟨g, rfl⟩ := ho2.head (by omega)
      go_wp2_with fail
      refine (reverseB_any g N c2 _ _ _ ho2 (by omega)).mono ?_
      rintro e w3 ⟨⟨v3, rfl⟩, ho3, hb3⟩
      have hb23 := hb2.trans hb3
      have BW3 := Bw.step (Bw.al (Bw.al BW _) _) hb23
      have F3 := ((F1.al _).al _).below hb23
      have RL3 := ((RL.al _).al _).below hb23
      have RG3 := ((R1.al _).al _).below hb23
      have C3 := ho3.cap.1
      have RD := ho3.rd.1
      clear ho2 ho3 hb2 hb3 hb23 F1 RL
      have HDV := Lib.hid (poDivideP_ok (some ⟨g, 0, none⟩) A1 N (genP k).length c2 c1 _ (genP k) w3 RD RG3 (by omega) hgk C3 hc1 (by rw [HTG.out]; exact HGN.out))
      rw [HTG.out] at HDV
      clear RD RG3
      go_wp2_with fail
      refine HDV.out.mono ?_
      rintro e w4 ⟨A4, c4, A5, c5, q, r, rfl, ho4, ho5, hdv, hb4⟩
      have hrl : r.length ≤ k := by
        have := hdv.2.2.1
        rw [(genP_top k).1] at this
        omega
      have HE := Lib.hid (encOf_cw hdv)
      have BW4 := Bw.step BW3 hb4
      have F4 := F3.below hb4
      have RL4 := RL3.below hb4
      have R5 := ho5.rd.1
      have FD := Has.new w4 0 0 24
      have F5 := F4.al (.cells #[.int .i64 0, .int .i64 0] 24)
      have BW5 := Bw.al BW4 (.cells #[.int .i64 0, .int .i64 0] 24)
      have RL5 := RL4.al (.cells #[.int .i64 0, .int .i64 0] 24)
      have R6 := R5.al (.cells #[.int .i64 0, .int .i64 0] 24)
      clear ho4 ho5 hdv F3 F4 RL3 RL4 R5 BW3 BW4 hb4
      have Z5 := (OwB.new (w4.alloc (.cells #[.int .i64 0, .int .i64 0] 24)) (w4.alloc (.cells #[.int .i64 0, .int .i64 0] 24)).heap.size k (Nat.le_refl _) (by unfold maxLen; omega)).rd.1
      rw [World.size_alloc] at Z5
      obtain ⟨lD, cD0, cD1, fD0, fD1⟩ := id FD
      go_wp2_with fail
      refine (concat2_any _ _ A _ data.length k c k data (List.replicate k 0) _ (TwoAt.mk' _ _ A _ data.length k c k _ (by simp)) ((RL5.al _).al _) (Z5.al _) (by omega) (by omega)).mono ?_
      rintro e w6 ⟨A6, c6, rfl, ho6, hb6⟩
      have hNx : (data ++ List.replicate k (0 : GF)).length = N := by rw [HN.out]; simp
      rw [hNx] at ho6 ⊢
      clear hNx lD cD0 cD1 fD0 fD1 FD Z5
      obtain ⟨g6, rfl⟩ := ho6.head (by omega)
      have F7 := (F5.al (.cells (zerosB k) 5)).al (.cells #[.slice A data.length c, .slice (some ⟨w4.heap.size + 1, 0, none⟩) k k] 41)
      have R7 := (R6.al (.cells (zerosB k) 5)).al (.cells #[.slice A data.length c, .slice (some ⟨w4.heap.size + 1, 0, none⟩) k k] 41)
      have BW7 := Bw.al (Bw.al BW5 (.cells (zerosB k) 5)) (.cells #[.slice A data.length c, .slice (some ⟨w4.heap.size + 1, 0, none⟩) k k] 41)
      clear F5 R6 BW5 RL5
      generalize ((w4.alloc (.cells #[.int .i64 0, .int .i64 0] 24)).alloc (.cells (zerosB k) 5)).alloc (.cells #[.slice A data.length c, .slice (some ⟨w4.heap.size + 1, 0, none⟩) k k] 41) = WC at *
      rw [← encMid_zero data r k] at ho6
      have HO6 := Lib.hid ho6
      have HF7 := Lib.hid F7
      have hF7 := F7.1
      clear ho6 F7 hmk
      go_wp2
      generalize w4.heap.size = s4 at *
      go_loopw [72] (fun i wr => ∃ t : Nat, t ≤ r.length ∧ i = .int .i64 t ∧ OwB wr WC.heap.size (.slice (some ⟨g6, 0, none⟩) N c6) (encMid data r k t) ∧ Below WC.heap.size WC wr) (fun i _ => r.length - (intOf i).toNat)
      case atStart => exact ⟨0, Nat.zero_le _, rfl, HO6.out, hb6⟩
      case round =>
        obtain ⟨t, ht, rfl, ho, hbr⟩ := hrel
        by_cases hlt : t < r.length
        · obtain ⟨m, hm⟩ : ∃ m : Nat, m = data.length + k - 1 - t := ⟨_, rfl⟩
          have hNv := HN.out
          have em : (N : Int) - 1 - t = (m : Int) := by omega
          obtain ⟨b5, o5, rfl, hl5, hc5⟩ := rd_cell (R7.below hbr) (i := t) hlt
          have hcl := ho.cellAt (i := m) (by omega)
          have hfz := ho.frozenAt m
          have hst := ho.set m (cf r t)
          rw [hm, encMid_step data r (by omega), ← hm] at hst
          have HST := Lib.hid hst
          have HLT := Lib.hid ho.lt.1
          have hmN : m < N := by omega
          generalize cf r t = y at *
          generalize (encMid data r k t).getD m 0 = y0 at *
          clear ho hst hm hNv
          go_wp2
          go_roundw
          case rel => exact ⟨t + 1, by omega, by go_num, HST.out, hbr.setCell HLT.out _⟩
          case measure => simp [intOf]; omega
        · obtain rfl : t = r.length := by omega
          rw [encMid_end] at ho
          have F8 := HF7.out.below hbr
          have BW8 := Bw.step BW7 hbr
          have hEL := HE.out.1
          rw [← HN.out] at hEL
          rw [← hEL] at ho ⊢
          generalize encOf data r k = wd at *
          obtain ⟨l0, c00, c01, f00, f01⟩ := id F8
          clear hEL
          go_wp2
          exact bodyPost_ret (resF2 rfl rfl (F8.set2 0 0)) rfl ⟨_, c6, wd, rfl, own_base ((ho.low (p := ⟨w.heap.size, 0, none⟩) hF7 _).low (p := ⟨w.heap.size, 1, none⟩) hF7 _) (Nat.le_of_lt hF7), HE.out, Bw.set (Bw.set BW8 (Nat.le_refl _) _) (Nat.le_refl _) _⟩
end Go.Proofs.Ytcinfkmekkdhfaa
