/- Walk of the division of polynomials. -/
import Derived.Test.YtpkaaiefnabfbaaDiv
namespace Go.Proofs.Ytpkaaiefnabfbaa
open Go.RowKit
set_option linter.unusedVariables false

/-- What the division holds at the head of a round: the quotient and the rest, in blocks of their own. -/
def DvRel (a b : List GF) (w wr : World) (gq nq : Nat) (A : Option Addr) (c : Nat) (r ql : List GF) : Prop :=
  OwB wr w.heap.size (.slice A r.length c) r ∧ OwB wr w.heap.size (.slice (some ⟨gq, 0, none⟩) nq nq) ql ∧ (∀ g, A = some ⟨g, 0, none⟩ → g ≠ gq) ∧ Below w.heap.size w wr ∧
  Tr r ∧ (∀ j, j + b.length ≤ r.length → cf ql j = 0) ∧ r.length + 1 ≤ nq + b.length ∧ ∀ i, cf a i = cv (cf ql) (cf b) i + cf r i
theorem gq_lt {w : World} {B g n c : Nat} {l : List GF} (h : OwB w B (.slice (some ⟨g, 0, none⟩) n c) l) : g < w.heap.size := h.lt.2
set_option maxRecDepth 100000 in
set_option maxHeartbeats 4000000 in
theorem poDiv_any (A B : Option Addr) (n m c d : Nat) (a b : List GF) (w : World) (ha : RdB w A n a) (hb : RdB w B m b) (hn : n ≤ 1000000) (hm : m ≤ 1000000) (hc : n ≤ c) (hT : Tr b) (hne : b ≠ []) :
    Calls Try.prog 39 #[.slice A n c, .slice B m d] w fun e w' => ∃ A1 c1 A2 c2 q r, e = .returned (.tuple #[.slice A1 q.length c1, .slice A2 r.length c2]) ∧ OwB w' w.heap.size (.slice A1 q.length c1) q ∧ OwB w' w.heap.size (.slice A2 r.length c2) r ∧ Div a b q r ∧ Below w.heap.size w w' := by
  have la := ha.1
  have lb := hb.1
  subst la lb
  obtain ⟨nb, hnb, htop, hdb⟩ := Tr_top hT hne
  have HA := Lib.hid ha
  have HB := Lib.hid hb
  have HT := Lib.hid hT
  have hlen := trim_len_le a
  clear ha hb hT hne
  obtain ⟨b0, o0, hBe, hlb0, hcb0⟩ := HB.out.2 (by omega)
  subst hBe
  have hz : 0 < (cf b nb).z := by
    have h1 := GF.z_bd (cf b nb)
    have h2 : (cf b nb).z ≠ 0 := fun e => htop (GF.z_inj.1 e)
    omega
  have HTOP := Lib.hid htop
  have HNB := Lib.hid hnb
  have hb0 : 0 < b.length := by omega
  have hxb : w.cell? ⟨b0, o0 + (b.length - 1), none⟩ = some (.int .u8 (cf b nb).z) := by
    rw [hcb0 (b.length - 1) (by omega), show b.length - 1 = nb by omega]; rfl
  have HCB := Lib.hid hcb0
  clear htop hdb hnb hcb0
  go_enter Try.func39, Try.ntmps39
  go_wp2_with fail
  refine (poTrim_any _ _ _ _ _ HA.out hc (by omega)).mono ?_; rintro e w1 ⟨A1, c1, rfl, ho1, hb1⟩
  have HR0 := Lib.hid (show ∀ i, cf a i = cf (trimL a) i from fun i => by rw [cf_trim])
  have HTr0 := Lib.hid (Tr_trim a)
  generalize trimL a = r0 at *
  have hr0 : r0.length ≤ 1000000 := by omega
  have hi1 : (b.length : Int) - 1 = ((b.length - 1 : Nat) : Int) := by omega
  have hi2 : b.length - 1 < b.length := by omega
  have zI := GF.z_bd (cf b nb)
  have mI := gI_z (cf b nb)
  obtain ⟨nq, hnq⟩ : ∃ nq : Nat, nq = r0.length + 1 - b.length := ⟨_, rfl⟩
  have HNQ := Lib.hid hnq
  have hnqle : nq ≤ 1000001 := by omega
  have Q0 : OwB (w1.alloc (.cells (zerosB nq) 5)) w.heap.size (.slice (some ⟨w1.heap.size, 0, none⟩) nq nq) (List.replicate nq 0) := OwB.new w1 _ _ hb1.size (by unfold maxLen; omega)
  have HQ0 := Lib.hid Q0
  have R0 := Lib.hid (ho1.below (below_new w1 (.cells (zerosB nq) 5)))
  have BW0 := Lib.hid (Bw.al hb1 (.cells (zerosB nq) 5))
  have hG0 : ∀ g, A1 = some ⟨g, 0, none⟩ → g ≠ w1.heap.size := fun g e => by
    subst e; have := ho1.lt.2; omega
  have HG0 := Lib.hid hG0
  have hxb1 := (BW0.out.cell (p := ⟨b0, o0 + (b.length - 1), none⟩) hlb0).trans hxb
  clear Q0 hG0 hxb ho1
  have cases2 : (∃ X : Int, X = if (r0.length : Int) - b.length + 1 < 0 then 0 else (r0.length : Int) - b.length + 1) := ⟨_, rfl⟩
  rcases Nat.lt_or_ge (r0.length + 1) b.length with hcase | hcase
  all_goals
    first
      | (have hz0 : nq = 0 := by omega
         have hmk : ∀ w : World, (Instr.makeSlice 22 (.int .i64 0) (.int .i64 0)).run Try.prog w = .ok (.slice (some ⟨w.heap.size, 0, none⟩) nq nq) (w.alloc (.cells (zerosB nq) 5)) := by
           rw [hz0]; exact run_makeB 0 (by omega)
         have hlt : (r0.length : Int) - b.length + 1 < 0 := by omega
         clear hz0)
      | (have hmk := run_makeB nq (by omega)
         have e1 : (nq : Int) = (r0.length : Int) - b.length + 1 := by omega
         rw [e1] at hmk
         have hlt : 0 ≤ (r0.length : Int) - b.length + 1 := by omega
         clear e1)
    clear hnq cases2 hcase
    go_wp2_with fail
    clear hmk hlt
    refine (gfInverse_any _ _ (by omega)).mono ?_
    rw [mI]
    rintro e w2 ⟨rfl, hb2⟩
    have BW2 := Bw.step BW0.out hb2
    have Q2 := HQ0.out.below hb2
    have R2 := R0.out.below hb2
    have BW3 := Bw.al BW2 (.cells #[.int .i64 0, .int .i64 0] 24)
    have Q3 := Q2.below (below_new w2 (.cells #[.int .i64 0, .int .i64 0] 24))
    have R3 := R2.below (below_new w2 (.cells #[.int .i64 0, .int .i64 0] 24))
    have D0 : DvRel a b w (w2.alloc (.cells #[.int .i64 0, .int .i64 0] 24)) w1.heap.size nq A1 c1 r0 (List.replicate nq 0) := by
      have hq := HNQ.out
      refine ⟨R3, Q3, HG0.out, BW3, HTr0.out, fun j _ => ?_, by omega, fun i => ?_⟩
      · unfold cf
        by_cases hj : j < nq
        · simp [List.getD, hj]
        · simp [List.getD, hj]
      · have e : cf (List.replicate nq 0) = pz := by
          funext j; unfold cf pz
          by_cases hj : j < nq
          · simp [List.getD, hj]
          · simp [List.getD, hj]
        rw [e, cv_pz, GF.zero_add]; exact HR0.out i
    have HD := Lib.hid D0
    clear BW2 Q2 R2 BW3 Q3 R3 D0 HQ0 R0 BW0 HG0 hb2 hxb1 hb1 HTr0 HR0 HNQ
    go_wp2
    generalize w2.alloc (.cells #[.int .i64 0, .int .i64 0] 24) = W at *
    generalize w1.heap.size = gq at *
    generalize w2.heap.size = s2 at *
    go_loopw [6] (fun v wr => ∃ A c r ql, v = .slice A r.length c ∧ r.length ≤ 1000000 ∧ DvRel a b w wr gq nq A c r ql) (fun v _ => match v with | .slice _ n _ => n | _ => 0)
    case atStart => exact ⟨A1, c1, r0, _, rfl, hr0, HD.out⟩
    case round =>
      obtain ⟨A, c, r, ql, rfl, hrl, hD⟩ := hrel
      have HD2 := Lib.hid hD
      clear hD
      by_cases hge : b.length ≤ r.length
      · obtain ⟨ho, hq, hA, hbw, hTr, hq0, hnq, hinv⟩ := HD2.out
        obtain ⟨g, rfl⟩ := ho.head (by omega)
        have hgq := hA g rfl
        have hlq := hq.rd.2
        obtain ⟨at', hat⟩ : ∃ at' : Nat, at' + b.length = r.length := ⟨r.length - b.length, by omega⟩
        have hx := ho.cellAt (i := r.length - 1) (by omega)
        have hqf := hq.frozenAt at'
        have hqc := hq.cellAt (i := at') (by omega)
        have hsh := div_shorter HNB.out hat HTOP.out
        have hrd := div_round (q := cf r (r.length - 1) * (cf b nb).inv) hat (by omega) (hq0 at' (by omega)) hinv
        rw [show r.getD (r.length - 1) 0 = cf r (r.length - 1) from rfl] at hx
        generalize cf r (r.length - 1) = x at *
        have m1 := gM_z x (cf b nb).inv
        generalize (cf b nb).inv = y at *
        have z1 := GF.z_bd x
        have z2 := GF.z_bd y
        have z3 := GF.z_bd (x * y)
        generalize hxy : x * y = q at *
        have hb1 : (r.length : Int) - 1 = ((r.length - 1 : Nat) : Int) := by omega
        have hb2 : (r.length : Int) - b.length = (at' : Int) := by omega
        have dge : decide ((r.length : Int) ≥ b.length) = true := by simp only [decide_eq_true_eq]; omega
        have dge2 : decide ((b.length : Int) ≤ r.length) = true := by simp only [decide_eq_true_eq]; omega
        have hq1 := hq.set at' q
        have ho1 := ho.far (p := ⟨gq, at', none⟩) (fun e => hgq e.symm) (.int .u8 q.z)
        have hbw1 := Below.setCell (p := ⟨gq, at', none⟩) hbw hq.lt.1 (.int .u8 q.z)
        have HS := Lib.hid hq1
        have HS2 := Lib.hid ho1
        have HS3 := Lib.hid hbw1
        clear hq1 ho1 hbw1 ho hq hA hbw hinv
        go_wp2_with fail
        refine (gfMul_any _ _ _ (by omega) (by omega)).mono ?_
        rw [m1]
        rintro e w' ⟨rfl, rfl⟩
        have J0 : OwB (wr.setCell ⟨gq, at', none⟩ (.int .u8 q.z)) w.heap.size (.slice (some ⟨g, 0, none⟩) r.length c) (dvMid r b q at' 0) ∧ OwB (wr.setCell ⟨gq, at', none⟩ (.int .u8 q.z)) w.heap.size (.slice (some ⟨gq, 0, none⟩) nq nq) (ql.set at' q) ∧ Below w.heap.size w (wr.setCell ⟨gq, at', none⟩ (.int .u8 q.z)) :=
          ⟨by rw [dvMid_zero]; exact HS2.out, HS.out, HS3.out⟩
        have HJ := Lib.hid J0
        have HSH := Lib.hid hsh
        have HRD := Lib.hid hrd
        have HAT := Lib.hid hat
        have HQ0 := Lib.hid hq0
        have HTr := Lib.hid hTr
        have HLQ := Lib.hid hlq
        have hatle : at' ≤ 1000000 := by omega
        clear J0 HS HS2 HS3 hsh hrd hq0 hTr hlq
        go_wp2
        clear dge dge2 hqc hqf hx hb1 hb2 m1 hge
        generalize wr.setCell ⟨gq, at', none⟩ (.int .u8 q.z) = W2 at *
        go_loopw [58] (fun j wr => ∃ k : Nat, k ≤ b.length ∧ j = .int .i64 k ∧ OwB wr w.heap.size (.slice (some ⟨g, 0, none⟩) r.length c) (dvMid r b q at' k) ∧ OwB wr w.heap.size (.slice (some ⟨gq, 0, none⟩) nq nq) (ql.set at' q) ∧ Below w.heap.size w wr) (fun j _ => b.length - (intOf j).toNat)
        case atStart => exact ⟨0, Nat.zero_le _, rfl, HJ.out⟩
        case round =>
          obtain ⟨k, hk, rfl, ho, hq, hbw⟩ := hrel
          by_cases hlk : k < b.length
          · obtain ⟨bb, ob, hBB, hlb, hcb⟩ := (HB.out.below hbw).2 (by omega)
            cases hBB
            have hxb : wr.cell? ⟨b0, o0 + k, none⟩ = some (.int .u8 (cf b k).z) := hcb k hlk
            have hikN : at' + k < r.length := by omega
            have hcl := ho.cellAt (i := at' + k) hikN
            rw [dvMid_get _ _ _ _ _ hikN, if_neg (by omega)] at hcl
            have hfz := ho.frozenAt (at' + k)
            have hst := ho.set (at' + k) (cf r (at' + k) + q * cf b k)
            rw [dvMid_step r b q hikN] at hst
            have HST := Lib.hid hst
            have HLT := Lib.hid ho.lt
            have HFA := Lib.hid (fun u => hq.far (p := ⟨g, at' + k, none⟩) hgq u)
            have dlk : decide ((k : Int) < b.length) = true := by simp only [decide_eq_true_eq]; omega
            generalize cf r (at' + k) = s at *
            generalize cf b k = yb at *
            have m1 := gM_z q yb
            have m2 := gA_z s (q * yb)
            have z4 := GF.z_bd yb
            have z5 := GF.z_bd s
            have z6 := GF.z_bd (q * yb)
            have w1 : IntKind.i64.wrap ((at' : Int) + k) = at' + k := IntWalk.i64_in _ (by omega)
            have w2 : ((at' : Int) + k).toNat = at' + k := by omega
            have w3 : 0 ≤ (at' : Int) + k := by omega
            have w4 : (at' : Int) + k < r.length := by omega
            clear hst hcb ho hq hat
            go_wp2
            go_region_with ((first | (go_at_call 27; refine (gfMul_any _ _ _ (by omega) (by omega)).mono ?_; rintro e w' ⟨rfl, rfl⟩) | (go_at_call 28; refine (gfAdd_any _ _ _ (by omega) (by omega)).mono ?_; rintro e w' ⟨rfl, rfl⟩)))
            all_goals
              go_wp2
              go_roundw
              case rel => exact ⟨k + 1, by omega, by go_num, HST.out, HFA.out _, (hbw.setCell HLT.out.1 _).drew⟩
              case measure => simp [intOf]; omega
          · obtain rfl : k = b.length := by omega
            have HO := Lib.hid ho
            have HQ := Lib.hid hq
            have HBW := Lib.hid hbw
            have HT2 := Lib.hid (poTrim_any _ _ _ _ _ ho.rd.1 ho.cap.1 (by omega))
            clear ho hq hlk hk
            go_wp2_with fail
            refine HT2.out.mono ?_
            rintro e w3 ⟨A3, c3, rfl, ho3, hb3⟩
            have D3 : DvRel a b w w3 gq nq A3 c3 (trimL (dvMid r b q at' b.length)) (ql.set at' q) := by
              have hl := HSH.out
              refine ⟨own_base ho3 HBW.out.size, HQ.out.below hb3, fun g' e => ?_, Bw.step HBW.out hb3, Tr_trim _, fun j hj => ?_, by omega, HRD.out⟩
              · subst e
                have := ho3.lt.1
                have := HQ.out.lt.2
                omega
              · have h2 := HAT.out
                rw [cf_set _ _ (by rw [← HLQ.out]; omega), if_neg (by omega)]
                exact HQ0.out j (by omega)
            have HD3 := Lib.hid D3
            have hl3 := HSH.out
            generalize trimL (dvMid r b q at' b.length) = r3 at *
            go_wp2
            go_roundw
            case rel => exact ⟨A3, c3, r3, _, rfl, by omega, HD3.out⟩
            case measure => omega
      · obtain ⟨ho, hq, hA, hbw, hTr, hq0, hnq, hinv⟩ := HD2.out
        have dge2 : decide ((b.length : Int) ≤ r.length) = false := by simp only [decide_eq_false_iff_not]; omega
        have HT2 := Lib.hid (poTrim_any _ _ _ _ _ hq.rd.1 hq.cap.1 (by omega))
        clear ho hq hA hTr hq0 hinv
        go_wp2_with fail
        refine HT2.out.mono ?_
        rintro e w3 ⟨A3, c3, rfl, ho3, hb3⟩
        go_wp2
        go_ret2
        obtain ⟨ho, hq, hA, hbw, hTr, hq0, hnq, hinv⟩ := HD2.out
        exact ⟨A3, c3, A, c, _, r, rfl, own_base ho3 hbw.size, ho.below hb3, ⟨Tr_trim _, hTr, by omega, fun i => by rw [cf_trim]; exact hinv i⟩, Bw.step hbw hb3⟩
end Go.Proofs.Ytpkaaiefnabfbaa
