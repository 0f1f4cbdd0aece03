/- Product codes: the walk of the law that lost bytes are zero. -/
import Derived.Test.YtmpjkdkgolmgdaaPdX
import Derived.Test.YtmpjkdkgolmgdaaPdK
import Derived.Test.YtmpjkdkgolmgdaaPdP
namespace Go.Proofs.Ytmpjkdkgolmgdaa
open Go.RowKit
set_option linter.unusedVariables false

theorem dcnt_self0 (b : List GF) : ∀ k, dcnt b b [] k = 0 := by
  intro k
  induction k with
  | zero => exact dcnt_zero _ _ _
  | succ k ih => rw [dcnt_no (.inl rfl), ih]
/-- What Decode hands back, in few words. -/
structure UnOK (R C p q : Nat) (code : List GF) (es : List Nat) (un : Res) : Prop where
  len : un.data.length = (R - q) * (C - p)
  inc : un.lost.Pairwise (· < ·)
  low : ∀ j ∈ un.lost, j < un.data.length ∧ un.data.getD j 0 = 0
  fix : un.fixed ≤ R * C
  few : un.lost.length ≤ R * C
  all : blkB R C p q code = true → es = [] → un.lost = [] ∧ un.fixed = 0 ∧ IsBlock un.data R C p q code
theorem un_ok {R C p q : Nat} (h1 : 1 ≤ R) (h2 : R ≤ 32) (h3 : 1 ≤ C) (h4 : C ≤ 32) (h5 : p < C) (h6 : q < R) {code : List GF} (hl : code.length = R * C) (es : List Nat) : UnOK R C p q code es (unblockL R C p q code es) := by
  have hp := Nat.le_of_lt h5
  have hq := Nat.le_of_lt h6
  refine ⟨?_, ?_, ?_, ?_, ?_, fun hb he => ?_⟩
  · unfold unblockL
    rw [res_len h3 hp, cntD_end h3 hq]
  · exact (res_lost R C p q _ _ _ _ _).1
  · exact (res_lost R C p q _ _ _ _ _).2
  · exact res_fixed R C p q _ _ _ _ _
  · exact (lost_len h3 hp _ _ _ _ _).1
  · subst he
    unfold blkB at hb
    rw [Bool.and_eq_true] at hb
    have hB : IsBlk R C p q code := ⟨hl, rightB_iff.1 hb.1, colsB_iff.1 hb.2⟩
    have hD := blk_data h3 hp hq hB
    have := unblock_right (d := dataN R C p q code (R * C)) (b := code) (x := code) (es := []) h3 (by omega) (by omega) hp hq (by rw [data_len h3 hp, cntD_end h3 hq]) hD hl (fun i hi => by cases hi) (by rw [wrong_same]; exact Nat.zero_le _)
    rw [this]
    exact ⟨rfl, dcnt_self0 _ _, hD⟩
set_option maxRecDepth 100000 in
set_option maxHeartbeats 8000000 in
theorem lzGood (A I : Option Addr) (n c me ce R C p q : Nat) (l : List GF) (er : List Int) (w : World) (RL : RdB w A n l) (RI : RdI w I me er) (hn : n ≤ 9223372036854775807) (hnc : n ≤ c) (hme : me ≤ 1099511627776000) (hnn : n = R * C) (h1 : 1 ≤ R) (h2 : R ≤ 32) (h3 : 1 ≤ C) (h4 : C ≤ 32) (h5 : p < C) (h6 : q < R) :
    Calls Try.prog 9 #[.slice A n c, shpV R C p q, .slice I me ce] w fun e w' => e = .returned (.bool true) ∧ Below w.heap.size w w' := by
  have hN : n ≤ 1024 := by have := (mul32 h2 h4).2; rw [← Int.natCast_mul, ← hnn] at this; omega
  have HDE := Lib.hid (fun w (hl : RdB w A n l) (hi : RdI w I me er) => pdDecode_ok A I n c me ce R C p q l er w hl hi (by omega) hnn h1 h2 h3 h4 h5 h6)
  have HCK := Lib.hid (fun w (hl : RdB w A n l) => pdCheck_ok A n c R C p q l w hl hnn h1 h2 h3 h4 h5 h6)
  have HDS := Lib.hid (fun w => rDataSize_nat R C p q w h2 h4 (by omega) (by omega))
  have HUO := Lib.hid (fun es => un_ok (p := p) (q := q) h1 h2 h3 h4 h5 h6 (RL.1.trans hnn) es)
  have HUQ := Lib.hid (fun d a b (ha : IsBlock d R C p q a) (hb : IsBlock d R C p q b) => block_unique (by omega) (by omega) (by omega) (by omega) ha hb)
  have HDN : Hid ((R - q) * (C - p) ≤ 1024) := Lib.hid (Nat.le_trans (Nat.mul_le_mul (show R - q ≤ 32 by omega) (show C - p ≤ 32 by omega)) (by decide))
  have HRL := Lib.hid RL
  have HRI := Lib.hid RI
  have HNN := Lib.hid hnn
  have S0 := S4.new w R C p q
  have B0 := below_new w (shpC R C p q)
  clear RL RI hnn
  go_enter Try.func9, Try.ntmps9
  go_wp2_with fail
  refine (HDE.out _ (HRL.out.below B0) (HRI.out.below B0)).mono ?_
  rintro e w1 ⟨hb1, hpost⟩
  ((first | replace B0 := Bw.step B0 hb1 | replace B0 := Bw.step (Bw.al B0 _) hb1 | replace B0 := Bw.step (Bw.al (Bw.al B0 _) _) hb1 | replace B0 := Bw.step (Bw.al (Bw.al (Bw.al B0 _) _) _) hb1 | replace B0 := Bw.step (Bw.al (Bw.al (Bw.al (Bw.al B0 _) _) _) _) hb1 | replace B0 := Bw.step (Bw.al (Bw.al (Bw.al (Bw.al (Bw.al B0 _) _) _) _) _) hb1 | replace B0 := Bw.step (Bw.al (Bw.al (Bw.al (Bw.al (Bw.al (Bw.al B0 _) _) _) _) _) _) hb1); (first | replace S0 := S0.below hb1 | replace S0 := (S0.al _).below hb1 | replace S0 := ((S0.al _).al _).below hb1 | replace S0 := (((S0.al _).al _).al _).below hb1 | replace S0 := ((((S0.al _).al _).al _).al _).below hb1 | replace S0 := (((((S0.al _).al _).al _).al _).al _).below hb1 | replace S0 := ((((((S0.al _).al _).al _).al _).al _).al _).below hb1))
  rcases hpost with ⟨hF, rfl⟩ | ⟨es, rfl, hnd, hlt, hP, A1, d1, A2, d2, rfl, ho1, ho2⟩
  · have hc : (incF er (n : Nat) 10).1 = 4 ∨ (incF er (n : Nat) 10).1 = 11 := by
      rcases incF_code er (n : Nat) 10 with h | ⟨k, _, h⟩ | ⟨k, _, h⟩
      · exact absurd h hF
      · rw [h]; exact .inl rfl
      · rw [h]; exact .inr rfl
    generalize (incF er (n : Nat) 10).1 = fc at *
    generalize (incF er (n : Nat) 10).2 = fi at *
    have xC : (fc == 0) = false := by rw [beq_eq_false_iff_ne]; omega
    have xC2 : (fc != 0) = true := by rw [bne, xC]; rfl
    clear hF hc
    have F1 := Has.new w1 fc fi 26
    obtain ⟨l1, c10, c11, f10, f11⟩ := id F1
    go_wp2_with (go_at_call 16; refine (squared_any _).mono ?_; rintro e w' ⟨rfl, hb9⟩)
    go_ret
    exact ⟨rfl, Bw.step (Bw.al B0 _) hb9⟩
  · have HU := Lib.hid (HUO.out es)
    have hle : es.length = me := by have := HRI.out.1; rw [toI_len] at this; exact this
    have HLE := Lib.hid hle
    clear HUO hnd hlt hP hle
    generalize unblockL R C p q l es = un at *
    have hdl : un.data.length ≤ 1024 := by rw [HU.out.len]; exact HDN.out
    have hll : un.lost.length ≤ 1024 := by have := HU.out.few; have := HNN.out; omega
    have hfx : un.fixed ≤ n := by have := HU.out.fix; have := HNN.out; omega
    have HINC := Lib.hid (fun w (h : RdI w A2 un.lost.length (toI un.lost)) => by
      have := rIncreasing_any A2 un.lost.length d2 (toI un.lost) ((un.data.length : Nat) : Int) 0 w h (by omega) ⟨by omega, by omega⟩ (by omega)
      rw [incF_of 0 (fun i hi => (HU.out.low i hi).1) HU.out.inc] at this
      exact this)
    have HLEN := Lib.hid HU.out.len
    have HEN := Lib.hid (fun w (hl : RdB w A1 un.data.length un.data) (hc : un.data.length ≤ d1) => pdEncode_ok A1 un.data.length d1 R C p q un.data w hl hc HLEN.out h1 h2 h3 h4 h5 h6)
    have hcap := ho1.cap.1
    have hz1 : w.heap.size < w1.heap.size := S0.1
    have F1 := Has.new w1 0 0 26
    have R1 := ho1.rd.1.al (fltC 0 0)
    have R2 := ho2.rd.1.al (fltC 0 0)
    have S0 := S0.al (fltC 0 0)
    have B0 := Bw.al B0 (fltC 0 0)
    rw [← HLEN.out] at HDS
    have HLOW : Hid (∀ k, k < un.lost.length → un.lost.getD k 0 < un.data.length ∧ un.data.getD (un.lost.getD k 0) 0 = 0) := Lib.hid fun k hk => HU.out.low _ (gmem hk)
    have HALL := Lib.hid HU.out.all
    clear ho1 ho2 HU HDN HLEN
    obtain ⟨ls, s0, s1, s2, s3⟩ := id S0
    obtain ⟨l1, c10, c11, f10, f11⟩ := id F1
    go_wp2_with fail
    refine (HDS.out _).mono ?_
    rintro e w2 ⟨rfl, hb2⟩
    clear ls s0 s1 s2 s3 l1 c10 c11 f10 f11
    ((first | replace B0 := Bw.step B0 hb2 | replace B0 := Bw.step (Bw.al B0 _) hb2 | replace B0 := Bw.step (Bw.al (Bw.al B0 _) _) hb2 | replace B0 := Bw.step (Bw.al (Bw.al (Bw.al B0 _) _) _) hb2 | replace B0 := Bw.step (Bw.al (Bw.al (Bw.al (Bw.al B0 _) _) _) _) hb2 | replace B0 := Bw.step (Bw.al (Bw.al (Bw.al (Bw.al (Bw.al B0 _) _) _) _) _) hb2 | replace B0 := Bw.step (Bw.al (Bw.al (Bw.al (Bw.al (Bw.al (Bw.al B0 _) _) _) _) _) _) hb2); (first | replace S0 := S0.below hb2 | replace S0 := (S0.al _).below hb2 | replace S0 := ((S0.al _).al _).below hb2 | replace S0 := (((S0.al _).al _).al _).below hb2 | replace S0 := ((((S0.al _).al _).al _).al _).below hb2 | replace S0 := (((((S0.al _).al _).al _).al _).al _).below hb2 | replace S0 := ((((((S0.al _).al _).al _).al _).al _).al _).below hb2); (first | replace F1 := F1.below hb2 | replace F1 := (F1.al _).below hb2 | replace F1 := ((F1.al _).al _).below hb2 | replace F1 := (((F1.al _).al _).al _).below hb2 | replace F1 := ((((F1.al _).al _).al _).al _).below hb2 | replace F1 := (((((F1.al _).al _).al _).al _).al _).below hb2 | replace F1 := ((((((F1.al _).al _).al _).al _).al _).al _).below hb2); (first | replace R1 := R1.below hb2 | replace R1 := (R1.al _).below hb2 | replace R1 := ((R1.al _).al _).below hb2 | replace R1 := (((R1.al _).al _).al _).below hb2 | replace R1 := ((((R1.al _).al _).al _).al _).below hb2 | replace R1 := (((((R1.al _).al _).al _).al _).al _).below hb2 | replace R1 := ((((((R1.al _).al _).al _).al _).al _).al _).below hb2); (first | replace R2 := R2.below hb2 | replace R2 := (R2.al _).below hb2 | replace R2 := ((R2.al _).al _).below hb2 | replace R2 := (((R2.al _).al _).al _).below hb2 | replace R2 := ((((R2.al _).al _).al _).al _).below hb2 | replace R2 := (((((R2.al _).al _).al _).al _).al _).below hb2 | replace R2 := ((((((R2.al _).al _).al _).al _).al _).al _).below hb2))
    go_wp2_with fail
    refine (HINC.out _ R2).mono ?_
    rintro e w3 ⟨rfl, hb3⟩
    ((first | replace B0 := Bw.step B0 hb3 | replace B0 := Bw.step (Bw.al B0 _) hb3 | replace B0 := Bw.step (Bw.al (Bw.al B0 _) _) hb3 | replace B0 := Bw.step (Bw.al (Bw.al (Bw.al B0 _) _) _) hb3 | replace B0 := Bw.step (Bw.al (Bw.al (Bw.al (Bw.al B0 _) _) _) _) hb3 | replace B0 := Bw.step (Bw.al (Bw.al (Bw.al (Bw.al (Bw.al B0 _) _) _) _) _) hb3 | replace B0 := Bw.step (Bw.al (Bw.al (Bw.al (Bw.al (Bw.al (Bw.al B0 _) _) _) _) _) _) hb3); (first | replace S0 := S0.below hb3 | replace S0 := (S0.al _).below hb3 | replace S0 := ((S0.al _).al _).below hb3 | replace S0 := (((S0.al _).al _).al _).below hb3 | replace S0 := ((((S0.al _).al _).al _).al _).below hb3 | replace S0 := (((((S0.al _).al _).al _).al _).al _).below hb3 | replace S0 := ((((((S0.al _).al _).al _).al _).al _).al _).below hb3); (first | replace R1 := R1.below hb3 | replace R1 := (R1.al _).below hb3 | replace R1 := ((R1.al _).al _).below hb3 | replace R1 := (((R1.al _).al _).al _).below hb3 | replace R1 := ((((R1.al _).al _).al _).al _).below hb3 | replace R1 := (((((R1.al _).al _).al _).al _).al _).below hb3 | replace R1 := ((((((R1.al _).al _).al _).al _).al _).al _).below hb3); (first | replace R2 := R2.below hb3 | replace R2 := (R2.al _).below hb3 | replace R2 := ((R2.al _).al _).below hb3 | replace R2 := (((R2.al _).al _).al _).below hb3 | replace R2 := ((((R2.al _).al _).al _).al _).below hb3 | replace R2 := (((((R2.al _).al _).al _).al _).al _).below hb3 | replace R2 := ((((((R2.al _).al _).al _).al _).al _).al _).below hb3))
    have HR1 := Lib.hid R1
    have HR2 := Lib.hid R2
    have HS0 := Lib.hid S0
    have HB0 := Lib.hid B0
    clear R1 R2 S0 B0 F1
    go_wp2
    go_loopw [11] (fun i wr => ∃ k : Nat, k ≤ un.lost.length ∧ i = .int .i64 k ∧ wr = w3) (fun i _ => un.lost.length - (intOf i).toNat)
    case atStart => exact ⟨0, Nat.zero_le _, rfl, rfl⟩
    case round =>
      obtain ⟨k, hk, rfl, rfl⟩ := hrel
      by_cases hlk : k < un.lost.length
      · obtain ⟨hj, hv⟩ := HLOW.out k hlk
        obtain ⟨bi, oi, rfl, hlb, hcc⟩ := rdI_cell HR2.out (i := k) hlk
        rw [toI_getD] at hcc
        obtain ⟨bd, od, rfl, hlb2, hcd⟩ := HR1.out.2 (by omega)
        have hcv := hcd (un.lost.getD k 0) hj
        rw [hv] at hcv
        clear hcd hv
        generalize un.lost.getD k 0 = j at *
        go_wp2
        go_roundw
        case rel => first | exact ⟨k + 1, by omega, by go_num, by first | trivial | rfl⟩ | ((repeat apply Exists.intro); exact ⟨⟨k + 1, by omega, by go_num, by first | trivial | rfl⟩, rfl⟩)
        case measure => simp [intOf]; omega
      · obtain rfl : k = un.lost.length := by omega
        obtain ⟨ls, s0, s1, s2, s3⟩ := id HS0.out
        clear hlk hk
        go_wp2_with fail
        refine (HCK.out _ (HRL.out.below HB0.out)).mono ?_
        rintro e w4 ⟨rfl, hb4⟩
        have B0 := HB0.out
        have S0 := HS0.out
        have R1 := HR1.out
        clear ls s0 s1 s2 s3 HB0 HS0 HR1
        ((first | replace B0 := Bw.step B0 hb4 | replace B0 := Bw.step (Bw.al B0 _) hb4 | replace B0 := Bw.step (Bw.al (Bw.al B0 _) _) hb4 | replace B0 := Bw.step (Bw.al (Bw.al (Bw.al B0 _) _) _) hb4 | replace B0 := Bw.step (Bw.al (Bw.al (Bw.al (Bw.al B0 _) _) _) _) hb4 | replace B0 := Bw.step (Bw.al (Bw.al (Bw.al (Bw.al (Bw.al B0 _) _) _) _) _) hb4 | replace B0 := Bw.step (Bw.al (Bw.al (Bw.al (Bw.al (Bw.al (Bw.al B0 _) _) _) _) _) _) hb4); (first | replace S0 := S0.below hb4 | replace S0 := (S0.al _).below hb4 | replace S0 := ((S0.al _).al _).below hb4 | replace S0 := (((S0.al _).al _).al _).below hb4 | replace S0 := ((((S0.al _).al _).al _).al _).below hb4 | replace S0 := (((((S0.al _).al _).al _).al _).al _).below hb4 | replace S0 := ((((((S0.al _).al _).al _).al _).al _).al _).below hb4); (first | replace R1 := R1.below hb4 | replace R1 := (R1.al _).below hb4 | replace R1 := ((R1.al _).al _).below hb4 | replace R1 := (((R1.al _).al _).al _).below hb4 | replace R1 := ((((R1.al _).al _).al _).al _).below hb4 | replace R1 := (((((R1.al _).al _).al _).al _).al _).below hb4 | replace R1 := ((((((R1.al _).al _).al _).al _).al _).al _).below hb4))
        have F4 := Has.new w4 0 0 26
        have S0 := S0.al (fltC 0 0)
        have R1 := R1.al (fltC 0 0)
        have B0 := Bw.al B0 (fltC 0 0)
        obtain ⟨ls, s0, s1, s2, s3⟩ := id S0
        go_wp2_with fail
        refine (HEN.out _ R1 hcap).mono ?_
        rintro e w5 ⟨A5, c5, b5', rfl, ho5, hbk5, hb5⟩
        clear ls s0 s1 s2 s3
        have B0 := Bw.step B0 hb5
        have F4 := (F4.below hb5).al (fltC 0 0)
        have F5 := Has.new w5 0 0 26
        have R5 := ho5.rd.1.al (fltC 0 0)
        have B0 := Bw.al B0 (fltC 0 0)
        have HBK := Lib.hid hbk5
        clear ho5 hbk5
        obtain ⟨l4, c40, c41, f40, f41⟩ := id F4
        obtain ⟨l5, c50, c51, f50, f51⟩ := id F5
        generalize hbb : blkB R C p q l = bb at *
        have HBB := Lib.hid hbb
        clear hbb
        cases bb with
        | false =>
          go_wp2_with (go_at_call 16; refine (squared_any _).mono ?_; rintro e w' ⟨rfl, hb9⟩)
          go_ret
          exact ⟨rfl, Bw.step B0 hb9⟩
        | true =>
          by_cases hm0 : 0 < me
          · go_wp2_with (go_at_call 16; refine (squared_any _).mono ?_; rintro e w' ⟨rfl, hb9⟩)
            go_ret
            exact ⟨rfl, Bw.step B0 hb9⟩
          · obtain rfl : me = 0 := by omega
            obtain ⟨k1, k2, k3⟩ := HALL.out rfl (List.eq_nil_of_length_eq_zero HLE.out)
            obtain rfl := HUQ.out _ _ _ k3 HBK.out
            have y1 := Lib.hid (sameB_self l)
            have RA := HRL.out.below B0
            have HK1 : Hid (un.lost.length = 0) := Lib.hid (by rw [k1]; rfl)
            have HK2 := Lib.hid k2
            have HNE := Lib.hid HNN.out
            rw [HK1.out, HK2.out]
            rw [← HNN.out] at R5 ⊢
            clear k1 k2 k3
            go_wp2_with (first | (go_at_call 17; refine (refSame_any _ _ _ _ _ _ _ _ _ R5 RA).mono ?_; rw [y1.out]; rintro e w' ⟨rfl, rfl⟩) | (go_at_call 16; refine (squared_any _).mono ?_; rintro e w' ⟨rfl, hb9⟩))
            go_ret
            exact ⟨rfl, Bw.step B0 hb9⟩
set_option maxRecDepth 100000 in
set_option maxHeartbeats 4000000 in
theorem walkProductLostBytesAreZero (A : Option Addr) (n c : Nat) (zs : List Int) (R C p q : Int) (I : Option Addr) (me ce : Nat) (ys : List Int) (w : World) (w0 : IsRow .u8 w A n c zs) (w1 : (Lit.int .i64 R).wf = true ∧ (Lit.int .i64 C).wf = true ∧ (Lit.int .i64 p).wf = true ∧ (Lit.int .i64 q).wf = true) (w2 : IsRow .i64 w I me ce ys) (room0 : n * 1 ≤ 140737488355328) (room2 : me * 8 ≤ 140737488355328) :
    Calls Try.prog 9 #[.slice A n c, shpV R C p q, .slice I me ce] w fun e w' => e = .returned (.bool true) ∧ Below w.heap.size w w' := by
  obtain ⟨l, RL, hn, hnc⟩ := w0.bytes4
  obtain ⟨er, RI, hm, hmd, hbd⟩ := w2.rdI
  clear w0 w1 w2
  by_cases hbad : cdF n R C p q = (0, 0)
  · rcases cdF_cases n R C p q with ⟨R, C, p, q, rfl, rfl, rfl, rfl, h1, h2, h3, h4, h5, h6, hnn, h⟩ | ⟨hs, h⟩ | ⟨_, _, _, _, _, _, _, _, _, _, _, _, _, _, _, h⟩
    · exact lzGood A I n c me ce R C p q l er w RL RI hn hnc (by omega) hnn h1 h2 h3 h4 h5 h6
    · rw [h] at hbad; exact absurd hbad hs
    · rw [h] at hbad; cases hbad
  · have HDE := Lib.hid (fun w => pdDecode_bad A I n c me ce R C p q w hn hbad)
    have hc := (cdF_code n R C p q).resolve_left hbad
    have hc0 : ((cdF n R C p q).1 == 0) = false := by rw [beq_eq_false_iff_ne]; exact hc
    have hc1 : ((cdF n R C p q).1 != 0) = true := by rw [bne, hc0]; rfl
    generalize (cdF n R C p q).1 = fc at *
    generalize (cdF n R C p q).2 = fi at *
    have S0 := S4.new w R C p q
    have B0 := below_new w (shpC R C p q)
    clear hbad RL RI hbd
    go_enter Try.func9, Try.ntmps9
    go_wp2_with fail
    refine (HDE.out _).mono ?_
    rintro e w1 ⟨rfl, hb1⟩
    ((first | replace B0 := Bw.step B0 hb1 | replace B0 := Bw.step (Bw.al B0 _) hb1 | replace B0 := Bw.step (Bw.al (Bw.al B0 _) _) hb1 | replace B0 := Bw.step (Bw.al (Bw.al (Bw.al B0 _) _) _) hb1 | replace B0 := Bw.step (Bw.al (Bw.al (Bw.al (Bw.al B0 _) _) _) _) hb1 | replace B0 := Bw.step (Bw.al (Bw.al (Bw.al (Bw.al (Bw.al B0 _) _) _) _) _) hb1 | replace B0 := Bw.step (Bw.al (Bw.al (Bw.al (Bw.al (Bw.al (Bw.al B0 _) _) _) _) _) _) hb1); (first | replace S0 := S0.below hb1 | replace S0 := (S0.al _).below hb1 | replace S0 := ((S0.al _).al _).below hb1 | replace S0 := (((S0.al _).al _).al _).below hb1 | replace S0 := ((((S0.al _).al _).al _).al _).below hb1 | replace S0 := (((((S0.al _).al _).al _).al _).al _).below hb1 | replace S0 := ((((((S0.al _).al _).al _).al _).al _).al _).below hb1))
    have F1 := Has.new w1 fc fi 26
    obtain ⟨l1, c10, c11, f10, f11⟩ := id F1
    go_wp2_with (go_at_call 16; refine (squared_any _).mono ?_; rintro e w' ⟨rfl, hb9⟩)
    go_ret
    exact ⟨rfl, Bw.step (Bw.al B0 _) hb9⟩
end Go.Proofs.Ytmpjkdkgolmgdaa
