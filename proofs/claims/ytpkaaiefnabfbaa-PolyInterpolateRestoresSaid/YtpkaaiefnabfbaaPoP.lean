/- The walk of poly.Interpolate. -/
import Derived.Test.YtpkaaiefnabfbaaPoO
import Derived.Test.YtpkaaiefnabfbaaQuG
namespace Go.Proofs.Ytpkaaiefnabfbaa
open Go.RowKit
set_option linter.unusedVariables false

theorem hasB_false {l : List GF} {x : GF} (h : x ∉ l) : hasB l x = false := decide_eq_false h
theorem hasB_true {l : List GF} {x : GF} (h : x ∈ l) : hasB l x = true := decide_eq_true h
theorem RdB.nil (w : World) (A : Option Addr) : RdB w A 0 [] := ⟨rfl, fun h => by omega⟩
/-- What the loop holds. -/
def IpRel (xs ys : List GF) (w wr : World) (k : Nat) (A B : Option Addr) (c : Nat) (p z : List GF) : Prop :=
  OwB wr (w.heap.size + 1) (.slice A p.length c) p ∧ RdB wr B z.length z ∧ IntU xs ys k p ∧ ZerU xs k z ∧ Has wr w.heap.size 0 0 ∧ Below w.heap.size w wr
set_option maxRecDepth 100000 in
set_option maxHeartbeats 2000000 in
theorem poInter_ok (A B : Option Addr) (n c d : Nat) (xs ys : List GF) (w : World) (hx : RdB w A n xs) (hy : RdB w B n ys) (hn : n ≤ 255) (hc : n ≤ c) (hnd : ∀ i, i < n → xs.getD i 0 ∉ xs.take i) :
    Calls Try.prog 33 #[.slice A n c, .slice B n d] w fun e w' => ∃ A' c' p, e = .returned (.tuple #[.slice A' (List.length p) c', .agg #[.int .i64 0, .int .i64 0]]) ∧ OwB w' w.heap.size (.slice A' (List.length p) c') p ∧ IntU xs ys n p ∧ Below w.heap.size w w' := by
  have lx := hx.1
  subst lx
  have HX := Lib.hid hx
  have HY := Lib.hid hy
  have HND := Lib.hid hnd
  clear hx hy hnd
  go_enter Try.func33, Try.ntmps33
  go_wp2
  have F0 := Has.new w 0 0 24
  have B0 := below_new w (.cells #[.int .i64 0, .int .i64 0] 24)
  generalize w.alloc (.cells #[.int .i64 0, .int .i64 0] 24) = W at *
  go_loop [26] (fun i => ∃ k : Nat, k ≤ xs.length ∧ i = .int .i64 k) (fun i => xs.length - (intOf i).toNat)
  case atStart => exact ⟨0, Nat.zero_le _, rfl⟩
  case round =>
    obtain ⟨k, hk, rfl⟩ := hrel
    by_cases hlt : k < xs.length
    · have HCN := Lib.hid (containsB_any A k c (xs.take k) (xs.getD k 0) W ((HX.out.below B0).take (by omega)) (by omega))
      rw [hasB_false (HND.out k hlt)] at HCN
      obtain ⟨b, off, rfl, hlb, hcc⟩ := rd_cell (HX.out.below B0) (i := k) hlt
      rw [show cf xs k = xs.getD k 0 from rfl] at hcc
      generalize xs.getD k 0 = x at *
      go_wp2_with (go_at_call 48; refine HCN.out.mono ?_; rintro e w' ⟨rfl, rfl⟩)
      go_round
      case rel => exact ⟨k + 1, by omega, by go_num⟩
      case measure => simp [intOf]; omega
    · obtain rfl : k = xs.length := by omega
      have HS := Lib.hid (show IpRel xs ys w (W.alloc (.cells #[.int .u8 1] 5)) 0 none (some ⟨W.heap.size, 0, none⟩) 0 [] [1] from
        ⟨OwB.nil _ _, RdB.l1 W _ 1 1 _ rfl rfl, IntU.zero xs ys, ZerU.zero xs, F0.al _, Bw.al B0 _⟩)
      go_wp2
      generalize W.alloc (.cells #[.int .u8 1] 5) = W1 at *
      generalize W.heap.size = s1 at *
      clear F0 B0
      go_loopw [8, 9, 42] (fun u v i wr => ∃ (k : Nat) (A B : Option Addr) (c d : Nat) (p z : List GF), k ≤ xs.length ∧ u = .slice A (List.length p) c ∧ v = .slice B (List.length z) d ∧ i = .int .i64 k ∧ IpRel xs ys w wr k A B c p z) (fun _ _ i _ => xs.length - (intOf i).toNat)
      case atStart => exact ⟨0, none, _, 0, 1, [], [1], Nat.zero_le _, rfl, rfl, rfl, HS.out⟩
      case round =>
        obtain ⟨k, A4, A5, c4, c5, p, z, hk, rfl, rfl, rfl, hR⟩ := hrel
        have HR := Lib.hid hR
        clear hR
        by_cases hlk : k < xs.length
        · obtain ⟨hP, hZ, hI, hU, hF, hbw⟩ := HR.out
          have hpl := hI.2.1
          have hzl := hU.1
          have RP := hP.rd.1
          have HIS := Lib.hid (hI.step hlk (HND.out k hlk) hU)
          have HZS := Lib.hid (hU.step hlk)
          have HZN := Lib.hid (hU.2.2 _ (HND.out k hlk))
          obtain ⟨b, off, rfl, hlb, hcc⟩ := rd_cell (HX.out.below hbw) (i := k) hlk
          obtain ⟨b', off', rfl, hlb', hcc'⟩ := rd_cell (HY.out.below hbw) (i := k) hlk
          rw [show cf xs k = xs.getD k 0 from rfl] at hcc
          rw [show cf ys k = ys.getD k 0 from rfl] at hcc'
          generalize xs.getD k 0 = x at *
          generalize ys.getD k 0 = y at *
          have wk : IntKind.i64.wrap ((k : Int)) = (k : Int) := IntWalk.i64_in _ (by omega)
          have HP := Lib.hid hP
          have HV1 := Lib.hid (fun w (h : RdB w A4 p.length p) => polyVal_any A4 c4 p x w (by omega) h)
          have HV2 := Lib.hid (fun w (h : RdB w A5 z.length z) => polyVal_any A5 c5 z x w (by omega) h)
          have HRP := Lib.hid RP
          have HRZ := Lib.hid hZ
          clear hI hU hP RP hZ
          generalize valL p x = vp at *
          generalize valL z x = vz at *
          go_wp2
          (apply wp_region_order [0, 1, 2, 3, 4, 5, 6, 7, 8, 9, 10, 11, 12, 13, 14] [15, 16] [17] (by kernel_rfl) (by kernel_rfl) (by kernel_rfl); (case hq => (intro z hz; simp only [pick, List.getElem?_cons_succ, List.getElem?_cons_zero]; (have hcx := fun x => cell_extz hz hlb' hcc' x; have HRP2 := Lib.hid (HRP.out.below hz); have HRZ2 := Lib.hid (HRZ.out.below hz)); (repeat (go_big_quiet_step ((first | (go_at_call 46; with_reducible exact ext_call (HV1.out _ (HRP2.out.below (Ext.below _)))) | (go_at_call 46; with_reducible exact ext_call (HV2.out _ (HRZ2.out.below (Ext.below _)))) | (go_at_call 28; exact ext_same (gAddZ _ _ _)) | (go_at_call 49; exact ext_call (gDivZ _ _ _ HZN.out)))))); refine wpQuiet_nil ?_; exact rfl)); (case' hc => (simp only [pick, List.getElem?_cons_succ, List.getElem?_cons_zero]; intro W4 hW4; simp only [chainF])))
          go_wp2
          refine ⟨below_new _ _, fun W5' hW5' => ?_⟩
          go_wp2
          refine ⟨Gr.refl _, fun W5 hW6 => ?_⟩
          have hW5 := Gr.trans hW5' hW6
          clear hW6 hW5'
          have hb5 := Bw.step hW4 (Bw.step (below_new W4 _) hW5)
          have F5 := (Has.new W4 0 0 24).below hW5
          obtain ⟨l5, c50, c51, f50, f51⟩ := id F5
          have hs5 : wr.heap.size ≤ W4.heap.size := Below.size hW4
          have hb6 := Bw.set (Bw.set hb5 (p := ⟨W4.heap.size, 0, none⟩) hs5 (.int .i64 0)) (p := ⟨W4.heap.size, 1, none⟩) hs5 (.int .i64 0)
          have hbw6 := Lib.hid (Bw.step hbw hb6)
          have hF6 := Lib.hid (hF.below hb6)
          have RP6 := Lib.hid (HRP.out.below hb6)
          have RZ6 := Lib.hid (HRZ.out.below hb6)
          generalize hcc9 : (y + vp) * vz.inv = cc at *
          have HCC := Lib.hid hcc9
          clear hF hcc9 HP HV1 HV2 HRP HRZ hb5 hb6 hW5 hW4
          go_wp2_with fail
          refine (poMul_any A5 _ _ _ c5 1 z [cc] _ (RZ6.out.al _) (RdB.l1 _ _ cc.z cc _ (by first | rfl | simp) rfl) (by omega) (by omega)).mono ?_
          rintro e w7 ⟨A7, c7, rfl, ho7, hb7⟩
          have R7 := ho7.rd.1
          have RP7 := Lib.hid ((RP6.out.al _).below hb7)
          have RZ7 := Lib.hid ((RZ6.out.al _).below hb7)
          have hF7 := Lib.hid ((hF6.out.al _).below hb7)
          have hbw7 := Lib.hid (Bw.step (Bw.al hbw6.out _) hb7)
          have hl7 : (prodP z [cc]).length ≤ 1000 := by have := prodP_len z [cc]; simp only [List.length_singleton] at this; omega
          clear ho7 hb7 hF6 RP6 RZ6 hbw6 l5 c50 c51 f50 f51 F5
          go_wp2_with fail
          refine (poAdd_any A4 A7 _ _ c4 c7 p (prodP z [cc]) _ RP7.out R7 (by omega) (by omega)).mono ?_
          rintro e w8 ⟨A8, c8, rfl, ho8, hb8⟩
          have hsz8 : w.heap.size + 1 ≤ w7.heap.size := by have := hF7.out.1; omega
          have HO8 := Lib.hid (own_base ho8 hsz8)
          have RZ8 := Lib.hid (RZ7.out.below hb8)
          have hF8 := Lib.hid (hF7.out.below hb8)
          have hbw8 := Lib.hid (Bw.step hbw7.out hb8)
          clear ho8 hb8 R7 RP7 RZ7 hF7 hbw7
          go_wp2_with fail
          refine (poMul_any A5 _ _ _ c5 2 z [x, 1] _ (RZ8.out.al _) (RdB.l2 _ _ x.z 1 x 1 _ (by first | rfl | simp) ⟨rfl, rfl⟩) (by omega) (by omega)).mono ?_
          rintro e w9 ⟨A9, c9, rfl, ho9, hb9⟩
          have hz9 := HZS.out
          have hi9 := HIS.out
          have HK := Lib.hid (show IpRel xs ys w w9 (k + 1) A8 A9 c8 (sumP p (prodP z [cc])) (prodP z [x, 1]) from
            ⟨OwB.below (OwB.below HO8.out (below_new _ _)) hb9, ho9.rd.1, hi9, hz9, (hF8.out.al _).below hb9, Bw.step (Bw.al hbw8.out _) hb9⟩)
          clear hz9 hi9 ho9 hb9
          go_wp2
          go_roundw
          case rel => first | exact ⟨k + 1, A8, A9, c8, c9, sumP p (prodP z [cc]), prodP z [x, 1], by omega, rfl, rfl, by go_num, HK.out⟩ | ((repeat apply Exists.intro); exact ⟨⟨k + 1, A8, A9, c8, c9, sumP p (prodP z [cc]), prodP z [x, 1], by omega, rfl, rfl, by go_num, HK.out⟩, rfl⟩)
          case measure => simp [intOf]; omega
        · obtain rfl : k = xs.length := by omega
          obtain ⟨hP, hZ, hI, hU, hF, hbw⟩ := HR.out
          obtain ⟨l0, c00, c01, f00, f01⟩ := id hF
          have HI := Lib.hid hI
          have HP := Lib.hid hP
          have hlw := hF.1
          clear hI hU hP hZ HR
          go_wp2
          exact bodyPost_ret (resF2 rfl rfl (hF.set2 0 0)) rfl ⟨A4, c4, p, rfl, own_base ((HP.out.low (p := ⟨w.heap.size, 0, none⟩) (Nat.lt_succ_self _) _).low (p := ⟨w.heap.size, 1, none⟩) (Nat.lt_succ_self _) _) (Nat.le_succ _), HI.out, Bw.set (Bw.set hbw (Nat.le_refl _) _) (Nat.le_refl _) _⟩
end Go.Proofs.Ytpkaaiefnabfbaa
