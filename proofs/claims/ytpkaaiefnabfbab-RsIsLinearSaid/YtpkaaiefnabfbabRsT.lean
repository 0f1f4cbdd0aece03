/- The walk of the law RsIsLinear. -/
import Derived.Test.YtpkaaiefnabfbabRsS
import Derived.Test.YtpkaaiefnabfbabQuF
namespace Go.Proofs.Ytpkaaiefnabfbab
open Go.RowKit
set_option linter.unusedVariables false

theorem run_headB (A : Option Addr) (n c N : Nat) (hN : N ≤ c) (w : World) : (Instr.slice 22 (.slice A n c) none (some (.int .i64 (N : Int))) none).run Try.prog w = .ok (.slice A N c) w := by
  have h1 : 0 ≤ (N : Int) ∧ (N : Int) ≤ c := by omega
  have h2 : ¬ c < N := by omega
  have h3 : ∀ x : Addr, x.add 0 = x := fun x => by unfold Addr.add; split <;> simp_all
  rcases A with _ | x
  · by_cases h : c = 0 <;> simp [Instr.slice, Instr.sliceBounds, Instr.sliceBound, go_sem, h1, h2, h] <;> (intro h9; omega)
  · by_cases h : c = 0 <;> simp [Instr.slice, Instr.sliceBounds, Instr.sliceBound, go_sem, h1, h2, h, h3] <;> (intro h9; omega)
theorem wpList_app1L (w : World) {ops : Array Oper} {rest : List Oper} {o : Oper} {a : Act} {Q : Exit → Act → World → Prop} (hgd : o.guard = none) (s x : Operand)
    (ho : o.op = .call { callee := .builtin .append, args := #[s, x], argTypes := #[22, 22] }) (B : Nat)
    (v : Value) (l : List GF) (hown : OwB w B v l) (hs : a.eval s = v) (y : GF) (t : TypeId) (hx : a.eval x = .slice (some ⟨w.heap.size, 0, none⟩) 1 1)
    (hlen : l.length < 140737488355328) (hbase : B ≤ w.heap.size)
    (h : ∀ v' w', OwB w' B v' (l ++ [y]) → Below B w w' → wpList Try.prog ops Q rest (a.put o.dst v') w') : wpList Try.prog ops Q (o :: rest) a (w.alloc (.cells #[.int .u8 y.z] t)) := by
  refine wpList_appB47 _ hgd s x ho B v l hs (hown.below (below_new w _)) (some ⟨w.heap.size, 0, none⟩) 1 1 [y] hx (RdB.one w y t 1) (by simp; omega) (by simp; omega) (fun v' w' h1 h2 h3 => h v' w' h1 ?_)
  exact ((below_new w _).mono hbase).trans (grown_below h2 (hown.below (below_new w _)) (by simp; omega))
set_option maxRecDepth 100000 in
set_option maxHeartbeats 4000000 in
theorem walkRsIsLinear (A : Option Addr) (n c : Nat) (zs : List Int) (B : Option Addr) (m d : Nat) (ys : List Int) (q p : Int) (w : World)
    (w0 : IsRow .u8 w A n c zs) (w1 : IsRow .u8 w B m d ys) (w2 : (Lit.int .u8 q).wf = true) (w3 : (Lit.int .i64 p).wf = true) (r0 : n * 1 ≤ 140737488355328) (r1 : m * 1 ≤ 140737488355328) :
    Calls Try.prog 6 #[.slice A n c, .slice B m d, .int .u8 q, .int .i64 p] w fun e w' => e = .returned (.bool true) ∧ Below w.heap.size w w' := by
  obtain ⟨a, RA, hn, hcn⟩ := w0.bytes2
  obtain ⟨b, RB, hm, hdm⟩ := w1.bytes2
  obtain ⟨y, rfl⟩ := wfu8' w2
  have hp := wf64 w3
  clear w0 w1 w2 w3
  have HRA := Lib.hid RA
  have HRB := Lib.hid RB
  clear RA RB
  have hz0 : addW (scW y (a.take 0)) b = [] := by rw [List.take_zero]; rfl
  have HZ0 := Lib.hid hz0
  clear hz0
  have hmin : n ≤ m ∨ m < n := by omega
  rcases hmin with hmin | hmin
  all_goals
    first
      | (obtain ⟨N, hN⟩ : ∃ N, N = n := ⟨_, rfl⟩
         have hnm : n ≤ m := hmin)
      | (obtain ⟨N, hN⟩ : ∃ N, N = m := ⟨_, rfl⟩
         have hnm : ¬ n ≤ m := by omega)
    have HN := Lib.hid hN
    have hNn : N ≤ n := by omega
    have hNm : N ≤ m := by omega
    have hNc : N ≤ c := by omega
    have hNd : N ≤ d := by omega
    have hrA := run_headB A n c N hNc
    have hrB := run_headB B m d N hNd
    go_enter Try.func6, Try.ntmps6
    go_wp2
    rw [← HN.out]
    clear hN hmin hnm
    go_loopw [10, 11] (fun v i wr => ∃ k : Nat, k ≤ N ∧ i = .int .i64 k ∧ OwB wr w.heap.size v (addW (scW y (a.take k)) b) ∧ Below w.heap.size w wr) (fun _ i _ => N - (intOf i).toNat)
    case atStart => exact ⟨0, Nat.zero_le _, rfl, by rw [HZ0.out]; exact OwB.nil _ _, Below.refl _ _⟩
    case round =>
      obtain ⟨k, hk, rfl, ho, hbw⟩ := hrel
      by_cases hlt : k < N
      · obtain ⟨b3, o3, rfl, hl3, hc3⟩ := rd_cell (HRA.out.below hbw) (i := k) (by omega)
        obtain ⟨b4, o4, rfl, hl4, hc4⟩ := rd_cell (HRB.out.below hbw) (i := k) (by omega)
        have hkn : k < n := by omega
        have hkm : k < m := by omega
        have HS := Lib.hid (addW_snoc a b y (k := k) (by rw [HRA.out.1]; exact hkn))
        have hL : (addW (scW y (a.take k)) b).length < 140737488355328 := by rw [addW_len, scW_len, List.length_take]; omega
        have HO := Lib.hid ho
        have hcf1 : cf a k = a.getD k 0 := rfl
        have hcf2 : cf b k = b.getD k 0 := rfl
        rw [← hcf1, ← hcf2] at HS
        clear ho hcf1 hcf2
        generalize addW (scW y (a.take k)) b = Lp at *
        generalize cf a k = u at *
        generalize cf b k = v at *
        go_wp2
        (apply wp_region_float 12 13 (by kernel_rfl) (by kernel_rfl) (by kernel_rfl); (case hq => (intro z hz; simp only [List.take_succ_cons, List.take_zero]; (have hx3 := fun x => cell_extz hz hl3 hc3 x; have hx4 := fun x => cell_extz hz hl4 hc4 x); (repeat (go_big_quiet_step ((first | (go_at_call 26; exact ext_same (gMulZ _ _ _)) | (go_at_call 25; exact ext_same (gAddZ _ _ _)))))); refine wpQuiet_nil ?_; exact rfl)); (case' hc => (simp only [List.take_succ_cons, List.take_zero, List.drop_succ_cons, List.drop_zero, Nat.reduceSub]; intro W4 hW4; simp only [chainF])))
        go_wp2
        refine ⟨below_new _ _, fun W5 hW5 => ?_⟩
        have HO5 := Lib.hid ((HO.out.below hW4).below (Bw.step (below_new W4 _) hW5))
        have hb5 := Bw.step (Bw.step hbw hW4) (Bw.step (below_new W4 _) hW5)
        have hsz := hb5.size
        have hR5 := (RdB.one W4 (y * u + v) _ 1).below hW5
        go_wp2_with (at_builtin; refine wpList_appB47 W5 rfl (.tmp 32) (.tmp 44) rfl w.heap.size _ Lp rfl HO5.out _ 1 1 [y * u + v] rfl hR5 (by simp; omega) hsz ?_; intro v6 w6 ho6 hg6 _)
        have hb6 := grown_below hg6 HO5.out hsz
        go_roundw
        case rel => first | exact ⟨k + 1, by omega, by go_num, by rw [HS.out]; exact ho6, hb5.trans hb6⟩ | ((repeat apply Exists.intro); exact ⟨⟨k + 1, by omega, by go_num, by rw [HS.out]; exact ho6, hb5.trans hb6⟩, rfl⟩)
        case measure => simp [intOf] <;> omega
      · obtain rfl : k = N := by omega
        have RA := (HRA.out.below hbw).take hNn
        have RB := (HRB.out.below hbw).take hNm
        obtain ⟨A1, c1, rfl⟩ := ho.form
        have hla : (a.take k).length = k := RA.1
        have hlb : (b.take k).length = k := RB.1
        have HLA := Lib.hid hla
        have HLB := Lib.hid hlb
        have hls : (addW (scW y (a.take k)) b).length = k := by rw [addW_len, scW_len, hla]
        have hes : addW (scW y (a.take k)) b = addW (scW y (a.take k)) (b.take k) := by
          have := addW_take (scW y (a.take k)) b (by rw [scW_len, hla, HRB.out.1]; exact hNm)
          rw [scW_len, hla] at this
          exact this.symm
        have RS := ho.rd.1
        rw [hls] at RS ⊢
        rw [hes] at RS
        clear hes hls ho hla hlb hlt
        generalize a.take k = a' at *
        generalize b.take k = b' at *
        have HBW := Lib.hid hbw
        have HRS := Lib.hid RS
        have HR1 := Lib.hid RA
        have HR2 := Lib.hid RB
        clear HRA HRB RA RB RS hbw
        by_cases hbad : dF k p = (0, 0)
        · rcases dF_cases k p with ⟨r, rfl, h1, h2, h3, h⟩ | ⟨_, h⟩ | ⟨_, _, h⟩
          · have BW := HBW.out
            clear h hbad
            go_wp2_with fail
            refine (Encode_ok _ _ _ _ _ _ HR1.out h1 h2 h3).mono ?_
            rintro e w2 ⟨A2, c2, xa, rfl, ho2, hE2, hb2⟩
            have R2 := ho2.rd.1
            have F2 := Has.new w2 0 0 24
            have RB := (HR2.out.below hb2).al (.cells #[.int .i64 0, .int .i64 0] 24)
            have RS := (HRS.out.below hb2).al (.cells #[.int .i64 0, .int .i64 0] 24)
            have BW := Bw.step BW hb2
            have HE2 := Lib.hid hE2
            clear ho2 hE2
            go_wp2_with fail
            refine (Encode_ok _ _ _ _ _ _ RB h1 h2 h3).mono ?_
            rintro e w3 ⟨A3, c3, xb, rfl, ho3, hE3, hb3⟩
            ((first | replace BW := Bw.step BW hb3 | replace BW := Bw.step (Bw.al BW _) hb3 | replace BW := Bw.step (Bw.al (Bw.al BW _) _) hb3 | replace BW := Bw.step (Bw.al (Bw.al (Bw.al BW _) _) _) hb3 | replace BW := Bw.step (Bw.al (Bw.al (Bw.al (Bw.al BW _) _) _) _) hb3 | replace BW := Bw.step (Bw.al (Bw.al (Bw.al (Bw.al (Bw.al BW _) _) _) _) _) hb3 | replace BW := Bw.step (Bw.al (Bw.al (Bw.al (Bw.al (Bw.al (Bw.al BW _) _) _) _) _) _) hb3); (first | replace R2 := R2.below hb3 | replace R2 := (R2.al _).below hb3 | replace R2 := ((R2.al _).al _).below hb3 | replace R2 := (((R2.al _).al _).al _).below hb3 | replace R2 := ((((R2.al _).al _).al _).al _).below hb3 | replace R2 := (((((R2.al _).al _).al _).al _).al _).below hb3 | replace R2 := ((((((R2.al _).al _).al _).al _).al _).al _).below hb3); (first | replace F2 := F2.below hb3 | replace F2 := (F2.al _).below hb3 | replace F2 := ((F2.al _).al _).below hb3 | replace F2 := (((F2.al _).al _).al _).below hb3 | replace F2 := ((((F2.al _).al _).al _).al _).below hb3 | replace F2 := (((((F2.al _).al _).al _).al _).al _).below hb3 | replace F2 := ((((((F2.al _).al _).al _).al _).al _).al _).below hb3))
            have RS := (RS.below hb3).al (.cells #[.int .i64 0, .int .i64 0] 24)
            have R3 := ho3.rd.1
            have F3 := Has.new w3 0 0 24
            have HE3 := Lib.hid hE3
            clear ho3 hE3
            go_wp2_with fail
            refine (Encode_ok _ _ _ _ _ _ RS h1 h2 h3).mono ?_
            rintro e w4 ⟨A4, c4, xc, rfl, ho4, hE4, hb4⟩
            ((first | replace BW := Bw.step BW hb4 | replace BW := Bw.step (Bw.al BW _) hb4 | replace BW := Bw.step (Bw.al (Bw.al BW _) _) hb4 | replace BW := Bw.step (Bw.al (Bw.al (Bw.al BW _) _) _) hb4 | replace BW := Bw.step (Bw.al (Bw.al (Bw.al (Bw.al BW _) _) _) _) hb4 | replace BW := Bw.step (Bw.al (Bw.al (Bw.al (Bw.al (Bw.al BW _) _) _) _) _) hb4 | replace BW := Bw.step (Bw.al (Bw.al (Bw.al (Bw.al (Bw.al (Bw.al BW _) _) _) _) _) _) hb4); (first | replace R2 := R2.below hb4 | replace R2 := (R2.al _).below hb4 | replace R2 := ((R2.al _).al _).below hb4 | replace R2 := (((R2.al _).al _).al _).below hb4 | replace R2 := ((((R2.al _).al _).al _).al _).below hb4 | replace R2 := (((((R2.al _).al _).al _).al _).al _).below hb4 | replace R2 := ((((((R2.al _).al _).al _).al _).al _).al _).below hb4); (first | replace R3 := R3.below hb4 | replace R3 := (R3.al _).below hb4 | replace R3 := ((R3.al _).al _).below hb4 | replace R3 := (((R3.al _).al _).al _).below hb4 | replace R3 := ((((R3.al _).al _).al _).al _).below hb4 | replace R3 := (((((R3.al _).al _).al _).al _).al _).below hb4 | replace R3 := ((((((R3.al _).al _).al _).al _).al _).al _).below hb4); (first | replace F2 := F2.below hb4 | replace F2 := (F2.al _).below hb4 | replace F2 := ((F2.al _).al _).below hb4 | replace F2 := (((F2.al _).al _).al _).below hb4 | replace F2 := ((((F2.al _).al _).al _).al _).below hb4 | replace F2 := (((((F2.al _).al _).al _).al _).al _).below hb4 | replace F2 := ((((((F2.al _).al _).al _).al _).al _).al _).below hb4); (first | replace F3 := F3.below hb4 | replace F3 := (F3.al _).below hb4 | replace F3 := ((F3.al _).al _).below hb4 | replace F3 := (((F3.al _).al _).al _).below hb4 | replace F3 := ((((F3.al _).al _).al _).al _).below hb4 | replace F3 := (((((F3.al _).al _).al _).al _).al _).below hb4 | replace F3 := ((((((F3.al _).al _).al _).al _).al _).al _).below hb4))
            have R4 := ho4.rd.1
            have F4 := Has.new w4 0 0 24
            have hxc : xc = addW (scW y xa) xb := IsEnc_unique (by rw [addW_len, scW_len, HLA.out]; exact h3) hE4 (lin_enc y (by rw [HLA.out, HLB.out]) HE2.out HE3.out)
            have hl2 : xa.length = k + r := by rw [HE2.out.1, HLA.out]
            have hl3 : xb.length = k + r := by rw [HE3.out.1, HLB.out]
            have hl4 : xc.length = k + r := by rw [hxc, addW_len, scW_len, hl2]
            have HG : Hid (∀ i, i < k + r → xc.getD i 0 = y * xa.getD i 0 + xb.getD i 0) := Lib.hid fun i hi => by
              rw [hxc, addW_get _ _ (by rw [scW_len, hl2]; exact hi), scW_get]
            have hRR : r + k ≤ 255 := by omega
            rw [hl2] at R2 ⊢
            rw [hl3] at R3 ⊢
            rw [hl4] at R4 ⊢
            generalize hMM : k + r = M at *
            have hM255 : M ≤ 255 := by omega
            clear hMM hl2 hl3 hl4 hxc hE4 ho4
            have F2 := F2.al (.cells #[.int .i64 0, .int .i64 0] 24)
            have F3 := F3.al (.cells #[.int .i64 0, .int .i64 0] 24)
            obtain ⟨l2, c20, c21, f20, f21⟩ := id F2
            obtain ⟨l3, c30, c31, f30, f31⟩ := id F3
            obtain ⟨l4, c40, c41, f40, f41⟩ := id F4
            have HR2 := Lib.hid (R2.al (.cells #[.int .i64 0, .int .i64 0] 24))
            have HR3 := Lib.hid (R3.al (.cells #[.int .i64 0, .int .i64 0] 24))
            have HR4 := Lib.hid (R4.al (.cells #[.int .i64 0, .int .i64 0] 24))
            have BW := Bw.al BW (.cells #[.int .i64 0, .int .i64 0] 24)
            go_wp2
            clear l2 c20 c21 f20 f21 l3 c30 c31 f30 f31 l4 c40 c41 f40 f41 F2 F3 F4 R2 R3 R4 hb2 hb3 hb4 RB
            generalize w4.alloc (.cells #[.int .i64 0, .int .i64 0] 24) = W at *
            go_loopw [18] (fun i wr => ∃ j : Nat, j ≤ M ∧ i = .int .i64 j ∧ Below W.heap.size W wr) (fun i _ => M - (intOf i).toNat)
            case atStart => exact ⟨0, Nat.zero_le _, rfl, Below.refl _ _⟩
            case round =>
              obtain ⟨j, hj, rfl, hb5⟩ := hrel
              by_cases hlt : j < M
              · obtain ⟨b2, o2, rfl, hl2, hc2⟩ := rd_cell (HR2.out.below hb5) (i := j) hlt
                obtain ⟨b3, o3, rfl, hl3, hc3⟩ := rd_cell (HR3.out.below hb5) (i := j) hlt
                obtain ⟨b4, o4, rfl, hl4, hc4⟩ := rd_cell (HR4.out.below hb5) (i := j) hlt
                have hg := HG.out j hlt
                have hc4' : wr.cell? ⟨b4, o4 + j, none⟩ = some (.int .u8 (y * cf xa j + cf xb j).z) := by rw [hc4]; unfold cf; rw [hg]
                have hx2 := fun x => cell_ext hl2 hc2 x
                have hx3 := fun x => cell_ext hl3 hc3 x
                have hx4 := fun x => cell_ext hl4 hc4' x
                clear hc4 hc4' hc2 hc3 hg
                generalize cf xa j = u2 at *
                generalize cf xb j = u3 at *
                have z1 : ((y * u2 + u3).z != (y * u2 + u3).z) = false := by simp
                go_wp2
                (refine wp_region_ext (by kernel_rfl) (by kernel_rfl) ?_; (repeat (go_big_quiet_step ((first | (go_at_call 26; exact ext_same (gMulZ _ _ _)) | (go_at_call 25; exact ext_same (gAddZ _ _ _)))))); refine wpQuiet_nil ?_; intro W6 hw'; have hW6 := ext_below hw'; clear hw')
                go_wp2
                go_roundw
                case rel => exact ⟨j + 1, by omega, by go_num, Bw.step hb5 hW6⟩
                case measure => simp [intOf]; omega
              · obtain rfl : j = M := by omega
                have BW6 := Bw.step BW hb5
                go_wp2_with (go_at_call 15; refine (coded_any _).mono ?_; rintro e w' ⟨rfl, hb9⟩)
                go_ret
                exact ⟨rfl, Bw.step BW6 hb9⟩
          · rw [h] at hbad; cases hbad
          · rw [h] at hbad; cases hbad
        · have HS := Lib.hid (fun A c w => Encode_bad A k c p w (by omega) hp hbad)
          have hc := dF_code hbad
          generalize (dF k p).1 = C at *
          generalize (dF k p).2 = F at *
          have xC : (C == 0) = false := by rw [beq_eq_false_iff_ne]; omega
          have xC2 : (C != 0) = true := by rw [bne_iff_ne]; omega
          have BW := HBW.out
          clear hbad hc
          go_wp2_with fail
          refine (HS.out _ _ _).mono ?_
          rintro e w2 ⟨rfl, hb2⟩
          have BW := Bw.step BW hb2
          have F2 := Has.new w2 C F 24
          go_wp2_with fail
          refine (HS.out _ _ _).mono ?_
          rintro e w3 ⟨rfl, hb3⟩
          ((first | replace BW := Bw.step BW hb3 | replace BW := Bw.step (Bw.al BW _) hb3 | replace BW := Bw.step (Bw.al (Bw.al BW _) _) hb3 | replace BW := Bw.step (Bw.al (Bw.al (Bw.al BW _) _) _) hb3 | replace BW := Bw.step (Bw.al (Bw.al (Bw.al (Bw.al BW _) _) _) _) hb3 | replace BW := Bw.step (Bw.al (Bw.al (Bw.al (Bw.al (Bw.al BW _) _) _) _) _) hb3 | replace BW := Bw.step (Bw.al (Bw.al (Bw.al (Bw.al (Bw.al (Bw.al BW _) _) _) _) _) _) hb3); (first | replace F2 := F2.below hb3 | replace F2 := (F2.al _).below hb3 | replace F2 := ((F2.al _).al _).below hb3 | replace F2 := (((F2.al _).al _).al _).below hb3 | replace F2 := ((((F2.al _).al _).al _).al _).below hb3 | replace F2 := (((((F2.al _).al _).al _).al _).al _).below hb3 | replace F2 := ((((((F2.al _).al _).al _).al _).al _).al _).below hb3))
          have F3 := Has.new w3 C F 24
          go_wp2_with fail
          refine (HS.out _ _ _).mono ?_
          rintro e w4 ⟨rfl, hb4⟩
          ((first | replace BW := Bw.step BW hb4 | replace BW := Bw.step (Bw.al BW _) hb4 | replace BW := Bw.step (Bw.al (Bw.al BW _) _) hb4 | replace BW := Bw.step (Bw.al (Bw.al (Bw.al BW _) _) _) hb4 | replace BW := Bw.step (Bw.al (Bw.al (Bw.al (Bw.al BW _) _) _) _) hb4 | replace BW := Bw.step (Bw.al (Bw.al (Bw.al (Bw.al (Bw.al BW _) _) _) _) _) hb4 | replace BW := Bw.step (Bw.al (Bw.al (Bw.al (Bw.al (Bw.al (Bw.al BW _) _) _) _) _) _) hb4); (first | replace F2 := F2.below hb4 | replace F2 := (F2.al _).below hb4 | replace F2 := ((F2.al _).al _).below hb4 | replace F2 := (((F2.al _).al _).al _).below hb4 | replace F2 := ((((F2.al _).al _).al _).al _).below hb4 | replace F2 := (((((F2.al _).al _).al _).al _).al _).below hb4 | replace F2 := ((((((F2.al _).al _).al _).al _).al _).al _).below hb4); (first | replace F3 := F3.below hb4 | replace F3 := (F3.al _).below hb4 | replace F3 := ((F3.al _).al _).below hb4 | replace F3 := (((F3.al _).al _).al _).below hb4 | replace F3 := ((((F3.al _).al _).al _).al _).below hb4 | replace F3 := (((((F3.al _).al _).al _).al _).al _).below hb4 | replace F3 := ((((((F3.al _).al _).al _).al _).al _).al _).below hb4))
          have F4 := Has.new w4 C F 24
          have F2 := F2.al (.cells #[.int .i64 C, .int .i64 F] 24)
          have F3 := F3.al (.cells #[.int .i64 C, .int .i64 F] 24)
          obtain ⟨l2, c20, c21, f20, f21⟩ := id F2
          obtain ⟨l3, c30, c31, f30, f31⟩ := id F3
          obtain ⟨l4, c40, c41, f40, f41⟩ := id F4
          go_wp2_with (go_at_call 15; refine (coded_any _).mono ?_; rintro e w' ⟨rfl, hb9⟩)
          go_ret
          exact ⟨rfl, Bw.step (Bw.al BW _) hb9⟩
end Go.Proofs.Ytpkaaiefnabfbab
