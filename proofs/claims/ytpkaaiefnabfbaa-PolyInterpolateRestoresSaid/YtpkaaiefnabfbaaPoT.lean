/- The walk of the law PolyInterpolateRestores. -/
import Derived.Test.YtpkaaiefnabfbaaPoS
namespace Go.Proofs.Ytpkaaiefnabfbaa
open Go.RowKit
set_option linter.unusedVariables false

/-- append of one byte; other slices that the call owns stay. -/
theorem wpList_app1K (w : World) {ops : Array Oper} {rest : List Oper} {o : Oper} {a : Act} {Q : Exit → Act → World → Prop} (hgd : o.guard = none) (s x : Operand)
    (ho : o.op = .call { callee := .builtin .append, args := #[s, x], argTypes := #[22, 22] }) (B : Nat)
    (v : Value) (l : List GF) (hown : OwB w B v l) (hs : a.eval s = v) (y : GF) (t : TypeId) (hx : a.eval x = .slice (some ⟨w.heap.size, 0, none⟩) 1 1)
    (hlen : l.length ≤ 1099511627000) (hbase : B ≤ w.heap.size)
    (h : ∀ v' w', OwB w' B v' (l ++ [y]) → Below B w w' → (∀ u L, OwB w B u L → (u.ownBlock = none ∨ u.ownBlock ≠ v.ownBlock) → OwB w' B u L ∧ (u.ownBlock = none ∨ u.ownBlock ≠ v'.ownBlock)) → wpList Try.prog ops Q rest (a.put o.dst v') w') : wpList Try.prog ops Q (o :: rest) a (w.alloc (.cells #[.int .u8 y.z] t)) := by
  refine wpList_appB _ hgd s x ho B v l hs (hown.below (below_new w _)) (some ⟨w.heap.size, 0, none⟩) 1 1 [y] hx (RdB.one w y t 1) (by simp; omega) (by simp; omega) (fun v' w' h1 h2 h3 => h v' w' h1 ?_ ?_)
  · exact ((below_new w _).mono hbase).trans (grown_below h2 (hown.below (below_new w _)) (by simp; omega))
  · intro u L hu hne
    refine ⟨World.ownsRow.kept (OwB.below hu (below_new w _)) h2 hne, ?_⟩
    cases hb : u.ownBlock with
    | none => exact .inl rfl
    | some g =>
      right
      have hlt := (World.ownsRow.lt hu g hb).2
      rcases h3 with h3 | h3
      · rw [h3]
        rcases hne with h | h
        · rw [h] at hb; cases hb
        · rw [← hb]; exact h
      · rw [h3]
        intro e
        have : g = (w.alloc (.cells #[.int .u8 y.z] t)).heap.size := Option.some.inj e
        simp at this
        omega
theorem sl_al' (w : World) (o : Obj) : Value.slice (some ⟨w.heap.size + 1, 0, none⟩) 1 1 = .slice (some ⟨(w.alloc o).heap.size, 0, none⟩) 1 1 := by rw [World.size_alloc]
theorem sep_symm {a b : Option Nat} (h : b = none ∨ b ≠ a) : a = none ∨ a ≠ b := by
  cases a with
  | none => exact .inl rfl
  | some g => exact .inr fun e => h.elim (fun h => by rw [h] at e; cases e) (fun h => h e.symm)
def xk (s : GF) (k : Nat) : GF := GF.mk ((s.v + k) % 256) (Nat.mod_lt _ (by decide))
def xsL (s : GF) (n : Nat) : List GF := (List.range n).map (xk s)
def ysL (a : List GF) (s : GF) (n : Nat) : List GF := (List.range n).map fun k => valL a (xk s k)
theorem xsL_len (s : GF) (n : Nat) : (xsL s n).length = n := by simp [xsL]
theorem ysL_len (a : List GF) (s : GF) (n : Nat) : (ysL a s n).length = n := by simp [ysL]
theorem xsL_succ (s : GF) (n : Nat) : xsL s (n + 1) = xsL s n ++ [xk s n] := by simp [xsL, List.range_succ]
theorem ysL_succ (a : List GF) (s : GF) (n : Nat) : ysL a s (n + 1) = ysL a s n ++ [valL a (xk s n)] := by simp [ysL, List.range_succ]
theorem xsL_get (s : GF) {n i : Nat} (hi : i < n) : (xsL s n).getD i 0 = xk s i := by simp [xsL, List.getD, hi]
theorem ysL_get (a : List GF) (s : GF) {n i : Nat} (hi : i < n) : (ysL a s n).getD i 0 = valL a (xk s i) := by simp [ysL, List.getD, hi]
theorem xk_inj {s : GF} {i j : Nat} (hi : i < 256) (hj : j < 256) (h : xk s i = xk s j) : i = j := by
  have := congrArg GF.v h
  unfold xk at this
  rw [GF.v_mk, GF.v_mk] at this
  have := s.lt
  omega
theorem xsL_takes (s : GF) {n : Nat} (hn : n ≤ 255) : ∀ i, i < n → (xsL s n).getD i 0 ∉ (xsL s n).take i := by
  intro i hi hm
  obtain ⟨j, hj, e⟩ := List.mem_iff_getElem.1 hm
  rw [List.length_take, xsL_len] at hj
  have e2 : (xsL s n).getD j 0 = (List.take i (xsL s n))[j]'(by rw [List.length_take, xsL_len]; exact hj) := by simp [List.getD, xsL_len, show j < n by omega]
  rw [← e2, xsL_get s hi, xsL_get s (show j < n by omega)] at e
  have := xk_inj (by omega) (by omega) e
  omega
theorem trim_val (a : List GF) (x : GF) : valL (trimL a) x = valL a x := by
  rw [valL_of x (cf_trim a) (degB_cf a)]
  exact (valL_of x rfl (degB_cf a)).symm
theorem restores {a : List GF} {s : GF} {n : Nat} (hn : n ≤ 255) (ha : a.length ≤ n) {p : List GF} (hp : IntU (xsL s n) (ysL a s n) n p) : p = trimL a := by
  have hnd : (xsL s n).Nodup := nodup_of_takes (by rw [xsL_len]; exact xsL_takes s hn)
  have h2 : IntU (xsL s n) (ysL a s n) (xsL s n).length (trimL a) := by
    rw [xsL_len]
    exact ⟨Tr_trim a, Nat.le_trans (trim_len_le a) ha, fun k hk => by rw [xsL_get s hk, ysL_get a s hk, trim_val]⟩
  refine IntU_unique hnd ?_ h2
  rw [xsL_len]; exact hp
set_option maxRecDepth 100000 in
set_option maxHeartbeats 4000000 in
theorem walkPolyInterpolateRestores (A : Option Addr) (n c : Nat) (zs : List Int) (q more : Int) (w : World) (w0 : IsRow .u8 w A n c zs) (w1 : (Lit.int .u8 q).wf = true) (w2 : (Lit.int .i64 more).wf = true) (r0 : n * 1 ≤ 140737488355328) :
    Calls Try.prog 12 #[.slice A n c, .int .u8 q, .int .i64 more] w fun e w' => e = .returned (.bool true) ∧ Below w.heap.size w w' := by
  obtain ⟨a, RA, hn, hc⟩ := w0.bytes2
  obtain ⟨s, rfl⟩ := GF.of_z (wfu8 w1)
  clear w0 w1
  by_cases hm : more < 0
  · have hmod : -3 < more.tmod 3 ∧ more.tmod 3 < 3 := ⟨by have := Int.tmod_eq_emod_of_nonneg (a := -more) (b := 3) (by omega); have h2 := Int.neg_tmod more 3; have := Int.emod_lt_of_pos (-more) (show (0 : Int) < 3 by decide); omega, by have := Int.tmod_eq_emod_of_nonneg (a := -more) (b := 3) (by omega); have h2 := Int.neg_tmod more 3; have := Int.emod_nonneg (-more) (show (3 : Int) ≠ 0 by decide); omega⟩
    generalize more.tmod 3 = t at *
    have hd : decide (more < 0) = true := by simp only [decide_eq_true_eq]; exact hm
    go_enter Try.func12, Try.ntmps12
    go_wp2_with (go_at_call 17; refine (expanded_any _).mono ?_; rintro e w' ⟨rfl, hb9⟩)
    go_ret
    exact ⟨rfl, hb9⟩
  · have hmod : more.tmod 3 = more % 3 := Int.tmod_eq_emod_of_nonneg (by omega)
    obtain ⟨t, ht⟩ := Int.eq_ofNat_of_zero_le (Int.emod_nonneg more (show (3 : Int) ≠ 0 by decide))
    have ht3 : t < 3 := by have := Int.emod_lt_of_pos more (show (0 : Int) < 3 by decide); omega
    rw [ht] at hmod
    have hd : decide (more < 0) = false := by simp only [decide_eq_false_iff_not]; exact hm
    have wn : IntKind.i64.wrap ((n : Int) + t) = ((n + t : Nat) : Int) := by rw [IntWalk.i64_in _ (by omega)]; omega
    by_cases h100 : 100 < n + t
    · have hd2 : (100 : Int) < n + t := by omega
      clear ht RA
      go_enter Try.func12, Try.ntmps12
      go_wp2_with (go_at_call 17; refine (expanded_any _).mono ?_; rintro e w' ⟨rfl, hb9⟩)
      go_ret
      exact ⟨rfl, hb9⟩
    · have hd2 : ¬ (100 : Int) < n + t := by omega
      have HA := Lib.hid RA
      clear ht RA
      go_enter Try.func12, Try.ntmps12
      go_wp2
      go_loopw [8, 9, 10] (fun u v i wr => ∃ k : Nat, k ≤ n + t ∧ i = .int .i64 k ∧ OwB wr w.heap.size u (xsL s k) ∧ OwB wr w.heap.size v (ysL a s k) ∧ (v.ownBlock = none ∨ v.ownBlock ≠ u.ownBlock) ∧ Below w.heap.size w wr) (fun _ _ i _ => n + t - (intOf i).toNat)
      case atStart => exact ⟨0, Nat.zero_le _, rfl, OwB.nil _ _, OwB.nil _ _, .inl rfl, Below.refl _ _⟩
      case round =>
        obtain ⟨k, hk, rfl, hu, hv, hsep, hbw⟩ := hrel
        by_cases hlt : k < n + t
        · have HU := Lib.hid hu
          have HV := Lib.hid hv
          have HSP := Lib.hid hsep
          have hkI : (k : Int) < n + t := by omega
          have hx : (s.z + (k : Int)) % 256 = (xk s k).z := by
            unfold xk GF.z
            rw [GF.v_mk]
            omega
          have HXS := Lib.hid (xsL_succ s k)
          have HYS := Lib.hid (ysL_succ a s k)
          have hl1 : (xsL s k).length ≤ 1000 := by rw [xsL_len]; omega
          have hl2 : (ysL a s k).length ≤ 1000 := by rw [ysL_len]; omega
          clear hu hv hsep
          generalize xk s k = x at *
          generalize xsL s k = X at *
          generalize ysL a s k = Y at *
          go_wp2_with fail
          refine (poValueP_ok _ _ _ a x _ (HA.out.below hbw) (by omega)).mono ?_
          rintro e w2 ⟨rfl, hb2⟩
          have BW := Lib.hid (Bw.al (Bw.step hbw hb2) (.cells #[.int .i64 0, .int .i64 0] 24))
          have HU2 := Lib.hid ((HU.out.below hb2).below (below_new w2 (.cells #[.int .i64 0, .int .i64 0] 24)))
          have HV2 := Lib.hid ((HV.out.below hb2).below (below_new w2 (.cells #[.int .i64 0, .int .i64 0] 24)))
          obtain ⟨l0, c00, c01, f00, f01⟩ := Has.new w2 0 0 24
          have hsz := BW.out.size
          have hsW : (w2.alloc (.cells #[.int .i64 0, .int .i64 0] 24)).heap.size = w2.heap.size + 1 := by simp
          generalize valL a x = y at *
          go_wp2_with (first
            | (at_builtin; refine wpList_app1K (w2.alloc (.cells #[.int .i64 0, .int .i64 0] 24)) rfl (.tmp 46) (.tmp 48) rfl w.heap.size _ X HU2.out rfl x _ (sl_al' _ _) (by omega) hsz ?_; intro v6 w6 ho6 hb6 hkp6)
            | (at_builtin; refine wpList_app1K w6 rfl (.tmp 50) (.tmp 52) rfl w.heap.size _ Y (hkp6 _ _ HV2.out HSP.out).1 rfl y _ rfl (by omega) (BW.out.trans hb6).size ?_; intro v7 w7 ho7 hb7 hkp7))
          obtain ⟨HV6, hsp6⟩ := hkp6 _ _ HV2.out HSP.out
          have BW6 := Lib.hid (BW.out.trans hb6)
          have HOO := Lib.hid ho6
          obtain ⟨HU7, hsp7⟩ := hkp7 _ _ HOO.out (sep_symm hsp6)
          have HUU := Lib.hid HU7
          have HSS := Lib.hid (sep_symm hsp7)
          clear hkp7 HU7 hsp7 hsp6
          go_roundw
          case rel => first | exact ⟨k + 1, by omega, by go_num, by rw [HXS.out]; exact HUU.out, by rw [HYS.out]; exact ho7, HSS.out, BW6.out.trans hb7⟩ | ((repeat apply Exists.intro); exact ⟨⟨k + 1, by omega, by go_num, by rw [HXS.out]; exact HUU.out, by rw [HYS.out]; exact ho7, HSS.out, BW6.out.trans hb7⟩, rfl⟩)
          case measure => simp [intOf] <;> omega
        · obtain rfl : k = n + t := by omega
          obtain ⟨A1, c1, rfl⟩ := hu.form
          obtain ⟨A2, c2, rfl⟩ := hv.form
          have R1 := hu.rd.1
          have R2 := hv.rd.1
          have hcap := hu.cap.1
          rw [xsL_len] at R1 hcap ⊢
          rw [ysL_len] at R2 ⊢
          have hN : n + t ≤ 255 := by omega
          have HO := Lib.hid (poInter_ok A1 A2 (n + t) c1 c2 _ _ wr R1 R2 hN hcap (xsL_takes s hN))
          have HRE := Lib.hid (fun p => restores (a := a) (s := s) (p := p) hN (by rw [HA.out.1]; omega))
          have hnl : n ≤ 100 := by omega
          clear hu hv hsep hcap R1 R2
          generalize hNN : n + t = N at *
          have hcast : (n : Int) + t = (N : Int) := by omega
          clear hNN
          go_wp2_with fail
          refine HO.out.mono ?_
          rintro e w2 ⟨A3, c3, p, rfl, ho3, hI, hb2⟩
          obtain rfl := HRE.out _ hI
          have BW := Bw.step hbw hb2
          have R3 := ho3.rd.1.al (.cells #[.int .i64 0, .int .i64 0] 24)
          obtain ⟨l0, c00, c01, f00, f01⟩ := Has.new w2 0 0 24
          have s1 := Lib.hid (sameB_self (trimL a))
          clear ho3 hI
          go_wp2_with fail
          refine (rTrim_any A n c a _ ((HA.out.below BW).al _) hc (by omega)).mono ?_
          rintro e w3 ⟨A4, c4, rfl, ho4, hb3⟩
          have BW := Bw.step (Bw.al BW _) hb3
          have R4 := ho4.rd.1
          have R3 := R3.below hb3
          clear ho4
          go_wp2_with fail
          refine (refSame_any _ _ _ _ _ _ _ _ _ R3 R4).mono ?_
          rw [s1.out]
          rintro e w' ⟨rfl, rfl⟩
          go_wp2_with (go_at_call 17; refine (expanded_any _).mono ?_; rintro e w' ⟨rfl, hb9⟩)
          go_ret
          exact ⟨rfl, Bw.step BW hb9⟩
end Go.Proofs.Ytpkaaiefnabfbaa
