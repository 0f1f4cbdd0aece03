/- Cross pages: more pages missing than parity pages; the walk of that law. -/
import Derived.Test.YtcinfkmekkdhfaaCqL
import Derived.SizedLaws
namespace Go.Proofs.Ytcinfkmekkdhfaa
open Go.RowKit Go.Shelf
set_option linter.unusedVariables false
attribute [local go_sem] Oper.semAt_some

theorem mat_room {H : Type} {enc : TypeId × Value → H} {P : Program} {w : World} {base : Nat} {held : Bool} {t e q : TypeId} {k : IntKind} {fuel : Nat} {a : Option Addr} {len cap : Nat} {cs : List Value} {x : DataW H × List MemPlace} (ht : P.underlying t = some (.slice e)) (he : P.underlying e = some (.slice q)) (hq : P.underlying q = some (.int k))
    (ce : P.cellsOf e = 1) (cq : P.cellsOf q = 1) (hcs : cs = [.slice a len cap]) (h : DataW.trod enc P w base (fun _ => true) held fuel t cs = some x) (hsz : ∀ es sp, x.1 = .slice es sp → (es.length + sp.length) * 24 ≤ reachBytes) : ∃ A L C Z, IsMat k w a len cap A L C Z ∧ len * 24 ≤ 140737488355328 := by
  obtain ⟨A, L, C, Z, hm⟩ := mat_of ht he hq ce cq hcs h
  refine ⟨A, L, C, Z, hm, ?_⟩
  rcases Go.Deep.open_int_rows ht he hq ce cq h with ⟨h1, _⟩ | ⟨x', len', cap', A', L', C', Z', h1, hb, hl, hm', hx, hr⟩
  · rw [hcs] at h1
    injection h1 with h1 _
    injection h1 with e1 e2 e3
    omega
  · rw [hcs] at h1
    injection h1 with h1 _
    injection h1 with e1 e2 e3
    subst e1 e2 e3
    have := hsz _ _ (by rw [hx])
    simp only [List.length_map, List.length_range] at this
    have hr := reachBytes_lt
    omega
def nonZ (m : Nat) : List (List Int) := List.replicate m []
theorem nonZ_get (m k : Nat) : (nonZ m).getD k [] = [] := by
  by_cases h : k < m <;> simp [nonZ, List.getD, h]
theorem unk_non {P : List (List GF)} {m k t : Nat} : unkP P (nonZ m) k t ↔ (P.getD k []).length = 0 := by
  unfold unkP
  rw [nonZ_get]
  simp
theorem er_non (P : List (List GF)) (m k t : Nat) : erN P (nonZ m) k t = erN P (nonZ m) k 0 := by
  unfold erN
  exact List.filter_congr fun j _ => decide_eq_decide.2 (by rw [unk_non, unk_non])
theorem nils_rd (w : World) (m : Nat) (hm : m ≤ 9223372036854775807) : RdMI (w.alloc (.cells (nilsM m) 40)) (some ⟨w.heap.size, 0, none⟩) m (nonZ m) := by
  refine ⟨by simp [nonZ], fun hn => ⟨_, 0, rfl, by simp, fun i hi => ⟨none, 0, ?_, ?_⟩⟩⟩
  · rw [nonZ_get, Nat.zero_add]
    have h := own_made w w.heap.size 40 (.slice none 0 0) m (Nat.le_refl _) (by unfold maxLen; omega)
    have := World.ownsRow.cellAt (g := w.heap.size) (cap := m) h i (by omega)
    refine this.trans ?_
    simp [hi]
  · rw [nonZ_get]
    exact RdI.nil _ _
theorem run_makeMJ (n : Nat) (hn : n * 24 ≤ 140737488355328) (w : World) : (Instr.makeSlice 32 (.int .i64 (n : Int)) (.int .i64 (n : Int))).run Try.prog w = .ok (.slice (some ⟨w.heap.size, 0, none⟩) n n) (w.alloc (.cells (nilsM n) 40)) :=
  run_make_row' 32 40 (.slice none 0 0) 24 Try.underlying32 infoSI rfl .i64 .i64 n (by omega) (by omega) w
theorem over_rows {P : List (List GF)} {m p n f : Nat} {L : List (List GF)} {G : List (List Int)} (hP : P.length = m) (hg : PgsOk P m p n f) (ho : p < (erN P (nonZ m) m 0).length) (h : ResOK P (nonZ m) m p n L G) {k : Nat} (hk : k < m - p) :
    ((P.getD k []).length = 0 → (G.getD k []).length = n) ∧ (0 < (P.getD k []).length → G.getD k [] = [] ∧ L.getD k [] = P.getD k []) := by
  have hov : ∀ t, p < (erN P (nonZ m) m t).length := fun t => by rw [er_non]; exact ho
  obtain ⟨h1, h2, h3⟩ := h.2.2 k hk
  refine ⟨fun h0 => h3.all fun t ht => (over_gone (hov t)).2 (unk_non.2 h0), fun h0 => ⟨h3.none fun t ht hg' => ?_, eq_of_getDn (d := 0) ?_ fun t ht => ?_⟩⟩
  · have := unk_non.1 ((over_gone (hov t)).1 hg')
    omega
  · rw [h1]; rcases hg.hl k (by omega) with e | e <;> omega
  · rw [h1] at ht
    rw [over_byte (hov t) (by omega) (h2 t ht), if_neg (fun hu => by have := unk_non.1 hu; omega)]
set_option maxRecDepth 100000 in
set_option maxHeartbeats 4000000 in
theorem walkCrosspageTellsLosses (a0 : Option Addr) (len0 cap0 : Nat) (A0 : Nat → Option Addr) (L0 C0 : Nat → Nat) (Z0 : Nat → List Int) (a1 : Int) (w : World) (h0 : IsMat .u8 w a0 len0 cap0 A0 L0 C0 Z0) (h1 : (Lit.int .i64 a1).wf = true) (room0 : len0 * 24 ≤ 140737488355328) :
    Calls Try.prog 7 #[.slice a0 len0 cap0, .int .i64 a1] w fun e w' => e = .returned (.bool true) ∧ Below w.heap.size w w' := by
  obtain ⟨P, hP, -, hPl⟩ := h0.bytes
  have hpl : ∀ i, i < len0 → (P.getD i []).length ≤ 9223372036854775807 := fun i hi => by rw [hPl i hi]; exact h0.len i hi
  have hsp := res_split len0 len0 a1 P (nonZ len0) hpl (fun i hi => by rw [nonZ_get]; exact Nat.zero_le _)
  clear h0 h1 hPl hpl
  have HP := Lib.hid hP
  have HMK := run_makeMJ len0 room0
  have HZ := Lib.hid (nils_rd w len0 (by omega))
  have HP1 := Lib.hid (hP.below (below_new w (.cells (nilsM len0) 40)))
  clear hP
  rcases hsp with ⟨C, I, hC, hS⟩ | ⟨q, n, f, rfl, hq, hG, hI, hS⟩
  · have HS := Lib.hid hS
    have xC : (C == 0) = false := by rw [beq_eq_false_iff_ne]; exact hC
    clear hS hC
    go_enter Try.func7, Try.ntmps7
    go_wp2_with fail
    refine (HS.out _ _ _ _ _ HP1.out HZ.out).2.mono ?_
    rintro e w1 ⟨rfl, hb1⟩
    have B1 := Bw.step (below_new w _) hb1
    clear hb1
    go_wp2_with (go_at_call 11; refine (extended_any _).mono ?_; rintro e w3 ⟨rfl, hb3⟩)
    go_ret
    exact ⟨rfl, Bw.step B1 hb3⟩
  · have HS := Lib.hid hS
    have HG := Lib.hid hG
    have HI := Lib.hid hI
    have hd1 : len0 ≤ 64 ∧ q + 1 ≤ len0 := by have := hG.h2; have := hG.h1; have := hG.hp; omega
    have hn1 := hG.hn1
    have hn2 := hG.hn2
    have HPL := Lib.hid hG.hl
    have HPS := Lib.hid (fun W (hW : RdM W a0 len0 P) => (show Calls Try.prog 21 #[.slice a0 len0 cap0] W fun e w' => e = .returned (.int .i64 (n : Int)) ∧ Below W.heap.size W w' from by
      have := pageSize_hit a0 len0 cap0 f P W hW (by omega) hG.hb (by rw [hG.hn]; exact hG.hn1) hG.hbad
      rw [hG.hn] at this
      exact this))
    clear hS hG hI hq room0
    go_enter Try.func7, Try.ntmps7
    go_wp2_with fail
    refine (HS.out _ _ _ _ _ HP1.out HZ.out).mono ?_
    rintro e w1 ⟨rfl, hb1⟩
    have HZ1 := Lib.hid (HZ.out.below hb1)
    have HP2 := Lib.hid (HP1.out.below hb1)
    have HB1 := Lib.hid (Bw.step (below_new w _) hb1)
    clear hb1 HMK
    go_wp2
    obtain ⟨W1, rfl⟩ : ∃ W : World, W = w1 := ⟨_, rfl⟩
    go_loopw [6, 7] (fun u i wr => ∃ k : Nat, k ≤ len0 ∧ i = .int .i64 k ∧ u = .int .i64 ((erN P (nonZ len0) k 0).length : Nat) ∧ wr = W1) (fun _ i _ => len0 - (intOf i).toNat)
    case atStart => exact ⟨0, Nat.zero_le _, rfl, rfl, rfl⟩
    case round =>
      obtain ⟨k, hk, rfl, rfl, rfl⟩ := hrel
      by_cases hlt : k < len0
      · obtain ⟨b1, q1, rfl, hb1, hc1⟩ := HP2.out.2 (by omega)
        obtain ⟨A1, c1, e1, r1⟩ := hc1 k hlt
        have hel := erN_len P (nonZ len0) k 0
        clear hc1 r1
        rcases HPL.out k hlt with h0 | h0
        · have HE := Lib.hid (show (erN P (nonZ len0) (k + 1) 0).length = (erN P (nonZ len0) k 0).length + 1 by rw [erN_yes (unk_non.2 h0)]; simp)
          rw [h0] at e1
          clear h0
          generalize (erN P (nonZ len0) k 0).length = ce at *
          go_wp2
          go_roundw
          case rel => exact ⟨k + 1, by omega, by go_num, by rw [HE.out]; go_num, by first | trivial | rfl⟩
          case measure => simp [intOf]; omega
        · have HE := Lib.hid (show (erN P (nonZ len0) (k + 1) 0).length = (erN P (nonZ len0) k 0).length by rw [erN_no (fun h => by have := unk_non.1 h; omega)])
          rw [h0] at e1
          have hq2 : ((n : Int) == 0) = false := by rw [beq_eq_false_iff_ne]; omega
          clear h0
          generalize (erN P (nonZ len0) k 0).length = ce at *
          go_wp2
          go_roundw
          case rel => exact ⟨k + 1, by omega, by go_num, by rw [HE.out], by first | trivial | rfl⟩
          case measure => simp [intOf]; omega
      · obtain rfl : len0 = k := by omega
        obtain ⟨W1, rfl⟩ : ∃ W : World, W = wr := ⟨_, rfl⟩
        have hel := erN_len P (nonZ len0) len0 0
        by_cases hq : (erN P (nonZ len0) len0 0).length ≤ q
        · have hd2 : decide ((((erN P (nonZ len0) len0 0).length : Nat) : Int) ≤ (q : Int)) = true := by simp only [decide_eq_true_eq]; omega
          have hd3 : decide ((erN P (nonZ len0) len0 0).length ≤ q) = true := decide_eq_true hq
          generalize (erN P (nonZ len0) len0 0).length = ce at *
          clear hq
          go_wp2_with (go_at_call 11; refine (extended_any _).mono ?_; rintro e w3 ⟨rfl, hb3⟩)
          go_ret
          exact ⟨rfl, Bw.step HB1.out hb3⟩
        · have hd2 : decide ((((erN P (nonZ len0) len0 0).length : Nat) : Int) ≤ (q : Int)) = false := by simp only [decide_eq_false_iff_not]; omega
          have hd3 : decide ((erN P (nonZ len0) len0 0).length ≤ q) = false := decide_eq_false hq
          have HOV := Lib.hid (show q < (erN P (nonZ len0) len0 0).length by omega)
          generalize hce : (erN P (nonZ len0) len0 0).length = ce at *
          have HCE := Lib.hid hce
          clear hq hce
          obtain ⟨d, hd⟩ : ∃ d, len0 - q = d := ⟨_, rfl⟩
          have HD := Lib.hid hd
          have ed : (len0 : Int) - (q : Int) = (d : Int) := by omega
          have ed2 : IntKind.i64.wrap ((len0 : Int) - q) = (d : Int) := by rw [IntWalk.i64_in _ (by omega)]; exact ed
          have hdl : 1 ≤ d ∧ d ≤ len0 := by omega
          clear hd
          go_wp2_with fail
          refine (restore_ok a0 (some ⟨w.heap.size, 0, none⟩) len0 cap0 len0 q n f d HD.out P (nonZ len0) W1 HP2.out HZ1.out HG.out HI.out).mono ?_
          rintro e w2 ⟨o1, o2, L, G, rfl, hR1, hR2, hE, hb2⟩
          have HROW := Lib.hid (fun k (hk : k < d) => over_rows HP.out.1 HG.out (by rw [HCE.out]; exact HOV.out) hE (by rw [HD.out]; exact hk))
          have F1 := Has.new w2 0 0 24
          have b2 : Below W1.heap.size W1 (w2.alloc (.cells #[.int .i64 0, .int .i64 0] 24)) := Bw.al hb2 _
          have HR1 := Lib.hid (hR1.below (below_new w2 (.cells #[.int .i64 0, .int .i64 0] 24)))
          have HR2 := Lib.hid (hR2.below (below_new w2 (.cells #[.int .i64 0, .int .i64 0] 24)))
          have HP3 := Lib.hid (HP2.out.below b2)
          have HB3 := Lib.hid (Bw.step HB1.out b2)
          clear hR1 hR2 hE hb2 b2
          obtain ⟨l1, c10, c11, f10, f11⟩ := id F1
          go_wp2
          clear l1 c10 c11 f10 f11 F1 ed ed2 hd2 hd3
          generalize w2.alloc (.cells #[.int .i64 0, .int .i64 0] 24) = W3 at *
          generalize w2.heap.size = gf at *
          go_loopw [11] (fun i wr => ∃ k : Nat, k ≤ d ∧ i = .int .i64 k ∧ Below W3.heap.size W3 wr) (fun i _ => d - (intOf i).toNat)
          case atStart => exact ⟨0, Nat.zero_le _, rfl, Below.refl _ _⟩
          case round =>
            obtain ⟨k, hk, rfl, hbr⟩ := hrel
            have HBR := Lib.hid hbr
            by_cases hkd : k < d
            · obtain ⟨b1, q1, rfl, hb1, hc1⟩ := (HP3.out.below hbr).2 (by omega)
              obtain ⟨b3, q3, e0, hb3, hc3⟩ := (HR1.out.below hbr).2 (by omega)
              injection e0 with e0
              injection e0 with e1 e2
              subst e1 e2
              obtain ⟨b4, q4, e0, hb4, hc4⟩ := (HR2.out.below hbr).2 (by omega)
              injection e0 with e0
              injection e0 with e1 e2
              subst e1 e2
              obtain ⟨A1, c1, e1, r1⟩ := hc1 k (by omega)
              obtain ⟨A3, c3, e3, r3⟩ := hc3 k hkd
              obtain ⟨A4, c4, e4, r4⟩ := hc4 k hkd
              obtain ⟨g1, g2⟩ := HROW.out k hkd
              rw [Nat.zero_add] at e3 e4
              have RR1 := Lib.hid r1
              have RR3 := Lib.hid r3
              have HPW := Lib.hid (HP3.out.below hbr)
              clear hc1 hc3 hc4 r1 r3 r4 hbr
              rcases HPL.out k (by omega) with h0 | h0
              · skip
                rw [h0] at e1
                rw [g1 h0] at e4
                clear g1 g2 h0
                generalize (L.getD k []).length = lz at *
                go_wp2
                have hx1 := fun x : Ext wr => (x.below.cell (p := ⟨b1, q1 + k, none⟩) hb1).trans e1
                have hx4 := fun x : Ext wr => (x.below.cell (p := ⟨o2, k, none⟩) hb4).trans e4
                (refine wp_region_ext (by kernel_rfl) (by kernel_rfl) ?_; (repeat (go_big_quiet_step ((go_at_call 21; exact ext_call (HPS.out _ (HPW.out.below (Ext.below _))))))); refine wpQuiet_nil ?_; intro W5 hw'; have hW5 := ext_below hw'; clear hw')
                clear hx1 hx4
                have e1' := (hW5.cell (p := ⟨b1, q1 + k, none⟩) hb1).trans e1
                have HB5 := Lib.hid (HBR.out.trans (hW5.mono HBR.out.size))
                have hz5 := hW5.size
                clear hW5 e1 e3 e4
                go_wp2
                have hx1 := fun x : Ext W5 => (x.below.cell (p := ⟨b1, q1 + k, none⟩) (Nat.lt_of_lt_of_le hb1 hz5)).trans e1'
                (refine wp_region_ext (by kernel_rfl) (by kernel_rfl) ?_; (repeat (go_big_quiet_step ((fail)))); refine wpQuiet_nil ?_; intro W6 hw'; have hW6 := ext_below hw'; clear hw')
                clear hx1
                have HB6 := Lib.hid (HB5.out.trans (hW6.mono HB5.out.size))
                clear hW6
                go_wp2
                go_roundw
                case rel => first | exact ⟨k + 1, by omega, by go_num, HB6.out⟩ | ((repeat apply Exists.intro); exact ⟨⟨k + 1, by omega, by go_num, HB6.out⟩, rfl⟩)
                case measure => simp [intOf]; omega
              · skip
                obtain ⟨g3, g4⟩ := g2 (by omega)
                rw [g3] at e4
                rw [g4] at e3 RR3
                rw [h0] at e3 e1 RR3 RR1
                clear g1 g2 g3 g4 h0
                have hq1 : decide (0 < (n : Int)) = true := by simp only [decide_eq_true_eq]; omega
                have hq3 : decide (0 < n) = true := by simp only [decide_eq_true_eq]; omega
                have hq2 : ((n : Int) == 0) = false := by rw [beq_eq_false_iff_ne]; omega
                replace e4 : wr.cell? ⟨o2, k, none⟩ = some (.slice A4 0 c4) := e4
                generalize P.getD k [] = row at *
                go_wp2
                have hx1 := fun x : Ext wr => (x.below.cell (p := ⟨b1, q1 + k, none⟩) hb1).trans e1
                (refine wp_region_ext (by kernel_rfl) (by kernel_rfl) ?_; (repeat (go_big_quiet_step ((go_at_call 21; exact ext_call (HPS.out _ (HPW.out.below (Ext.below _))))))); refine wpQuiet_nil ?_; intro W5 hw'; have hW5 := ext_below hw'; clear hw')
                clear hx1
                have e1' := (hW5.cell (p := ⟨b1, q1 + k, none⟩) hb1).trans e1
                have e3' := (hW5.cell (p := ⟨o1, k, none⟩) hb3).trans e3
                have e4' := (hW5.cell (p := ⟨o2, k, none⟩) hb4).trans e4
                have S1 := Lib.hid (RR1.out.below hW5)
                have S3 := Lib.hid (RR3.out.below hW5)
                have HB5 := Lib.hid (HBR.out.trans (hW5.mono HBR.out.size))
                have hz5 := hW5.size
                clear hW5 e1 e3 e4
                go_wp2
                have hx1 := fun x : Ext W5 => (x.below.cell (p := ⟨b1, q1 + k, none⟩) (Nat.lt_of_lt_of_le hb1 hz5)).trans e1'
                have hx3 := fun x : Ext W5 => (x.below.cell (p := ⟨o1, k, none⟩) (Nat.lt_of_lt_of_le hb3 hz5)).trans e3'
                have hx4 := fun x : Ext W5 => (x.below.cell (p := ⟨o2, k, none⟩) (Nat.lt_of_lt_of_le hb4 hz5)).trans e4'
                (refine wp_region_ext (by kernel_rfl) (by kernel_rfl) ?_; (repeat (go_big_quiet_step ((go_at_call 20; exact ext_same (same_self _ _ _ _ _ _ row _ (S3.out.below (Ext.below _)) (S1.out.below (Ext.below _))))))); refine wpQuiet_nil ?_; intro W6 hw'; have hW6 := ext_below hw'; clear hw')
                clear hx1 hx3 hx4
                have HB6 := Lib.hid (HB5.out.trans (hW6.mono HB5.out.size))
                clear hW6
                go_wp2
                go_roundw
                case rel => first | exact ⟨k + 1, by omega, by go_num, HB6.out⟩ | ((repeat apply Exists.intro); exact ⟨⟨k + 1, by omega, by go_num, HB6.out⟩, rfl⟩)
                case measure => simp [intOf]; omega
            · obtain rfl : d = k := by omega
              clear hbr
              go_wp2_with (go_at_call 11; refine (extended_any _).mono ?_; rintro e w5 ⟨rfl, hb5⟩)
              go_ret
              exact ⟨rfl, Bw.step (HB3.out.trans (HBR.out.mono HB3.out.size)) hb5⟩
end Go.Proofs.Ytcinfkmekkdhfaa
