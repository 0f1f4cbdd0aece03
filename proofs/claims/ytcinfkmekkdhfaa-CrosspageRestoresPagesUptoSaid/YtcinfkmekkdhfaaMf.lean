/- Texts of this proof, laid together: XSvE, XSvF, XSvG, XSvH, XRsP, XDw. -/
import Derived.Test.YtcinfkmekkdhfaaMe
import Derived.Test.YtcinfkmekkdhfaaMd
import Derived.Test.YtcinfkmekkdhfaaMc
/- The walk of the reference's Solve. -/
namespace Go.Proofs.Ytcinfkmekkdhfaa
open Go.RowKit
set_option linter.unusedVariables false

/-- What Solve returns. -/
def SvPost (h u : Nat) (M0 : Mat) (w : World) (e : Ending) (w' : World) : Prop :=
  ∃ A' c' x ok, e = .returned (.tuple #[.slice A' u c', .bool ok]) ∧ OwB w' w.heap.size (.slice A' u c') x ∧ (ok = true → Sol h u M0 (cf x)) ∧ (ok = false → ∀ x, ¬ Sol h u M0 x) ∧ Below w.heap.size w w'
set_option maxRecDepth 100000 in
set_option maxHeartbeats 8000000 in
theorem rSolve_any (A Bb : Option Addr) (h c n cb u : Nat) (L : List (List GF)) (b : List GF) (w : World) (hL : RdM w A h L) (hb : RdB w Bb n b) (hn : h ≤ n) (hl : ∀ i, i < h → (L.getD i []).length = u) (hh : h ≤ 1000) (hu : u ≤ 1000) :
    Calls Try.prog 42 #[.slice A h c, .slice Bb n cb, .int .i64 u] w fun e w' => SvPost h u (eqM L b u) w e w' := by
  have HL := Lib.hid hL
  have HB := Lib.hid hb
  have HLL := Lib.hid hl
  have HAG := Lib.hid (extL_agr (b := b) hl)
  have HGS := Lib.hid (Gs.start h u (eqM L b u))
  generalize eqM L b u = M0 at *
  clear hL hb hl
  go_enter Try.func42, Try.ntmps42
  go_wp2
  go_loopw [8, 9] (fun v i wr => ∃ (k : Nat) (hv : List Value), k ≤ h ∧ i = .int .i64 k ∧ OwM wr w.heap.size v hv (extL L b k) ∧ Below w.heap.size w wr) (fun _ i _ => h - (intOf i).toNat)
  case atStart => exact ⟨0, [], Nat.zero_le _, rfl, OwM.nil _ _, Below.refl _ _⟩
  case round =>
    obtain ⟨k, hv, hk, rfl, hM, hbw⟩ := hrel
    by_cases hlt : k < h
    · --[[a
      obtain ⟨bb, off, rfl, hlb, hcs⟩ := (HL.out.below hbw).2 (by omega)
      obtain ⟨Ai, ci, hcc, hRi⟩ := hcs k hlt
      rw [HLL.out k hlt] at hcc hRi
      obtain ⟨b2, off2, rfl, hlb2, hcc2⟩ := rd_cell (HB.out.below hbw) (i := k) (by omega)
      have hkn : k < n := by omega
      have HEX := Lib.hid (extL_succ L b k)
      have hel := extL_len L b k
      have hll := HLL.out k hlt
      rw [← show cf b k = b.getD k 0 from rfl] at HEX
      have HM := Lib.hid hM
      have HRI := Lib.hid hRi
      have hsz := hbw.size
      generalize hrow : L.getD k [] = row at *
      generalize cf b k = y at *
      have hlen2 : (row ++ [y]).length = u + 1 := by rw [List.length_append, hll]; rfl
      clear hM hRi hcs hrow
      have hc2' : ∀ w', Below wr.heap.size wr w' → w'.cell? ⟨b2, off2 + k, none⟩ = some (.int .u8 y.z) := fun w' hb' => (hb'.cell (p := ⟨b2, off2 + k, none⟩) hlb2).trans hcc2
      go_wp2_with (first
        | (at_builtin; refine wpList_appB _ rfl (.tmp 29) (.tmp 33) rfl wr.heap.size (.slice none 0 0) [] rfl (OwB.nil _ _) Ai u ci row rfl HRI.out (by simp; omega) (Nat.le_refl _) ?_; intro v1 w1 ho1 hg1 hat1; have hb1 : Below wr.heap.size wr w1 := grown_below hg1 (OwB.nil wr _) (Nat.le_refl _); have hcc1 := hc2' _ hb1)
        | (at_builtin; refine wpList_app1 w1 rfl (.tmp 36) (.tmp 41) rfl wr.heap.size v1 row ho1 rfl y _ rfl (by omega) hb1.size ?_; intro v2 w2 ho2 hb2; obtain ⟨A2, c2, e2⟩ := ho2.form; rw [hlen2] at e2; subst e2)
        | (at_builtin; refine wpList_pushM w2 rfl (.tmp 35) (.tmp 43) rfl w.heap.size _ hv (extL L b k) (HM.out.below (hb1.trans hb2)) (.slice A2 (u + 1) c2) (row ++ [y]) (own_base ho2 hsz) (fun i hi => Apt.fresh (HM.out.row i hi) ho2 (Nat.le_refl _)) (Apt.fresh HM.out.out ho2 (Nat.le_refl _)).symm rfl _ rfl (by omega) (Nat.le_trans hsz (hb1.trans hb2).size) ?_; intro v3 w3 hM3 hb3))
      go_roundw
      case rel => first | exact ⟨k + 1, hv ++ [.slice A2 (u + 1) c2], by omega, by go_num, by rw [HEX.out]; exact hM3, (hbw.trans ((hb1.trans hb2).mono hsz)).trans hb3⟩ | ((repeat apply Exists.intro); exact ⟨⟨k + 1, hv ++ [.slice A2 (u + 1) c2], by omega, by go_num, by rw [HEX.out]; exact hM3, (hbw.trans ((hb1.trans hb2).mono hsz)).trans hb3⟩, rfl⟩)
      case measure => simp [intOf] <;> omega
    · obtain rfl : k = h := by omega
      obtain ⟨A8, c8, e8⟩ := hM.form
      rw [extL_len] at e8
      subst e8
      have hmk := run_makeB u (by omega)
      have HS := Lib.hid (show Sw k u w.heap.size wr.heap.size (wr.heap.size + 1) (.slice A8 k c8) (.slice (some ⟨wr.heap.size, 0, none⟩) u u) (.slice none 0 0) [] w (wr.alloc (.cells (zerosB u) 5)) hv (extL L b k) M0 from
        ⟨hM.below (below_new _ _), hM.lows, HAG.out, OwB.new wr wr.heap.size u (Nat.le_refl _) (by unfold maxLen; omega), fun g hg => by
          have : wr.heap.size = g := Option.some.inj hg
          omega, OwI.nil _ _, Bw.al hbw _, hbw.size, Nat.le_succ _, by simp⟩)
      clear hM hbw hlt hk HAG HL HB HLL
      generalize extL L b k = L0 at *
      go_wp2
      generalize wr.alloc (.cells (zerosB u) 5) = W at *
      generalize wr.heap.size = S1 at *
      clear hmk
      go_loopw [12, 13, 14] (fun p d ci wr => ∃ (cc : Nat) (piv : List Nat) (hv : List Value) (L : List (List GF)) (M : Mat), cc ≤ u ∧ ci = .int .i64 cc ∧ d = .int .i64 ((List.length piv : Nat) : Int) ∧ Sw k u w.heap.size S1 (S1 + 1) (.slice A8 k c8) (.slice (some ⟨S1, 0, none⟩) u u) p piv w wr hv L M ∧ Gs k u M0 M piv cc) (fun _ _ ci _ => u - (intOf ci).toNat)
      case atStart => exact ⟨0, [], _, _, _, Nat.zero_le _, rfl, rfl, HS.out, HGS.out⟩
      case round =>
        obtain ⟨cc, piv, hv, L, M, hcu, rfl, rfl, hS, hG⟩ := hrel
        have HS := Lib.hid hS
        have HG := Lib.hid hG
        have hpl := hG.le
        clear hS hG
        by_cases hlt : cc < u
        · --[[m
          go_wp2
          obtain ⟨wo, rfl⟩ : ∃ wo : World, wo = wr := ⟨_, rfl⟩
          go_loopw [15] (fun at' wr' => ∃ t : Nat, piv.length ≤ t ∧ t ≤ k ∧ at' = .int .i64 t ∧ (∀ j, piv.length ≤ j → j < t → M j cc = 0) ∧ wr' = wo) (fun at' _ => k - (intOf at').toNat)
          case atStart => exact ⟨piv.length, Nat.le_refl _, hpl, rfl, fun j h1 h2 => absurd h2 (by omega), rfl⟩
          case round =>
            obtain ⟨t, ht1, ht2, rfl, hz, rfl⟩ := hrel
            have HZ := Lib.hid hz
            clear hz
            by_cases htk : t < k
            · obtain ⟨g, c', e', hg1, hg2, hg3⟩ := HS.out.form (by omega)
              injection e' with e1 e2 e3
              subst e1
              subst e3
              obtain ⟨gi, ci, hvi, hgB, hgS, hgi, hcl, hfz⟩ := HS.out.row htk
              have hcg := HS.out.cell htk
              rw [hvi] at hcg
              have hc1 := hcl cc (by omega)
              have hcu1 : cc < u + 1 := by omega
              by_cases hm0 : M t cc = 0
              · --[[b
                have z0 := z_eq0 hm0
                have HZ2 : Hid (∀ j, piv.length ≤ j → j < t + 1 → M j cc = 0) := Lib.hid fun j h1 h2 => by
                  by_cases e : j = t
                  · subst e; exact hm0
                  · exact HZ.out j h1 (by omega)
                clear hm0 hcl hfz
                generalize M t cc = y at *
                go_wp2
                go_roundw
                case rel => exact ⟨t + 1, by omega, by omega, by go_num, HZ2.out, by first | rfl | trivial⟩
                case measure => simp [intOf]; omega
              · have z0 := z_ne0 hm0
                have HM0 := Lib.hid hm0
                have hpk : piv.length < k := by omega
                have hcd := HS.out.cell hpk
                obtain ⟨gd, cd, hvd, hdB, hdS, hgd, hcld, hfzd⟩ := HS.out.row hpk
                rw [hvd] at hcd
                have htk2 : ((t : Int) == (k : Int)) = false := by rw [beq_eq_false_iff_ne]; omega
                have htk3 : (t == k) = false := by rw [beq_eq_false_iff_ne]; omega
                have HC1 := Lib.hid hc1
                clear hm0 hcl hfz hcld hfzd
                generalize hyy : (M t cc).z = yz at *
                clear hyy
                go_wp2
                (apply wp_region_free [0, 1, 2, 3, 4, 5, 6, 8, 9, 10] [7, 11] [] [12, 13, 14, 15] (by kernel_rfl) (by kernel_rfl) (by kernel_rfl); (case hq0 => (intro z; simp only [pick, List.getElem?_cons_succ, List.getElem?_cons_zero]; (repeat (go_big_quiet_step (fail))); refine wpQuiet_nil ?_; exact rfl)); (case hd => kernel_rfl); (case hq => (intro z hz; simp only [pick, List.getElem?_cons_succ, List.getElem?_cons_zero]; (have hx1 := fun x => cell_extz hz hg3 hcg x; have hx2 := fun x => cell_extz hz hg3 hcd x); (repeat (go_big_quiet_step ((fail)))); refine wpQuiet_nil ?_; exact rfl)); (case' hc => (simp only [pick, List.getElem?_cons_succ, List.getElem?_cons_zero]; intro W4 hW4; simp only [chainJ, chainK])))
                have HS4 := Lib.hid (HS.out.below hW4)
                have hcg4 := HS4.out.cell htk
                have hcd4 := HS4.out.cell hpk
                have hft4 := HS4.out.frz t
                have hfd4 := HS4.out.frz piv.length
                have HS5 := Lib.hid (HS4.out.swap htk hpk)
                have hmid := HS4.out.mid (i := t) hpk (hv.getD piv.length undef)
                have hmf := HS4.out.midF (i := t) piv.length (hv.getD piv.length undef)
                have hcell5 := HS5.out.cell hpk
                have hlv : piv.length < ((hv.set t (hv.getD piv.length undef))).length := by rw [List.length_set, HS4.out.m.len, HS4.out.ag.1]; exact hpk
                rw [getD_set_eq hlv, hvi] at hcell5
                obtain ⟨g5, c5, hv5, h5B, h5S, h5l, hcl5, hfz5⟩ := HS5.out.row hpk
                rw [getD_set_eq hlv, hvi] at hv5
                injection hv5 with e51 e52 e53
                injection e51 with e51
                injection e51 with e51
                subst e51
                subst e53
                have hc5 := hcl5 cc (by omega)
                rw [show swM M t piv.length piv.length cc = M t cc by unfold swM; rw [if_pos rfl]] at hc5
                rw [hvi] at hcg4
                rw [hvd] at hcd4
                rw [hvd] at hmid hmf
                rw [hvi, hvd] at HS5 hc5
                rw [hvd] at hcell5
                have HG5 := Lib.hid (HG.out.step hlt ht1 htk HM0.out)
                generalize hmv : (hv.set t (.slice (some ⟨gd, 0, none⟩) (u + 1) cd)).getD piv.length undef = mv at hmid
                clear hcg hcd HS hcl5 hfz5 hlv
                go_wp2_with fail
                refine (rInvZ (M t cc) _ HM0.out).mono ?_
                rintro e w' ⟨rfl, rfl⟩
                have hv5d : ((hv.set t (.slice (some ⟨gd, 0, none⟩) (u + 1) cd)).set piv.length (.slice (some ⟨gi, 0, none⟩) (u + 1) ci)).getD piv.length undef = .slice (some ⟨gi, 0, none⟩) (u + 1) ci := getD_set_eq (by rw [List.length_set, HS4.out.m.len, HS4.out.ag.1]; exact hpk)
                clear hmid hmf hcell5 hc5 hcg4 hcd4 hft4 hfd4 HS4 HC1 hvi hvd hmv
                generalize (W4.setCell ⟨g, t, none⟩ (.slice (some ⟨gd, 0, none⟩) (u + 1) cd)).setCell ⟨g, piv.length, none⟩ (.slice (some ⟨gi, 0, none⟩) (u + 1) ci) = W5 at *
                generalize (hv.set t (.slice (some ⟨gd, 0, none⟩) (u + 1) cd)).set piv.length (.slice (some ⟨gi, 0, none⟩) (u + 1) ci) = hv5 at *
                generalize (L.set t (L.getD piv.length [])).set piv.length (L.getD t []) = L5 at *
                have HS6 := Lib.hid (HS5.out.congr (M' := nrM (swM M t piv.length) piv.length (M t cc).inv 0) (fun i _ k _ => by unfold nrM; rw [if_neg (fun hh => absurd hh.2 (Nat.not_lt_zero _))]))
                have HST : Hid (stM M t piv.length cc u k = elM (nrM (swM M t piv.length) piv.length (M t cc).inv (u + 1)) piv.length cc k 0) := Lib.hid rfl
                rw [HST.out] at HG5
                clear HST HS5
                generalize (M t cc).inv = bk at *
                generalize swM M t piv.length = M1 at *
                go_wp2
                go_loopw [17] (fun kk wr => ∃ (n : Nat) (L : List (List GF)), n ≤ u + 1 ∧ kk = .int .i64 n ∧ Sw k u w.heap.size S1 (S1 + 1) (.slice (some ⟨g, 0, none⟩) k c8) (.slice (some ⟨S1, 0, none⟩) u u) u12 piv w wr hv5 L (nrM M1 piv.length bk n)) (fun kk _ => u + 1 - (intOf kk).toNat)
                case atStart => exact ⟨0, _, Nat.zero_le _, rfl, HS6.out⟩
                case round =>
                  obtain ⟨n4, L4, hn4, rfl, hS⟩ := hrel
                  have HS7 := Lib.hid hS
                  clear hS
                  by_cases hl4 : n4 < u + 1
                  · --[[c
                    obtain ⟨g7, c7, hv7, h7B, h7S, h7l, hcl7, hfz7⟩ := HS7.out.row hpk
                    rw [hv5d] at hv7
                    injection hv7 with e71 e72 e73
                    injection e71 with e71
                    injection e71 with e71
                    subst e71
                    subst e73
                    have hc7 := hcl7 n4 (by omega)
                    have hn4u : nrM M1 piv.length bk n4 piv.length n4 = M1 piv.length n4 := by unfold nrM; rw [if_neg (fun hh => absurd hh.2 (Nat.lt_irrefl _))]
                    rw [hn4u] at hc7
                    have hco := HS7.out.cell hpk
                    rw [hv5d] at hco
                    obtain ⟨g7', c7', e7', _, _, h7g⟩ := HS7.out.form (by omega)
                    injection e7' with e81 e82 e83
                    injection e81 with e81
                    injection e81 with e81
                    subst e81
                    subst e83
                    clear e82 e72
                    have HPT := Lib.hid (fun W (hb : Below wr.heap.size wr W) => (HS7.out.below hb).put (M' := nrM M1 piv.length bk (n4 + 1)) hpk (show n4 ≤ u by omega) hv5d (y := M1 piv.length n4 * bk) (by unfold nrM; rw [if_pos ⟨rfl, Nat.lt_succ_self _⟩]) (fun j hj s hs hne => by
                      unfold nrM
                      by_cases e1 : j = piv.length ∧ s < n4
                      · rw [if_pos e1, if_pos ⟨e1.1, by omega⟩]
                      · rw [if_neg e1]
                        by_cases e2 : j = piv.length ∧ s < n4 + 1
                        · exact absurd e2 (fun hh => by rcases hne with hne | hne; exact hne hh.1; exact e1 ⟨hh.1, by omega⟩)
                        · rw [if_neg e2]))
                    have hfz8 := hfz7 n4
                    have hnu : n4 ≤ u := by omega
                    clear hcl7 hfz7 hn4u
                    generalize M1 piv.length n4 = y4 at *
                    go_wp2
                    (apply wp_region_order [0, 1, 2, 3, 4, 5, 6, 7, 8, 9, 10, 11, 12, 13, 14] [] [15] (by kernel_rfl) (by kernel_rfl) (by kernel_rfl); (case hq => (intro z hz; simp only [pick, List.getElem?_cons_succ, List.getElem?_cons_zero]; (have hx1 := fun x => cell_extz hz h7g hco x; have hx2 := fun x => cell_extz hz h7l hc7 x); (repeat (go_big_quiet_step ((go_at_call 63; exact ext_same (rMulZ _ _ _))))); refine wpQuiet_nil ?_; exact rfl)); (case' hc => (simp only [pick, List.getElem?_cons_succ, List.getElem?_cons_zero]; intro W6 hW6; simp only [chainF])))
                    have HS8 := Lib.hid (HPT.out _ hW6)
                    have hc8 := (Below.cell hW6 (p := ⟨gi, n4, none⟩) h7l).trans hc7
                    have hf8 := (Below.frozen hW6 (p := ⟨gi, n4, none⟩) h7l).trans hfz8
                    clear HPT
                    go_wp2
                    go_roundw
                    case rel => first | exact ⟨n4 + 1, _, by omega, by go_num, HS8.out⟩ | ((repeat apply Exists.intro); exact ⟨⟨n4 + 1, _, by omega, by go_num, HS8.out⟩, rfl⟩)
                    case measure => simp [intOf]; omega
                  · obtain rfl : n4 = u + 1 := by omega
                    have HS9 := Lib.hid (HS7.out.congr (M' := elM (nrM M1 piv.length bk (u + 1)) piv.length cc 0 0) (fun i _ k _ => by unfold elM; rw [if_neg (fun hh => by rcases hh.2 with h | h; exact absurd h (Nat.not_lt_zero _); exact absurd h.2 (Nat.not_lt_zero _))]))
                    clear HS7 HS6 hl4 hn4
                    generalize nrM M1 piv.length bk (u + 1) = M2 at *
                    go_wp2
                    go_loopw [18] (fun ii wr => ∃ (n : Nat) (L : List (List GF)), n ≤ k ∧ ii = .int .i64 n ∧ Sw k u w.heap.size S1 (S1 + 1) (.slice (some ⟨g, 0, none⟩) k c8) (.slice (some ⟨S1, 0, none⟩) u u) u12 piv w wr hv5 L (elM M2 piv.length cc n 0)) (fun ii _ => k - (intOf ii).toNat)
                    case atStart => exact ⟨0, _, Nat.zero_le _, rfl, HS9.out⟩
                    case round =>
                      obtain ⟨n5, L5, hn5, rfl, hS⟩ := hrel
                      have HS7 := Lib.hid hS
                      clear hS
                      by_cases hl5 : n5 < k
                      · --[[d
                        obtain ⟨g7, c7, hv7, h7B, h7S, h7l, hcl7, hfz7⟩ := HS7.out.row hl5
                        have hc7 := hcl7 cc (by omega)
                        rw [show elM M2 piv.length cc n5 0 n5 cc = M2 n5 cc by unfold elM; rw [if_neg (fun hh => by rcases hh.2 with h | h; exact absurd h (Nat.lt_irrefl _); exact absurd h.2 (Nat.not_lt_zero _))]] at hc7
                        have hco := HS7.out.cell hl5
                        rw [hv7] at hco
                        have hcu2 : cc < u + 1 := by omega
                        have HNX : Hid ((n5 = piv.length ∨ M2 n5 cc = 0) → ∀ L wr', Sw k u w.heap.size S1 (S1 + 1) (.slice (some ⟨g, 0, none⟩) k c8) (.slice (some ⟨S1, 0, none⟩) u u) u12 piv w wr' hv5 L (elM M2 piv.length cc n5 0) → Sw k u w.heap.size S1 (S1 + 1) (.slice (some ⟨g, 0, none⟩) k c8) (.slice (some ⟨S1, 0, none⟩) u u) u12 piv w wr' hv5 L (elM M2 piv.length cc (n5 + 1) 0)) := Lib.hid fun hor L wr' s => s.congr fun j _ t _ => by
                          unfold elM
                          by_cases e1 : j ≠ piv.length ∧ (j < n5 ∨ (j = n5 ∧ t < 0))
                          · rw [if_pos e1, if_pos ⟨e1.1, .inl (by rcases e1.2 with h | h; omega; omega)⟩]
                          · rw [if_neg e1]
                            by_cases e2 : j ≠ piv.length ∧ (j < n5 + 1 ∨ (j = n5 + 1 ∧ t < 0))
                            · have ej : j = n5 := by rcases e2.2 with h | h; exact Classical.byContradiction fun hn => e1 ⟨e2.1, .inl (by omega)⟩; omega
                              rw [if_pos e2]
                              rcases hor with h | h
                              · exact absurd (ej.trans h) e2.1
                              · rw [ej, h, GF.zero_mul, GF.add_zero]
                            · rw [if_neg e2]
                        have HEL := Lib.hid (fun s (hs : s < u + 1) (hno : n5 ≠ piv.length) L wr' (sw : Sw k u w.heap.size S1 (S1 + 1) (.slice (some ⟨g, 0, none⟩) k c8) (.slice (some ⟨S1, 0, none⟩) u u) u12 piv w wr' hv5 L (elM M2 piv.length cc n5 s)) => sw.put (M' := elM M2 piv.length cc n5 (s + 1)) hl5 (show s ≤ u by omega) hv7 (y := M2 n5 s + M2 n5 cc * M2 piv.length s) (by unfold elM; rw [if_pos ⟨hno, .inr ⟨rfl, Nat.lt_succ_self _⟩⟩]) (fun j hj t ht hne => by
                          unfold elM
                          by_cases e1 : j ≠ piv.length ∧ (j < n5 ∨ (j = n5 ∧ t < s))
                          · rw [if_pos e1, if_pos ⟨e1.1, by rcases e1.2 with h | h; exact .inl h; exact .inr ⟨h.1, by omega⟩⟩]
                          · rw [if_neg e1]
                            by_cases e2 : j ≠ piv.length ∧ (j < n5 ∨ (j = n5 ∧ t < s + 1))
                            · refine absurd e2 (fun hh => ?_)
                              rcases hh.2 with h | h
                              · exact e1 ⟨hh.1, .inl h⟩
                              · rcases hne with hne | hne
                                · exact hne h.1
                                · exact e1 ⟨hh.1, .inr ⟨h.1, by omega⟩⟩
                            · rw [if_neg e2]))
                        have HEN : Hid (∀ L wr', Sw k u w.heap.size S1 (S1 + 1) (.slice (some ⟨g, 0, none⟩) k c8) (.slice (some ⟨S1, 0, none⟩) u u) u12 piv w wr' hv5 L (elM M2 piv.length cc n5 (u + 1)) → Sw k u w.heap.size S1 (S1 + 1) (.slice (some ⟨g, 0, none⟩) k c8) (.slice (some ⟨S1, 0, none⟩) u u) u12 piv w wr' hv5 L (elM M2 piv.length cc (n5 + 1) 0)) := Lib.hid fun L wr' s => s.congr fun j _ t ht => by
                          unfold elM
                          by_cases e1 : j ≠ piv.length ∧ (j < n5 ∨ (j = n5 ∧ t < u + 1))
                          · rw [if_pos e1, if_pos ⟨e1.1, .inl (by rcases e1.2 with h | h; omega; omega)⟩]
                          · rw [if_neg e1]
                            by_cases e2 : j ≠ piv.length ∧ (j < n5 + 1 ∨ (j = n5 + 1 ∧ t < 0))
                            · refine absurd ⟨e2.1, ?_⟩ e1
                              rcases e2.2 with h | h
                              · by_cases e3 : j = n5
                                · exact .inr ⟨e3, by omega⟩
                                · exact .inl (by omega)
                              · omega
                            · rw [if_neg e2]
                        clear hcl7 hfz7
                        generalize M2 n5 cc = fy at *
                        go_wp2
                        go_loopw [20] (fun kk wr => ∃ (s : Nat) (L : List (List GF)), s ≤ u + 1 ∧ kk = .int .i64 s ∧ ((n5 = piv.length ∨ fy = 0) → s = 0) ∧ Sw k u w.heap.size S1 (S1 + 1) (.slice (some ⟨g, 0, none⟩) k c8) (.slice (some ⟨S1, 0, none⟩) u u) u12 piv w wr hv5 L (elM M2 piv.length cc n5 s)) (fun kk _ => u + 1 - (intOf kk).toNat)
                        case atStart => exact ⟨0, _, Nat.zero_le _, rfl, fun _ => rfl, HS7.out⟩
                        case round =>
                          obtain ⟨s6, L6, hs6, rfl, hor6, hS6⟩ := hrel
                          have HS6' := Lib.hid hS6
                          have HOR := Lib.hid hor6
                          clear hS6 hor6
                          by_cases hor : n5 = piv.length ∨ fy = 0
                          · obtain rfl : s6 = 0 := HOR.out hor
                            have HX := Lib.hid (HNX.out hor _ _ HS6'.out)
                            by_cases hnd : n5 = piv.length
                            · subst hnd
                              clear hor
                              go_wp2
                              go_roundw
                              case rel => first | exact ⟨piv.length + 1, L6, by omega, by go_num, HX.out⟩ | exact ⟨piv.length + 1, by omega, by go_num, L6, HX.out⟩
                              case measure => simp [intOf]; omega
                            · have hf0 : fy = 0 := hor.resolve_left hnd
                              have q1 : ((n5 : Int) == (piv.length : Int)) = false := by rw [beq_eq_false_iff_ne]; omega
                              have q2 : (n5 == piv.length) = false := by rw [beq_eq_false_iff_ne]; exact hnd
                              have q3 : (n5 != piv.length) = true := by rw [bne_iff_ne]; exact hnd
                              have q6 : ((n5 : Int) != (piv.length : Int)) = true := by rw [bne_iff_ne]; omega
                              have q7 : ¬ ((n5 : Int) = (piv.length : Int)) := by omega
                              have q8 : ¬ (n5 = piv.length) := hnd
                              have q4 := z_eq0 hf0
                              have q5 : (fy.z != 0) = false := by unfold bne; rw [q4]; rfl
                              clear hor hf0
                              go_wp2
                              go_roundw
                              case rel => first | exact ⟨n5 + 1, L6, by omega, by go_num, HX.out⟩ | exact ⟨n5 + 1, by omega, by go_num, L6, HX.out⟩ | exact ⟨_, by omega, by go_num, _, HX.out⟩ | exact ⟨_, HX.out⟩
                              case measure => simp [intOf]; omega
                          · have hnd : n5 ≠ piv.length := fun e => hor (.inl e)
                            have hf0 : fy ≠ 0 := fun e => hor (.inr e)
                            by_cases hs7 : s6 < u + 1
                            · obtain ⟨gr, cr, hvr, hrB, hrS, hrl, hclr, hfzr⟩ := HS6'.out.row hl5
                              rw [hv7] at hvr
                              injection hvr with er1 er2 er3
                              injection er1 with er1
                              injection er1 with er1
                              subst er1
                              subst er3
                              obtain ⟨gp, cp, hvp, hpB, hpS, hpl', hclp, hfzp⟩ := HS6'.out.row hpk
                              rw [hv5d] at hvp
                              injection hvp with ep1 ep2 ep3
                              injection ep1 with ep1
                              injection ep1 with ep1
                              subst ep1
                              subst ep3
                              have hcr := hclr s6 (by omega)
                              have hcp := hclp s6 (by omega)
                              rw [show elM M2 piv.length cc n5 s6 n5 s6 = M2 n5 s6 by unfold elM; rw [if_neg (fun hh => by rcases hh.2 with h | h; exact absurd h (Nat.lt_irrefl _); exact absurd h.2 (Nat.lt_irrefl _))]] at hcr
                              rw [show elM M2 piv.length cc n5 s6 piv.length s6 = M2 piv.length s6 by unfold elM; rw [if_neg (fun hh => hh.1 rfl)]] at hcp
                              have hcor := HS6'.out.cell hl5
                              rw [hv7] at hcor
                              have hcop := HS6'.out.cell hpk
                              rw [hv5d] at hcop
                              obtain ⟨g8', c8', e8', _, _, h8g⟩ := HS6'.out.form (by omega)
                              injection e8' with e91 e92 e93
                              injection e91 with e91
                              injection e91 with e91
                              subst e91
                              subst e93
                              clear e92 er2 ep2
                              have HPT := Lib.hid (fun W (hb : Below wr.heap.size wr W) => HEL.out s6 hs7 hnd _ _ (HS6'.out.below hb))
                              have hfz8 := hfzr s6
                              have hsu : s6 ≤ u := by omega
                              have q1 : ((n5 : Int) == (piv.length : Int)) = false := by rw [beq_eq_false_iff_ne]; omega
                              have q2 : (n5 == piv.length) = false := by rw [beq_eq_false_iff_ne]; exact hnd
                              have q3 : (n5 != piv.length) = true := by rw [bne_iff_ne]; exact hnd
                              have q6 : ((n5 : Int) != (piv.length : Int)) = true := by rw [bne_iff_ne]; omega
                              have q7 : ¬ ((n5 : Int) = (piv.length : Int)) := by omega
                              have q8 : ¬ (n5 = piv.length) := hnd
                              have q4 := z_ne0 hf0
                              have q5 : (fy.z != 0) = true := by unfold bne; rw [q4]; rfl
                              have q9 : ¬ (fy.z = 0) := by intro e; rw [e] at q4; exact absurd q4 (by decide)
                              have HF0 := Lib.hid hf0
                              have HND := Lib.hid hnd
                              clear hclr hfzr hclp hfzp hor hf0 hnd hc7 hco
                              generalize M2 n5 s6 = y6 at *
                              generalize M2 piv.length s6 = y7 at *
                              trace_state
                              go_wp2
                              (apply wp_region_order [0, 1, 2, 3, 4, 5, 6, 7, 8, 9, 10, 11, 12, 13, 14, 15, 16, 17, 18, 19, 20, 21, 22] [] [23] (by kernel_rfl) (by kernel_rfl) (by kernel_rfl); (case hq => (intro z hz; simp only [pick, List.getElem?_cons_succ, List.getElem?_cons_zero]; (have hx1 := fun x => cell_extz hz h8g hcor x; have hx2 := fun x => cell_extz hz hrl hcr x; have hx3 := fun x => cell_extz hz h8g hcop x; have hx4 := fun x => cell_extz hz hpl' hcp x); (repeat (go_big_quiet_step ((go_at_call 63; exact ext_same (rMulZ _ _ _))))); refine wpQuiet_nil ?_; exact rfl)); (case' hc => (simp only [pick, List.getElem?_cons_succ, List.getElem?_cons_zero]; intro W6 hW6; simp only [chainF])))
                              have HS8 := Lib.hid (HPT.out _ hW6)
                              have hc8 := (Below.cell hW6 (p := ⟨g7, s6, none⟩) hrl).trans hcr
                              have hf8 := (Below.frozen hW6 (p := ⟨g7, s6, none⟩) hrl).trans hfz8
                              clear HPT
                              go_wp2
                              go_roundw
                              case rel => rw [xorZ]; first | exact ⟨s6 + 1, _, by omega, by go_num, fun hh => absurd hh (fun hh => by rcases hh with h | h; exact HND.out h; exact HF0.out h), HS8.out⟩ | ((repeat apply Exists.intro); exact ⟨⟨s6 + 1, _, by omega, by go_num, fun hh => absurd hh (fun hh => by rcases hh with h | h; exact HND.out h; exact HF0.out h), HS8.out⟩, rfl⟩)
                              case measure => simp [intOf]; omega
                            · obtain rfl : s6 = u + 1 := by omega
                              have HX := Lib.hid (HEN.out _ _ HS6'.out)
                              clear hor hf0 hnd
                              go_wp2
                              go_roundw
                              case rel => first | exact ⟨n5 + 1, L6, by omega, by go_num, HX.out⟩ | exact ⟨n5 + 1, by omega, by go_num, L6, HX.out⟩ | exact ⟨_, by omega, by go_num, _, HX.out⟩ | exact ⟨_, HX.out⟩
                              case measure => simp [intOf]; omega
                      · obtain rfl : n5 = k := by omega
                        have hsz := HS7.out.b3
                        have hpl2 : (toI piv).length ≤ 1000 := by rw [toI_len]; omega
                        have HPP := Lib.hid HS7.out.p
                        have htoi : Hid (toI (piv ++ [cc]) = toI piv ++ [(cc : Int)]) := Lib.hid (toI_append _ _)
                        have hln : Hid ((piv ++ [cc]).length = piv.length + 1) := Lib.hid (by simp)
                        generalize toI piv = Lp at *
                        go_wp2_with (at_builtin; refine wpList_app1I wr rfl (.tmp 165) (.tmp 167) rfl (S1 + 1) _ Lp HPP.out rfl (cc : Int) _ rfl (by omega) hsz ?_; intro v9 w9 ho9 hb9)
                        have HSF := Lib.hid (HS7.out.push (c := cc) (by rw [htoi.out]; exact ho9) hb9)
                        go_roundw
                        case rel => first | exact ⟨cc + 1, piv ++ [cc], hv5, L5, _, by omega, by go_num, by rw [hln.out]; go_num, HSF.out, HG5.out⟩ | ((repeat apply Exists.intro); exact ⟨⟨cc + 1, piv ++ [cc], hv5, L5, _, by omega, by go_num, by rw [hln.out]; go_num, HSF.out, HG5.out⟩, rfl⟩)
                        case measure => simp [intOf] <;> omega
            · obtain rfl : t = k := by omega
              have HG2 := Lib.hid (HG.out.skip HZ.out)
              clear HZ
              go_wp2
              go_roundw
              case rel => first | exact ⟨cc + 1, piv, hv, L, M, by omega, by go_num, rfl, HS.out, HG2.out⟩ | ((repeat apply Exists.intro); exact ⟨⟨cc + 1, piv, hv, L, M, by omega, by go_num, rfl, HS.out, HG2.out⟩, rfl⟩)
              case measure => simp [intOf]; omega
        · --[[e
          obtain rfl : cc = u := by omega
          have hgl : Hid (∀ i, i < piv.length → piv.getD i 0 < cc) := Lib.hid HG.out.lt
          have HZ0 := Lib.hid HS.out.end
          have hbs := HS.out.b1
          clear HS hcu hlt
          go_wp2
          obtain ⟨wo, rfl⟩ : ∃ wo : World, wo = wr := ⟨_, rfl⟩
          go_loopw [21] (fun at' wr' => ∃ t : Nat, piv.length ≤ t ∧ t ≤ k ∧ at' = .int .i64 t ∧ (∀ j, piv.length ≤ j → j < t → M j cc = 0) ∧ wr' = wo) (fun at' _ => k - (intOf at').toNat)
          case atStart => exact ⟨piv.length, Nat.le_refl _, hpl, rfl, fun j h1 h2 => absurd h2 (by omega), rfl⟩
          case round =>
            obtain ⟨t, ht1, ht2, rfl, hz, rfl⟩ := hrel
            have HZ := Lib.hid hz
            clear hz
            by_cases htk : t < k
            · obtain ⟨g, c', e', hg1, hg2, hg3⟩ := HZ0.out.form (by omega)
              injection e' with e1 e2 e3
              subst e1
              subst e3
              obtain ⟨gi, ci, hvi, hgi, hcl⟩ := HZ0.out.row htk
              have hcg := HZ0.out.cell htk
              rw [hvi] at hcg
              have hc1 := hcl cc (Nat.le_refl _)
              have hcu1 : cc < cc + 1 := Nat.lt_succ_self _
              by_cases hm0 : M t cc = 0
              · have z0 := z_eq0 hm0
                have HZ2 : Hid (∀ j, piv.length ≤ j → j < t + 1 → M j cc = 0) := Lib.hid fun j h1 h2 => by
                  by_cases e : j = t
                  · subst e; exact hm0
                  · exact HZ.out j h1 (by omega)
                clear hm0 hcl
                generalize M t cc = y at *
                go_wp2
                go_roundw
                case rel => exact ⟨t + 1, by omega, by omega, by go_num, HZ2.out, by first | rfl | trivial⟩
                case measure => simp [intOf]; omega
              · have z0 := z_ne0 hm0
                have HNO := Lib.hid (HG.out.none ht1 htk hm0)
                clear hm0 hcl
                generalize M t cc = y at *
                go_wp2
                exact bodyPost_ret (v := .tuple #[.slice (some ⟨S1, 0, none⟩) cc cc, .bool false]) (by simp [results, Try.results42, go_sem]) rfl ⟨_, _, _, _, rfl, own_base HZ0.out.z hbs, fun h => (by cases h), fun _ => HNO.out, HZ0.out.bw⟩
            · obtain rfl : t = k := by omega
              have HFO := Lib.hid (HG.out.found HZ.out)
              clear HZ
              go_wp2
              go_loopw [22] (fun ii wr => ∃ (n : Nat) (xs : List GF), n ≤ piv.length ∧ ii = .int .i64 n ∧ Sz t cc w.heap.size S1 (.slice A8 t c8) u12 piv w wr hv L M n xs) (fun ii _ => piv.length - (intOf ii).toNat)
              case atStart => exact ⟨0, _, Nat.zero_le _, rfl, HZ0.out⟩
              case round =>
                obtain ⟨n8, xs, hn8, rfl, hS⟩ := hrel
                have HS8 := Lib.hid hS
                clear hS
                by_cases hl8 : n8 < piv.length
                · have hnt : n8 < t := by omega
                  obtain ⟨g, c', e', hg1, hg2, hg3⟩ := HS8.out.form (by omega)
                  injection e' with e1 e2 e3
                  subst e1
                  subst e3
                  obtain ⟨gi, ci, hvi, hgi, hcl⟩ := HS8.out.row hnt
                  have hcg := HS8.out.cell hnt
                  rw [hvi] at hcg
                  have hc1 := hcl cc (Nat.le_refl _)
                  have hcu1 : cc < cc + 1 := Nat.lt_succ_self _
                  obtain ⟨gp, cp, hpv, hgp, hcp⟩ := HS8.out.pcell hl8
                  subst hpv
                  have hpu := hgl.out n8 hl8
                  have HPT := Lib.hid (fun W (hb : Below wr.heap.size wr W) => (HS8.out.below hb).put hpu)
                  have HZF := Lib.hid (fun W (hb : Below wr.heap.size wr W) => And.intro ((HS8.out.below hb).z.cellAt (i := piv.getD n8 0) hpu) ((HS8.out.below hb).z.frozenAt (piv.getD n8 0)))
                  generalize piv.getD n8 0 = pq at *
                  clear hcl
                  generalize hmu : M n8 cc = y at *
                  clear hmu
                  go_wp2
                  (apply wp_region_order [0, 1, 2, 3, 4, 5, 6, 7, 8, 9, 10, 11, 12] [] [13] (by kernel_rfl) (by kernel_rfl) (by kernel_rfl); (case hq => (intro z hz; simp only [pick, List.getElem?_cons_succ, List.getElem?_cons_zero]; (have hx1 := fun x => cell_extz hz hg3 hcg x; have hx2 := fun x => cell_extz hz hgi hc1 x; have hx3 := fun x => cell_extz hz hgp hcp x); (repeat (go_big_quiet_step ((fail)))); refine wpQuiet_nil ?_; exact rfl)); (case' hc => (simp only [pick, List.getElem?_cons_succ, List.getElem?_cons_zero]; intro W6 hW6; simp only [chainF])))
                  have HSN := Lib.hid (HPT.out _ hW6)
                  have hc8 := (HZF.out _ hW6).1
                  have hf8 := (HZF.out _ hW6).2
                  clear HPT HZF
                  go_wp2
                  go_roundw
                  case rel => first | exact ⟨n8 + 1, _, by omega, by go_num, HSN.out⟩ | ((repeat apply Exists.intro); exact ⟨⟨n8 + 1, _, by omega, by go_num, HSN.out⟩, rfl⟩)
                  case measure => simp [intOf]; omega
                · obtain rfl : n8 = piv.length := by omega
                  have hxl := HS8.out.len
                  have hsol : Hid (Sol t cc M0 (cf xs)) := Lib.hid (by
                    intro i hi
                    have h1 := HFO.out i hi
                    unfold SolR at h1 ⊢
                    rw [← h1]
                    exact dotF_congr fun q hq => by rw [← HS8.out.val q hq]; rfl)
                  clear hl8
                  go_wp2
                  exact bodyPost_ret (v := .tuple #[.slice (some ⟨S1, 0, none⟩) cc cc, .bool true]) (by simp [results, Try.results42, go_sem]) rfl ⟨_, _, xs, _, rfl, own_base HS8.out.z hbs, fun _ => hsol.out, fun h => (by cases h), HS8.out.bw⟩
end Go.Proofs.Ytcinfkmekkdhfaa
/- The equations of the reference's Encode and Decode, plain: what their solutions say of words. -/
namespace Go.Proofs.Ytcinfkmekkdhfaa
set_option linter.unusedVariables false

/-! ### Division exists -/
theorem div_ex {g : PS} {p : Nat} (hg : degB (p + 1) g) (h1 : g p = 1) : ∀ (N : Nat) (f : PS), degB N f → ∃ s r : PS, degB N s ∧ degB p r ∧ ∀ i, f i = cv s g i + r i := by
  intro N
  induction N with
  | zero => exact fun f hf => ⟨pz, pz, fun _ _ => rfl, fun _ _ => rfl, fun i => by rw [cv_pz]; exact (hf i (Nat.zero_le _)).trans (GF.add_zero 0).symm⟩
  | succ N ih =>
    intro f hf
    obtain ⟨s, r, hs, hr, he⟩ := ih (tl f) (degB_tl hf)
    -- the rest, moved up by one, with the new coefficient
    obtain ⟨h, hh⟩ : ∃ h : PS, h = fun i => match i with | 0 => f 0 | i + 1 => r i := ⟨_, rfl⟩
    have hhd : degB (p + 1) h := fun i hi => by
      subst hh
      cases i with
      | zero => omega
      | succ i => exact hr i (by omega)
    have hfi : ∀ i, f i = cv (px s) g i + h i := fun i => by
      subst hh
      rw [cv_px]
      cases i with
      | zero => exact (GF.zero_add _).symm
      | succ i => exact he i
    refine ⟨padd (px s) (fun i => if i = 0 then h p else 0), padd h (psc (h p) g), fun i hi => ?_, fun i hi => ?_, fun i => ?_⟩
    · show px s i + (if i = 0 then h p else 0) = 0
      rw [if_neg (by omega), GF.add_zero]
      cases i with
      | zero => omega
      | succ i => exact hs i (by omega)
    · show h i + h p * g i = 0
      by_cases e : i = p
      · subst e; rw [h1, GF.mul_one, GF.add_self]
      · rw [hhd i (by omega), hg i (by omega), GF.mul_zero, GF.add_zero]
    · rw [cv_add_left, cv_single, if_pos (Nat.zero_le _), Nat.sub_zero]
      show f i = cv (px s) g i + h p * g i + (h i + h p * g i)
      rw [hfi i, GF.add_assoc, GF.add_comm (h i), ← GF.add_assoc (h p * g i), GF.add_self, GF.zero_add]
theorem ofF_len (n : Nat) (f : PS) : (ofF n f).length ≤ n := by
  unfold ofF
  exact Nat.le_trans (trim_len_le _) (by simp)
theorem enc_ex (data : List GF) (p : Nat) : ∃ wd, IsEnc data p wd := by
  have hg := genP_top p
  obtain ⟨s, r, hs, hr, he⟩ := div_ex (g := cf (genP p)) (p := p) (by have := degB_cf (genP p); rw [hg.1] at this; exact this) hg.2 _ _ (degB_cf (data ++ List.replicate p 0).reverse)
  refine ⟨encOf data (ofF p r) p, encOf_cw (q := ofF (data ++ List.replicate p 0).reverse.length s) ⟨Tr_ofF _ _, Tr_ofF _ _, ?_, fun i => ?_⟩⟩
  · rw [hg.1]; have := ofF_len p r; omega
  · rw [cf_ofF hs, cf_ofF hr]; exact he i
/-! ### The equations for the values at given places -/
def colR (K : List Nat) (n j : Nat) : List GF := K.map fun (q : Nat) => GF.exp ((j : Int) * ((n : Int) - 1 - (q : Int)))
def colL (K : List Nat) (n p : Nat) : List (List GF) := (List.range p).map (colR K n)
theorem colL_len (K : List Nat) (n p : Nat) : (colL K n p).length = p := by simp [colL]
theorem colL_succ (K : List Nat) (n p : Nat) : colL K n (p + 1) = colL K n p ++ [colR K n p] := by simp [colL, List.range_succ]
theorem colL_get (K : List Nat) (n : Nat) {p j : Nat} (hj : j < p) : (colL K n p).getD j [] = colR K n j := by simp [colL, List.getD, hj]
theorem colR_len (K : List Nat) (n j : Nat) : (colR K n j).length = K.length := by simp [colR]
theorem colR_get (K : List Nat) (n j : Nat) {k : Nat} (hk : k < K.length) : (colR K n j).getD k 0 = gpow (loc n (K.getD k 0)) j := by
  unfold loc
  rw [gpow_exp, Int.mul_comm]
  simp [colR, List.getD, hk]
theorem colR_take (K : List Nat) (n j : Nat) {k : Nat} (hk : k < K.length) : (colR K n j).take (k + 1) = (colR K n j).take k ++ [GF.exp ((j : Int) * ((n : Int) - 1 - ((K.getD k 0 : Nat) : Int)))] := by
  rw [List.take_succ_eq_append_getElem (by rw [colR_len]; exact hk)]
  congr 1
  simp [colR, List.getD, hk]
theorem dotF_ser {r x : PS} {X : Nat → GF} {j u : Nat} (h : ∀ k, k < u → r k = gpow (X k) j) : dotF r x u = ser ((List.range u).map fun k => (X k, x k)) j := by
  induction u with
  | zero => rfl
  | succ u ih =>
    rw [List.range_succ, List.map_append, List.map_cons, List.map_nil, ser_snoc, ← ih fun k hk => h k (by omega)]
    show dotF r x u + r u * x u = _
    rw [h u (by omega), GF.mul_comm]
theorem prs_range (l : List GF) (K : List Nat) : prs l K = (List.range K.length).map fun k => (loc l.length (K.getD k 0), l.getD (K.getD k 0) 0) := by
  unfold prs
  apply List.ext_getElem
  · simp
  · intro i h1 h2
    have hi : i < K.length := by simpa using h1
    simp [hi]
theorem getDn_mem {K : List Nat} {k : Nat} (hk : k < K.length) : K.getD k 0 ∈ K := by
  have : K.getD k 0 = K[k] := by simp [hk]
  rw [this]; exact List.getElem_mem hk
theorem cols_iff {w : List GF} {p : Nat} {K : List Nat} {x : PS} (hnd : K.Nodup) (hK : ∀ i ∈ K, i < w.length) (q : Nat → GF) (hq : ∀ k, k < K.length → q (K.getD k 0) = x k) :
    Sol p K.length (eqM (colL K w.length p) (syndL w p) K.length) x ↔ isCW p (outAt w q K) := by
  have hl : (addW w (outAt w q K)).length = w.length := addW_len _ _
  have hval : ∀ i, i < w.length → (addW w (outAt w q K)).getD i 0 = if i ∈ K then q i else 0 := fun i hi => by
    rw [addW_get _ _ hi, outAt_get _ _ _ hi]
    by_cases h : i ∈ K
    · rw [if_pos h, if_pos h, ← GF.add_assoc, GF.add_self, GF.zero_add]
    · rw [if_neg h, if_neg h, GF.add_self]
  have hrow : ∀ j, j < p → (SolR K.length x (eqM (colL K w.length p) (syndL w p) K.length j) ↔ synd (outAt w q K) j = 0) := fun j hj => by
    have h1 : synd (addW w (outAt w q K)) j = ser (prs (addW w (outAt w q K)) K) j := synd_places _ K hnd (fun i hi => by rw [hl]; exact hK i hi) (fun i hi hn => by rw [hl] at hi; rw [hval i hi, if_neg hn]) j
    have h2 : ser (prs (addW w (outAt w q K)) K) j = dotF (eqM (colL K w.length p) (syndL w p) K.length j) x K.length := by
      rw [prs_range, hl, dotF_ser (X := fun k => loc w.length (K.getD k 0))]
      · congr 1
        apply List.map_congr_left
        intro k hk
        have hk' := List.mem_range.1 hk
        have hm := getDn_mem hk'
        rw [hval _ (hK _ hm), if_pos hm, hq k hk']
      · intro k hk
        unfold eqM
        rw [if_pos hk, colL_get _ _ hj, colR_get _ _ _ hk]
    have h3 : eqM (colL K w.length p) (syndL w p) K.length j K.length = synd w j := by
      unfold eqM
      rw [if_neg (Nat.lt_irrefl _), syndL_get w hj]
    unfold SolR
    rw [h3, ← h2, ← h1, synd_add _ _ (outAt_len _ _ _).symm]
    constructor
    · intro e
      refine GF.add_cancel (x := synd w j) ?_
      rw [e, GF.add_zero]
    · intro e; rw [e, GF.add_zero]
  constructor
  · intro h j hj; exact (hrow j hj).1 (h j hj)
  · intro h j hj; exact (hrow j hj).2 (h j hj)
/-! ### Encode -/
def encK (d p : Nat) : List Nat := (List.range p).map fun i => d + i
theorem encK_len (d p : Nat) : (encK d p).length = p := by simp [encK]
theorem encK_get (d : Nat) {p k : Nat} (hk : k < p) : (encK d p).getD k 0 = d + k := by simp [encK, List.getD, hk]
theorem encK_succ (d p : Nat) : encK d (p + 1) = encK d p ++ [d + p] := by simp [encK, List.range_succ]
theorem encK_nodup (d p : Nat) : (encK d p).Nodup := by
  unfold encK
  rw [List.nodup_iff_pairwise_ne, List.pairwise_map]
  exact (List.nodup_iff_pairwise_ne.1 (List.nodup_range (n := p))).imp fun h e => h (by omega)
theorem mem_encK {d p i : Nat} : i ∈ encK d p ↔ d ≤ i ∧ i < d + p := by
  unfold encK
  rw [List.mem_map]
  constructor
  · rintro ⟨k, hk, rfl⟩
    have := List.mem_range.1 hk
    omega
  · intro h; exact ⟨i - d, List.mem_range.2 (by omega), by omega⟩
theorem zeros_get (data : List GF) (p i : Nat) : (data ++ List.replicate p (0 : GF)).getD i 0 = data.getD i 0 := by
  by_cases h : i < data.length
  · simp [List.getD, List.getElem?_append, h]
  · by_cases h2 : i - data.length < p
    · simp [List.getD, List.getElem?_append, h, h2]
    · simp [List.getD, List.getElem?_append, h, h2]
theorem app_getD (a b : List GF) (i : Nat) : (a ++ b).getD i 0 = if i < a.length then a.getD i 0 else b.getD (i - a.length) 0 := by
  by_cases h : i < a.length
  · rw [if_pos h]; simp [List.getD, List.getElem?_append, h]
  · rw [if_neg h]; simp [List.getD, List.getElem?_append, h]
theorem enc_out {data x : List GF} {p : Nat} (hx : x.length = p) : outAt (data ++ List.replicate p 0) (fun i => x.getD (i - data.length) 0) (encK data.length p) = data ++ x := by
  refine eq_of_getD (by rw [outAt_len]; simp [hx]) fun i hi => ?_
  rw [outAt_len] at hi
  rw [outAt_get _ _ _ hi, zeros_get, app_getD]
  have hi' : i < data.length + p := by simpa using hi
  by_cases h : i < data.length
  · rw [if_pos h, if_neg (fun e => by have := (mem_encK.1 e).1; omega)]
  · rw [if_neg h, if_pos (mem_encK.2 ⟨by omega, hi'⟩)]
    have : data.getD i 0 = 0 := by simp [List.getD, Nat.le_of_not_lt h]
    rw [this, GF.zero_add]
theorem enc_sol {data x : List GF} {p : Nat} (hx : x.length = p) : Sol p p (eqM (colL (encK data.length p) (data.length + p) p) (syndL (data ++ List.replicate p 0) p) p) (cf x) ↔ IsEnc data p (data ++ x) := by
  have h := cols_iff (w := data ++ List.replicate p 0) (p := p) (K := encK data.length p) (x := cf x) (encK_nodup _ _) (fun i hi => by have := mem_encK.1 hi; simp; omega) (fun i => x.getD (i - data.length) 0) (fun k hk => by
    rw [encK_len] at hk
    rw [encK_get _ hk, Nat.add_sub_cancel_left]; rfl)
  rw [encK_len, enc_out hx] at h
  have hl : (data ++ List.replicate p (0 : GF)).length = data.length + p := by simp
  rw [hl] at h
  rw [h]
  constructor
  · intro hc; exact ⟨by simp [hx], by simp, hc⟩
  · intro hc; exact hc.2.2
theorem enc_has {data : List GF} {p : Nat} : ∃ x, Sol p p (eqM (colL (encK data.length p) (data.length + p) p) (syndL (data ++ List.replicate p 0) p) p) x := by
  obtain ⟨wd, h⟩ := enc_ex data p
  have hl : (wd.drop data.length).length = p := by rw [List.length_drop, h.1]; omega
  refine ⟨cf (wd.drop data.length), (enc_sol hl).2 ?_⟩
  have e : data ++ wd.drop data.length = wd := by
    conv => lhs; rw [← h.2.1]
    rw [h.2.1]
    conv => rhs; rw [← List.take_append_drop data.length wd, h.2.1]
  rw [e]; exact h
end Go.Proofs.Ytcinfkmekkdhfaa
/- The reference's Decode, plain: at the number of errors of the nearest word it finds this word, and whatever it accepts is near enough. -/
namespace Go.Proofs.Ytcinfkmekkdhfaa
set_option linter.unusedVariables false

theorem lf_least {t : List (GF × GF)} {N : Nat} (hnd : (t.map Prod.fst).Nodup) (hne : ∀ q ∈ t, q.1 ≠ 0 ∧ q.2 ≠ 0) (hN : 2 * t.length ≤ N) : ∀ (l : Nat) (D : PS), LF (ser t) N l D → t.length ≤ l := by
  intro l
  induction l using Nat.strongRecOn with
  | ind l ih =>
    intro D hD
    by_cases h : ∃ l' D', l' < l ∧ LF (ser t) N l' D'
    · obtain ⟨l', D', h1, h2⟩ := h
      exact Nat.le_of_lt (Nat.lt_of_le_of_lt (ih l' h1 D' h2) h1)
    · have := lf_unique hnd hne hN hD (fun l' D' h' => Nat.le_of_not_lt fun hlt => h ⟨l', D', hlt, h'⟩)
      rw [← this.1]
      exact Nat.le_refl _
/-- What is known before the number of errors is tried. -/
structure Dec0 (w : List GF) (p : Nat) (er : List Nat) (g T : List GF) : Prop where
  n : w.length ≤ 255
  nd : er.Nodup
  lt : ∀ i ∈ er, i < w.length
  f : er.length ≤ p
  hg : cf g = lam (er.map (loc w.length))
  hT : ∀ k, k < p - er.length → cf T k = cv (cf g) (cf (syndL w p)) (er.length + k)
theorem Dec0.ser {w : List GF} {p : Nat} {er : List Nat} {g T : List GF} (h : Dec0 w p er g T) {c : List GF} (hc : Within p w er c) :
    ∃ t : List (GF × GF), t.map Prod.fst = (wrongs w c er).map (loc w.length) ∧ t.length = (wrongs w c er).length ∧ (∀ q ∈ t, q.1 ≠ 0 ∧ q.2 ≠ 0) ∧ ∀ k, k < p - er.length → cf T k = ser t k := by
  have hl : (addW w c).length = w.length := addW_len w c
  have hdg : degB (er.length + 1) (cf g) := by rw [h.hg]; have := degB_lam (er.map (loc w.length)); rwa [List.length_map] at this
  have hval : ∀ i, vH (cf g) (loc w.length i).inv (er.length + 1) = plv (er.map (loc w.length)) (loc w.length i).inv := fun i => by
    rw [h.hg]; have := vH_lam (er.map (loc w.length)) (loc w.length i).inv; rwa [List.length_map] at this
  refine ⟨(errs w c (wrongs w c er)).map (wgt (cf g) er.length), ?_, ?_, ?_, ?_⟩
  · rw [wgt_fst, prs_fst, hl]
  · rw [List.length_map, prs_len]
  · intro q hq
    obtain ⟨q', hq', rfl⟩ := List.mem_map.1 hq
    obtain ⟨i, hi, rfl⟩ := List.mem_map.1 hq'
    obtain ⟨h1, h2, h3⟩ := mem_wrongs.1 hi
    refine ⟨loc_ne _ _, ?_⟩
    show (addW w c).getD i 0 * (gpow (loc (addW w c).length i) er.length * vH (cf g) (loc (addW w c).length i).inv (er.length + 1)) ≠ 0
    rw [hl, hval, addW_get _ _ h1]
    intro e
    rcases GF.mul_eq_zero e with e | e
    · exact h2 (GF.eq_of_add e)
    · rcases GF.mul_eq_zero e with e | e
      · unfold loc at e; rw [gpow_exp] at e; exact GF.exp_ne _ e
      · exact plv_ne (loc_ne _ _) (fun hm => h3 ((loc_mem h.n h.lt h1).1 hm)) e
  · intro k hk
    rw [h.hT k hk, cv_congr (er.length + k) (f' := cf g) (g' := Go.Proofs.Ytcinfkmekkdhfaa.ser (errs w c (er ++ wrongs w c er))) (fun _ _ => rfl) (fun i hi => errs_synd h.nd h.lt hc (by omega)), cv_ser hdg k _ (prs_ne _ _)]
    have e : prs (addW w c) (er ++ wrongs w c er) = errs w c er ++ errs w c (wrongs w c er) := List.map_append ..
    rw [e, List.map_append, ser_append]
    show _ + _ = _
    rw [ser_null, GF.zero_add]
    intro q hq
    obtain ⟨q', hq', rfl⟩ := List.mem_map.1 hq
    obtain ⟨i, hi, rfl⟩ := List.mem_map.1 hq'
    show _ * (gpow _ _ * vH (cf g) (loc (addW w c).length i).inv (er.length + 1)) = 0
    rw [hl, hval, plv_zero (loc_ne _ _) (List.mem_map.2 ⟨i, hi, rfl⟩), GF.mul_zero, GF.mul_zero]
theorem Dec0.dec {w : List GF} {p : Nat} {er : List Nat} {g T C : List GF} (h : Dec0 w p er g T) {c : List GF} (hc : Within p w er c) (hC : LF (cf T) (p - er.length) (wrongs w c er).length (cf C)) : Dec w p er g T C (wrongs w c er).length := by
  obtain ⟨t, h1, h2, h3, h4⟩ := h.ser hc
  have hb := hc.2.2
  refine ⟨h.n, h.nd, h.lt, h.f, h.hg, h.hT, hC, fun l D hD => ?_⟩
  rw [← h2]
  exact lf_least (by rw [h1]; exact locs_nodup h.n (wrongs_nodup _ _ _) wrongs_lt) h3 (by omega) l D (hD.congr h4)
theorem Dec0.lam {w : List GF} {p : Nat} {er : List Nat} {g T : List GF} (h : Dec0 w p er g T) {c : List GF} (hc : Within p w er c) : LF (cf T) (p - er.length) (wrongs w c er).length (lam ((wrongs w c er).map (loc w.length))) := by
  obtain ⟨t, h1, h2, h3, h4⟩ := h.ser hc
  refine LF.congr (fun i hi => (h4 i hi).symm) ?_
  rw [← h1, ← h2]
  refine ⟨lam_zero _, ?_, fun n h1 _ => ?_⟩
  · have := degB_lam (t.map Prod.fst); rwa [List.length_map] at this
  · rw [lam_ser]; exact degB_om t n h1
/-! ### The equations for the places -/
def rowD (xi : List GF) (j e : Nat) : List GF := (List.range e).map fun k => cf xi (j - (k + 1))
def rowsD (xi : List GF) (f e n : Nat) : List (List GF) := (List.range n).map fun i => rowD xi (f + e + i) e
def rhsD (xi : List GF) (f e n : Nat) : List GF := (List.range n).map fun i => cf xi (f + e + i)
theorem rowD_len (xi : List GF) (j e : Nat) : (rowD xi j e).length = e := by simp [rowD]
theorem rowD_succ (xi : List GF) (j e : Nat) : rowD xi j (e + 1) = rowD xi j e ++ [cf xi (j - (e + 1))] := by simp [rowD, List.range_succ]
theorem rowsD_len (xi : List GF) (f e n : Nat) : (rowsD xi f e n).length = n := by simp [rowsD]
theorem rowsD_succ (xi : List GF) (f e n : Nat) : rowsD xi f e (n + 1) = rowsD xi f e n ++ [rowD xi (f + e + n) e] := by simp [rowsD, List.range_succ]
theorem rhsD_len (xi : List GF) (f e n : Nat) : (rhsD xi f e n).length = n := by simp [rhsD]
theorem rhsD_succ (xi : List GF) (f e n : Nat) : rhsD xi f e (n + 1) = rhsD xi f e n ++ [cf xi (f + e + n)] := by simp [rhsD, List.range_succ]
theorem rowsD_get (xi : List GF) (f e : Nat) {n i : Nat} (hi : i < n) : (rowsD xi f e n).getD i [] = rowD xi (f + e + i) e := by simp [rowsD, List.getD, hi]
theorem pcv_dot (s : List GF) (T : PS) (n : Nat) : ∀ k, k ≤ n → pcv (cf (1 :: s)) T (k + 1) n = T n + dotF (fun i => T (n - (i + 1))) (cf s) k := by
  intro k
  induction k with
  | zero => intro _; rw [pcv_one, cf_cons_zero, GF.one_mul]; exact (GF.add_zero _).symm
  | succ k ih =>
    intro hk
    rw [pcv, ih (by omega), if_pos hk]
    show _ + cf s k * _ = _ + (_ + _ * cf s k)
    rw [GF.add_assoc, GF.mul_comm (cf s k)]
theorem sol_lf {xi s T : List GF} {f e p : Nat} (hT : ∀ k, k < p - f → cf T k = cf xi (f + k)) (hs : s.length = e) : Sol (p - f - e) e (eqM (rowsD xi f e (p - f - e)) (rhsD xi f e (p - f - e)) e) (cf s) ↔ LF (cf T) (p - f) e (cf (1 :: s)) := by
  have hdeg : degB (e + 1) (cf (1 :: s)) := by have := degB_cf (1 :: s); rw [List.length_cons, hs] at this; exact this
  have hcv : ∀ i, i < p - f - e → (SolR e (cf s) (eqM (rowsD xi f e (p - f - e)) (rhsD xi f e (p - f - e)) e i) ↔ cv (cf (1 :: s)) (cf T) (e + i) = 0) := fun i hi => by
    have h1 : cv (cf (1 :: s)) (cf T) (e + i) = cf T (e + i) + dotF (fun k => cf T (e + i - (k + 1))) (cf s) e := by
      rw [← pcv_full _ _ hdeg, pcv_dot s (cf T) (e + i) e (by omega)]
    have h2 : dotF (eqM (rowsD xi f e (p - f - e)) (rhsD xi f e (p - f - e)) e i) (cf s) e = dotF (fun k => cf T (e + i - (k + 1))) (cf s) e := dotF_congr fun k hk => by
      congr 1
      unfold eqM
      rw [if_pos hk, rowsD_get _ _ _ hi]
      have : (rowD xi (f + e + i) e).getD k 0 = cf xi (f + e + i - (k + 1)) := by simp [rowD, List.getD, hk]
      rw [this, hT _ (by omega)]
      congr 1; omega
    have h3 : eqM (rowsD xi f e (p - f - e)) (rhsD xi f e (p - f - e)) e i e = cf T (e + i) := by
      unfold eqM
      rw [if_neg (Nat.lt_irrefl _), hT _ (by omega)]
      have : (rhsD xi f e (p - f - e)).getD i 0 = cf xi (f + e + i) := by simp [rhsD, List.getD, hi]
      rw [this, Nat.add_assoc]
    unfold SolR
    rw [h1, h2, h3]
    constructor
    · intro h; rw [h, GF.add_self]
    · intro h; exact (GF.eq_of_add h).symm
  constructor
  · intro h
    refine ⟨rfl, hdeg, fun n h1 h2 => ?_⟩
    have := (hcv (n - e) (by omega)).1 (h _ (by omega))
    rwa [show e + (n - e) = n by omega] at this
  · intro h i hi
    exact (hcv i hi).2 (h.2.2 (e + i) (by omega) (by omega))
theorem Dec0.try {w : List GF} {p : Nat} {er : List Nat} {g T xi : List GF} (h : Dec0 w p er g T) (hx : ∀ k, k < p - er.length → cf T k = cf xi (er.length + k)) {c : List GF} (hc : Within p w er c) {m : Nat} (hm : (wrongs w c er).length = m) :
    (∃ x, Sol (p - er.length - m) m (eqM (rowsD xi er.length m (p - er.length - m)) (rhsD xi er.length m (p - er.length - m)) m) x) ∧
    ∀ s : List GF, s.length = m → Sol (p - er.length - m) m (eqM (rowsD xi er.length m (p - er.length - m)) (rhsD xi er.length m (p - er.length - m)) m) (cf s) → plc w er (1 :: s) = wrongs w c er := by
  constructor
  · have hl := h.lam hc
    rw [hm] at hl
    refine ⟨cf ((List.range m).map fun k => Go.Proofs.Ytcinfkmekkdhfaa.lam ((wrongs w c er).map (loc w.length)) (k + 1)), (sol_lf hx (by simp)).2 ?_⟩
    have e : cf (1 :: (List.range m).map fun k => Go.Proofs.Ytcinfkmekkdhfaa.lam ((wrongs w c er).map (loc w.length)) (k + 1)) = Go.Proofs.Ytcinfkmekkdhfaa.lam ((wrongs w c er).map (loc w.length)) := by
      funext i
      cases i with
      | zero => rw [cf_cons_zero, lam_zero]
      | succ i =>
        show cf ((List.range m).map fun k => Go.Proofs.Ytcinfkmekkdhfaa.lam ((wrongs w c er).map (loc w.length)) (k + 1)) i = _
        rw [cf_range m (fun k => Go.Proofs.Ytcinfkmekkdhfaa.lam ((wrongs w c er).map (loc w.length)) (k + 1)) i]
        by_cases hi : i < m
        · rw [if_pos hi]
        · rw [if_neg hi]; exact (hl.2.1 (i + 1) (by omega)).symm
    rw [e]; exact hl
  · intro s hs hS
    have hC := (sol_lf hx hs).1 hS
    rw [← hm] at hC
    exact (h.dec hc hC).places hc
/-! ### The places, the word, the count -/
def plsB (w : List GF) (er : List Nat) (C : List GF) (i : Nat) : Bool := decide (i ∈ er) || decide (valL C (GF.exp ((i : Int) + 1 - (w.length : Nat))) = 0)
def pls (w : List GF) (er : List Nat) (C : List GF) (k : Nat) : List Nat := (List.range k).filter (plsB w er C)
theorem pls_zero (w : List GF) (er : List Nat) (C : List GF) : pls w er C 0 = [] := rfl
theorem pls_yes {w : List GF} {er : List Nat} {C : List GF} {k : Nat} (h : plsB w er C k = true) : pls w er C (k + 1) = pls w er C k ++ [k] := by
  unfold pls; rw [List.range_succ, List.filter_append, List.filter_cons, h]; rfl
theorem pls_no {w : List GF} {er : List Nat} {C : List GF} {k : Nat} (h : plsB w er C k = false) : pls w er C (k + 1) = pls w er C k := by
  unfold pls; rw [List.range_succ, List.filter_append, List.filter_cons, h]; simp
theorem pls_len (w : List GF) (er : List Nat) (C : List GF) (k : Nat) : (pls w er C k).length ≤ k := by
  have := List.length_filter_le (plsB w er C) (List.range k)
  rwa [List.length_range] at this
theorem pls_nodup (w : List GF) (er : List Nat) (C : List GF) (k : Nat) : (pls w er C k).Nodup := nodup_filter _ List.nodup_range
theorem mem_pls {w : List GF} {er : List Nat} {C : List GF} {k i : Nat} : i ∈ pls w er C k ↔ i < k ∧ (i ∈ er ∨ valL C (GF.exp ((i : Int) + 1 - (w.length : Nat))) = 0) := by
  unfold pls plsB; rw [List.mem_filter, List.mem_range]; simp
theorem pls_mem {w : List GF} {er : List Nat} {C : List GF} (hlt : ∀ i ∈ er, i < w.length) (i : Nat) : i ∈ pls w er C w.length ↔ i ∈ er ++ plc w er C := by
  rw [mem_pls, List.mem_append]
  unfold plc
  rw [List.mem_filter, List.mem_range]
  simp only [Bool.and_eq_true, decide_eq_true_eq]
  constructor
  · rintro ⟨h1, h2⟩
    by_cases h : i ∈ er
    · exact .inl h
    · exact .inr ⟨h1, h2.resolve_left h, h⟩
  · rintro (h | h)
    · exact ⟨hlt i h, .inl h⟩
    · exact ⟨h.1, .inr h.2.1⟩
theorem outAt_congr (w : List GF) (q : Nat → GF) {S S' : List Nat} (h : ∀ i, i ∈ S ↔ i ∈ S') : outAt w q S = outAt w q S' := by
  unfold outAt
  apply List.map_congr_left
  intro i _
  by_cases hi : i ∈ S
  · rw [if_pos hi, if_pos ((h i).1 hi)]
  · rw [if_neg hi, if_neg fun e => hi ((h i).2 e)]
theorem ref_sound {w : List GF} {p e : Nat} {er : List Nat} {C : List GF} (hlt : ∀ i ∈ er, i < w.length) (h2 : 2 * e + er.length ≤ p) (hl : (plc w er C).length = e) (q : Nat → GF) (hcw : isCW p (outAt w q (pls w er C w.length))) : Within p w er (outAt w q (pls w er C w.length)) := by
  rw [outAt_congr w q (pls_mem hlt)] at hcw ⊢
  exact out_within (L := e) (by omega) (by omega) (by rw [List.length_append, hl]) q hcw
theorem ref_ex {w : List GF} {p : Nat} {er : List Nat} {C c : List GF} (hlt : ∀ i ∈ er, i < w.length) (hc : Within p w er c) (hp : plc w er C = wrongs w c er) :
    ∃ x, Sol p (pls w er C w.length).length (eqM (colL (pls w er C w.length) w.length p) (syndL w p) (pls w er C w.length).length) x := by
  refine ⟨fun k => w.getD ((pls w er C w.length).getD k 0) 0 + c.getD ((pls w er C w.length).getD k 0) 0, (cols_iff (pls_nodup _ _ _ _) (fun i hi => (mem_pls.1 hi).1) (fun i => w.getD i 0 + c.getD i 0) (fun k _ => rfl)).2 ?_⟩
  have e : outAt w (fun i => w.getD i 0 + c.getD i 0) (pls w er C w.length) = c := by
    refine eq_of_getD (by rw [outAt_len, hc.1]) fun i hi => ?_
    rw [outAt_len] at hi
    rw [outAt_get _ _ _ hi]
    by_cases hm : i ∈ pls w er C w.length
    · rw [if_pos hm, ← GF.add_assoc, GF.add_self, GF.zero_add]
    · rw [if_neg hm]
      rw [pls_mem hlt, hp] at hm
      apply Classical.byContradiction
      intro e
      exact hm (List.mem_append_right _ (mem_wrongs.2 ⟨hi, e, fun he => hm (List.mem_append_left _ he)⟩))
  rw [e]; exact hc.2.1
/-- The values by place. -/
theorem q_ex {K : List Nat} (hnd : K.Nodup) (x : PS) : ∃ q : Nat → GF, ∀ k, k < K.length → q (K.getD k 0) = x k := by
  refine ⟨fun i => ((List.range K.length).find? fun k => decide (K.getD k 0 = i)).elim 0 x, fun k hk => ?_⟩
  have hf : (List.range K.length).find? (fun j => decide (K.getD j 0 = K.getD k 0)) = some k := by
    rw [List.find?_range_eq_some]
    refine ⟨by simp, List.mem_range.2 hk, fun j hj => ?_⟩
    have h1 := List.pairwise_iff_getElem.1 (List.nodup_iff_pairwise_ne.1 hnd) j k (by omega) hk hj
    simp only [List.getD_eq_getElem?_getD, List.getElem?_eq_getElem hk, List.getElem?_eq_getElem (show j < K.length by omega), Option.getD_some]
    simpa using h1
  show ((List.range K.length).find? fun j => decide (K.getD j 0 = K.getD k 0)).elim 0 x = x k
  rw [hf]; rfl
def cntQ (q : Nat → GF) (K : List Nat) (k : Nat) : Nat := ((K.take k).filter fun i => decide (q i ≠ 0)).length
theorem cntQ_zero (q : Nat → GF) (K : List Nat) : cntQ q K 0 = 0 := by simp [cntQ]
theorem cntQ_succ (q : Nat → GF) (K : List Nat) {k : Nat} (hk : k < K.length) : cntQ q K (k + 1) = cntQ q K k + if q (K.getD k 0) = 0 then 0 else 1 := by
  unfold cntQ
  rw [takeN_succ K hk, List.filter_append, List.length_append]
  congr 1
  generalize K.getD k 0 = a
  by_cases h : q a = 0
  · rw [if_pos h]; simp [h]
  · rw [if_neg h]; simp [h]
theorem cntQ_full (w : List GF) (er : List Nat) (C : List GF) (q : Nat → GF) : cntQ q (pls w er C w.length) (pls w er C w.length).length = dcnt w (outAt w q (pls w er C w.length)) [] w.length := by
  unfold cntQ dcnt
  rw [List.take_of_length_le (Nat.le_refl _)]
  conv => lhs; unfold pls
  rw [List.filter_filter]
  congr 1
  apply List.filter_congr
  intro i hi
  have hi' := List.mem_range.1 hi
  rw [outAt_get _ _ _ hi']
  by_cases hm : plsB w er C i = true
  · have hp : i ∈ pls w er C w.length := List.mem_filter.2 ⟨hi, hm⟩
    rw [if_pos hp, hm]
    by_cases hq : q i = 0
    · simp [hq, GF.add_zero]
    · have : w.getD i 0 ≠ w.getD i 0 + q i := fun e => hq (by
        refine GF.add_cancel (x := w.getD i 0) ?_
        rw [← e, GF.add_zero])
      generalize w.getD i 0 = a at *
      simp [hq, this]
  · have hp : i ∉ pls w er C w.length := fun h => hm (List.mem_filter.1 h).2
    rw [if_neg hp]
    have : plsB w er C i = false := by cases h : plsB w er C i; rfl; exact absurd h hm
    simp [this]
end Go.Proofs.Ytcinfkmekkdhfaa
/- The walks of the reference's columns and Encode. -/
namespace Go.Proofs.Ytcinfkmekkdhfaa
open Go.RowKit
set_option linter.unusedVariables false

set_option maxRecDepth 100000 in
set_option maxHeartbeats 4000000 in
theorem rColumns_any (I : Option Addr) (m ci n p : Nat) (K : List Nat) (w : World) (hi : RdI w I m (toI K)) (hK : ∀ i ∈ K, i < n) (hm : m ≤ 255) (hn : n ≤ 255) (hp : p ≤ 255) :
    Calls Try.prog 43 #[.slice I m ci, .int .i64 n, .int .i64 p] w fun e w' => ∃ A' c' hv, e = .returned (.slice A' p c') ∧ OwM w' w.heap.size (.slice A' p c') hv (colL K n p) ∧ Below w.heap.size w w' := by
  have hml : m = K.length := by rw [← hi.1, toI_len]
  subst hml
  have HI := Lib.hid hi
  have HK := Lib.hid hK
  clear hi hK
  go_enter Try.func43, Try.ntmps43
  go_wp2
  go_loopw [7, 8] (fun v i wr => ∃ (k : Nat) (hv : List Value), k ≤ p ∧ i = .int .i64 k ∧ OwM wr w.heap.size v hv (colL K n k) ∧ Below w.heap.size w wr) (fun _ i _ => p - (intOf i).toNat)
  case atStart => exact ⟨0, [], Nat.zero_le _, rfl, OwM.nil _ _, Below.refl _ _⟩
  case round =>
    obtain ⟨j, hv, hj, rfl, hM, hbw⟩ := hrel
    by_cases hlt : j < p
    · have HM := Lib.hid hM
      have hcl := colL_len K n j
      have HCS := Lib.hid (colL_succ K n j)
      have RI := Lib.hid (HI.out.below hbw)
      have hsz := hbw.size
      have HTF := Lib.hid (show (colR K n j).take K.length = colR K n j from List.take_of_length_le (by rw [colR_len]; exact Nat.le_refl _))
      have hrl := colR_len K n j
      clear hM
      go_wp2
      obtain ⟨wo, rfl⟩ : ∃ wo : World, wo = wr := ⟨_, rfl⟩
      go_loopw [9, 10] (fun v i wr' => ∃ k : Nat, k ≤ K.length ∧ i = .int .i64 k ∧ OwB wr' wo.heap.size v ((colR K n j).take k) ∧ Below wo.heap.size wo wr') (fun _ i _ => K.length - (intOf i).toNat)
      case atStart => exact ⟨0, Nat.zero_le _, rfl, OwB.nil _ _, Below.refl _ _⟩
      case round =>
        obtain ⟨k, hk, rfl, ho, hb1⟩ := hrel
        by_cases hlk : k < K.length
        · obtain ⟨b, off, rfl, hlb, hcc⟩ := rdI_cell (RI.out.below hb1) (i := k) hlk
          rw [toI_get] at hcc
          have hkn := HK.out _ (getDn_mem hlk)
          have HTK := Lib.hid (colR_take K n j hlk)
          have hz1 := hb1.size
          generalize hq : K.getD k 0 = q at *
          have hmul : 0 ≤ (j : Int) * ((n : Int) - 1 - (q : Int)) ∧ (j : Int) * ((n : Int) - 1 - (q : Int)) ≤ 255 * 255 := ⟨Int.mul_nonneg (by omega) (by omega), Int.mul_le_mul (by omega) (by omega) (by omega) (by omega)⟩
          have HO := Lib.hid ho
          have hol : ((colR K n j).take k).length ≤ 255 := by rw [List.length_take]; omega
          generalize (colR K n j).take k = L at *
          generalize hpr : (j : Int) * ((n : Int) - 1 - (q : Int)) = pr at *
          have HPR := Lib.hid hpr
          clear ho hq
          go_wp2_with (first
            | (go_at_call 51; refine (rExpZ pr _).mono ?_; rintro e w' ⟨rfl, rfl⟩)
            | (at_builtin; refine wpList_app1 wr rfl (.tmp 22) (.tmp 33) rfl wo.heap.size _ L HO.out rfl (GF.exp pr) _ rfl (by omega) hz1 ?_; intro v1 w1 ho1 hb2))
          go_roundw
          case rel => first | exact ⟨k + 1, by omega, by go_num, by (rw [HTK.out]; exact ho1), hb1.trans hb2⟩ | ((repeat apply Exists.intro); exact ⟨⟨k + 1, by omega, by go_num, by (rw [HTK.out]; exact ho1), hb1.trans hb2⟩, rfl⟩)
          case measure => simp [intOf]; omega
        · obtain rfl : k = K.length := by omega
          rw [HTF.out] at ho
          obtain ⟨A2, c2, e2⟩ := ho.form
          rw [hrl] at e2
          subst e2
          have HO := Lib.hid ho
          have hz1 := hb1.size
          clear ho
          generalize colR K n j = row at *
          go_wp2_with (at_builtin; refine wpList_pushM wr rfl (.tmp 35) (.tmp 37) rfl w.heap.size _ hv (colL K n j) (HM.out.below hb1) (.slice A2 K.length c2) row (own_base HO.out hsz) (fun i hi => Apt.fresh (HM.out.row i hi) HO.out (Nat.le_refl _)) (Apt.fresh HM.out.out HO.out (Nat.le_refl _)).symm rfl _ rfl (by omega) (Nat.le_trans hsz hz1) ?_; intro v3 w3 hM3 hb3)
          go_roundw
          case rel => first | exact ⟨j + 1, hv ++ [.slice A2 K.length c2], by omega, by go_num, by rw [HCS.out]; exact hM3, (hbw.trans (hb1.mono hsz)).trans hb3⟩ | ((repeat apply Exists.intro); exact ⟨⟨j + 1, hv ++ [.slice A2 K.length c2], by omega, by go_num, by rw [HCS.out]; exact hM3, (hbw.trans (hb1.mono hsz)).trans hb3⟩, rfl⟩)
          case measure => simp [intOf]; omega
    · obtain rfl : j = p := by omega
      obtain ⟨A1, c1, e1⟩ := hM.form
      rw [colL_len] at e1
      subst e1
      go_wp2
      go_ret
      exact ⟨A1, c1, hv, rfl, hM, hbw⟩
/-! ### append beside other slices -/
def Keeps (w w' : World) (v v' : Value) : Prop := ∀ (B : Nat) (e : TypeId) (s : Nat) (u : Value) (n : Nat) (xs : List Value), w.ownsRow B e s u n xs → Apt u v → w'.ownsRow B e s u n xs ∧ Apt u v'
theorem keeps_app {w w' : World} {o : Obj} {v v' : Value} (h2 : (w.alloc o).grownBy w' v.ownBlock) (h3 : v'.ownBlock = v.ownBlock ∨ v'.ownBlock = some (w.alloc o).heap.size) : Keeps w w' v v' := by
  intro B e s u n xs hu hne
  refine ⟨World.ownsRow.kept (own_below hu (below_new w o)) h2 hne, ?_⟩
  have hz : (w.alloc o).heap.size = w.heap.size + 1 := by simp
  unfold Apt at *
  cases hb : u.ownBlock with
  | none => exact .inl rfl
  | some g =>
    right
    rcases h3 with h3 | h3
    · rw [h3]
      rcases hne with e | e
      · rw [e] at hb; cases hb
      · rw [← hb]; exact e
    · rw [h3, hz]
      intro e
      have := own_lt hu hb
      have : g = w.heap.size + 1 := Option.some.inj e
      omega
theorem wpList_app1K (w : World) {ops : Array Oper} {rest : List Oper} {o : Oper} {a : Act} {Q : Exit → Act → World → Prop} (hgd : o.guard = none) (s x : Operand)
    (ho : o.op = .call { callee := .builtin .append, args := #[s, x], argTypes := #[41, 41] }) (B : Nat)
    (v : Value) (l : List GF) (hown : OwB w B v l) (hs : a.eval s = v) (y : GF) (t : TypeId) (hx : a.eval x = .slice (some ⟨w.heap.size, 0, none⟩) 1 1)
    (hlen : l.length ≤ 1099511627000) (hbase : B ≤ w.heap.size)
    (h : ∀ v' w', OwB w' B v' (l ++ [y]) → Below B w w' → Keeps w w' v v' → wpList Try.prog ops Q rest (a.put o.dst v') w') : wpList Try.prog ops Q (o :: rest) a (w.alloc (.cells #[.int .u8 y.z] t)) := by
  refine wpList_appB _ hgd s x ho B v l hs (hown.below (below_new w _)) (some ⟨w.heap.size, 0, none⟩) 1 1 [y] hx (RdB.one w y t 1) (by simp; omega) (by simp; omega) (fun v' w' h1 h2 h3 => h v' w' h1 ?_ (keeps_app h2 h3))
  exact ((below_new w _).mono hbase).trans (grown_below h2 (hown.below (below_new w _)) (by simp; omega))
theorem wpList_app1IK (w : World) {ops : Array Oper} {rest : List Oper} {o : Oper} {a : Act} {Q : Exit → Act → World → Prop} (hgd : o.guard = none) (s x : Operand)
    (ho : o.op = .call { callee := .builtin .append, args := #[s, x], argTypes := #[40, 40] }) (B : Nat)
    (v : Value) (l : List Int) (hown : OwI w B v l) (hs : a.eval s = v) (y : Int) (t : TypeId) (hx : a.eval x = .slice (some ⟨w.heap.size, 0, none⟩) 1 1)
    (hlen : l.length ≤ 1099511627000) (hbase : B ≤ w.heap.size)
    (h : ∀ v' w', OwI w' B v' (l ++ [y]) → Below B w w' → Keeps w w' v v' → wpList Try.prog ops Q rest (a.put o.dst v') w') : wpList Try.prog ops Q (o :: rest) a (w.alloc (.cells #[.int .i64 y] t)) := by
  refine wpList_appI _ hgd s x ho B v l hs (hown.below (below_new w _)) (some ⟨w.heap.size, 0, none⟩) 1 1 [y] hx (RdI.one w y t 1) (by simp; omega) (by simp; omega) (fun v' w' h1 h2 h3 => h v' w' h1 ?_ (keeps_app h2 h3))
  exact ((below_new w _).mono hbase).trans (grown_below h2 (hown.below (below_new w _)) (by simp; omega))
/-! ### Encode -/
def eMid (data x : List GF) (p k : Nat) : List GF := data ++ (x.take k ++ List.replicate (p - k) 0)
theorem eMid_len (data : List GF) {x : List GF} {p k : Nat} (hx : x.length = p) (hk : k ≤ p) : (eMid data x p k).length = data.length + p := by simp [eMid, hx]; omega
theorem eMid_zero (data x : List GF) (p : Nat) : eMid data x p 0 = data ++ List.replicate p 0 := by simp [eMid]
theorem eMid_end (data : List GF) {x : List GF} {p : Nat} (hx : x.length = p) : eMid data x p p = data ++ x := by simp [eMid, ← hx]
theorem eMid_step (data : List GF) {x : List GF} {p k : Nat} (hx : x.length = p) (hk : k < p) : (eMid data x p k).set (data.length + k) (x.getD k 0) = eMid data x p (k + 1) := by
  have hget : ∀ k, k ≤ p → ∀ i, i < data.length + p → (eMid data x p k).getD i 0 = if i < data.length then data.getD i 0 else if i - data.length < k then x.getD (i - data.length) 0 else 0 := fun k hk i hi => by
    unfold eMid
    rw [app_getD]
    by_cases h : i < data.length
    · rw [if_pos h, if_pos h]
    · rw [if_neg h, if_neg h, app_getD]
      have hl : (x.take k).length = k := by rw [List.length_take]; omega
      rw [hl]
      by_cases h2 : i - data.length < k
      · rw [if_pos h2, if_pos h2]; simp [List.getD, h2]
      · rw [if_neg h2, if_neg h2]
        have h3 : i - data.length - k < p - k := by omega
        simp [List.getD, h3]
  refine eq_of_getD (by rw [List.length_set, eMid_len data hx (by omega), eMid_len data hx (by omega)]) fun i hi => ?_
  rw [List.length_set, eMid_len data hx (by omega)] at hi
  rw [hget (k + 1) (by omega) i hi]
  by_cases e : i = data.length + k
  · subst e
    rw [getD_set_self (by rw [eMid_len data hx (by omega)]; exact hi), if_neg (by omega), if_pos (by omega), Nat.add_sub_cancel_left]
  · rw [getD_set_other (Ne.symm e), hget k (by omega) i hi]
    by_cases h : i < data.length
    · rw [if_pos h, if_pos h]
    · rw [if_neg h, if_neg h]
      by_cases h2 : i - data.length < k
      · rw [if_pos h2, if_pos (by omega)]
      · rw [if_neg h2, if_neg (by omega)]
theorem rep_succ (data : List GF) (k : Nat) : data ++ List.replicate (k + 1) (0 : GF) = data ++ List.replicate k 0 ++ [0] := by rw [List.replicate_succ', ← List.append_assoc]
set_option maxRecDepth 100000 in
set_option maxHeartbeats 4000000 in
theorem rEncode_any (A : Option Addr) (n c p : Nat) (data : List GF) (w : World) (hl : RdB w A n data) (h1 : p ≤ 32) (h3 : n + p ≤ 255) :
    Calls Try.prog 28 #[.slice A n c, .int .i64 p] w fun e w' => ∃ A' c' wd, e = .returned (.slice A' (n + p) c') ∧ OwB w' w.heap.size (.slice A' (n + p) c') wd ∧ IsEnc data p wd ∧ Below w.heap.size w w' := by
  have ll := hl.1
  subst ll
  have HL := Lib.hid hl
  clear hl
  go_enter Try.func28, Try.ntmps28
  go_wp2_with (at_builtin; refine wpList_appB _ rfl (.tmp 11) (.tmp 12) rfl w.heap.size (.slice none 0 0) [] rfl (OwB.nil _ _) A data.length c data rfl HL.out (by simp; omega) (Nat.le_refl _) ?_; intro v1 w1 ho1 hg1 hat1; have hb1 : Below w.heap.size w w1 := grown_below hg1 (OwB.nil w _) (Nat.le_refl _))
  have HO1 := Lib.hid ho1
  rw [List.nil_append] at HO1
  clear ho1 hg1 hat1
  go_loopw [5, 6, 7] (fun v u i wr => ∃ k : Nat, k ≤ p ∧ i = .int .i64 k ∧ OwB wr w.heap.size v (data ++ List.replicate k 0) ∧ OwI wr w.heap.size u (toI (encK data.length k)) ∧ Apt v u ∧ Below w.heap.size w wr) (fun _ _ i _ => p - (intOf i).toNat)
  case atStart => exact ⟨0, Nat.zero_le _, rfl, by simpa using HO1.out, OwI.nil _ _, (show Apt (.slice none 0 0) _ from .inl rfl).symm, hb1⟩
  case round =>
    obtain ⟨k, hk, rfl, ho, hi, hap, hbw⟩ := hrel
    by_cases hlt : k < p
    · have HO := Lib.hid ho
      have HI := Lib.hid hi
      have HA := Lib.hid hap
      have hsz := hbw.size
      have HR := Lib.hid (rep_succ data k)
      have HK := Lib.hid (show toI (encK data.length (k + 1)) = toI (encK data.length k) ++ [((data.length : Int) + (k : Int))] by rw [encK_succ, toI_append]; simp [toI])
      have hl1 : (data ++ List.replicate k (0 : GF)).length ≤ 1000 := by simp; omega
      have hl2 : (toI (encK data.length k)).length ≤ 1000 := by rw [toI_len, encK_len]; omega
      clear ho hi hap
      generalize data ++ List.replicate k (0 : GF) = L at *
      generalize toI (encK data.length k) = Lp at *
      go_wp2_with (first
        | (at_builtin; refine wpList_app1IK wr rfl (.tmp 19) (.tmp 24) rfl w.heap.size _ Lp HI.out rfl ((data.length : Int) + (k : Int)) _ rfl (by omega) hsz ?_; intro v2 w2 ho2 hb2 hk2)
        | (at_builtin; refine wpList_app1K w2 rfl (.tmp 26) (.tmp 27) rfl w.heap.size _ L (hk2 _ _ _ _ _ _ HO.out HA.out).1 rfl 0 _ rfl (by omega) (Nat.le_trans hsz hb2.size) ?_; intro v3 w3 ho3 hb3 hk3))
      have hf := hk3 _ _ _ _ _ _ ho2 (hk2 _ _ _ _ _ _ HO.out HA.out).2.symm
      go_roundw
      case rel => first | exact ⟨k + 1, by omega, by go_num, by (rw [HR.out]; exact ho3), by (rw [HK.out]; exact hf.1), hf.2.symm, (hbw.trans hb2).trans hb3⟩ | ((repeat apply Exists.intro); exact ⟨⟨k + 1, by omega, by go_num, by (rw [HR.out]; exact ho3), by (rw [HK.out]; exact hf.1), hf.2.symm, (hbw.trans hb2).trans hb3⟩, rfl⟩)
      case measure => simp [intOf]; omega
    · obtain rfl : k = p := by omega
      obtain ⟨A1, c1, e1⟩ := ho.form
      obtain ⟨A2, c2, e2⟩ := hi.form
      have hdl : (data ++ List.replicate k (0 : GF)).length = data.length + k := by simp
      rw [hdl] at e1
      rw [toI_len, encK_len] at e2
      subst e1
      subst e2
      have HO := Lib.hid ho
      have hsz := hbw.size
      have HRO := Lib.hid ho.rd.1
      have HRI := Lib.hid hi.rd.1
      have HEX := Lib.hid (enc_has (data := data) (p := k))
      have HES := Lib.hid (fun (x : List GF) (hx : x.length = k) => (enc_sol (data := data) hx).1)
      have HEL := Lib.hid (fun i (hi : i < k) => (congrArg List.length (colL_get (encK data.length k) (data.length + k) hi)).trans (by rw [colR_len, encK_len]))
      have HKL := Lib.hid (fun i (hi : i ∈ encK data.length k) => (mem_encK.1 hi).2)
      have HZM := Lib.hid (eMid_zero data)
      have hlen1 : data.length + k ≤ 255 := h3
      clear ho hi hlt hap
      go_wp2_with (first
        | (go_at_call 43; refine (rColumns_any A2 k c2 (data.length + k) k (encK data.length k) _ HRI.out HKL.out (by omega) h3 (by omega)).mono ?_; rintro e w2 ⟨A3, c3, hv3, rfl, hm3, hb2⟩; have HRO2 := Lib.hid (HRO.out.below hb2); have HM3 := Lib.hid hm3; clear hm3)
        | (go_at_call 44; refine (rSyndromes_any A1 (data.length + k) c1 k _ _ HRO2.out (by omega) (by omega)).mono ?_; rintro e w3 ⟨A4, c4, rfl, ho4, hb3⟩; have HM4 := Lib.hid (HM3.out.below hb3); have HS4 := Lib.hid ho4.rd.1; clear ho4)
        | (go_at_call 42; refine (rSolve_any A3 A4 k c3 k c4 k _ _ _ HM4.out.rd.1 HS4.out (Nat.le_refl _) HEL.out (by omega) (by omega)).mono ?_; rintro e w4 ⟨A5, c5, x, ok, rfl, ho5, hok, hno, hb4⟩))
      obtain rfl : ok = true := by
        cases ok with
        | true => rfl
        | false => exact absurd HEX.out (fun ⟨x, hx⟩ => hno rfl x hx)
      have hxl : x.length = k := ho5.rd.2.symm
      have HIE := Lib.hid (HES.out x hxl (hok rfl))
      have hb5 : Below wr.heap.size wr w4 := Bw.step (Bw.step hb2 hb3) hb4
      have HO5 := Lib.hid ((HO.out.below hb5))
      rw [← HZM.out x] at HO5
      have HX5 := Lib.hid ho5
      have hb6 : Below w.heap.size w w4 := hbw.trans (hb5.mono hsz)
      have hz3 := (Bw.step hb2 hb3).size
      have HLO : Hid (∀ g, A1 = some ⟨g, 0, none⟩ → g < w3.heap.size) := Lib.hid fun g hg => by
        have := HO.out
        rw [hg] at this
        exact Nat.lt_of_lt_of_le this.lt.2 hz3
      have HST := Lib.hid (fun j (hj : j < k) => eMid_step data hxl hj)
      have HEN := Lib.hid (eMid_end data hxl)
      clear ho5 hok hno HEX HES HKL HEL HM4 HS4 HRO2 HRO HRI HM3 hb2 hb3 hb4 HO HZM hdl
      go_wp2
      go_loopw [10] (fun i wr => ∃ j : Nat, j ≤ k ∧ i = .int .i64 j ∧ OwB wr w.heap.size (.slice A1 (data.length + k) c1) (eMid data x k j) ∧ OwB wr w3.heap.size (.slice A5 k c5) x ∧ Below w.heap.size w wr) (fun i _ => k - (intOf i).toNat)
      case atStart => exact ⟨0, Nat.zero_le _, rfl, HO5.out, HX5.out, hb6⟩
      case round =>
        obtain ⟨j, hj, rfl, ho, hx, hbw⟩ := hrel
        by_cases hlj : j < k
        · obtain ⟨g, rfl⟩ := ho.head (by omega)
          obtain ⟨gx, rfl⟩ := hx.head (by omega)
          have hgl := HLO.out g rfl
          have hcx := hx.cellAt (i := j) hlj
          have hco := ho.cellAt (i := data.length + j) (by omega)
          have hfo := ho.frozenAt (data.length + j)
          have HN := Lib.hid (ho.set (data.length + j) (x.getD j 0))
          rw [HST.out j hlj] at HN
          have HNX := Lib.hid (own_low hx (p := ⟨g, data.length + j, none⟩) hgl (.int .u8 (x.getD j 0).z))
          have HNB := Lib.hid (hbw.setCell (p := ⟨g, data.length + j, none⟩) ho.lt.1 (.int .u8 (x.getD j 0).z))
          generalize x.getD j 0 = y at *
          generalize (eMid data x k j).getD (data.length + j) 0 = yo at *
          clear ho hx hbw hb6
          go_wp2
          go_roundw
          case rel => first | exact ⟨j + 1, by omega, by go_num, HN.out, HNX.out, HNB.out⟩ | ((repeat apply Exists.intro); exact ⟨⟨j + 1, by omega, by go_num, HN.out, HNX.out, HNB.out⟩, rfl⟩)
          case measure => simp [intOf]; omega
        · obtain rfl : j = k := by omega
          rw [HEN.out] at ho
          go_wp2
          go_ret
          exact ⟨_, _, _, rfl, ho, HIE.out, hbw⟩
end Go.Proofs.Ytcinfkmekkdhfaa
/- The walks of the laws RsSyndromesMatchSpec, RsDecodeIsSound, RsFewerParities. -/
namespace Go.Proofs.Ytcinfkmekkdhfaa
open Go.RowKit
set_option linter.unusedVariables false

theorem wf64 {a : Int} (h : (Lit.int .i64 a).wf = true) : -9223372036854775808 ≤ a ∧ a ≤ 9223372036854775807 := by
  simp [Lit.wf, IntKind.min, IntKind.max, IntKind.signed, IntKind.bits] at h
  omega
theorem IsRow.rdI {w : World} {a : Option Addr} {len cap : Nat} {zs : List Int} (h : IsRow .i64 w a len cap zs) : ∃ l : List Int, RdI w a len l ∧ len ≤ 9223372036854775807 ∧ len ≤ cap ∧ ∀ n ∈ l, -9223372036854775808 ≤ n ∧ n ≤ 9223372036854775807 := by
  rcases h with ⟨rfl, rfl, rfl, rfl⟩ | ⟨x, rfl, hl, hm, hz, hcell, hwz⟩
  · exact ⟨[], ⟨rfl, fun h => by omega⟩, by omega, Nat.le_refl _, by simp⟩
  · refine ⟨zs.take len, ⟨by rw [List.length_take]; omega, fun hn => ?_⟩, by unfold maxLen at hm; omega, hl, fun n hn => wf64 (hwz n (List.mem_of_mem_take hn))⟩
    obtain ⟨b, off, spot⟩ := x
    have hc0 := hcell 0 (by omega)
    have hspot : spot = none := by simpa [Addr.add] using World.cell?_spot hc0
    subst hspot
    have hlt : b < w.heap.size := by
      have h0 := hcell 0 (by omega)
      rw [addr_add] at h0
      rcases Nat.lt_or_ge b w.heap.size with h | h
      · exact h
      · simp [World.cell?, Array.getElem?_eq_none h] at h0
    refine ⟨b, off, rfl, hlt, fun i hi => ?_⟩
    have hi2 : i < zs.length := by omega
    rw [← addr_add, hcell i hi2]
    simp [List.getD, hi]
theorem IsRow.rdB {w : World} {a : Option Addr} {len cap : Nat} {zs : List Int} (h : IsRow .u8 w a len cap zs) : ∃ l : List GF, RdB w a len l ∧ len ≤ 9223372036854775807 := by
  obtain ⟨l, h1, h2⟩ := h.bytes
  exact ⟨l, h1, by unfold maxLen at h2; omega⟩
theorem wF_code {n : Nat} {p : Int} (h : wF n p ≠ (0, 0)) : (wF n p).1 = 4 ∨ (wF n p).1 = 9 := by
  rcases wF_cases n p with ⟨q, _, _, _, _, h'⟩ | ⟨_, h'⟩ | ⟨_, _, h'⟩
  · exact absurd h' h
  · rw [h']; exact .inl rfl
  · rw [h']; exact .inr rfl
theorem dF_code {n : Nat} {p : Int} (h : dF n p ≠ (0, 0)) : (dF n p).1 = 4 ∨ (dF n p).1 = 9 := by
  rcases dF_cases n p with ⟨q, _, _, _, _, h'⟩ | ⟨_, h'⟩ | ⟨_, _, h'⟩
  · exact absurd h' h
  · rw [h']; exact .inl rfl
  · rw [h']; exact .inr rfl
end Go.Proofs.Ytcinfkmekkdhfaa
/- Lists as first values of a function; the only code word within the bound. -/
namespace Go.Proofs.Ytcinfkmekkdhfaa
open Go.RowKit
set_option linter.unusedVariables false

/-- The list of the first values of a function. -/
def lineF (n : Nat) (f : Nat → GF) : List GF := (List.range n).map f
theorem lineF_len (n : Nat) (f : Nat → GF) : (lineF n f).length = n := by simp [lineF]
theorem lineF_get {n : Nat} {f : Nat → GF} {i : Nat} (hi : i < n) : (lineF n f).getD i 0 = f i := by simp [lineF, List.getD, hi]
theorem lineF_congr {n : Nat} {f g : Nat → GF} (h : ∀ i, i < n → f i = g i) : lineF n f = lineF n g :=
  eq_of_getD (by rw [lineF_len, lineF_len]) fun i hi => by rw [lineF_len] at hi; rw [lineF_get hi, lineF_get hi, h i hi]
theorem lineF_eq {n : Nat} {f : Nat → GF} {l : List GF} (hl : l.length = n) (h : ∀ i, i < n → f i = l.getD i 0) : lineF n f = l :=
  eq_of_getD (by rw [lineF_len, hl]) fun i hi => by rw [lineF_len] at hi; rw [lineF_get hi, h i hi]
theorem sorted_nodup {l : List Nat} (h : l.Pairwise (· < ·)) : l.Nodup := List.Pairwise.imp (fun h e => by omega) h
open Classical in
/-- The only code word within the bound. -/
noncomputable def decW (p : Nat) (l : List GF) (es : List Nat) : Option (List GF) := if h : ∃ c, Within p l es c then some h.choose else none
theorem decW_hit {p : Nat} {l c : List GF} {es : List Nat} (hn : l.length ≤ 255) (hnd : es.Nodup) (hlt : ∀ i ∈ es, i < l.length) (h : Within p l es c) : decW p l es = some c := by
  have he : ∃ c, Within p l es c := ⟨c, h⟩
  unfold decW
  rw [dif_pos he]
  exact congrArg some (within_unique hn hnd hlt he.choose_spec h)
theorem decW_miss {p : Nat} {l : List GF} {es : List Nat} (h : ∀ c, ¬ Within p l es c) : decW p l es = none := by
  unfold decW; exact dif_neg fun ⟨c, hc⟩ => h c hc
/-- A decoded word is as long as the word. -/
theorem decW_some {p : Nat} {l c : List GF} {es : List Nat} (h : decW p l es = some c) : Within p l es c := by
  unfold decW at h
  by_cases he : ∃ c, Within p l es c
  · rw [dif_pos he] at h
    injection h with h
    rw [← h]; exact he.choose_spec
  · rw [dif_neg he] at h; cases h
end Go.Proofs.Ytcinfkmekkdhfaa
