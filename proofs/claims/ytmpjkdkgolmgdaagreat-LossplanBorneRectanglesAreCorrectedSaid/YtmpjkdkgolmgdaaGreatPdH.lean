/- Product codes: walks of a decoder's treat and round. -/
import Derived.Test.YtmpjkdkgolmgdaaGreatPdG
namespace Go.Proofs.YtmpjkdkgolmgdaaGreat
open Go.RowKit
set_option linter.unusedVariables false

theorem decW_none {p : Nat} {l : List GF} {es : List Nat} (h : decW p l es = none) : ∀ c, ¬ Within p l es c := fun c hc => by
  unfold decW at h
  rw [dif_pos ⟨c, hc⟩] at h; cases h
theorem decode_hit (A I : Option Addr) (n c ci m p : Nat) (l c0 : List GF) (es : List Nat) (w : World) (hl : RdB w A n l) (hi : RdI w I m (toI es)) (hm : m ≤ 255) (h1 : p ≤ 32) (h2 : p + 1 ≤ n) (h3 : n ≤ 255) (hlt : ∀ i ∈ es, i < n) (hP : es.Pairwise (· < ·)) (hW : decW p l es = some c0) :
    Calls Tryz.prog 66 #[.slice A n c, .int .i64 p, .slice I m ci] w fun e w' => ∃ A' c' k, e = .returned (.tuple #[.slice A' n c', .int .i64 k, .agg #[.int .i64 0, .int .i64 0]]) ∧ OwB w' w.heap.size (.slice A' n c') c0 ∧ Below w.heap.size w w' := by
  have ll := hl.1
  subst ll
  refine (Decode_ok A I l.length c ci m p l (toI es) w hl hi (by omega) h1 h2 h3).mono fun e w' hp => ?_
  obtain ⟨A', c', he, ho, hb⟩ := hp.hit h3 hlt hP (decW_some hW)
  exact ⟨A', c', _, he, ho, hb⟩
theorem decode_miss (A I : Option Addr) (n c ci m p : Nat) (l : List GF) (es : List Nat) (w : World) (hl : RdB w A n l) (hi : RdI w I m (toI es)) (hm : m ≤ 255) (h1 : p ≤ 32) (h2 : p + 1 ≤ n) (h3 : n ≤ 255) (hlt : ∀ i ∈ es, i < n) (hP : es.Pairwise (· < ·)) (hW : decW p l es = none) :
    Calls Tryz.prog 66 #[.slice A n c, .int .i64 p, .slice I m ci] w fun e w' => e = .returned (.tuple #[.slice none 0 0, .int .i64 0, .agg #[.int .i64 16, .int .i64 (-1)]]) ∧ Below w.heap.size w w' := by
  have ll := hl.1
  subst ll
  refine (Decode_ok A I l.length c ci m p l (toI es) w hl hi (by omega) h1 h2 h3).mono fun e w' hp => ?_
  exact hp.miss hlt hP (decW_none hW)
theorem OwT.exc {w w' : World} {B g n c : Nat} {l : List Bool} {gs : List Nat} (h : OwT w B (.slice (some ⟨g, 0, none⟩) n c) l) (hx : Exc gs w w') (hn : g ∉ gs) : OwT w' B (.slice (some ⟨g, 0, none⟩) n c) l := own_exc h hx fun g' hg => by injection hg with hg; subst hg; exact hn
/-- A decoder's memory. -/
structure DeR (w wr : World) (B y g1 g2 : Nat) (R C p q : Int) (n c1 c2 : Nat) (s : St) : Prop where
  v : S6 wr y R C p q (.slice (some ⟨g1, 0, none⟩) n c1) (.slice (some ⟨g2, 0, none⟩) n c2)
  b : OwB wr B (.slice (some ⟨g1, 0, none⟩) n c1) s.1
  m : OwT wr B (.slice (some ⟨g2, 0, none⟩) n c2) s.2
  x : Exc [g1, g2] w wr
  y1 : y ≠ g1
  y2 : y ≠ g2
  ne : g1 ≠ g2
theorem DeR.below {w wr wr' : World} {B y g1 g2 : Nat} {R C p q : Int} {n c1 c2 : Nat} {s : St} (r : DeR w wr B y g1 g2 R C p q n c1 c2 s) (hb : Below wr.heap.size wr wr') : DeR w wr' B y g1 g2 R C p q n c1 c2 s :=
  ⟨r.v.below hb, r.b.below hb, r.m.below hb, r.x.step hb, r.y1, r.y2, r.ne⟩
theorem DeR.setM {w wr : World} {B y g1 g2 : Nat} {R C p q : Int} {n c1 c2 : Nat} {b : List GF} {m : List Bool} (r : DeR w wr B y g1 g2 R C p q n c1 c2 (b, m)) (i : Nat) (t : Bool) : DeR w (wr.setCell ⟨g2, i, none⟩ (.bool t)) B y g1 g2 R C p q n c1 c2 (b, m.set i t) :=
  have X := (Exc.refl [g2] wr).set (p := ⟨g2, i, none⟩) (List.mem_singleton.2 rfl) (.bool t)
  ⟨r.v.exc X (by have := r.y2; simp; omega), r.b.exc X (by have := r.ne; simp; omega), r.m.set i t, r.x.trans (X.more (by simp)), r.y1, r.y2, r.ne⟩
theorem DeR.updB {w wr W : World} {B y g1 g2 : Nat} {R C p q : Int} {n c1 c2 : Nat} {b b' : List GF} {m : List Bool} (r : DeR w wr B y g1 g2 R C p q n c1 c2 (b, m)) (hx : Exc [g1] wr W) (ho : OwB W B (.slice (some ⟨g1, 0, none⟩) n c1) b') : DeR w W B y g1 g2 R C p q n c1 c2 (b', m) :=
  ⟨r.v.exc hx (by have := r.y1; simp; omega), ho, r.m.exc hx (by have := r.ne; simp; omega), r.x.trans (hx.more (by simp)), r.y1, r.y2, r.ne⟩
theorem OwT.under {w w' : World} {B g n c B' : Nat} {l : List Bool} (h : OwT w B (.slice (some ⟨g, 0, none⟩) n c) l) (hb : Below B' w w') (hg : g < B') : OwT w' B (.slice (some ⟨g, 0, none⟩) n c) l := own_belowS h (fun g' e => by injection e with e; subst e; exact hg) hb
theorem OwB.underg {w w' : World} {B g n c B' : Nat} {l : List GF} (h : OwB w B (.slice (some ⟨g, 0, none⟩) n c) l) (hb : Below B' w w') (hg : g < B') : OwB w' B (.slice (some ⟨g, 0, none⟩) n c) l := own_belowS h (fun g' e => by injection e with e; subst e; exact hg) hb
theorem DeR.under {w wr w1 : World} {B y g1 g2 B' : Nat} {R C p q : Int} {n c1 c2 : Nat} {s : St} (r : DeR w wr B y g1 g2 R C p q n c1 c2 s) (hb : Below B' wr w1) (hy : y < B') (h1 : g1 < B') (h2 : g2 < B') (hw : w.heap.size ≤ B') : DeR w w1 B y g1 g2 R C p q n c1 c2 s :=
  ⟨r.v.under hb hy, r.b.underg hb h1, r.m.under hb h2, ⟨hb.os.trans r.x.os, hb.tape.trans r.x.tape, hb.output.trans r.x.output, Nat.le_trans r.x.size hb.size, fun k hk hn => (hb.block k (by omega)).trans (r.x.block k hk hn)⟩, r.y1, r.y2, r.ne⟩
set_option maxRecDepth 100000 in
set_option maxHeartbeats 8000000 in
theorem treat_any (R C p q : Int) (B S g1 g2 n c1 c2 mi ci pt : Nat) (I : Option Addr) (b : List GF) (m : List Bool) (ps : List Nat) (w : World) (hb : OwB w B (.slice (some ⟨g1, 0, none⟩) n c1) b) (hm : OwT w B (.slice (some ⟨g2, 0, none⟩) n c2) m)
    (hne : g1 ≠ g2) (hi : OwI w S (.slice I mi ci) (toI ps)) (hmi : mi = ps.length) (hS : g1 < S ∧ g2 < S) (hnd : ps.Nodup) (hlt : ∀ i ∈ ps, i < n) (hn : n ≤ 1024) (h32 : mi ≤ 32) (hpt : pt + 1 ≤ mi) :
    Calls Tryz.prog 53 #[decV R C p q (.slice (some ⟨g1, 0, none⟩) n c1) (.slice (some ⟨g2, 0, none⟩) n c2), .slice I mi ci, .int .i64 pt] w fun e w' => e = .returned (.tuple #[]) ∧ OwB w' B (.slice (some ⟨g1, 0, none⟩) n c1) (treatL (b, m) ps pt).1 ∧ OwT w' B (.slice (some ⟨g2, 0, none⟩) n c2) (treatL (b, m) ps pt).2 ∧ Exc [g1, g2] w w' := by
  subst hmi
  have HLT := Lib.hid hlt
  have hg1 := hb.lt.2
  have hg2 := hm.lt.2
  have HIL : Hid (∀ g, (Value.slice I ps.length ci).ownBlock = some g → g < w.heap.size + 1) := Lib.hid fun g hg => Nat.lt_succ_of_lt (own_lt hi hg).2
  have hbl : b.length = n := hb.rd.2.symm
  have hml : m.length = n := hm.len.symm
  have D0 : DeR w (w.alloc (decC R C p q (.slice (some ⟨g1, 0, none⟩) n c1) (.slice (some ⟨g2, 0, none⟩) n c2))) B w.heap.size g1 g2 R C p q n c1 c2 (b, m) :=
    ⟨S6.new w R C p q _ _, hb.below (below_new _ _), hm.below (below_new _ _), Exc.of _ (below_new _ _), by omega, by omega, hne⟩
  have I0 := Lib.hid (own_below hi (below_new w (decC R C p q (.slice (some ⟨g1, 0, none⟩) n c1) (.slice (some ⟨g2, 0, none⟩) n c2))))
  have hz0 : w.heap.size + 1 = (w.alloc (decC R C p q (.slice (some ⟨g1, 0, none⟩) n c1) (.slice (some ⟨g2, 0, none⟩) n c2))).heap.size := by rw [World.size_alloc]
  clear hb hm hi hlt
  go_enter Tryz.func53, Tryz.ntmps53
  go_wp2
  generalize w.alloc (decC R C p q (.slice (some ⟨g1, 0, none⟩) n c1) (.slice (some ⟨g2, 0, none⟩) n c2)) = W0 at *
  have HZ0 := Lib.hid hz0
  clear hz0
  go_loopw [6, 17] (fun u i wr => ∃ k : Nat, k ≤ ps.length ∧ i = .int .i64 k ∧ OwI wr (w.heap.size + 1) u (toI (erN m ps k)) ∧ OwI wr S (.slice I ps.length ci) (toI ps) ∧ DeR w wr B w.heap.size g1 g2 R C p q n c1 c2 (b, m) ∧ w.heap.size + 1 ≤ wr.heap.size) (fun _ i _ => ps.length - (intOf i).toNat)
  case atStart => exact ⟨0, Nat.zero_le _, rfl, OwI.nil _ _, I0.out, D0, Nat.le_of_eq HZ0.out⟩
  case round =>
    obtain ⟨k, hk, rfl, ho, hi, hD, hsz⟩ := hrel
    by_cases hlk : k < ps.length
    · have hkn := HLT.out _ (gmem hlk)
      have HO := Lib.hid ho
      have HI := Lib.hid hi
      have HD := Lib.hid hD
      obtain ⟨bi, oi, rfl, hlb, hcc⟩ := rdI_cell hi.rd.1 (i := k) hlk
      rw [toI_getD] at hcc
      have hcm := hD.m.cellAt (i := ps.getD k 0) hkn
      obtain ⟨⟨⟨ls, s0, s1, s2, s3⟩, s4⟩, s5⟩ := id hD.v
      have hel : (toI (erN m ps k)).length ≤ 32 := by rw [toI_len]; have := erN_len m ps k; omega
      have HEY := Lib.hid (fun h => erN_yes (m := m) (ps := ps) (k := k) h)
      have HEN := Lib.hid (fun h => erN_no (m := m) (ps := ps) (k := k) h)
      clear ho hi hD D0
      show _
      have hcm2 : wr.cell? ⟨g2, ps.getD k 0, none⟩ = some (.bool (m.getD (ps.getD k 0) false)) := hcm
      clear hcm
      generalize m.getD (ps.getD k 0) false = mk at *
      generalize ps.getD k 0 = j at *
      cases mk with
      | true =>
        have HE := Lib.hid (show toI (erN m ps (k + 1)) = toI (erN m ps k) ++ [(k : Int)] by rw [HEY.out rfl, toI_append]; rfl)
        generalize toI (erN m ps k) = L at *
        clear HEY HEN
        go_wp2_with (at_builtin; refine wpList_app1I wr rfl (.tmp 27) (.tmp 29) rfl (w.heap.size + 1) _ L HO.out rfl _ _ rfl (by omega) hsz ?_; intro v1 w1 ho1 hb1)
        go_roundw
        case rel => first | exact ⟨k + 1, by omega, by go_num, by (rw [HE.out]; exact ho1), own_belowS HI.out HIL.out hb1, HD.out.under hb1 (Nat.lt_succ_self _) (by omega) (by omega) (by omega), Nat.le_trans hsz hb1.size⟩ | ((repeat apply Exists.intro); exact ⟨⟨k + 1, by omega, by go_num, by (rw [HE.out]; exact ho1), own_belowS HI.out HIL.out hb1, HD.out.under hb1 (Nat.lt_succ_self _) (by omega) (by omega) (by omega), Nat.le_trans hsz hb1.size⟩, rfl⟩)
        case measure => simp [intOf]; omega
      | false =>
        have HE := Lib.hid (show toI (erN m ps (k + 1)) = toI (erN m ps k) by rw [HEN.out rfl])
        generalize toI (erN m ps k) = L at *
        clear HEY HEN
        go_wp2
        go_roundw
        case rel => first | exact ⟨k + 1, by omega, by go_num, by (rw [HE.out]; exact HO.out), HI.out, HD.out, hsz⟩ | ((repeat apply Exists.intro); exact ⟨⟨k + 1, by omega, by go_num, by (rw [HE.out]; exact HO.out), HI.out, HD.out, hsz⟩, rfl⟩)
        case measure => simp [intOf]; omega
    · obtain rfl : k = ps.length := by omega
      obtain ⟨A5, c5, e5⟩ := ho.form
      rw [toI_len] at e5
      subst e5
      have hel : (erL m ps).length ≤ ps.length := erN_len m ps ps.length
      have HO := Lib.hid ho
      have HI := Lib.hid hi
      have HD := Lib.hid hD
      have HGET := Lib.hid (get_any R C p q (some ⟨g1, 0, none⟩) I n c1 ps.length ci b ps wr hD.b.rd.1 hi.rd.1 h32 HLT.out hn)
      have hps : ∀ i ∈ erL m ps, i < ps.length := fun i hi => erL_lt hi
      have HEL := Lib.hid hps
      have HES := Lib.hid (erL_sorted m ps)
      obtain ⟨⟨⟨ls, s0, s1, s2, s3⟩, s4⟩, s5⟩ := id hD.v
      clear ho hi hD D0 hps
      go_wp2_with fail
      refine HGET.out.mono ?_
      rintro e w2 ⟨A4, c4, rfl, ho4, hb2⟩
      have HD2 := Lib.hid (HD.out.below hb2)
      have HI2 := Lib.hid (own_below HI.out hb2)
      have HRE := Lib.hid (HO.out.rd.1.below hb2)
      have HR4 := Lib.hid ho4.rd.1
      have hsz2 : w.heap.size + 1 ≤ w2.heap.size := Nat.le_trans hsz hb2.size
      clear HO HI HD HGET ls s0 s1 s2 s3 s4 s5 ho4 hb2
      cases hdw : decW pt (getL b ps) (erL m ps) with
      | some c0 =>
        have HDC := Lib.hid (decode_hit A4 A5 ps.length c4 c5 (erL m ps).length pt (getL b ps) c0 (erL m ps) w2 HR4.out HRE.out (by omega) (by omega) hpt (by omega) HEL.out HES.out hdw)
        have HTL := Lib.hid (treat_hit (s := (b, m)) (ps := ps) (p := pt) hdw)
        have hcl : c0.length = ps.length := (decW_some hdw).1.trans (getL_len b ps)
        clear hdw HRE HR4
        go_wp2_with fail
        refine HDC.out.mono ?_
        rintro e w3 ⟨A6, c6, kk, rfl, ho6, hb3⟩
        have HD3 := Lib.hid ((HD2.out.below hb3).below (below_new w3 (fltC 0 0)))
        have HI3 := Lib.hid (own_below (own_below HI2.out hb3) (below_new w3 (fltC 0 0)))
        have HO6 := Lib.hid (ho6.below (below_new w3 (fltC 0 0)))
        have F3 := Has.new w3 0 0 27
        obtain ⟨⟨⟨ls, s0, s1, s2, s3⟩, s4⟩, s5⟩ := id HD3.out.v
        obtain ⟨lf, f0, f1, f2, f3⟩ := id F3
        clear HD2 HI2 HDC ho6 hb3
        have hg1' : g1 < w2.heap.size := by omega
        have HSET := Lib.hid (set_any2 R C p q g1 n c1 ps.length ps.length ci c6 B (g1 + 1) I A6 b c0 ps _ rfl HD3.out.b (own_base HI3.out hS.1) (own_base HO6.out hg1') (Nat.lt_succ_self _) (Nat.le_refl _) h32 HLT.out hn)
        have HUP := Lib.hid (fun W b' (h1 : Exc [g1] (w3.alloc (fltC 0 0)) W) h2 => HD3.out.updB (b' := b') h1 h2)
        have HIX := Lib.hid (fun W (h1 : Exc [g1] (w3.alloc (fltC 0 0)) W) => own_exc HI3.out h1 (fun g hg hm => by have h5 := (own_lt HI3.out hg).1; rw [List.mem_singleton] at hm; omega))
        go_wp2_with fail
        refine HSET.out.mono ?_
        rintro e w4 ⟨rfl, ho7, hx7⟩
        have HD4 := Lib.hid (HUP.out _ _ hx7 ho7)
        have HI4 := Lib.hid (HIX.out _ hx7)
        clear HUP HIX HSET HD3 HI3 ho7 hx7 ls s0 s1 s2 s3 s4 s5 lf f0 f1 f2 f3 F3 HO6
        go_wp2
        go_loopw [55] (fun i wr => ∃ k : Nat, k ≤ ps.length ∧ i = .int .i64 k ∧ OwI wr S (.slice I ps.length ci) (toI ps) ∧ DeR w wr B w.heap.size g1 g2 R C p q n c1 c2 (putN b ps (fun k => c0.getD k 0) ps.length, putN m ps (fun _ => false) k)) (fun i _ => ps.length - (intOf i).toNat)
        case atStart => exact ⟨0, Nat.zero_le _, rfl, HI4.out, HD4.out⟩
        case round =>
          obtain ⟨k, hk, rfl, hi, hD⟩ := hrel
          by_cases hlk : k < ps.length
          · have hkn := HLT.out _ (gmem hlk)
            obtain ⟨bi, oi, rfl, hlb, hcc⟩ := rdI_cell hi.rd.1 (i := k) hlk
            rw [toI_getD] at hcc
            have hco := hD.m.cellAt (i := ps.getD k 0) hkn
            have hfo := hD.m.frozenAt (ps.getD k 0)
            have HN := Lib.hid (hD.setM (ps.getD k 0) false)
            have HNI := Lib.hid (own_low hi (p := ⟨g2, ps.getD k 0, none⟩) hS.2 (.bool false))
            obtain ⟨⟨⟨ls, s0, s1, s2, s3⟩, s4⟩, s5⟩ := id hD.v
            have HPS : Hid (putN m ps (fun _ => false) (k + 1) = (putN m ps (fun _ => false) k).set (ps.getD k 0) false) := Lib.hid rfl
            clear hi hD HI4 HD4
            generalize (putN m ps (fun _ => false) k).getD (ps.getD k 0) false = mo at *
            generalize ps.getD k 0 = j at *
            go_wp2
            go_roundw
            case rel => first | exact ⟨k + 1, by omega, by go_num, HNI.out, by (rw [HPS.out]; exact HN.out)⟩ | ((repeat apply Exists.intro); exact ⟨⟨k + 1, by omega, by go_num, HNI.out, by (rw [HPS.out]; exact HN.out)⟩, rfl⟩)
            case measure => simp [intOf]; omega
          · obtain rfl : k = ps.length := by omega
            clear HI4 HD4
            go_wp2
            go_end0
            exact ⟨rfl, by rw [HTL.out]; exact hD.b, by rw [HTL.out]; exact hD.m, hD.x⟩
      | none =>
        have HDC := Lib.hid (decode_miss A4 A5 ps.length c4 c5 (erL m ps).length pt (getL b ps) (erL m ps) w2 HR4.out HRE.out (by omega) (by omega) hpt (by omega) HEL.out HES.out hdw)
        have HTL := Lib.hid (treat_miss (s := (b, m)) (ps := ps) (p := pt) hdw)
        clear hdw HRE HR4
        go_wp2_with fail
        refine HDC.out.mono ?_
        rintro e w3 ⟨rfl, hb3⟩
        have HD4 := Lib.hid ((HD2.out.below hb3).below (below_new w3 (fltC 16 (-1))))
        have HI4 := Lib.hid (own_below (own_below HI2.out hb3) (below_new w3 (fltC 16 (-1))))
        have F3 := Has.new w3 16 (-1) 27
        obtain ⟨⟨⟨ls, s0, s1, s2, s3⟩, s4⟩, s5⟩ := id HD4.out.v
        obtain ⟨lf, f0, f1, f2, f3⟩ := id F3
        clear HD2 HI2 HDC hb3
        go_wp2
        clear ls s0 s1 s2 s3 s4 s5 lf f0 f1 f2 f3 F3
        go_loopw [55] (fun i wr => ∃ k : Nat, k ≤ ps.length ∧ i = .int .i64 k ∧ OwI wr S (.slice I ps.length ci) (toI ps) ∧ DeR w wr B w.heap.size g1 g2 R C p q n c1 c2 (b, putN m ps (fun _ => true) k)) (fun i _ => ps.length - (intOf i).toNat)
        case atStart => exact ⟨0, Nat.zero_le _, rfl, HI4.out, HD4.out⟩
        case round =>
          obtain ⟨k, hk, rfl, hi, hD⟩ := hrel
          by_cases hlk : k < ps.length
          · have hkn := HLT.out _ (gmem hlk)
            obtain ⟨bi, oi, rfl, hlb, hcc⟩ := rdI_cell hi.rd.1 (i := k) hlk
            rw [toI_getD] at hcc
            have hco := hD.m.cellAt (i := ps.getD k 0) hkn
            have hfo := hD.m.frozenAt (ps.getD k 0)
            have HN := Lib.hid (hD.setM (ps.getD k 0) true)
            have HNI := Lib.hid (own_low hi (p := ⟨g2, ps.getD k 0, none⟩) hS.2 (.bool true))
            obtain ⟨⟨⟨ls, s0, s1, s2, s3⟩, s4⟩, s5⟩ := id hD.v
            have HPS : Hid (putN m ps (fun _ => true) (k + 1) = (putN m ps (fun _ => true) k).set (ps.getD k 0) true) := Lib.hid rfl
            clear hi hD HI4 HD4
            generalize (putN m ps (fun _ => true) k).getD (ps.getD k 0) false = mo at *
            generalize ps.getD k 0 = j at *
            go_wp2
            go_roundw
            case rel => first | exact ⟨k + 1, by omega, by go_num, HNI.out, by (rw [HPS.out]; exact HN.out)⟩ | ((repeat apply Exists.intro); exact ⟨⟨k + 1, by omega, by go_num, HNI.out, by (rw [HPS.out]; exact HN.out)⟩, rfl⟩)
            case measure => simp [intOf]; omega
          · obtain rfl : k = ps.length := by omega
            clear HI4 HD4
            go_wp2
            go_end0
            exact ⟨rfl, by rw [HTL.out]; exact hD.b, by rw [HTL.out]; exact hD.m, hD.x⟩
end Go.Proofs.YtmpjkdkgolmgdaaGreat
