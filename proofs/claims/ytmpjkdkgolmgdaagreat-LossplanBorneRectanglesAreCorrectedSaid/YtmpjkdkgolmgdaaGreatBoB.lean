/- Rectangles that a plan bears: the walk of the law. -/
import Derived.Test.YtmpjkdkgolmgdaaGreatBoA
import Derived.Test.YtmpjkdkgolmgdaaGreatLpQ
import Derived.Test.YtmpjkdkgolmgdaaGreatLpN
import Derived.Test.YtmpjkdkgolmgdaaGreatPdK
import Derived.Test.YtmpjkdkgolmgdaaGreatMf
namespace Go.Proofs.YtmpjkdkgolmgdaaGreat
open Go.RowKit
set_option linter.unusedVariables false

abbrev plO (r c d p : Int) : Obj := .cells #[.int .i64 r, .int .i64 c, .int .i64 d, .int .i64 p] 23
abbrev bxO (a b c d : Int) : Obj := .cells #[.int .i64 a, .int .i64 b, .int .i64 c, .int .i64 d] 25
abbrev bxV (a b c d : Int) : Value := .agg #[.int .i64 a, .int .i64 b, .int .i64 c, .int .i64 d]
theorem IsRow.bytes5 {w : World} {a : Option Addr} {len cap : Nat} {zs : List Int} (h : IsRow .u8 w a len cap zs) : ∃ l : List GF, RdB w a len l ∧ len ≤ 9223372036854775807 ∧ len ≤ cap := by
  obtain ⟨l, h1, h2⟩ := h.bytes
  refine ⟨l, h1, by unfold maxLen at h2; omega, ?_⟩
  rcases h with ⟨rfl, rfl, rfl, rfl⟩ | ⟨x, rfl, hl, hm, hz, hcell, hwz⟩
  · exact Nat.le_refl _
  · exact hl
theorem H4.s4 {w : World} {b : Nat} {R C p q : Int} (h : H4 w b R C p q) : S4 w b R C p q := ⟨h.1, h.2.1.1, h.2.1.2.1, h.2.1.2.2.1, h.2.1.2.2.2⟩
/-- What Bears returns, whatever it is. -/
theorem bears_some (r c d p h v : Int) (w : World) : ∃ (bv : Bool) (fc fi : Int), Calls Tryz.prog 4 #[plV r c d p, loV 0 0 h v 0] w fun e w' => e = .returned (.tuple #[.bool bv, .agg #[.int .i64 fc, .int .i64 fi]]) ∧ Below w.heap.size w w' := by
  by_cases h1 : plF r c d p = (0, 0)
  · by_cases h2 : loF 0 0 h v 0 = (0, 0)
    · obtain ⟨_, _, hh, hv, _⟩ := loF_ok h2
      obtain ⟨H, rfl⟩ := Int.eq_ofNat_of_zero_le hh.1
      obtain ⟨W, rfl⟩ := Int.eq_ofNat_of_zero_le hv.1
      exact ⟨_, _, _, lpBears_ok r c d p 0 0 0 _ _ H W w h1 h2 rfl rfl⟩
    · exact ⟨_, _, _, lpBears_badL r c d p 0 0 h v 0 w h1 h2⟩
  · exact ⟨_, _, _, lpBears_badP r c d p 0 0 h v 0 w h1⟩
theorem PdPost.hit0 {n R C p q : Nat} {code : List GF} {w0 w : World} {e : Ending} (h : PdPost n R C p q code (toI []) w0 e w) :
    ∃ A1 d1 A2 d2, e = .returned (.tuple #[.slice A1 (unblockL R C p q code []).data.length d1, .slice A2 (unblockL R C p q code []).lost.length d2, .int .i64 ((unblockL R C p q code []).fixed : Nat), .agg #[.int .i64 0, .int .i64 0]]) ∧
       OwB w w0.heap.size (.slice A1 (unblockL R C p q code []).data.length d1) (unblockL R C p q code []).data ∧ OwI w w0.heap.size (.slice A2 (unblockL R C p q code []).lost.length d2) (toI (unblockL R C p q code []).lost) ∧ Below w0.heap.size w0 w := by
  obtain ⟨hb, h⟩ := h
  rcases h with ⟨h, _⟩ | ⟨es, he, hnd, hlt, hP, A1, d1, A2, d2, h1, h2, h3⟩
  · exact absurd (incF_of (er := []) 10 (by simp) List.Pairwise.nil) h
  · obtain rfl := toI_inj he
    exact ⟨A1, d1, A2, d2, h1, h2, h3, hb⟩
/-- Where the law does not ask. -/
def outB (r c d p : Int) (n : Nat) (b0 b1 b2 b3 : Int) : Prop := plF r c d p ≠ (0, 0) ∨ (plF r c d p = (0, 0) ∧ mfC b0 b1 b2 b3 = 4) ∨ (plF r c d p = (0, 0) ∧ mfC b0 b1 b2 b3 = 0 ∧ (n : Int) ≠ (24 - r) * (16 - c))
set_option maxRecDepth 100000 in
set_option maxHeartbeats 8000000 in
theorem boOut (r c d p : Int) (A : Option Addr) (n cp : Nat) (b0 b1 b2 b3 x : Int) (w : World) (hb0 : -9223372036854775808 ≤ b0 ∧ b0 ≤ 9223372036854775807) (hb1 : -9223372036854775808 ≤ b1 ∧ b1 ≤ 9223372036854775807) (ho : outB r c d p n b0 b1 b2 b3) :
    Calls Tryz.prog 3 #[plV r c d p, .slice A n cp, bxV b0 b1 b2 b3, .int .u8 x] w fun e w' => e = .returned (.bool true) ∧ Below w.heap.size w w' := by
  have HO := Lib.hid ho
  have HPF := Lib.hid (fun w => rPlanFault_any r c d p w)
  have HMF := Lib.hid (fun w => refMeetsFault_any b0 b1 b2 b3 w hb0 hb1)
  have P0 := (H4.new w r c d p 23).al (bxO b0 b1 b2 b3)
  have X0 := H4.new (w.alloc (plO r c d p)) b0 b1 b2 b3 25
  have B0 : Below w.heap.size w ((w.alloc (plO r c d p)).alloc (bxO b0 b1 b2 b3)) := by (repeat (first | exact Below.refl _ _ | assumption | refine Bw.al ?_ _ | refine Bw.step ?_ (by assumption) | refine Bw.drew ?_))
  rw [World.size_alloc] at X0
  have HBE := Lib.hid (bears_some r c d p b2 b3)
  clear ho
  obtain ⟨lp, ⟨p0, p1, p2, p3⟩, _⟩ := id P0
  obtain ⟨lx, ⟨x0, x1, x2, x3⟩, _⟩ := id X0
  go_enter Tryz.func3, Tryz.ntmps3
  go_wp2_with fail
  obtain ⟨bv, fc, fi, hbe⟩ := HBE.out ((w.alloc (plO r c d p)).alloc (bxO b0 b1 b2 b3))
  refine hbe.mono ?_
  rintro e w1 ⟨rfl, hb1'⟩
  clear hbe HBE lp p0 p1 p2 p3 lx x0 x1 x2 x3
  ((first | replace B0 := Bw.step B0 hb1' | replace B0 := Bw.step (Bw.al B0 _) hb1' | replace B0 := Bw.step (Bw.al (Bw.al B0 _) _) hb1' | replace B0 := Bw.step (Bw.al (Bw.al (Bw.al B0 _) _) _) hb1' | replace B0 := Bw.step (Bw.al (Bw.al (Bw.al (Bw.al B0 _) _) _) _) hb1' | replace B0 := Bw.step (Bw.al (Bw.al (Bw.al (Bw.al (Bw.al B0 _) _) _) _) _) hb1' | replace B0 := Bw.step (Bw.al (Bw.al (Bw.al (Bw.al (Bw.al (Bw.al B0 _) _) _) _) _) _) hb1'); (first | replace P0 := P0.below hb1' | replace P0 := (P0.al _).below hb1' | replace P0 := ((P0.al _).al _).below hb1' | replace P0 := (((P0.al _).al _).al _).below hb1' | replace P0 := ((((P0.al _).al _).al _).al _).below hb1' | replace P0 := (((((P0.al _).al _).al _).al _).al _).below hb1' | replace P0 := ((((((P0.al _).al _).al _).al _).al _).al _).below hb1'); (first | replace X0 := X0.below hb1' | replace X0 := (X0.al _).below hb1' | replace X0 := ((X0.al _).al _).below hb1' | replace X0 := (((X0.al _).al _).al _).below hb1' | replace X0 := ((((X0.al _).al _).al _).al _).below hb1' | replace X0 := (((((X0.al _).al _).al _).al _).al _).below hb1' | replace X0 := ((((((X0.al _).al _).al _).al _).al _).al _).below hb1'))
  have P0 := P0.al (fltC fc fi)
  have X0 := X0.al (fltC fc fi)
  have B0 := Bw.al B0 (fltC fc fi)
  have F1 := Has.new w1 fc fi 27
  obtain ⟨lp, ⟨p0, p1, p2, p3⟩, _⟩ := id P0
  obtain ⟨lx, ⟨x0, x1, x2, x3⟩, _⟩ := id X0
  rcases HO.out with h | ⟨h, h'⟩ | ⟨h, h', h''⟩
  · have hc := (plF_code r c d p).resolve_left h
    generalize (plF r c d p).1 = kc at *
    generalize (plF r c d p).2 = ki at *
    subst hc
    clear h HMF HO
    go_wp2_with (first | (go_at_call 5; refine (HPF.out _).mono ?_; rintro e w2 ⟨rfl, hb2⟩) | (go_at_call 8; refine (planned_any _).mono ?_; rintro e w' ⟨rfl, hb9⟩))
    go_ret
    exact ⟨rfl, Bw.step (Bw.step B0 hb2) hb9⟩
  · rw [h] at HPF
    rw [h'] at HMF
    clear h h' HO
    generalize mfI b0 b1 b2 b3 = mi at *
    go_wp2_with fail
    refine (HPF.out _).mono ?_
    rintro e w2 ⟨rfl, hb2⟩
    clear lp p0 p1 p2 p3 lx x0 x1 x2 x3
    have X0 := X0.below hb2
    have B0 := Bw.step B0 hb2
    obtain ⟨lx, ⟨x0, x1, x2, x3⟩, _⟩ := id X0
    go_wp2_with (first | (go_at_call 6; refine (HMF.out _).mono ?_; rintro e w3 ⟨rfl, hb3⟩) | (go_at_call 8; refine (planned_any _).mono ?_; rintro e w' ⟨rfl, hb9⟩))
    go_ret
    exact ⟨rfl, Bw.step (Bw.step B0 hb3) hb9⟩
  · have hok := plF_ok h
    have HPO := Lib.hid (fun w => rPayloadOf_any r c d p w hok.1 hok.2.1)
    rw [h] at HPF
    rw [h'] at HMF
    generalize mfI b0 b1 b2 b3 = mi at *
    generalize (24 - r) * (16 - c) = py at *
    have xn : ((n : Int) == py) = false := by rw [beq_eq_false_iff_ne]; exact h''
    have xn2 : ((n : Int) != py) = true := by rw [bne, xn]; rfl
    clear h h' h'' HO hok
    go_wp2_with fail
    refine (HPF.out _).mono ?_
    rintro e w2 ⟨rfl, hb2⟩
    clear lp p0 p1 p2 p3 lx x0 x1 x2 x3
    have X0 := X0.below hb2
    have P0 := P0.below hb2
    have B0 := Bw.step B0 hb2
    obtain ⟨lx, ⟨x0, x1, x2, x3⟩, _⟩ := id X0
    go_wp2_with fail
    refine (HMF.out _).mono ?_
    rintro e w3 ⟨rfl, hb3⟩
    clear lx x0 x1 x2 x3
    have P0 := P0.below hb3
    have B0 := Bw.step B0 hb3
    obtain ⟨lp, ⟨p0, p1, p2, p3⟩, _⟩ := id P0
    go_wp2_with (first | (go_at_call 7; refine (HPO.out _).mono ?_; rintro e w4 ⟨rfl, hb4⟩) | (go_at_call 8; refine (planned_any _).mono ?_; rintro e w' ⟨rfl, hb9⟩))
    go_ret
    exact ⟨rfl, Bw.step (Bw.step B0 hb4) hb9⟩
set_option maxRecDepth 100000 in
set_option maxHeartbeats 8000000 in
theorem boIn (q1 q2 t0 l0 H W : Nat) (dd pp : Int) (A : Option Addr) (n cp : Nat) (l : List GF) (x : GF) (w : World) (RL : RdB w A n l) (hnc : n ≤ cp) (hpl : plF q1 q2 dd pp = (0, 0)) (hp : q1 ≤ 16) (hq : q2 ≤ 12) (ht : t0 < 16) (hl : l0 < 24) (hH : t0 + H ≤ 16) (hW : l0 + W ≤ 24) (hn : n = (16 - q2) * (24 - q1)) :
    Calls Tryz.prog 3 #[plV q1 q2 dd pp, .slice A n cp, bxV t0 l0 H W, .int .u8 x.z] w fun e w' => e = .returned (.bool true) ∧ Below w.heap.size w w' := by
  have HPF := Lib.hid (fun w => rPlanFault_any q1 q2 dd pp w)
  rw [hpl] at HPF
  have HMF := Lib.hid (fun w => refMeetsFault_any t0 l0 H W w (by omega) (by omega))
  obtain ⟨m1, m2⟩ := mf_ok (top := (t0 : Int)) (left := (l0 : Int)) (h := (H : Int)) (wd := (W : Int)) (by omega) (by omega) (by omega) (by omega)
  rw [m1, m2] at HMF
  have hlo : loF 0 0 (H : Int) (W : Int) 0 = (0, 0) := loF_of (by omega) (by omega) (by omega) (by omega) (by omega)
  have kt : ((q1 : Int)).tdiv 2 = ((q1 / 2 : Nat) : Int) := by rw [Int.tdiv_eq_ediv_of_nonneg (by omega)]; rfl
  have ku : ((q2 : Int)).tdiv 2 = ((q2 / 2 : Nat) : Int) := by rw [Int.tdiv_eq_ediv_of_nonneg (by omega)]; rfl
  have HBE := Lib.hid (fun w => lpBears_ok q1 q2 dd pp 0 0 0 _ _ H W w hpl hlo kt ku)
  have hpay : (24 - (q1 : Int)) * (16 - (q2 : Int)) = (n : Int) := by
    rw [hn, Int.natCast_mul, Int.mul_comm]
    congr 1 <;> omega
  have HPO := Lib.hid (fun w => rPayloadOf_any q1 q2 dd pp w (by omega) (by omega))
  rw [hpay] at HPO
  have HSH := Lib.hid (fun w => lpShape_ok q1 q2 dd pp w hpl)
  have HEN : Hid (∀ w, RdB w A n l → Calls Tryz.prog 10 #[.slice A n cp, .agg #[.int .i64 16, .int .i64 24, .int .i64 q1, .int .i64 q2]] w fun e w' => ∃ A' c' b, e = .returned (.tuple #[.slice A' 384 c', .agg #[.int .i64 0, .int .i64 0]]) ∧ OwB w' w.heap.size (.slice A' 384 c') b ∧ IsBlock l 16 24 q1 q2 b ∧ Below w.heap.size w w') :=
    Lib.hid fun w hl => pdEncode_ok A n cp 16 24 q1 q2 l w hl hnc hn (by omega) (by omega) (by omega) (by omega) (by omega) (by omega)
  have HUN : Hid (∀ b, IsBlock l 16 24 q1 q2 b → bearB pp 0 0 ((q1 / 2 : Nat) : Int) ((q2 / 2 : Nat) : Int) H W 0 = true → (unblockL 16 24 q1 q2 (tornL b x t0 l0 H W) []).data = l ∧ (unblockL 16 24 q1 q2 (tornL b x t0 l0 H W) []).lost = []) := Lib.hid fun b hb hbe => by
    unfold bearB at hbe
    rw [Bool.and_eq_true] at hbe
    have := unblock_right (d := l) (b := b) (x := tornL b x t0 l0 H W) (es := []) (R := 16) (C := 24) (p := q1) (q := q2) (by omega) (by omega) (by omega) (by omega) (by omega) (RL.1.trans hn) hb (tornL_len _ _ _ _ _ _) (fun i hi => by cases hi) (borne_wrong b x ht hl hH hW hbe.2)
    rw [this]
    exact ⟨rfl, rfl⟩
  generalize bearB pp 0 0 ((q1 / 2 : Nat) : Int) ((q2 / 2 : Nat) : Int) H W 0 = bv at *
  have HRL := Lib.hid RL
  have P0 := (H4.new w q1 q2 dd pp 23).al (bxO t0 l0 H W)
  have X0 := H4.new (w.alloc (plO q1 q2 dd pp)) t0 l0 H W 25
  have B0 : Below w.heap.size w ((w.alloc (plO q1 q2 dd pp)).alloc (bxO t0 l0 H W)) := by (repeat (first | exact Below.refl _ _ | assumption | refine Bw.al ?_ _ | refine Bw.step ?_ (by assumption) | refine Bw.drew ?_))
  rw [World.size_alloc] at X0
  clear RL hpl hn m1 m2 hlo kt ku hpay
  obtain ⟨lp, ⟨p0, p1, p2, p3⟩, _⟩ := id P0
  obtain ⟨lx, ⟨x0, x1, x2, x3⟩, _⟩ := id X0
  go_enter Tryz.func3, Tryz.ntmps3
  go_wp2_with fail
  refine (HBE.out _).mono ?_
  rintro e w1 ⟨rfl, hb1⟩
  clear lp p0 p1 p2 p3 lx x0 x1 x2 x3
  ((first | replace B0 := Bw.step B0 hb1 | replace B0 := Bw.step (Bw.al B0 _) hb1 | replace B0 := Bw.step (Bw.al (Bw.al B0 _) _) hb1 | replace B0 := Bw.step (Bw.al (Bw.al (Bw.al B0 _) _) _) hb1 | replace B0 := Bw.step (Bw.al (Bw.al (Bw.al (Bw.al B0 _) _) _) _) hb1 | replace B0 := Bw.step (Bw.al (Bw.al (Bw.al (Bw.al (Bw.al B0 _) _) _) _) _) hb1 | replace B0 := Bw.step (Bw.al (Bw.al (Bw.al (Bw.al (Bw.al (Bw.al B0 _) _) _) _) _) _) hb1); (first | replace P0 := P0.below hb1 | replace P0 := (P0.al _).below hb1 | replace P0 := ((P0.al _).al _).below hb1 | replace P0 := (((P0.al _).al _).al _).below hb1 | replace P0 := ((((P0.al _).al _).al _).al _).below hb1 | replace P0 := (((((P0.al _).al _).al _).al _).al _).below hb1 | replace P0 := ((((((P0.al _).al _).al _).al _).al _).al _).below hb1); (first | replace X0 := X0.below hb1 | replace X0 := (X0.al _).below hb1 | replace X0 := ((X0.al _).al _).below hb1 | replace X0 := (((X0.al _).al _).al _).below hb1 | replace X0 := ((((X0.al _).al _).al _).al _).below hb1 | replace X0 := (((((X0.al _).al _).al _).al _).al _).below hb1 | replace X0 := ((((((X0.al _).al _).al _).al _).al _).al _).below hb1))
  have P0 := P0.al (fltC 0 0)
  have X0 := X0.al (fltC 0 0)
  have B0 := Bw.al B0 (fltC 0 0)
  have F1 := Has.new w1 0 0 27
  obtain ⟨lp, ⟨p0, p1, p2, p3⟩, _⟩ := id P0
  go_wp2_with fail
  refine (HPF.out _).mono ?_
  rintro e w2 ⟨rfl, hb2⟩
  clear lp p0 p1 p2 p3
  have X0 := X0.below hb2
  have P0 := P0.below hb2
  have F1 := F1.below hb2
  have B0 := Bw.step B0 hb2
  obtain ⟨lx, ⟨x0, x1, x2, x3⟩, _⟩ := id X0
  go_wp2_with fail
  refine (HMF.out _).mono ?_
  rintro e w3 ⟨rfl, hb3⟩
  clear lx x0 x1 x2 x3
  have X0 := X0.below hb3
  have P0 := P0.below hb3
  have F1 := F1.below hb3
  have B0 := Bw.step B0 hb3
  obtain ⟨lp, ⟨p0, p1, p2, p3⟩, _⟩ := id P0
  go_wp2_with fail
  refine (HPO.out _).mono ?_
  rintro e w4 ⟨rfl, hb4⟩
  clear lp p0 p1 p2 p3
  have X0 := X0.below hb4
  have P0 := P0.below hb4
  have F1 := F1.below hb4
  have B0 := Bw.step B0 hb4
  obtain ⟨lp, ⟨p0, p1, p2, p3⟩, _⟩ := id P0
  go_wp2_with fail
  refine (HSH.out _).mono ?_
  rintro e w5 ⟨rfl, hb5⟩
  clear lp p0 p1 p2 p3
  have X0 := ((X0.below hb5).al (shpC 16 24 q1 q2)).al (fltC 0 0)
  have F1 := ((F1.below hb5).al (shpC 16 24 q1 q2)).al (fltC 0 0)
  have B0 := Bw.al (Bw.al (Bw.step B0 hb5) (shpC 16 24 q1 q2)) (fltC 0 0)
  have SH := (H4.new w5 16 24 q1 q2 37).al (fltC 0 0)
  have F2 := Has.new (w5.alloc (shpC 16 24 q1 q2)) 0 0 27
  rw [World.size_alloc] at F2
  obtain ⟨lp, ⟨p0, p1, p2, p3⟩, _⟩ := id SH
  go_wp2_with fail
  refine (HEN.out _ (HRL.out.below B0)).mono ?_
  rintro e w6 ⟨A6, c6, b, rfl, ho6, hbk, hb6⟩
  clear lp p0 p1 p2 p3
  have HBK := Lib.hid hbk
  have R6 := ho6.rd.1.al (fltC 0 0)
  have X0 := (X0.below hb6).al (fltC 0 0)
  have F1 := (F1.below hb6).al (fltC 0 0)
  have F2 := (F2.below hb6).al (fltC 0 0)
  have SH := (SH.below hb6).al (fltC 0 0)
  have B0 := Bw.al (Bw.step B0 hb6) (fltC 0 0)
  have F3 := Has.new w6 0 0 27
  clear ho6 hbk
  go_wp2_with fail
  refine (ilSpread_ok A6 c6 b _ R6).mono ?_
  rintro e w7 ⟨g, rfl, ho7, hb7⟩
  have hwB := B0.size
  have hg0 : w.heap.size ≤ g := Nat.le_trans B0.size ho7.lt.1
  have hgx : w.heap.size + 1 < g := Nat.lt_of_lt_of_le X0.1 ho7.lt.1
  have hgs : w5.heap.size < g := Nat.lt_of_lt_of_le SH.1 ho7.lt.1
  have X0 := (X0.below hb7).al (fltC 0 0)
  have F1 := (F1.below hb7).al (fltC 0 0)
  have F2 := (F2.below hb7).al (fltC 0 0)
  have F3 := (F3.below hb7).al (fltC 0 0)
  have SH := (SH.below hb7).al (fltC 0 0)
  have B0 := Bw.al (Bw.step B0 hb7) (fltC 0 0)
  have F4 := Has.new w7 0 0 27
  have O7 : OwB (w7.alloc (fltC 0 0)) w.heap.size (.slice (some ⟨g, 0, none⟩) 384 384) (boxL (spreadL b) x t0 l0 W 0 0) := by
    rw [boxL_start _ _ _ _ _ (by simp [spreadL])]
    exact own_base (own_below ho7 (below_new w7 _)) hwB
  obtain ⟨l1, c10, c11, f10, f11⟩ := id F1
  obtain ⟨l2, c20, c21, f20, f21⟩ := id F2
  obtain ⟨l3, c30, c31, f30, f31⟩ := id F3
  obtain ⟨l4, c40, c41, f40, f41⟩ := id F4
  obtain ⟨lx, ⟨x0, x1, x2, x3⟩, _⟩ := id X0
  go_wp2
  clear l1 c10 c11 f10 f11 l2 c20 c21 f20 f21 l3 c30 c31 f30 f31 l4 c40 c41 f40 f41 lx x0 x1 x2 x3 F1 F2 F3 F4 P0
  generalize w7.alloc (fltC 0 0) = wo at *
  have HX := Lib.hid X0.s4
  have HSH2 := Lib.hid SH.s4
  have HO := Lib.hid O7
  have HB := Lib.hid B0
  clear X0 SH O7 B0 HBE HPF HMF HPO HEN HSH
  go_loopw [17] (fun i wr => ∃ ln : Nat, t0 ≤ ln ∧ ln ≤ t0 + H ∧ i = .int .i64 ln ∧ OwB wr w.heap.size (.slice (some ⟨g, 0, none⟩) 384 384) (boxL (spreadL b) x t0 l0 W (ln - t0) 0) ∧ Exc [g] wo wr) (fun i _ => t0 + H - (intOf i).toNat)
  case atStart => exact ⟨t0, Nat.le_refl _, Nat.le_add_right _ _, rfl, by rw [Nat.sub_self]; exact HO.out, Exc.refl _ _⟩
  case round =>
    obtain ⟨ln, hn1, hn2, rfl, ho, hx⟩ := hrel
    clear HO
    obtain ⟨lx, x0, x1, x2, x3⟩ := HX.out.exc hx (by simp; omega)
    by_cases hlk : ln < t0 + H
    · have HO1 := Lib.hid ho
      have HE1 := Lib.hid hx
      have HLI := Lib.hid (boxL_line (spreadL b) x t0 l0 W (ln - t0))
      rw [show ln - t0 + 1 = ln + 1 - t0 by omega] at HLI
      clear ho hx
      go_wp2
      clear lx x0 x1 x2 x3
      go_loopw [18] (fun i wr => ∃ cl : Nat, l0 ≤ cl ∧ cl ≤ l0 + W ∧ i = .int .i64 cl ∧ OwB wr w.heap.size (.slice (some ⟨g, 0, none⟩) 384 384) (boxL (spreadL b) x t0 l0 W (ln - t0) (cl - l0)) ∧ Exc [g] wo wr) (fun i _ => l0 + W - (intOf i).toNat)
      case atStart => exact ⟨l0, Nat.le_refl _, Nat.le_add_right _ _, rfl, by rw [Nat.sub_self]; exact HO1.out, HE1.out⟩
      case round =>
        obtain ⟨cl, hm1, hm2, rfl, ho, hx⟩ := hrel
        clear HO1 HE1
        obtain ⟨lx, x0, x1, x2, x3⟩ := HX.out.exc hx (by simp; omega)
        by_cases hlj : cl < l0 + W
        · have hix : 24 * ln + cl < 384 := by omega
          have hcb := ho.cellAt (i := 24 * ln + cl) hix
          have hfb := ho.frozenAt (24 * ln + cl)
          have HN := Lib.hid (ho.set (24 * ln + cl) ((boxL (spreadL b) x t0 l0 W (ln - t0) (cl - l0)).getD (24 * ln + cl) 0 + x))
          have hst := boxL_step (spreadL b) x t0 l0 W (ln - t0) (cl - l0) (by omega) (by omega)
          rw [show 24 * (t0 + (ln - t0)) + (l0 + (cl - l0)) = 24 * ln + cl by omega, show cl - l0 + 1 = cl + 1 - l0 by omega] at hst
          rw [hst] at HN
          have HNE := Lib.hid (hx.set (p := ⟨g, 24 * ln + cl, none⟩) (by simp) (.int .u8 ((boxL (spreadL b) x t0 l0 W (ln - t0) (cl - l0)).getD (24 * ln + cl) 0 + x).z))
          have pe2 : (24 : Int) * (ln : Int) + (cl : Int) = ((24 * ln + cl : Nat) : Int) := by omega
          have pe3 : IntKind.i64.wrap ((24 : Int) * (ln : Int) + (cl : Int)) = ((24 * ln + cl : Nat) : Int) := by rw [IntWalk.i64_in _ (by omega)]; exact pe2
          have xz := xorZ ((boxL (spreadL b) x t0 l0 W (ln - t0) (cl - l0)).getD (24 * ln + cl) 0) x
          clear ho hx hst
          generalize 24 * ln + cl = ix at *
          generalize (boxL (spreadL b) x t0 l0 W (ln - t0) (cl - l0)).getD ix 0 = yo at *
          generalize yo + x = yn at *
          go_wp2
          go_roundw
          case rel => first | exact ⟨cl + 1, by omega, by omega, by go_num, HN.out, HNE.out⟩ | ((repeat apply Exists.intro); exact ⟨⟨cl + 1, by omega, by omega, by go_num, HN.out, HNE.out⟩, rfl⟩)
          case measure => simp [intOf]; omega
        · rw [show cl - l0 = W by omega, HLI.out] at ho
          have HO2 := Lib.hid ho
          have HE2 := Lib.hid hx
          clear ho hx
          go_wp2
          go_roundw
          case rel => first | exact ⟨ln + 1, by omega, by omega, by go_num, HO2.out, HE2.out⟩ | ((repeat apply Exists.intro); exact ⟨⟨ln + 1, by omega, by omega, by go_num, HO2.out, HE2.out⟩, rfl⟩)
          case measure => simp [intOf]; omega
    · rw [show ln - t0 = H by omega] at ho
      have hsh := HSH2.out.exc hx (by simp; omega)
      have hbw : Below w.heap.size w wr := HB.out.trans (hx.below HB.out.size (by simp; exact hg0))
      have R8 := ho.rd.1
      have HT : Hid (gatherL (boxL (spreadL b) x t0 l0 W H 0) = tornL b x t0 l0 H W) := Lib.hid rfl
      have HTL := Lib.hid (tornL_len b x t0 l0 H W)
      have HUB := Lib.hid (HUN.out b HBK.out)
      clear ho hx HX HSH2 HB HUN hg0 hgx hgs hwB
      go_wp2_with fail
      refine (ilGather_ok (some ⟨g, 0, none⟩) 384 _ _ R8).mono ?_
      rintro e w8 ⟨g8, rfl, ho8, hb8⟩
      rw [HT.out] at ho8
      clear lx x0 x1 x2 x3
      have hsh := (hsh.below hb8).al (fltC 0 0)
      have hbw := Bw.al (Bw.step hbw hb8) (fltC 0 0)
      have R9 := ho8.rd.1.al (fltC 0 0)
      have F8 := Has.new w8 0 0 27
      obtain ⟨ls, s0, s1, s2, s3⟩ := id hsh
      clear ho8
      go_wp2_with fail
      refine (pdDecode_ok (some ⟨g8, 0, none⟩) none 384 384 0 0 16 24 q1 q2 _ (toI []) _ R9 (RdI.nil _ _) (by omega) rfl (by omega) (by omega) (by omega) (by omega) (by omega) (by omega)).mono ?_
      rintro e w9 hpost
      obtain ⟨A9, d9, A10, d10, rfl, ho9, ho10, hb9⟩ := hpost.hit0
      clear ls s0 s1 s2 s3 hpost
      generalize unblockL 16 24 q1 q2 (tornL b x t0 l0 H W) [] = un at *
      have F8 := (F8.below hb9).al (fltC 0 0)
      have F9 := Has.new w9 0 0 27
      have hbw := Bw.al (Bw.step hbw hb9) (fltC 0 0)
      have Q9 := ho9.rd.1.al (fltC 0 0)
      obtain ⟨l8, c80, c81, f80, f81⟩ := id F8
      obtain ⟨l9, c90, c91, f90, f91⟩ := id F9
      clear ho9 ho10
      cases bv with
      | false =>
        go_wp2_with (go_at_call 8; refine (planned_any _).mono ?_; rintro e w' ⟨rfl, hb10⟩)
        go_ret
        exact ⟨rfl, Bw.step hbw hb10⟩
      | true =>
        obtain ⟨k1, k2⟩ := HUB.out rfl
        have y1 := Lib.hid (sameB_self l)
        rw [k1] at Q9 ⊢
        rw [k2]
        have RA := HRL.out.below hbw
        clear k1 k2 HUB
        go_wp2_with (first | (go_at_call 14; refine (refSame_any _ _ _ _ _ _ _ _ _ Q9 RA).mono ?_; rw [y1.out]; rintro e w' ⟨rfl, rfl⟩) | (go_at_call 8; refine (planned_any _).mono ?_; rintro e w' ⟨rfl, hb10⟩))
        go_ret
        exact ⟨rfl, Bw.step hbw hb10⟩
theorem walkLossplanBorneRectanglesAreCorrected (r c d p : Int) (A : Option Addr) (n cp : Nat) (zs : List Int) (b0 b1 b2 b3 : Int) (x : Int) (w : World) (w0 : (Lit.int .i64 r).wf = true ∧ (Lit.int .i64 c).wf = true ∧ (Lit.int .i64 d).wf = true ∧ (Lit.int .i64 p).wf = true) (w1 : IsRow .u8 w A n cp zs) (w2 : (Lit.int .i64 b0).wf = true ∧ (Lit.int .i64 b1).wf = true ∧ (Lit.int .i64 b2).wf = true ∧ (Lit.int .i64 b3).wf = true) (w3 : (Lit.int .u8 x).wf = true) :
    Calls Tryz.prog 3 #[plV r c d p, .slice A n cp, bxV b0 b1 b2 b3, .int .u8 x] w fun e w' => e = .returned (.bool true) ∧ Below w.heap.size w w' := by
  obtain ⟨l, RL, hn, hnc⟩ := w1.bytes5
  have hb0 := wf64 w2.1
  have hb1 := wf64 w2.2.1
  obtain ⟨g, rfl⟩ := GF.of_z (wfu8 w3)
  by_cases h1 : plF r c d p = (0, 0)
  · by_cases h2 : (0 ≤ b0 ∧ b0 ≤ 15) ∧ (0 ≤ b1 ∧ b1 ≤ 23) ∧ (0 ≤ b2 ∧ b2 ≤ 16 - b0) ∧ (0 ≤ b3 ∧ b3 ≤ 24 - b1)
    · by_cases h3 : (n : Int) = (24 - r) * (16 - c)
      · obtain ⟨hr, hc, _, _⟩ := plF_ok h1
        obtain ⟨q1, rfl⟩ := Int.eq_ofNat_of_zero_le hr.1
        obtain ⟨q2, rfl⟩ := Int.eq_ofNat_of_zero_le hc.1
        obtain ⟨t0, rfl⟩ := Int.eq_ofNat_of_zero_le h2.1.1
        obtain ⟨l0, rfl⟩ := Int.eq_ofNat_of_zero_le h2.2.1.1
        obtain ⟨H, rfl⟩ := Int.eq_ofNat_of_zero_le h2.2.2.1.1
        obtain ⟨W, rfl⟩ := Int.eq_ofNat_of_zero_le h2.2.2.2.1
        refine boIn q1 q2 t0 l0 H W d p A n cp l g w RL hnc h1 (by omega) (by omega) (by omega) (by omega) (by omega) (by omega) ?_
        rw [show (24 - (q1 : Int)) = ((24 - q1 : Nat) : Int) by omega, show (16 - (q2 : Int)) = ((16 - q2 : Nat) : Int) by omega, ← Int.natCast_mul] at h3
        rw [Nat.mul_comm]
        exact Int.ofNat.inj h3
      · exact boOut r c d p A n cp b0 b1 b2 b3 g.z w hb0 hb1 (.inr (.inr ⟨h1, (mf_ok h2.1 h2.2.1 h2.2.2.1 h2.2.2.2).2, h3⟩))
    · exact boOut r c d p A n cp b0 b1 b2 b3 g.z w hb0 hb1 (.inr (.inl ⟨h1, mf_bad h2⟩))
  · exact boOut r c d p A n cp b0 b1 b2 b3 g.z w hb0 hb1 (.inl h1)
end Go.Proofs.YtmpjkdkgolmgdaaGreat
