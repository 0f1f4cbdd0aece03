/- The example that each law on codes looks at ('coded'); the law's 'changed' and 'differences'. -/
import Derived.Test.YtpkaaiefnabfbabRsM
namespace Go.Proofs.Ytpkaaiefnabfbab
open Go.RowKit
set_option linter.unusedVariables false

theorem toI_inj : ∀ {a b : List Nat}, toI a = toI b → a = b
  | [], [], _ => rfl
  | [], _ :: _, h => by simp [toI] at h
  | _ :: _, [], h => by simp [toI] at h
  | x :: a, y :: b, h => by
    simp only [toI, List.map_cons, List.cons.injEq] at h
    rw [toI_inj (a := a) (b := b) h.2, show x = y by omega]
/-- What rs.Decode returns where a code word lies within the bound. -/
theorem DecPost.hit {l c : List GF} {p : Nat} {es : List Nat} {w0 w : World} {e : Ending} (h : DecPost l p (toI es) w0 e w) (hn : l.length ≤ 255) (hlt : ∀ i ∈ es, i < l.length) (hP : es.Pairwise (· < ·)) (hW : Within p l es c) :
    ∃ A' c', e = .returned (.tuple #[.slice A' l.length c', .int .i64 ((dcnt l c [] l.length : Nat) : Int), .agg #[.int .i64 0, .int .i64 0]]) ∧ OwB w w0.heap.size (.slice A' l.length c') c ∧ Below w0.heap.size w0 w := by
  obtain ⟨hb, h⟩ := h
  rcases h with ⟨h, _⟩ | ⟨es', he, hnd, _, _, h⟩
  · exact absurd (incF_of 0 hlt hP) h
  · obtain rfl := toI_inj he
    rcases h with ⟨d, A', c', hd, h1, h2⟩ | ⟨h, _⟩
    · obtain rfl := within_unique hn hnd hlt hd hW
      exact ⟨A', c', h1, h2, hb⟩
    · exact absurd hW (h c)
theorem DecPost.miss {l : List GF} {p : Nat} {es : List Nat} {w0 w : World} {e : Ending} (h : DecPost l p (toI es) w0 e w) (hlt : ∀ i ∈ es, i < l.length) (hP : es.Pairwise (· < ·)) (hW : ∀ c, ¬ Within p l es c) :
    e = .returned (.tuple #[.slice none 0 0, .int .i64 0, .agg #[.int .i64 16, .int .i64 (-1)]]) ∧ Below w0.heap.size w0 w := by
  obtain ⟨hb, h⟩ := h
  rcases h with ⟨h, _⟩ | ⟨es', he, hnd, _, _, h⟩
  · exact absurd (incF_of 0 hlt hP) h
  · obtain rfl := toI_inj he
    rcases h with ⟨d, A', c', hd, h1, h2⟩ | ⟨_, h⟩
    · exact absurd hd (hW d)
    · exact ⟨h, hb⟩
theorem DecPost.bad {l : List GF} {p : Nat} {er : List Int} {w0 w : World} {e : Ending} (h : DecPost l p er w0 e w) (hF : incF er l.length 0 ≠ (0, 0)) :
    e = .returned (.tuple #[.slice none 0 0, .int .i64 0, .agg #[.int .i64 (incF er l.length 0).1, .int .i64 (incF er l.length 0).2]]) ∧ Below w0.heap.size w0 w := by
  obtain ⟨hb, h⟩ := h
  rcases h with ⟨_, h⟩ | ⟨es, rfl, hnd, hlt, hP, h⟩
  · exact ⟨h, hb⟩
  · exact absurd (incF_of 0 hlt hP) hF
def b7 : GF := GF.mk 7 (by decide)
theorem cw132 : isCW 2 [b1, b3, b2] := by
  intro j hj
  have : j = 0 ∨ j = 1 := by omega
  rcases this with rfl | rfl
  · show synd [b1, b3, b2] 0 = 0
    decide +kernel
  · show synd [b1, b3, b2] 1 = 0
    decide +kernel
theorem enc132 : IsEnc [b1] 2 [b1, b3, b2] := ⟨rfl, rfl, cw132⟩
theorem w133 : (wrongs [b1, b3, b3] [b1, b3, b2] []).length = 1 := by decide +kernel
theorem w772 : (wrongs [b7, b7, b2] [b1, b3, b2] []).length = 2 := by decide +kernel
theorem w772e : (wrongs [b7, b7, b2] [b1, b3, b2] [0, 1]).length = 0 := by decide +kernel
theorem wi133 : Within 2 [b1, b3, b3] [] [b1, b3, b2] := ⟨rfl, cw132, by rw [w133]; decide⟩
theorem wi772 : Within 2 [b7, b7, b2] [0, 1] [b1, b3, b2] := ⟨rfl, cw132, by rw [w772e]; decide⟩
theorem RdI.l2 (w : World) (g : Nat) (x y : Int) (t : TypeId) (hg : g = w.heap.size) : RdI (w.alloc (.cells #[.int .i64 x, .int .i64 y] t)) (some ⟨g, 0, none⟩) 2 [x, y] := by
  subst hg
  refine ⟨rfl, fun _ => ⟨_, 0, rfl, by simp, fun i hi => ?_⟩⟩
  have : i = 0 ∨ i = 1 := by omega
  rcases this with rfl | rfl <;> simp [go_sem]
theorem RdI.nil (w : World) (A : Option Addr) : RdI w A 0 [] := ⟨rfl, fun h => absurd h (Nat.lt_irrefl 0)⟩
theorem RdB.nil (w : World) (A : Option Addr) : RdB w A 0 [] := ⟨rfl, fun h => absurd h (Nat.lt_irrefl 0)⟩
set_option maxRecDepth 100000 in
set_option maxHeartbeats 2000000 in
theorem coded_any (w : World) : Calls Try.prog 15 #[] w fun e w' => e = .returned (.bool true) ∧ Below w.heap.size w w' := by
  have s1 := Lib.hid (sameB_self [b1, b3, b2])
  go_enter Try.func15, Try.ntmps15
  go_wp2_with fail
  refine (Encode_ok _ _ _ 2 [b1] _ (RdB.l1 w _ 1 b1 _ rfl rfl) (by omega) (by omega) (by omega)).mono ?_
  rintro e w1 ⟨A1, c1, wd, rfl, ho1, he, hb1⟩
  obtain rfl := IsEnc_unique (by decide) he enc132
  have B1 := Bw.step (below_new w _) hb1
  have F1 := Has.new w1 0 0 24
  have R1 := ho1.rd.1.al (.cells #[.int .i64 0, .int .i64 0] 24)
  have B2 := Bw.al B1 (.cells #[.int .i64 0, .int .i64 0] 24)
  clear ho1 he B1
  go_wp2_with fail
  refine (Decode_ok _ _ _ _ _ _ 2 [b1, b3, b3] (toI []) _ (RdB.l3 _ _ 1 3 3 b1 b3 b3 _ (by first | rfl | simp) ⟨rfl, rfl, rfl⟩) (RdI.nil _ _) (by omega) (by omega) (by omega) (by omega)).mono ?_
  rintro e w2 hp
  obtain ⟨A2, c2, rfl, ho2, hb2⟩ := hp.hit (by decide) (by simp) List.Pairwise.nil wi133
  rw [show dcnt [b1, b3, b3] [b1, b3, b2] [] [b1, b3, b3].length = 1 from (dcnt_full _ _ _).trans w133]
  have F1 := (F1.al _).below hb2
  have R1 := (R1.al _).below hb2
  have B2 := Bw.step (Bw.al B2 _) hb2
  have F2 := Has.new w2 0 0 24
  have R2 := ho2.rd.1
  clear hp ho2 hb2 hb1
  go_wp2_with fail
  refine (Decode_ok _ _ _ _ _ _ 2 [b7, b7, b2] (toI [0, 1]) _ ((RdB.l3 _ _ 7 7 2 b7 b7 b2 _ (by first | rfl | simp) ⟨rfl, rfl, rfl⟩).al _) (RdI.l2 _ _ 0 1 _ (by first | rfl | simp)) (by omega) (by omega) (by omega) (by omega)).mono ?_
  rintro e w3 hp
  obtain ⟨A3, c3, rfl, ho3, hb3⟩ := hp.hit (by decide) (by decide) (by decide) wi772
  rw [show dcnt [b7, b7, b2] [b1, b3, b2] [] [b7, b7, b2].length = 2 from (dcnt_full _ _ _).trans w772]
  have F1 := (((F1.al _).al _).al _).below hb3
  have R1 := (((R1.al _).al _).al _).below hb3
  have R2 := (((R2.al _).al _).al _).below hb3
  have B2 := Bw.step (Bw.al (Bw.al (Bw.al B2 _) _) _) hb3
  have F2 := ((F2.al _).al _).below hb3
  have F3 := Has.new w3 0 0 24
  have R3 := ho3.rd.1
  clear hp ho3 hb3
  have F1 := F1.al (.cells #[.int .i64 0, .int .i64 0] 24)
  have F2 := F2.al (.cells #[.int .i64 0, .int .i64 0] 24)
  have R1 := R1.al (.cells #[.int .i64 0, .int .i64 0] 24)
  have R2 := R2.al (.cells #[.int .i64 0, .int .i64 0] 24)
  have R3 := R3.al (.cells #[.int .i64 0, .int .i64 0] 24)
  have B4 := Bw.al B2 (.cells #[.int .i64 0, .int .i64 0] 24)
  obtain ⟨l1, c10, c11, f10, f11⟩ := id F1
  obtain ⟨l2, c20, c21, f20, f21⟩ := id F2
  obtain ⟨l3, c30, c31, f30, f31⟩ := id F3
  clear F1 F2 F3
  rw [show [b1, b3, b3].length = 3 from rfl] at R2
  rw [show [b7, b7, b2].length = 3 from rfl] at R3
  rw [show [b1, b3, b2].length = 3 from rfl] at R1
  go_wp2_with fail
  refine (refSame_any _ _ _ _ _ _ _ _ _ (R1.al _) (RdB.l3 _ _ 1 3 2 b1 b3 b2 _ (by first | rfl | simp) ⟨rfl, rfl, rfl⟩)).mono ?_
  rw [s1.out]
  rintro e w4 ⟨rfl, rfl⟩
  go_wp2_with fail
  refine (refSame_any _ _ _ _ _ _ _ _ _ (R2.al _) (R1.al _)).mono ?_
  rw [s1.out]
  rintro e w4 ⟨rfl, rfl⟩
  go_wp2_with fail
  refine (refSame_any _ _ _ _ _ _ _ _ _ (R3.al _) (R1.al _)).mono ?_
  rw [s1.out]
  rintro e w4 ⟨rfl, rfl⟩
  go_wp2
  go_ret
  exact ⟨rfl, Bw.al B4 _⟩
end Go.Proofs.Ytpkaaiefnabfbab
