/- Cross pages: the example that each law on cross pages looks at ('extended'). -/
import Derived.Test.YtcinfkmekkdhfaaCqE
import Derived.Test.YtcinfkmekkdhfaaCqF
import Derived.Test.YtcinfkmekkdhfaaCpV
import Derived.Test.YtcinfkmekkdhfaaMd
namespace Go.Proofs.Ytcinfkmekkdhfaa
open Go.RowKit Go.Shelf
set_option linter.unusedVariables false
attribute [local go_sem] Oper.semAt_some

theorem restore_ok (A B : Option Addr) (m c c' p n b d : Nat) (hd : m - p = d) (P : List (List GF)) (Z : List (List Int)) (w : World) (hP : RdM w A m P) (hZ : RdMI w B m Z) (hg : PgsOk P m p n b) (hi : ∀ i, i < m → IncOk (Z.getD i []) (P.getD i []).length) :
    Calls Try.prog 14 #[.slice A m c, .slice B m c', .int .i64 p] w fun e w' => ∃ o1 o2 L G, e = .returned (.tuple #[.slice (some ⟨o1, 0, none⟩) d d, .slice (some ⟨o2, 0, none⟩) d d, .agg #[.int .i64 0, .int .i64 0]]) ∧ RdM w' (some ⟨o1, 0, none⟩) d L ∧ RdMI w' (some ⟨o2, 0, none⟩) d G ∧ ResOK P Z m p n L G ∧ Below w.heap.size w w' :=
  callsIn_wide.1 (restore_in 4 (Nat.le_refl _) A B m c c' p n b d hd P Z w hP hZ hg hi)
def b4 : GF := GF.mk 4 (by decide)
def b5 : GF := GF.mk 5 (by decide)
def b6 : GF := GF.mk 6 (by decide)
def exP : List (List GF) := [[b1, b2], [b4, b4]]
def exQ : List (List GF) := [[b1, b2], [], [b5, b6]]
def exZ : List (List Int) := [[1], [], []]
theorem cw1 {l : List GF} (h : synd l 0 = 0) : isCW 1 l := fun j hj => by
  obtain rfl : j = 0 := by omega
  exact h
theorem ex_enc0 : IsEnc (wordP exP 0) 1 [b1, b4, b5] := ⟨rfl, rfl, cw1 (by decide +kernel)⟩
theorem ex_enc1 : IsEnc (wordP exP 1) 1 [b2, b4, b6] := ⟨rfl, rfl, cw1 (by decide +kernel)⟩
theorem ex_ext {L : List (List GF)} (h : ExtOK exP 1 2 L) : L = [[b5, b6]] := by
  obtain ⟨h1, h2⟩ := h
  match L, h1 with
  | [r], _ =>
    obtain ⟨h3, h4⟩ := h2 0 (by omega)
    have h3 : r.length = 2 := h3
    match r, h3 with
    | [x, y], _ =>
      have e0 : x = b5 := h4 0 (by omega) _ ex_enc0
      have e1 : y = b6 := h4 1 (by omega) _ ex_enc1
      rw [e0, e1]
theorem ex_er0 : erN exQ exZ 3 0 = [1] := by decide +kernel
theorem ex_er1 : erN exQ exZ 3 1 = [0, 1] := by decide +kernel
theorem ex_w0 : wordP exQ 0 = [b1, 0, b5] := by decide +kernel
theorem ex_hit : Within 1 (wordP exQ 0) (erN exQ exZ 3 0) [b1, b4, b5] := by
  rw [ex_er0, ex_w0]
  exact ⟨rfl, cw1 (by decide +kernel), by rw [show (wrongs [b1, 0, b5] [b1, b4, b5] [1]).length = 0 by decide +kernel]; decide⟩
theorem ex_miss : ¬ hitP exQ exZ 3 1 1 := fun ⟨c, _, _, h⟩ => by
  rw [ex_er1] at h
  simp only [List.length_cons, List.length_nil] at h
  omega
theorem ex_unk : unkP exQ exZ 0 1 ∧ unkP exQ exZ 1 1 := by constructor <;> decide +kernel
theorem ex_byte0 (i : Nat) (x : GF) (h : x = [b1, b4, b5].getD i 0) : byteP exQ exZ 3 1 0 i x :=
  ⟨fun c hc => by
    rw [within_unique (by decide +kernel) (by rw [ex_er0]; decide) (by rw [ex_er0]; decide +kernel) hc ex_hit]; exact h, fun hn => absurd ⟨_, ex_hit⟩ hn⟩
theorem ex_byte1 (i : Nat) (h : unkP exQ exZ i 1) : byteP exQ exZ 3 1 1 i 0 :=
  ⟨fun c hc => absurd ⟨c, hc⟩ ex_miss, fun _ => ⟨fun _ => rfl, fun hn => absurd (.inr h) hn⟩⟩
theorem ex_gone (i : Nat) (h : unkP exQ exZ i 1) : IsGone (fun t => goneP exQ exZ 3 1 t i) 2 [1] :=
  ⟨[], ⟨[], rfl, .inr ⟨fun h0 => h0.1 ⟨_, ex_hit⟩, rfl⟩⟩, .inl ⟨⟨ex_miss, .inr h⟩, rfl⟩⟩
theorem ex_two {p : Nat → Prop} (h0 : p 0) (h1 : p 1) : ∀ i, i < 2 → p i := fun i hi => by
  have : i = 0 ∨ i = 1 := by omega
  rcases this with rfl | rfl
  · exact h0
  · exact h1
theorem ex_res {L : List (List GF)} {G : List (List Int)} (h : ResOK exQ exZ 3 1 2 L G) : L = [[b1, 0], [b4, 0]] ∧ G = [[1], [1]] := by
  refine h.unique ⟨rfl, rfl, ?_⟩
  refine ex_two ⟨rfl, ?_, ex_gone 0 ex_unk.1⟩ ⟨rfl, ?_, ex_gone 1 ex_unk.2⟩
  · exact ex_two (ex_byte0 0 b1 rfl) (ex_byte1 0 ex_unk.1)
  · exact ex_two (ex_byte0 1 b4 rfl) (ex_byte1 1 ex_unk.2)
theorem ex_pgs : PgsOk exQ 3 1 2 0 := ⟨by decide, by decide, by decide, by decide, rfl, by decide, by decide, fun i hi => absurd hi (Nat.not_lt_zero i), fun i hi => by
  have : i = 0 ∨ i = 1 ∨ i = 2 := by omega
  rcases this with rfl | rfl | rfl
  · exact .inr rfl
  · exact .inl rfl
  · exact .inr rfl⟩
theorem ex_inc : ∀ i, i < 3 → IncOk (exZ.getD i []) (exQ.getD i []).length := fun i hi => by
  have : i = 0 ∨ i = 1 ∨ i = 2 := by omega
  rcases this with rfl | rfl | rfl
  · intro k hk
    have hk : k < 1 := hk
    obtain rfl : k = 0 := by omega
    exact ⟨by decide, by decide, fun h => absurd h (Nat.lt_irrefl 0)⟩
  · intro k hk
    exact absurd hk (Nat.not_lt_zero k)
  · intro k hk
    exact absurd hk (Nat.not_lt_zero k)
theorem RdM.of2 (w : World) (g c1 c2 n1 n2 : Nat) (A1 A2 : Option Addr) (l1 l2 : List GF) (t : TypeId) (hg : g = w.heap.size) (h1 : RdB w A1 n1 l1) (h2 : RdB w A2 n2 l2) :
    RdM (w.alloc (.cells #[.slice A1 n1 c1, .slice A2 n2 c2] t)) (some ⟨g, 0, none⟩) 2 [l1, l2] := by
  subst hg
  refine ⟨rfl, fun _ => ⟨_, 0, rfl, by simp, ?_⟩⟩
  obtain rfl := h1.1
  obtain rfl := h2.1
  exact ex_two ⟨A1, c1, by simp [go_sem], h1.al _⟩ ⟨A2, c2, by simp [go_sem], h2.al _⟩
theorem ex_three {p : Nat → Prop} (h0 : p 0) (h1 : p 1) (h2 : p 2) : ∀ i, i < 3 → p i := fun i hi => by
  have : i = 0 ∨ i = 1 ∨ i = 2 := by omega
  rcases this with rfl | rfl | rfl
  · exact h0
  · exact h1
  · exact h2
theorem RdM.of3 (w : World) (g c1 c2 c3 n1 n2 n3 : Nat) (A1 A2 A3 : Option Addr) (l1 l2 l3 : List GF) (t : TypeId) (hg : g = w.heap.size) (h1 : RdB w A1 n1 l1) (h2 : RdB w A2 n2 l2) (h3 : RdB w A3 n3 l3) :
    RdM (w.alloc (.cells #[.slice A1 n1 c1, .slice A2 n2 c2, .slice A3 n3 c3] t)) (some ⟨g, 0, none⟩) 3 [l1, l2, l3] := by
  subst hg
  refine ⟨rfl, fun _ => ⟨_, 0, rfl, by simp, ?_⟩⟩
  obtain rfl := h1.1
  obtain rfl := h2.1
  obtain rfl := h3.1
  exact ex_three ⟨A1, c1, by simp [go_sem], h1.al _⟩ ⟨A2, c2, by simp [go_sem], h2.al _⟩ ⟨A3, c3, by simp [go_sem], h3.al _⟩
theorem RdMI.of3 (w : World) (g c1 c2 c3 n1 n2 n3 : Nat) (A1 A2 A3 : Option Addr) (l1 l2 l3 : List Int) (t : TypeId) (hg : g = w.heap.size) (h1 : RdI w A1 n1 l1) (h2 : RdI w A2 n2 l2) (h3 : RdI w A3 n3 l3) :
    RdMI (w.alloc (.cells #[.slice A1 n1 c1, .slice A2 n2 c2, .slice A3 n3 c3] t)) (some ⟨g, 0, none⟩) 3 [l1, l2, l3] := by
  subst hg
  refine ⟨rfl, fun _ => ⟨_, 0, rfl, by simp, ?_⟩⟩
  obtain rfl := h1.1
  obtain rfl := h2.1
  obtain rfl := h3.1
  exact ex_three ⟨A1, c1, by simp [go_sem], h1.al _⟩ ⟨A2, c2, by simp [go_sem], h2.al _⟩ ⟨A3, c3, by simp [go_sem], h3.al _⟩
theorem RdI.o1 (w : World) (g : Nat) (x : Int) (t : TypeId) (hg : g = w.heap.size) : RdI (w.alloc (.cells #[.int .i64 x] t)) (some ⟨g, 0, none⟩) 1 [x] := by
  subst hg
  refine ⟨rfl, fun _ => ⟨_, 0, rfl, by simp, fun i hi => ?_⟩⟩
  obtain rfl : i = 0 := by omega
  simp [go_sem]
theorem bw5s (w w' : World) (a b c d e : Obj) (h : Below (((((w.alloc a).alloc b).alloc c).alloc d).alloc e).heap.size (((((w.alloc a).alloc b).alloc c).alloc d).alloc e) w') : Below w.heap.size w w' :=
  Bw.step (Bw.al (Bw.al (Bw.al (Bw.al (below_new w a) b) c) d) e) h
set_option maxRecDepth 100000 in
set_option maxHeartbeats 4000000 in
theorem extended_any (w : World) : Calls Try.prog 11 #[] w fun e w' => e = .returned (.bool true) ∧ Below w.heap.size w w' := by
  go_enter Try.func11, Try.ntmps11
  go_wp2_with fail
  refine (extend_ok _ 2 2 1 2 exP _ (RdM.of2 _ _ _ _ _ _ _ _ _ _ _ (by first | rfl | simp) ((RdB.l2 w _ 1 2 b1 b2 _ rfl ⟨rfl, rfl⟩).al _) (RdB.l2 _ _ 4 4 b4 b4 _ (by first | rfl | simp) ⟨rfl, rfl⟩)) (by omega) (by omega) (by omega) (by omega) (by omega) (ex_two rfl rfl)).mono ?_
  rintro e w1 ⟨A1, c1, hv1, L1, rfl, hM1, hE1, hb1⟩
  obtain rfl := ex_ext hE1
  have R1 := hM1.rd.1
  have B1 := Bw.step (Bw.al (Bw.al (below_new w _) _) _) hb1
  have F1 := Has.new w1 0 0 24
  have R1 := R1.below (below_new w1 (.cells #[.int .i64 0, .int .i64 0] 24))
  have B2 := Bw.al B1 (.cells #[.int .i64 0, .int .i64 0] 24)
  clear hM1 hE1 hb1 B1
  go_wp2_with fail
  refine (restore_ok _ _ 3 3 3 1 2 0 2 rfl exQ exZ _ (((RdM.of3 _ _ _ _ _ 2 0 2 _ _ _ _ _ _ _ (by first | rfl | simp) ((RdB.l2 _ _ 1 2 b1 b2 _ (by first | rfl | simp) ⟨rfl, rfl⟩).al _) (RdB.nil _ _) (RdB.l2 _ _ 5 6 b5 b6 _ (by first | rfl | simp) ⟨rfl, rfl⟩)).below (below_new _ _)).below (below_new _ _))
    (RdMI.of3 _ _ _ _ _ 1 0 0 _ _ _ _ _ _ _ (by first | rfl | simp) (RdI.o1 _ _ 1 _ (by first | rfl | simp)) (RdI.nil _ _) (RdI.nil _ _)) ex_pgs ex_inc).mono ?_
  rintro e w2 ⟨o1, o2, L2, G2, rfl, hP2, hZ2, hE2, hb2⟩
  obtain ⟨rfl, rfl⟩ := ex_res hE2
  have b6 := bw5s _ _ _ _ _ _ _ hb2
  have b7 : Below (w1.alloc (.cells #[.int .i64 0, .int .i64 0] 24)).heap.size (w1.alloc (.cells #[.int .i64 0, .int .i64 0] 24)) (w2.alloc (.cells #[.int .i64 0, .int .i64 0] 24)) := Bw.al b6 _
  have F1 := F1.below b7
  have R1 := R1.below b7
  have B3 := Bw.step B2 b7
  have F2 := Has.new w2 0 0 24
  have R2 := hP2.below (below_new w2 (.cells #[.int .i64 0, .int .i64 0] 24))
  have R3 := hZ2.below (below_new w2 (.cells #[.int .i64 0, .int .i64 0] 24))
  clear hP2 hZ2 hE2 hb2 b6 b7 B2
  obtain ⟨l1, c10, c11, f10, f11⟩ := id F1
  obtain ⟨l2, c20, c21, f20, f21⟩ := id F2
  clear F1 F2
  obtain ⟨ba, oa, rfl, hba, hca⟩ := R1.2 (by omega)
  obtain ⟨P0, p0, e0, r0⟩ := hca 0 (by omega)
  obtain ⟨bb, ob, eb, hbb, hcb⟩ := R2.2 (by omega)
  injection eb with eb
  injection eb with eb1 eb2
  subst eb1 eb2
  obtain ⟨P1, p1, e1, r1⟩ := hcb 0 (by omega)
  obtain ⟨P2, p2, e2, r2⟩ := hcb 1 (by omega)
  obtain ⟨bc, oc, ec, hbc, hcc⟩ := R3.2 (by omega)
  injection ec with ec
  injection ec with ec1 ec2
  subst ec1 ec2
  obtain ⟨P3, p3, e3, r3⟩ := hcc 0 (by omega)
  obtain ⟨P4, p4, e4, r4⟩ := hcc 1 (by omega)
  clear hca hcb hcc R1 R2 R3
  replace e0 : (w2.alloc (.cells #[.int .i64 0, .int .i64 0] 24)).cell? ⟨ba, oa, none⟩ = some (.slice P0 2 p0) := e0
  replace e1 : (w2.alloc (.cells #[.int .i64 0, .int .i64 0] 24)).cell? ⟨o1, 0, none⟩ = some (.slice P1 2 p1) := e1
  replace e2 : (w2.alloc (.cells #[.int .i64 0, .int .i64 0] 24)).cell? ⟨o1, 1, none⟩ = some (.slice P2 2 p2) := e2
  replace e3 : (w2.alloc (.cells #[.int .i64 0, .int .i64 0] 24)).cell? ⟨o2, 0, none⟩ = some (.slice P3 1 p3) := e3
  replace e4 : (w2.alloc (.cells #[.int .i64 0, .int .i64 0] 24)).cell? ⟨o2, 1, none⟩ = some (.slice P4 1 p4) := e4
  have R0 := Lib.hid (show RdB (w2.alloc (.cells #[.int .i64 0, .int .i64 0] 24)) P0 2 [b5, b6] from r0)
  have R1 := Lib.hid (show RdB (w2.alloc (.cells #[.int .i64 0, .int .i64 0] 24)) P1 2 [b1, 0] from r1)
  have R2 := Lib.hid (show RdB (w2.alloc (.cells #[.int .i64 0, .int .i64 0] 24)) P2 2 [b4, 0] from r2)
  have R3 := Lib.hid (show RdI (w2.alloc (.cells #[.int .i64 0, .int .i64 0] 24)) P3 1 [1] from r3)
  have R4 := Lib.hid (show RdI (w2.alloc (.cells #[.int .i64 0, .int .i64 0] 24)) P4 1 [1] from r4)
  have HB := Lib.hid B3
  have s1 := Lib.hid (sameB_self [b5, b6])
  have s2 := Lib.hid (sameB_self [b1, 0])
  have s3 := Lib.hid (sameB_self [b4, 0])
  clear r0 r1 r2 r3 r4 B3
  go_wp2_with fail
  clear l1 c10 c11 f10 f11 l2 c20 c21 f20 f21
  have hzW : (w2.alloc (.cells #[.int .i64 0, .int .i64 0] 24)).heap.size = w2.heap.size + 1 := by simp
  generalize w2.alloc (.cells #[.int .i64 0, .int .i64 0] 24) = W at *
  have u1 := ((below_new W (.cells #[.int .u8 5, .int .u8 6] 5)).cell (p := ⟨o1, 0, none⟩) hbb).trans e1
  have u2 := ((Bw.al (below_new W (.cells #[.int .u8 5, .int .u8 6] 5)) (.cells #[.int .u8 1, .int .u8 0] 5)).cell (p := ⟨o1, 1, none⟩) hbb).trans e2
  have u3 := ((Bw.al (Bw.al (below_new W (.cells #[.int .u8 5, .int .u8 6] 5)) (.cells #[.int .u8 1, .int .u8 0] 5)) (.cells #[.int .u8 4, .int .u8 0] 5)).cell (p := ⟨o2, 0, none⟩) hbc).trans e3
  refine (refSame_any _ _ _ _ _ _ _ _ _ (R0.out.al _) (RdB.l2 W _ 5 6 b5 b6 _ hzW.symm ⟨rfl, rfl⟩)).mono ?_
  rw [s1.out]
  rintro e w4 ⟨rfl, rfl⟩
  go_wp2_with fail
  refine (refSame_any _ _ _ _ _ _ _ _ _ ((R1.out.al _).al _) (RdB.l2 _ (w2.heap.size + 1 + 1) 1 0 b1 0 _ (by simp only [World.size_alloc, hzW]) ⟨rfl, rfl⟩)).mono ?_
  rw [s2.out]
  rintro e w4 ⟨rfl, rfl⟩
  go_wp2_with fail
  refine (refSame_any _ _ _ _ _ _ _ _ _ (((R2.out.al _).al _).al _) (RdB.l2 _ (w2.heap.size + 1 + 1 + 1) 4 0 b4 0 _ (by simp only [World.size_alloc, hzW]) ⟨rfl, rfl⟩)).mono ?_
  rw [s3.out]
  rintro e w4 ⟨rfl, rfl⟩
  go_wp2_with fail
  refine (ints_self _ _ _ _ _ _ [1] _ ((((R3.out.al _).al _).al _).al _) (RdI.o1 _ (w2.heap.size + 1 + 1 + 1 + 1) 1 _ (by simp only [World.size_alloc, hzW])) (by omega)).mono ?_
  rintro e w5 ⟨rfl, hb5⟩
  have R4' := ((((R4.out.al (.cells #[.int .u8 5, .int .u8 6] 5)).al (.cells #[.int .u8 1, .int .u8 0] 5)).al (.cells #[.int .u8 4, .int .u8 0] 5)).al (.cells #[.int .i64 1] 3)).below hb5
  have g5 : Below W.heap.size W w5 := Bw.step (Bw.al (Bw.al (Bw.al (below_new W _) _) _) _) hb5
  have e4' := (g5.cell (p := ⟨o2, 1, none⟩) hbc).trans e4
  have HB5 := Lib.hid (Bw.step HB.out g5)
  clear hb5 g5
  go_wp2_with fail
  refine (ints_self _ _ _ _ _ _ [1] _ (R4'.al _) (RdI.o1 w5 _ 1 _ rfl) (by omega)).mono ?_
  rintro e w6 ⟨rfl, hb6⟩
  have HB6 := Lib.hid (Bw.step (Bw.al HB5.out _) hb6)
  go_wp2
  go_ret
  exact ⟨rfl, HB6.out⟩
end Go.Proofs.Ytcinfkmekkdhfaa
