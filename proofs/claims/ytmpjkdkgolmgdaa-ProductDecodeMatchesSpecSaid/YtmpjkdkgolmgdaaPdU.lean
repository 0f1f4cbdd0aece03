/- Product codes: the walk of the law that Check meets its specification. -/
import Derived.Test.YtmpjkdkgolmgdaaPdT
import Derived.Test.YtmpjkdkgolmgdaaPdP
import Derived.Test.YtmpjkdkgolmgdaaMf
namespace Go.Proofs.Ytmpjkdkgolmgdaa
open Go.RowKit
set_option linter.unusedVariables false

theorem IsRow.bytes4 {w : World} {a : Option Addr} {len cap : Nat} {zs : List Int} (h : IsRow .u8 w a len cap zs) : ∃ l : List GF, RdB w a len l ∧ len ≤ 9223372036854775807 ∧ len ≤ cap := by
  obtain ⟨l, h1, h2⟩ := h.bytes
  refine ⟨l, h1, by unfold maxLen at h2; omega, ?_⟩
  rcases h with ⟨rfl, rfl, rfl, rfl⟩ | ⟨x, rfl, hl, hm, hz, hcell, hwz⟩
  · exact Nat.le_refl _
  · exact hl
set_option maxRecDepth 100000 in
set_option maxHeartbeats 4000000 in
theorem walkProductCheckMatchesSpec (A : Option Addr) (n c : Nat) (zs : List Int) (R C p q : Int) (w : World) (w0 : IsRow .u8 w A n c zs) (w1 : (Lit.int .i64 R).wf = true ∧ (Lit.int .i64 C).wf = true ∧ (Lit.int .i64 p).wf = true ∧ (Lit.int .i64 q).wf = true) :
    Calls Try.prog 8 #[.slice A n c, shpV R C p q] w fun e w' => e = .returned (.bool true) ∧ Below w.heap.size w w' := by
  obtain ⟨l, RL, hn, hnc⟩ := w0.bytes4
  have hR := wf64 w1.1
  have hC := wf64 w1.2.1
  clear w0 w1
  have HF := Lib.hid (fun w => codeFault_any A n c R C p q w hn hC hR)
  by_cases hbad : cdF n R C p q = (0, 0)
  · rcases cdF_cases n R C p q with ⟨R, C, p, q, rfl, rfl, rfl, rfl, h1, h2, h3, h4, h5, h6, hnn, h⟩ | ⟨hs, h⟩ | ⟨_, _, _, _, _, _, _, _, _, _, _, _, _, _, _, h⟩
    · have HRL := Lib.hid RL
      rw [h] at HF
      have HCK := Lib.hid (fun w (hl : RdB w A n l) => pdCheck_ok A n c R C p q l w hl hnn h1 h2 h3 h4 h5 h6)
      have HBI := Lib.hid (fun w (hl : RdB w A n l) => rBlockIs_any A n c R C p q l w hl hnc hnn h2 h3 h4 h5 h6)
      generalize blkB R C p q l = bb at *
      have S0 := S4.new w R C p q
      have B0 := below_new w (shpC R C p q)
      clear h hbad RL hnn
      go_enter Try.func8, Try.ntmps8
      go_wp2_with fail
      refine (HCK.out _ (HRL.out.below B0)).mono ?_
      rintro e w1 ⟨rfl, hb1⟩
      ((first | replace B0 := Bw.step B0 hb1 | replace B0 := Bw.step (Bw.al B0 _) hb1 | replace B0 := Bw.step (Bw.al (Bw.al B0 _) _) hb1 | replace B0 := Bw.step (Bw.al (Bw.al (Bw.al B0 _) _) _) hb1 | replace B0 := Bw.step (Bw.al (Bw.al (Bw.al (Bw.al B0 _) _) _) _) hb1 | replace B0 := Bw.step (Bw.al (Bw.al (Bw.al (Bw.al (Bw.al B0 _) _) _) _) _) hb1 | replace B0 := Bw.step (Bw.al (Bw.al (Bw.al (Bw.al (Bw.al (Bw.al B0 _) _) _) _) _) _) hb1); (first | replace S0 := S0.below hb1 | replace S0 := (S0.al _).below hb1 | replace S0 := ((S0.al _).al _).below hb1 | replace S0 := (((S0.al _).al _).al _).below hb1 | replace S0 := ((((S0.al _).al _).al _).al _).below hb1 | replace S0 := (((((S0.al _).al _).al _).al _).al _).below hb1 | replace S0 := ((((((S0.al _).al _).al _).al _).al _).al _).below hb1))
      have F1 := Has.new w1 0 0 26
      obtain ⟨ls, s0, s1, s2, s3⟩ := id S0
      go_wp2_with fail
      refine (HF.out _).mono ?_
      rintro e w2 ⟨rfl, hb2⟩
      clear ls s0 s1 s2 s3
      ((first | replace B0 := Bw.step B0 hb2 | replace B0 := Bw.step (Bw.al B0 _) hb2 | replace B0 := Bw.step (Bw.al (Bw.al B0 _) _) hb2 | replace B0 := Bw.step (Bw.al (Bw.al (Bw.al B0 _) _) _) hb2 | replace B0 := Bw.step (Bw.al (Bw.al (Bw.al (Bw.al B0 _) _) _) _) hb2 | replace B0 := Bw.step (Bw.al (Bw.al (Bw.al (Bw.al (Bw.al B0 _) _) _) _) _) hb2 | replace B0 := Bw.step (Bw.al (Bw.al (Bw.al (Bw.al (Bw.al (Bw.al B0 _) _) _) _) _) _) hb2); (first | replace S0 := S0.below hb2 | replace S0 := (S0.al _).below hb2 | replace S0 := ((S0.al _).al _).below hb2 | replace S0 := (((S0.al _).al _).al _).below hb2 | replace S0 := ((((S0.al _).al _).al _).al _).below hb2 | replace S0 := (((((S0.al _).al _).al _).al _).al _).below hb2 | replace S0 := ((((((S0.al _).al _).al _).al _).al _).al _).below hb2); (first | replace F1 := F1.below hb2 | replace F1 := (F1.al _).below hb2 | replace F1 := ((F1.al _).al _).below hb2 | replace F1 := (((F1.al _).al _).al _).below hb2 | replace F1 := ((((F1.al _).al _).al _).al _).below hb2 | replace F1 := (((((F1.al _).al _).al _).al _).al _).below hb2 | replace F1 := ((((((F1.al _).al _).al _).al _).al _).al _).below hb2))
      have F2 := Has.new w2 0 0 26
      have F1 := F1.al (fltC 0 0)
      have S0 := S0.al (fltC 0 0)
      have B0 := Bw.al B0 (fltC 0 0)
      obtain ⟨ls, s0, s1, s2, s3⟩ := id S0
      obtain ⟨l1, c10, c11, f10, f11⟩ := id F1
      obtain ⟨l2, c20, c21, f20, f21⟩ := id F2
      go_wp2_with (first | (go_at_call 31; refine (HBI.out _ (HRL.out.below B0)).mono ?_; rintro e w3 ⟨rfl, hb3⟩) | (go_at_call 16; refine (squared_any _).mono ?_; rintro e w' ⟨rfl, hb9⟩))
      go_ret
      exact ⟨rfl, Bw.step (Bw.step B0 hb3) hb9⟩
    · rw [h] at hbad; exact absurd hbad hs
    · rw [h] at hbad; cases hbad
  · have HCK := Lib.hid (fun w => pdCheck_bad A n c R C p q w hn hbad)
    have hc := (cdF_code n R C p q).resolve_left hbad
    have hc0 : ((cdF n R C p q).1 == 0) = false := by rw [beq_eq_false_iff_ne]; exact hc
    have hc1 : ((cdF n R C p q).1 != 0) = true := by rw [bne, hc0]; rfl
    generalize (cdF n R C p q).1 = fc at *
    generalize (cdF n R C p q).2 = fi at *
    have S0 := S4.new w R C p q
    have B0 := below_new w (shpC R C p q)
    clear hbad RL
    go_enter Try.func8, Try.ntmps8
    go_wp2_with fail
    refine (HCK.out _).mono ?_
    rintro e w1 ⟨rfl, hb1⟩
    ((first | replace B0 := Bw.step B0 hb1 | replace B0 := Bw.step (Bw.al B0 _) hb1 | replace B0 := Bw.step (Bw.al (Bw.al B0 _) _) hb1 | replace B0 := Bw.step (Bw.al (Bw.al (Bw.al B0 _) _) _) hb1 | replace B0 := Bw.step (Bw.al (Bw.al (Bw.al (Bw.al B0 _) _) _) _) hb1 | replace B0 := Bw.step (Bw.al (Bw.al (Bw.al (Bw.al (Bw.al B0 _) _) _) _) _) hb1 | replace B0 := Bw.step (Bw.al (Bw.al (Bw.al (Bw.al (Bw.al (Bw.al B0 _) _) _) _) _) _) hb1); (first | replace S0 := S0.below hb1 | replace S0 := (S0.al _).below hb1 | replace S0 := ((S0.al _).al _).below hb1 | replace S0 := (((S0.al _).al _).al _).below hb1 | replace S0 := ((((S0.al _).al _).al _).al _).below hb1 | replace S0 := (((((S0.al _).al _).al _).al _).al _).below hb1 | replace S0 := ((((((S0.al _).al _).al _).al _).al _).al _).below hb1))
    have F1 := Has.new w1 fc fi 26
    obtain ⟨ls, s0, s1, s2, s3⟩ := id S0
    go_wp2_with fail
    refine (HF.out _).mono ?_
    rintro e w2 ⟨rfl, hb2⟩
    clear ls s0 s1 s2 s3
    ((first | replace B0 := Bw.step B0 hb2 | replace B0 := Bw.step (Bw.al B0 _) hb2 | replace B0 := Bw.step (Bw.al (Bw.al B0 _) _) hb2 | replace B0 := Bw.step (Bw.al (Bw.al (Bw.al B0 _) _) _) hb2 | replace B0 := Bw.step (Bw.al (Bw.al (Bw.al (Bw.al B0 _) _) _) _) hb2 | replace B0 := Bw.step (Bw.al (Bw.al (Bw.al (Bw.al (Bw.al B0 _) _) _) _) _) hb2 | replace B0 := Bw.step (Bw.al (Bw.al (Bw.al (Bw.al (Bw.al (Bw.al B0 _) _) _) _) _) _) hb2); (first | replace S0 := S0.below hb2 | replace S0 := (S0.al _).below hb2 | replace S0 := ((S0.al _).al _).below hb2 | replace S0 := (((S0.al _).al _).al _).below hb2 | replace S0 := ((((S0.al _).al _).al _).al _).below hb2 | replace S0 := (((((S0.al _).al _).al _).al _).al _).below hb2 | replace S0 := ((((((S0.al _).al _).al _).al _).al _).al _).below hb2); (first | replace F1 := F1.below hb2 | replace F1 := (F1.al _).below hb2 | replace F1 := ((F1.al _).al _).below hb2 | replace F1 := (((F1.al _).al _).al _).below hb2 | replace F1 := ((((F1.al _).al _).al _).al _).below hb2 | replace F1 := (((((F1.al _).al _).al _).al _).al _).below hb2 | replace F1 := ((((((F1.al _).al _).al _).al _).al _).al _).below hb2))
    have F2 := Has.new w2 fc fi 26
    have F1 := F1.al (fltC fc fi)
    have B0 := Bw.al B0 (fltC fc fi)
    obtain ⟨l1, c10, c11, f10, f11⟩ := id F1
    obtain ⟨l2, c20, c21, f20, f21⟩ := id F2
    go_wp2_with (go_at_call 16; refine (squared_any _).mono ?_; rintro e w' ⟨rfl, hb9⟩)
    go_ret
    exact ⟨rfl, Bw.step B0 hb9⟩
end Go.Proofs.Ytmpjkdkgolmgdaa
