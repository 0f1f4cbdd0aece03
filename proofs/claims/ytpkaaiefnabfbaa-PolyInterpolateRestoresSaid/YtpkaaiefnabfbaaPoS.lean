/- The walk of the law PolyInterpolateMatchesSpec. -/
import Derived.Test.YtpkaaiefnabfbaaPoR
namespace Go.Proofs.Ytpkaaiefnabfbaa
open Go.RowKit
set_option linter.unusedVariables false

theorem ipF_code {xs : List GF} {m : Nat} (h : ipF xs m ≠ (0, 0)) : (ipF xs m).1 = 2 ∨ (ipF xs m).1 = 9 ∨ (ipF xs m).1 = 8 := by
  unfold ipF at *
  split
  · exact .inl rfl
  · split
    · exact .inr (.inl rfl)
    · rename_i h1 h2
      rw [if_neg h1, if_neg h2] at h
      rcases repR_code xs with e | ⟨k, _, e⟩
      · exact absurd e h
      · rw [e]; exact .inr (.inr rfl)
theorem ipF_ok {xs : List GF} {m : Nat} (h : ipF xs m = (0, 0)) : xs.length ≤ 255 ∧ m = xs.length ∧ ∀ i, i < xs.length → xs.getD i 0 ∉ xs.take i := by
  unfold ipF at h
  by_cases h1 : 255 < xs.length
  · rw [if_pos h1] at h; exact absurd (congrArg Prod.fst h) (by simp)
  · rw [if_neg h1] at h
    by_cases h2 : m = xs.length
    · rw [if_neg (by simpa using h2)] at h
      exact ⟨by omega, h2, (repR_good h xs.length (Nat.le_refl _)).2⟩
    · rw [if_pos h2] at h; exact absurd (congrArg Prod.fst h) (by simp)
theorem ne_of_takes {xs : List GF} (h : ∀ i, i < xs.length → xs.getD i 0 ∉ xs.take i) : ∀ i j, i < xs.length → j < xs.length → i ≠ j → xs.getD i 0 ≠ xs.getD j 0 := by
  intro i j hi hj hne
  rcases Nat.lt_or_ge j i with e | e
  · exact notMem_take (h i hi) e hi
  · exact fun e2 => notMem_take (h j hj) (show i < j by omega) hj e2.symm
set_option maxRecDepth 100000 in
set_option maxHeartbeats 2000000 in
theorem walkPolyInterpolateMatchesSpec (A : Option Addr) (n c : Nat) (zs : List Int) (B : Option Addr) (m d : Nat) (yz : List Int) (w : World) (w0 : IsRow .u8 w A n c zs) (w1 : IsRow .u8 w B m d yz) :
    Calls Try.prog 11 #[.slice A n c, .slice B m d] w fun e w' => e = .returned (.bool true) ∧ Below w.heap.size w w' := by
  obtain ⟨xs, RX, hn, hc⟩ := w0.bytes2
  obtain ⟨ys, RY, hm, hd⟩ := w1.bytes2
  clear w0 w1
  have HF := Lib.hid (fun w (h : RdB w A n xs) => rInterFault_any A B n m c d xs w h hn hm)
  have HX := Lib.hid RX
  have HY := Lib.hid RY
  by_cases hbad : ipF xs m = (0, 0)
  · obtain ⟨h1, rfl, h3⟩ := ipF_ok hbad
    rw [hbad] at HF
    have lx := RX.1
    subst lx
    have hnd := nodup_of_takes h3
    have HN := Lib.hid hnd
    have HNE := Lib.hid (ne_of_takes h3)
    have HO := Lib.hid (poInter_ok A B _ c d xs ys w RX RY h1 hc h3)
    clear hbad RX RY h3 hnd
    go_enter Try.func11, Try.ntmps11
    go_wp2_with fail
    refine HO.out.mono ?_
    rintro e w1 ⟨A1, c1, p, rfl, ho1, hI, BW⟩
    have R1 := ho1.rd.1
    have F1 := Has.new w1 0 0 24
    have HI := Lib.hid hI
    clear ho1 hI
    go_wp2_with fail
    refine (HF.out _ ((HX.out.below BW).al _)).mono ?_
    rintro e w2 ⟨rfl, hb2⟩
    ((first | replace BW := Bw.step BW hb2 | replace BW := Bw.step (Bw.al BW _) hb2 | replace BW := Bw.step (Bw.al (Bw.al BW _) _) hb2 | replace BW := Bw.step (Bw.al (Bw.al (Bw.al BW _) _) _) hb2 | replace BW := Bw.step (Bw.al (Bw.al (Bw.al (Bw.al BW _) _) _) _) hb2 | replace BW := Bw.step (Bw.al (Bw.al (Bw.al (Bw.al (Bw.al BW _) _) _) _) _) hb2 | replace BW := Bw.step (Bw.al (Bw.al (Bw.al (Bw.al (Bw.al (Bw.al BW _) _) _) _) _) _) hb2); (first | replace F1 := F1.below hb2 | replace F1 := (F1.al _).below hb2 | replace F1 := ((F1.al _).al _).below hb2 | replace F1 := (((F1.al _).al _).al _).below hb2 | replace F1 := ((((F1.al _).al _).al _).al _).below hb2 | replace F1 := (((((F1.al _).al _).al _).al _).al _).below hb2 | replace F1 := ((((((F1.al _).al _).al _).al _).al _).al _).below hb2); (first | replace R1 := R1.below hb2 | replace R1 := (R1.al _).below hb2 | replace R1 := ((R1.al _).al _).below hb2 | replace R1 := (((R1.al _).al _).al _).below hb2 | replace R1 := ((((R1.al _).al _).al _).al _).below hb2 | replace R1 := (((((R1.al _).al _).al _).al _).al _).below hb2 | replace R1 := ((((((R1.al _).al _).al _).al _).al _).al _).below hb2))
    have F2 := Has.new w2 0 0 24
    have F1 := F1.al (.cells #[.int .i64 0, .int .i64 0] 24)
    have R1 := R1.al (.cells #[.int .i64 0, .int .i64 0] 24)
    have BW := Bw.al BW (.cells #[.int .i64 0, .int .i64 0] 24)
    obtain ⟨l1, c10, c11, f10, f11⟩ := id F1
    obtain ⟨l2, c20, c21, f20, f21⟩ := id F2
    by_cases h40 : 40 < xs.length
    · go_wp2_with (go_at_call 17; refine (expanded_any _).mono ?_; rintro e w' ⟨rfl, hb9⟩)
      go_ret
      exact ⟨rfl, Bw.step BW hb9⟩
    · go_wp2_with fail
      refine (rInter_any _ _ _ _ _ xs ys _ (HX.out.below BW) (HY.out.below BW) h1 HNE.out).mono ?_
      rintro e w3 ⟨A3, c3, q, rfl, R3, hQ, hb3⟩
      obtain rfl := IntU_unique HN.out HI.out hQ
      ((first | replace BW := Bw.step BW hb3 | replace BW := Bw.step (Bw.al BW _) hb3 | replace BW := Bw.step (Bw.al (Bw.al BW _) _) hb3 | replace BW := Bw.step (Bw.al (Bw.al (Bw.al BW _) _) _) hb3 | replace BW := Bw.step (Bw.al (Bw.al (Bw.al (Bw.al BW _) _) _) _) hb3 | replace BW := Bw.step (Bw.al (Bw.al (Bw.al (Bw.al (Bw.al BW _) _) _) _) _) hb3 | replace BW := Bw.step (Bw.al (Bw.al (Bw.al (Bw.al (Bw.al (Bw.al BW _) _) _) _) _) _) hb3); (first | replace R1 := R1.below hb3 | replace R1 := (R1.al _).below hb3 | replace R1 := ((R1.al _).al _).below hb3 | replace R1 := (((R1.al _).al _).al _).below hb3 | replace R1 := ((((R1.al _).al _).al _).al _).below hb3 | replace R1 := (((((R1.al _).al _).al _).al _).al _).below hb3 | replace R1 := ((((((R1.al _).al _).al _).al _).al _).al _).below hb3))
      have s1 := Lib.hid (sameB_self p)
      go_wp2_with fail
      refine (refSame_any _ _ _ _ _ _ _ _ _ R1 R3).mono ?_
      rw [s1.out]
      rintro e w' ⟨rfl, rfl⟩
      go_wp2_with (go_at_call 17; refine (expanded_any _).mono ?_; rintro e w' ⟨rfl, hb9⟩)
      go_ret
      exact ⟨rfl, Bw.step BW hb9⟩
  · have HO := Lib.hid (poInter_bad A B n m c d xs w RX hn hm hc hbad)
    have hcd := ipF_code hbad
    generalize (ipF xs m).1 = C at *
    generalize (ipF xs m).2 = F at *
    have xC : (C == 0) = false := by rw [beq_eq_false_iff_ne]; omega
    have xC2 : (C != 0) = true := by rw [bne_iff_ne]; omega
    clear hbad hcd RX RY
    go_enter Try.func11, Try.ntmps11
    go_wp2_with fail
    refine HO.out.mono ?_
    rintro e w1 ⟨rfl, BW⟩
    have F1 := Has.new w1 C F 24
    go_wp2_with fail
    refine (HF.out _ ((HX.out.below BW).al _)).mono ?_
    rintro e w2 ⟨rfl, hb2⟩
    ((first | replace BW := Bw.step BW hb2 | replace BW := Bw.step (Bw.al BW _) hb2 | replace BW := Bw.step (Bw.al (Bw.al BW _) _) hb2 | replace BW := Bw.step (Bw.al (Bw.al (Bw.al BW _) _) _) hb2 | replace BW := Bw.step (Bw.al (Bw.al (Bw.al (Bw.al BW _) _) _) _) hb2 | replace BW := Bw.step (Bw.al (Bw.al (Bw.al (Bw.al (Bw.al BW _) _) _) _) _) hb2 | replace BW := Bw.step (Bw.al (Bw.al (Bw.al (Bw.al (Bw.al (Bw.al BW _) _) _) _) _) _) hb2); (first | replace F1 := F1.below hb2 | replace F1 := (F1.al _).below hb2 | replace F1 := ((F1.al _).al _).below hb2 | replace F1 := (((F1.al _).al _).al _).below hb2 | replace F1 := ((((F1.al _).al _).al _).al _).below hb2 | replace F1 := (((((F1.al _).al _).al _).al _).al _).below hb2 | replace F1 := ((((((F1.al _).al _).al _).al _).al _).al _).below hb2))
    have F2 := Has.new w2 C F 24
    have F1 := F1.al (.cells #[.int .i64 C, .int .i64 F] 24)
    obtain ⟨l1, c10, c11, f10, f11⟩ := id F1
    obtain ⟨l2, c20, c21, f20, f21⟩ := id F2
    go_wp2_with (go_at_call 17; refine (expanded_any _).mono ?_; rintro e w' ⟨rfl, hb9⟩)
    go_ret
    exact ⟨rfl, Bw.step (Bw.al BW _) hb9⟩
end Go.Proofs.Ytpkaaiefnabfbaa
