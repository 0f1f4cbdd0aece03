/- Walks of the reference's CellsOf and Nearest. -/
import Derived.Test.YtbhcjgjeedhnaaaTiD
namespace Go.Proofs.Ytbhcjgjeedhnaaa
open Go.RowKit
set_option linter.unusedVariables false

/-- Do the first bits of a level agree with those of a byte? -/
def okUp (b lv m p : Nat) : Nat → Bool
  | 0 => true
  | j + 1 => okUp b lv m p j && (bitN p lv j == b / 2 ^ (7 - m - j) % 2)
theorem ok_cell2 {b k p : Nat} (hb : b < 256) (hk : k < 8) (hp : p < 2) : okUp b 2 (1 * k) p 1 = decide (cellN b 2 k = p) := by
  have key : allN 256 (fun b => allN 8 fun k => allN 2 fun p => okUp b 2 (1 * k) p 1 == decide (cellN b 2 k = p)) = true := by decide +kernel
  simpa using allN_of (allN_of (allN_of key hb) hk) hp
theorem ok_cell4 {b k p : Nat} (hb : b < 256) (hk : k < 4) (hp : p < 4) : okUp b 4 (2 * k) p 2 = decide (cellN b 4 k = p) := by
  have key : allN 256 (fun b => allN 4 fun k => allN 4 fun p => okUp b 4 (2 * k) p 2 == decide (cellN b 4 k = p)) = true := by decide +kernel
  simpa using allN_of (allN_of (allN_of key hb) hk) hp
def midL (b : GF) (lv k p : Nat) : List GF := cellsUp b lv k ++ (if cellN b.v lv k < p then [cellG b lv k] else [])
theorem midL_zero (b : GF) (lv k : Nat) : midL b lv k 0 = cellsUp b lv k := by unfold midL; simp
theorem midL_len (b : GF) (lv k p : Nat) : (midL b lv k p).length ≤ k + 1 := by unfold midL; rw [List.length_append, cellsUp_len]; split <;> simp
theorem midL_eq {b : GF} {lv k p : Nat} (h : cellN b.v lv k = p) : midL b lv k (p + 1) = midL b lv k p ++ [cellG b lv k] := by
  unfold midL; rw [if_pos (by omega), if_neg (by omega), List.append_nil]
theorem midL_ne {b : GF} {lv k p : Nat} (h : cellN b.v lv k ≠ p) : midL b lv k (p + 1) = midL b lv k p := by
  unfold midL
  by_cases h1 : cellN b.v lv k < p
  · rw [if_pos h1, if_pos (by omega)]
  · rw [if_neg h1, if_neg (by omega)]
theorem midL_end {b : GF} {lv : Nat} (h : lv = 2 ∨ lv = 4) (k : Nat) : midL b lv k lv = cellsUp b lv (k + 1) := by
  unfold midL; rw [if_pos (cellN_lt h _ _), cellsUp_succ]
theorem bit_z (b : GF) (sh : Nat) : (((b.v / 2 ^ sh : Nat) : Int)).tmod 2 = ((b.v / 2 ^ sh % 2 : Nat) : Int) := by
  rw [show (2 : Int) = ((2 : Nat) : Int) from rfl, ← Int.ofNat_tmod]
theorem cell_ext' {w : World} {b o : Nat} {v : Value} (hb : b < w.heap.size) (h : w.cell? ⟨b, o, none⟩ = some v) (x : Ext w) : x.w.cell? ⟨b, o, none⟩ = some v := (x.below.cell (p := ⟨b, o, none⟩) hb).trans h
theorem beq_cast (a b : Nat) : ((a : Int) == (b : Int)) = (a == b) := by
  rw [Bool.eq_iff_iff]; simp only [beq_iff_eq]; omega
set_option maxRecDepth 100000 in
set_option maxHeartbeats 2000000 in
theorem rCellsOf2 (b : GF) (w : World) :
    Calls Try.prog 18 #[.int .u8 b.z, .int .i64 2] w fun e w' => ∃ A c, e = .returned (.slice A 8 c) ∧ OwB w' w.heap.size (.slice A 8 c) (cellsT b 2) ∧ Below w.heap.size w w' := by
  have zb := GF.z_bd b
  go_enter Try.func18, Try.ntmps18
  go_wp2
  go_loopw [6, 7] (fun v i wr => ∃ k : Nat, k ≤ 8 ∧ i = .int .i64 (1 * k : Nat) ∧ OwB wr w.heap.size v (cellsUp b 2 k) ∧ Below w.heap.size w wr) (fun _ i _ => 8 - (intOf i).toNat)
  case atStart => exact ⟨0, by omega, rfl, OwB.nil _ _, Below.refl _ _⟩
  case round =>
    obtain ⟨k, hk, rfl, ho, hbw⟩ := hrel
    obtain ⟨m, hm⟩ : ∃ m : Nat, m = 1 * k := ⟨_, rfl⟩
    rw [← hm]
    have HM := Lib.hid hm
    by_cases hlt : k < 8
    · have hm8 : m < 8 := by omega
      have hm2 : m + 1 ≤ 8 := by omega
      rw [← midL_zero] at ho
      obtain ⟨wo, rfl⟩ : ∃ wo : World, wo = wr := ⟨_, rfl⟩
      have dm : decide ((m : Int) < 8) = true := by simp only [decide_eq_true_eq]; omega
      clear hm
      go_wp2
      go_loopw [6, 8] (fun v i wr => ∃ p : Nat, p ≤ 2 ∧ i = .int .i64 p ∧ OwB wr w.heap.size v (midL b 2 k p) ∧ Below w.heap.size w wr) (fun _ i _ => 2 - (intOf i).toNat)
      case atStart => exact ⟨0, by omega, rfl, ho, hbw⟩
      case round =>
        obtain ⟨p, hp, rfl, ho2, hbw2⟩ := hrel
        by_cases hlp : p < 2
        · have HO2 := Lib.hid ho2
          have HOK := Lib.hid (show okUp b.v 2 m p 1 = decide (cellN b.v 2 k = p) by rw [HM.out]; exact ok_cell2 b.lt hlt hlp)
          clear ho2
          go_wp2_with fail
          refine (rBits2' p _ hlp).mono ?_
          rintro e w1 ⟨A1, rfl, hR, hb1⟩
          have HR := Lib.hid hR
          have hbw1 := Bw.step hbw2 hb1
          have HO3 := Lib.hid (HO2.out.below hb1)
          clear hR
          go_wp2
          obtain ⟨wp, rfl⟩ : ∃ wp : World, wp = w1 := ⟨_, rfl⟩
          go_loopw [10, 11] (fun v i wr => ∃ j : Nat, j ≤ 1 ∧ i = .int .i64 j ∧ v = .bool (okUp b.v 2 m p j) ∧ Below wp.heap.size wp wr) (fun _ i _ => 1 - (intOf i).toNat)
          case atStart => exact ⟨0, by omega, rfl, rfl, Below.refl _ _⟩
          case round =>
            obtain ⟨j, hjw, rfl, rfl, hbj⟩ := hrel
            by_cases hlj : j < 1
            · obtain ⟨b1, o1, rfl, hlb, hcb⟩ := (HR.out.below hbj).at hlj
              rw [bitsT_at2 p j hlj] at hcb
              have HS := Lib.hid (show okUp b.v 2 m p (j + 1) = (okUp b.v 2 m p j && (bitN p 2 j == b.v / 2 ^ (7 - m - j) % 2)) from rfl)
              obtain ⟨sh, hsh⟩ : ∃ sh : Nat, sh = 7 - m - j := ⟨_, rfl⟩
              rw [← hsh] at HS
              have ws1 : IntKind.i64.wrap (7 - (m : Int)) = 7 - m := IntWalk.i64_in _ (by omega)
              have ws2 : IntKind.i64.wrap (7 - (m : Int) - j) = (sh : Int) := by rw [IntWalk.i64_in _ (by omega)]; omega
              have hs8 : sh ≤ 8 := by omega
              have hd := z_div b sh
              have ht := bit_z b sh
              generalize b.v / 2 ^ sh = q at *
              generalize q % 2 = q2 at *
              generalize bitN p 2 j = bb at *
              clear hsh
              by_cases hok : okUp b.v 2 m p j = true
              · rw [hok] at HS
                rw [hok]
                clear hok
                have hcx := fun x => cell_ext' hlb hcb x
                go_wp2
                (refine wp_region_ext (by kernel_rfl) (by kernel_rfl) ?_; (repeat (go_big_quiet_step ((fail)))); refine wpQuiet_nil ?_; intro W5 hw'; have hW5 := ext_below hw'; clear hw')
                clear hcx
                go_wp2
                go_roundw
                case rel => exact ⟨j + 1, by omega, by go_num, by (rw [HS.out, Bool.true_and]; first | rfl | exact congrArg Value.bool (beq_cast bb q2)), Bw.step hbj hW5⟩
                case measure => simp [intOf] <;> omega
              · have hok2 : okUp b.v 2 m p j = false := by simpa using hok
                rw [hok2] at HS
                rw [hok2]
                clear hok hok2
                go_wp2
                (refine wp_region_ext (by kernel_rfl) (by kernel_rfl) ?_; (repeat (go_big_quiet_step ((fail)))); refine wpQuiet_nil ?_; intro W5 hw'; have hW5 := ext_below hw'; clear hw')
                go_wp2
                go_roundw
                case rel => exact ⟨j + 1, by omega, by go_num, by (rw [HS.out, Bool.false_and]), Bw.step hbj hW5⟩
                case measure => simp [intOf] <;> omega
            · obtain rfl : j = 1 := by omega
              rw [HOK.out]
              have hbw3 := Bw.step hbw1 hbj
              have HO4 := Lib.hid (HO3.out.below hbj)
              by_cases hc : cellN b.v 2 k = p
              · have HC := Lib.hid (midL_eq hc)
                have hg : p < 256 := by omega
                have hy : cellG b 2 k = GF.mk p hg := GF.ext (by rw [cellG_v (by omega), hc]; rfl)
                rw [hy] at HC
                rw [decide_eq_true hc]
                have hl := midL_len b 2 k p
                have hsz := hbw3.size
                have hc8 := hb1
                generalize midL b 2 k p = L at *
                clear hc hy
                go_wp2_with (at_builtin; refine wpList_app1 wr rfl (.tmp 49) (.tmp 52) rfl w.heap.size _ L HO4.out rfl (GF.mk p hg) _ rfl (by omega) hsz ?_; intro v1 w2 ho5 hc2)
                have hb2 : Below w.heap.size w w2 := hbw3.trans hc2
                go_wp2
                go_roundw
                case rel => first | exact ⟨p + 1, by omega, by go_num, by (rw [HC.out]; exact ho5), hb2⟩ | ((repeat apply Exists.intro); exact ⟨⟨p + 1, by omega, by go_num, by (rw [HC.out]; exact ho5), hb2⟩, rfl⟩)
                case measure => simp [intOf]; omega
              · have HC := Lib.hid (midL_ne hc)
                rw [decide_eq_false hc]
                clear hc
                go_wp2
                go_roundw
                case rel => first | exact ⟨p + 1, by omega, by go_num, by (rw [HC.out]; exact HO4.out), hbw3⟩ | ((repeat apply Exists.intro); exact ⟨⟨p + 1, by omega, by go_num, by (rw [HC.out]; exact HO4.out), hbw3⟩, rfl⟩)
                case measure => simp [intOf]; omega
        · obtain rfl : p = 2 := by omega
          rw [midL_end (by omega)] at ho2
          have HO2 := Lib.hid ho2
          clear ho2
          go_wp2
          go_roundw
          case rel => exact ⟨k + 1, by omega, by rw [HM.out]; go_num, HO2.out, hbw2⟩
          case measure => simp [intOf]; omega
    · obtain rfl : k = 8 := by omega
      have hl : (cellsUp b 2 8).length = 8 := cellsUp_len b 2 8
      obtain ⟨A1, c1, rfl⟩ := ho.form
      rw [hl] at ho ⊢
      obtain rfl : m = 8 := by omega
      clear HM hm
      go_wp2
      go_ret
      exact ⟨A1, c1, rfl, ho, hbw⟩
set_option maxRecDepth 100000 in
set_option maxHeartbeats 2000000 in
theorem rCellsOf4 (b : GF) (w : World) :
    Calls Try.prog 18 #[.int .u8 b.z, .int .i64 4] w fun e w' => ∃ A c, e = .returned (.slice A 4 c) ∧ OwB w' w.heap.size (.slice A 4 c) (cellsT b 4) ∧ Below w.heap.size w w' := by
  have zb := GF.z_bd b
  go_enter Try.func18, Try.ntmps18
  go_wp2
  go_loopw [6, 7] (fun v i wr => ∃ k : Nat, k ≤ 4 ∧ i = .int .i64 (2 * k : Nat) ∧ OwB wr w.heap.size v (cellsUp b 4 k) ∧ Below w.heap.size w wr) (fun _ i _ => 8 - (intOf i).toNat)
  case atStart => exact ⟨0, by omega, rfl, OwB.nil _ _, Below.refl _ _⟩
  case round =>
    obtain ⟨k, hk, rfl, ho, hbw⟩ := hrel
    obtain ⟨m, hm⟩ : ∃ m : Nat, m = 2 * k := ⟨_, rfl⟩
    rw [← hm]
    have HM := Lib.hid hm
    by_cases hlt : k < 4
    · have hm8 : m < 8 := by omega
      have hm2 : m + 2 ≤ 8 := by omega
      rw [← midL_zero] at ho
      obtain ⟨wo, rfl⟩ : ∃ wo : World, wo = wr := ⟨_, rfl⟩
      have dm : decide ((m : Int) < 8) = true := by simp only [decide_eq_true_eq]; omega
      clear hm
      go_wp2
      go_loopw [6, 8] (fun v i wr => ∃ p : Nat, p ≤ 4 ∧ i = .int .i64 p ∧ OwB wr w.heap.size v (midL b 4 k p) ∧ Below w.heap.size w wr) (fun _ i _ => 4 - (intOf i).toNat)
      case atStart => exact ⟨0, by omega, rfl, ho, hbw⟩
      case round =>
        obtain ⟨p, hp, rfl, ho2, hbw2⟩ := hrel
        by_cases hlp : p < 4
        · have HO2 := Lib.hid ho2
          have HOK := Lib.hid (show okUp b.v 4 m p 2 = decide (cellN b.v 4 k = p) by rw [HM.out]; exact ok_cell4 b.lt hlt hlp)
          clear ho2
          go_wp2_with fail
          refine (rBits4' p _ hlp).mono ?_
          rintro e w1 ⟨A1, rfl, hR, hb1⟩
          have HR := Lib.hid hR
          have hbw1 := Bw.step hbw2 hb1
          have HO3 := Lib.hid (HO2.out.below hb1)
          clear hR
          go_wp2
          obtain ⟨wp, rfl⟩ : ∃ wp : World, wp = w1 := ⟨_, rfl⟩
          go_loopw [10, 11] (fun v i wr => ∃ j : Nat, j ≤ 2 ∧ i = .int .i64 j ∧ v = .bool (okUp b.v 4 m p j) ∧ Below wp.heap.size wp wr) (fun _ i _ => 2 - (intOf i).toNat)
          case atStart => exact ⟨0, by omega, rfl, rfl, Below.refl _ _⟩
          case round =>
            obtain ⟨j, hjw, rfl, rfl, hbj⟩ := hrel
            by_cases hlj : j < 2
            · obtain ⟨b1, o1, rfl, hlb, hcb⟩ := (HR.out.below hbj).at hlj
              rw [bitsT_at4 p j hlj] at hcb
              have HS := Lib.hid (show okUp b.v 4 m p (j + 1) = (okUp b.v 4 m p j && (bitN p 4 j == b.v / 2 ^ (7 - m - j) % 2)) from rfl)
              obtain ⟨sh, hsh⟩ : ∃ sh : Nat, sh = 7 - m - j := ⟨_, rfl⟩
              rw [← hsh] at HS
              have ws1 : IntKind.i64.wrap (7 - (m : Int)) = 7 - m := IntWalk.i64_in _ (by omega)
              have ws2 : IntKind.i64.wrap (7 - (m : Int) - j) = (sh : Int) := by rw [IntWalk.i64_in _ (by omega)]; omega
              have hs8 : sh ≤ 8 := by omega
              have hd := z_div b sh
              have ht := bit_z b sh
              generalize b.v / 2 ^ sh = q at *
              generalize q % 2 = q2 at *
              generalize bitN p 4 j = bb at *
              clear hsh
              by_cases hok : okUp b.v 4 m p j = true
              · rw [hok] at HS
                rw [hok]
                clear hok
                have hcx := fun x => cell_ext' hlb hcb x
                go_wp2
                (refine wp_region_ext (by kernel_rfl) (by kernel_rfl) ?_; (repeat (go_big_quiet_step ((fail)))); refine wpQuiet_nil ?_; intro W5 hw'; have hW5 := ext_below hw'; clear hw')
                clear hcx
                go_wp2
                go_roundw
                case rel => exact ⟨j + 1, by omega, by go_num, by (rw [HS.out, Bool.true_and]; first | rfl | exact congrArg Value.bool (beq_cast bb q2)), Bw.step hbj hW5⟩
                case measure => simp [intOf] <;> omega
              · have hok2 : okUp b.v 4 m p j = false := by simpa using hok
                rw [hok2] at HS
                rw [hok2]
                clear hok hok2
                go_wp2
                (refine wp_region_ext (by kernel_rfl) (by kernel_rfl) ?_; (repeat (go_big_quiet_step ((fail)))); refine wpQuiet_nil ?_; intro W5 hw'; have hW5 := ext_below hw'; clear hw')
                go_wp2
                go_roundw
                case rel => exact ⟨j + 1, by omega, by go_num, by (rw [HS.out, Bool.false_and]), Bw.step hbj hW5⟩
                case measure => simp [intOf] <;> omega
            · obtain rfl : j = 2 := by omega
              rw [HOK.out]
              have hbw3 := Bw.step hbw1 hbj
              have HO4 := Lib.hid (HO3.out.below hbj)
              by_cases hc : cellN b.v 4 k = p
              · have HC := Lib.hid (midL_eq hc)
                have hg : p < 256 := by omega
                have hy : cellG b 4 k = GF.mk p hg := GF.ext (by rw [cellG_v (by omega), hc]; rfl)
                rw [hy] at HC
                rw [decide_eq_true hc]
                have hl := midL_len b 4 k p
                have hsz := hbw3.size
                have hc8 := hb1
                generalize midL b 4 k p = L at *
                clear hc hy
                go_wp2_with (at_builtin; refine wpList_app1 wr rfl (.tmp 49) (.tmp 52) rfl w.heap.size _ L HO4.out rfl (GF.mk p hg) _ rfl (by omega) hsz ?_; intro v1 w2 ho5 hc2)
                have hb2 : Below w.heap.size w w2 := hbw3.trans hc2
                go_wp2
                go_roundw
                case rel => first | exact ⟨p + 1, by omega, by go_num, by (rw [HC.out]; exact ho5), hb2⟩ | ((repeat apply Exists.intro); exact ⟨⟨p + 1, by omega, by go_num, by (rw [HC.out]; exact ho5), hb2⟩, rfl⟩)
                case measure => simp [intOf]; omega
              · have HC := Lib.hid (midL_ne hc)
                rw [decide_eq_false hc]
                clear hc
                go_wp2
                go_roundw
                case rel => first | exact ⟨p + 1, by omega, by go_num, by (rw [HC.out]; exact HO4.out), hbw3⟩ | ((repeat apply Exists.intro); exact ⟨⟨p + 1, by omega, by go_num, by (rw [HC.out]; exact HO4.out), hbw3⟩, rfl⟩)
                case measure => simp [intOf]; omega
        · obtain rfl : p = 4 := by omega
          rw [midL_end (by omega)] at ho2
          have HO2 := Lib.hid ho2
          clear ho2
          go_wp2
          go_roundw
          case rel => exact ⟨k + 1, by omega, by rw [HM.out]; go_num, HO2.out, hbw2⟩
          case measure => simp [intOf]; omega
    · obtain rfl : k = 4 := by omega
      have hl : (cellsUp b 4 4).length = 4 := cellsUp_len b 4 4
      obtain ⟨A1, c1, rfl⟩ := ho.form
      rw [hl] at ho ⊢
      obtain rfl : m = 8 := by omega
      clear HM hm
      go_wp2
      go_ret
      exact ⟨A1, c1, rfl, ho, hbw⟩
end Go.Proofs.Ytbhcjgjeedhnaaa
