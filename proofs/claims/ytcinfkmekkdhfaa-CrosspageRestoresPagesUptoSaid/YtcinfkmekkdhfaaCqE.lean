/- Cross pages: the walk of Restore where its arguments fit. -/
import Derived.Test.YtcinfkmekkdhfaaCqG
namespace Go.Proofs.Ytcinfkmekkdhfaa
open Go.RowKit Go.Shelf
set_option linter.unusedVariables false
attribute [local go_sem] Oper.semAt_some
theorem run_store_fn {P : Program} {a : Addr} {m : Mode} {w : World} (fn : Fn) (first captured : Array Value) : (store a (.func fn first captured) m).run P w = stored P w a (.func fn first captured) m := run_store P w a _ m rfl
attribute [local go_sem] run_store_fn

theorem incOk_len {lz : List Int} {q : Nat} (h : IncOk lz q) (hq : q ≤ 384) : lz.length ≤ 100000 := by
  by_cases hz : lz.length = 0
  · omega
  · have mono : ∀ t, t < lz.length → (t : Int) ≤ lz.getD t 0 := fun t => by
      induction t with
      | zero => intro ht; exact (h 0 ht).1
      | succ t ih =>
        intro ht
        have h1 := ih (by omega)
        have h2 := (h (t + 1) ht).2.2 (Nat.succ_pos t)
        rw [Nat.add_sub_cancel] at h2
        omega
    have h1 := mono (lz.length - 1) (by omega)
    have h2 := (h (lz.length - 1) (by omega)).2.1
    omega
set_option maxRecDepth 100000 in
set_option maxHeartbeats 8000000 in
theorem restore_in (k0 : Nat) (hk0 : 4 ≤ k0) (A B : Option Addr) (m c c' p n b d : Nat) (hd : m - p = d) (P : List (List GF)) (Z : List (List Int)) (w : World) (hP : RdM w A m P) (hZ : RdMI w B m Z) (hg : PgsOk P m p n b) (hi : ∀ i, i < m → IncOk (Z.getD i []) (P.getD i []).length) :
    CallsIn Fence.wide k0 Try.prog 14 #[.slice A m c, .slice B m c', .int .i64 p] w fun e w' => ∃ o1 o2 L G, e = .returned (.tuple #[.slice (some ⟨o1, 0, none⟩) d d, .slice (some ⟨o2, 0, none⟩) d d, .agg #[.int .i64 0, .int .i64 0]]) ∧ RdM w' (some ⟨o1, 0, none⟩) d L ∧ RdMI w' (some ⟨o2, 0, none⟩) d G ∧ ResOK P Z m p n L G ∧ Below w.heap.size w w' := by
  have hPm : P.length = m := hP.1
  have HP := Lib.hid hP
  have HZ := Lib.hid hZ
  have HG := Lib.hid hg
  have HI := Lib.hid hi
  obtain ⟨hp, h1, h2, hb, hn, hn1, hn2, hbad, hl⟩ := hg
  have HL := Lib.hid hl
  have HLZ := Lib.hid (fun i (hi' : i < m) => incOk_len (hi i hi') (by rcases hl i hi' with h | h <;> omega))
  clear hP hZ hi hn hbad hl
  refine callsIn_of_wp_marks Try.func14 rfl trivial ?_ rfl
  simp only [Try.ntmps14, List.size_toArray, List.length_cons, List.length_nil, Nat.reduceAdd, Nat.reduceSub, Array.replicate_succ, Array.replicate_zero, List.push_toArray, List.append_toArray, List.nil_append, List.cons_append]
  gi_wp2_with fail
  have X3 := ((((Boxed.new w 22 (.slice A m c)).alloc (.cells #[.slice B m c'] 32)).alloc (.cells #[.int .i64 p] 3)).alloc (.cells #[.int .i64 0, .int .i64 0] 24))
  have X4 := (((Boxed.new (w.alloc (.cells #[.slice A m c] 22)) 32 (.slice B m c')).alloc (.cells #[.int .i64 p] 3)).alloc (.cells #[.int .i64 0, .int .i64 0] 24))
  have X5 := ((Boxed.new ((w.alloc (.cells #[.slice A m c] 22)).alloc (.cells #[.slice B m c'] 32)) 3 (.int .i64 p)).alloc (.cells #[.int .i64 0, .int .i64 0] 24))
  have F8 := Has.new (((w.alloc (.cells #[.slice A m c] 22)).alloc (.cells #[.slice B m c'] 32)).alloc (.cells #[.int .i64 p] 3)) 0 0 24
  have B4 := bw4b w (.cells #[.slice A m c] 22) (.cells #[.slice B m c'] 32) (.cells #[.int .i64 p] 3) (.cells #[.int .i64 0, .int .i64 0] 24)
  have z4 : ((((w.alloc (.cells #[.slice A m c] 22)).alloc (.cells #[.slice B m c'] 32)).alloc (.cells #[.int .i64 p] 3)).alloc (.cells #[.int .i64 0, .int .i64 0] 24)).heap.size = w.heap.size + 4 := by simp
  simp only [World.size_alloc] at X4 X5 F8
  generalize (((w.alloc (.cells #[.slice A m c] 22)).alloc (.cells #[.slice B m c'] 32)).alloc (.cells #[.int .i64 p] 3)).alloc (.cells #[.int .i64 0, .int .i64 0] 24) = W4 at *
  refine ⟨trivial, fun _ => by omega, (callsIn_wide.2 (cpCheck_ok A B m c c' p n b P Z W4 (HP.out.below B4) (HZ.out.below B4) HG.out HI.out)).mono ?_⟩
  rintro e w1 ⟨rfl, hb1⟩
  have hfn : ∀ f, Fence.wide.fn f := fun _ => trivial
  have hdp : Fence.wide.depth = none := rfl
  have H1 := Has.new w1 0 0 24
  have b5 : Below W4.heap.size W4 (w1.alloc (.cells #[.int .i64 0, .int .i64 0] 24)) := Bw.al hb1 _
  replace X3 := boxed_below X3 b5
  replace X4 := boxed_below X4 b5
  replace X5 := boxed_below X5 b5
  replace F8 := F8.below b5
  replace B4 := Bw.step B4 b5
  have z5 := b5.size
  rw [z4] at z5
  clear b5 hb1
  have x3 := X3.cell
  have x4 := X4.cell
  have x5 := X5.cell
  have ed : (m : Int) - (p : Int) = (d : Int) := by omega
  have ed2 : IntKind.i64.wrap ((m : Int) - p) = (d : Int) := by rw [IntWalk.i64_in _ (by omega)]; exact ed
  have hd1 : 1 ≤ d ∧ d ≤ 64 := by omega
  have HD := Lib.hid hd
  have hdm : d ≤ m := by omega
  clear hd z4
  gi_wp2
  generalize w1.alloc (.cells #[.int .i64 0, .int .i64 0] 24) = W6 at *
  have HX3 := Lib.hid X3
  have HX4 := Lib.hid X4
  have HX5 := Lib.hid X5
  have HF8 := Lib.hid F8
  have HB6 := Lib.hid B4
  have HM1 := run_makeM d (by omega)
  have HM2 := run_makeMI d (by omega)
  have hw6 := B4.size
  clear X3 X4 X5 F8 B4 H1 x3 x4 x5 ed ed2 HG HI
  refine wpIn_wide.2 ?_
  apply wp_region_mid4 (α := Nat) (β := Nat) (γ := Nat) (δ := Nat) (fun o1 o2 b1 b2 W => R5 W6 W w.heap.size d o1 o2 b1 b2)
  case h =>
    intro QQ HQ
    apply wp_region_all [0, 2] 6 (by kernel_rfl) (by kernel_rfl)
    case hd0 => kernel_rfl
    case hq0 => (intro z; simp only [pick, List.getElem?_cons_succ, List.getElem?_cons_zero]; (repeat (go_big_quiet_step (fail))); refine wpQuiet_nil ?_; exact rfl)
    case h =>
      intro T3 G
      refine all_step [1, 3, 4, 5] (by kernel_rfl) (by decide) (allC ⟨_, rfl, ?_⟩ (allC ⟨_, rfl, ?_⟩ (allC ⟨_, rfl, ?_⟩ (all1 ⟨_, rfl, ?_⟩))))
      · skip
        go_wp2
        have O1 := own_nils T3 w.heap.size d 41 (by have := G.size; omega) (by omega)
        have l4 := (own_outs O1).1
        have hg : Gr T3 (T3.alloc (.cells (nilsM d) 41)) := below_new _ _
        have s4 := G.size
        replace G := Gr.trans G hg
        clear hg
        generalize T3.alloc (.cells (nilsM d) 41) = T4 at *
        generalize T3.heap.size = o1 at *
        refine all_step [3, 4, 5] (by kernel_rfl) (by decide) (allC ⟨_, rfl, ?_⟩ (allC ⟨_, rfl, ?_⟩ (all1 ⟨_, rfl, ?_⟩)))
        · skip
          go_wp2
          have O2 := own_nils T4 w.heap.size d 40 (by have := G.size; omega) (by omega)
          have l5 := (own_outs O2).1
          have hg : Gr T4 (T4.alloc (.cells (nilsM d) 40)) := below_new _ _
          have s5 := G.size
          replace O1 := own_below O1 hg
          replace G := Gr.trans G hg
          clear hg
          generalize T4.alloc (.cells (nilsM d) 40) = T5 at *
          generalize T4.heap.size = o2 at *
          refine all_step [4, 5] (by kernel_rfl) (by decide) (allC ⟨_, rfl, ?_⟩ (all1 ⟨_, rfl, ?_⟩))
          · skip
            go_wp2
            have X1 := Boxed.new T5 22 (.slice none 0 0)
            have l6 := X1.lt
            have hg : Gr T5 (T5.alloc (.cells #[.slice none 0 0] 22)) := below_new _ _
            have s6 := G.size
            replace O1 := own_below O1 hg
            replace O2 := own_below O2 hg
            replace G := Gr.trans G hg
            clear hg
            generalize T5.alloc (.cells #[.slice none 0 0] 22) = T6 at *
            generalize T5.heap.size = b1 at *
            refine all_step [5] (by kernel_rfl) (by decide) (all1 ⟨_, rfl, ?_⟩)
            go_wp2
            have X2 := Boxed.new T6 32 (.slice none 0 0)
            have l7 := X2.lt
            have hg : Gr T6 (T6.alloc (.cells #[.slice none 0 0] 32)) := below_new _ _
            have s7 := G.size
            replace O1 := own_below O1 hg
            replace O2 := own_below O2 hg
            replace X1 := boxed_below X1 hg
            replace G := Gr.trans G hg
            clear hg
            generalize T6.alloc (.cells #[.slice none 0 0] 32) = T7 at *
            generalize T6.heap.size = b2 at *
            refine all_step [6] (by kernel_rfl) (by decide) (all1 ⟨_, rfl, ?_⟩)
            have k1 := X1.cell
            have e1 := X1.frozen
            go_wp2
            clear k1 e1
            have q12 : b1 ≠ b2 := by omega
            obtain ⟨Y1, Y2⟩ := R5.mid (s := .slice (some ⟨o1, 0, none⟩) d d) X1 X2 q12
            replace O1 := own_off1 O1 (b := b1) (by omega) (.slice (some ⟨o1, 0, none⟩) d d)
            replace O2 := own_off1 O2 (b := b1) (by omega) (.slice (some ⟨o1, 0, none⟩) d d)
            replace G : Gr W6 (T7.setCell ⟨b1, 0, none⟩ (.slice (some ⟨o1, 0, none⟩) d d)) := Below.setCell (p := ⟨b1, 0, none⟩) G (by show W6.heap.size ≤ b1; omega) _
            have hz : (T7.setCell ⟨b1, 0, none⟩ (.slice (some ⟨o1, 0, none⟩) d d)).heap.size = T7.heap.size := by simp
            clear X1 X2 q12
            generalize T7.setCell ⟨b1, 0, none⟩ (.slice (some ⟨o1, 0, none⟩) d d) = T8 at *
            rw [← hz] at l7
            clear hz
            have X1 := Y1
            have X2 := Y2
            clear Y1 Y2
            refine all_step [7] (by kernel_rfl) (by decide) (all1 ⟨_, rfl, ?_⟩)
            have k2 := X2.cell
            have e2 := X2.frozen
            go_wp2
            refine all_end (by kernel_rfl) ?_
            exact HQ.out o1 o2 b1 b2 _ (R5.mk' O1 O2 X1 X2 ⟨by omega, by omega, by omega, by omega⟩ ⟨by omega, by omega, by omega, by omega, by omega, by omega⟩ G)
          · skip
            go_wp2
            have X2 := Boxed.new T5 32 (.slice none 0 0)
            have l6 := X2.lt
            have hg : Gr T5 (T5.alloc (.cells #[.slice none 0 0] 32)) := below_new _ _
            have s6 := G.size
            replace O1 := own_below O1 hg
            replace O2 := own_below O2 hg
            replace G := Gr.trans G hg
            clear hg
            generalize T5.alloc (.cells #[.slice none 0 0] 32) = T6 at *
            generalize T5.heap.size = b2 at *
            refine all_step [4] (by kernel_rfl) (by decide) (all1 ⟨_, rfl, ?_⟩)
            go_wp2
            have X1 := Boxed.new T6 22 (.slice none 0 0)
            have l7 := X1.lt
            have hg : Gr T6 (T6.alloc (.cells #[.slice none 0 0] 22)) := below_new _ _
            have s7 := G.size
            replace O1 := own_below O1 hg
            replace O2 := own_below O2 hg
            replace X2 := boxed_below X2 hg
            replace G := Gr.trans G hg
            clear hg
            generalize T6.alloc (.cells #[.slice none 0 0] 22) = T7 at *
            generalize T6.heap.size = b1 at *
            refine all_step [6] (by kernel_rfl) (by decide) (all1 ⟨_, rfl, ?_⟩)
            have k1 := X1.cell
            have e1 := X1.frozen
            go_wp2
            clear k1 e1
            have q12 : b1 ≠ b2 := by omega
            obtain ⟨Y1, Y2⟩ := R5.mid (s := .slice (some ⟨o1, 0, none⟩) d d) X1 X2 q12
            replace O1 := own_off1 O1 (b := b1) (by omega) (.slice (some ⟨o1, 0, none⟩) d d)
            replace O2 := own_off1 O2 (b := b1) (by omega) (.slice (some ⟨o1, 0, none⟩) d d)
            replace G : Gr W6 (T7.setCell ⟨b1, 0, none⟩ (.slice (some ⟨o1, 0, none⟩) d d)) := Below.setCell (p := ⟨b1, 0, none⟩) G (by show W6.heap.size ≤ b1; omega) _
            have hz : (T7.setCell ⟨b1, 0, none⟩ (.slice (some ⟨o1, 0, none⟩) d d)).heap.size = T7.heap.size := by simp
            clear X1 X2 q12
            generalize T7.setCell ⟨b1, 0, none⟩ (.slice (some ⟨o1, 0, none⟩) d d) = T8 at *
            rw [← hz] at l7
            clear hz
            have X1 := Y1
            have X2 := Y2
            clear Y1 Y2
            refine all_step [7] (by kernel_rfl) (by decide) (all1 ⟨_, rfl, ?_⟩)
            have k2 := X2.cell
            have e2 := X2.frozen
            go_wp2
            refine all_end (by kernel_rfl) ?_
            exact HQ.out o1 o2 b1 b2 _ (R5.mk' O1 O2 X1 X2 ⟨by omega, by omega, by omega, by omega⟩ ⟨by omega, by omega, by omega, by omega, by omega, by omega⟩ G)
        · skip
          go_wp2
          have X1 := Boxed.new T4 22 (.slice none 0 0)
          have l5 := X1.lt
          have hg : Gr T4 (T4.alloc (.cells #[.slice none 0 0] 22)) := below_new _ _
          have s5 := G.size
          replace O1 := own_below O1 hg
          replace G := Gr.trans G hg
          clear hg
          generalize T4.alloc (.cells #[.slice none 0 0] 22) = T5 at *
          generalize T4.heap.size = b1 at *
          refine all_step [3, 5] (by kernel_rfl) (by decide) (allC ⟨_, rfl, ?_⟩ (all1 ⟨_, rfl, ?_⟩))
          · skip
            go_wp2
            have O2 := own_nils T5 w.heap.size d 40 (by have := G.size; omega) (by omega)
            have l6 := (own_outs O2).1
            have hg : Gr T5 (T5.alloc (.cells (nilsM d) 40)) := below_new _ _
            have s6 := G.size
            replace O1 := own_below O1 hg
            replace X1 := boxed_below X1 hg
            replace G := Gr.trans G hg
            clear hg
            generalize T5.alloc (.cells (nilsM d) 40) = T6 at *
            generalize T5.heap.size = o2 at *
            refine all_step [5] (by kernel_rfl) (by decide) (all1 ⟨_, rfl, ?_⟩)
            go_wp2
            have X2 := Boxed.new T6 32 (.slice none 0 0)
            have l7 := X2.lt
            have hg : Gr T6 (T6.alloc (.cells #[.slice none 0 0] 32)) := below_new _ _
            have s7 := G.size
            replace O1 := own_below O1 hg
            replace X1 := boxed_below X1 hg
            replace O2 := own_below O2 hg
            replace G := Gr.trans G hg
            clear hg
            generalize T6.alloc (.cells #[.slice none 0 0] 32) = T7 at *
            generalize T6.heap.size = b2 at *
            refine all_step [6] (by kernel_rfl) (by decide) (all1 ⟨_, rfl, ?_⟩)
            have k1 := X1.cell
            have e1 := X1.frozen
            go_wp2
            clear k1 e1
            have q12 : b1 ≠ b2 := by omega
            obtain ⟨Y1, Y2⟩ := R5.mid (s := .slice (some ⟨o1, 0, none⟩) d d) X1 X2 q12
            replace O1 := own_off1 O1 (b := b1) (by omega) (.slice (some ⟨o1, 0, none⟩) d d)
            replace O2 := own_off1 O2 (b := b1) (by omega) (.slice (some ⟨o1, 0, none⟩) d d)
            replace G : Gr W6 (T7.setCell ⟨b1, 0, none⟩ (.slice (some ⟨o1, 0, none⟩) d d)) := Below.setCell (p := ⟨b1, 0, none⟩) G (by show W6.heap.size ≤ b1; omega) _
            have hz : (T7.setCell ⟨b1, 0, none⟩ (.slice (some ⟨o1, 0, none⟩) d d)).heap.size = T7.heap.size := by simp
            clear X1 X2 q12
            generalize T7.setCell ⟨b1, 0, none⟩ (.slice (some ⟨o1, 0, none⟩) d d) = T8 at *
            rw [← hz] at l7
            clear hz
            have X1 := Y1
            have X2 := Y2
            clear Y1 Y2
            refine all_step [7] (by kernel_rfl) (by decide) (all1 ⟨_, rfl, ?_⟩)
            have k2 := X2.cell
            have e2 := X2.frozen
            go_wp2
            refine all_end (by kernel_rfl) ?_
            exact HQ.out o1 o2 b1 b2 _ (R5.mk' O1 O2 X1 X2 ⟨by omega, by omega, by omega, by omega⟩ ⟨by omega, by omega, by omega, by omega, by omega, by omega⟩ G)
          · skip
            go_wp2
            have X2 := Boxed.new T5 32 (.slice none 0 0)
            have l6 := X2.lt
            have hg : Gr T5 (T5.alloc (.cells #[.slice none 0 0] 32)) := below_new _ _
            have s6 := G.size
            replace O1 := own_below O1 hg
            replace X1 := boxed_below X1 hg
            replace G := Gr.trans G hg
            clear hg
            generalize T5.alloc (.cells #[.slice none 0 0] 32) = T6 at *
            generalize T5.heap.size = b2 at *
            refine all_step [3, 6] (by kernel_rfl) (by decide) (allC ⟨_, rfl, ?_⟩ (all1 ⟨_, rfl, ?_⟩))
            · skip
              go_wp2
              have O2 := own_nils T6 w.heap.size d 40 (by have := G.size; omega) (by omega)
              have l7 := (own_outs O2).1
              have hg : Gr T6 (T6.alloc (.cells (nilsM d) 40)) := below_new _ _
              have s7 := G.size
              replace O1 := own_below O1 hg
              replace X1 := boxed_below X1 hg
              replace X2 := boxed_below X2 hg
              replace G := Gr.trans G hg
              clear hg
              generalize T6.alloc (.cells (nilsM d) 40) = T7 at *
              generalize T6.heap.size = o2 at *
              refine all_step [6] (by kernel_rfl) (by decide) (all1 ⟨_, rfl, ?_⟩)
              have k1 := X1.cell
              have e1 := X1.frozen
              go_wp2
              clear k1 e1
              have q12 : b1 ≠ b2 := by omega
              obtain ⟨Y1, Y2⟩ := R5.mid (s := .slice (some ⟨o1, 0, none⟩) d d) X1 X2 q12
              replace O1 := own_off1 O1 (b := b1) (by omega) (.slice (some ⟨o1, 0, none⟩) d d)
              replace O2 := own_off1 O2 (b := b1) (by omega) (.slice (some ⟨o1, 0, none⟩) d d)
              replace G : Gr W6 (T7.setCell ⟨b1, 0, none⟩ (.slice (some ⟨o1, 0, none⟩) d d)) := Below.setCell (p := ⟨b1, 0, none⟩) G (by show W6.heap.size ≤ b1; omega) _
              have hz : (T7.setCell ⟨b1, 0, none⟩ (.slice (some ⟨o1, 0, none⟩) d d)).heap.size = T7.heap.size := by simp
              clear X1 X2 q12
              generalize T7.setCell ⟨b1, 0, none⟩ (.slice (some ⟨o1, 0, none⟩) d d) = T8 at *
              rw [← hz] at l7
              clear hz
              have X1 := Y1
              have X2 := Y2
              clear Y1 Y2
              refine all_step [7] (by kernel_rfl) (by decide) (all1 ⟨_, rfl, ?_⟩)
              have k2 := X2.cell
              have e2 := X2.frozen
              go_wp2
              refine all_end (by kernel_rfl) ?_
              exact HQ.out o1 o2 b1 b2 _ (R5.mk' O1 O2 X1 X2 ⟨by omega, by omega, by omega, by omega⟩ ⟨by omega, by omega, by omega, by omega, by omega, by omega⟩ G)
            · skip
              have k1 := X1.cell
              have e1 := X1.frozen
              go_wp2
              clear k1 e1
              have q12 : b1 ≠ b2 := by omega
              obtain ⟨Y1, Y2⟩ := R5.mid (s := .slice (some ⟨o1, 0, none⟩) d d) X1 X2 q12
              replace O1 := own_off1 O1 (b := b1) (by omega) (.slice (some ⟨o1, 0, none⟩) d d)
              replace G : Gr W6 (T6.setCell ⟨b1, 0, none⟩ (.slice (some ⟨o1, 0, none⟩) d d)) := Below.setCell (p := ⟨b1, 0, none⟩) G (by show W6.heap.size ≤ b1; omega) _
              have hz : (T6.setCell ⟨b1, 0, none⟩ (.slice (some ⟨o1, 0, none⟩) d d)).heap.size = T6.heap.size := by simp
              clear X1 X2 q12
              generalize T6.setCell ⟨b1, 0, none⟩ (.slice (some ⟨o1, 0, none⟩) d d) = T7 at *
              rw [← hz] at l6
              clear hz
              have X1 := Y1
              have X2 := Y2
              clear Y1 Y2
              refine all_step [3] (by kernel_rfl) (by decide) (all1 ⟨_, rfl, ?_⟩)
              go_wp2
              have O2 := own_nils T7 w.heap.size d 40 (by have := G.size; omega) (by omega)
              have l8 := (own_outs O2).1
              have hg : Gr T7 (T7.alloc (.cells (nilsM d) 40)) := below_new _ _
              have s8 := G.size
              replace O1 := own_below O1 hg
              replace X1 := boxed_below X1 hg
              replace X2 := boxed_below X2 hg
              replace G := Gr.trans G hg
              clear hg
              generalize T7.alloc (.cells (nilsM d) 40) = T8 at *
              generalize T7.heap.size = o2 at *
              refine all_step [7] (by kernel_rfl) (by decide) (all1 ⟨_, rfl, ?_⟩)
              have k2 := X2.cell
              have e2 := X2.frozen
              go_wp2
              refine all_end (by kernel_rfl) ?_
              exact HQ.out o1 o2 b1 b2 _ (R5.mk' O1 O2 X1 X2 ⟨by omega, by omega, by omega, by omega⟩ ⟨by omega, by omega, by omega, by omega, by omega, by omega⟩ G)
        · skip
          go_wp2
          have X2 := Boxed.new T4 32 (.slice none 0 0)
          have l5 := X2.lt
          have hg : Gr T4 (T4.alloc (.cells #[.slice none 0 0] 32)) := below_new _ _
          have s5 := G.size
          replace O1 := own_below O1 hg
          replace G := Gr.trans G hg
          clear hg
          generalize T4.alloc (.cells #[.slice none 0 0] 32) = T5 at *
          generalize T4.heap.size = b2 at *
          refine all_step [3, 4] (by kernel_rfl) (by decide) (allC ⟨_, rfl, ?_⟩ (all1 ⟨_, rfl, ?_⟩))
          · skip
            go_wp2
            have O2 := own_nils T5 w.heap.size d 40 (by have := G.size; omega) (by omega)
            have l6 := (own_outs O2).1
            have hg : Gr T5 (T5.alloc (.cells (nilsM d) 40)) := below_new _ _
            have s6 := G.size
            replace O1 := own_below O1 hg
            replace X2 := boxed_below X2 hg
            replace G := Gr.trans G hg
            clear hg
            generalize T5.alloc (.cells (nilsM d) 40) = T6 at *
            generalize T5.heap.size = o2 at *
            refine all_step [4] (by kernel_rfl) (by decide) (all1 ⟨_, rfl, ?_⟩)
            go_wp2
            have X1 := Boxed.new T6 22 (.slice none 0 0)
            have l7 := X1.lt
            have hg : Gr T6 (T6.alloc (.cells #[.slice none 0 0] 22)) := below_new _ _
            have s7 := G.size
            replace O1 := own_below O1 hg
            replace X2 := boxed_below X2 hg
            replace O2 := own_below O2 hg
            replace G := Gr.trans G hg
            clear hg
            generalize T6.alloc (.cells #[.slice none 0 0] 22) = T7 at *
            generalize T6.heap.size = b1 at *
            refine all_step [6] (by kernel_rfl) (by decide) (all1 ⟨_, rfl, ?_⟩)
            have k1 := X1.cell
            have e1 := X1.frozen
            go_wp2
            clear k1 e1
            have q12 : b1 ≠ b2 := by omega
            obtain ⟨Y1, Y2⟩ := R5.mid (s := .slice (some ⟨o1, 0, none⟩) d d) X1 X2 q12
            replace O1 := own_off1 O1 (b := b1) (by omega) (.slice (some ⟨o1, 0, none⟩) d d)
            replace O2 := own_off1 O2 (b := b1) (by omega) (.slice (some ⟨o1, 0, none⟩) d d)
            replace G : Gr W6 (T7.setCell ⟨b1, 0, none⟩ (.slice (some ⟨o1, 0, none⟩) d d)) := Below.setCell (p := ⟨b1, 0, none⟩) G (by show W6.heap.size ≤ b1; omega) _
            have hz : (T7.setCell ⟨b1, 0, none⟩ (.slice (some ⟨o1, 0, none⟩) d d)).heap.size = T7.heap.size := by simp
            clear X1 X2 q12
            generalize T7.setCell ⟨b1, 0, none⟩ (.slice (some ⟨o1, 0, none⟩) d d) = T8 at *
            rw [← hz] at l7
            clear hz
            have X1 := Y1
            have X2 := Y2
            clear Y1 Y2
            refine all_step [7] (by kernel_rfl) (by decide) (all1 ⟨_, rfl, ?_⟩)
            have k2 := X2.cell
            have e2 := X2.frozen
            go_wp2
            refine all_end (by kernel_rfl) ?_
            exact HQ.out o1 o2 b1 b2 _ (R5.mk' O1 O2 X1 X2 ⟨by omega, by omega, by omega, by omega⟩ ⟨by omega, by omega, by omega, by omega, by omega, by omega⟩ G)
          · skip
            go_wp2
            have X1 := Boxed.new T5 22 (.slice none 0 0)
            have l6 := X1.lt
            have hg : Gr T5 (T5.alloc (.cells #[.slice none 0 0] 22)) := below_new _ _
            have s6 := G.size
            replace O1 := own_below O1 hg
            replace X2 := boxed_below X2 hg
            replace G := Gr.trans G hg
            clear hg
            generalize T5.alloc (.cells #[.slice none 0 0] 22) = T6 at *
            generalize T5.heap.size = b1 at *
            refine all_step [3, 6] (by kernel_rfl) (by decide) (allC ⟨_, rfl, ?_⟩ (all1 ⟨_, rfl, ?_⟩))
            · skip
              go_wp2
              have O2 := own_nils T6 w.heap.size d 40 (by have := G.size; omega) (by omega)
              have l7 := (own_outs O2).1
              have hg : Gr T6 (T6.alloc (.cells (nilsM d) 40)) := below_new _ _
              have s7 := G.size
              replace O1 := own_below O1 hg
              replace X2 := boxed_below X2 hg
              replace X1 := boxed_below X1 hg
              replace G := Gr.trans G hg
              clear hg
              generalize T6.alloc (.cells (nilsM d) 40) = T7 at *
              generalize T6.heap.size = o2 at *
              refine all_step [6] (by kernel_rfl) (by decide) (all1 ⟨_, rfl, ?_⟩)
              have k1 := X1.cell
              have e1 := X1.frozen
              go_wp2
              clear k1 e1
              have q12 : b1 ≠ b2 := by omega
              obtain ⟨Y1, Y2⟩ := R5.mid (s := .slice (some ⟨o1, 0, none⟩) d d) X1 X2 q12
              replace O1 := own_off1 O1 (b := b1) (by omega) (.slice (some ⟨o1, 0, none⟩) d d)
              replace O2 := own_off1 O2 (b := b1) (by omega) (.slice (some ⟨o1, 0, none⟩) d d)
              replace G : Gr W6 (T7.setCell ⟨b1, 0, none⟩ (.slice (some ⟨o1, 0, none⟩) d d)) := Below.setCell (p := ⟨b1, 0, none⟩) G (by show W6.heap.size ≤ b1; omega) _
              have hz : (T7.setCell ⟨b1, 0, none⟩ (.slice (some ⟨o1, 0, none⟩) d d)).heap.size = T7.heap.size := by simp
              clear X1 X2 q12
              generalize T7.setCell ⟨b1, 0, none⟩ (.slice (some ⟨o1, 0, none⟩) d d) = T8 at *
              rw [← hz] at l7
              clear hz
              have X1 := Y1
              have X2 := Y2
              clear Y1 Y2
              refine all_step [7] (by kernel_rfl) (by decide) (all1 ⟨_, rfl, ?_⟩)
              have k2 := X2.cell
              have e2 := X2.frozen
              go_wp2
              refine all_end (by kernel_rfl) ?_
              exact HQ.out o1 o2 b1 b2 _ (R5.mk' O1 O2 X1 X2 ⟨by omega, by omega, by omega, by omega⟩ ⟨by omega, by omega, by omega, by omega, by omega, by omega⟩ G)
            · skip
              have k1 := X1.cell
              have e1 := X1.frozen
              go_wp2
              clear k1 e1
              have q12 : b1 ≠ b2 := by omega
              obtain ⟨Y1, Y2⟩ := R5.mid (s := .slice (some ⟨o1, 0, none⟩) d d) X1 X2 q12
              replace O1 := own_off1 O1 (b := b1) (by omega) (.slice (some ⟨o1, 0, none⟩) d d)
              replace G : Gr W6 (T6.setCell ⟨b1, 0, none⟩ (.slice (some ⟨o1, 0, none⟩) d d)) := Below.setCell (p := ⟨b1, 0, none⟩) G (by show W6.heap.size ≤ b1; omega) _
              have hz : (T6.setCell ⟨b1, 0, none⟩ (.slice (some ⟨o1, 0, none⟩) d d)).heap.size = T6.heap.size := by simp
              clear X1 X2 q12
              generalize T6.setCell ⟨b1, 0, none⟩ (.slice (some ⟨o1, 0, none⟩) d d) = T7 at *
              rw [← hz] at l6
              clear hz
              have X1 := Y1
              have X2 := Y2
              clear Y1 Y2
              refine all_step [3] (by kernel_rfl) (by decide) (all1 ⟨_, rfl, ?_⟩)
              go_wp2
              have O2 := own_nils T7 w.heap.size d 40 (by have := G.size; omega) (by omega)
              have l8 := (own_outs O2).1
              have hg : Gr T7 (T7.alloc (.cells (nilsM d) 40)) := below_new _ _
              have s8 := G.size
              replace O1 := own_below O1 hg
              replace X2 := boxed_below X2 hg
              replace X1 := boxed_below X1 hg
              replace G := Gr.trans G hg
              clear hg
              generalize T7.alloc (.cells (nilsM d) 40) = T8 at *
              generalize T7.heap.size = o2 at *
              refine all_step [7] (by kernel_rfl) (by decide) (all1 ⟨_, rfl, ?_⟩)
              have k2 := X2.cell
              have e2 := X2.frozen
              go_wp2
              refine all_end (by kernel_rfl) ?_
              exact HQ.out o1 o2 b1 b2 _ (R5.mk' O1 O2 X1 X2 ⟨by omega, by omega, by omega, by omega⟩ ⟨by omega, by omega, by omega, by omega, by omega, by omega⟩ G)
      · skip
        go_wp2
        have O2 := own_nils T3 w.heap.size d 40 (by have := G.size; omega) (by omega)
        have l4 := (own_outs O2).1
        have hg : Gr T3 (T3.alloc (.cells (nilsM d) 40)) := below_new _ _
        have s4 := G.size
        replace G := Gr.trans G hg
        clear hg
        generalize T3.alloc (.cells (nilsM d) 40) = T4 at *
        generalize T3.heap.size = o2 at *
        refine all_step [1, 4, 5] (by kernel_rfl) (by decide) (allC ⟨_, rfl, ?_⟩ (allC ⟨_, rfl, ?_⟩ (all1 ⟨_, rfl, ?_⟩)))
        · skip
          go_wp2
          have O1 := own_nils T4 w.heap.size d 41 (by have := G.size; omega) (by omega)
          have l5 := (own_outs O1).1
          have hg : Gr T4 (T4.alloc (.cells (nilsM d) 41)) := below_new _ _
          have s5 := G.size
          replace O2 := own_below O2 hg
          replace G := Gr.trans G hg
          clear hg
          generalize T4.alloc (.cells (nilsM d) 41) = T5 at *
          generalize T4.heap.size = o1 at *
          refine all_step [4, 5] (by kernel_rfl) (by decide) (allC ⟨_, rfl, ?_⟩ (all1 ⟨_, rfl, ?_⟩))
          · skip
            go_wp2
            have X1 := Boxed.new T5 22 (.slice none 0 0)
            have l6 := X1.lt
            have hg : Gr T5 (T5.alloc (.cells #[.slice none 0 0] 22)) := below_new _ _
            have s6 := G.size
            replace O2 := own_below O2 hg
            replace O1 := own_below O1 hg
            replace G := Gr.trans G hg
            clear hg
            generalize T5.alloc (.cells #[.slice none 0 0] 22) = T6 at *
            generalize T5.heap.size = b1 at *
            refine all_step [5] (by kernel_rfl) (by decide) (all1 ⟨_, rfl, ?_⟩)
            go_wp2
            have X2 := Boxed.new T6 32 (.slice none 0 0)
            have l7 := X2.lt
            have hg : Gr T6 (T6.alloc (.cells #[.slice none 0 0] 32)) := below_new _ _
            have s7 := G.size
            replace O2 := own_below O2 hg
            replace O1 := own_below O1 hg
            replace X1 := boxed_below X1 hg
            replace G := Gr.trans G hg
            clear hg
            generalize T6.alloc (.cells #[.slice none 0 0] 32) = T7 at *
            generalize T6.heap.size = b2 at *
            refine all_step [6] (by kernel_rfl) (by decide) (all1 ⟨_, rfl, ?_⟩)
            have k1 := X1.cell
            have e1 := X1.frozen
            go_wp2
            clear k1 e1
            have q12 : b1 ≠ b2 := by omega
            obtain ⟨Y1, Y2⟩ := R5.mid (s := .slice (some ⟨o1, 0, none⟩) d d) X1 X2 q12
            replace O1 := own_off1 O1 (b := b1) (by omega) (.slice (some ⟨o1, 0, none⟩) d d)
            replace O2 := own_off1 O2 (b := b1) (by omega) (.slice (some ⟨o1, 0, none⟩) d d)
            replace G : Gr W6 (T7.setCell ⟨b1, 0, none⟩ (.slice (some ⟨o1, 0, none⟩) d d)) := Below.setCell (p := ⟨b1, 0, none⟩) G (by show W6.heap.size ≤ b1; omega) _
            have hz : (T7.setCell ⟨b1, 0, none⟩ (.slice (some ⟨o1, 0, none⟩) d d)).heap.size = T7.heap.size := by simp
            clear X1 X2 q12
            generalize T7.setCell ⟨b1, 0, none⟩ (.slice (some ⟨o1, 0, none⟩) d d) = T8 at *
            rw [← hz] at l7
            clear hz
            have X1 := Y1
            have X2 := Y2
            clear Y1 Y2
            refine all_step [7] (by kernel_rfl) (by decide) (all1 ⟨_, rfl, ?_⟩)
            have k2 := X2.cell
            have e2 := X2.frozen
            go_wp2
            refine all_end (by kernel_rfl) ?_
            exact HQ.out o1 o2 b1 b2 _ (R5.mk' O1 O2 X1 X2 ⟨by omega, by omega, by omega, by omega⟩ ⟨by omega, by omega, by omega, by omega, by omega, by omega⟩ G)
          · skip
            go_wp2
            have X2 := Boxed.new T5 32 (.slice none 0 0)
            have l6 := X2.lt
            have hg : Gr T5 (T5.alloc (.cells #[.slice none 0 0] 32)) := below_new _ _
            have s6 := G.size
            replace O2 := own_below O2 hg
            replace O1 := own_below O1 hg
            replace G := Gr.trans G hg
            clear hg
            generalize T5.alloc (.cells #[.slice none 0 0] 32) = T6 at *
            generalize T5.heap.size = b2 at *
            refine all_step [4] (by kernel_rfl) (by decide) (all1 ⟨_, rfl, ?_⟩)
            go_wp2
            have X1 := Boxed.new T6 22 (.slice none 0 0)
            have l7 := X1.lt
            have hg : Gr T6 (T6.alloc (.cells #[.slice none 0 0] 22)) := below_new _ _
            have s7 := G.size
            replace O2 := own_below O2 hg
            replace O1 := own_below O1 hg
            replace X2 := boxed_below X2 hg
            replace G := Gr.trans G hg
            clear hg
            generalize T6.alloc (.cells #[.slice none 0 0] 22) = T7 at *
            generalize T6.heap.size = b1 at *
            refine all_step [6] (by kernel_rfl) (by decide) (all1 ⟨_, rfl, ?_⟩)
            have k1 := X1.cell
            have e1 := X1.frozen
            go_wp2
            clear k1 e1
            have q12 : b1 ≠ b2 := by omega
            obtain ⟨Y1, Y2⟩ := R5.mid (s := .slice (some ⟨o1, 0, none⟩) d d) X1 X2 q12
            replace O1 := own_off1 O1 (b := b1) (by omega) (.slice (some ⟨o1, 0, none⟩) d d)
            replace O2 := own_off1 O2 (b := b1) (by omega) (.slice (some ⟨o1, 0, none⟩) d d)
            replace G : Gr W6 (T7.setCell ⟨b1, 0, none⟩ (.slice (some ⟨o1, 0, none⟩) d d)) := Below.setCell (p := ⟨b1, 0, none⟩) G (by show W6.heap.size ≤ b1; omega) _
            have hz : (T7.setCell ⟨b1, 0, none⟩ (.slice (some ⟨o1, 0, none⟩) d d)).heap.size = T7.heap.size := by simp
            clear X1 X2 q12
            generalize T7.setCell ⟨b1, 0, none⟩ (.slice (some ⟨o1, 0, none⟩) d d) = T8 at *
            rw [← hz] at l7
            clear hz
            have X1 := Y1
            have X2 := Y2
            clear Y1 Y2
            refine all_step [7] (by kernel_rfl) (by decide) (all1 ⟨_, rfl, ?_⟩)
            have k2 := X2.cell
            have e2 := X2.frozen
            go_wp2
            refine all_end (by kernel_rfl) ?_
            exact HQ.out o1 o2 b1 b2 _ (R5.mk' O1 O2 X1 X2 ⟨by omega, by omega, by omega, by omega⟩ ⟨by omega, by omega, by omega, by omega, by omega, by omega⟩ G)
        · skip
          go_wp2
          have X1 := Boxed.new T4 22 (.slice none 0 0)
          have l5 := X1.lt
          have hg : Gr T4 (T4.alloc (.cells #[.slice none 0 0] 22)) := below_new _ _
          have s5 := G.size
          replace O2 := own_below O2 hg
          replace G := Gr.trans G hg
          clear hg
          generalize T4.alloc (.cells #[.slice none 0 0] 22) = T5 at *
          generalize T4.heap.size = b1 at *
          refine all_step [1, 5] (by kernel_rfl) (by decide) (allC ⟨_, rfl, ?_⟩ (all1 ⟨_, rfl, ?_⟩))
          · skip
            go_wp2
            have O1 := own_nils T5 w.heap.size d 41 (by have := G.size; omega) (by omega)
            have l6 := (own_outs O1).1
            have hg : Gr T5 (T5.alloc (.cells (nilsM d) 41)) := below_new _ _
            have s6 := G.size
            replace O2 := own_below O2 hg
            replace X1 := boxed_below X1 hg
            replace G := Gr.trans G hg
            clear hg
            generalize T5.alloc (.cells (nilsM d) 41) = T6 at *
            generalize T5.heap.size = o1 at *
            refine all_step [5] (by kernel_rfl) (by decide) (all1 ⟨_, rfl, ?_⟩)
            go_wp2
            have X2 := Boxed.new T6 32 (.slice none 0 0)
            have l7 := X2.lt
            have hg : Gr T6 (T6.alloc (.cells #[.slice none 0 0] 32)) := below_new _ _
            have s7 := G.size
            replace O2 := own_below O2 hg
            replace X1 := boxed_below X1 hg
            replace O1 := own_below O1 hg
            replace G := Gr.trans G hg
            clear hg
            generalize T6.alloc (.cells #[.slice none 0 0] 32) = T7 at *
            generalize T6.heap.size = b2 at *
            refine all_step [6] (by kernel_rfl) (by decide) (all1 ⟨_, rfl, ?_⟩)
            have k1 := X1.cell
            have e1 := X1.frozen
            go_wp2
            clear k1 e1
            have q12 : b1 ≠ b2 := by omega
            obtain ⟨Y1, Y2⟩ := R5.mid (s := .slice (some ⟨o1, 0, none⟩) d d) X1 X2 q12
            replace O1 := own_off1 O1 (b := b1) (by omega) (.slice (some ⟨o1, 0, none⟩) d d)
            replace O2 := own_off1 O2 (b := b1) (by omega) (.slice (some ⟨o1, 0, none⟩) d d)
            replace G : Gr W6 (T7.setCell ⟨b1, 0, none⟩ (.slice (some ⟨o1, 0, none⟩) d d)) := Below.setCell (p := ⟨b1, 0, none⟩) G (by show W6.heap.size ≤ b1; omega) _
            have hz : (T7.setCell ⟨b1, 0, none⟩ (.slice (some ⟨o1, 0, none⟩) d d)).heap.size = T7.heap.size := by simp
            clear X1 X2 q12
            generalize T7.setCell ⟨b1, 0, none⟩ (.slice (some ⟨o1, 0, none⟩) d d) = T8 at *
            rw [← hz] at l7
            clear hz
            have X1 := Y1
            have X2 := Y2
            clear Y1 Y2
            refine all_step [7] (by kernel_rfl) (by decide) (all1 ⟨_, rfl, ?_⟩)
            have k2 := X2.cell
            have e2 := X2.frozen
            go_wp2
            refine all_end (by kernel_rfl) ?_
            exact HQ.out o1 o2 b1 b2 _ (R5.mk' O1 O2 X1 X2 ⟨by omega, by omega, by omega, by omega⟩ ⟨by omega, by omega, by omega, by omega, by omega, by omega⟩ G)
          · skip
            go_wp2
            have X2 := Boxed.new T5 32 (.slice none 0 0)
            have l6 := X2.lt
            have hg : Gr T5 (T5.alloc (.cells #[.slice none 0 0] 32)) := below_new _ _
            have s6 := G.size
            replace O2 := own_below O2 hg
            replace X1 := boxed_below X1 hg
            replace G := Gr.trans G hg
            clear hg
            generalize T5.alloc (.cells #[.slice none 0 0] 32) = T6 at *
            generalize T5.heap.size = b2 at *
            refine all_step [1] (by kernel_rfl) (by decide) (all1 ⟨_, rfl, ?_⟩)
            go_wp2
            have O1 := own_nils T6 w.heap.size d 41 (by have := G.size; omega) (by omega)
            have l7 := (own_outs O1).1
            have hg : Gr T6 (T6.alloc (.cells (nilsM d) 41)) := below_new _ _
            have s7 := G.size
            replace O2 := own_below O2 hg
            replace X1 := boxed_below X1 hg
            replace X2 := boxed_below X2 hg
            replace G := Gr.trans G hg
            clear hg
            generalize T6.alloc (.cells (nilsM d) 41) = T7 at *
            generalize T6.heap.size = o1 at *
            refine all_step [6] (by kernel_rfl) (by decide) (all1 ⟨_, rfl, ?_⟩)
            have k1 := X1.cell
            have e1 := X1.frozen
            go_wp2
            clear k1 e1
            have q12 : b1 ≠ b2 := by omega
            obtain ⟨Y1, Y2⟩ := R5.mid (s := .slice (some ⟨o1, 0, none⟩) d d) X1 X2 q12
            replace O1 := own_off1 O1 (b := b1) (by omega) (.slice (some ⟨o1, 0, none⟩) d d)
            replace O2 := own_off1 O2 (b := b1) (by omega) (.slice (some ⟨o1, 0, none⟩) d d)
            replace G : Gr W6 (T7.setCell ⟨b1, 0, none⟩ (.slice (some ⟨o1, 0, none⟩) d d)) := Below.setCell (p := ⟨b1, 0, none⟩) G (by show W6.heap.size ≤ b1; omega) _
            have hz : (T7.setCell ⟨b1, 0, none⟩ (.slice (some ⟨o1, 0, none⟩) d d)).heap.size = T7.heap.size := by simp
            clear X1 X2 q12
            generalize T7.setCell ⟨b1, 0, none⟩ (.slice (some ⟨o1, 0, none⟩) d d) = T8 at *
            rw [← hz] at l7
            clear hz
            have X1 := Y1
            have X2 := Y2
            clear Y1 Y2
            refine all_step [7] (by kernel_rfl) (by decide) (all1 ⟨_, rfl, ?_⟩)
            have k2 := X2.cell
            have e2 := X2.frozen
            go_wp2
            refine all_end (by kernel_rfl) ?_
            exact HQ.out o1 o2 b1 b2 _ (R5.mk' O1 O2 X1 X2 ⟨by omega, by omega, by omega, by omega⟩ ⟨by omega, by omega, by omega, by omega, by omega, by omega⟩ G)
        · skip
          go_wp2
          have X2 := Boxed.new T4 32 (.slice none 0 0)
          have l5 := X2.lt
          have hg : Gr T4 (T4.alloc (.cells #[.slice none 0 0] 32)) := below_new _ _
          have s5 := G.size
          replace O2 := own_below O2 hg
          replace G := Gr.trans G hg
          clear hg
          generalize T4.alloc (.cells #[.slice none 0 0] 32) = T5 at *
          generalize T4.heap.size = b2 at *
          refine all_step [1, 4] (by kernel_rfl) (by decide) (allC ⟨_, rfl, ?_⟩ (all1 ⟨_, rfl, ?_⟩))
          · skip
            go_wp2
            have O1 := own_nils T5 w.heap.size d 41 (by have := G.size; omega) (by omega)
            have l6 := (own_outs O1).1
            have hg : Gr T5 (T5.alloc (.cells (nilsM d) 41)) := below_new _ _
            have s6 := G.size
            replace O2 := own_below O2 hg
            replace X2 := boxed_below X2 hg
            replace G := Gr.trans G hg
            clear hg
            generalize T5.alloc (.cells (nilsM d) 41) = T6 at *
            generalize T5.heap.size = o1 at *
            refine all_step [4] (by kernel_rfl) (by decide) (all1 ⟨_, rfl, ?_⟩)
            go_wp2
            have X1 := Boxed.new T6 22 (.slice none 0 0)
            have l7 := X1.lt
            have hg : Gr T6 (T6.alloc (.cells #[.slice none 0 0] 22)) := below_new _ _
            have s7 := G.size
            replace O2 := own_below O2 hg
            replace X2 := boxed_below X2 hg
            replace O1 := own_below O1 hg
            replace G := Gr.trans G hg
            clear hg
            generalize T6.alloc (.cells #[.slice none 0 0] 22) = T7 at *
            generalize T6.heap.size = b1 at *
            refine all_step [6] (by kernel_rfl) (by decide) (all1 ⟨_, rfl, ?_⟩)
            have k1 := X1.cell
            have e1 := X1.frozen
            go_wp2
            clear k1 e1
            have q12 : b1 ≠ b2 := by omega
            obtain ⟨Y1, Y2⟩ := R5.mid (s := .slice (some ⟨o1, 0, none⟩) d d) X1 X2 q12
            replace O1 := own_off1 O1 (b := b1) (by omega) (.slice (some ⟨o1, 0, none⟩) d d)
            replace O2 := own_off1 O2 (b := b1) (by omega) (.slice (some ⟨o1, 0, none⟩) d d)
            replace G : Gr W6 (T7.setCell ⟨b1, 0, none⟩ (.slice (some ⟨o1, 0, none⟩) d d)) := Below.setCell (p := ⟨b1, 0, none⟩) G (by show W6.heap.size ≤ b1; omega) _
            have hz : (T7.setCell ⟨b1, 0, none⟩ (.slice (some ⟨o1, 0, none⟩) d d)).heap.size = T7.heap.size := by simp
            clear X1 X2 q12
            generalize T7.setCell ⟨b1, 0, none⟩ (.slice (some ⟨o1, 0, none⟩) d d) = T8 at *
            rw [← hz] at l7
            clear hz
            have X1 := Y1
            have X2 := Y2
            clear Y1 Y2
            refine all_step [7] (by kernel_rfl) (by decide) (all1 ⟨_, rfl, ?_⟩)
            have k2 := X2.cell
            have e2 := X2.frozen
            go_wp2
            refine all_end (by kernel_rfl) ?_
            exact HQ.out o1 o2 b1 b2 _ (R5.mk' O1 O2 X1 X2 ⟨by omega, by omega, by omega, by omega⟩ ⟨by omega, by omega, by omega, by omega, by omega, by omega⟩ G)
          · skip
            go_wp2
            have X1 := Boxed.new T5 22 (.slice none 0 0)
            have l6 := X1.lt
            have hg : Gr T5 (T5.alloc (.cells #[.slice none 0 0] 22)) := below_new _ _
            have s6 := G.size
            replace O2 := own_below O2 hg
            replace X2 := boxed_below X2 hg
            replace G := Gr.trans G hg
            clear hg
            generalize T5.alloc (.cells #[.slice none 0 0] 22) = T6 at *
            generalize T5.heap.size = b1 at *
            refine all_step [1] (by kernel_rfl) (by decide) (all1 ⟨_, rfl, ?_⟩)
            go_wp2
            have O1 := own_nils T6 w.heap.size d 41 (by have := G.size; omega) (by omega)
            have l7 := (own_outs O1).1
            have hg : Gr T6 (T6.alloc (.cells (nilsM d) 41)) := below_new _ _
            have s7 := G.size
            replace O2 := own_below O2 hg
            replace X2 := boxed_below X2 hg
            replace X1 := boxed_below X1 hg
            replace G := Gr.trans G hg
            clear hg
            generalize T6.alloc (.cells (nilsM d) 41) = T7 at *
            generalize T6.heap.size = o1 at *
            refine all_step [6] (by kernel_rfl) (by decide) (all1 ⟨_, rfl, ?_⟩)
            have k1 := X1.cell
            have e1 := X1.frozen
            go_wp2
            clear k1 e1
            have q12 : b1 ≠ b2 := by omega
            obtain ⟨Y1, Y2⟩ := R5.mid (s := .slice (some ⟨o1, 0, none⟩) d d) X1 X2 q12
            replace O1 := own_off1 O1 (b := b1) (by omega) (.slice (some ⟨o1, 0, none⟩) d d)
            replace O2 := own_off1 O2 (b := b1) (by omega) (.slice (some ⟨o1, 0, none⟩) d d)
            replace G : Gr W6 (T7.setCell ⟨b1, 0, none⟩ (.slice (some ⟨o1, 0, none⟩) d d)) := Below.setCell (p := ⟨b1, 0, none⟩) G (by show W6.heap.size ≤ b1; omega) _
            have hz : (T7.setCell ⟨b1, 0, none⟩ (.slice (some ⟨o1, 0, none⟩) d d)).heap.size = T7.heap.size := by simp
            clear X1 X2 q12
            generalize T7.setCell ⟨b1, 0, none⟩ (.slice (some ⟨o1, 0, none⟩) d d) = T8 at *
            rw [← hz] at l7
            clear hz
            have X1 := Y1
            have X2 := Y2
            clear Y1 Y2
            refine all_step [7] (by kernel_rfl) (by decide) (all1 ⟨_, rfl, ?_⟩)
            have k2 := X2.cell
            have e2 := X2.frozen
            go_wp2
            refine all_end (by kernel_rfl) ?_
            exact HQ.out o1 o2 b1 b2 _ (R5.mk' O1 O2 X1 X2 ⟨by omega, by omega, by omega, by omega⟩ ⟨by omega, by omega, by omega, by omega, by omega, by omega⟩ G)
      · skip
        go_wp2
        have X1 := Boxed.new T3 22 (.slice none 0 0)
        have l4 := X1.lt
        have hg : Gr T3 (T3.alloc (.cells #[.slice none 0 0] 22)) := below_new _ _
        have s4 := G.size
        replace G := Gr.trans G hg
        clear hg
        generalize T3.alloc (.cells #[.slice none 0 0] 22) = T4 at *
        generalize T3.heap.size = b1 at *
        refine all_step [1, 3, 5] (by kernel_rfl) (by decide) (allC ⟨_, rfl, ?_⟩ (allC ⟨_, rfl, ?_⟩ (all1 ⟨_, rfl, ?_⟩)))
        · skip
          go_wp2
          have O1 := own_nils T4 w.heap.size d 41 (by have := G.size; omega) (by omega)
          have l5 := (own_outs O1).1
          have hg : Gr T4 (T4.alloc (.cells (nilsM d) 41)) := below_new _ _
          have s5 := G.size
          replace X1 := boxed_below X1 hg
          replace G := Gr.trans G hg
          clear hg
          generalize T4.alloc (.cells (nilsM d) 41) = T5 at *
          generalize T4.heap.size = o1 at *
          refine all_step [3, 5] (by kernel_rfl) (by decide) (allC ⟨_, rfl, ?_⟩ (all1 ⟨_, rfl, ?_⟩))
          · skip
            go_wp2
            have O2 := own_nils T5 w.heap.size d 40 (by have := G.size; omega) (by omega)
            have l6 := (own_outs O2).1
            have hg : Gr T5 (T5.alloc (.cells (nilsM d) 40)) := below_new _ _
            have s6 := G.size
            replace X1 := boxed_below X1 hg
            replace O1 := own_below O1 hg
            replace G := Gr.trans G hg
            clear hg
            generalize T5.alloc (.cells (nilsM d) 40) = T6 at *
            generalize T5.heap.size = o2 at *
            refine all_step [5] (by kernel_rfl) (by decide) (all1 ⟨_, rfl, ?_⟩)
            go_wp2
            have X2 := Boxed.new T6 32 (.slice none 0 0)
            have l7 := X2.lt
            have hg : Gr T6 (T6.alloc (.cells #[.slice none 0 0] 32)) := below_new _ _
            have s7 := G.size
            replace X1 := boxed_below X1 hg
            replace O1 := own_below O1 hg
            replace O2 := own_below O2 hg
            replace G := Gr.trans G hg
            clear hg
            generalize T6.alloc (.cells #[.slice none 0 0] 32) = T7 at *
            generalize T6.heap.size = b2 at *
            refine all_step [6] (by kernel_rfl) (by decide) (all1 ⟨_, rfl, ?_⟩)
            have k1 := X1.cell
            have e1 := X1.frozen
            go_wp2
            clear k1 e1
            have q12 : b1 ≠ b2 := by omega
            obtain ⟨Y1, Y2⟩ := R5.mid (s := .slice (some ⟨o1, 0, none⟩) d d) X1 X2 q12
            replace O1 := own_off1 O1 (b := b1) (by omega) (.slice (some ⟨o1, 0, none⟩) d d)
            replace O2 := own_off1 O2 (b := b1) (by omega) (.slice (some ⟨o1, 0, none⟩) d d)
            replace G : Gr W6 (T7.setCell ⟨b1, 0, none⟩ (.slice (some ⟨o1, 0, none⟩) d d)) := Below.setCell (p := ⟨b1, 0, none⟩) G (by show W6.heap.size ≤ b1; omega) _
            have hz : (T7.setCell ⟨b1, 0, none⟩ (.slice (some ⟨o1, 0, none⟩) d d)).heap.size = T7.heap.size := by simp
            clear X1 X2 q12
            generalize T7.setCell ⟨b1, 0, none⟩ (.slice (some ⟨o1, 0, none⟩) d d) = T8 at *
            rw [← hz] at l7
            clear hz
            have X1 := Y1
            have X2 := Y2
            clear Y1 Y2
            refine all_step [7] (by kernel_rfl) (by decide) (all1 ⟨_, rfl, ?_⟩)
            have k2 := X2.cell
            have e2 := X2.frozen
            go_wp2
            refine all_end (by kernel_rfl) ?_
            exact HQ.out o1 o2 b1 b2 _ (R5.mk' O1 O2 X1 X2 ⟨by omega, by omega, by omega, by omega⟩ ⟨by omega, by omega, by omega, by omega, by omega, by omega⟩ G)
          · skip
            go_wp2
            have X2 := Boxed.new T5 32 (.slice none 0 0)
            have l6 := X2.lt
            have hg : Gr T5 (T5.alloc (.cells #[.slice none 0 0] 32)) := below_new _ _
            have s6 := G.size
            replace X1 := boxed_below X1 hg
            replace O1 := own_below O1 hg
            replace G := Gr.trans G hg
            clear hg
            generalize T5.alloc (.cells #[.slice none 0 0] 32) = T6 at *
            generalize T5.heap.size = b2 at *
            refine all_step [3, 6] (by kernel_rfl) (by decide) (allC ⟨_, rfl, ?_⟩ (all1 ⟨_, rfl, ?_⟩))
            · skip
              go_wp2
              have O2 := own_nils T6 w.heap.size d 40 (by have := G.size; omega) (by omega)
              have l7 := (own_outs O2).1
              have hg : Gr T6 (T6.alloc (.cells (nilsM d) 40)) := below_new _ _
              have s7 := G.size
              replace X1 := boxed_below X1 hg
              replace O1 := own_below O1 hg
              replace X2 := boxed_below X2 hg
              replace G := Gr.trans G hg
              clear hg
              generalize T6.alloc (.cells (nilsM d) 40) = T7 at *
              generalize T6.heap.size = o2 at *
              refine all_step [6] (by kernel_rfl) (by decide) (all1 ⟨_, rfl, ?_⟩)
              have k1 := X1.cell
              have e1 := X1.frozen
              go_wp2
              clear k1 e1
              have q12 : b1 ≠ b2 := by omega
              obtain ⟨Y1, Y2⟩ := R5.mid (s := .slice (some ⟨o1, 0, none⟩) d d) X1 X2 q12
              replace O1 := own_off1 O1 (b := b1) (by omega) (.slice (some ⟨o1, 0, none⟩) d d)
              replace O2 := own_off1 O2 (b := b1) (by omega) (.slice (some ⟨o1, 0, none⟩) d d)
              replace G : Gr W6 (T7.setCell ⟨b1, 0, none⟩ (.slice (some ⟨o1, 0, none⟩) d d)) := Below.setCell (p := ⟨b1, 0, none⟩) G (by show W6.heap.size ≤ b1; omega) _
              have hz : (T7.setCell ⟨b1, 0, none⟩ (.slice (some ⟨o1, 0, none⟩) d d)).heap.size = T7.heap.size := by simp
              clear X1 X2 q12
              generalize T7.setCell ⟨b1, 0, none⟩ (.slice (some ⟨o1, 0, none⟩) d d) = T8 at *
              rw [← hz] at l7
              clear hz
              have X1 := Y1
              have X2 := Y2
              clear Y1 Y2
              refine all_step [7] (by kernel_rfl) (by decide) (all1 ⟨_, rfl, ?_⟩)
              have k2 := X2.cell
              have e2 := X2.frozen
              go_wp2
              refine all_end (by kernel_rfl) ?_
              exact HQ.out o1 o2 b1 b2 _ (R5.mk' O1 O2 X1 X2 ⟨by omega, by omega, by omega, by omega⟩ ⟨by omega, by omega, by omega, by omega, by omega, by omega⟩ G)
            · skip
              have k1 := X1.cell
              have e1 := X1.frozen
              go_wp2
              clear k1 e1
              have q12 : b1 ≠ b2 := by omega
              obtain ⟨Y1, Y2⟩ := R5.mid (s := .slice (some ⟨o1, 0, none⟩) d d) X1 X2 q12
              replace O1 := own_off1 O1 (b := b1) (by omega) (.slice (some ⟨o1, 0, none⟩) d d)
              replace G : Gr W6 (T6.setCell ⟨b1, 0, none⟩ (.slice (some ⟨o1, 0, none⟩) d d)) := Below.setCell (p := ⟨b1, 0, none⟩) G (by show W6.heap.size ≤ b1; omega) _
              have hz : (T6.setCell ⟨b1, 0, none⟩ (.slice (some ⟨o1, 0, none⟩) d d)).heap.size = T6.heap.size := by simp
              clear X1 X2 q12
              generalize T6.setCell ⟨b1, 0, none⟩ (.slice (some ⟨o1, 0, none⟩) d d) = T7 at *
              rw [← hz] at l6
              clear hz
              have X1 := Y1
              have X2 := Y2
              clear Y1 Y2
              refine all_step [3] (by kernel_rfl) (by decide) (all1 ⟨_, rfl, ?_⟩)
              go_wp2
              have O2 := own_nils T7 w.heap.size d 40 (by have := G.size; omega) (by omega)
              have l8 := (own_outs O2).1
              have hg : Gr T7 (T7.alloc (.cells (nilsM d) 40)) := below_new _ _
              have s8 := G.size
              replace X1 := boxed_below X1 hg
              replace O1 := own_below O1 hg
              replace X2 := boxed_below X2 hg
              replace G := Gr.trans G hg
              clear hg
              generalize T7.alloc (.cells (nilsM d) 40) = T8 at *
              generalize T7.heap.size = o2 at *
              refine all_step [7] (by kernel_rfl) (by decide) (all1 ⟨_, rfl, ?_⟩)
              have k2 := X2.cell
              have e2 := X2.frozen
              go_wp2
              refine all_end (by kernel_rfl) ?_
              exact HQ.out o1 o2 b1 b2 _ (R5.mk' O1 O2 X1 X2 ⟨by omega, by omega, by omega, by omega⟩ ⟨by omega, by omega, by omega, by omega, by omega, by omega⟩ G)
        · skip
          go_wp2
          have O2 := own_nils T4 w.heap.size d 40 (by have := G.size; omega) (by omega)
          have l5 := (own_outs O2).1
          have hg : Gr T4 (T4.alloc (.cells (nilsM d) 40)) := below_new _ _
          have s5 := G.size
          replace X1 := boxed_below X1 hg
          replace G := Gr.trans G hg
          clear hg
          generalize T4.alloc (.cells (nilsM d) 40) = T5 at *
          generalize T4.heap.size = o2 at *
          refine all_step [1, 5] (by kernel_rfl) (by decide) (allC ⟨_, rfl, ?_⟩ (all1 ⟨_, rfl, ?_⟩))
          · skip
            go_wp2
            have O1 := own_nils T5 w.heap.size d 41 (by have := G.size; omega) (by omega)
            have l6 := (own_outs O1).1
            have hg : Gr T5 (T5.alloc (.cells (nilsM d) 41)) := below_new _ _
            have s6 := G.size
            replace X1 := boxed_below X1 hg
            replace O2 := own_below O2 hg
            replace G := Gr.trans G hg
            clear hg
            generalize T5.alloc (.cells (nilsM d) 41) = T6 at *
            generalize T5.heap.size = o1 at *
            refine all_step [5] (by kernel_rfl) (by decide) (all1 ⟨_, rfl, ?_⟩)
            go_wp2
            have X2 := Boxed.new T6 32 (.slice none 0 0)
            have l7 := X2.lt
            have hg : Gr T6 (T6.alloc (.cells #[.slice none 0 0] 32)) := below_new _ _
            have s7 := G.size
            replace X1 := boxed_below X1 hg
            replace O2 := own_below O2 hg
            replace O1 := own_below O1 hg
            replace G := Gr.trans G hg
            clear hg
            generalize T6.alloc (.cells #[.slice none 0 0] 32) = T7 at *
            generalize T6.heap.size = b2 at *
            refine all_step [6] (by kernel_rfl) (by decide) (all1 ⟨_, rfl, ?_⟩)
            have k1 := X1.cell
            have e1 := X1.frozen
            go_wp2
            clear k1 e1
            have q12 : b1 ≠ b2 := by omega
            obtain ⟨Y1, Y2⟩ := R5.mid (s := .slice (some ⟨o1, 0, none⟩) d d) X1 X2 q12
            replace O1 := own_off1 O1 (b := b1) (by omega) (.slice (some ⟨o1, 0, none⟩) d d)
            replace O2 := own_off1 O2 (b := b1) (by omega) (.slice (some ⟨o1, 0, none⟩) d d)
            replace G : Gr W6 (T7.setCell ⟨b1, 0, none⟩ (.slice (some ⟨o1, 0, none⟩) d d)) := Below.setCell (p := ⟨b1, 0, none⟩) G (by show W6.heap.size ≤ b1; omega) _
            have hz : (T7.setCell ⟨b1, 0, none⟩ (.slice (some ⟨o1, 0, none⟩) d d)).heap.size = T7.heap.size := by simp
            clear X1 X2 q12
            generalize T7.setCell ⟨b1, 0, none⟩ (.slice (some ⟨o1, 0, none⟩) d d) = T8 at *
            rw [← hz] at l7
            clear hz
            have X1 := Y1
            have X2 := Y2
            clear Y1 Y2
            refine all_step [7] (by kernel_rfl) (by decide) (all1 ⟨_, rfl, ?_⟩)
            have k2 := X2.cell
            have e2 := X2.frozen
            go_wp2
            refine all_end (by kernel_rfl) ?_
            exact HQ.out o1 o2 b1 b2 _ (R5.mk' O1 O2 X1 X2 ⟨by omega, by omega, by omega, by omega⟩ ⟨by omega, by omega, by omega, by omega, by omega, by omega⟩ G)
          · skip
            go_wp2
            have X2 := Boxed.new T5 32 (.slice none 0 0)
            have l6 := X2.lt
            have hg : Gr T5 (T5.alloc (.cells #[.slice none 0 0] 32)) := below_new _ _
            have s6 := G.size
            replace X1 := boxed_below X1 hg
            replace O2 := own_below O2 hg
            replace G := Gr.trans G hg
            clear hg
            generalize T5.alloc (.cells #[.slice none 0 0] 32) = T6 at *
            generalize T5.heap.size = b2 at *
            refine all_step [1] (by kernel_rfl) (by decide) (all1 ⟨_, rfl, ?_⟩)
            go_wp2
            have O1 := own_nils T6 w.heap.size d 41 (by have := G.size; omega) (by omega)
            have l7 := (own_outs O1).1
            have hg : Gr T6 (T6.alloc (.cells (nilsM d) 41)) := below_new _ _
            have s7 := G.size
            replace X1 := boxed_below X1 hg
            replace O2 := own_below O2 hg
            replace X2 := boxed_below X2 hg
            replace G := Gr.trans G hg
            clear hg
            generalize T6.alloc (.cells (nilsM d) 41) = T7 at *
            generalize T6.heap.size = o1 at *
            refine all_step [6] (by kernel_rfl) (by decide) (all1 ⟨_, rfl, ?_⟩)
            have k1 := X1.cell
            have e1 := X1.frozen
            go_wp2
            clear k1 e1
            have q12 : b1 ≠ b2 := by omega
            obtain ⟨Y1, Y2⟩ := R5.mid (s := .slice (some ⟨o1, 0, none⟩) d d) X1 X2 q12
            replace O1 := own_off1 O1 (b := b1) (by omega) (.slice (some ⟨o1, 0, none⟩) d d)
            replace O2 := own_off1 O2 (b := b1) (by omega) (.slice (some ⟨o1, 0, none⟩) d d)
            replace G : Gr W6 (T7.setCell ⟨b1, 0, none⟩ (.slice (some ⟨o1, 0, none⟩) d d)) := Below.setCell (p := ⟨b1, 0, none⟩) G (by show W6.heap.size ≤ b1; omega) _
            have hz : (T7.setCell ⟨b1, 0, none⟩ (.slice (some ⟨o1, 0, none⟩) d d)).heap.size = T7.heap.size := by simp
            clear X1 X2 q12
            generalize T7.setCell ⟨b1, 0, none⟩ (.slice (some ⟨o1, 0, none⟩) d d) = T8 at *
            rw [← hz] at l7
            clear hz
            have X1 := Y1
            have X2 := Y2
            clear Y1 Y2
            refine all_step [7] (by kernel_rfl) (by decide) (all1 ⟨_, rfl, ?_⟩)
            have k2 := X2.cell
            have e2 := X2.frozen
            go_wp2
            refine all_end (by kernel_rfl) ?_
            exact HQ.out o1 o2 b1 b2 _ (R5.mk' O1 O2 X1 X2 ⟨by omega, by omega, by omega, by omega⟩ ⟨by omega, by omega, by omega, by omega, by omega, by omega⟩ G)
        · skip
          go_wp2
          have X2 := Boxed.new T4 32 (.slice none 0 0)
          have l5 := X2.lt
          have hg : Gr T4 (T4.alloc (.cells #[.slice none 0 0] 32)) := below_new _ _
          have s5 := G.size
          replace X1 := boxed_below X1 hg
          replace G := Gr.trans G hg
          clear hg
          generalize T4.alloc (.cells #[.slice none 0 0] 32) = T5 at *
          generalize T4.heap.size = b2 at *
          refine all_step [1, 3] (by kernel_rfl) (by decide) (allC ⟨_, rfl, ?_⟩ (all1 ⟨_, rfl, ?_⟩))
          · skip
            go_wp2
            have O1 := own_nils T5 w.heap.size d 41 (by have := G.size; omega) (by omega)
            have l6 := (own_outs O1).1
            have hg : Gr T5 (T5.alloc (.cells (nilsM d) 41)) := below_new _ _
            have s6 := G.size
            replace X1 := boxed_below X1 hg
            replace X2 := boxed_below X2 hg
            replace G := Gr.trans G hg
            clear hg
            generalize T5.alloc (.cells (nilsM d) 41) = T6 at *
            generalize T5.heap.size = o1 at *
            refine all_step [3, 6] (by kernel_rfl) (by decide) (allC ⟨_, rfl, ?_⟩ (all1 ⟨_, rfl, ?_⟩))
            · skip
              go_wp2
              have O2 := own_nils T6 w.heap.size d 40 (by have := G.size; omega) (by omega)
              have l7 := (own_outs O2).1
              have hg : Gr T6 (T6.alloc (.cells (nilsM d) 40)) := below_new _ _
              have s7 := G.size
              replace X1 := boxed_below X1 hg
              replace X2 := boxed_below X2 hg
              replace O1 := own_below O1 hg
              replace G := Gr.trans G hg
              clear hg
              generalize T6.alloc (.cells (nilsM d) 40) = T7 at *
              generalize T6.heap.size = o2 at *
              refine all_step [6] (by kernel_rfl) (by decide) (all1 ⟨_, rfl, ?_⟩)
              have k1 := X1.cell
              have e1 := X1.frozen
              go_wp2
              clear k1 e1
              have q12 : b1 ≠ b2 := by omega
              obtain ⟨Y1, Y2⟩ := R5.mid (s := .slice (some ⟨o1, 0, none⟩) d d) X1 X2 q12
              replace O1 := own_off1 O1 (b := b1) (by omega) (.slice (some ⟨o1, 0, none⟩) d d)
              replace O2 := own_off1 O2 (b := b1) (by omega) (.slice (some ⟨o1, 0, none⟩) d d)
              replace G : Gr W6 (T7.setCell ⟨b1, 0, none⟩ (.slice (some ⟨o1, 0, none⟩) d d)) := Below.setCell (p := ⟨b1, 0, none⟩) G (by show W6.heap.size ≤ b1; omega) _
              have hz : (T7.setCell ⟨b1, 0, none⟩ (.slice (some ⟨o1, 0, none⟩) d d)).heap.size = T7.heap.size := by simp
              clear X1 X2 q12
              generalize T7.setCell ⟨b1, 0, none⟩ (.slice (some ⟨o1, 0, none⟩) d d) = T8 at *
              rw [← hz] at l7
              clear hz
              have X1 := Y1
              have X2 := Y2
              clear Y1 Y2
              refine all_step [7] (by kernel_rfl) (by decide) (all1 ⟨_, rfl, ?_⟩)
              have k2 := X2.cell
              have e2 := X2.frozen
              go_wp2
              refine all_end (by kernel_rfl) ?_
              exact HQ.out o1 o2 b1 b2 _ (R5.mk' O1 O2 X1 X2 ⟨by omega, by omega, by omega, by omega⟩ ⟨by omega, by omega, by omega, by omega, by omega, by omega⟩ G)
            · skip
              have k1 := X1.cell
              have e1 := X1.frozen
              go_wp2
              clear k1 e1
              have q12 : b1 ≠ b2 := by omega
              obtain ⟨Y1, Y2⟩ := R5.mid (s := .slice (some ⟨o1, 0, none⟩) d d) X1 X2 q12
              replace O1 := own_off1 O1 (b := b1) (by omega) (.slice (some ⟨o1, 0, none⟩) d d)
              replace G : Gr W6 (T6.setCell ⟨b1, 0, none⟩ (.slice (some ⟨o1, 0, none⟩) d d)) := Below.setCell (p := ⟨b1, 0, none⟩) G (by show W6.heap.size ≤ b1; omega) _
              have hz : (T6.setCell ⟨b1, 0, none⟩ (.slice (some ⟨o1, 0, none⟩) d d)).heap.size = T6.heap.size := by simp
              clear X1 X2 q12
              generalize T6.setCell ⟨b1, 0, none⟩ (.slice (some ⟨o1, 0, none⟩) d d) = T7 at *
              rw [← hz] at l6
              clear hz
              have X1 := Y1
              have X2 := Y2
              clear Y1 Y2
              refine all_step [3] (by kernel_rfl) (by decide) (all1 ⟨_, rfl, ?_⟩)
              go_wp2
              have O2 := own_nils T7 w.heap.size d 40 (by have := G.size; omega) (by omega)
              have l8 := (own_outs O2).1
              have hg : Gr T7 (T7.alloc (.cells (nilsM d) 40)) := below_new _ _
              have s8 := G.size
              replace X1 := boxed_below X1 hg
              replace X2 := boxed_below X2 hg
              replace O1 := own_below O1 hg
              replace G := Gr.trans G hg
              clear hg
              generalize T7.alloc (.cells (nilsM d) 40) = T8 at *
              generalize T7.heap.size = o2 at *
              refine all_step [7] (by kernel_rfl) (by decide) (all1 ⟨_, rfl, ?_⟩)
              have k2 := X2.cell
              have e2 := X2.frozen
              go_wp2
              refine all_end (by kernel_rfl) ?_
              exact HQ.out o1 o2 b1 b2 _ (R5.mk' O1 O2 X1 X2 ⟨by omega, by omega, by omega, by omega⟩ ⟨by omega, by omega, by omega, by omega, by omega, by omega⟩ G)
          · skip
            go_wp2
            have O2 := own_nils T5 w.heap.size d 40 (by have := G.size; omega) (by omega)
            have l6 := (own_outs O2).1
            have hg : Gr T5 (T5.alloc (.cells (nilsM d) 40)) := below_new _ _
            have s6 := G.size
            replace X1 := boxed_below X1 hg
            replace X2 := boxed_below X2 hg
            replace G := Gr.trans G hg
            clear hg
            generalize T5.alloc (.cells (nilsM d) 40) = T6 at *
            generalize T5.heap.size = o2 at *
            refine all_step [1] (by kernel_rfl) (by decide) (all1 ⟨_, rfl, ?_⟩)
            go_wp2
            have O1 := own_nils T6 w.heap.size d 41 (by have := G.size; omega) (by omega)
            have l7 := (own_outs O1).1
            have hg : Gr T6 (T6.alloc (.cells (nilsM d) 41)) := below_new _ _
            have s7 := G.size
            replace X1 := boxed_below X1 hg
            replace X2 := boxed_below X2 hg
            replace O2 := own_below O2 hg
            replace G := Gr.trans G hg
            clear hg
            generalize T6.alloc (.cells (nilsM d) 41) = T7 at *
            generalize T6.heap.size = o1 at *
            refine all_step [6] (by kernel_rfl) (by decide) (all1 ⟨_, rfl, ?_⟩)
            have k1 := X1.cell
            have e1 := X1.frozen
            go_wp2
            clear k1 e1
            have q12 : b1 ≠ b2 := by omega
            obtain ⟨Y1, Y2⟩ := R5.mid (s := .slice (some ⟨o1, 0, none⟩) d d) X1 X2 q12
            replace O1 := own_off1 O1 (b := b1) (by omega) (.slice (some ⟨o1, 0, none⟩) d d)
            replace O2 := own_off1 O2 (b := b1) (by omega) (.slice (some ⟨o1, 0, none⟩) d d)
            replace G : Gr W6 (T7.setCell ⟨b1, 0, none⟩ (.slice (some ⟨o1, 0, none⟩) d d)) := Below.setCell (p := ⟨b1, 0, none⟩) G (by show W6.heap.size ≤ b1; omega) _
            have hz : (T7.setCell ⟨b1, 0, none⟩ (.slice (some ⟨o1, 0, none⟩) d d)).heap.size = T7.heap.size := by simp
            clear X1 X2 q12
            generalize T7.setCell ⟨b1, 0, none⟩ (.slice (some ⟨o1, 0, none⟩) d d) = T8 at *
            rw [← hz] at l7
            clear hz
            have X1 := Y1
            have X2 := Y2
            clear Y1 Y2
            refine all_step [7] (by kernel_rfl) (by decide) (all1 ⟨_, rfl, ?_⟩)
            have k2 := X2.cell
            have e2 := X2.frozen
            go_wp2
            refine all_end (by kernel_rfl) ?_
            exact HQ.out o1 o2 b1 b2 _ (R5.mk' O1 O2 X1 X2 ⟨by omega, by omega, by omega, by omega⟩ ⟨by omega, by omega, by omega, by omega, by omega, by omega⟩ G)
      · skip
        go_wp2
        have X2 := Boxed.new T3 32 (.slice none 0 0)
        have l4 := X2.lt
        have hg : Gr T3 (T3.alloc (.cells #[.slice none 0 0] 32)) := below_new _ _
        have s4 := G.size
        replace G := Gr.trans G hg
        clear hg
        generalize T3.alloc (.cells #[.slice none 0 0] 32) = T4 at *
        generalize T3.heap.size = b2 at *
        refine all_step [1, 3, 4] (by kernel_rfl) (by decide) (allC ⟨_, rfl, ?_⟩ (allC ⟨_, rfl, ?_⟩ (all1 ⟨_, rfl, ?_⟩)))
        · skip
          go_wp2
          have O1 := own_nils T4 w.heap.size d 41 (by have := G.size; omega) (by omega)
          have l5 := (own_outs O1).1
          have hg : Gr T4 (T4.alloc (.cells (nilsM d) 41)) := below_new _ _
          have s5 := G.size
          replace X2 := boxed_below X2 hg
          replace G := Gr.trans G hg
          clear hg
          generalize T4.alloc (.cells (nilsM d) 41) = T5 at *
          generalize T4.heap.size = o1 at *
          refine all_step [3, 4] (by kernel_rfl) (by decide) (allC ⟨_, rfl, ?_⟩ (all1 ⟨_, rfl, ?_⟩))
          · skip
            go_wp2
            have O2 := own_nils T5 w.heap.size d 40 (by have := G.size; omega) (by omega)
            have l6 := (own_outs O2).1
            have hg : Gr T5 (T5.alloc (.cells (nilsM d) 40)) := below_new _ _
            have s6 := G.size
            replace X2 := boxed_below X2 hg
            replace O1 := own_below O1 hg
            replace G := Gr.trans G hg
            clear hg
            generalize T5.alloc (.cells (nilsM d) 40) = T6 at *
            generalize T5.heap.size = o2 at *
            refine all_step [4] (by kernel_rfl) (by decide) (all1 ⟨_, rfl, ?_⟩)
            go_wp2
            have X1 := Boxed.new T6 22 (.slice none 0 0)
            have l7 := X1.lt
            have hg : Gr T6 (T6.alloc (.cells #[.slice none 0 0] 22)) := below_new _ _
            have s7 := G.size
            replace X2 := boxed_below X2 hg
            replace O1 := own_below O1 hg
            replace O2 := own_below O2 hg
            replace G := Gr.trans G hg
            clear hg
            generalize T6.alloc (.cells #[.slice none 0 0] 22) = T7 at *
            generalize T6.heap.size = b1 at *
            refine all_step [6] (by kernel_rfl) (by decide) (all1 ⟨_, rfl, ?_⟩)
            have k1 := X1.cell
            have e1 := X1.frozen
            go_wp2
            clear k1 e1
            have q12 : b1 ≠ b2 := by omega
            obtain ⟨Y1, Y2⟩ := R5.mid (s := .slice (some ⟨o1, 0, none⟩) d d) X1 X2 q12
            replace O1 := own_off1 O1 (b := b1) (by omega) (.slice (some ⟨o1, 0, none⟩) d d)
            replace O2 := own_off1 O2 (b := b1) (by omega) (.slice (some ⟨o1, 0, none⟩) d d)
            replace G : Gr W6 (T7.setCell ⟨b1, 0, none⟩ (.slice (some ⟨o1, 0, none⟩) d d)) := Below.setCell (p := ⟨b1, 0, none⟩) G (by show W6.heap.size ≤ b1; omega) _
            have hz : (T7.setCell ⟨b1, 0, none⟩ (.slice (some ⟨o1, 0, none⟩) d d)).heap.size = T7.heap.size := by simp
            clear X1 X2 q12
            generalize T7.setCell ⟨b1, 0, none⟩ (.slice (some ⟨o1, 0, none⟩) d d) = T8 at *
            rw [← hz] at l7
            clear hz
            have X1 := Y1
            have X2 := Y2
            clear Y1 Y2
            refine all_step [7] (by kernel_rfl) (by decide) (all1 ⟨_, rfl, ?_⟩)
            have k2 := X2.cell
            have e2 := X2.frozen
            go_wp2
            refine all_end (by kernel_rfl) ?_
            exact HQ.out o1 o2 b1 b2 _ (R5.mk' O1 O2 X1 X2 ⟨by omega, by omega, by omega, by omega⟩ ⟨by omega, by omega, by omega, by omega, by omega, by omega⟩ G)
          · skip
            go_wp2
            have X1 := Boxed.new T5 22 (.slice none 0 0)
            have l6 := X1.lt
            have hg : Gr T5 (T5.alloc (.cells #[.slice none 0 0] 22)) := below_new _ _
            have s6 := G.size
            replace X2 := boxed_below X2 hg
            replace O1 := own_below O1 hg
            replace G := Gr.trans G hg
            clear hg
            generalize T5.alloc (.cells #[.slice none 0 0] 22) = T6 at *
            generalize T5.heap.size = b1 at *
            refine all_step [3, 6] (by kernel_rfl) (by decide) (allC ⟨_, rfl, ?_⟩ (all1 ⟨_, rfl, ?_⟩))
            · skip
              go_wp2
              have O2 := own_nils T6 w.heap.size d 40 (by have := G.size; omega) (by omega)
              have l7 := (own_outs O2).1
              have hg : Gr T6 (T6.alloc (.cells (nilsM d) 40)) := below_new _ _
              have s7 := G.size
              replace X2 := boxed_below X2 hg
              replace O1 := own_below O1 hg
              replace X1 := boxed_below X1 hg
              replace G := Gr.trans G hg
              clear hg
              generalize T6.alloc (.cells (nilsM d) 40) = T7 at *
              generalize T6.heap.size = o2 at *
              refine all_step [6] (by kernel_rfl) (by decide) (all1 ⟨_, rfl, ?_⟩)
              have k1 := X1.cell
              have e1 := X1.frozen
              go_wp2
              clear k1 e1
              have q12 : b1 ≠ b2 := by omega
              obtain ⟨Y1, Y2⟩ := R5.mid (s := .slice (some ⟨o1, 0, none⟩) d d) X1 X2 q12
              replace O1 := own_off1 O1 (b := b1) (by omega) (.slice (some ⟨o1, 0, none⟩) d d)
              replace O2 := own_off1 O2 (b := b1) (by omega) (.slice (some ⟨o1, 0, none⟩) d d)
              replace G : Gr W6 (T7.setCell ⟨b1, 0, none⟩ (.slice (some ⟨o1, 0, none⟩) d d)) := Below.setCell (p := ⟨b1, 0, none⟩) G (by show W6.heap.size ≤ b1; omega) _
              have hz : (T7.setCell ⟨b1, 0, none⟩ (.slice (some ⟨o1, 0, none⟩) d d)).heap.size = T7.heap.size := by simp
              clear X1 X2 q12
              generalize T7.setCell ⟨b1, 0, none⟩ (.slice (some ⟨o1, 0, none⟩) d d) = T8 at *
              rw [← hz] at l7
              clear hz
              have X1 := Y1
              have X2 := Y2
              clear Y1 Y2
              refine all_step [7] (by kernel_rfl) (by decide) (all1 ⟨_, rfl, ?_⟩)
              have k2 := X2.cell
              have e2 := X2.frozen
              go_wp2
              refine all_end (by kernel_rfl) ?_
              exact HQ.out o1 o2 b1 b2 _ (R5.mk' O1 O2 X1 X2 ⟨by omega, by omega, by omega, by omega⟩ ⟨by omega, by omega, by omega, by omega, by omega, by omega⟩ G)
            · skip
              have k1 := X1.cell
              have e1 := X1.frozen
              go_wp2
              clear k1 e1
              have q12 : b1 ≠ b2 := by omega
              obtain ⟨Y1, Y2⟩ := R5.mid (s := .slice (some ⟨o1, 0, none⟩) d d) X1 X2 q12
              replace O1 := own_off1 O1 (b := b1) (by omega) (.slice (some ⟨o1, 0, none⟩) d d)
              replace G : Gr W6 (T6.setCell ⟨b1, 0, none⟩ (.slice (some ⟨o1, 0, none⟩) d d)) := Below.setCell (p := ⟨b1, 0, none⟩) G (by show W6.heap.size ≤ b1; omega) _
              have hz : (T6.setCell ⟨b1, 0, none⟩ (.slice (some ⟨o1, 0, none⟩) d d)).heap.size = T6.heap.size := by simp
              clear X1 X2 q12
              generalize T6.setCell ⟨b1, 0, none⟩ (.slice (some ⟨o1, 0, none⟩) d d) = T7 at *
              rw [← hz] at l6
              clear hz
              have X1 := Y1
              have X2 := Y2
              clear Y1 Y2
              refine all_step [3] (by kernel_rfl) (by decide) (all1 ⟨_, rfl, ?_⟩)
              go_wp2
              have O2 := own_nils T7 w.heap.size d 40 (by have := G.size; omega) (by omega)
              have l8 := (own_outs O2).1
              have hg : Gr T7 (T7.alloc (.cells (nilsM d) 40)) := below_new _ _
              have s8 := G.size
              replace X2 := boxed_below X2 hg
              replace O1 := own_below O1 hg
              replace X1 := boxed_below X1 hg
              replace G := Gr.trans G hg
              clear hg
              generalize T7.alloc (.cells (nilsM d) 40) = T8 at *
              generalize T7.heap.size = o2 at *
              refine all_step [7] (by kernel_rfl) (by decide) (all1 ⟨_, rfl, ?_⟩)
              have k2 := X2.cell
              have e2 := X2.frozen
              go_wp2
              refine all_end (by kernel_rfl) ?_
              exact HQ.out o1 o2 b1 b2 _ (R5.mk' O1 O2 X1 X2 ⟨by omega, by omega, by omega, by omega⟩ ⟨by omega, by omega, by omega, by omega, by omega, by omega⟩ G)
        · skip
          go_wp2
          have O2 := own_nils T4 w.heap.size d 40 (by have := G.size; omega) (by omega)
          have l5 := (own_outs O2).1
          have hg : Gr T4 (T4.alloc (.cells (nilsM d) 40)) := below_new _ _
          have s5 := G.size
          replace X2 := boxed_below X2 hg
          replace G := Gr.trans G hg
          clear hg
          generalize T4.alloc (.cells (nilsM d) 40) = T5 at *
          generalize T4.heap.size = o2 at *
          refine all_step [1, 4] (by kernel_rfl) (by decide) (allC ⟨_, rfl, ?_⟩ (all1 ⟨_, rfl, ?_⟩))
          · skip
            go_wp2
            have O1 := own_nils T5 w.heap.size d 41 (by have := G.size; omega) (by omega)
            have l6 := (own_outs O1).1
            have hg : Gr T5 (T5.alloc (.cells (nilsM d) 41)) := below_new _ _
            have s6 := G.size
            replace X2 := boxed_below X2 hg
            replace O2 := own_below O2 hg
            replace G := Gr.trans G hg
            clear hg
            generalize T5.alloc (.cells (nilsM d) 41) = T6 at *
            generalize T5.heap.size = o1 at *
            refine all_step [4] (by kernel_rfl) (by decide) (all1 ⟨_, rfl, ?_⟩)
            go_wp2
            have X1 := Boxed.new T6 22 (.slice none 0 0)
            have l7 := X1.lt
            have hg : Gr T6 (T6.alloc (.cells #[.slice none 0 0] 22)) := below_new _ _
            have s7 := G.size
            replace X2 := boxed_below X2 hg
            replace O2 := own_below O2 hg
            replace O1 := own_below O1 hg
            replace G := Gr.trans G hg
            clear hg
            generalize T6.alloc (.cells #[.slice none 0 0] 22) = T7 at *
            generalize T6.heap.size = b1 at *
            refine all_step [6] (by kernel_rfl) (by decide) (all1 ⟨_, rfl, ?_⟩)
            have k1 := X1.cell
            have e1 := X1.frozen
            go_wp2
            clear k1 e1
            have q12 : b1 ≠ b2 := by omega
            obtain ⟨Y1, Y2⟩ := R5.mid (s := .slice (some ⟨o1, 0, none⟩) d d) X1 X2 q12
            replace O1 := own_off1 O1 (b := b1) (by omega) (.slice (some ⟨o1, 0, none⟩) d d)
            replace O2 := own_off1 O2 (b := b1) (by omega) (.slice (some ⟨o1, 0, none⟩) d d)
            replace G : Gr W6 (T7.setCell ⟨b1, 0, none⟩ (.slice (some ⟨o1, 0, none⟩) d d)) := Below.setCell (p := ⟨b1, 0, none⟩) G (by show W6.heap.size ≤ b1; omega) _
            have hz : (T7.setCell ⟨b1, 0, none⟩ (.slice (some ⟨o1, 0, none⟩) d d)).heap.size = T7.heap.size := by simp
            clear X1 X2 q12
            generalize T7.setCell ⟨b1, 0, none⟩ (.slice (some ⟨o1, 0, none⟩) d d) = T8 at *
            rw [← hz] at l7
            clear hz
            have X1 := Y1
            have X2 := Y2
            clear Y1 Y2
            refine all_step [7] (by kernel_rfl) (by decide) (all1 ⟨_, rfl, ?_⟩)
            have k2 := X2.cell
            have e2 := X2.frozen
            go_wp2
            refine all_end (by kernel_rfl) ?_
            exact HQ.out o1 o2 b1 b2 _ (R5.mk' O1 O2 X1 X2 ⟨by omega, by omega, by omega, by omega⟩ ⟨by omega, by omega, by omega, by omega, by omega, by omega⟩ G)
          · skip
            go_wp2
            have X1 := Boxed.new T5 22 (.slice none 0 0)
            have l6 := X1.lt
            have hg : Gr T5 (T5.alloc (.cells #[.slice none 0 0] 22)) := below_new _ _
            have s6 := G.size
            replace X2 := boxed_below X2 hg
            replace O2 := own_below O2 hg
            replace G := Gr.trans G hg
            clear hg
            generalize T5.alloc (.cells #[.slice none 0 0] 22) = T6 at *
            generalize T5.heap.size = b1 at *
            refine all_step [1] (by kernel_rfl) (by decide) (all1 ⟨_, rfl, ?_⟩)
            go_wp2
            have O1 := own_nils T6 w.heap.size d 41 (by have := G.size; omega) (by omega)
            have l7 := (own_outs O1).1
            have hg : Gr T6 (T6.alloc (.cells (nilsM d) 41)) := below_new _ _
            have s7 := G.size
            replace X2 := boxed_below X2 hg
            replace O2 := own_below O2 hg
            replace X1 := boxed_below X1 hg
            replace G := Gr.trans G hg
            clear hg
            generalize T6.alloc (.cells (nilsM d) 41) = T7 at *
            generalize T6.heap.size = o1 at *
            refine all_step [6] (by kernel_rfl) (by decide) (all1 ⟨_, rfl, ?_⟩)
            have k1 := X1.cell
            have e1 := X1.frozen
            go_wp2
            clear k1 e1
            have q12 : b1 ≠ b2 := by omega
            obtain ⟨Y1, Y2⟩ := R5.mid (s := .slice (some ⟨o1, 0, none⟩) d d) X1 X2 q12
            replace O1 := own_off1 O1 (b := b1) (by omega) (.slice (some ⟨o1, 0, none⟩) d d)
            replace O2 := own_off1 O2 (b := b1) (by omega) (.slice (some ⟨o1, 0, none⟩) d d)
            replace G : Gr W6 (T7.setCell ⟨b1, 0, none⟩ (.slice (some ⟨o1, 0, none⟩) d d)) := Below.setCell (p := ⟨b1, 0, none⟩) G (by show W6.heap.size ≤ b1; omega) _
            have hz : (T7.setCell ⟨b1, 0, none⟩ (.slice (some ⟨o1, 0, none⟩) d d)).heap.size = T7.heap.size := by simp
            clear X1 X2 q12
            generalize T7.setCell ⟨b1, 0, none⟩ (.slice (some ⟨o1, 0, none⟩) d d) = T8 at *
            rw [← hz] at l7
            clear hz
            have X1 := Y1
            have X2 := Y2
            clear Y1 Y2
            refine all_step [7] (by kernel_rfl) (by decide) (all1 ⟨_, rfl, ?_⟩)
            have k2 := X2.cell
            have e2 := X2.frozen
            go_wp2
            refine all_end (by kernel_rfl) ?_
            exact HQ.out o1 o2 b1 b2 _ (R5.mk' O1 O2 X1 X2 ⟨by omega, by omega, by omega, by omega⟩ ⟨by omega, by omega, by omega, by omega, by omega, by omega⟩ G)
        · skip
          go_wp2
          have X1 := Boxed.new T4 22 (.slice none 0 0)
          have l5 := X1.lt
          have hg : Gr T4 (T4.alloc (.cells #[.slice none 0 0] 22)) := below_new _ _
          have s5 := G.size
          replace X2 := boxed_below X2 hg
          replace G := Gr.trans G hg
          clear hg
          generalize T4.alloc (.cells #[.slice none 0 0] 22) = T5 at *
          generalize T4.heap.size = b1 at *
          refine all_step [1, 3] (by kernel_rfl) (by decide) (allC ⟨_, rfl, ?_⟩ (all1 ⟨_, rfl, ?_⟩))
          · skip
            go_wp2
            have O1 := own_nils T5 w.heap.size d 41 (by have := G.size; omega) (by omega)
            have l6 := (own_outs O1).1
            have hg : Gr T5 (T5.alloc (.cells (nilsM d) 41)) := below_new _ _
            have s6 := G.size
            replace X2 := boxed_below X2 hg
            replace X1 := boxed_below X1 hg
            replace G := Gr.trans G hg
            clear hg
            generalize T5.alloc (.cells (nilsM d) 41) = T6 at *
            generalize T5.heap.size = o1 at *
            refine all_step [3, 6] (by kernel_rfl) (by decide) (allC ⟨_, rfl, ?_⟩ (all1 ⟨_, rfl, ?_⟩))
            · skip
              go_wp2
              have O2 := own_nils T6 w.heap.size d 40 (by have := G.size; omega) (by omega)
              have l7 := (own_outs O2).1
              have hg : Gr T6 (T6.alloc (.cells (nilsM d) 40)) := below_new _ _
              have s7 := G.size
              replace X2 := boxed_below X2 hg
              replace X1 := boxed_below X1 hg
              replace O1 := own_below O1 hg
              replace G := Gr.trans G hg
              clear hg
              generalize T6.alloc (.cells (nilsM d) 40) = T7 at *
              generalize T6.heap.size = o2 at *
              refine all_step [6] (by kernel_rfl) (by decide) (all1 ⟨_, rfl, ?_⟩)
              have k1 := X1.cell
              have e1 := X1.frozen
              go_wp2
              clear k1 e1
              have q12 : b1 ≠ b2 := by omega
              obtain ⟨Y1, Y2⟩ := R5.mid (s := .slice (some ⟨o1, 0, none⟩) d d) X1 X2 q12
              replace O1 := own_off1 O1 (b := b1) (by omega) (.slice (some ⟨o1, 0, none⟩) d d)
              replace O2 := own_off1 O2 (b := b1) (by omega) (.slice (some ⟨o1, 0, none⟩) d d)
              replace G : Gr W6 (T7.setCell ⟨b1, 0, none⟩ (.slice (some ⟨o1, 0, none⟩) d d)) := Below.setCell (p := ⟨b1, 0, none⟩) G (by show W6.heap.size ≤ b1; omega) _
              have hz : (T7.setCell ⟨b1, 0, none⟩ (.slice (some ⟨o1, 0, none⟩) d d)).heap.size = T7.heap.size := by simp
              clear X1 X2 q12
              generalize T7.setCell ⟨b1, 0, none⟩ (.slice (some ⟨o1, 0, none⟩) d d) = T8 at *
              rw [← hz] at l7
              clear hz
              have X1 := Y1
              have X2 := Y2
              clear Y1 Y2
              refine all_step [7] (by kernel_rfl) (by decide) (all1 ⟨_, rfl, ?_⟩)
              have k2 := X2.cell
              have e2 := X2.frozen
              go_wp2
              refine all_end (by kernel_rfl) ?_
              exact HQ.out o1 o2 b1 b2 _ (R5.mk' O1 O2 X1 X2 ⟨by omega, by omega, by omega, by omega⟩ ⟨by omega, by omega, by omega, by omega, by omega, by omega⟩ G)
            · skip
              have k1 := X1.cell
              have e1 := X1.frozen
              go_wp2
              clear k1 e1
              have q12 : b1 ≠ b2 := by omega
              obtain ⟨Y1, Y2⟩ := R5.mid (s := .slice (some ⟨o1, 0, none⟩) d d) X1 X2 q12
              replace O1 := own_off1 O1 (b := b1) (by omega) (.slice (some ⟨o1, 0, none⟩) d d)
              replace G : Gr W6 (T6.setCell ⟨b1, 0, none⟩ (.slice (some ⟨o1, 0, none⟩) d d)) := Below.setCell (p := ⟨b1, 0, none⟩) G (by show W6.heap.size ≤ b1; omega) _
              have hz : (T6.setCell ⟨b1, 0, none⟩ (.slice (some ⟨o1, 0, none⟩) d d)).heap.size = T6.heap.size := by simp
              clear X1 X2 q12
              generalize T6.setCell ⟨b1, 0, none⟩ (.slice (some ⟨o1, 0, none⟩) d d) = T7 at *
              rw [← hz] at l6
              clear hz
              have X1 := Y1
              have X2 := Y2
              clear Y1 Y2
              refine all_step [3] (by kernel_rfl) (by decide) (all1 ⟨_, rfl, ?_⟩)
              go_wp2
              have O2 := own_nils T7 w.heap.size d 40 (by have := G.size; omega) (by omega)
              have l8 := (own_outs O2).1
              have hg : Gr T7 (T7.alloc (.cells (nilsM d) 40)) := below_new _ _
              have s8 := G.size
              replace X2 := boxed_below X2 hg
              replace X1 := boxed_below X1 hg
              replace O1 := own_below O1 hg
              replace G := Gr.trans G hg
              clear hg
              generalize T7.alloc (.cells (nilsM d) 40) = T8 at *
              generalize T7.heap.size = o2 at *
              refine all_step [7] (by kernel_rfl) (by decide) (all1 ⟨_, rfl, ?_⟩)
              have k2 := X2.cell
              have e2 := X2.frozen
              go_wp2
              refine all_end (by kernel_rfl) ?_
              exact HQ.out o1 o2 b1 b2 _ (R5.mk' O1 O2 X1 X2 ⟨by omega, by omega, by omega, by omega⟩ ⟨by omega, by omega, by omega, by omega, by omega, by omega⟩ G)
          · skip
            go_wp2
            have O2 := own_nils T5 w.heap.size d 40 (by have := G.size; omega) (by omega)
            have l6 := (own_outs O2).1
            have hg : Gr T5 (T5.alloc (.cells (nilsM d) 40)) := below_new _ _
            have s6 := G.size
            replace X2 := boxed_below X2 hg
            replace X1 := boxed_below X1 hg
            replace G := Gr.trans G hg
            clear hg
            generalize T5.alloc (.cells (nilsM d) 40) = T6 at *
            generalize T5.heap.size = o2 at *
            refine all_step [1] (by kernel_rfl) (by decide) (all1 ⟨_, rfl, ?_⟩)
            go_wp2
            have O1 := own_nils T6 w.heap.size d 41 (by have := G.size; omega) (by omega)
            have l7 := (own_outs O1).1
            have hg : Gr T6 (T6.alloc (.cells (nilsM d) 41)) := below_new _ _
            have s7 := G.size
            replace X2 := boxed_below X2 hg
            replace X1 := boxed_below X1 hg
            replace O2 := own_below O2 hg
            replace G := Gr.trans G hg
            clear hg
            generalize T6.alloc (.cells (nilsM d) 41) = T7 at *
            generalize T6.heap.size = o1 at *
            refine all_step [6] (by kernel_rfl) (by decide) (all1 ⟨_, rfl, ?_⟩)
            have k1 := X1.cell
            have e1 := X1.frozen
            go_wp2
            clear k1 e1
            have q12 : b1 ≠ b2 := by omega
            obtain ⟨Y1, Y2⟩ := R5.mid (s := .slice (some ⟨o1, 0, none⟩) d d) X1 X2 q12
            replace O1 := own_off1 O1 (b := b1) (by omega) (.slice (some ⟨o1, 0, none⟩) d d)
            replace O2 := own_off1 O2 (b := b1) (by omega) (.slice (some ⟨o1, 0, none⟩) d d)
            replace G : Gr W6 (T7.setCell ⟨b1, 0, none⟩ (.slice (some ⟨o1, 0, none⟩) d d)) := Below.setCell (p := ⟨b1, 0, none⟩) G (by show W6.heap.size ≤ b1; omega) _
            have hz : (T7.setCell ⟨b1, 0, none⟩ (.slice (some ⟨o1, 0, none⟩) d d)).heap.size = T7.heap.size := by simp
            clear X1 X2 q12
            generalize T7.setCell ⟨b1, 0, none⟩ (.slice (some ⟨o1, 0, none⟩) d d) = T8 at *
            rw [← hz] at l7
            clear hz
            have X1 := Y1
            have X2 := Y2
            clear Y1 Y2
            refine all_step [7] (by kernel_rfl) (by decide) (all1 ⟨_, rfl, ?_⟩)
            have k2 := X2.cell
            have e2 := X2.frozen
            go_wp2
            refine all_end (by kernel_rfl) ?_
            exact HQ.out o1 o2 b1 b2 _ (R5.mk' O1 O2 X1 X2 ⟨by omega, by omega, by omega, by omega⟩ ⟨by omega, by omega, by omega, by omega, by omega, by omega⟩ G)
  case h2 =>
    intro o1 o2 b1 b2 W7 hR
    have X3 := boxed_below HX3.out hR.g
    have x3 := (X3.alloc (.cells #[.func (.func 30) #[] #[.pointer (some ⟨w.heap.size, 0, none⟩), .pointer (some ⟨w.heap.size + 1, 0, none⟩)]] 59)).cell
    have B9 := Boxed.new W7 59 Value.nilFunc
    have b9 := B9.cell
    have c9 := B9.frozen
    gi_wp2_with (gi_at_call 24; refine (callsIn_wide.2 (positions_any _ _ _ _ _)).mono ?_; rintro e w' ⟨rfl, rfl⟩)
    have b10 : Below W7.heap.size W7 (((W7.alloc (.cells #[.func (.func 30) #[] #[.pointer (some ⟨w.heap.size, 0, none⟩), .pointer (some ⟨w.heap.size + 1, 0, none⟩)]] 59)).alloc (.cells #[.slice A m c] 22)).alloc (.cells #[.int .i64 n] 3)) := Bw.al (Bw.al (below_new W7 _) _) _
    have z10 : (((W7.alloc (.cells #[.func (.func 30) #[] #[.pointer (some ⟨w.heap.size, 0, none⟩), .pointer (some ⟨w.heap.size + 1, 0, none⟩)]] 59)).alloc (.cells #[.slice A m c] 22)).alloc (.cells #[.int .i64 n] 3)).heap.size = W7.heap.size + 3 := by simp
    have X9 : Boxed (((W7.alloc (.cells #[.func (.func 30) #[] #[.pointer (some ⟨w.heap.size, 0, none⟩), .pointer (some ⟨w.heap.size + 1, 0, none⟩)]] 59)).alloc (.cells #[.slice A m c] 22)).alloc (.cells #[.int .i64 n] 3)) W7.heap.size 59 (.func (.func 30) #[] #[.pointer (some ⟨w.heap.size, 0, none⟩), .pointer (some ⟨w.heap.size + 1, 0, none⟩)]) := ((Boxed.new W7 _ _).alloc _).alloc _
    have q2 : (((W7.alloc (.cells #[.func (.func 30) #[] #[.pointer (some ⟨w.heap.size, 0, none⟩), .pointer (some ⟨w.heap.size + 1, 0, none⟩)]] 59)).alloc (.cells #[.slice A m c] 22)).alloc (.cells #[.int .i64 n] 3)).cell? ⟨W7.heap.size + 1, 0, none⟩ = some (.slice A m c) := by
      have := (Boxed.new (W7.alloc (.cells #[.func (.func 30) #[] #[.pointer (some ⟨w.heap.size, 0, none⟩), .pointer (some ⟨w.heap.size + 1, 0, none⟩)]] 59)) 22 (.slice A m c)).alloc (.cells #[.int .i64 n] 3)
      rw [World.size_alloc] at this
      exact this.cell
    have q1 : (((W7.alloc (.cells #[.func (.func 30) #[] #[.pointer (some ⟨w.heap.size, 0, none⟩), .pointer (some ⟨w.heap.size + 1, 0, none⟩)]] 59)).alloc (.cells #[.slice A m c] 22)).alloc (.cells #[.int .i64 n] 3)).cell? ⟨W7.heap.size + 1 + 1, 0, none⟩ = some (.int .i64 n) := by
      have := Boxed.new ((W7.alloc (.cells #[.func (.func 30) #[] #[.pointer (some ⟨w.heap.size, 0, none⟩), .pointer (some ⟨w.heap.size + 1, 0, none⟩)]] 59)).alloc (.cells #[.slice A m c] 22)) 3 (.int .i64 n)
      rw [World.size_alloc, World.size_alloc] at this
      exact this.cell
    clear b9 c9 B9 x3 X3
    generalize ((W7.alloc (.cells #[.func (.func 30) #[] #[.pointer (some ⟨w.heap.size, 0, none⟩), .pointer (some ⟨w.heap.size + 1, 0, none⟩)]] 59)).alloc (.cells #[.slice A m c] 22)).alloc (.cells #[.int .i64 n] 3) = W10 at *
    have g10 : Below W6.heap.size W6 W10 := Bw.step hR.g b10
    obtain ⟨g1, g2, g3, g4⟩ := hR.ge
    obtain ⟨n1, n2, n3, n4, n5, n6⟩ := hR.ne
    have l1 := (own_outs hR.own1).1
    have l2 := (own_outs hR.own2).1
    have l3 := hR.c1.lt
    have l4 := hR.c2.lt
    have I0 : ResI W10 w.heap.size o1 o2 d P Z m p 0 W10 := ⟨_, _, _, _, Two.start (own_below hR.own1 b10) (own_below hR.own2 b10) n1 (by omega), by have := ResOK.start P Z m p; rw [HD.out] at this; exact this⟩
    have BX : Bxs W10 w.heap.size W7.heap.size b1 b2 o1 o2 d A B m c c' p := ⟨boxed_below HX3.out g10, boxed_below HX4.out g10, boxed_below HX5.out g10, X9, boxed_below hR.c1 b10, boxed_below hR.c2 b10⟩
    have F10 := HF8.out.below g10
    have B10 := Bw.step HB6.out g10
    have hmem : ∀ b, Bxs.mem w.heap.size W7.heap.size b1 b2 b → b < W10.heap.size ∧ b ≠ o1 ∧ b ≠ o2 := fun b hb => by
      rcases hb with rfl | rfl | rfl | rfl | rfl | rfl <;> exact ⟨by omega, by omega, by omega⟩
    have hff : w.heap.size + 1 + 1 + 1 < W10.heap.size ∧ w.heap.size + 1 + 1 + 1 ≠ o1 ∧ w.heap.size + 1 + 1 + 1 ≠ o2 := ⟨by omega, by omega, by omega⟩
    have hss : W7.heap.size ≠ o1 ∧ W7.heap.size ≠ o2 ∧ w.heap.size + 4 ≤ W7.heap.size := ⟨by omega, by omega, by omega⟩
    have HNE : Hid (b1 ≠ o1 ∧ b2 ≠ o2) := Lib.hid ⟨fun e => n2 e.symm, fun e => n5 e.symm⟩
    have HI0 := Lib.hid I0
    have HBX10 := Lib.hid BX
    have HF10 := Lib.hid F10
    have HB10 := Lib.hid B10
    have HMEM := Lib.hid hmem
    have HFF := Lib.hid hff
    have HQ1 := Lib.hid q1
    have HQ2 := Lib.hid q2
    have HLT := Lib.hid (And.intro l1 l2)
    clear hR b10 X9 q1 q2 g10 g1 g2 g3 g4 n1 n2 n3 n4 n5 n6 l1 l2 l3 l4 I0 BX F10 B10 hmem hff HM1 HM2 HX3 HX4 HX5 HF8 HB6
    generalize W7.heap.size = o at *
    generalize w1.heap.size = ff at *
    have hz10 : w.heap.size + 7 ≤ W10.heap.size := by omega
    clear z5 hw6
    have h4 : 1 ≤ k0 := by omega
    refine wpIn_each h4 (gf := 35) (lb := #[.pointer (some ⟨o + 1 + 1, 0, none⟩), .pointer (some ⟨o + 1, 0, none⟩)]) rfl (enters_of Try.func35 (by kernel_rfl) rfl)
      (pos_each (k0 - 1) (by omega) (o + 1 + 1) (o + 1) n m c _ P (by omega) hn2 w W10 HP.out HB10.out (by omega) (by omega) HQ1.out HQ2.out HL.out) KB2.trans (KB2.put (by omega) (by omega) (by omega)) (fun pre x W0 W l o o' => FPos.put pre x W0 W l o o') (fun _ => rfl)
      (fun pre W => ResI W10 w.heap.size o1 o2 d P Z m p pre.length W) (ResI.own (Nat.le_refl _)) HI0.out ?fr ?assign ?body ?done
    case assign =>
      intro l x W K hK
      gi_wp2
      exact hK
    case body =>
      intro l pre x W0 W hI0 hI hF hlen
      obtain ⟨x1, x2, x3⟩ := x
      obtain ⟨hx1, hx2, hx3, hx4⟩ := hF
      simp only at hx1 hx3
      rw [hPm] at hx3
      rw [← hx1] at hI0 hI hlen
      obtain ⟨gw, rfl⟩ := hx3.head (by omega)
      have hgw := hx3.lt
      have hBW : Bxs W w.heap.size o b1 b2 o1 o2 d A B m c c' p := by
        obtain ⟨_, _, _, _, T, _⟩ := hI
        exact HBX10.out.keep fun b hb => T.fix b (HMEM.out b hb)
      have hWB : Below w.heap.size w W := by
        obtain ⟨_, _, _, _, T, _⟩ := hI
        exact HB10.out.trans T.bl
      have hW10 : W10.heap.size ≤ W.heap.size := by
        obtain ⟨_, _, _, _, T, _⟩ := hI
        exact T.hS
      have HII := Lib.hid (And.intro hI0 (And.intro hI hx4))
      have HBW := Lib.hid hBW
      have HWB := Lib.hid hWB
      have HX := Lib.hid hx3
      have HX1 := Lib.hid hx1
      have hwl : (wordP P x1).length = m := by rw [wordP_len, hPm]
      have HWL := Lib.hid hwl
      have x3c := hBW.x3.cell
      clear hI0 hI hx4 hBW hWB hx3 hx1 hx2 hwl HI0 HBX10 HF10 HQ1 HQ2
      gi_wp2
      gi_loopw [17, 51] (fun v u wr => ∃ j : Nat, j ≤ m ∧ u = .int .i64 j ∧ OwI wr W.heap.size v (toI (erN P Z j x1)) ∧ Below W.heap.size W wr) (fun _ u _ => m - (intOf u).toNat)
      case atStart => exact ⟨0, Nat.zero_le _, rfl, OwI.nil _ _, Below.refl _ _⟩
      case round =>
        obtain ⟨j, hj, rfl, ho, hb⟩ := hrel
        have hBr := HBW.out.below hb
        have hsz := hb.size
        by_cases hlt : j < m
        · have x9c := hBr.x9.cell
          have hx3r := hBr.x3.cell
          have hx4r := hBr.x4.cell
          have hlz := HLZ.out j hlt
          have HUN := Lib.hid (unknown_any w.heap.size (w.heap.size + 1) A B m c c' j x1 P Z wr (HP.out.below (HWB.out.trans (hb.mono (by omega)))) (HZ.out.below (HWB.out.trans (hb.mono (by omega)))) hx3r hx4r hlt hlz)
          have HO := Lib.hid ho
          have HB := Lib.hid hb
          have hel : (toI (erN P Z j x1)).length ≤ 64 := by rw [toI_len]; have := erN_len P Z j x1; omega
          clear ho hb hBr hx3r hx4r hlz x3c
          by_cases hu : unkP P Z j x1
          · skip
            have HE := Lib.hid (show toI (erN P Z (j + 1) x1) = toI (erN P Z j x1) ++ [(j : Int)] by rw [erN_yes hu, toI_append]; rfl)
            have hd : decide (unkP P Z j x1) = true := decide_eq_true hu
            rw [hd] at HUN
            clear hd hu
            generalize toI (erN P Z j x1) = E at *
            gi_wp2_with (first
              | (gi_at_call 30; refine (CallsIn.inRound l (callsIn_wide.2 HUN.out)).mono ?_; rintro e w' ⟨rfl, hb2⟩)
              | (gi_at_builtin; refine wpListIn_app1I w' rfl (.tmp 58) (.tmp 60) rfl W.heap.size _ E (HO.out.below hb2) rfl (j : Int) _ rfl (by omega) (Nat.le_trans hsz hb2.size) ?_; intro v1 w1 ho1 hb3))
            go_roundw
            case rel => first | exact ⟨j + 1, by omega, by go_num, by (rw [HE.out]; exact ho1), (HB.out.trans (hb2.mono hsz)).trans hb3⟩ | ((repeat apply Exists.intro); exact ⟨⟨j + 1, by omega, by go_num, by (rw [HE.out]; exact ho1), (HB.out.trans (hb2.mono hsz)).trans hb3⟩, rfl⟩)
            case measure => simp [intOf]; omega
          · skip
            have HE := Lib.hid (show toI (erN P Z (j + 1) x1) = toI (erN P Z j x1) by rw [erN_no hu])
            have hd : decide (unkP P Z j x1) = false := decide_eq_false hu
            rw [hd] at HUN
            clear hd hu
            generalize toI (erN P Z j x1) = E at *
            gi_wp2_with (gi_at_call 30; refine (CallsIn.inRound l (callsIn_wide.2 HUN.out)).mono ?_; rintro e w' ⟨rfl, hb2⟩)
            go_roundw
            case rel => first | exact ⟨j + 1, by omega, by go_num, by (rw [HE.out]; exact HO.out.below hb2), HB.out.trans (hb2.mono hsz)⟩ | ((repeat apply Exists.intro); exact ⟨⟨j + 1, by omega, by go_num, by (rw [HE.out]; exact HO.out.below hb2), HB.out.trans (hb2.mono hsz)⟩, rfl⟩)
            case measure => simp [intOf]; omega
        · obtain rfl : m = j := by omega
          obtain ⟨A1, c1, e1⟩ := ho.form
          rw [toI_len] at e1
          subst e1
          have hRI := ho.rd.1
          have hRW := (HX.out.below hb).rd.1
          have x5c := hBr.x5.cell
          have hlt' : ∀ i ∈ erN P Z m x1, i < (wordP P x1).length := fun i hi => by rw [HWL.out]; exact (mem_erN.1 hi).1
          have HLT' := Lib.hid hlt'
          have hnem : (erN P Z m x1).length ≤ m := erN_len P Z m x1
          have HB := Lib.hid hb
          have hdec := Decode_ok (some ⟨gw, 0, none⟩) A1 m x3 c1 (erN P Z m x1).length p (wordP P x1) (toI (erN P Z m x1)) wr hRW hRI (by omega) (by omega) (by omega) (by omega)
          have HDEC := Lib.hid hdec
          have HSZ : Hid (W0.heap.size ≤ gw ∧ gw < W.heap.size ∧ W.heap.size ≤ wr.heap.size) := Lib.hid ⟨hgw.1, hgw.2, hsz⟩
          clear hRI hRW hlt hj hb hBr hlt' ho hdec x3c
          by_cases hh : hitP P Z m p x1
          · skip
            obtain ⟨cw, hcw⟩ := hh
            have HCW := Lib.hid hcw
            generalize hne : (erN P Z m x1).length = ne at *
            have HNEQ := Lib.hid hne
            clear hne
            gi_wp2_with (gi_at_call 32; refine (CallsIn.inRound l (callsIn_wide.2 HDEC.out)).mono ?_; rintro e w' hD; obtain ⟨A2, c2, rfl, ho2, hb2⟩ := hD.hit (by rw [HWL.out]; omega) HLT'.out (erN_sorted _ _ _ _) HCW.out; rw [HWL.out] at ho2 ⊢; obtain ⟨gc, rfl⟩ := ho2.head (by omega); generalize dcnt (wordP P x1) cw [] m = dd at *; have y1c := ((((HBW.out.below HB.out).below hb2).below (below_new w' (.cells #[.int .i64 0, .int .i64 0] 24))).y1).cell; have HO2 := Lib.hid ho2; have HB2 := Lib.hid hb2; clear ho2 hb2 hD)
            have hb4 : Below W.heap.size W (w'.alloc (.cells #[.int .i64 0, .int .i64 0] 24)) := Bw.al (HB.out.trans (HB2.out.mono HSZ.out.2.2)) _
            obtain ⟨hv0, hg0, L0, G0, hE0, hJ0, hnew, hold, hleave⟩ := ResI.enter HII.out.1 HII.out.2.1 HII.out.2.2 hb4
            have hWD := HX.out.below hb4
            have hCD := HO2.out.below (below_new w' (.cells #[.int .i64 0, .int .i64 0] 24))
            have hF4 := Has.new w' 0 0 24
            have hB4 := HBW.out.below hb4
            have hz4 := HB2.out.size
            have hs4 : (w'.alloc (.cells #[.int .i64 0, .int .i64 0] 24)).heap.size = w'.heap.size + 1 := by simp
            have hgc := hCD.lt
            obtain ⟨z1, z2, z3⟩ := HSZ.out
            have HGW := Lib.hid (hnew gw z1 (by omega))
            have HGC := Lib.hid (hnew gc (by omega) (by omega))
            have HGF := Lib.hid (hnew w'.heap.size (by omega) (by omega))
            have HRB : Hid (rest (w'.alloc (.cells #[.int .i64 0, .int .i64 0] 24)) o1 o2 d hv0 hg0 w.heap.size ∧ rest (w'.alloc (.cells #[.int .i64 0, .int .i64 0] 24)) o1 o2 d hv0 hg0 (w.heap.size + 1) ∧ rest (w'.alloc (.cells #[.int .i64 0, .int .i64 0] 24)) o1 o2 d hv0 hg0 (w.heap.size + 1 + 1) ∧ rest (w'.alloc (.cells #[.int .i64 0, .int .i64 0] 24)) o1 o2 d hv0 hg0 o ∧ rest (w'.alloc (.cells #[.int .i64 0, .int .i64 0] 24)) o1 o2 d hv0 hg0 b1 ∧ rest (w'.alloc (.cells #[.int .i64 0, .int .i64 0] 24)) o1 o2 d hv0 hg0 b2) := Lib.hid (by
              have key : ∀ b, Bxs.mem w.heap.size o b1 b2 b → rest (w'.alloc (.cells #[.int .i64 0, .int .i64 0] 24)) o1 o2 d hv0 hg0 b := fun b hb => by
                obtain ⟨k1, k2, k3⟩ := HMEM.out b hb
                exact (hold b k1 k2 k3).1
              exact ⟨key _ (.inl rfl), key _ (.inr (.inl rfl)), key _ (.inr (.inr (.inl rfl))), key _ (.inr (.inr (.inr (.inl rfl)))), key _ (.inr (.inr (.inr (.inr (.inl rfl))))), key _ (.inr (.inr (.inr (.inr (.inr rfl)))))⟩)
            rw [HD.out] at hleave
            have HLV := Lib.hid hleave
            have HE0 := Lib.hid hE0
            have HJ0 := Lib.hid hJ0
            have HWD := Lib.hid hWD
            have HCD := Lib.hid hCD
            have HF4 := Lib.hid hF4
            have HBX := Lib.hid hB4
            clear hb4 hE0 hJ0 hnew hold hleave hWD hCD hF4 hB4 hz4 hs4 hgc z1 z2 z3 HSZ HII HDEC x5c HX y1c
            generalize w'.alloc (.cells #[.int .i64 0, .int .i64 0] 24) = W4 at *
            generalize w'.heap.size = gf at *
            gi_loopw [73] (fun i wr => ∃ j : Nat, j ≤ d ∧ i = .int .i64 j ∧ ResJ W4 w.heap.size o1 o2 d hv0 hg0 P Z m p x1 j L0 G0 wr) (fun i _ => d - (intOf i).toNat)
            case atStart => exact ⟨0, Nat.zero_le _, rfl, HJ0.out⟩
            case round =>
              obtain ⟨j, hj, rfl, hv, hg, L, G, T, hM⟩ := hrel
              by_cases hjd : j < d
              · skip
                have hjm : j < m := by omega
                have cw1 := T.out HGW.out (HWD.out.cellAt hjm)
                have cc1 := T.out HGC.out (HCD.out.cellAt hjm)
                have cf0 := T.out HGF.out HF4.out.2.1
                have cf1 := T.out HGF.out HF4.out.2.2.1
                have HM := Lib.hid hM
                have hll : (L.getD j []).length ≤ 384 := by
                  rw [(hM.row HE0.out (by rw [HD.out]; exact hjd)).1]; omega
                have HBY : Hid (byteP P Z m p x1 j (cw.getD j 0)) := Lib.hid ⟨fun cz hcz => by
                  have hnd : (erN P Z m x1).Nodup := (erN_sorted P Z m x1).imp (fun h => Nat.ne_of_lt h)
                  rw [within_unique (by rw [HWL.out]; omega) hnd HLT'.out hcz HCW.out], fun hn => absurd ⟨cw, HCW.out⟩ hn⟩
                have HNG : Hid (¬ goneP P Z m p x1 j) := Lib.hid fun h => h.1 ⟨cw, HCW.out⟩
                clear hM
                generalize cw.getD j 0 = y at *
                generalize (wordP P x1).getD j 0 = yw at *
                have cB := (T.box HRB.out.2.2.2.2.1 HBX.out.y1).cell
                have hrow := T.cell1 hjd
                have lb := Nat.lt_of_lt_of_le (T.uV _ HRB.out.2.2.2.2.1) T.hS
                have lo := T.lt1
                have HROW := Lib.hid (T.row1 j hjd)
                have HT := Lib.hid T
                generalize hrv : hv.getD j undef = rv at hrow HROW
                have HRV := Lib.hid hrv
                clear hrv T
                gi_wp2
                (apply wpIn_region_held (fun z => b1 < z.heap.size ∧ z.cell? ⟨b1, 0, none⟩ = some (.slice (some ⟨o1, 0, none⟩) d d)) [0, 1] [2, 3, 4, 5, 6] [7] [8, 9, 10] rfl (by kernel_rfl) ?hL (by kernel_rfl); (case hd0 => kernel_rfl); (case hq0 => (intro z hz; simp only [pick, List.getElem?_cons_succ, List.getElem?_cons_zero]; (have hx0 := fun (x : Just z) => (show x.w.cell? ⟨b1, 0, none⟩ = some (.slice (some ⟨o1, 0, none⟩) d d) by rw [x.eq]; exact hz.2)); (repeat (go_big_quiet_step (fail))); refine wpQuiet_nil ?_; exact rfl)); (case hd => kernel_rfl); (case hq => (intro z hz; simp only [pick, List.getElem?_cons_succ, List.getElem?_cons_zero]; (have hx1 := fun x => cell_extz hz lb cB x; have hx3 := fun x => cell_extz hz lo hrow x); (repeat (go_big_quiet_step ((fail)))); refine wpQuiet_nil ?_; exact rfl)); (case' hc => (simp only [pick, List.getElem?_cons_succ, List.getElem?_cons_zero]; intro W5 hW5; simp only [chainJ, chainV])))
                case hL => rintro ⟨_, _, h⟩; exact h
                case hI0 => exact ⟨lb, cB⟩
                case hS =>
                  intro U V hUV hI
                  exact ⟨Nat.lt_of_lt_of_le hI.1 hUV.size, (hUV.cell (p := ⟨b1, 0, none⟩) hI.1).trans hI.2⟩
                go_wp2
                refine ⟨below_new _ _, fun W6 hW6 => ?_⟩
                have hb6 : Below wr.heap.size wr W6 := Bw.step (Bw.al hW5 _) hW6
                have T6 := HT.out.below hb6
                have hone := (RdB.one W5 y 5 1).below hW6
                have hro6 := HROW.out.below hb6
                have hBs6 : w.heap.size ≤ W6.heap.size := Nat.le_trans T6.hB T6.hS
                have hcb6 := (hb6.cell (p := ⟨b1, 0, none⟩) lb).trans cB
                have HK7 := Lib.hid (fun v1 w1 ho1 hg1 hat1 => T6.grow1 hjd HRB.out.2.2.2.2.1 hcb6 w1 v1 (L.getD j [] ++ [y]) ho1 (by rw [HRV.out]; exact hg1) (by rw [HRV.out]; exact hat1))
                rw [HRV.out] at HK7
                clear T6 hcb6 cB hrow hb6 hW5 hW6
                go_wp2_with (at_builtin; refine wpList_appB W6 rfl (.tmp 114) (.tmp 116) rfl w.heap.size rv (L.getD j []) rfl hro6 _ 1 1 [y] rfl hone (by rw [List.length_singleton]; omega) hBs6 ?_; intro v1 w1 ho1 hg1 hat1; obtain ⟨hce1, hfz1, hIv, hT7⟩ := HK7.out v1 w1 ho1 hg1 hat1; obtain ⟨A7, c7, rfl⟩ := ho1.form; generalize (L.getD j [] ++ [y]).length = n7 at *; have HT7 := Lib.hid hT7; have HIV := Lib.hid hIv; clear hat1 hg1 ho1 hT7 hIv)
                refine ⟨HIV.out, ?_⟩
                go_wp2
                refine ⟨HIV.out, ?_⟩
                go_wp2
                refine ⟨⟨HIV.out.1, (World.cell?_of_block (a := ⟨b1, 0, none⟩) (Below.heap_setCell w1 ⟨o1, j, none⟩ _ b1 HNE.out.1)).trans HIV.out.2⟩, ?_⟩
                have T8 := HT7.out
                clear HT7 HK7 hce1 hfz1 HIV hone hro6 HROW HT
                generalize w1.setCell ⟨o1, j, none⟩ (.slice A7 n7 c7) = wr8 at *
                gi_wp2
                go_roundw
                case rel => exact ⟨j + 1, by omega, by go_num, _, _, _, _, T8, HM.out.step (by rw [HD.out]; exact hjd) HBY.out HNG.out⟩
                case measure => simp [intOf]; omega
              · obtain rfl : j = d := by omega
                gi_wp2
                obtain ⟨q1, q2, q3, q4⟩ := HLV.out wr ⟨hv, hg, L, G, T, hM⟩
                refine ⟨q1, ⟨q2, q3 (o + 1 + 1) (by omega) (by have := HLT.out; omega) (by have := HLT.out; omega), q3 (o + 1) (by omega) (by have := HLT.out; omega) (by have := HLT.out; omega)⟩, ?_⟩
                show ResI W10 w.heap.size o1 o2 _ P Z m p (pre ++ [_]).length wr
                rw [List.length_append, ← HX1.out]
                exact q4
          · skip
            have HMS : Hid (∀ cz, ¬ Within p (wordP P x1) (erN P Z m x1) cz) := Lib.hid fun cz hcz => hh ⟨cz, hcz⟩
            have HH := Lib.hid hh
            have hwb : (erN P Z m x1).length ≤ 64 := by omega
            have HWP : Hid (∀ j, wipeP P Z m p x1 j ↔ (erN P Z m x1).length ≤ p ∨ unkP P Z j x1) := Lib.hid fun j => Iff.rfl
            generalize hne : (erN P Z m x1).length = ne at *
            clear hh hne
            gi_wp2_with (gi_at_call 32; refine (CallsIn.inRound l (callsIn_wide.2 HDEC.out)).mono ?_; rintro e w' hD; obtain ⟨rfl, hb2⟩ := hD.miss HLT'.out (erN_sorted _ _ _ _) HMS.out; have y1c := ((((HBW.out.below HB.out).below hb2).below (below_new w' (.cells #[.int .i64 16, .int .i64 (-1)] 24))).y1).cell; have HB2 := Lib.hid hb2; clear hb2 hD)
            have hb4 : Below W.heap.size W (w'.alloc (.cells #[.int .i64 16, .int .i64 (-1)] 24)) := Bw.al (HB.out.trans (HB2.out.mono HSZ.out.2.2)) _
            obtain ⟨hv0, hg0, L0, G0, hE0, hJ0, hnew, hold, hleave⟩ := ResI.enter HII.out.1 HII.out.2.1 HII.out.2.2 hb4
            have hWD := HX.out.below hb4
            have hF4 := Has.new w' 16 (-1) 24
            have hB4 := HBW.out.below hb4
            have hz4 := HB2.out.size
            have hs4 : (w'.alloc (.cells #[.int .i64 16, .int .i64 (-1)] 24)).heap.size = w'.heap.size + 1 := by simp
            obtain ⟨z1, z2, z3⟩ := HSZ.out
            have HGW := Lib.hid (hnew gw z1 (by omega))
            have HGF := Lib.hid (hnew w'.heap.size (by omega) (by omega))
            have HRB : Hid (rest (w'.alloc (.cells #[.int .i64 16, .int .i64 (-1)] 24)) o1 o2 d hv0 hg0 w.heap.size ∧ rest (w'.alloc (.cells #[.int .i64 16, .int .i64 (-1)] 24)) o1 o2 d hv0 hg0 (w.heap.size + 1) ∧ rest (w'.alloc (.cells #[.int .i64 16, .int .i64 (-1)] 24)) o1 o2 d hv0 hg0 (w.heap.size + 1 + 1) ∧ rest (w'.alloc (.cells #[.int .i64 16, .int .i64 (-1)] 24)) o1 o2 d hv0 hg0 o ∧ rest (w'.alloc (.cells #[.int .i64 16, .int .i64 (-1)] 24)) o1 o2 d hv0 hg0 b1 ∧ rest (w'.alloc (.cells #[.int .i64 16, .int .i64 (-1)] 24)) o1 o2 d hv0 hg0 b2) := Lib.hid (by
              have key : ∀ b, Bxs.mem w.heap.size o b1 b2 b → rest (w'.alloc (.cells #[.int .i64 16, .int .i64 (-1)] 24)) o1 o2 d hv0 hg0 b := fun b hb => by
                obtain ⟨k1, k2, k3⟩ := HMEM.out b hb
                exact (hold b k1 k2 k3).1
              exact ⟨key _ (.inl rfl), key _ (.inr (.inl rfl)), key _ (.inr (.inr (.inl rfl))), key _ (.inr (.inr (.inr (.inl rfl)))), key _ (.inr (.inr (.inr (.inr (.inl rfl))))), key _ (.inr (.inr (.inr (.inr (.inr rfl)))))⟩)
            have hWB4 := HWB.out.trans (hb4.mono (by omega))
            rw [HD.out] at hleave
            have HLV := Lib.hid hleave
            have HE0 := Lib.hid hE0
            have HJ0 := Lib.hid hJ0
            have HWD := Lib.hid hWD
            have HF4 := Lib.hid hF4
            have HBX := Lib.hid hB4
            clear hb4 hE0 hJ0 hnew hold hleave hWD hF4 hB4 hz4 hs4 z1 z2 z3 HSZ HII HDEC x5c HX y1c
            have HWB4 := Lib.hid hWB4
            clear hWB4
            generalize w'.alloc (.cells #[.int .i64 16, .int .i64 (-1)] 24) = W4 at *
            generalize w'.heap.size = gf at *
            gi_loopw [73] (fun i wr => ∃ j : Nat, j ≤ d ∧ i = .int .i64 j ∧ ResJ W4 w.heap.size o1 o2 d hv0 hg0 P Z m p x1 j L0 G0 wr) (fun i _ => d - (intOf i).toNat)
            case atStart => exact ⟨0, Nat.zero_le _, rfl, HJ0.out⟩
            case round =>
              obtain ⟨j, hj, rfl, hv, hg, L, G, T, hM⟩ := hrel
              by_cases hjd : j < d
              · have hjm : j < m := by omega
                have cw1 := T.out HGW.out (HWD.out.cellAt hjm)
                have cf0 := T.out HGF.out HF4.out.2.1
                have cf1 := T.out HGF.out HF4.out.2.2.1
                have x5r := (T.box HRB.out.2.2.1 HBX.out.x5).cell
                have hrw := hM.row HE0.out (by rw [HD.out]; exact hjd)
                have hll : (L.getD j []).length ≤ 384 := by rw [hrw.1]; omega
                have hlg : (G.getD j []).length ≤ 384 := by have := hrw.2; omega
                have HM := Lib.hid hM
                have hwj := HWP.out j
                clear hM hrw
                by_cases hq : ne ≤ p
                · skip
                  have hdq : decide (ne ≤ p) = true := decide_eq_true hq
                  have hdi : decide ((ne : Int) ≤ (p : Int)) = true := by simp only [decide_eq_true_eq]; omega
                  have HBY : Hid (byteP P Z m p x1 j 0) := Lib.hid ⟨fun cz hcz => absurd hcz (HMS.out cz), fun _ => ⟨fun _ => rfl, fun h => absurd (hwj.2 (.inl hq)) h⟩⟩
                  have HGN : Hid (goneP P Z m p x1 j) := Lib.hid ⟨HH.out, hwj.2 (.inl hq)⟩
                  clear hwj hq
                  generalize (wordP P x1).getD j 0 = yw at *
                  have cB := (T.box HRB.out.2.2.2.2.2 HBX.out.y2).cell
                  have hrow := T.cell2 hjd
                  have lb := Nat.lt_of_lt_of_le (T.uV _ HRB.out.2.2.2.2.2) T.hS
                  have lo := T.lt2
                  have HROW := Lib.hid (T.row2 j hjd)
                  have HT := Lib.hid T
                  generalize hrv : hg.getD j undef = rv at hrow HROW
                  have HRV := Lib.hid hrv
                  clear hrv T
                  gi_wp2
                  (apply wpIn_region_held (fun z => b2 < z.heap.size ∧ z.cell? ⟨b2, 0, none⟩ = some (.slice (some ⟨o2, 0, none⟩) d d)) [0, 1] [2, 3, 4, 5, 6] [7] [8, 9, 10] rfl (by kernel_rfl) ?hL (by kernel_rfl); (case hd0 => kernel_rfl); (case hq0 => (intro z hz; simp only [pick, List.getElem?_cons_succ, List.getElem?_cons_zero]; (have hx0 := fun (x : Just z) => (show x.w.cell? ⟨b2, 0, none⟩ = some (.slice (some ⟨o2, 0, none⟩) d d) by rw [x.eq]; exact hz.2)); (repeat (go_big_quiet_step (fail))); refine wpQuiet_nil ?_; exact rfl)); (case hd => kernel_rfl); (case hq => (intro z hz; simp only [pick, List.getElem?_cons_succ, List.getElem?_cons_zero]; (have hx1 := fun x => cell_extz hz lb cB x; have hx3 := fun x => cell_extz hz lo hrow x); (repeat (go_big_quiet_step ((fail)))); refine wpQuiet_nil ?_; exact rfl)); (case' hc => (simp only [pick, List.getElem?_cons_succ, List.getElem?_cons_zero]; intro W5 hW5; simp only [chainJ, chainV])))
                  case hL => rintro ⟨_, _, h⟩; exact h
                  case hI0 => exact ⟨lb, cB⟩
                  case hS =>
                    intro U V hUV hI
                    exact ⟨Nat.lt_of_lt_of_le hI.1 hUV.size, (hUV.cell (p := ⟨b2, 0, none⟩) hI.1).trans hI.2⟩
                  go_wp2
                  refine ⟨below_new _ _, fun W6 hW6 => ?_⟩
                  have hb6 : Below wr.heap.size wr W6 := Bw.step (Bw.al hW5 _) hW6
                  have T6 := HT.out.below hb6
                  have hone := (RdI.one W5 (x1 : Int) 3 1).below hW6
                  have hro6 := HROW.out.below hb6
                  have hBs6 : w.heap.size ≤ W6.heap.size := Nat.le_trans T6.hB T6.hS
                  have hcb6 := (hb6.cell (p := ⟨b2, 0, none⟩) lb).trans cB
                  have HK7 := Lib.hid (fun v1 w1 ho1 hg1 hat1 => T6.grow2 hjd HRB.out.2.2.2.2.2 hcb6 w1 v1 (G.getD j [] ++ [(x1 : Int)]) ho1 (by rw [HRV.out]; exact hg1) (by rw [HRV.out]; exact hat1))
                  rw [HRV.out] at HK7
                  clear T6 hcb6 cB hrow hb6 hW5 hW6
                  go_wp2_with (at_builtin; refine wpList_appI W6 rfl (.tmp 104) (.tmp 106) rfl w.heap.size rv (G.getD j []) rfl hro6 _ 1 1 [(x1 : Int)] rfl hone (by rw [List.length_singleton]; omega) hBs6 ?_; intro v1 w1 ho1 hg1 hat1; obtain ⟨hce1, hfz1, hIv, hT7⟩ := HK7.out v1 w1 ho1 hg1 hat1; obtain ⟨A7, c7, rfl⟩ := ho1.form; generalize (G.getD j [] ++ [(x1 : Int)]).length = n7 at *; have HT7 := Lib.hid hT7; have HIV := Lib.hid hIv; clear hat1 hg1 ho1 hT7 hIv)
                  refine ⟨HIV.out, ?_⟩
                  go_wp2
                  refine ⟨HIV.out, ?_⟩
                  go_wp2
                  refine ⟨⟨HIV.out.1, (World.cell?_of_block (a := ⟨b2, 0, none⟩) (Below.heap_setCell w1 ⟨o2, j, none⟩ _ b2 HNE.out.2)).trans HIV.out.2⟩, ?_⟩
                  have T8 := HT7.out
                  clear HT7 HK7 hce1 hfz1 HIV hone hro6 HROW HT
                  generalize w1.setCell ⟨o2, j, none⟩ (.slice A7 n7 c7) = wr8 at *
                  have cB := (T8.box HRB.out.2.2.2.2.1 HBX.out.y1).cell
                  have hrow := T8.cell1 hjd
                  have lb := Nat.lt_of_lt_of_le (T8.uV _ HRB.out.2.2.2.2.1) T8.hS
                  have lo := T8.lt1
                  have HROW := Lib.hid (T8.row1 j hjd)
                  have HT := Lib.hid T8
                  generalize hrv : hv.getD j undef = rv at hrow HROW
                  have HRV := Lib.hid hrv
                  clear hrv T8
                  gi_wp2
                  (apply wpIn_region_held (fun z => b1 < z.heap.size ∧ z.cell? ⟨b1, 0, none⟩ = some (.slice (some ⟨o1, 0, none⟩) d d)) [0, 1] [2, 3, 4, 5, 6] [7] [8, 9, 10] rfl (by kernel_rfl) ?hL (by kernel_rfl); (case hd0 => kernel_rfl); (case hq0 => (intro z hz; simp only [pick, List.getElem?_cons_succ, List.getElem?_cons_zero]; (have hx0 := fun (x : Just z) => (show x.w.cell? ⟨b1, 0, none⟩ = some (.slice (some ⟨o1, 0, none⟩) d d) by rw [x.eq]; exact hz.2)); (repeat (go_big_quiet_step (fail))); refine wpQuiet_nil ?_; exact rfl)); (case hd => kernel_rfl); (case hq => (intro z hz; simp only [pick, List.getElem?_cons_succ, List.getElem?_cons_zero]; (have hx1 := fun x => cell_extz hz lb cB x; have hx3 := fun x => cell_extz hz lo hrow x); (repeat (go_big_quiet_step ((fail)))); refine wpQuiet_nil ?_; exact rfl)); (case' hc => (simp only [pick, List.getElem?_cons_succ, List.getElem?_cons_zero]; intro W5 hW5; simp only [chainJ, chainV])))
                  case hL => rintro ⟨_, _, h⟩; exact h
                  case hI0 => exact ⟨lb, cB⟩
                  case hS =>
                    intro U V hUV hI
                    exact ⟨Nat.lt_of_lt_of_le hI.1 hUV.size, (hUV.cell (p := ⟨b1, 0, none⟩) hI.1).trans hI.2⟩
                  go_wp2
                  refine ⟨below_new _ _, fun W6 hW6 => ?_⟩
                  have hb6 : Below wr8.heap.size wr8 W6 := Bw.step (Bw.al hW5 _) hW6
                  have T6 := HT.out.below hb6
                  have hone := (RdB.one W5 (0 : GF) 5 1).below hW6
                  have hro6 := HROW.out.below hb6
                  have hBs6 : w.heap.size ≤ W6.heap.size := Nat.le_trans T6.hB T6.hS
                  have hcb6 := (hb6.cell (p := ⟨b1, 0, none⟩) lb).trans cB
                  have HK7 := Lib.hid (fun v1 w1 ho1 hg1 hat1 => T6.grow1 hjd HRB.out.2.2.2.2.1 hcb6 w1 v1 (L.getD j [] ++ [0]) ho1 (by rw [HRV.out]; exact hg1) (by rw [HRV.out]; exact hat1))
                  rw [HRV.out] at HK7
                  clear T6 hcb6 cB hrow hb6 hW5 hW6
                  go_wp2_with (at_builtin; refine wpList_appB W6 rfl (.tmp 114) (.tmp 116) rfl w.heap.size rv (L.getD j []) rfl hro6 _ 1 1 [0] rfl hone (by rw [List.length_singleton]; omega) hBs6 ?_; intro v1 w1 ho1 hg1 hat1; obtain ⟨hce1, hfz1, hIv, hT7⟩ := HK7.out v1 w1 ho1 hg1 hat1; obtain ⟨A7, c7, rfl⟩ := ho1.form; generalize (L.getD j [] ++ [0]).length = n7 at *; have HT7 := Lib.hid hT7; have HIV := Lib.hid hIv; clear hat1 hg1 ho1 hT7 hIv)
                  refine ⟨HIV.out, ?_⟩
                  go_wp2
                  refine ⟨HIV.out, ?_⟩
                  go_wp2
                  refine ⟨⟨HIV.out.1, (World.cell?_of_block (a := ⟨b1, 0, none⟩) (Below.heap_setCell w1 ⟨o1, j, none⟩ _ b1 HNE.out.1)).trans HIV.out.2⟩, ?_⟩
                  have T9 := HT7.out
                  clear HT7 HK7 hce1 hfz1 HIV hone hro6 HROW HT
                  generalize w1.setCell ⟨o1, j, none⟩ (.slice A7 n7 c7) = wr9 at *
                  gi_wp2
                  go_roundw
                  case rel => exact ⟨j + 1, by omega, by go_num, _, _, _, _, T9, HM.out.stepG (by rw [HD.out]; exact hjd) HBY.out HGN.out⟩
                  case measure => simp [intOf]; omega
                · have hdq : decide (ne ≤ p) = false := decide_eq_false hq
                  have hdi : decide ((ne : Int) ≤ (p : Int)) = false := by simp only [decide_eq_false_iff_not]; omega
                  have x9r := (T.box HRB.out.2.2.2.1 HBX.out.x9).cell
                  have hlz := HLZ.out j hjm
                  have HUN := Lib.hid (unknown_any w.heap.size (w.heap.size + 1) A B m c c' j x1 P Z wr (HP.out.below (HWB4.out.trans T.bl)) (HZ.out.below (HWB4.out.trans T.bl)) (T.box HRB.out.1 HBX.out.x3).cell (T.box HRB.out.2.1 HBX.out.x4).cell hjm hlz)
                  clear hlz
                  by_cases hu : unkP P Z j x1
                  · skip
                    have hd : decide (unkP P Z j x1) = true := decide_eq_true hu
                    rw [hd] at HUN
                    have HBY : Hid (byteP P Z m p x1 j 0) := Lib.hid ⟨fun cz hcz => absurd hcz (HMS.out cz), fun _ => ⟨fun _ => rfl, fun h => absurd (hwj.2 (.inr hu)) h⟩⟩
                    have HGN : Hid (goneP P Z m p x1 j) := Lib.hid ⟨HH.out, hwj.2 (.inr hu)⟩
                    clear hwj hq hd hu
                    generalize (wordP P x1).getD j 0 = yw at *
                    have HTT := Lib.hid T
                    clear T
                    gi_wp2_with (gi_at_call 30; refine (CallsIn.inRound l (callsIn_wide.2 HUN.out)).mono ?_; rintro e w' ⟨rfl, hb7⟩; have T := HTT.out.below hb7; clear hb7)
                    obtain ⟨wr7, rfl⟩ : ∃ W : World, W = w' := ⟨_, rfl⟩
                    have cB := (T.box HRB.out.2.2.2.2.2 HBX.out.y2).cell
                    have hrow := T.cell2 hjd
                    have lb := Nat.lt_of_lt_of_le (T.uV _ HRB.out.2.2.2.2.2) T.hS
                    have lo := T.lt2
                    have HROW := Lib.hid (T.row2 j hjd)
                    have HT := Lib.hid T
                    generalize hrv : hg.getD j undef = rv at hrow HROW
                    have HRV := Lib.hid hrv
                    clear hrv T
                    gi_wp2
                    (apply wpIn_region_held (fun z => b2 < z.heap.size ∧ z.cell? ⟨b2, 0, none⟩ = some (.slice (some ⟨o2, 0, none⟩) d d)) [0, 1] [2, 3, 4, 5, 6] [7] [8, 9, 10] rfl (by kernel_rfl) ?hL (by kernel_rfl); (case hd0 => kernel_rfl); (case hq0 => (intro z hz; simp only [pick, List.getElem?_cons_succ, List.getElem?_cons_zero]; (have hx0 := fun (x : Just z) => (show x.w.cell? ⟨b2, 0, none⟩ = some (.slice (some ⟨o2, 0, none⟩) d d) by rw [x.eq]; exact hz.2)); (repeat (go_big_quiet_step (fail))); refine wpQuiet_nil ?_; exact rfl)); (case hd => kernel_rfl); (case hq => (intro z hz; simp only [pick, List.getElem?_cons_succ, List.getElem?_cons_zero]; (have hx1 := fun x => cell_extz hz lb cB x; have hx3 := fun x => cell_extz hz lo hrow x); (repeat (go_big_quiet_step ((fail)))); refine wpQuiet_nil ?_; exact rfl)); (case' hc => (simp only [pick, List.getElem?_cons_succ, List.getElem?_cons_zero]; intro W5 hW5; simp only [chainJ, chainV])))
                    case hL => rintro ⟨_, _, h⟩; exact h
                    case hI0 => exact ⟨lb, cB⟩
                    case hS =>
                      intro U V hUV hI
                      exact ⟨Nat.lt_of_lt_of_le hI.1 hUV.size, (hUV.cell (p := ⟨b2, 0, none⟩) hI.1).trans hI.2⟩
                    go_wp2
                    refine ⟨below_new _ _, fun W6 hW6 => ?_⟩
                    have hb6 : Below wr7.heap.size wr7 W6 := Bw.step (Bw.al hW5 _) hW6
                    have T6 := HT.out.below hb6
                    have hone := (RdI.one W5 (x1 : Int) 3 1).below hW6
                    have hro6 := HROW.out.below hb6
                    have hBs6 : w.heap.size ≤ W6.heap.size := Nat.le_trans T6.hB T6.hS
                    have hcb6 := (hb6.cell (p := ⟨b2, 0, none⟩) lb).trans cB
                    have HK7 := Lib.hid (fun v1 w1 ho1 hg1 hat1 => T6.grow2 hjd HRB.out.2.2.2.2.2 hcb6 w1 v1 (G.getD j [] ++ [(x1 : Int)]) ho1 (by rw [HRV.out]; exact hg1) (by rw [HRV.out]; exact hat1))
                    rw [HRV.out] at HK7
                    clear T6 hcb6 cB hrow hb6 hW5 hW6
                    go_wp2_with (at_builtin; refine wpList_appI W6 rfl (.tmp 104) (.tmp 106) rfl w.heap.size rv (G.getD j []) rfl hro6 _ 1 1 [(x1 : Int)] rfl hone (by rw [List.length_singleton]; omega) hBs6 ?_; intro v1 w1 ho1 hg1 hat1; obtain ⟨hce1, hfz1, hIv, hT7⟩ := HK7.out v1 w1 ho1 hg1 hat1; obtain ⟨A7, c7, rfl⟩ := ho1.form; generalize (G.getD j [] ++ [(x1 : Int)]).length = n7 at *; have HT7 := Lib.hid hT7; have HIV := Lib.hid hIv; clear hat1 hg1 ho1 hT7 hIv)
                    refine ⟨HIV.out, ?_⟩
                    go_wp2
                    refine ⟨HIV.out, ?_⟩
                    go_wp2
                    refine ⟨⟨HIV.out.1, (World.cell?_of_block (a := ⟨b2, 0, none⟩) (Below.heap_setCell w1 ⟨o2, j, none⟩ _ b2 HNE.out.2)).trans HIV.out.2⟩, ?_⟩
                    have T8 := HT7.out
                    clear HT7 HK7 hce1 hfz1 HIV hone hro6 HROW HT
                    generalize w1.setCell ⟨o2, j, none⟩ (.slice A7 n7 c7) = wr8 at *
                    have cB := (T8.box HRB.out.2.2.2.2.1 HBX.out.y1).cell
                    have hrow := T8.cell1 hjd
                    have lb := Nat.lt_of_lt_of_le (T8.uV _ HRB.out.2.2.2.2.1) T8.hS
                    have lo := T8.lt1
                    have HROW := Lib.hid (T8.row1 j hjd)
                    have HT := Lib.hid T8
                    generalize hrv : hv.getD j undef = rv at hrow HROW
                    have HRV := Lib.hid hrv
                    clear hrv T8
                    gi_wp2
                    (apply wpIn_region_held (fun z => b1 < z.heap.size ∧ z.cell? ⟨b1, 0, none⟩ = some (.slice (some ⟨o1, 0, none⟩) d d)) [0, 1] [2, 3, 4, 5, 6] [7] [8, 9, 10] rfl (by kernel_rfl) ?hL (by kernel_rfl); (case hd0 => kernel_rfl); (case hq0 => (intro z hz; simp only [pick, List.getElem?_cons_succ, List.getElem?_cons_zero]; (have hx0 := fun (x : Just z) => (show x.w.cell? ⟨b1, 0, none⟩ = some (.slice (some ⟨o1, 0, none⟩) d d) by rw [x.eq]; exact hz.2)); (repeat (go_big_quiet_step (fail))); refine wpQuiet_nil ?_; exact rfl)); (case hd => kernel_rfl); (case hq => (intro z hz; simp only [pick, List.getElem?_cons_succ, List.getElem?_cons_zero]; (have hx1 := fun x => cell_extz hz lb cB x; have hx3 := fun x => cell_extz hz lo hrow x); (repeat (go_big_quiet_step ((fail)))); refine wpQuiet_nil ?_; exact rfl)); (case' hc => (simp only [pick, List.getElem?_cons_succ, List.getElem?_cons_zero]; intro W5 hW5; simp only [chainJ, chainV])))
                    case hL => rintro ⟨_, _, h⟩; exact h
                    case hI0 => exact ⟨lb, cB⟩
                    case hS =>
                      intro U V hUV hI
                      exact ⟨Nat.lt_of_lt_of_le hI.1 hUV.size, (hUV.cell (p := ⟨b1, 0, none⟩) hI.1).trans hI.2⟩
                    go_wp2
                    refine ⟨below_new _ _, fun W6 hW6 => ?_⟩
                    have hb6 : Below wr8.heap.size wr8 W6 := Bw.step (Bw.al hW5 _) hW6
                    have T6 := HT.out.below hb6
                    have hone := (RdB.one W5 (0 : GF) 5 1).below hW6
                    have hro6 := HROW.out.below hb6
                    have hBs6 : w.heap.size ≤ W6.heap.size := Nat.le_trans T6.hB T6.hS
                    have hcb6 := (hb6.cell (p := ⟨b1, 0, none⟩) lb).trans cB
                    have HK7 := Lib.hid (fun v1 w1 ho1 hg1 hat1 => T6.grow1 hjd HRB.out.2.2.2.2.1 hcb6 w1 v1 (L.getD j [] ++ [0]) ho1 (by rw [HRV.out]; exact hg1) (by rw [HRV.out]; exact hat1))
                    rw [HRV.out] at HK7
                    clear T6 hcb6 cB hrow hb6 hW5 hW6
                    go_wp2_with (at_builtin; refine wpList_appB W6 rfl (.tmp 114) (.tmp 116) rfl w.heap.size rv (L.getD j []) rfl hro6 _ 1 1 [0] rfl hone (by rw [List.length_singleton]; omega) hBs6 ?_; intro v1 w1 ho1 hg1 hat1; obtain ⟨hce1, hfz1, hIv, hT7⟩ := HK7.out v1 w1 ho1 hg1 hat1; obtain ⟨A7, c7, rfl⟩ := ho1.form; generalize (L.getD j [] ++ [0]).length = n7 at *; have HT7 := Lib.hid hT7; have HIV := Lib.hid hIv; clear hat1 hg1 ho1 hT7 hIv)
                    refine ⟨HIV.out, ?_⟩
                    go_wp2
                    refine ⟨HIV.out, ?_⟩
                    go_wp2
                    refine ⟨⟨HIV.out.1, (World.cell?_of_block (a := ⟨b1, 0, none⟩) (Below.heap_setCell w1 ⟨o1, j, none⟩ _ b1 HNE.out.1)).trans HIV.out.2⟩, ?_⟩
                    have T9 := HT7.out
                    clear HT7 HK7 hce1 hfz1 HIV hone hro6 HROW HT
                    generalize w1.setCell ⟨o1, j, none⟩ (.slice A7 n7 c7) = wr9 at *
                    gi_wp2
                    go_roundw
                    case rel => exact ⟨j + 1, by omega, by go_num, _, _, _, _, T9, HM.out.stepG (by rw [HD.out]; exact hjd) HBY.out HGN.out⟩
                    case measure => simp [intOf]; omega
                  · skip
                    have hd : decide (unkP P Z j x1) = false := decide_eq_false hu
                    rw [hd] at HUN
                    have hnw : ¬ wipeP P Z m p x1 j := fun h => (hwj.1 h).elim hq hu
                    have HBY : Hid (byteP P Z m p x1 j ((wordP P x1).getD j 0)) := Lib.hid ⟨fun cz hcz => absurd hcz (HMS.out cz), fun _ => ⟨fun h => absurd h hnw, fun _ => rfl⟩⟩
                    have HGN : Hid (¬ goneP P Z m p x1 j) := Lib.hid fun h => hnw h.2
                    clear hwj hq hd hu hnw
                    generalize (wordP P x1).getD j 0 = y at *
                    have HTT := Lib.hid T
                    clear T
                    gi_wp2_with (gi_at_call 30; refine (CallsIn.inRound l (callsIn_wide.2 HUN.out)).mono ?_; rintro e w' ⟨rfl, hb7⟩; have T := HTT.out.below hb7; clear hb7)
                    obtain ⟨wr7, rfl⟩ : ∃ W : World, W = w' := ⟨_, rfl⟩
                    have cB := (T.box HRB.out.2.2.2.2.1 HBX.out.y1).cell
                    have hrow := T.cell1 hjd
                    have lb := Nat.lt_of_lt_of_le (T.uV _ HRB.out.2.2.2.2.1) T.hS
                    have lo := T.lt1
                    have HROW := Lib.hid (T.row1 j hjd)
                    have HT := Lib.hid T
                    generalize hrv : hv.getD j undef = rv at hrow HROW
                    have HRV := Lib.hid hrv
                    clear hrv T
                    gi_wp2
                    (apply wpIn_region_held (fun z => b1 < z.heap.size ∧ z.cell? ⟨b1, 0, none⟩ = some (.slice (some ⟨o1, 0, none⟩) d d)) [0, 1] [2, 3, 4, 5, 6] [7] [8, 9, 10] rfl (by kernel_rfl) ?hL (by kernel_rfl); (case hd0 => kernel_rfl); (case hq0 => (intro z hz; simp only [pick, List.getElem?_cons_succ, List.getElem?_cons_zero]; (have hx0 := fun (x : Just z) => (show x.w.cell? ⟨b1, 0, none⟩ = some (.slice (some ⟨o1, 0, none⟩) d d) by rw [x.eq]; exact hz.2)); (repeat (go_big_quiet_step (fail))); refine wpQuiet_nil ?_; exact rfl)); (case hd => kernel_rfl); (case hq => (intro z hz; simp only [pick, List.getElem?_cons_succ, List.getElem?_cons_zero]; (have hx1 := fun x => cell_extz hz lb cB x; have hx3 := fun x => cell_extz hz lo hrow x); (repeat (go_big_quiet_step ((fail)))); refine wpQuiet_nil ?_; exact rfl)); (case' hc => (simp only [pick, List.getElem?_cons_succ, List.getElem?_cons_zero]; intro W5 hW5; simp only [chainJ, chainV])))
                    case hL => rintro ⟨_, _, h⟩; exact h
                    case hI0 => exact ⟨lb, cB⟩
                    case hS =>
                      intro U V hUV hI
                      exact ⟨Nat.lt_of_lt_of_le hI.1 hUV.size, (hUV.cell (p := ⟨b1, 0, none⟩) hI.1).trans hI.2⟩
                    go_wp2
                    refine ⟨below_new _ _, fun W6 hW6 => ?_⟩
                    have hb6 : Below wr7.heap.size wr7 W6 := Bw.step (Bw.al hW5 _) hW6
                    have T6 := HT.out.below hb6
                    have hone := (RdB.one W5 y 5 1).below hW6
                    have hro6 := HROW.out.below hb6
                    have hBs6 : w.heap.size ≤ W6.heap.size := Nat.le_trans T6.hB T6.hS
                    have hcb6 := (hb6.cell (p := ⟨b1, 0, none⟩) lb).trans cB
                    have HK7 := Lib.hid (fun v1 w1 ho1 hg1 hat1 => T6.grow1 hjd HRB.out.2.2.2.2.1 hcb6 w1 v1 (L.getD j [] ++ [y]) ho1 (by rw [HRV.out]; exact hg1) (by rw [HRV.out]; exact hat1))
                    rw [HRV.out] at HK7
                    clear T6 hcb6 cB hrow hb6 hW5 hW6
                    go_wp2_with (at_builtin; refine wpList_appB W6 rfl (.tmp 114) (.tmp 116) rfl w.heap.size rv (L.getD j []) rfl hro6 _ 1 1 [y] rfl hone (by rw [List.length_singleton]; omega) hBs6 ?_; intro v1 w1 ho1 hg1 hat1; obtain ⟨hce1, hfz1, hIv, hT7⟩ := HK7.out v1 w1 ho1 hg1 hat1; obtain ⟨A7, c7, rfl⟩ := ho1.form; generalize (L.getD j [] ++ [y]).length = n7 at *; have HT7 := Lib.hid hT7; have HIV := Lib.hid hIv; clear hat1 hg1 ho1 hT7 hIv)
                    refine ⟨HIV.out, ?_⟩
                    go_wp2
                    refine ⟨HIV.out, ?_⟩
                    go_wp2
                    refine ⟨⟨HIV.out.1, (World.cell?_of_block (a := ⟨b1, 0, none⟩) (Below.heap_setCell w1 ⟨o1, j, none⟩ _ b1 HNE.out.1)).trans HIV.out.2⟩, ?_⟩
                    have T9 := HT7.out
                    clear HT7 HK7 hce1 hfz1 HIV hone hro6 HROW HT
                    generalize w1.setCell ⟨o1, j, none⟩ (.slice A7 n7 c7) = wr9 at *
                    gi_wp2
                    go_roundw
                    case rel => exact ⟨j + 1, by omega, by go_num, _, _, _, _, T9, HM.out.step (by rw [HD.out]; exact hjd) HBY.out HGN.out⟩
                    case measure => simp [intOf]; omega
              · obtain rfl : j = d := by omega
                gi_wp2
                obtain ⟨q1, q2, q3, q4⟩ := HLV.out wr ⟨hv, hg, L, G, T, hM⟩
                refine ⟨q1, ⟨q2, q3 (o + 1 + 1) (by omega) (by have := HLT.out; omega) (by have := HLT.out; omega), q3 (o + 1) (by omega) (by have := HLT.out; omega) (by have := HLT.out; omega)⟩, ?_⟩
                show ResI W10 w.heap.size o1 o2 _ P Z m p (pre ++ [_]).length wr
                rw [List.length_append, ← HX1.out]
                exact q4
    case done =>
      intro D xs W hD hS hI hK
      obtain ⟨hv, hg, L, G, T, hE⟩ := hI
      rw [hS] at hE
      have hBW : Bxs W w.heap.size o b1 b2 o1 o2 d A B m c c' p := HBX10.out.keep fun b hb => T.fix b (HMEM.out b hb)
      have y1c := hBW.y1.cell
      have y2c := hBW.y2.cell
      have lb1 := hBW.y1.lt
      have lb2 := hBW.y2.lt
      have F := has_block HF10.out (T.fix _ HFF.out) T.hS
      have hDl : D < W.heap.size := (Array.getElem?_eq_some_iff.1 hK).1
      have HT := Lib.hid T
      have HE := Lib.hid hE
      have HK := Lib.hid hK
      have HY := Lib.hid (And.intro (And.intro lb1 y1c) (And.intro lb2 y2c))
      clear T hE hK hBW y1c y2c lb1 lb2 HQ1 HQ2 HI0 HBX10 HF10 HMEM
      gi_wp2
      refine wpIn_wide.2 ?_
      apply wp_region_mid1 (α := Nat) (fun _ W' => ∃ W5, Below W.heap.size W W5 ∧ (W5.setCell ⟨w.heap.size + 1 + 1 + 1, 0, none⟩ (.int .i64 0)).setCell ⟨w.heap.size + 1 + 1 + 1, 1, none⟩ (.int .i64 0) = W')
      case h =>
        intro QQ HQ
        have hx1 := fun (x : Ext W) => (x.below.cell (p := ⟨b1, 0, none⟩) HY.out.1.1).trans HY.out.1.2
        have hx2 := fun (x : Ext W) => (x.below.cell (p := ⟨b2, 0, none⟩) HY.out.2.1).trans HY.out.2.2
        (refine wp_region_extail 5 (by kernel_rfl) (by kernel_rfl) ?_; simp only [List.take_succ_cons, List.take_zero, List.drop_succ_cons, List.drop_zero]; (repeat (go_big_quiet_step ((fail)))); refine wpQuiet_nil ?_; intro W5 hw'; have hW5 := ext_below hw'; clear hw')
        clear hx1 hx2
        have F5 := F.below hW5
        obtain ⟨l0, c00, c01, f00, f01⟩ := id F5
        go_wp2
        obtain ⟨u0, hu0⟩ : ∃ u0 : Nat, u0 = 0 := ⟨_, rfl⟩
        clear hu0
        exact HQ.out u0 _ ⟨W5, hW5, rfl⟩
      intro u W' hh
      obtain ⟨W5, hW5, rfl⟩ := hh
      have F5 := F.below hW5
      have T5 := HT.out.below hW5
      have hK5 := (hW5.block D hDl).trans HK.out
      have HF5 := Lib.hid F5
      have HT5 := Lib.hid T5
      have HK5 := Lib.hid hK5
      clear F5 T5 hK5 F HT HK
      gi_wp2
      have hK2 := ((KeepsOthers.setCell W5 ⟨w.heap.size + 1 + 1 + 1, 0, none⟩ (.int .i64 0)).trans (KeepsOthers.setCell _ ⟨w.heap.size + 1 + 1 + 1, 1, none⟩ (.int .i64 0))).same _ _ HK5.out rfl
      have T6 := HT5.out.off (W' := (W5.setCell ⟨w.heap.size + 1 + 1 + 1, 0, none⟩ (.int .i64 0)).setCell ⟨w.heap.size + 1 + 1 + 1, 1, none⟩ (.int .i64 0)) (f := w.heap.size + 1 + 1 + 1) HFF.out (fun b hb => (Below.heap_setCell _ ⟨w.heap.size + 1 + 1 + 1, 1, none⟩ _ b hb).trans (Below.heap_setCell _ ⟨w.heap.size + 1 + 1 + 1, 0, none⟩ _ b hb)) (by simp) (((Below.refl _ _).setCell (p := ⟨w.heap.size + 1 + 1 + 1, 0, none⟩) (by show w.heap.size ≤ w.heap.size + 1 + 1 + 1; omega) _).setCell (p := ⟨w.heap.size + 1 + 1 + 1, 1, none⟩) (by show w.heap.size ≤ w.heap.size + 1 + 1 + 1; omega) _)
      have T7 := T6.grown (grownBy_putObj' _ D (.deferred none)) (fun r e => by cases e; exact ⟨by omega, _, hK2, rfl⟩)
      have F7 := has_kept (HF5.out.set2 0 0) (grownBy_putObj' _ D (.deferred none)) (fun r e => by cases e; exact ⟨_, hK2, rfl⟩)
      refine ⟨by simp, .inl ⟨_, _, rfl, run_takeDeferred hK2, ?_⟩⟩
      exact ⟨_, resF3 rfl rfl F7, o1, o2, L, G, rfl, T7.rd.1, T7.rd.2, HE.out, HB10.out.trans T7.bl⟩
end Go.Proofs.Ytcinfkmekkdhfaa
