/- Texts of this proof, laid together: XDw, XPdA, XPdB, XPdC. -/
import Derived.Test.YtmpjkdkgolmgdaaGreatMd
import Derived.Test.YtmpjkdkgolmgdaaGreatMc
/- Lists as first values of a function; the only code word within the bound. -/
namespace Go.Proofs.YtmpjkdkgolmgdaaGreat
open Go.RowKit
set_option linter.unusedVariables false

/-- The list of the first values of a function. -/
def lineF (n : Nat) (f : Nat → GF) : List GF := (List.range n).map f
theorem lineF_len (n : Nat) (f : Nat → GF) : (lineF n f).length = n := by simp [lineF]
theorem lineF_get {n : Nat} {f : Nat → GF} {i : Nat} (hi : i < n) : (lineF n f).getD i 0 = f i := by simp [lineF, List.getD, hi]
theorem lineF_congr {n : Nat} {f g : Nat → GF} (h : ∀ i, i < n → f i = g i) : lineF n f = lineF n g :=
  eq_of_getD (by rw [lineF_len, lineF_len]) fun i hi => by rw [lineF_len] at hi; rw [lineF_get hi, lineF_get hi, h i hi]
theorem lineF_eq {n : Nat} {f : Nat → GF} {l : List GF} (hl : l.length = n) (h : ∀ i, i < n → f i = l.getD i 0) : lineF n f = l :=
  eq_of_getD (by rw [lineF_len, hl]) fun i hi => by rw [lineF_len] at hi; rw [lineF_get hi, h i hi]
theorem sorted_nodup {l : List Nat} (h : l.Pairwise (· < ·)) : l.Nodup := List.Pairwise.imp (fun h e => by omega) h
open Classical in
/-- The only code word within the bound. -/
noncomputable def decW (p : Nat) (l : List GF) (es : List Nat) : Option (List GF) := if h : ∃ c, Within p l es c then some h.choose else none
theorem decW_hit {p : Nat} {l c : List GF} {es : List Nat} (hn : l.length ≤ 255) (hnd : es.Nodup) (hlt : ∀ i ∈ es, i < l.length) (h : Within p l es c) : decW p l es = some c := by
  have he : ∃ c, Within p l es c := ⟨c, h⟩
  unfold decW
  rw [dif_pos he]
  exact congrArg some (within_unique hn hnd hlt he.choose_spec h)
theorem decW_miss {p : Nat} {l : List GF} {es : List Nat} (h : ∀ c, ¬ Within p l es c) : decW p l es = none := by
  unfold decW; exact dif_neg fun ⟨c, hc⟩ => h c hc
/-- A decoded word is as long as the word. -/
theorem decW_some {p : Nat} {l c : List GF} {es : List Nat} (h : decW p l es = some c) : Within p l es c := by
  unfold decW at h
  by_cases he : ∃ c, Within p l es c
  · rw [dif_pos he] at h
    injection h with h
    rw [← h]; exact he.choose_spec
  · rw [dif_neg he] at h; cases h
end Go.Proofs.YtmpjkdkgolmgdaaGreat
/- Product codes, plain: lines of a block; a block is known by its data. -/
namespace Go.Proofs.YtmpjkdkgolmgdaaGreat
open Go.RowKit
set_option linter.unusedVariables false

theorem synd_part (n : Nat) (f : Nat → GF) (j k : Nat) (hk : k < n) : ser (prs (lineF n f) (List.range (k + 1))) j = ser (prs (lineF n f) (List.range k)) j + f k * gpow (loc n k) j := by
  rw [List.range_succ]
  unfold prs
  rw [List.map_append, List.map_cons, List.map_nil, ser_snoc, lineF_len, lineF_get hk]
theorem isCW_zero (p n : Nat) : isCW p (lineF n fun _ => 0) := fun j hj => by
  have : lineF n (fun _ => 0) = scW 0 (lineF n fun _ => 0) := eq_of_getD (by rw [scW_len]) fun i hi => by
    rw [lineF_len] at hi; rw [scW_get, lineF_get hi, GF.zero_mul]
  rw [this, synd_sc, GF.zero_mul]
theorem last_nodup (n q : Nat) : ((List.range q).map fun i => n + i).Nodup := by
  unfold List.Nodup
  rw [List.pairwise_map]
  exact List.Pairwise.imp (fun h e => h (by omega)) List.nodup_range
theorem cw_zero_head {q : Nat} {l : List GF} (hn : l.length ≤ 255) (hq : q ≤ l.length) (h : isCW q l) (h0 : ∀ i, i < l.length - q → l.getD i 0 = 0) : ∀ i, i < l.length → l.getD i 0 = 0 := by
  refine cw_zero hn h ((List.range q).map fun i => (l.length - q) + i) (last_nodup _ _) ?_ (by simp) ?_
  · intro i hi
    rw [List.mem_map] at hi
    obtain ⟨k, hk, rfl⟩ := hi
    rw [List.mem_range] at hk
    omega
  · intro i hi hni
    refine h0 i ?_
    rcases Nat.lt_or_ge i (l.length - q) with h | h
    · exact h
    · exact absurd (List.mem_map.2 ⟨i - (l.length - q), List.mem_range.2 (by omega), by omega⟩) hni
/-- Where all columns are code words, and the rows of data are, all rows are. -/
theorem lines {p q R C : Nat} {f : Nat → Nat → GF} (hR : R ≤ 255) (hq : q ≤ R) (hcol : ∀ c, c < C → isCW q (lineF R fun r => f r c)) (hrow : ∀ r, r < R - q → isCW p (lineF C (f r))) : ∀ r, r < R → isCW p (lineF C (f r)) := by
  intro r hr j hj
  have key : ∀ k, k ≤ C → isCW q (lineF R fun r => ser (prs (lineF C (f r)) (List.range k)) j) := by
    intro k
    induction k with
    | zero => intro _; exact isCW_zero q R
    | succ k ih =>
      intro hk
      have h := isCW_add (by rw [scW_len, lineF_len, lineF_len]) (ih (by omega)) (isCW_sc (gpow (loc C k) j) (hcol k (by omega)))
      have e : lineF R (fun r => ser (prs (lineF C (f r)) (List.range (k + 1))) j) = addW (lineF R fun r => ser (prs (lineF C (f r)) (List.range k)) j) (scW (gpow (loc C k) j) (lineF R fun r => f r k)) :=
        eq_of_getD (by rw [addW_len, lineF_len, lineF_len]) fun i hi => by
          rw [lineF_len] at hi
          rw [addW_get _ _ (by rw [lineF_len]; exact hi), lineF_get hi, lineF_get hi, scW_get, lineF_get hi, synd_part C _ j k (by omega), GF.mul_comm]
      rw [e]; exact h
  have hS := key C (Nat.le_refl _)
  have e : ∀ r, ser (prs (lineF C (f r)) (List.range C)) j = synd (lineF C (f r)) j := fun r => by rw [synd_ser, lineF_len]
  have := cw_zero_head (by rw [lineF_len]; exact hR) (by rw [lineF_len]; exact hq) hS (fun i hi => by
    rw [lineF_len] at hi
    rw [lineF_get (by omega), e]
    exact hrow i hi j hj) r (by rw [lineF_len]; exact hr)
  rw [lineF_get hr, e] at this
  exact this
theorem cw_head {q : Nat} {a b : List GF} (hl : a.length = b.length) (hn : a.length ≤ 255) (hq : q ≤ a.length) (ha : isCW q a) (hb : isCW q b) (h0 : ∀ i, i < a.length - q → a.getD i 0 = b.getD i 0) : a = b := by
  refine cw_unique hl hn ha hb ((List.range q).map fun i => (a.length - q) + i) (last_nodup _ _) ?_ (by simp) ?_
  · intro i hi
    rw [List.mem_map] at hi
    obtain ⟨k, hk, rfl⟩ := hi
    rw [List.mem_range] at hk
    omega
  · intro i hi hni
    refine h0 i ?_
    rcases Nat.lt_or_ge i (a.length - q) with h | h
    · exact h
    · exact absurd (List.mem_map.2 ⟨i - (a.length - q), List.mem_range.2 (by omega), by omega⟩) hni
/-- A place of a block. -/
def at2 (b : List GF) (C r c : Nat) : GF := b.getD (r * C + c) 0
def rowW (C : Nat) (b : List GF) (r : Nat) : List GF := lineF C (at2 b C r)
def colW (R C : Nat) (b : List GF) (c : Nat) : List GF := lineF R fun r => at2 b C r c
/-- A code block. -/
def IsBlk (R C p q : Nat) (b : List GF) : Prop := b.length = R * C ∧ (∀ r, r < R → isCW p (rowW C b r)) ∧ ∀ c, c < C → isCW q (colW R C b c)
/-- The code block of data. -/
def IsBlock (d : List GF) (R C p q : Nat) (b : List GF) : Prop := IsBlk R C p q b ∧ ∀ r, r < R - q → ∀ c, c < C - p → at2 b C r c = d.getD (r * (C - p) + c) 0
theorem place_lt {R C r c : Nat} (hr : r < R) (hc : c < C) : r * C + c < R * C := by
  have : (r + 1) * C ≤ R * C := Nat.mul_le_mul_right C hr
  rw [Nat.add_mul, Nat.one_mul] at this
  omega
theorem place_of {R C i : Nat} (hi : i < R * C) : i / C < R ∧ i % C < C ∧ i / C * C + i % C = i := by
  have hC : 0 < C := by
    rcases Nat.eq_zero_or_pos C with h | h
    · subst h; omega
    · exact h
  refine ⟨Nat.div_lt_of_lt_mul (by rw [Nat.mul_comm]; exact hi), Nat.mod_lt _ hC, ?_⟩
  rw [Nat.mul_comm]; exact Nat.div_add_mod i C
theorem block_eq {R C : Nat} {a b : List GF} (ha : a.length = R * C) (hb : b.length = R * C) (h : ∀ r, r < R → ∀ c, c < C → at2 a C r c = at2 b C r c) : a = b :=
  eq_of_getD (ha.trans hb.symm) fun i hi => by
    rw [ha] at hi
    obtain ⟨h1, h2, h3⟩ := place_of hi
    have := h _ h1 _ h2
    unfold at2 at this
    rw [h3] at this
    exact this
theorem block_unique {d : List GF} {R C p q : Nat} {a b : List GF} (hR : R ≤ 255) (hC : C ≤ 255) (hp : p ≤ C) (hq : q ≤ R) (ha : IsBlock d R C p q a) (hb : IsBlock d R C p q b) : a = b := by
  have rows : ∀ r, r < R - q → rowW C a r = rowW C b r := fun r hr => by
    refine cw_head (q := p) (by unfold rowW; rw [lineF_len, lineF_len]) (by unfold rowW; rw [lineF_len]; exact hC) (by unfold rowW; rw [lineF_len]; exact hp) (ha.1.2.1 r (by omega)) (hb.1.2.1 r (by omega)) fun i hi => ?_
    unfold rowW at *
    rw [lineF_len] at hi
    rw [lineF_get (by omega), lineF_get (by omega), ha.2 r hr i hi, hb.2 r hr i hi]
  have cols : ∀ c, c < C → colW R C a c = colW R C b c := fun c hc => by
    refine cw_head (q := q) (by unfold colW; rw [lineF_len, lineF_len]) (by unfold colW; rw [lineF_len]; exact hR) (by unfold colW; rw [lineF_len]; exact hq) (ha.1.2.2 c hc) (hb.1.2.2 c hc) fun i hi => ?_
    unfold colW at *
    rw [lineF_len] at hi
    rw [lineF_get (by omega), lineF_get (by omega)]
    have := congrArg (fun l => l.getD c 0) (rows i hi)
    unfold rowW at this
    simpa only [lineF_get hc] using this
  refine block_eq ha.1.1 hb.1.1 fun r hr c hc => ?_
  have := congrArg (fun l => l.getD r 0) (cols c hc)
  unfold colW at this
  simpa only [lineF_get hr] using this
/-- Exchanged rows and columns. -/
def trL (R C : Nat) (b : List GF) : List GF := lineF (R * C) fun i => at2 b C (i % R) (i / R)
theorem trL_len (R C : Nat) (b : List GF) : (trL R C b).length = C * R := by unfold trL; rw [lineF_len, Nat.mul_comm]
theorem trL_at {R C r c : Nat} (b : List GF) (hr : r < R) (hc : c < C) : at2 (trL R C b) R c r = at2 b C r c := by
  have h := place_lt hc hr
  unfold trL
  rw [show at2 (lineF (R * C) fun i => at2 b C (i % R) (i / R)) R c r = (lineF (R * C) fun i => at2 b C (i % R) (i / R)).getD (c * R + r) 0 from rfl, lineF_get (by rw [Nat.mul_comm R C]; exact h)]
  have e1 : (c * R + r) % R = r := by rw [Nat.mul_comm, Nat.mul_add_mod]; exact Nat.mod_eq_of_lt hr
  have e2 : (c * R + r) / R = c := by rw [Nat.mul_comm, Nat.mul_add_div (by omega), Nat.div_eq_of_lt hr, Nat.add_zero]
  rw [e1, e2]
theorem tr_row {R C c : Nat} (b : List GF) (hc : c < C) : rowW R (trL R C b) c = colW R C b c := lineF_congr fun r hr => trL_at b hr hc
theorem tr_col {R C r : Nat} (b : List GF) (hr : r < R) : colW C R (trL R C b) r = rowW C b r := lineF_congr fun c hc => trL_at b hr hc
theorem block_tr {d : List GF} {R C p q : Nat} {b : List GF} (h : IsBlock d R C p q b) : IsBlock (trL (R - q) (C - p) d) C R q p (trL R C b) := by
  refine ⟨⟨trL_len _ _ _, fun r hr => by rw [tr_row b hr]; exact h.1.2.2 r hr, fun c hc => by rw [tr_col b hc]; exact h.1.2.1 c hc⟩, fun r hr c hc => ?_⟩
  rw [trL_at b (by omega) (by omega), h.2 c hc r hr]
  exact (trL_at d hc hr).symm
/-- Data rows extended, then all columns. -/
theorem block_of {d b : List GF} {R C p q : Nat} (hR : R ≤ 255) (hq : q ≤ R) (hl : b.length = R * C) (hrow : ∀ r, r < R - q → isCW p (rowW C b r) ∧ ∀ c, c < C - p → at2 b C r c = d.getD (r * (C - p) + c) 0) (hcol : ∀ c, c < C → isCW q (colW R C b c)) : IsBlock d R C p q b :=
  ⟨⟨hl, lines hR hq hcol fun r hr => (hrow r hr).1, hcol⟩, fun r hr c hc => (hrow r hr).2 c hc⟩
/-- Data columns extended, then all rows. -/
theorem block_of' {d b : List GF} {R C p q : Nat} (hC : C ≤ 255) (hp : p ≤ C) (hl : b.length = R * C) (hcol : ∀ c, c < C - p → isCW q (colW R C b c) ∧ ∀ r, r < R - q → at2 b C r c = d.getD (r * (C - p) + c) 0) (hrow : ∀ r, r < R → isCW p (rowW C b r)) : IsBlock d R C p q b :=
  ⟨⟨hl, hrow, lines (f := fun c r => at2 b C r c) hC hp hrow fun c hc => (hcol c hc).1⟩, fun r hr c hc => (hcol c hc).2 r hr⟩
end Go.Proofs.YtmpjkdkgolmgdaaGreat
/- Product codes, plain: what Decode computes. -/
namespace Go.Proofs.YtmpjkdkgolmgdaaGreat
open Go.RowKit
set_option linter.unusedVariables false

def rowP (C r : Nat) : List Nat := (List.range C).map fun c => r * C + c
def colP (R C c : Nat) : List Nat := (List.range R).map fun r => r * C + c
theorem rowP_len (C r : Nat) : (rowP C r).length = C := by simp [rowP]
theorem colP_len (R C c : Nat) : (colP R C c).length = R := by simp [colP]
theorem rowP_get {C r i : Nat} (hi : i < C) : (rowP C r).getD i 0 = r * C + i := by simp [rowP, List.getD, hi]
theorem colP_get {R C c i : Nat} (hi : i < R) : (colP R C c).getD i 0 = i * C + c := by simp [colP, List.getD, hi]
theorem rowP_lt {R C r i : Nat} (hr : r < R) (h : i ∈ rowP C r) : i < R * C := by
  unfold rowP at h
  rw [List.mem_map] at h
  obtain ⟨c, hc, rfl⟩ := h
  exact place_lt hr (List.mem_range.1 hc)
theorem colP_lt {R C c i : Nat} (hc : c < C) (h : i ∈ colP R C c) : i < R * C := by
  unfold colP at h
  rw [List.mem_map] at h
  obtain ⟨r, hr, rfl⟩ := h
  exact place_lt (List.mem_range.1 hr) hc
theorem rowP_nodup (C r : Nat) : (rowP C r).Nodup := by
  unfold rowP List.Nodup
  rw [List.pairwise_map]
  exact List.Pairwise.imp (fun h e => h (by omega)) List.nodup_range
theorem colP_nodup (R : Nat) {C c : Nat} (hc : c < C) : (colP R C c).Nodup := by
  unfold colP List.Nodup
  rw [List.pairwise_map]
  refine List.Pairwise.imp (fun h e => h ?_) List.nodup_range
  exact Nat.eq_of_mul_eq_mul_right (by omega : 0 < C) (by omega)
/-- The bytes at some places. -/
def getL (b : List GF) (ps : List Nat) : List GF := ps.map fun i => b.getD i 0
theorem getL_len (b : List GF) (ps : List Nat) : (getL b ps).length = ps.length := by simp [getL]
theorem getL_get (b : List GF) (ps : List Nat) {k : Nat} (hk : k < ps.length) : (getL b ps).getD k 0 = b.getD (ps.getD k 0) 0 := by simp [getL, List.getD, hk]
theorem getL_row (b : List GF) (C r : Nat) : getL b (rowP C r) = rowW C b r := by
  unfold getL rowP rowW lineF at2
  rw [List.map_map]; rfl
theorem getL_col (b : List GF) (R C c : Nat) : getL b (colP R C c) = colW R C b c := by
  unfold getL colP colW lineF at2
  rw [List.map_map]; rfl
/-- Some places set, one behind the other. -/
def putN {α : Type} (b : List α) (ps : List Nat) (v : Nat → α) : Nat → List α
  | 0 => b
  | k + 1 => (putN b ps v k).set (ps.getD k 0) (v k)
theorem putN_len {α : Type} (b : List α) (ps : List Nat) (v : Nat → α) (k : Nat) : (putN b ps v k).length = b.length := by
  induction k with
  | zero => rfl
  | succ k ih => show ((putN b ps v k).set _ _).length = _; rw [List.length_set, ih]
theorem gset_ne {α : Type} {l : List α} {i j : Nat} {x d : α} (h : i ≠ j) : (l.set i x).getD j d = l.getD j d := by simp [List.getD, h]
theorem gset_eq {α : Type} {l : List α} {i : Nat} {x d : α} (h : i < l.length) : (l.set i x).getD i d = x := by simp [List.getD, h]
theorem putN_other {α : Type} (b : List α) (ps : List Nat) (v : Nat → α) (d : α) {i : Nat} : ∀ k, k ≤ ps.length → (∀ j, j < k → ps.getD j 0 ≠ i) → (putN b ps v k).getD i d = b.getD i d := by
  intro k
  induction k with
  | zero => intro _ _; rfl
  | succ k ih =>
    intro hk h
    show ((putN b ps v k).set _ _).getD i d = _
    rw [gset_ne (h k (by omega)), ih (by omega) fun j hj => h j (by omega)]
theorem nodup_get {ps : List Nat} (hnd : ps.Nodup) {i j : Nat} (hi : i < ps.length) (hj : j < ps.length) (h : ps.getD i 0 = ps.getD j 0) : i = j := by
  simp [List.getD, hi, hj] at h
  rcases Nat.lt_trichotomy i j with e | e | e
  · exact absurd h (List.pairwise_iff_getElem.1 hnd i j hi hj e)
  · exact e
  · exact absurd h.symm (List.pairwise_iff_getElem.1 hnd j i hj hi e)
theorem putN_at {α : Type} (b : List α) (ps : List Nat) (v : Nat → α) (d : α) (hnd : ps.Nodup) (hlt : ∀ i ∈ ps, i < b.length) : ∀ k, k ≤ ps.length → ∀ j, j < k → (putN b ps v k).getD (ps.getD j 0) d = v j := by
  intro k
  induction k with
  | zero => intro _ j hj; omega
  | succ k ih =>
    intro hk j hj
    show ((putN b ps v k).set _ _).getD _ d = _
    by_cases e : j = k
    · subst e
      exact gset_eq (by rw [putN_len]; exact hlt _ (by simp [List.getD, show j < ps.length by omega]))
    · rw [gset_ne (fun h => e (nodup_get hnd (by omega) (by omega) h.symm)), ih (by omega) j (by omega)]
/-- A block and its marks. -/
abbrev St : Type := List GF × List Bool
def erL (m : List Bool) (ps : List Nat) : List Nat := (List.range ps.length).filter fun k => m.getD (ps.getD k 0) false
def erN (m : List Bool) (ps : List Nat) (k : Nat) : List Nat := (List.range k).filter fun k => m.getD (ps.getD k 0) false
theorem erN_zero (m : List Bool) (ps : List Nat) : erN m ps 0 = [] := rfl
theorem erN_yes {m : List Bool} {ps : List Nat} {k : Nat} (h : m.getD (ps.getD k 0) false = true) : erN m ps (k + 1) = erN m ps k ++ [k] := by
  unfold erN; rw [List.range_succ, List.filter_append]; congr 1; exact List.filter_cons_of_pos (p := fun k => m.getD (ps.getD k 0) false) h
theorem erN_no {m : List Bool} {ps : List Nat} {k : Nat} (h : m.getD (ps.getD k 0) false = false) : erN m ps (k + 1) = erN m ps k := by
  unfold erN; rw [List.range_succ, List.filter_append, show List.filter (fun k => m.getD (ps.getD k 0) false) [k] = [] from List.filter_cons_of_neg (by rw [h]; decide), List.append_nil]
theorem erN_len (m : List Bool) (ps : List Nat) (k : Nat) : (erN m ps k).length ≤ k := by
  have := List.length_filter_le (fun k => m.getD (ps.getD k 0) false) (List.range k)
  rw [List.length_range] at this; exact this
theorem erL_lt {m : List Bool} {ps : List Nat} {i : Nat} (h : i ∈ erL m ps) : i < ps.length := List.mem_range.1 (List.mem_filter.1 h).1
theorem erL_sorted (m : List Bool) (ps : List Nat) : (erL m ps).Pairwise (· < ·) := List.Pairwise.filter _ List.pairwise_lt_range
noncomputable def treatL (s : St) (ps : List Nat) (p : Nat) : St :=
  match decW p (getL s.1 ps) (erL s.2 ps) with
  | some c => (putN s.1 ps (fun k => c.getD k 0) ps.length, putN s.2 ps (fun _ => false) ps.length)
  | none => (s.1, putN s.2 ps (fun _ => true) ps.length)
theorem treat_hit {s : St} {ps : List Nat} {p : Nat} {c : List GF} (h : decW p (getL s.1 ps) (erL s.2 ps) = some c) : treatL s ps p = (putN s.1 ps (fun k => c.getD k 0) ps.length, putN s.2 ps (fun _ => false) ps.length) := by unfold treatL; rw [h]
theorem treat_miss {s : St} {ps : List Nat} {p : Nat} (h : decW p (getL s.1 ps) (erL s.2 ps) = none) : treatL s ps p = (s.1, putN s.2 ps (fun _ => true) ps.length) := by unfold treatL; rw [h]
theorem treat_len (s : St) (ps : List Nat) (p : Nat) : (treatL s ps p).1.length = s.1.length ∧ (treatL s ps p).2.length = s.2.length := by
  cases h : decW p (getL s.1 ps) (erL s.2 ps) with
  | some c => rw [treat_hit h]; exact ⟨putN_len _ _ _ _, putN_len _ _ _ _⟩
  | none => rw [treat_miss h]; exact ⟨rfl, putN_len _ _ _ _⟩
noncomputable def rowsN (C p : Nat) (s : St) : Nat → St
  | 0 => s
  | k + 1 => treatL (rowsN C p s k) (rowP C k) p
noncomputable def colsN (R C q : Nat) (s : St) : Nat → St
  | 0 => s
  | k + 1 => treatL (colsN R C q s k) (colP R C k) q
noncomputable def roundL (R C p q : Nat) (s : St) : St := colsN R C q (rowsN C p s R) C
theorem rowsN_len (C p : Nat) (s : St) (k : Nat) : (rowsN C p s k).1.length = s.1.length ∧ (rowsN C p s k).2.length = s.2.length := by
  induction k with
  | zero => exact ⟨rfl, rfl⟩
  | succ k ih => have := treat_len (rowsN C p s k) (rowP C k) p; exact ⟨this.1.trans ih.1, this.2.trans ih.2⟩
theorem colsN_len (R C q : Nat) (s : St) (k : Nat) : (colsN R C q s k).1.length = s.1.length ∧ (colsN R C q s k).2.length = s.2.length := by
  induction k with
  | zero => exact ⟨rfl, rfl⟩
  | succ k ih => have := treat_len (colsN R C q s k) (colP R C k) q; exact ⟨this.1.trans ih.1, this.2.trans ih.2⟩
theorem round_len (R C p q : Nat) (s : St) : (roundL R C p q s).1.length = s.1.length ∧ (roundL R C p q s).2.length = s.2.length := by
  have h1 := rowsN_len C p s R
  have h2 := colsN_len R C q (rowsN C p s R) C
  exact ⟨h2.1.trans h1.1, h2.2.trans h1.2⟩
open Classical in
noncomputable def rightB (R C p : Nat) (b : List GF) : Bool := decide (∀ r, r < R → isCW p (rowW C b r))
open Classical in
theorem rightB_iff {R C p : Nat} {b : List GF} : rightB R C p b = true ↔ ∀ r, r < R → isCW p (rowW C b r) := by unfold rightB; exact decide_eq_true_iff
def dirtyB (m : List Bool) : Bool := decide (true ∈ m)
noncomputable def doneB (R C p : Nat) (s : St) : Bool := !dirtyB s.2 && rightB R C p s.1
noncomputable def runL (R C p q : Nat) : Nat → St → St
  | 0, s => s
  | n + 1, s => if doneB R C p (roundL R C p q s) = true then roundL R C p q s else runL R C p q n (roundL R C p q s)
theorem run_stop {R C p q n : Nat} {s : St} (h : doneB R C p (roundL R C p q s) = true) : runL R C p q (n + 1) s = roundL R C p q s := by
  show (if _ then _ else _) = _; rw [if_pos h]
theorem run_go {R C p q n : Nat} {s : St} (h : doneB R C p (roundL R C p q s) = false) : runL R C p q (n + 1) s = runL R C p q n (roundL R C p q s) := by
  show (if _ then _ else _) = _; rw [if_neg (by rw [h]; decide)]
theorem run_len (R C p q : Nat) : ∀ n s, (runL R C p q n s).1.length = s.1.length ∧ (runL R C p q n s).2.length = s.2.length := by
  intro n
  induction n with
  | zero => intro s; exact ⟨rfl, rfl⟩
  | succ n ih =>
    intro s
    have h1 := round_len R C p q s
    cases h : doneB R C p (roundL R C p q s) with
    | true => rw [run_stop h]; exact h1
    | false =>
      rw [run_go h]
      have h2 := ih (roundL R C p q s)
      exact ⟨h2.1.trans h1.1, h2.2.trans h1.2⟩
/-- The marks of the erasures. -/
def markN (n : Nat) (es : List Nat) (k : Nat) : List Bool := putN (List.replicate n false) es (fun _ => true) k
/-- What is handed back: data, lost positions, the number of corrected places. -/
structure Res where
  data : List GF
  lost : List Nat
  fixed : Nat
def goneB (al : Bool) (m : List Bool) (i : Nat) : Bool := al || m.getD i false
def inData (R C p q i : Nat) : Bool := decide (i / C < R - q) && decide (i % C < C - p)
def fixN (al : Bool) (code b : List GF) (m : List Bool) (i n : Nat) : Nat := if goneB al m i = false ∧ b.getD i 0 ≠ code.getD i 0 then n + 1 else n
theorem fix_le (al : Bool) (code b : List GF) (m : List Bool) (i n : Nat) : fixN al code b m i n ≤ n + 1 := by unfold fixN; split <;> omega
def resN (R C p q : Nat) (al : Bool) (code b : List GF) (m : List Bool) : Nat → Res
  | 0 => ⟨[], [], 0⟩
  | i + 1 =>
    if inData R C p q i = true then
      if goneB al m i = true then ⟨(resN R C p q al code b m i).data ++ [0], (resN R C p q al code b m i).lost ++ [(resN R C p q al code b m i).data.length], fixN al code b m i (resN R C p q al code b m i).fixed⟩
      else ⟨(resN R C p q al code b m i).data ++ [b.getD i 0], (resN R C p q al code b m i).lost, fixN al code b m i (resN R C p q al code b m i).fixed⟩
    else ⟨(resN R C p q al code b m i).data, (resN R C p q al code b m i).lost, fixN al code b m i (resN R C p q al code b m i).fixed⟩
section
variable {R C p q : Nat} {al : Bool} {code b : List GF} {m : List Bool} {i : Nat}
theorem res_gone (h1 : inData R C p q i = true) (h2 : goneB al m i = true) : resN R C p q al code b m (i + 1) = ⟨(resN R C p q al code b m i).data ++ [0], (resN R C p q al code b m i).lost ++ [(resN R C p q al code b m i).data.length], fixN al code b m i (resN R C p q al code b m i).fixed⟩ := by
  show (if _ then (if _ then _ else _) else _) = _; rw [if_pos h1, if_pos h2]
theorem res_kept (h1 : inData R C p q i = true) (h2 : goneB al m i = false) : resN R C p q al code b m (i + 1) = ⟨(resN R C p q al code b m i).data ++ [b.getD i 0], (resN R C p q al code b m i).lost, fixN al code b m i (resN R C p q al code b m i).fixed⟩ := by
  show (if _ then (if _ then _ else _) else _) = _; rw [if_pos h1, if_neg (by rw [h2]; decide)]
theorem res_out (h1 : inData R C p q i = false) : resN R C p q al code b m (i + 1) = ⟨(resN R C p q al code b m i).data, (resN R C p q al code b m i).lost, fixN al code b m i (resN R C p q al code b m i).fixed⟩ := by
  show (if _ then (if _ then _ else _) else _) = _; rw [if_neg (by rw [h1]; decide)]
end
noncomputable def allLostB (R C p : Nat) (s : St) : Bool := !dirtyB s.2 && !rightB R C p s.1
noncomputable def unblockL (R C p q : Nat) (code : List GF) (es : List Nat) : Res :=
  let s := runL R C p q 4 (code, markN code.length es es.length)
  resN R C p q (allLostB R C p s) code s.1 s.2 (R * C)
end Go.Proofs.YtmpjkdkgolmgdaaGreat
/- Product codes, plain: what the right block becomes, and what Decode makes of a block with few bad rows. -/
namespace Go.Proofs.YtmpjkdkgolmgdaaGreat
open Go.RowKit
set_option linter.unusedVariables false

theorem place_inj {C r r' c c' : Nat} (hc : c < C) (hc' : c' < C) (h : r * C + c = r' * C + c') : r = r' ∧ c = c' := by
  have h1 : (r * C + c) / C = r := by rw [Nat.mul_comm, Nat.mul_add_div (by omega), Nat.div_eq_of_lt hc, Nat.add_zero]
  have h2 : (r' * C + c') / C = r' := by rw [Nat.mul_comm, Nat.mul_add_div (by omega), Nat.div_eq_of_lt hc', Nat.add_zero]
  have : r = r' := by rw [← h1, ← h2, h]
  subst this
  exact ⟨rfl, by omega⟩
theorem mem_rowP {C r i : Nat} : i ∈ rowP C r ↔ ∃ c, c < C ∧ r * C + c = i := by
  unfold rowP; rw [List.mem_map]; simp only [List.mem_range]
theorem mem_colP {R C c i : Nat} : i ∈ colP R C c ↔ ∃ r, r < R ∧ r * C + c = i := by
  unfold colP; rw [List.mem_map]; simp only [List.mem_range]
theorem gmem {l : List Nat} {j : Nat} (hj : j < l.length) : l.getD j 0 ∈ l := by simp [List.getD, hj]
theorem putN_out {α : Type} (b : List α) (ps : List Nat) (v : Nat → α) (d : α) {i : Nat} (hi : i ∉ ps) : (putN b ps v ps.length).getD i d = b.getD i d :=
  putN_other b ps v d _ (Nat.le_refl _) fun j hj e => hi (e ▸ gmem hj)
/-- What a treatment leaves outside of its places. -/
theorem treat_out (s : St) {ps : List Nat} (p : Nat) {i : Nat} (hi : i ∉ ps) : (treatL s ps p).1.getD i 0 = s.1.getD i 0 ∧ (treatL s ps p).2.getD i false = s.2.getD i false := by
  cases h : decW p (getL s.1 ps) (erL s.2 ps) with
  | some c => rw [treat_hit h]; exact ⟨putN_out _ _ _ _ hi, putN_out _ _ _ _ hi⟩
  | none => rw [treat_miss h]; exact ⟨rfl, putN_out _ _ _ _ hi⟩
/-- What a treatment makes of its places. -/
theorem treat_in_hit {s : St} {ps : List Nat} {p : Nat} {c : List GF} (hnd : ps.Nodup) (h1 : ∀ i ∈ ps, i < s.1.length) (h2 : ∀ i ∈ ps, i < s.2.length) (h : decW p (getL s.1 ps) (erL s.2 ps) = some c) {k : Nat} (hk : k < ps.length) :
    (treatL s ps p).1.getD (ps.getD k 0) 0 = c.getD k 0 ∧ (treatL s ps p).2.getD (ps.getD k 0) false = false := by
  rw [treat_hit h]
  exact ⟨putN_at _ _ _ _ hnd h1 _ (Nat.le_refl _) k hk, putN_at _ _ _ _ hnd h2 _ (Nat.le_refl _) k hk⟩
theorem treat_in_miss {s : St} {ps : List Nat} {p : Nat} (hnd : ps.Nodup) (h2 : ∀ i ∈ ps, i < s.2.length) (h : decW p (getL s.1 ps) (erL s.2 ps) = none) {k : Nat} (hk : k < ps.length) :
    (treatL s ps p).2.getD (ps.getD k 0) false = true := by
  rw [treat_miss h]
  exact putN_at _ _ _ _ hnd h2 _ (Nat.le_refl _) k hk
/-- The marks of a treatment are all alike. -/
theorem treat_marks {s : St} {ps : List Nat} {p : Nat} (hnd : ps.Nodup) (h1 : ∀ i ∈ ps, i < s.1.length) (h2 : ∀ i ∈ ps, i < s.2.length) : ∃ t : Bool, ∀ k, k < ps.length → (treatL s ps p).2.getD (ps.getD k 0) false = t := by
  cases h : decW p (getL s.1 ps) (erL s.2 ps) with
  | some c => exact ⟨false, fun k hk => (treat_in_hit hnd h1 h2 h hk).2⟩
  | none => exact ⟨true, fun k hk => treat_in_miss hnd h2 h hk⟩
theorem erL_nodup (m : List Bool) (ps : List Nat) : (erL m ps).Nodup := sorted_nodup (erL_sorted m ps)
/-- A treatment of a word within the bound of c. -/
theorem treat_within {s : St} {ps : List Nat} {p : Nat} {c : List GF} (hnd : ps.Nodup) (hn : ps.length ≤ 255) (h1 : ∀ i ∈ ps, i < s.1.length) (h2 : ∀ i ∈ ps, i < s.2.length) (hW : Within p (getL s.1 ps) (erL s.2 ps) c) {k : Nat} (hk : k < ps.length) :
    (treatL s ps p).1.getD (ps.getD k 0) 0 = c.getD k 0 ∧ (treatL s ps p).2.getD (ps.getD k 0) false = false :=
  treat_in_hit hnd h1 h2 (decW_hit (by rw [getL_len]; exact hn) (erL_nodup _ _) (fun i hi => by rw [getL_len]; exact erL_lt hi) hW) hk
/-! ### Rows that can be corrected -/
/-- Wrong places of a row: erased ones count once, others twice. -/
def sumN (b x : List GF) (es : List Nat) (C r : Nat) : Nat → Nat
  | 0 => 0
  | c + 1 => sumN b x es C r c + if r * C + c ∈ es then 1 else if b.getD (r * C + c) 0 ≠ x.getD (r * C + c) 0 then 2 else 0
def wrongN (b x : List GF) (es : List Nat) (C p : Nat) : Nat → Nat
  | 0 => 0
  | r + 1 => wrongN b x es C p r + if p < sumN b x es C r C then 1 else 0
def badRows (b x : List GF) (es : List Nat) (C p R : Nat) : List Nat := (List.range R).filter fun r => decide (p < sumN b x es C r C)
theorem wrongN_eq (b x : List GF) (es : List Nat) (C p R : Nat) : wrongN b x es C p R = (badRows b x es C p R).length := by
  unfold badRows
  induction R with
  | zero => rfl
  | succ R ih =>
    show wrongN b x es C p R + _ = _
    rw [List.range_succ, List.filter_append, List.length_append, ← ih]
    congr 1
    by_cases h : p < sumN b x es C R C
    · rw [if_pos h, List.filter_cons_of_pos (by simpa using h)]; rfl
    · rw [if_neg h, List.filter_cons_of_neg (by simpa using h)]; rfl
theorem mark_len (n : Nat) (es : List Nat) (k : Nat) : (markN n es k).length = n := by unfold markN; rw [putN_len]; simp
theorem mark_step (n : Nat) (es : List Nat) (k : Nat) : markN n es (k + 1) = (markN n es k).set (es.getD k 0) true := rfl
/-- What is marked at the start. -/
theorem mark_get {n : Nat} {es : List Nat} (hlt : ∀ i ∈ es, i < n) {i : Nat} (hi : i < n) : (markN n es es.length).getD i false = decide (i ∈ es) := by
  have key : ∀ k, k ≤ es.length → (markN n es k).getD i false = decide (i ∈ es.take k) := by
    intro k
    induction k with
    | zero => intro _; show (List.replicate n false).getD i false = _; simp [List.getD, hi]
    | succ k ih =>
      intro hk
      rw [mark_step]
      have e : es.take (k + 1) = es.take k ++ [es.getD k 0] := by
        rw [List.take_succ_eq_append_getElem (by omega)]; simp [List.getD, show k < es.length by omega]
      rw [e]
      by_cases h : es.getD k 0 = i
      · subst h
        rw [gset_eq (by rw [mark_len]; exact hlt _ (gmem (by omega)))]
        exact (decide_eq_true (List.mem_append_right _ (List.mem_singleton.2 rfl))).symm
      · rw [gset_ne h, ih (by omega)]
        have : (i ∈ es.take k ++ [es.getD k 0]) ↔ i ∈ es.take k := by
          rw [List.mem_append, List.mem_singleton]
          exact ⟨fun hh => hh.resolve_right fun e => h e.symm, .inl⟩
        exact decide_eq_decide.2 this.symm
  rw [key _ (Nat.le_refl _), List.take_length]
/-- The bound of a row. -/
theorem row_within {b x : List GF} {es : List Nat} {m : List Bool} {R C p r : Nat} (hm : ∀ c, c < C → m.getD (r * C + c) false = decide (r * C + c ∈ es)) (hcw : isCW p (rowW C b r)) (hs : sumN b x es C r C ≤ p) : Within p (getL x (rowP C r)) (erL m (rowP C r)) (rowW C b r) := by
  refine ⟨by rw [getL_len, rowP_len]; unfold rowW; rw [lineF_len], hcw, ?_⟩
  have key : ∀ k, k ≤ C → sumN b x es C r k = 2 * ((List.range k).filter fun i => decide ((getL x (rowP C r)).getD i 0 ≠ (rowW C b r).getD i 0) && decide (i ∉ erL m (rowP C r))).length + ((List.range k).filter fun i => m.getD ((rowP C r).getD i 0) false).length := by
    intro k
    induction k with
    | zero => intro _; rfl
    | succ k ih =>
      intro hk
      have hk' : k < C := by omega
      rw [List.range_succ, List.filter_append, List.filter_append, List.length_append, List.length_append]
      show sumN b x es C r k + _ = _
      rw [ih (by omega)]
      have e1 : (getL x (rowP C r)).getD k 0 = x.getD (r * C + k) 0 := by rw [getL_get _ _ (by rw [rowP_len]; exact hk'), rowP_get hk']
      have e2 : (rowW C b r).getD k 0 = b.getD (r * C + k) 0 := by unfold rowW; rw [lineF_get hk']; rfl
      have e3 : m.getD ((rowP C r).getD k 0) false = decide (r * C + k ∈ es) := by rw [rowP_get hk', hm k hk']
      have e4 : k ∈ erL m (rowP C r) ↔ r * C + k ∈ es := by
        unfold erL
        rw [List.mem_filter, List.mem_range, rowP_len, e3]
        simp [hk']
      by_cases h : r * C + k ∈ es
      · rw [if_pos h]
        have f1 : (List.filter (fun i => decide ((getL x (rowP C r)).getD i 0 ≠ (rowW C b r).getD i 0) && decide (i ∉ erL m (rowP C r))) [k]) = [] := List.filter_cons_of_neg (by simp [e4.2 h])
        have f2 : (List.filter (fun i => m.getD ((rowP C r).getD i 0) false) [k]) = [k] := List.filter_cons_of_pos (by rw [e3]; exact decide_eq_true h)
        rw [f1, f2]
        simp only [List.length_nil, List.length_singleton]; omega
      · rw [if_neg h]
        have f2 : (List.filter (fun i => m.getD ((rowP C r).getD i 0) false) [k]) = [] := List.filter_cons_of_neg (by rw [e3]; simp [h])
        have e5 : k ∉ erL m (rowP C r) := fun hh => h (e4.1 hh)
        by_cases h2 : b.getD (r * C + k) 0 ≠ x.getD (r * C + k) 0
        · rw [if_pos h2]
          have f1 : (List.filter (fun i => decide ((getL x (rowP C r)).getD i 0 ≠ (rowW C b r).getD i 0) && decide (i ∉ erL m (rowP C r))) [k]) = [k] := List.filter_cons_of_pos (by
            rw [e1, e2, decide_eq_true (Ne.symm h2), decide_eq_true e5]; rfl)
          rw [f1, f2]
          simp only [List.length_nil, List.length_singleton]; omega
        · rw [if_neg h2]
          have f1 : (List.filter (fun i => decide ((getL x (rowP C r)).getD i 0 ≠ (rowW C b r).getD i 0) && decide (i ∉ erL m (rowP C r))) [k]) = [] := List.filter_cons_of_neg (by
            rw [e1, e2, decide_eq_false (fun hh => h2 (Ne.symm hh))]; simp)
          rw [f1, f2]
          simp only [List.length_nil]; omega
  have h := key C (Nat.le_refl _)
  have w1 : (wrongs (getL x (rowP C r)) (rowW C b r) (erL m (rowP C r))).length = ((List.range C).filter fun i => decide ((getL x (rowP C r)).getD i 0 ≠ (rowW C b r).getD i 0) && decide (i ∉ erL m (rowP C r))).length := by
    unfold wrongs; rw [getL_len, rowP_len]
  have w2 : (erL m (rowP C r)).length = ((List.range C).filter fun i => m.getD ((rowP C r).getD i 0) false).length := by unfold erL; rw [rowP_len]
  rw [w1, w2]; omega
/-! ### The rows, then the columns -/
/-- The state when k rows are done. -/
structure RowsDone (b x : List GF) (es : List Nat) (R C p k : Nat) (s : St) : Prop where
  l1 : s.1.length = R * C
  l2 : s.2.length = R * C
  done : ∀ r, r < k → ∃ t : Bool, (∀ c, c < C → s.2.getD (r * C + c) false = t) ∧ (sumN b x es C r C ≤ p → t = false ∧ ∀ c, c < C → s.1.getD (r * C + c) 0 = b.getD (r * C + c) 0)
  todo : ∀ r, k ≤ r → r < R → ∀ c, c < C → s.1.getD (r * C + c) 0 = x.getD (r * C + c) 0 ∧ s.2.getD (r * C + c) false = decide (r * C + c ∈ es)
theorem rows_done {b x : List GF} {es : List Nat} {R C p q : Nat} (hC0 : 0 < C) (hC : C ≤ 255) (hb : IsBlk R C p q b) (hx : x.length = R * C) (hes : ∀ i ∈ es, i < R * C) : ∀ k, k ≤ R → RowsDone b x es R C p k (rowsN C p (x, markN (R * C) es es.length) k) := by
  intro k
  induction k with
  | zero =>
    intro _
    exact ⟨hx, mark_len _ _ _, fun r hr => absurd hr (Nat.not_lt_zero _), fun r _ hr c hc => ⟨rfl, mark_get hes (place_lt hr hc)⟩⟩
  | succ k ih =>
    intro hk
    have h := ih (by omega)
    generalize hs : rowsN C p (x, markN (R * C) es es.length) k = s at *
    have e : rowsN C p (x, markN (R * C) es es.length) (k + 1) = treatL s (rowP C k) p := by rw [← hs]; rfl
    rw [e]
    have hl := treat_len s (rowP C k) p
    have p1 : ∀ i ∈ rowP C k, i < s.1.length := fun i hi => by rw [h.l1]; exact rowP_lt (by omega) hi
    have p2 : ∀ i ∈ rowP C k, i < s.2.length := fun i hi => by rw [h.l2]; exact rowP_lt (by omega) hi
    have hout : ∀ r, r ≠ k → ∀ c, c < C → r * C + c ∉ rowP C k := fun r hr c hc hm => by
      obtain ⟨c', hc', e⟩ := mem_rowP.1 hm
      exact hr (place_inj hc' hc e).1.symm
    refine ⟨hl.1.trans h.l1, hl.2.trans h.l2, fun r hr => ?_, fun r hr hrR c hc => ?_⟩
    · by_cases e : r = k
      · subst e
        obtain ⟨t, ht⟩ := treat_marks (s := s) (p := p) (rowP_nodup C r) p1 p2
        refine ⟨t, fun c hc => by have := ht c (by rw [rowP_len]; exact hc); rwa [rowP_get hc] at this, fun hsum => ?_⟩
        have hW : Within p (getL s.1 (rowP C r)) (erL s.2 (rowP C r)) (rowW C b r) := by
          have e1 : getL s.1 (rowP C r) = getL x (rowP C r) := by
            rw [getL_row, getL_row]
            exact lineF_congr fun c hc => (h.todo r (Nat.le_refl _) (by omega) c hc).1
          rw [e1]
          exact row_within (R := R) (fun c hc => (h.todo r (Nat.le_refl _) (by omega) c hc).2) (hb.2.1 r (by omega)) hsum
        have key := fun c (hc : c < C) => treat_within (rowP_nodup C r) (by rw [rowP_len]; exact hC) p1 p2 hW (k := c) (by rw [rowP_len]; exact hc)
        refine ⟨?_, fun c hc => ?_⟩
        · have k1 := (key 0 hC0).2
          rw [ht 0 (by rw [rowP_len]; exact hC0)] at k1; exact k1
        · have k1 := (key c hc).1
          rw [rowP_get hc] at k1
          rw [k1]; unfold rowW; rw [lineF_get hc]; rfl
      · obtain ⟨t, h1, h2⟩ := h.done r (by omega)
        have key := fun c (hc : c < C) => treat_out s p (hout r e c hc)
        exact ⟨t, fun c hc => by rw [(key c hc).2]; exact h1 c hc, fun hs => ⟨(h2 hs).1, fun c hc => by rw [(key c hc).1]; exact (h2 hs).2 c hc⟩⟩
    · have key := treat_out s p (hout r (by omega) c hc)
      rw [key.1, key.2]
      exact h.todo r (by omega) hrR c hc
theorem filter_two (f g h : Nat → Bool) (n : Nat) (hf : ∀ i, i < n → f i = true → h i = true) (hg : ∀ i, i < n → g i = true → h i = true) (hfg : ∀ i, i < n → f i = true → g i = false) :
    ((List.range n).filter f).length + ((List.range n).filter g).length ≤ ((List.range n).filter h).length := by
  induction n with
  | zero => exact Nat.le_refl _
  | succ n ih =>
    have := ih (fun i hi => hf i (by omega)) (fun i hi => hg i (by omega)) (fun i hi => hfg i (by omega))
    have a := hf n (by omega)
    have b := hg n (by omega)
    have c := hfg n (by omega)
    simp only [List.range_succ, List.filter_append, List.length_append]
    cases hF : f n with
    | true =>
      have hH := a hF
      have hG := c hF
      simp only [List.filter_cons, hF, hG, hH, List.filter_nil, if_true, List.length_singleton]
      simp; omega
    | false =>
      cases hG : g n with
      | true =>
        have hH := b hG
        simp only [List.filter_cons, hF, hG, hH, List.filter_nil, if_true, List.length_singleton]
        simp; omega
      | false =>
        simp only [List.filter_cons, hF, hG, List.filter_nil]
        simp; omega
/-- The bound of a column, behind the rows. -/
theorem col_within {b x : List GF} {es : List Nat} {R C p q c : Nat} {s : St} (h : RowsDone b x es R C p R s) (hcw : isCW q (colW R C b c)) (hc : c < C) (hw : wrongN b x es C p R ≤ q / 2) : Within q (getL s.1 (colP R C c)) (erL s.2 (colP R C c)) (colW R C b c) := by
  refine ⟨by rw [getL_len, colP_len]; unfold colW; rw [lineF_len], hcw, ?_⟩
  rw [wrongN_eq] at hw
  have key := filter_two (fun i => decide ((getL s.1 (colP R C c)).getD i 0 ≠ (colW R C b c).getD i 0) && decide (i ∉ erL s.2 (colP R C c))) (fun i => s.2.getD ((colP R C c).getD i 0) false) (fun r => decide (p < sumN b x es C r C)) R ?_ ?_ ?_
  · have w1 : (wrongs (getL s.1 (colP R C c)) (colW R C b c) (erL s.2 (colP R C c))).length = ((List.range R).filter fun i => decide ((getL s.1 (colP R C c)).getD i 0 ≠ (colW R C b c).getD i 0) && decide (i ∉ erL s.2 (colP R C c))).length := by
      unfold wrongs; rw [getL_len, colP_len]
    have w2 : (erL s.2 (colP R C c)).length = ((List.range R).filter fun i => s.2.getD ((colP R C c).getD i 0) false).length := by unfold erL; rw [colP_len]
    rw [w1, w2]
    unfold badRows at hw
    omega
  · intro r hr hf
    rw [Bool.and_eq_true, decide_eq_true_eq] at hf
    refine decide_eq_true (Nat.lt_of_not_le fun hle => hf.1 ?_)
    obtain ⟨t, h1, h2⟩ := h.done r hr
    rw [getL_get _ _ (by rw [colP_len]; exact hr), colP_get hr, (h2 hle).2 c hc]
    unfold colW; rw [lineF_get hr]; rfl
  · intro r hr hg
    obtain ⟨t, h1, h2⟩ := h.done r hr
    refine decide_eq_true (Nat.lt_of_not_le fun hle => ?_)
    have hg' : s.2.getD ((colP R C c).getD r 0) false = true := hg
    rw [colP_get hr, h1 c hc, (h2 hle).1] at hg'
    cases hg'
  · intro r hr hf
    rw [Bool.and_eq_true, decide_eq_true_eq, decide_eq_true_eq] at hf
    cases hm : s.2.getD ((colP R C c).getD r 0) false with
    | false => rfl
    | true => exact absurd (List.mem_filter.2 ⟨List.mem_range.2 (by rw [colP_len]; exact hr), hm⟩) hf.2
structure ColsDone (b : List GF) (s0 : St) (R C k : Nat) (s : St) : Prop where
  l1 : s.1.length = R * C
  l2 : s.2.length = R * C
  done : ∀ c, c < k → ∀ r, r < R → s.1.getD (r * C + c) 0 = b.getD (r * C + c) 0 ∧ s.2.getD (r * C + c) false = false
  todo : ∀ c, k ≤ c → c < C → ∀ r, r < R → s.1.getD (r * C + c) 0 = s0.1.getD (r * C + c) 0 ∧ s.2.getD (r * C + c) false = s0.2.getD (r * C + c) false
theorem cols_done {b x : List GF} {es : List Nat} {R C p q : Nat} {s0 : St} (hR : R ≤ 255) (hb : IsBlk R C p q b) (h0 : RowsDone b x es R C p R s0) (hw : wrongN b x es C p R ≤ q / 2) : ∀ k, k ≤ C → ColsDone b s0 R C k (colsN R C q s0 k) := by
  intro k
  induction k with
  | zero => intro _; exact ⟨h0.l1, h0.l2, fun c hc => absurd hc (Nat.not_lt_zero _), fun c _ hc r hr => ⟨rfl, rfl⟩⟩
  | succ k ih =>
    intro hk
    have h := ih (by omega)
    generalize hs : colsN R C q s0 k = s at *
    have e : colsN R C q s0 (k + 1) = treatL s (colP R C k) q := by rw [← hs]; rfl
    rw [e]
    have hl := treat_len s (colP R C k) q
    have hk' : k < C := by omega
    have p1 : ∀ i ∈ colP R C k, i < s.1.length := fun i hi => by rw [h.l1]; exact colP_lt hk' hi
    have p2 : ∀ i ∈ colP R C k, i < s.2.length := fun i hi => by rw [h.l2]; exact colP_lt hk' hi
    have hout : ∀ c, c < C → c ≠ k → ∀ r, r * C + c ∉ colP R C k := fun c hc hck r hm => by
      obtain ⟨r', hr', e⟩ := mem_colP.1 hm
      exact hck (place_inj hk' hc e).2.symm
    refine ⟨hl.1.trans h.l1, hl.2.trans h.l2, fun c hc r hr => ?_, fun c hc hcC r hr => ?_⟩
    · by_cases e : c = k
      · subst e
        have hW : Within q (getL s.1 (colP R C c)) (erL s.2 (colP R C c)) (colW R C b c) := by
          have e1 : getL s.1 (colP R C c) = getL s0.1 (colP R C c) := by
            rw [getL_col, getL_col]
            exact lineF_congr fun r hr => (h.todo c (Nat.le_refl _) hk' r hr).1
          have e2 : erL s.2 (colP R C c) = erL s0.2 (colP R C c) := by
            unfold erL
            refine List.filter_congr fun r hr => ?_
            rw [List.mem_range, colP_len] at hr
            rw [colP_get hr]
            exact (h.todo c (Nat.le_refl _) hk' r hr).2
          rw [e1, e2]
          exact col_within h0 (hb.2.2 c hk') hk' hw
        have key := treat_within (colP_nodup R hk') (by rw [colP_len]; exact hR) p1 p2 hW (k := r) (by rw [colP_len]; exact hr)
        rw [colP_get hr] at key
        refine ⟨?_, key.2⟩
        rw [key.1]; unfold colW; rw [lineF_get hr]; rfl
      · have key := treat_out s q (hout c (by omega) e r)
        rw [key.1, key.2]
        exact h.done c (by omega) r hr
    · have key := treat_out s q (hout c hcC (by omega) r)
      rw [key.1, key.2]
      exact h.todo c (by omega) hcC r hr
theorem dirty_false {m : List Bool} (h : ∀ i, i < m.length → m.getD i false = false) : dirtyB m = false := by
  unfold dirtyB
  refine decide_eq_false fun hm => ?_
  obtain ⟨i, hi, he⟩ := List.getElem_of_mem hm
  have := h i hi
  simp [List.getD, hi] at this
  rw [this] at he; cases he
theorem right_blk {R C p q : Nat} {b : List GF} (h : IsBlk R C p q b) : rightB R C p b = true := by
  exact rightB_iff.2 h.2.1
/-- A block with few bad rows is right after one round. -/
theorem round_right {b x : List GF} {es : List Nat} {R C p q : Nat} (hC0 : 0 < C) (hC : C ≤ 255) (hR : R ≤ 255) (hb : IsBlk R C p q b) (hx : x.length = R * C) (hes : ∀ i ∈ es, i < R * C) (hw : wrongN b x es C p R ≤ q / 2) :
    ∃ m : List Bool, roundL R C p q (x, markN (R * C) es es.length) = (b, m) ∧ m.length = R * C ∧ ∀ i, i < R * C → m.getD i false = false := by
  have h := cols_done hR hb (rows_done hC0 hC hb hx hes R (Nat.le_refl _)) hw C (Nat.le_refl _)
  refine ⟨(roundL R C p q (x, markN (R * C) es es.length)).2, ?_, h.l2, fun i hi => ?_⟩
  · refine Prod.ext ?_ rfl
    refine block_eq h.l1 hb.1 fun r hr c hc => ?_
    exact (h.done c hc r hr).1
  · obtain ⟨h1, h2, h3⟩ := place_of hi
    have := (h.done _ h2 _ h1).2
    rw [h3] at this; exact this
/-! ### What is handed back -/
theorem gone_no {m : List Bool} {i : Nat} (h : m.getD i false = false) : goneB false m i = false := by unfold goneB; rw [h]; rfl
/-- The data places before i. -/
def dataN (R C p q : Nat) (b : List GF) : Nat → List GF
  | 0 => []
  | i + 1 => if inData R C p q i = true then dataN R C p q b i ++ [b.getD i 0] else dataN R C p q b i
theorem res_clean (R C p q : Nat) (code b : List GF) {m : List Bool} : ∀ i, (∀ j, j < i → m.getD j false = false) → resN R C p q false code b m i = ⟨dataN R C p q b i, [], dcnt b code [] i⟩ := by
  intro i
  induction i with
  | zero => intro _; show (⟨[], [], 0⟩ : Res) = ⟨[], [], dcnt b code [] 0⟩; rw [dcnt_zero]
  | succ i ih =>
    intro h
    have hg := gone_no (h i (by omega))
    have hr := ih fun j hj => h j (by omega)
    have hf : fixN false code b m i (dcnt b code [] i) = dcnt b code [] (i + 1) := by
      unfold fixN
      by_cases hne : b.getD i 0 ≠ code.getD i 0
      · rw [if_pos ⟨hg, hne⟩, dcnt_yes hne (by simp)]
      · rw [if_neg (fun hh => hne hh.2), dcnt_no (.inl (Classical.not_not.1 hne))]
    cases hd : inData R C p q i with
    | true => rw [res_kept hd hg, hr, hf]; show _ = (⟨if inData R C p q i = true then _ else _, _, _⟩ : Res); rw [if_pos hd]
    | false => rw [res_out hd, hr, hf]; show _ = (⟨if inData R C p q i = true then _ else _, _, _⟩ : Res); rw [if_neg (by rw [hd]; decide)]
/-- How many data places lie before i. -/
def cntD (R C p q i : Nat) : Nat := min (i / C) (R - q) * (C - p) + if i / C < R - q then min (i % C) (C - p) else 0
theorem cntD_step {R C p q i : Nat} (hC : 0 < C) (hp : p ≤ C) : cntD R C p q (i + 1) = cntD R C p q i + if inData R C p q i = true then 1 else 0 := by
  have hd : i = C * (i / C) + i % C := (Nat.div_add_mod i C).symm
  have hm := Nat.mod_lt i hC
  generalize hr : i / C = r at *
  generalize hc : i % C = c at *
  unfold cntD inData
  rw [hr, hc]
  by_cases e : c + 1 < C
  · have e1 : (i + 1) / C = r := by rw [hd, Nat.add_assoc, Nat.mul_add_div hC, Nat.div_eq_of_lt e, Nat.add_zero]
    have e2 : (i + 1) % C = c + 1 := by rw [hd, Nat.add_assoc, Nat.mul_add_mod, Nat.mod_eq_of_lt e]
    rw [e1, e2]
    by_cases h1 : r < R - q
    · by_cases h2 : c < C - p
      · simp only [h1, h2, decide_true, Bool.and_self, if_true]; omega
      · simp only [h1, h2, decide_true, decide_false, Bool.and_false, if_true]; simp; omega
    · simp only [h1, decide_false, Bool.false_and, if_false]; simp
  · have e0 : i + 1 = C * (r + 1) + 0 := by rw [Nat.mul_add]; omega
    have e1 : (i + 1) / C = r + 1 := by rw [e0, Nat.mul_add_div hC, Nat.zero_div, Nat.add_zero]
    have e2 : (i + 1) % C = 0 := by rw [e0, Nat.mul_add_mod, Nat.zero_mod]
    rw [e1, e2]
    by_cases h1 : r < R - q
    · rw [Nat.min_eq_left (by omega : r + 1 ≤ R - q), Nat.min_eq_left (by omega : r ≤ R - q), Nat.add_mul, Nat.one_mul]
      by_cases h2 : c < C - p
      · simp only [h1, h2, decide_true, Bool.and_self, if_true]
        split <;> omega
      · simp only [h1, h2, decide_true, decide_false, Bool.and_false, if_true]
        simp
        omega
    · rw [Nat.min_eq_right (by omega : R - q ≤ r + 1), Nat.min_eq_right (by omega : R - q ≤ r)]
      simp only [h1, decide_false, Bool.false_and, if_false, show ¬ r + 1 < R - q by omega]; simp
theorem cntD_zero {R C p q : Nat} : cntD R C p q 0 = 0 := by unfold cntD; simp
theorem cntD_at {R C p q i : Nat} (h : inData R C p q i = true) : cntD R C p q i = i / C * (C - p) + i % C := by
  unfold inData at h
  rw [Bool.and_eq_true, decide_eq_true_eq, decide_eq_true_eq] at h
  unfold cntD
  rw [if_pos h.1, Nat.min_eq_left (by omega), Nat.min_eq_left (by omega)]
theorem cntD_end {R C p q : Nat} (hC : 0 < C) (hq : q ≤ R) : cntD R C p q (R * C) = (R - q) * (C - p) := by
  unfold cntD
  rw [Nat.mul_div_cancel _ hC, Nat.mul_mod_left, Nat.min_eq_right (by omega)]
  split <;> simp
theorem data_len {R C p q : Nat} (hC : 0 < C) (hp : p ≤ C) (b : List GF) : ∀ i, (dataN R C p q b i).length = cntD R C p q i := by
  intro i
  induction i with
  | zero => rw [cntD_zero]; rfl
  | succ i ih =>
    rw [cntD_step hC hp]
    unfold dataN
    split
    · rw [List.length_append, ih]; rfl
    · rw [ih]; rfl
theorem append_snoc_get {l : List GF} {x : GF} {j : Nat} (hj : j < l.length + 1) : (l ++ [x]).getD j 0 = if j < l.length then l.getD j 0 else x := by
  by_cases h : j < l.length
  · rw [if_pos h]; simp [List.getD, List.getElem?_append, h]
  · rw [if_neg h]
    obtain rfl : j = l.length := by omega
    simp [List.getD]
/-- The data places of the code block of data. -/
theorem data_of {d b : List GF} {R C p q : Nat} (hC : 0 < C) (hp : p ≤ C) (h : IsBlock d R C p q b) : ∀ i, i ≤ R * C → ∀ j, j < cntD R C p q i → (dataN R C p q b i).getD j 0 = d.getD j 0 := by
  intro i
  induction i with
  | zero => intro _ j hj; rw [cntD_zero] at hj; omega
  | succ i ih =>
    intro hi j hj
    rw [cntD_step hC hp] at hj
    unfold dataN
    by_cases hd : inData R C p q i = true
    · rw [if_pos hd] at hj ⊢
      have hl := data_len (R := R) (q := q) hC hp b i
      rw [append_snoc_get (by rw [hl]; omega), hl]
      by_cases e : j < cntD R C p q i
      · rw [if_pos e]; exact ih (by omega) j e
      · rw [if_neg e]
        obtain rfl : j = cntD R C p q i := by omega
        rw [cntD_at hd]
        unfold inData at hd
        rw [Bool.and_eq_true, decide_eq_true_eq, decide_eq_true_eq] at hd
        have := h.2 (i / C) hd.1 (i % C) hd.2
        rw [← this]
        unfold at2
        rw [(place_of (R := R) (C := C) (by omega)).2.2]
    · rw [if_neg hd] at hj ⊢
      exact ih (by omega) j (by omega)
theorem data_all {d b : List GF} {R C p q : Nat} (hC : 0 < C) (hp : p ≤ C) (hq : q ≤ R) (hd : d.length = (R - q) * (C - p)) (h : IsBlock d R C p q b) : dataN R C p q b (R * C) = d := by
  have hl := data_len (R := R) (q := q) hC hp b (R * C)
  rw [cntD_end hC hq] at hl
  refine eq_of_getD (hl.trans hd.symm) fun j hj => ?_
  refine data_of hC hp h _ (Nat.le_refl _) j ?_
  rw [cntD_end hC hq]; omega
/-- Decode restores a block with few bad rows. -/
theorem unblock_right {d b x : List GF} {es : List Nat} {R C p q : Nat} (hC0 : 0 < C) (hC : C ≤ 255) (hR : R ≤ 255) (hp : p ≤ C) (hq : q ≤ R) (hd : d.length = (R - q) * (C - p)) (hb : IsBlock d R C p q b) (hx : x.length = R * C) (hes : ∀ i ∈ es, i < R * C) (hw : wrongN b x es C p R ≤ q / 2) :
    unblockL R C p q x es = ⟨d, [], dcnt b x [] (R * C)⟩ := by
  obtain ⟨m, hm, hml, hmf⟩ := round_right hC0 hC hR hb.1 hx hes hw
  have hdirty : dirtyB m = false := dirty_false fun i hi => hmf i (by omega)
  have hdone : doneB R C p (roundL R C p q (x, markN (R * C) es es.length)) = true := by
    rw [hm]; unfold doneB; rw [hdirty, right_blk hb.1]; rfl
  have hrun : runL R C p q 4 (x, markN (R * C) es es.length) = (b, m) := by rw [run_stop hdone, hm]
  unfold unblockL
  rw [hx]
  simp only [hrun]
  have ha : allLostB R C p (b, m) = false := by unfold allLostB; rw [hdirty, right_blk hb.1]; rfl
  rw [ha, res_clean R C p q x b _ (fun j hj => hmf j (by omega)), data_all hC0 hp hq hd hb]
/-! ### What Decode hands back, in general -/
theorem res_len {R C p q : Nat} (hC : 0 < C) (hp : p ≤ C) (al : Bool) (code b : List GF) (m : List Bool) : ∀ i, (resN R C p q al code b m i).data.length = cntD R C p q i := by
  intro i
  induction i with
  | zero => rw [cntD_zero]; rfl
  | succ i ih =>
    rw [cntD_step hC hp]
    cases hd : inData R C p q i with
    | true =>
      rw [if_pos rfl]
      cases hg : goneB al m i with
      | true => rw [res_gone hd hg, ← ih]; exact List.length_append
      | false => rw [res_kept hd hg, ← ih]; exact List.length_append
    | false => rw [res_out hd, if_neg (by decide), ← ih]; rfl
theorem res_fixed (R C p q : Nat) (al : Bool) (code b : List GF) (m : List Bool) : ∀ i, (resN R C p q al code b m i).fixed ≤ i := by
  intro i
  induction i with
  | zero => exact Nat.le_refl _
  | succ i ih =>
    have h := fix_le al code b m i (resN R C p q al code b m i).fixed
    cases hd : inData R C p q i with
    | true =>
      cases hg : goneB al m i with
      | true => rw [res_gone hd hg]; show fixN _ _ _ _ _ _ ≤ _; omega
      | false => rw [res_kept hd hg]; show fixN _ _ _ _ _ _ ≤ _; omega
    | false => rw [res_out hd]; show fixN _ _ _ _ _ _ ≤ _; omega
theorem res_lost (R C p q : Nat) (al : Bool) (code b : List GF) (m : List Bool) : ∀ i, (resN R C p q al code b m i).lost.Pairwise (· < ·) ∧ ∀ j ∈ (resN R C p q al code b m i).lost, j < (resN R C p q al code b m i).data.length ∧ (resN R C p q al code b m i).data.getD j 0 = 0 := by
  intro i
  induction i with
  | zero => exact ⟨List.Pairwise.nil, fun j hj => by cases hj⟩
  | succ i ih =>
    obtain ⟨h1, h2⟩ := ih
    cases hd : inData R C p q i with
    | true =>
      cases hg : goneB al m i with
      | true =>
        rw [res_gone hd hg]
        generalize resN R C p q al code b m i = x at *
        refine ⟨?_, fun j hj => ?_⟩
        · show (x.lost ++ [x.data.length]).Pairwise (· < ·)
          rw [List.pairwise_append]
          exact ⟨h1, List.pairwise_singleton _ _, fun a ha b hb => by rw [List.mem_singleton] at hb; subst hb; exact (h2 a ha).1⟩
        · have hj : j ∈ x.lost ++ [x.data.length] := hj
          show j < (x.data ++ [0]).length ∧ (x.data ++ [0]).getD j 0 = 0
          rw [List.length_append, List.length_singleton]
          rw [List.mem_append, List.mem_singleton] at hj
          rcases hj with hj | rfl
          · refine ⟨by have := (h2 j hj).1; omega, ?_⟩
            rw [append_snoc_get (by have := (h2 j hj).1; omega), if_pos (h2 j hj).1]; exact (h2 j hj).2
          · refine ⟨by omega, ?_⟩
            rw [append_snoc_get (by omega), if_neg (by omega)]
      | false =>
        rw [res_kept hd hg]
        generalize resN R C p q al code b m i = x at *
        refine ⟨h1, fun j hj => ?_⟩
        show j < (x.data ++ [b.getD i 0]).length ∧ (x.data ++ [b.getD i 0]).getD j 0 = 0
        have hj := h2 j hj
        rw [List.length_append, List.length_singleton]
        refine ⟨by omega, ?_⟩
        rw [append_snoc_get (by omega), if_pos hj.1]; exact hj.2
    | false => rw [res_out hd]; exact ⟨h1, h2⟩
/-- The data of a code block. -/
theorem blk_data {b : List GF} {R C p q : Nat} (hC : 0 < C) (hp : p ≤ C) (hq : q ≤ R) (h : IsBlk R C p q b) : IsBlock (dataN R C p q b (R * C)) R C p q b := by
  refine ⟨h, fun r hr c hc => ?_⟩
  have key : ∀ i, i ≤ R * C → r * C + c < i → (dataN R C p q b i).getD (r * (C - p) + c) 0 = b.getD (r * C + c) 0 := by
    intro i
    induction i with
    | zero => intro _ h; omega
    | succ i ih =>
      intro hi hlt
      have hl := data_len (R := R) (q := q) hC hp b i
      unfold dataN
      by_cases e : i = r * C + c
      · have e1 : i / C = r := by rw [e, Nat.mul_comm, Nat.mul_add_div hC, Nat.div_eq_of_lt (by omega), Nat.add_zero]
        have e2 : i % C = c := by rw [e, Nat.mul_comm, Nat.mul_add_mod, Nat.mod_eq_of_lt (by omega)]
        have hd : inData R C p q i = true := by unfold inData; rw [e1, e2, decide_eq_true hr, decide_eq_true hc]; rfl
        have hct := cntD_at hd
        rw [e1, e2] at hct
        rw [if_pos hd, append_snoc_get (by rw [hl, hct]; omega), if_neg (by rw [hl, hct]; omega), e]
      · have hj := ih (by omega) (by omega)
        have hlen : r * (C - p) + c < (dataN R C p q b i).length := by
          rw [hl]
          have hd : inData R C p q (r * C + c) = true := by
            have e1 : (r * C + c) / C = r := by rw [Nat.mul_comm, Nat.mul_add_div hC, Nat.div_eq_of_lt (by omega), Nat.add_zero]
            have e2 : (r * C + c) % C = c := by rw [Nat.mul_comm, Nat.mul_add_mod, Nat.mod_eq_of_lt (by omega)]
            unfold inData; rw [e1, e2, decide_eq_true hr, decide_eq_true hc]; rfl
          have hs := cntD_step (R := R) (q := q) hC hp (i := r * C + c)
          rw [if_pos hd, cntD_at hd] at hs
          have e1 : (r * C + c) / C = r := by rw [Nat.mul_comm, Nat.mul_add_div hC, Nat.div_eq_of_lt (by omega), Nat.add_zero]
          have e2 : (r * C + c) % C = c := by rw [Nat.mul_comm, Nat.mul_add_mod, Nat.mod_eq_of_lt (by omega)]
          rw [e1, e2] at hs
          have mono : ∀ a n, cntD R C p q a ≤ cntD R C p q (a + n) := fun a n => by
            induction n with
            | zero => exact Nat.le_refl _
            | succ n ih => have := cntD_step (R := R) (q := q) hC hp (i := a + n); rw [← Nat.add_assoc]; omega
          have := mono (r * C + c + 1) (i - (r * C + c + 1))
          rw [show r * C + c + 1 + (i - (r * C + c + 1)) = i by omega] at this
          omega
        split
        · rw [append_snoc_get (by omega), if_pos hlen]; exact hj
        · exact hj
  unfold at2
  exact (key (R * C) (Nat.le_refl _) (place_lt (by omega) (by omega))).symm
theorem sum_same (b : List GF) (C r k : Nat) : sumN b b [] C r k = 0 := by
  induction k with
  | zero => rfl
  | succ k ih =>
    show sumN b b [] C r k + _ = 0
    rw [ih, if_neg (by simp), if_neg (fun h => h rfl)]
theorem wrong_same (b : List GF) (C p R : Nat) : wrongN b b [] C p R = 0 := by
  induction R with
  | zero => rfl
  | succ R ih =>
    show wrongN b b [] C p R + _ = 0
    rw [ih, sum_same, if_neg (by omega)]
end Go.Proofs.YtmpjkdkgolmgdaaGreat
