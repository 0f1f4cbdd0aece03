/-
  No cell of these rows narrows 'for every input' (looked for: loops, veiled, ifaces, maps, wideKeys, modest, calm, conditions, laid).
  DERIVED. THE GIVEN ROWS OF THIS SEAT. 12 by the template 'for every input the law returns true; each argument reads behind the call as it read before'; 0 by the template 'total and deterministic' (their statements: YtoepcbpmbekpgaaTotals.lean).
  GIVEN WITH THE SEED: the statements are not yours to turn. If you find one false, say at which input.
  Laid BY PROGRAM, IN A SANDBOX (cutbox-rows.mjs): the forced cells as the released guide's own fill.sh prints them over the translation d56633fe916e9bcd… (all of the seat's roots in one cut). By AI agents, Wed Nov 11 2026. No macro, syntax, notation, axiom, sorry.
-/
import Derived.Test.YtoepcbpmbekpgaaChecked
import GoSem.Claim
import GoSem.ClaimJoined
import GoSem.ClaimMapViews
import Derived.JoinedTies
import Derived.KernelRfl
namespace Go.Proofs.Ytoepcbpmbekpgaa
/- THE CELL 'sum', in the pinned program and in every row, IS THE sha256 OF THE DUMP (.gsa) THAT YtoepcbpmbekpgaaProg.lean LOADS. Nothing in Lean hashes anything: it is a label: what it is worth is what the hold of that sum in a sandbox is worth. -/
noncomputable def Try.pinned : Pinned := { name := "ytoepcbpmbekpgaa", sum := "d56633fe916e9bcd62e18b9451831f268c4c93460f46a7b8a6addca9e7dc94af", checked := Try.checked }
namespace Rows
def none {H : Type} : Left H := { results := [], args := [] }

/-- 'scriptoriumlaw5.GfMatchesSpec': WHATEVER THE INPUT: true; the input reads as it did. -/
def gfMatchesSpecSpec : ChangeSpec := { name := "gfMatchesSpec", fn := fun _ => fun
  | [d1, d2, d3] => { results := [.lit (.bool true)], args := [d1, d2, d3] }
  | _ => none }
def gfMatchesSpecRow : OpenClaim := { program := "ytoepcbpmbekpgaa", sum := "d56633fe916e9bcd62e18b9451831f268c4c93460f46a7b8a6addca9e7dc94af", func := "scriptorium/scriptoriumlaw5.GfMatchesSpec", spec := "gfMatchesSpec", apart := false }
def GfMatchesSpecSaid : Prop := gfMatchesSpecRow.holds Try.pinned (OpenSpec.ofChange gfMatchesSpecSpec)

/-- ITS FALSE NEIGHBOUR: 'it returns false'. Refute it at one input. -/
def gfMatchesSpecWrong : ChangeSpec := { name := "gfMatchesSpec", fn := fun _ => fun
  | [d1, d2, d3] => { results := [.lit (.bool false)], args := [d1, d2, d3] }
  | _ => none }
def GfMatchesSpecWrongFalsely : Prop := gfMatchesSpecRow.holds Try.pinned (OpenSpec.ofChange gfMatchesSpecWrong)

/-- 'scriptoriumlaw5.GfLogarithmsAdd': WHATEVER THE INPUT: true; the input reads as it did. -/
def gfLogarithmsAddSpec : ChangeSpec := { name := "gfLogarithmsAdd", fn := fun _ => fun
  | [d1, d2] => { results := [.lit (.bool true)], args := [d1, d2] }
  | _ => none }
def gfLogarithmsAddRow : OpenClaim := { program := "ytoepcbpmbekpgaa", sum := "d56633fe916e9bcd62e18b9451831f268c4c93460f46a7b8a6addca9e7dc94af", func := "scriptorium/scriptoriumlaw5.GfLogarithmsAdd", spec := "gfLogarithmsAdd", apart := false }
def GfLogarithmsAddSaid : Prop := gfLogarithmsAddRow.holds Try.pinned (OpenSpec.ofChange gfLogarithmsAddSpec)

/-- ITS FALSE NEIGHBOUR: 'it returns false'. Refute it at one input. -/
def gfLogarithmsAddWrong : ChangeSpec := { name := "gfLogarithmsAdd", fn := fun _ => fun
  | [d1, d2] => { results := [.lit (.bool false)], args := [d1, d2] }
  | _ => none }
def GfLogarithmsAddWrongFalsely : Prop := gfLogarithmsAddRow.holds Try.pinned (OpenSpec.ofChange gfLogarithmsAddWrong)

/-- 'scriptoriumlaw5.InterleaveMeetsMatchesSpec': WHATEVER THE INPUT: true; the input reads as it did. -/
def interleaveMeetsMatchesSpecSpec : ChangeSpec := { name := "interleaveMeetsMatchesSpec", fn := fun _ => fun
  | [d1, d2, d3, d4] => { results := [.lit (.bool true)], args := [d1, d2, d3, d4] }
  | _ => none }
def interleaveMeetsMatchesSpecRow : OpenClaim := { program := "ytoepcbpmbekpgaa", sum := "d56633fe916e9bcd62e18b9451831f268c4c93460f46a7b8a6addca9e7dc94af", func := "scriptorium/scriptoriumlaw5.InterleaveMeetsMatchesSpec", spec := "interleaveMeetsMatchesSpec", apart := false }
def InterleaveMeetsMatchesSpecSaid : Prop := interleaveMeetsMatchesSpecRow.holds Try.pinned (OpenSpec.ofChange interleaveMeetsMatchesSpecSpec)

/-- ITS FALSE NEIGHBOUR: 'it returns false'. Refute it at one input. -/
def interleaveMeetsMatchesSpecWrong : ChangeSpec := { name := "interleaveMeetsMatchesSpec", fn := fun _ => fun
  | [d1, d2, d3, d4] => { results := [.lit (.bool false)], args := [d1, d2, d3, d4] }
  | _ => none }
def InterleaveMeetsMatchesSpecWrongFalsely : Prop := interleaveMeetsMatchesSpecRow.holds Try.pinned (OpenSpec.ofChange interleaveMeetsMatchesSpecWrong)

/-- 'scriptoriumlaw5.InterleaveSpreadsDamage': WHATEVER THE INPUT: true; the input reads as it did. -/
def interleaveSpreadsDamageSpec : ChangeSpec := { name := "interleaveSpreadsDamage", fn := fun _ => fun
  | [d1, d2, d3, d4] => { results := [.lit (.bool true)], args := [d1, d2, d3, d4] }
  | _ => none }
def interleaveSpreadsDamageRow : OpenClaim := { program := "ytoepcbpmbekpgaa", sum := "d56633fe916e9bcd62e18b9451831f268c4c93460f46a7b8a6addca9e7dc94af", func := "scriptorium/scriptoriumlaw5.InterleaveSpreadsDamage", spec := "interleaveSpreadsDamage", apart := false }
def InterleaveSpreadsDamageSaid : Prop := interleaveSpreadsDamageRow.holds Try.pinned (OpenSpec.ofChange interleaveSpreadsDamageSpec)

/-- ITS FALSE NEIGHBOUR: 'it returns false'. Refute it at one input. -/
def interleaveSpreadsDamageWrong : ChangeSpec := { name := "interleaveSpreadsDamage", fn := fun _ => fun
  | [d1, d2, d3, d4] => { results := [.lit (.bool false)], args := [d1, d2, d3, d4] }
  | _ => none }
def InterleaveSpreadsDamageWrongFalsely : Prop := interleaveSpreadsDamageRow.holds Try.pinned (OpenSpec.ofChange interleaveSpreadsDamageWrong)

/-- 'scriptoriumlaw5.InterleaveMeetsIsAdditive': WHATEVER THE INPUT: true; the input reads as it did. -/
def interleaveMeetsIsAdditiveSpec : ChangeSpec := { name := "interleaveMeetsIsAdditive", fn := fun _ => fun
  | [d1, d2, d3, d4, d5] => { results := [.lit (.bool true)], args := [d1, d2, d3, d4, d5] }
  | _ => none }
def interleaveMeetsIsAdditiveRow : OpenClaim := { program := "ytoepcbpmbekpgaa", sum := "d56633fe916e9bcd62e18b9451831f268c4c93460f46a7b8a6addca9e7dc94af", func := "scriptorium/scriptoriumlaw5.InterleaveMeetsIsAdditive", spec := "interleaveMeetsIsAdditive", apart := false }
def InterleaveMeetsIsAdditiveSaid : Prop := interleaveMeetsIsAdditiveRow.holds Try.pinned (OpenSpec.ofChange interleaveMeetsIsAdditiveSpec)

/-- ITS FALSE NEIGHBOUR: 'it returns false'. Refute it at one input. -/
def interleaveMeetsIsAdditiveWrong : ChangeSpec := { name := "interleaveMeetsIsAdditive", fn := fun _ => fun
  | [d1, d2, d3, d4, d5] => { results := [.lit (.bool false)], args := [d1, d2, d3, d4, d5] }
  | _ => none }
def InterleaveMeetsIsAdditiveWrongFalsely : Prop := interleaveMeetsIsAdditiveRow.holds Try.pinned (OpenSpec.ofChange interleaveMeetsIsAdditiveWrong)

/-- 'scriptoriumlaw5.GfIsAField': WHATEVER THE INPUT: true; the input reads as it did. -/
def gfIsAFieldSpec : ChangeSpec := { name := "gfIsAField", fn := fun _ => fun
  | [d1, d2, d3] => { results := [.lit (.bool true)], args := [d1, d2, d3] }
  | _ => none }
def gfIsAFieldRow : OpenClaim := { program := "ytoepcbpmbekpgaa", sum := "d56633fe916e9bcd62e18b9451831f268c4c93460f46a7b8a6addca9e7dc94af", func := "scriptorium/scriptoriumlaw5.GfIsAField", spec := "gfIsAField", apart := false }
def GfIsAFieldSaid : Prop := gfIsAFieldRow.holds Try.pinned (OpenSpec.ofChange gfIsAFieldSpec)

/-- ITS FALSE NEIGHBOUR: 'it returns false'. Refute it at one input. -/
def gfIsAFieldWrong : ChangeSpec := { name := "gfIsAField", fn := fun _ => fun
  | [d1, d2, d3] => { results := [.lit (.bool false)], args := [d1, d2, d3] }
  | _ => none }
def GfIsAFieldWrongFalsely : Prop := gfIsAFieldRow.holds Try.pinned (OpenSpec.ofChange gfIsAFieldWrong)

/-- 'scriptoriumlaw5.GfExponentsAdd': WHATEVER THE INPUT: true; the input reads as it did. -/
def gfExponentsAddSpec : ChangeSpec := { name := "gfExponentsAdd", fn := fun _ => fun
  | [d1, d2] => { results := [.lit (.bool true)], args := [d1, d2] }
  | _ => none }
def gfExponentsAddRow : OpenClaim := { program := "ytoepcbpmbekpgaa", sum := "d56633fe916e9bcd62e18b9451831f268c4c93460f46a7b8a6addca9e7dc94af", func := "scriptorium/scriptoriumlaw5.GfExponentsAdd", spec := "gfExponentsAdd", apart := false }
def GfExponentsAddSaid : Prop := gfExponentsAddRow.holds Try.pinned (OpenSpec.ofChange gfExponentsAddSpec)

/-- ITS FALSE NEIGHBOUR: 'it returns false'. Refute it at one input. -/
def gfExponentsAddWrong : ChangeSpec := { name := "gfExponentsAdd", fn := fun _ => fun
  | [d1, d2] => { results := [.lit (.bool false)], args := [d1, d2] }
  | _ => none }
def GfExponentsAddWrongFalsely : Prop := gfExponentsAddRow.holds Try.pinned (OpenSpec.ofChange gfExponentsAddWrong)

/-- 'scriptoriumlaw5.InterleaveMatchesSpec': WHATEVER THE INPUT: true; the input reads as it did. -/
def interleaveMatchesSpecSpec : ChangeSpec := { name := "interleaveMatchesSpec", fn := fun _ => fun
  | [d1, d2, d3, d4] => { results := [.lit (.bool true)], args := [d1, d2, d3, d4] }
  | _ => none }
def interleaveMatchesSpecRow : OpenClaim := { program := "ytoepcbpmbekpgaa", sum := "d56633fe916e9bcd62e18b9451831f268c4c93460f46a7b8a6addca9e7dc94af", func := "scriptorium/scriptoriumlaw5.InterleaveMatchesSpec", spec := "interleaveMatchesSpec", apart := false }
def InterleaveMatchesSpecSaid : Prop := interleaveMatchesSpecRow.holds Try.pinned (OpenSpec.ofChange interleaveMatchesSpecSpec)

/-- ITS FALSE NEIGHBOUR: 'it returns false'. Refute it at one input. -/
def interleaveMatchesSpecWrong : ChangeSpec := { name := "interleaveMatchesSpec", fn := fun _ => fun
  | [d1, d2, d3, d4] => { results := [.lit (.bool false)], args := [d1, d2, d3, d4] }
  | _ => none }
def InterleaveMatchesSpecWrongFalsely : Prop := interleaveMatchesSpecRow.holds Try.pinned (OpenSpec.ofChange interleaveMatchesSpecWrong)

/-- 'scriptoriumlaw5.GfPowersDistribute': WHATEVER THE INPUT: true; the input reads as it did. -/
def gfPowersDistributeSpec : ChangeSpec := { name := "gfPowersDistribute", fn := fun _ => fun
  | [d1, d2, d3, d4] => { results := [.lit (.bool true)], args := [d1, d2, d3, d4] }
  | _ => none }
def gfPowersDistributeRow : OpenClaim := { program := "ytoepcbpmbekpgaa", sum := "d56633fe916e9bcd62e18b9451831f268c4c93460f46a7b8a6addca9e7dc94af", func := "scriptorium/scriptoriumlaw5.GfPowersDistribute", spec := "gfPowersDistribute", apart := false }
def GfPowersDistributeSaid : Prop := gfPowersDistributeRow.holds Try.pinned (OpenSpec.ofChange gfPowersDistributeSpec)

/-- ITS FALSE NEIGHBOUR: 'it returns false'. Refute it at one input. -/
def gfPowersDistributeWrong : ChangeSpec := { name := "gfPowersDistribute", fn := fun _ => fun
  | [d1, d2, d3, d4] => { results := [.lit (.bool false)], args := [d1, d2, d3, d4] }
  | _ => none }
def GfPowersDistributeWrongFalsely : Prop := gfPowersDistributeRow.holds Try.pinned (OpenSpec.ofChange gfPowersDistributeWrong)

/-- 'scriptoriumlaw5.InterleaveSpreadMatchesSpec': WHATEVER THE INPUT: true; the input reads as it did. -/
def interleaveSpreadMatchesSpecSpec : ChangeSpec := { name := "interleaveSpreadMatchesSpec", fn := fun _ => fun
  | [d] => { results := [.lit (.bool true)], args := [d] }
  | _ => none }
def interleaveSpreadMatchesSpecRow : OpenClaim := { program := "ytoepcbpmbekpgaa", sum := "d56633fe916e9bcd62e18b9451831f268c4c93460f46a7b8a6addca9e7dc94af", func := "scriptorium/scriptoriumlaw5.InterleaveSpreadMatchesSpec", spec := "interleaveSpreadMatchesSpec", apart := false }
def InterleaveSpreadMatchesSpecSaid : Prop := interleaveSpreadMatchesSpecRow.holds Try.pinned (OpenSpec.ofChange interleaveSpreadMatchesSpecSpec)

/-- ITS FALSE NEIGHBOUR: 'it returns false'. Refute it at one input. -/
def interleaveSpreadMatchesSpecWrong : ChangeSpec := { name := "interleaveSpreadMatchesSpec", fn := fun _ => fun
  | [d] => { results := [.lit (.bool false)], args := [d] }
  | _ => none }
def InterleaveSpreadMatchesSpecWrongFalsely : Prop := interleaveSpreadMatchesSpecRow.holds Try.pinned (OpenSpec.ofChange interleaveSpreadMatchesSpecWrong)

/-- 'scriptoriumlaw5.GfPartialMatchesSpec': WHATEVER THE INPUT: true; the input reads as it did. -/
def gfPartialMatchesSpecSpec : ChangeSpec := { name := "gfPartialMatchesSpec", fn := fun _ => fun
  | [d1, d2, d3] => { results := [.lit (.bool true)], args := [d1, d2, d3] }
  | _ => none }
def gfPartialMatchesSpecRow : OpenClaim := { program := "ytoepcbpmbekpgaa", sum := "d56633fe916e9bcd62e18b9451831f268c4c93460f46a7b8a6addca9e7dc94af", func := "scriptorium/scriptoriumlaw5.GfPartialMatchesSpec", spec := "gfPartialMatchesSpec", apart := false }
def GfPartialMatchesSpecSaid : Prop := gfPartialMatchesSpecRow.holds Try.pinned (OpenSpec.ofChange gfPartialMatchesSpecSpec)

/-- ITS FALSE NEIGHBOUR: 'it returns false'. Refute it at one input. -/
def gfPartialMatchesSpecWrong : ChangeSpec := { name := "gfPartialMatchesSpec", fn := fun _ => fun
  | [d1, d2, d3] => { results := [.lit (.bool false)], args := [d1, d2, d3] }
  | _ => none }
def GfPartialMatchesSpecWrongFalsely : Prop := gfPartialMatchesSpecRow.holds Try.pinned (OpenSpec.ofChange gfPartialMatchesSpecWrong)

/-- 'scriptoriumlaw5.InterleaveGatherUndoesSpread': WHATEVER THE INPUT: true; the input reads as it did. -/
def interleaveGatherUndoesSpreadSpec : ChangeSpec := { name := "interleaveGatherUndoesSpread", fn := fun _ => fun
  | [d] => { results := [.lit (.bool true)], args := [d] }
  | _ => none }
def interleaveGatherUndoesSpreadRow : OpenClaim := { program := "ytoepcbpmbekpgaa", sum := "d56633fe916e9bcd62e18b9451831f268c4c93460f46a7b8a6addca9e7dc94af", func := "scriptorium/scriptoriumlaw5.InterleaveGatherUndoesSpread", spec := "interleaveGatherUndoesSpread", apart := false }
def InterleaveGatherUndoesSpreadSaid : Prop := interleaveGatherUndoesSpreadRow.holds Try.pinned (OpenSpec.ofChange interleaveGatherUndoesSpreadSpec)

/-- ITS FALSE NEIGHBOUR: 'it returns false'. Refute it at one input. -/
def interleaveGatherUndoesSpreadWrong : ChangeSpec := { name := "interleaveGatherUndoesSpread", fn := fun _ => fun
  | [d] => { results := [.lit (.bool false)], args := [d] }
  | _ => none }
def InterleaveGatherUndoesSpreadWrongFalsely : Prop := interleaveGatherUndoesSpreadRow.holds Try.pinned (OpenSpec.ofChange interleaveGatherUndoesSpreadWrong)

/- THE SECOND FORM. 'bulk': how many values and letters a reading holds, each counted each time it is reached (what is shared counts as often as it is met; a slice's spare places count too). A statement '..UptoSaid' is the law's where the arguments, and the package variables that the reading takes, are together of bulk at most 1048576: NARROWER than '..Said'. Prove '..Said' where nothing that the law and all that it calls make is longer than what came in: it says more and counts as full. Else prove '..UptoSaid'. A law counts once. -/
mutual
def uptoBulk {H : Type} : DataW H → Nat
  | .lit (.string bytes) => bytes.length + 1
  | .lit _ => 1
  | .nil => 1
  | .ptr d => uptoBulk d + 1
  | .slice elems spare => uptoBulkAll elems + uptoBulkAll spare + 1
  | .agg parts => uptoBulkAll parts + 1
  | .iface _ d => uptoBulk d + 1
  | .map entries => uptoBulkEntries entries + 1
  | .held _ => 1
def uptoBulkAll {H : Type} : List (DataW H) → Nat
  | [] => 0
  | d :: r => uptoBulk d + uptoBulkAll r
def uptoBulkEntries {H : Type} : List (Lit × DataW H) → Nat
  | [] => 0
  | x :: r => uptoBulkEntry x + uptoBulkEntries r
def uptoBulkEntry {H : Type} : Lit × DataW H → Nat
  | (.string bytes, d) => bytes.length + uptoBulk d + 1
  | (_, d) => uptoBulk d + 1
 end
def uptoSmall : (H : Type) → List (DataW H) → Bool := fun _ ds => decide (uptoBulkAll ds ≤ 1048576)
def OpenSpec.upto (s : _root_.Go.ChangeSpec) : _root_.Go.OpenSpec := { _root_.Go.OpenSpec.ofChange s with cond := some uptoSmall }

/-- 'scriptoriumlaw5.GfMatchesSpec', WHERE WHAT IT READS IS OF BULK AT MOST 1048576: true; the input reads as it did. -/
def gfMatchesSpecUptoRow : OpenClaim := { program := "ytoepcbpmbekpgaa", sum := "d56633fe916e9bcd62e18b9451831f268c4c93460f46a7b8a6addca9e7dc94af", func := "scriptorium/scriptoriumlaw5.GfMatchesSpec", spec := "gfMatchesSpec", apart := false, narrowed := true }
def GfMatchesSpecUptoSaid : Prop := gfMatchesSpecUptoRow.holds Try.pinned (OpenSpec.upto gfMatchesSpecSpec)

/-- 'scriptoriumlaw5.GfLogarithmsAdd', WHERE WHAT IT READS IS OF BULK AT MOST 1048576: true; the input reads as it did. -/
def gfLogarithmsAddUptoRow : OpenClaim := { program := "ytoepcbpmbekpgaa", sum := "d56633fe916e9bcd62e18b9451831f268c4c93460f46a7b8a6addca9e7dc94af", func := "scriptorium/scriptoriumlaw5.GfLogarithmsAdd", spec := "gfLogarithmsAdd", apart := false, narrowed := true }
def GfLogarithmsAddUptoSaid : Prop := gfLogarithmsAddUptoRow.holds Try.pinned (OpenSpec.upto gfLogarithmsAddSpec)

/-- 'scriptoriumlaw5.InterleaveMeetsMatchesSpec', WHERE WHAT IT READS IS OF BULK AT MOST 1048576: true; the input reads as it did. -/
def interleaveMeetsMatchesSpecUptoRow : OpenClaim := { program := "ytoepcbpmbekpgaa", sum := "d56633fe916e9bcd62e18b9451831f268c4c93460f46a7b8a6addca9e7dc94af", func := "scriptorium/scriptoriumlaw5.InterleaveMeetsMatchesSpec", spec := "interleaveMeetsMatchesSpec", apart := false, narrowed := true }
def InterleaveMeetsMatchesSpecUptoSaid : Prop := interleaveMeetsMatchesSpecUptoRow.holds Try.pinned (OpenSpec.upto interleaveMeetsMatchesSpecSpec)

/-- 'scriptoriumlaw5.InterleaveSpreadsDamage', WHERE WHAT IT READS IS OF BULK AT MOST 1048576: true; the input reads as it did. -/
def interleaveSpreadsDamageUptoRow : OpenClaim := { program := "ytoepcbpmbekpgaa", sum := "d56633fe916e9bcd62e18b9451831f268c4c93460f46a7b8a6addca9e7dc94af", func := "scriptorium/scriptoriumlaw5.InterleaveSpreadsDamage", spec := "interleaveSpreadsDamage", apart := false, narrowed := true }
def InterleaveSpreadsDamageUptoSaid : Prop := interleaveSpreadsDamageUptoRow.holds Try.pinned (OpenSpec.upto interleaveSpreadsDamageSpec)

/-- 'scriptoriumlaw5.InterleaveMeetsIsAdditive', WHERE WHAT IT READS IS OF BULK AT MOST 1048576: true; the input reads as it did. -/
def interleaveMeetsIsAdditiveUptoRow : OpenClaim := { program := "ytoepcbpmbekpgaa", sum := "d56633fe916e9bcd62e18b9451831f268c4c93460f46a7b8a6addca9e7dc94af", func := "scriptorium/scriptoriumlaw5.InterleaveMeetsIsAdditive", spec := "interleaveMeetsIsAdditive", apart := false, narrowed := true }
def InterleaveMeetsIsAdditiveUptoSaid : Prop := interleaveMeetsIsAdditiveUptoRow.holds Try.pinned (OpenSpec.upto interleaveMeetsIsAdditiveSpec)

/-- 'scriptoriumlaw5.GfIsAField', WHERE WHAT IT READS IS OF BULK AT MOST 1048576: true; the input reads as it did. -/
def gfIsAFieldUptoRow : OpenClaim := { program := "ytoepcbpmbekpgaa", sum := "d56633fe916e9bcd62e18b9451831f268c4c93460f46a7b8a6addca9e7dc94af", func := "scriptorium/scriptoriumlaw5.GfIsAField", spec := "gfIsAField", apart := false, narrowed := true }
def GfIsAFieldUptoSaid : Prop := gfIsAFieldUptoRow.holds Try.pinned (OpenSpec.upto gfIsAFieldSpec)

/-- 'scriptoriumlaw5.GfExponentsAdd', WHERE WHAT IT READS IS OF BULK AT MOST 1048576: true; the input reads as it did. -/
def gfExponentsAddUptoRow : OpenClaim := { program := "ytoepcbpmbekpgaa", sum := "d56633fe916e9bcd62e18b9451831f268c4c93460f46a7b8a6addca9e7dc94af", func := "scriptorium/scriptoriumlaw5.GfExponentsAdd", spec := "gfExponentsAdd", apart := false, narrowed := true }
def GfExponentsAddUptoSaid : Prop := gfExponentsAddUptoRow.holds Try.pinned (OpenSpec.upto gfExponentsAddSpec)

/-- 'scriptoriumlaw5.InterleaveMatchesSpec', WHERE WHAT IT READS IS OF BULK AT MOST 1048576: true; the input reads as it did. -/
def interleaveMatchesSpecUptoRow : OpenClaim := { program := "ytoepcbpmbekpgaa", sum := "d56633fe916e9bcd62e18b9451831f268c4c93460f46a7b8a6addca9e7dc94af", func := "scriptorium/scriptoriumlaw5.InterleaveMatchesSpec", spec := "interleaveMatchesSpec", apart := false, narrowed := true }
def InterleaveMatchesSpecUptoSaid : Prop := interleaveMatchesSpecUptoRow.holds Try.pinned (OpenSpec.upto interleaveMatchesSpecSpec)

/-- 'scriptoriumlaw5.GfPowersDistribute', WHERE WHAT IT READS IS OF BULK AT MOST 1048576: true; the input reads as it did. -/
def gfPowersDistributeUptoRow : OpenClaim := { program := "ytoepcbpmbekpgaa", sum := "d56633fe916e9bcd62e18b9451831f268c4c93460f46a7b8a6addca9e7dc94af", func := "scriptorium/scriptoriumlaw5.GfPowersDistribute", spec := "gfPowersDistribute", apart := false, narrowed := true }
def GfPowersDistributeUptoSaid : Prop := gfPowersDistributeUptoRow.holds Try.pinned (OpenSpec.upto gfPowersDistributeSpec)

/-- 'scriptoriumlaw5.InterleaveSpreadMatchesSpec', WHERE WHAT IT READS IS OF BULK AT MOST 1048576: true; the input reads as it did. -/
def interleaveSpreadMatchesSpecUptoRow : OpenClaim := { program := "ytoepcbpmbekpgaa", sum := "d56633fe916e9bcd62e18b9451831f268c4c93460f46a7b8a6addca9e7dc94af", func := "scriptorium/scriptoriumlaw5.InterleaveSpreadMatchesSpec", spec := "interleaveSpreadMatchesSpec", apart := false, narrowed := true }
def InterleaveSpreadMatchesSpecUptoSaid : Prop := interleaveSpreadMatchesSpecUptoRow.holds Try.pinned (OpenSpec.upto interleaveSpreadMatchesSpecSpec)

/-- 'scriptoriumlaw5.GfPartialMatchesSpec', WHERE WHAT IT READS IS OF BULK AT MOST 1048576: true; the input reads as it did. -/
def gfPartialMatchesSpecUptoRow : OpenClaim := { program := "ytoepcbpmbekpgaa", sum := "d56633fe916e9bcd62e18b9451831f268c4c93460f46a7b8a6addca9e7dc94af", func := "scriptorium/scriptoriumlaw5.GfPartialMatchesSpec", spec := "gfPartialMatchesSpec", apart := false, narrowed := true }
def GfPartialMatchesSpecUptoSaid : Prop := gfPartialMatchesSpecUptoRow.holds Try.pinned (OpenSpec.upto gfPartialMatchesSpecSpec)

/-- 'scriptoriumlaw5.InterleaveGatherUndoesSpread', WHERE WHAT IT READS IS OF BULK AT MOST 1048576: true; the input reads as it did. -/
def interleaveGatherUndoesSpreadUptoRow : OpenClaim := { program := "ytoepcbpmbekpgaa", sum := "d56633fe916e9bcd62e18b9451831f268c4c93460f46a7b8a6addca9e7dc94af", func := "scriptorium/scriptoriumlaw5.InterleaveGatherUndoesSpread", spec := "interleaveGatherUndoesSpread", apart := false, narrowed := true }
def InterleaveGatherUndoesSpreadUptoSaid : Prop := interleaveGatherUndoesSpreadUptoRow.holds Try.pinned (OpenSpec.upto interleaveGatherUndoesSpreadSpec)

end Rows
end Go.Proofs.Ytoepcbpmbekpgaa
