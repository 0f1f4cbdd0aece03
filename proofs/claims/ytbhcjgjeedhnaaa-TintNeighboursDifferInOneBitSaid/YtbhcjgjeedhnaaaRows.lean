/-
  No cell of these rows narrows 'for every input' (looked for: loops, veiled, ifaces, maps, wideKeys, modest, calm, conditions, laid).
  DERIVED. THE GIVEN ROWS OF THIS SEAT. 5 by the template 'for every input the law returns true; each argument reads behind the call as it read before'; 0 by the template 'total and deterministic' (their statements: YtbhcjgjeedhnaaaTotals.lean).
  GIVEN WITH THE SEED: the statements are not yours to turn. If you find one false, say at which input.
  Laid BY PROGRAM, IN A SANDBOX (cutbox-rows.mjs): the forced cells as the released guide's own fill.sh prints them over the translation c94de9492c3f772e… (all of the seat's roots in one cut). By AI agents, Wed Nov 11 2026. No macro, syntax, notation, axiom, sorry.
-/
import Derived.Test.YtbhcjgjeedhnaaaChecked
import GoSem.Claim
import GoSem.ClaimJoined
import GoSem.ClaimMapViews
import Derived.JoinedTies
import Derived.KernelRfl
namespace Go.Proofs.Ytbhcjgjeedhnaaa
/- THE CELL 'sum', in the pinned program and in every row, IS THE sha256 OF THE DUMP (.gsa) THAT YtbhcjgjeedhnaaaProg.lean LOADS. Nothing in Lean hashes anything: it is a label: what it is worth is what the hold of that sum in a sandbox is worth. -/
noncomputable def Try.pinned : Pinned := { name := "ytbhcjgjeedhnaaa", sum := "c94de9492c3f772e26fa99caa38923a9f49c383558a72b390226d1f0d5978e15", checked := Try.checked }
namespace Rows
def none {H : Type} : Left H := { results := [], args := [] }

/-- 'scriptoriumlaw5.TintShadesMatchSpec': WHATEVER THE INPUT: true; the input reads as it did. -/
def tintShadesMatchSpecSpec : ChangeSpec := { name := "tintShadesMatchSpec", fn := fun _ => fun
  | [d1, d2, d3] => { results := [.lit (.bool true)], args := [d1, d2, d3] }
  | _ => none }
def tintShadesMatchSpecRow : OpenClaim := { program := "ytbhcjgjeedhnaaa", sum := "c94de9492c3f772e26fa99caa38923a9f49c383558a72b390226d1f0d5978e15", func := "scriptorium/scriptoriumlaw5.TintShadesMatchSpec", spec := "tintShadesMatchSpec", apart := false }
def TintShadesMatchSpecSaid : Prop := tintShadesMatchSpecRow.holds Try.pinned (OpenSpec.ofChange tintShadesMatchSpecSpec)

/-- ITS FALSE NEIGHBOUR: 'it returns false'. Refute it at one input. -/
def tintShadesMatchSpecWrong : ChangeSpec := { name := "tintShadesMatchSpec", fn := fun _ => fun
  | [d1, d2, d3] => { results := [.lit (.bool false)], args := [d1, d2, d3] }
  | _ => none }
def TintShadesMatchSpecWrongFalsely : Prop := tintShadesMatchSpecRow.holds Try.pinned (OpenSpec.ofChange tintShadesMatchSpecWrong)

/-- 'scriptoriumlaw5.TintBytesMatchSpec': WHATEVER THE INPUT: true; the input reads as it did. -/
def tintBytesMatchSpecSpec : ChangeSpec := { name := "tintBytesMatchSpec", fn := fun _ => fun
  | [d1, d2, d3] => { results := [.lit (.bool true)], args := [d1, d2, d3] }
  | _ => none }
def tintBytesMatchSpecRow : OpenClaim := { program := "ytbhcjgjeedhnaaa", sum := "c94de9492c3f772e26fa99caa38923a9f49c383558a72b390226d1f0d5978e15", func := "scriptorium/scriptoriumlaw5.TintBytesMatchSpec", spec := "tintBytesMatchSpec", apart := false }
def TintBytesMatchSpecSaid : Prop := tintBytesMatchSpecRow.holds Try.pinned (OpenSpec.ofChange tintBytesMatchSpecSpec)

/-- ITS FALSE NEIGHBOUR: 'it returns false'. Refute it at one input. -/
def tintBytesMatchSpecWrong : ChangeSpec := { name := "tintBytesMatchSpec", fn := fun _ => fun
  | [d1, d2, d3] => { results := [.lit (.bool false)], args := [d1, d2, d3] }
  | _ => none }
def TintBytesMatchSpecWrongFalsely : Prop := tintBytesMatchSpecRow.holds Try.pinned (OpenSpec.ofChange tintBytesMatchSpecWrong)

/-- 'scriptoriumlaw5.TintJoinUndoesSplit': WHATEVER THE INPUT: true; the input reads as it did. -/
def tintJoinUndoesSplitSpec : ChangeSpec := { name := "tintJoinUndoesSplit", fn := fun _ => fun
  | [d1, d2, d3] => { results := [.lit (.bool true)], args := [d1, d2, d3] }
  | _ => none }
def tintJoinUndoesSplitRow : OpenClaim := { program := "ytbhcjgjeedhnaaa", sum := "c94de9492c3f772e26fa99caa38923a9f49c383558a72b390226d1f0d5978e15", func := "scriptorium/scriptoriumlaw5.TintJoinUndoesSplit", spec := "tintJoinUndoesSplit", apart := false }
def TintJoinUndoesSplitSaid : Prop := tintJoinUndoesSplitRow.holds Try.pinned (OpenSpec.ofChange tintJoinUndoesSplitSpec)

/-- ITS FALSE NEIGHBOUR: 'it returns false'. Refute it at one input. -/
def tintJoinUndoesSplitWrong : ChangeSpec := { name := "tintJoinUndoesSplit", fn := fun _ => fun
  | [d1, d2, d3] => { results := [.lit (.bool false)], args := [d1, d2, d3] }
  | _ => none }
def TintJoinUndoesSplitWrongFalsely : Prop := tintJoinUndoesSplitRow.holds Try.pinned (OpenSpec.ofChange tintJoinUndoesSplitWrong)

/-- 'scriptoriumlaw5.TintNeighboursDifferInOneBit': WHATEVER THE INPUT: true; the input reads as it did. -/
def tintNeighboursDifferInOneBitSpec : ChangeSpec := { name := "tintNeighboursDifferInOneBit", fn := fun _ => fun
  | [d1, d2, d3, d4] => { results := [.lit (.bool true)], args := [d1, d2, d3, d4] }
  | _ => none }
def tintNeighboursDifferInOneBitRow : OpenClaim := { program := "ytbhcjgjeedhnaaa", sum := "c94de9492c3f772e26fa99caa38923a9f49c383558a72b390226d1f0d5978e15", func := "scriptorium/scriptoriumlaw5.TintNeighboursDifferInOneBit", spec := "tintNeighboursDifferInOneBit", apart := false }
def TintNeighboursDifferInOneBitSaid : Prop := tintNeighboursDifferInOneBitRow.holds Try.pinned (OpenSpec.ofChange tintNeighboursDifferInOneBitSpec)

/-- ITS FALSE NEIGHBOUR: 'it returns false'. Refute it at one input. -/
def tintNeighboursDifferInOneBitWrong : ChangeSpec := { name := "tintNeighboursDifferInOneBit", fn := fun _ => fun
  | [d1, d2, d3, d4] => { results := [.lit (.bool false)], args := [d1, d2, d3, d4] }
  | _ => none }
def TintNeighboursDifferInOneBitWrongFalsely : Prop := tintNeighboursDifferInOneBitRow.holds Try.pinned (OpenSpec.ofChange tintNeighboursDifferInOneBitWrong)

/-- 'scriptoriumlaw5.TintToleratesNoise': WHATEVER THE INPUT: true; the input reads as it did. -/
def tintToleratesNoiseSpec : ChangeSpec := { name := "tintToleratesNoise", fn := fun _ => fun
  | [d1, d2, d3] => { results := [.lit (.bool true)], args := [d1, d2, d3] }
  | _ => none }
def tintToleratesNoiseRow : OpenClaim := { program := "ytbhcjgjeedhnaaa", sum := "c94de9492c3f772e26fa99caa38923a9f49c383558a72b390226d1f0d5978e15", func := "scriptorium/scriptoriumlaw5.TintToleratesNoise", spec := "tintToleratesNoise", apart := false }
def TintToleratesNoiseSaid : Prop := tintToleratesNoiseRow.holds Try.pinned (OpenSpec.ofChange tintToleratesNoiseSpec)

/-- ITS FALSE NEIGHBOUR: 'it returns false'. Refute it at one input. -/
def tintToleratesNoiseWrong : ChangeSpec := { name := "tintToleratesNoise", fn := fun _ => fun
  | [d1, d2, d3] => { results := [.lit (.bool false)], args := [d1, d2, d3] }
  | _ => none }
def TintToleratesNoiseWrongFalsely : Prop := tintToleratesNoiseRow.holds Try.pinned (OpenSpec.ofChange tintToleratesNoiseWrong)

/- THE SECOND FORM. 'bulk': how many values and letters a reading holds, each counted each time it is reached (what is shared counts as often as it is met; a slice's spare places count too). A statement '..UptoSaid' is the law's where the arguments, and the package variables that the reading takes, are together of bulk at most 1048576: NARROWER than '..Said'. Prove '..Said' where nothing that the law and all that it calls make is longer than what came in: it says more and counts as full. Else prove '..UptoSaid'. A law counts once. -/
mutual
def uptoBulk {H : Type} : DataW H → Nat
  | .lit (.string bytes) => bytes.length + 1
  | .lit _ => 1
  | .nil => 1
  | .ptr d => uptoBulk d + 1
  | .slice elems spare => uptoBulkAll elems + uptoBulkAll spare + 1
  | .agg parts => uptoBulkAll parts + 1
  | .iface _ d => uptoBulk d + 1
  | .map entries => uptoBulkEntries entries + 1
  | .held _ => 1
def uptoBulkAll {H : Type} : List (DataW H) → Nat
  | [] => 0
  | d :: r => uptoBulk d + uptoBulkAll r
def uptoBulkEntries {H : Type} : List (Lit × DataW H) → Nat
  | [] => 0
  | x :: r => uptoBulkEntry x + uptoBulkEntries r
def uptoBulkEntry {H : Type} : Lit × DataW H → Nat
  | (.string bytes, d) => bytes.length + uptoBulk d + 1
  | (_, d) => uptoBulk d + 1
 end
def uptoSmall : (H : Type) → List (DataW H) → Bool := fun _ ds => decide (uptoBulkAll ds ≤ 1048576)
def OpenSpec.upto (s : _root_.Go.ChangeSpec) : _root_.Go.OpenSpec := { _root_.Go.OpenSpec.ofChange s with cond := some uptoSmall }

/-- 'scriptoriumlaw5.TintShadesMatchSpec', WHERE WHAT IT READS IS OF BULK AT MOST 1048576: true; the input reads as it did. -/
def tintShadesMatchSpecUptoRow : OpenClaim := { program := "ytbhcjgjeedhnaaa", sum := "c94de9492c3f772e26fa99caa38923a9f49c383558a72b390226d1f0d5978e15", func := "scriptorium/scriptoriumlaw5.TintShadesMatchSpec", spec := "tintShadesMatchSpec", apart := false, narrowed := true }
def TintShadesMatchSpecUptoSaid : Prop := tintShadesMatchSpecUptoRow.holds Try.pinned (OpenSpec.upto tintShadesMatchSpecSpec)

/-- 'scriptoriumlaw5.TintBytesMatchSpec', WHERE WHAT IT READS IS OF BULK AT MOST 1048576: true; the input reads as it did. -/
def tintBytesMatchSpecUptoRow : OpenClaim := { program := "ytbhcjgjeedhnaaa", sum := "c94de9492c3f772e26fa99caa38923a9f49c383558a72b390226d1f0d5978e15", func := "scriptorium/scriptoriumlaw5.TintBytesMatchSpec", spec := "tintBytesMatchSpec", apart := false, narrowed := true }
def TintBytesMatchSpecUptoSaid : Prop := tintBytesMatchSpecUptoRow.holds Try.pinned (OpenSpec.upto tintBytesMatchSpecSpec)

/-- 'scriptoriumlaw5.TintJoinUndoesSplit', WHERE WHAT IT READS IS OF BULK AT MOST 1048576: true; the input reads as it did. -/
def tintJoinUndoesSplitUptoRow : OpenClaim := { program := "ytbhcjgjeedhnaaa", sum := "c94de9492c3f772e26fa99caa38923a9f49c383558a72b390226d1f0d5978e15", func := "scriptorium/scriptoriumlaw5.TintJoinUndoesSplit", spec := "tintJoinUndoesSplit", apart := false, narrowed := true }
def TintJoinUndoesSplitUptoSaid : Prop := tintJoinUndoesSplitUptoRow.holds Try.pinned (OpenSpec.upto tintJoinUndoesSplitSpec)

/-- 'scriptoriumlaw5.TintNeighboursDifferInOneBit', WHERE WHAT IT READS IS OF BULK AT MOST 1048576: true; the input reads as it did. -/
def tintNeighboursDifferInOneBitUptoRow : OpenClaim := { program := "ytbhcjgjeedhnaaa", sum := "c94de9492c3f772e26fa99caa38923a9f49c383558a72b390226d1f0d5978e15", func := "scriptorium/scriptoriumlaw5.TintNeighboursDifferInOneBit", spec := "tintNeighboursDifferInOneBit", apart := false, narrowed := true }
def TintNeighboursDifferInOneBitUptoSaid : Prop := tintNeighboursDifferInOneBitUptoRow.holds Try.pinned (OpenSpec.upto tintNeighboursDifferInOneBitSpec)

/-- 'scriptoriumlaw5.TintToleratesNoise', WHERE WHAT IT READS IS OF BULK AT MOST 1048576: true; the input reads as it did. -/
def tintToleratesNoiseUptoRow : OpenClaim := { program := "ytbhcjgjeedhnaaa", sum := "c94de9492c3f772e26fa99caa38923a9f49c383558a72b390226d1f0d5978e15", func := "scriptorium/scriptoriumlaw5.TintToleratesNoise", spec := "tintToleratesNoise", apart := false, narrowed := true }
def TintToleratesNoiseUptoSaid : Prop := tintToleratesNoiseUptoRow.holds Try.pinned (OpenSpec.upto tintToleratesNoiseSpec)

end Rows
end Go.Proofs.Ytbhcjgjeedhnaaa
