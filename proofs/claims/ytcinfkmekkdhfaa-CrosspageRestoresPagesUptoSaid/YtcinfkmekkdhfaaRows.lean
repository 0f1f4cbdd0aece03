/-
  No cell of these rows narrows 'for every input' (looked for: loops, veiled, ifaces, maps, wideKeys, modest, calm, conditions, laid).
  DERIVED. THE GIVEN ROWS OF THIS SEAT. 6 by the template 'for every input the law returns true; each argument reads behind the call as it read before'; 0 by the template 'total and deterministic' (their statements: YtcinfkmekkdhfaaTotals.lean).
  GIVEN WITH THE SEED: the statements are not yours to turn. If you find one false, say at which input.
  Laid BY PROGRAM, IN A SANDBOX (cutbox-rows.mjs): the forced cells as the released guide's own fill.sh prints them over the translation 7a4736cdc587be24… (all of the seat's roots in one cut). By AI agents, Wed Nov 11 2026. No macro, syntax, notation, axiom, sorry.
-/
import Derived.Test.YtcinfkmekkdhfaaChecked
import GoSem.Claim
import GoSem.ClaimJoined
import GoSem.ClaimMapViews
import Derived.JoinedTies
import Derived.KernelRfl
namespace Go.Proofs.Ytcinfkmekkdhfaa
/- THE CELL 'sum', in the pinned program and in every row, IS THE sha256 OF THE DUMP (.gsa) THAT YtcinfkmekkdhfaaProg.lean LOADS. Nothing in Lean hashes anything: it is a label: what it is worth is what the hold of that sum in a sandbox is worth. -/
noncomputable def Try.pinned : Pinned := { name := "ytcinfkmekkdhfaa", sum := "7a4736cdc587be24a84c242f4fe3690c42c0fec2efc571bb91903caad99b632f", checked := Try.checked }
namespace Rows
def none {H : Type} : Left H := { results := [], args := [] }

/-- 'scriptoriumlaw5.CrosspageExtendMatchesSpec': WHATEVER THE INPUT: true; the input reads as it did. -/
def crosspageExtendMatchesSpecSpec : ChangeSpec := { name := "crosspageExtendMatchesSpec", fn := fun _ => fun
  | [d1, d2] => { results := [.lit (.bool true)], args := [d1, d2] }
  | _ => none }
def crosspageExtendMatchesSpecRow : OpenClaim := { program := "ytcinfkmekkdhfaa", sum := "7a4736cdc587be24a84c242f4fe3690c42c0fec2efc571bb91903caad99b632f", func := "scriptorium/scriptoriumlaw5.CrosspageExtendMatchesSpec", spec := "crosspageExtendMatchesSpec", unfollowed := true, recurses := true, apart := false }
def CrosspageExtendMatchesSpecSaid : Prop := crosspageExtendMatchesSpecRow.holds Try.pinned (OpenSpec.ofChange crosspageExtendMatchesSpecSpec)

/-- ITS FALSE NEIGHBOUR: 'it returns false'. Refute it at one input. -/
def crosspageExtendMatchesSpecWrong : ChangeSpec := { name := "crosspageExtendMatchesSpec", fn := fun _ => fun
  | [d1, d2] => { results := [.lit (.bool false)], args := [d1, d2] }
  | _ => none }
def CrosspageExtendMatchesSpecWrongFalsely : Prop := crosspageExtendMatchesSpecRow.holds Try.pinned (OpenSpec.ofChange crosspageExtendMatchesSpecWrong)

/-- 'scriptoriumlaw5.CrosspageRestoreMatchesSpec': WHATEVER THE INPUT: true; the input reads as it did. -/
def crosspageRestoreMatchesSpecSpec : ChangeSpec := { name := "crosspageRestoreMatchesSpec", fn := fun _ => fun
  | [d1, d2, d3] => { results := [.lit (.bool true)], args := [d1, d2, d3] }
  | _ => none }
def crosspageRestoreMatchesSpecRow : OpenClaim := { program := "ytcinfkmekkdhfaa", sum := "7a4736cdc587be24a84c242f4fe3690c42c0fec2efc571bb91903caad99b632f", func := "scriptorium/scriptoriumlaw5.CrosspageRestoreMatchesSpec", spec := "crosspageRestoreMatchesSpec", unfollowed := true, recurses := true, apart := false }
def CrosspageRestoreMatchesSpecSaid : Prop := crosspageRestoreMatchesSpecRow.holds Try.pinned (OpenSpec.ofChange crosspageRestoreMatchesSpecSpec)

/-- ITS FALSE NEIGHBOUR: 'it returns false'. Refute it at one input. -/
def crosspageRestoreMatchesSpecWrong : ChangeSpec := { name := "crosspageRestoreMatchesSpec", fn := fun _ => fun
  | [d1, d2, d3] => { results := [.lit (.bool false)], args := [d1, d2, d3] }
  | _ => none }
def CrosspageRestoreMatchesSpecWrongFalsely : Prop := crosspageRestoreMatchesSpecRow.holds Try.pinned (OpenSpec.ofChange crosspageRestoreMatchesSpecWrong)

/-- 'scriptoriumlaw5.CrosspageRestoresPages': WHATEVER THE INPUT: true; the input reads as it did. -/
def crosspageRestoresPagesSpec : ChangeSpec := { name := "crosspageRestoresPages", fn := fun _ => fun
  | [d1, d2, d3, d4, d5] => { results := [.lit (.bool true)], args := [d1, d2, d3, d4, d5] }
  | _ => none }
def crosspageRestoresPagesRow : OpenClaim := { program := "ytcinfkmekkdhfaa", sum := "7a4736cdc587be24a84c242f4fe3690c42c0fec2efc571bb91903caad99b632f", func := "scriptorium/scriptoriumlaw5.CrosspageRestoresPages", spec := "crosspageRestoresPages", unfollowed := true, recurses := true, apart := false }
def CrosspageRestoresPagesSaid : Prop := crosspageRestoresPagesRow.holds Try.pinned (OpenSpec.ofChange crosspageRestoresPagesSpec)

/-- ITS FALSE NEIGHBOUR: 'it returns false'. Refute it at one input. -/
def crosspageRestoresPagesWrong : ChangeSpec := { name := "crosspageRestoresPages", fn := fun _ => fun
  | [d1, d2, d3, d4, d5] => { results := [.lit (.bool false)], args := [d1, d2, d3, d4, d5] }
  | _ => none }
def CrosspageRestoresPagesWrongFalsely : Prop := crosspageRestoresPagesRow.holds Try.pinned (OpenSpec.ofChange crosspageRestoresPagesWrong)

/-- 'scriptoriumlaw5.CrosspagePositionsAreIndependent': WHATEVER THE INPUT: true; the input reads as it did. -/
def crosspagePositionsAreIndependentSpec : ChangeSpec := { name := "crosspagePositionsAreIndependent", fn := fun _ => fun
  | [d1, d2, d3, d4] => { results := [.lit (.bool true)], args := [d1, d2, d3, d4] }
  | _ => none }
def crosspagePositionsAreIndependentRow : OpenClaim := { program := "ytcinfkmekkdhfaa", sum := "7a4736cdc587be24a84c242f4fe3690c42c0fec2efc571bb91903caad99b632f", func := "scriptorium/scriptoriumlaw5.CrosspagePositionsAreIndependent", spec := "crosspagePositionsAreIndependent", unfollowed := true, recurses := true, apart := false }
def CrosspagePositionsAreIndependentSaid : Prop := crosspagePositionsAreIndependentRow.holds Try.pinned (OpenSpec.ofChange crosspagePositionsAreIndependentSpec)

/-- ITS FALSE NEIGHBOUR: 'it returns false'. Refute it at one input. -/
def crosspagePositionsAreIndependentWrong : ChangeSpec := { name := "crosspagePositionsAreIndependent", fn := fun _ => fun
  | [d1, d2, d3, d4] => { results := [.lit (.bool false)], args := [d1, d2, d3, d4] }
  | _ => none }
def CrosspagePositionsAreIndependentWrongFalsely : Prop := crosspagePositionsAreIndependentRow.holds Try.pinned (OpenSpec.ofChange crosspagePositionsAreIndependentWrong)

/-- 'scriptoriumlaw5.CrosspageTellsLosses': WHATEVER THE INPUT: true; the input reads as it did. -/
def crosspageTellsLossesSpec : ChangeSpec := { name := "crosspageTellsLosses", fn := fun _ => fun
  | [d1, d2] => { results := [.lit (.bool true)], args := [d1, d2] }
  | _ => none }
def crosspageTellsLossesRow : OpenClaim := { program := "ytcinfkmekkdhfaa", sum := "7a4736cdc587be24a84c242f4fe3690c42c0fec2efc571bb91903caad99b632f", func := "scriptorium/scriptoriumlaw5.CrosspageTellsLosses", spec := "crosspageTellsLosses", unfollowed := true, recurses := true, apart := false }
def CrosspageTellsLossesSaid : Prop := crosspageTellsLossesRow.holds Try.pinned (OpenSpec.ofChange crosspageTellsLossesSpec)

/-- ITS FALSE NEIGHBOUR: 'it returns false'. Refute it at one input. -/
def crosspageTellsLossesWrong : ChangeSpec := { name := "crosspageTellsLosses", fn := fun _ => fun
  | [d1, d2] => { results := [.lit (.bool false)], args := [d1, d2] }
  | _ => none }
def CrosspageTellsLossesWrongFalsely : Prop := crosspageTellsLossesRow.holds Try.pinned (OpenSpec.ofChange crosspageTellsLossesWrong)

/-- 'scriptoriumlaw5.CrosspageWithoutParity': WHATEVER THE INPUT: true; the input reads as it did. -/
def crosspageWithoutParitySpec : ChangeSpec := { name := "crosspageWithoutParity", fn := fun _ => fun
  | [d1, d2] => { results := [.lit (.bool true)], args := [d1, d2] }
  | _ => none }
def crosspageWithoutParityRow : OpenClaim := { program := "ytcinfkmekkdhfaa", sum := "7a4736cdc587be24a84c242f4fe3690c42c0fec2efc571bb91903caad99b632f", func := "scriptorium/scriptoriumlaw5.CrosspageWithoutParity", spec := "crosspageWithoutParity", unfollowed := true, recurses := true, apart := false }
def CrosspageWithoutParitySaid : Prop := crosspageWithoutParityRow.holds Try.pinned (OpenSpec.ofChange crosspageWithoutParitySpec)

/-- ITS FALSE NEIGHBOUR: 'it returns false'. Refute it at one input. -/
def crosspageWithoutParityWrong : ChangeSpec := { name := "crosspageWithoutParity", fn := fun _ => fun
  | [d1, d2] => { results := [.lit (.bool false)], args := [d1, d2] }
  | _ => none }
def CrosspageWithoutParityWrongFalsely : Prop := crosspageWithoutParityRow.holds Try.pinned (OpenSpec.ofChange crosspageWithoutParityWrong)

/- THE SECOND FORM. 'bulk': how many values and letters a reading holds, each counted each time it is reached (what is shared counts as often as it is met; a slice's spare places count too). A statement '..UptoSaid' is the law's where the arguments, and the package variables that the reading takes, are together of bulk at most 1048576: NARROWER than '..Said'. Prove '..Said' where nothing that the law and all that it calls make is longer than what came in: it says more and counts as full. Else prove '..UptoSaid'. A law counts once. -/
mutual
def uptoBulk {H : Type} : DataW H → Nat
  | .lit (.string bytes) => bytes.length + 1
  | .lit _ => 1
  | .nil => 1
  | .ptr d => uptoBulk d + 1
  | .slice elems spare => uptoBulkAll elems + uptoBulkAll spare + 1
  | .agg parts => uptoBulkAll parts + 1
  | .iface _ d => uptoBulk d + 1
  | .map entries => uptoBulkEntries entries + 1
  | .held _ => 1
def uptoBulkAll {H : Type} : List (DataW H) → Nat
  | [] => 0
  | d :: r => uptoBulk d + uptoBulkAll r
def uptoBulkEntries {H : Type} : List (Lit × DataW H) → Nat
  | [] => 0
  | x :: r => uptoBulkEntry x + uptoBulkEntries r
def uptoBulkEntry {H : Type} : Lit × DataW H → Nat
  | (.string bytes, d) => bytes.length + uptoBulk d + 1
  | (_, d) => uptoBulk d + 1
 end
def uptoSmall : (H : Type) → List (DataW H) → Bool := fun _ ds => decide (uptoBulkAll ds ≤ 1048576)
def OpenSpec.upto (s : _root_.Go.ChangeSpec) : _root_.Go.OpenSpec := { _root_.Go.OpenSpec.ofChange s with cond := some uptoSmall }

/-- 'scriptoriumlaw5.CrosspageExtendMatchesSpec', WHERE WHAT IT READS IS OF BULK AT MOST 1048576: true; the input reads as it did. -/
def crosspageExtendMatchesSpecUptoRow : OpenClaim := { program := "ytcinfkmekkdhfaa", sum := "7a4736cdc587be24a84c242f4fe3690c42c0fec2efc571bb91903caad99b632f", func := "scriptorium/scriptoriumlaw5.CrosspageExtendMatchesSpec", spec := "crosspageExtendMatchesSpec", unfollowed := true, recurses := true, apart := false, narrowed := true }
def CrosspageExtendMatchesSpecUptoSaid : Prop := crosspageExtendMatchesSpecUptoRow.holds Try.pinned (OpenSpec.upto crosspageExtendMatchesSpecSpec)

/-- 'scriptoriumlaw5.CrosspageRestoreMatchesSpec', WHERE WHAT IT READS IS OF BULK AT MOST 1048576: true; the input reads as it did. -/
def crosspageRestoreMatchesSpecUptoRow : OpenClaim := { program := "ytcinfkmekkdhfaa", sum := "7a4736cdc587be24a84c242f4fe3690c42c0fec2efc571bb91903caad99b632f", func := "scriptorium/scriptoriumlaw5.CrosspageRestoreMatchesSpec", spec := "crosspageRestoreMatchesSpec", unfollowed := true, recurses := true, apart := false, narrowed := true }
def CrosspageRestoreMatchesSpecUptoSaid : Prop := crosspageRestoreMatchesSpecUptoRow.holds Try.pinned (OpenSpec.upto crosspageRestoreMatchesSpecSpec)

/-- 'scriptoriumlaw5.CrosspageRestoresPages', WHERE WHAT IT READS IS OF BULK AT MOST 1048576: true; the input reads as it did. -/
def crosspageRestoresPagesUptoRow : OpenClaim := { program := "ytcinfkmekkdhfaa", sum := "7a4736cdc587be24a84c242f4fe3690c42c0fec2efc571bb91903caad99b632f", func := "scriptorium/scriptoriumlaw5.CrosspageRestoresPages", spec := "crosspageRestoresPages", unfollowed := true, recurses := true, apart := false, narrowed := true }
def CrosspageRestoresPagesUptoSaid : Prop := crosspageRestoresPagesUptoRow.holds Try.pinned (OpenSpec.upto crosspageRestoresPagesSpec)

/-- 'scriptoriumlaw5.CrosspagePositionsAreIndependent', WHERE WHAT IT READS IS OF BULK AT MOST 1048576: true; the input reads as it did. -/
def crosspagePositionsAreIndependentUptoRow : OpenClaim := { program := "ytcinfkmekkdhfaa", sum := "7a4736cdc587be24a84c242f4fe3690c42c0fec2efc571bb91903caad99b632f", func := "scriptorium/scriptoriumlaw5.CrosspagePositionsAreIndependent", spec := "crosspagePositionsAreIndependent", unfollowed := true, recurses := true, apart := false, narrowed := true }
def CrosspagePositionsAreIndependentUptoSaid : Prop := crosspagePositionsAreIndependentUptoRow.holds Try.pinned (OpenSpec.upto crosspagePositionsAreIndependentSpec)

/-- 'scriptoriumlaw5.CrosspageTellsLosses', WHERE WHAT IT READS IS OF BULK AT MOST 1048576: true; the input reads as it did. -/
def crosspageTellsLossesUptoRow : OpenClaim := { program := "ytcinfkmekkdhfaa", sum := "7a4736cdc587be24a84c242f4fe3690c42c0fec2efc571bb91903caad99b632f", func := "scriptorium/scriptoriumlaw5.CrosspageTellsLosses", spec := "crosspageTellsLosses", unfollowed := true, recurses := true, apart := false, narrowed := true }
def CrosspageTellsLossesUptoSaid : Prop := crosspageTellsLossesUptoRow.holds Try.pinned (OpenSpec.upto crosspageTellsLossesSpec)

/-- 'scriptoriumlaw5.CrosspageWithoutParity', WHERE WHAT IT READS IS OF BULK AT MOST 1048576: true; the input reads as it did. -/
def crosspageWithoutParityUptoRow : OpenClaim := { program := "ytcinfkmekkdhfaa", sum := "7a4736cdc587be24a84c242f4fe3690c42c0fec2efc571bb91903caad99b632f", func := "scriptorium/scriptoriumlaw5.CrosspageWithoutParity", spec := "crosspageWithoutParity", unfollowed := true, recurses := true, apart := false, narrowed := true }
def CrosspageWithoutParityUptoSaid : Prop := crosspageWithoutParityUptoRow.holds Try.pinned (OpenSpec.upto crosspageWithoutParitySpec)

end Rows
end Go.Proofs.Ytcinfkmekkdhfaa
