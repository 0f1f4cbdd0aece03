/-
  No cell of these rows narrows 'for every input' (looked for: loops, veiled, ifaces, maps, wideKeys, modest, calm, conditions, laid).
  DERIVED. THE GIVEN ROWS OF THIS SEAT. 5 by the template 'for every input the law returns true; each argument reads behind the call as it read before'; 0 by the template 'total and deterministic' (their statements: YtnajdmkdkpmdgaaTotals.lean).
  GIVEN WITH THE SEED: the statements are not yours to turn. If you find one false, say at which input.
  Laid BY PROGRAM, IN A SANDBOX (cutbox-rows.mjs): the forced cells as the released guide's own fill.sh prints them over the translation 5df0ec244163d712… (all of the seat's roots in one cut). By AI agents, Wed Nov 11 2026. No macro, syntax, notation, axiom, sorry.
-/
import Derived.Test.YtnajdmkdkpmdgaaChecked
import GoSem.Claim
import GoSem.ClaimJoined
import GoSem.ClaimMapViews
import Derived.JoinedTies
import Derived.KernelRfl
namespace Go.Proofs.Ytnajdmkdkpmdgaa
/- THE CELL 'sum', in the pinned program and in every row, IS THE sha256 OF THE DUMP (.gsa) THAT YtnajdmkdkpmdgaaProg.lean LOADS. Nothing in Lean hashes anything: it is a label: what it is worth is what the hold of that sum in a sandbox is worth. -/
noncomputable def Try.pinned : Pinned := { name := "ytnajdmkdkpmdgaa", sum := "5df0ec244163d712fb65e04346673acf684080aad234345c71aa6ed4a009e0e7", checked := Try.checked }
namespace Rows
def none {H : Type} : Left H := { results := [], args := [] }

/-- 'scriptoriumlaw5.LossplanBearsMatchesSpec': WHATEVER THE INPUT: true; the input reads as it did. -/
def lossplanBearsMatchesSpecSpec : ChangeSpec := { name := "lossplanBearsMatchesSpec", fn := fun _ => fun
  | [d1, d2] => { results := [.lit (.bool true)], args := [d1, d2] }
  | _ => none }
def lossplanBearsMatchesSpecRow : OpenClaim := { program := "ytnajdmkdkpmdgaa", sum := "5df0ec244163d712fb65e04346673acf684080aad234345c71aa6ed4a009e0e7", func := "scriptorium/scriptoriumlaw5.LossplanBearsMatchesSpec", spec := "lossplanBearsMatchesSpec", unfollowed := true, recurses := true, apart := false }
def LossplanBearsMatchesSpecSaid : Prop := lossplanBearsMatchesSpecRow.holds Try.pinned (OpenSpec.ofChange lossplanBearsMatchesSpecSpec)

/-- ITS FALSE NEIGHBOUR: 'it returns false'. Refute it at one input. -/
def lossplanBearsMatchesSpecWrong : ChangeSpec := { name := "lossplanBearsMatchesSpec", fn := fun _ => fun
  | [d1, d2] => { results := [.lit (.bool false)], args := [d1, d2] }
  | _ => none }
def LossplanBearsMatchesSpecWrongFalsely : Prop := lossplanBearsMatchesSpecRow.holds Try.pinned (OpenSpec.ofChange lossplanBearsMatchesSpecWrong)

/-- 'scriptoriumlaw5.LossplanChooseMatchesSpec': WHATEVER THE INPUT: true; the input reads as it did. -/
def lossplanChooseMatchesSpecSpec : ChangeSpec := { name := "lossplanChooseMatchesSpec", fn := fun _ => fun
  | [d1, d2] => { results := [.lit (.bool true)], args := [d1, d2] }
  | _ => none }
def lossplanChooseMatchesSpecRow : OpenClaim := { program := "ytnajdmkdkpmdgaa", sum := "5df0ec244163d712fb65e04346673acf684080aad234345c71aa6ed4a009e0e7", func := "scriptorium/scriptoriumlaw5.LossplanChooseMatchesSpec", spec := "lossplanChooseMatchesSpec", unfollowed := true, recurses := true, apart := false }
def LossplanChooseMatchesSpecSaid : Prop := lossplanChooseMatchesSpecRow.holds Try.pinned (OpenSpec.ofChange lossplanChooseMatchesSpecSpec)

/-- ITS FALSE NEIGHBOUR: 'it returns false'. Refute it at one input. -/
def lossplanChooseMatchesSpecWrong : ChangeSpec := { name := "lossplanChooseMatchesSpec", fn := fun _ => fun
  | [d1, d2] => { results := [.lit (.bool false)], args := [d1, d2] }
  | _ => none }
def LossplanChooseMatchesSpecWrongFalsely : Prop := lossplanChooseMatchesSpecRow.holds Try.pinned (OpenSpec.ofChange lossplanChooseMatchesSpecWrong)

/-- 'scriptoriumlaw5.LossplanBearsLess': WHATEVER THE INPUT: true; the input reads as it did. -/
def lossplanBearsLessSpec : ChangeSpec := { name := "lossplanBearsLess", fn := fun _ => fun
  | [d1, d2, d3, d4] => { results := [.lit (.bool true)], args := [d1, d2, d3, d4] }
  | _ => none }
def lossplanBearsLessRow : OpenClaim := { program := "ytnajdmkdkpmdgaa", sum := "5df0ec244163d712fb65e04346673acf684080aad234345c71aa6ed4a009e0e7", func := "scriptorium/scriptoriumlaw5.LossplanBearsLess", spec := "lossplanBearsLess", unfollowed := true, recurses := true, apart := false }
def LossplanBearsLessSaid : Prop := lossplanBearsLessRow.holds Try.pinned (OpenSpec.ofChange lossplanBearsLessSpec)

/-- ITS FALSE NEIGHBOUR: 'it returns false'. Refute it at one input. -/
def lossplanBearsLessWrong : ChangeSpec := { name := "lossplanBearsLess", fn := fun _ => fun
  | [d1, d2, d3, d4] => { results := [.lit (.bool false)], args := [d1, d2, d3, d4] }
  | _ => none }
def LossplanBearsLessWrongFalsely : Prop := lossplanBearsLessRow.holds Try.pinned (OpenSpec.ofChange lossplanBearsLessWrong)

/-- 'scriptoriumlaw5.LossplanChosenIsBest': WHATEVER THE INPUT: true; the input reads as it did. -/
def lossplanChosenIsBestSpec : ChangeSpec := { name := "lossplanChosenIsBest", fn := fun _ => fun
  | [d1, d2, d3, d4] => { results := [.lit (.bool true)], args := [d1, d2, d3, d4] }
  | _ => none }
def lossplanChosenIsBestRow : OpenClaim := { program := "ytnajdmkdkpmdgaa", sum := "5df0ec244163d712fb65e04346673acf684080aad234345c71aa6ed4a009e0e7", func := "scriptorium/scriptoriumlaw5.LossplanChosenIsBest", spec := "lossplanChosenIsBest", unfollowed := true, recurses := true, apart := false }
def LossplanChosenIsBestSaid : Prop := lossplanChosenIsBestRow.holds Try.pinned (OpenSpec.ofChange lossplanChosenIsBestSpec)

/-- ITS FALSE NEIGHBOUR: 'it returns false'. Refute it at one input. -/
def lossplanChosenIsBestWrong : ChangeSpec := { name := "lossplanChosenIsBest", fn := fun _ => fun
  | [d1, d2, d3, d4] => { results := [.lit (.bool false)], args := [d1, d2, d3, d4] }
  | _ => none }
def LossplanChosenIsBestWrongFalsely : Prop := lossplanChosenIsBestRow.holds Try.pinned (OpenSpec.ofChange lossplanChosenIsBestWrong)

/-- 'scriptoriumlaw5.LossplanMatchesSpec': WHATEVER THE INPUT: true; the input reads as it did. -/
def lossplanMatchesSpecSpec : ChangeSpec := { name := "lossplanMatchesSpec", fn := fun _ => fun
  | [d1, d2] => { results := [.lit (.bool true)], args := [d1, d2] }
  | _ => none }
def lossplanMatchesSpecRow : OpenClaim := { program := "ytnajdmkdkpmdgaa", sum := "5df0ec244163d712fb65e04346673acf684080aad234345c71aa6ed4a009e0e7", func := "scriptorium/scriptoriumlaw5.LossplanMatchesSpec", spec := "lossplanMatchesSpec", unfollowed := true, recurses := true, apart := false }
def LossplanMatchesSpecSaid : Prop := lossplanMatchesSpecRow.holds Try.pinned (OpenSpec.ofChange lossplanMatchesSpecSpec)

/-- ITS FALSE NEIGHBOUR: 'it returns false'. Refute it at one input. -/
def lossplanMatchesSpecWrong : ChangeSpec := { name := "lossplanMatchesSpec", fn := fun _ => fun
  | [d1, d2] => { results := [.lit (.bool false)], args := [d1, d2] }
  | _ => none }
def LossplanMatchesSpecWrongFalsely : Prop := lossplanMatchesSpecRow.holds Try.pinned (OpenSpec.ofChange lossplanMatchesSpecWrong)

/- THE SECOND FORM. 'bulk': how many values and letters a reading holds, each counted each time it is reached (what is shared counts as often as it is met; a slice's spare places count too). A statement '..UptoSaid' is the law's where the arguments, and the package variables that the reading takes, are together of bulk at most 1048576: NARROWER than '..Said'. Prove '..Said' where nothing that the law and all that it calls make is longer than what came in: it says more and counts as full. Else prove '..UptoSaid'. A law counts once. -/
mutual
def uptoBulk {H : Type} : DataW H → Nat
  | .lit (.string bytes) => bytes.length + 1
  | .lit _ => 1
  | .nil => 1
  | .ptr d => uptoBulk d + 1
  | .slice elems spare => uptoBulkAll elems + uptoBulkAll spare + 1
  | .agg parts => uptoBulkAll parts + 1
  | .iface _ d => uptoBulk d + 1
  | .map entries => uptoBulkEntries entries + 1
  | .held _ => 1
def uptoBulkAll {H : Type} : List (DataW H) → Nat
  | [] => 0
  | d :: r => uptoBulk d + uptoBulkAll r
def uptoBulkEntries {H : Type} : List (Lit × DataW H) → Nat
  | [] => 0
  | x :: r => uptoBulkEntry x + uptoBulkEntries r
def uptoBulkEntry {H : Type} : Lit × DataW H → Nat
  | (.string bytes, d) => bytes.length + uptoBulk d + 1
  | (_, d) => uptoBulk d + 1
 end
def uptoSmall : (H : Type) → List (DataW H) → Bool := fun _ ds => decide (uptoBulkAll ds ≤ 1048576)
def OpenSpec.upto (s : _root_.Go.ChangeSpec) : _root_.Go.OpenSpec := { _root_.Go.OpenSpec.ofChange s with cond := some uptoSmall }

/-- 'scriptoriumlaw5.LossplanBearsMatchesSpec', WHERE WHAT IT READS IS OF BULK AT MOST 1048576: true; the input reads as it did. -/
def lossplanBearsMatchesSpecUptoRow : OpenClaim := { program := "ytnajdmkdkpmdgaa", sum := "5df0ec244163d712fb65e04346673acf684080aad234345c71aa6ed4a009e0e7", func := "scriptorium/scriptoriumlaw5.LossplanBearsMatchesSpec", spec := "lossplanBearsMatchesSpec", unfollowed := true, recurses := true, apart := false, narrowed := true }
def LossplanBearsMatchesSpecUptoSaid : Prop := lossplanBearsMatchesSpecUptoRow.holds Try.pinned (OpenSpec.upto lossplanBearsMatchesSpecSpec)

/-- 'scriptoriumlaw5.LossplanChooseMatchesSpec', WHERE WHAT IT READS IS OF BULK AT MOST 1048576: true; the input reads as it did. -/
def lossplanChooseMatchesSpecUptoRow : OpenClaim := { program := "ytnajdmkdkpmdgaa", sum := "5df0ec244163d712fb65e04346673acf684080aad234345c71aa6ed4a009e0e7", func := "scriptorium/scriptoriumlaw5.LossplanChooseMatchesSpec", spec := "lossplanChooseMatchesSpec", unfollowed := true, recurses := true, apart := false, narrowed := true }
def LossplanChooseMatchesSpecUptoSaid : Prop := lossplanChooseMatchesSpecUptoRow.holds Try.pinned (OpenSpec.upto lossplanChooseMatchesSpecSpec)

/-- 'scriptoriumlaw5.LossplanBearsLess', WHERE WHAT IT READS IS OF BULK AT MOST 1048576: true; the input reads as it did. -/
def lossplanBearsLessUptoRow : OpenClaim := { program := "ytnajdmkdkpmdgaa", sum := "5df0ec244163d712fb65e04346673acf684080aad234345c71aa6ed4a009e0e7", func := "scriptorium/scriptoriumlaw5.LossplanBearsLess", spec := "lossplanBearsLess", unfollowed := true, recurses := true, apart := false, narrowed := true }
def LossplanBearsLessUptoSaid : Prop := lossplanBearsLessUptoRow.holds Try.pinned (OpenSpec.upto lossplanBearsLessSpec)

/-- 'scriptoriumlaw5.LossplanChosenIsBest', WHERE WHAT IT READS IS OF BULK AT MOST 1048576: true; the input reads as it did. -/
def lossplanChosenIsBestUptoRow : OpenClaim := { program := "ytnajdmkdkpmdgaa", sum := "5df0ec244163d712fb65e04346673acf684080aad234345c71aa6ed4a009e0e7", func := "scriptorium/scriptoriumlaw5.LossplanChosenIsBest", spec := "lossplanChosenIsBest", unfollowed := true, recurses := true, apart := false, narrowed := true }
def LossplanChosenIsBestUptoSaid : Prop := lossplanChosenIsBestUptoRow.holds Try.pinned (OpenSpec.upto lossplanChosenIsBestSpec)

/-- 'scriptoriumlaw5.LossplanMatchesSpec', WHERE WHAT IT READS IS OF BULK AT MOST 1048576: true; the input reads as it did. -/
def lossplanMatchesSpecUptoRow : OpenClaim := { program := "ytnajdmkdkpmdgaa", sum := "5df0ec244163d712fb65e04346673acf684080aad234345c71aa6ed4a009e0e7", func := "scriptorium/scriptoriumlaw5.LossplanMatchesSpec", spec := "lossplanMatchesSpec", unfollowed := true, recurses := true, apart := false, narrowed := true }
def LossplanMatchesSpecUptoSaid : Prop := lossplanMatchesSpecUptoRow.holds Try.pinned (OpenSpec.upto lossplanMatchesSpecSpec)

end Rows
end Go.Proofs.Ytnajdmkdkpmdgaa
