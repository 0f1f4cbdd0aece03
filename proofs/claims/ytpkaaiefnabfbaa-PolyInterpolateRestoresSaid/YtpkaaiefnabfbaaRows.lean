/-
  No cell of these rows narrows 'for every input' (looked for: loops, veiled, ifaces, maps, wideKeys, modest, calm, conditions, laid).
  DERIVED. THE GIVEN ROWS OF THIS SEAT. 10 by the template 'for every input the law returns true; each argument reads behind the call as it read before'; 0 by the template 'total and deterministic' (their statements: YtpkaaiefnabfbaaTotals.lean).
  GIVEN WITH THE SEED: the statements are not yours to turn. If you find one false, say at which input.
  Laid BY PROGRAM, IN A SANDBOX (cutbox-rows.mjs): the forced cells as the released guide's own fill.sh prints them over the translation 3e009db82d52e4b4… (all of the seat's roots in one cut). By AI agents, Wed Nov 11 2026. No macro, syntax, notation, axiom, sorry.
-/
import Derived.Test.YtpkaaiefnabfbaaChecked
import GoSem.Claim
import GoSem.ClaimJoined
import GoSem.ClaimMapViews
import Derived.JoinedTies
import Derived.KernelRfl
namespace Go.Proofs.Ytpkaaiefnabfbaa
/- THE CELL 'sum', in the pinned program and in every row, IS THE sha256 OF THE DUMP (.gsa) THAT YtpkaaiefnabfbaaProg.lean LOADS. Nothing in Lean hashes anything: it is a label: what it is worth is what the hold of that sum in a sandbox is worth. -/
noncomputable def Try.pinned : Pinned := { name := "ytpkaaiefnabfbaa", sum := "3e009db82d52e4b4ef46bf6d369fc7d13caddc63fced35de65de01f21156cfc6", checked := Try.checked }
namespace Rows
def none {H : Type} : Left H := { results := [], args := [] }

/-- 'scriptoriumlaw5.PolyDivideMatchesSpec': WHATEVER THE INPUT: true; the input reads as it did. -/
def polyDivideMatchesSpecSpec : ChangeSpec := { name := "polyDivideMatchesSpec", fn := fun _ => fun
  | [d1, d2] => { results := [.lit (.bool true)], args := [d1, d2] }
  | _ => none }
def polyDivideMatchesSpecRow : OpenClaim := { program := "ytpkaaiefnabfbaa", sum := "3e009db82d52e4b4ef46bf6d369fc7d13caddc63fced35de65de01f21156cfc6", func := "scriptorium/scriptoriumlaw5.PolyDivideMatchesSpec", spec := "polyDivideMatchesSpec", unfollowed := true, recurses := true, apart := false }
def PolyDivideMatchesSpecSaid : Prop := polyDivideMatchesSpecRow.holds Try.pinned (OpenSpec.ofChange polyDivideMatchesSpecSpec)

/-- ITS FALSE NEIGHBOUR: 'it returns false'. Refute it at one input. -/
def polyDivideMatchesSpecWrong : ChangeSpec := { name := "polyDivideMatchesSpec", fn := fun _ => fun
  | [d1, d2] => { results := [.lit (.bool false)], args := [d1, d2] }
  | _ => none }
def PolyDivideMatchesSpecWrongFalsely : Prop := polyDivideMatchesSpecRow.holds Try.pinned (OpenSpec.ofChange polyDivideMatchesSpecWrong)

/-- 'scriptoriumlaw5.PolyGcdMatchesSpec': WHATEVER THE INPUT: true; the input reads as it did. -/
def polyGcdMatchesSpecSpec : ChangeSpec := { name := "polyGcdMatchesSpec", fn := fun _ => fun
  | [d1, d2] => { results := [.lit (.bool true)], args := [d1, d2] }
  | _ => none }
def polyGcdMatchesSpecRow : OpenClaim := { program := "ytpkaaiefnabfbaa", sum := "3e009db82d52e4b4ef46bf6d369fc7d13caddc63fced35de65de01f21156cfc6", func := "scriptorium/scriptoriumlaw5.PolyGcdMatchesSpec", spec := "polyGcdMatchesSpec", unfollowed := true, recurses := true, apart := false }
def PolyGcdMatchesSpecSaid : Prop := polyGcdMatchesSpecRow.holds Try.pinned (OpenSpec.ofChange polyGcdMatchesSpecSpec)

/-- ITS FALSE NEIGHBOUR: 'it returns false'. Refute it at one input. -/
def polyGcdMatchesSpecWrong : ChangeSpec := { name := "polyGcdMatchesSpec", fn := fun _ => fun
  | [d1, d2] => { results := [.lit (.bool false)], args := [d1, d2] }
  | _ => none }
def PolyGcdMatchesSpecWrongFalsely : Prop := polyGcdMatchesSpecRow.holds Try.pinned (OpenSpec.ofChange polyGcdMatchesSpecWrong)

/-- 'scriptoriumlaw5.PolyGcdKeepsFactors': WHATEVER THE INPUT: true; the input reads as it did. -/
def polyGcdKeepsFactorsSpec : ChangeSpec := { name := "polyGcdKeepsFactors", fn := fun _ => fun
  | [d1, d2, d3] => { results := [.lit (.bool true)], args := [d1, d2, d3] }
  | _ => none }
def polyGcdKeepsFactorsRow : OpenClaim := { program := "ytpkaaiefnabfbaa", sum := "3e009db82d52e4b4ef46bf6d369fc7d13caddc63fced35de65de01f21156cfc6", func := "scriptorium/scriptoriumlaw5.PolyGcdKeepsFactors", spec := "polyGcdKeepsFactors", unfollowed := true, recurses := true, apart := false }
def PolyGcdKeepsFactorsSaid : Prop := polyGcdKeepsFactorsRow.holds Try.pinned (OpenSpec.ofChange polyGcdKeepsFactorsSpec)

/-- ITS FALSE NEIGHBOUR: 'it returns false'. Refute it at one input. -/
def polyGcdKeepsFactorsWrong : ChangeSpec := { name := "polyGcdKeepsFactors", fn := fun _ => fun
  | [d1, d2, d3] => { results := [.lit (.bool false)], args := [d1, d2, d3] }
  | _ => none }
def PolyGcdKeepsFactorsWrongFalsely : Prop := polyGcdKeepsFactorsRow.holds Try.pinned (OpenSpec.ofChange polyGcdKeepsFactorsWrong)

/-- 'scriptoriumlaw5.PolyMatchesSpec': WHATEVER THE INPUT: true; the input reads as it did. -/
def polyMatchesSpecSpec : ChangeSpec := { name := "polyMatchesSpec", fn := fun _ => fun
  | [d1, d2] => { results := [.lit (.bool true)], args := [d1, d2] }
  | _ => none }
def polyMatchesSpecRow : OpenClaim := { program := "ytpkaaiefnabfbaa", sum := "3e009db82d52e4b4ef46bf6d369fc7d13caddc63fced35de65de01f21156cfc6", func := "scriptorium/scriptoriumlaw5.PolyMatchesSpec", spec := "polyMatchesSpec", unfollowed := true, recurses := true, apart := false }
def PolyMatchesSpecSaid : Prop := polyMatchesSpecRow.holds Try.pinned (OpenSpec.ofChange polyMatchesSpecSpec)

/-- ITS FALSE NEIGHBOUR: 'it returns false'. Refute it at one input. -/
def polyMatchesSpecWrong : ChangeSpec := { name := "polyMatchesSpec", fn := fun _ => fun
  | [d1, d2] => { results := [.lit (.bool false)], args := [d1, d2] }
  | _ => none }
def PolyMatchesSpecWrongFalsely : Prop := polyMatchesSpecRow.holds Try.pinned (OpenSpec.ofChange polyMatchesSpecWrong)

/-- 'scriptoriumlaw5.PolyValuesMultiply': WHATEVER THE INPUT: true; the input reads as it did. -/
def polyValuesMultiplySpec : ChangeSpec := { name := "polyValuesMultiply", fn := fun _ => fun
  | [d1, d2, d3] => { results := [.lit (.bool true)], args := [d1, d2, d3] }
  | _ => none }
def polyValuesMultiplyRow : OpenClaim := { program := "ytpkaaiefnabfbaa", sum := "3e009db82d52e4b4ef46bf6d369fc7d13caddc63fced35de65de01f21156cfc6", func := "scriptorium/scriptoriumlaw5.PolyValuesMultiply", spec := "polyValuesMultiply", unfollowed := true, recurses := true, apart := false }
def PolyValuesMultiplySaid : Prop := polyValuesMultiplyRow.holds Try.pinned (OpenSpec.ofChange polyValuesMultiplySpec)

/-- ITS FALSE NEIGHBOUR: 'it returns false'. Refute it at one input. -/
def polyValuesMultiplyWrong : ChangeSpec := { name := "polyValuesMultiply", fn := fun _ => fun
  | [d1, d2, d3] => { results := [.lit (.bool false)], args := [d1, d2, d3] }
  | _ => none }
def PolyValuesMultiplyWrongFalsely : Prop := polyValuesMultiplyRow.holds Try.pinned (OpenSpec.ofChange polyValuesMultiplyWrong)

/-- 'scriptoriumlaw5.PolyRootsAreFactors': WHATEVER THE INPUT: true; the input reads as it did. -/
def polyRootsAreFactorsSpec : ChangeSpec := { name := "polyRootsAreFactors", fn := fun _ => fun
  | [d1, d2] => { results := [.lit (.bool true)], args := [d1, d2] }
  | _ => none }
def polyRootsAreFactorsRow : OpenClaim := { program := "ytpkaaiefnabfbaa", sum := "3e009db82d52e4b4ef46bf6d369fc7d13caddc63fced35de65de01f21156cfc6", func := "scriptorium/scriptoriumlaw5.PolyRootsAreFactors", spec := "polyRootsAreFactors", unfollowed := true, recurses := true, apart := false }
def PolyRootsAreFactorsSaid : Prop := polyRootsAreFactorsRow.holds Try.pinned (OpenSpec.ofChange polyRootsAreFactorsSpec)

/-- ITS FALSE NEIGHBOUR: 'it returns false'. Refute it at one input. -/
def polyRootsAreFactorsWrong : ChangeSpec := { name := "polyRootsAreFactors", fn := fun _ => fun
  | [d1, d2] => { results := [.lit (.bool false)], args := [d1, d2] }
  | _ => none }
def PolyRootsAreFactorsWrongFalsely : Prop := polyRootsAreFactorsRow.holds Try.pinned (OpenSpec.ofChange polyRootsAreFactorsWrong)

/-- 'scriptoriumlaw5.PolyValuesMatchSpec': WHATEVER THE INPUT: true; the input reads as it did. -/
def polyValuesMatchSpecSpec : ChangeSpec := { name := "polyValuesMatchSpec", fn := fun _ => fun
  | [d1, d2] => { results := [.lit (.bool true)], args := [d1, d2] }
  | _ => none }
def polyValuesMatchSpecRow : OpenClaim := { program := "ytpkaaiefnabfbaa", sum := "3e009db82d52e4b4ef46bf6d369fc7d13caddc63fced35de65de01f21156cfc6", func := "scriptorium/scriptoriumlaw5.PolyValuesMatchSpec", spec := "polyValuesMatchSpec", unfollowed := true, recurses := true, apart := false }
def PolyValuesMatchSpecSaid : Prop := polyValuesMatchSpecRow.holds Try.pinned (OpenSpec.ofChange polyValuesMatchSpecSpec)

/-- ITS FALSE NEIGHBOUR: 'it returns false'. Refute it at one input. -/
def polyValuesMatchSpecWrong : ChangeSpec := { name := "polyValuesMatchSpec", fn := fun _ => fun
  | [d1, d2] => { results := [.lit (.bool false)], args := [d1, d2] }
  | _ => none }
def PolyValuesMatchSpecWrongFalsely : Prop := polyValuesMatchSpecRow.holds Try.pinned (OpenSpec.ofChange polyValuesMatchSpecWrong)

/-- 'scriptoriumlaw5.PolyProductRule': WHATEVER THE INPUT: true; the input reads as it did. -/
def polyProductRuleSpec : ChangeSpec := { name := "polyProductRule", fn := fun _ => fun
  | [d1, d2] => { results := [.lit (.bool true)], args := [d1, d2] }
  | _ => none }
def polyProductRuleRow : OpenClaim := { program := "ytpkaaiefnabfbaa", sum := "3e009db82d52e4b4ef46bf6d369fc7d13caddc63fced35de65de01f21156cfc6", func := "scriptorium/scriptoriumlaw5.PolyProductRule", spec := "polyProductRule", unfollowed := true, recurses := true, apart := false }
def PolyProductRuleSaid : Prop := polyProductRuleRow.holds Try.pinned (OpenSpec.ofChange polyProductRuleSpec)

/-- ITS FALSE NEIGHBOUR: 'it returns false'. Refute it at one input. -/
def polyProductRuleWrong : ChangeSpec := { name := "polyProductRule", fn := fun _ => fun
  | [d1, d2] => { results := [.lit (.bool false)], args := [d1, d2] }
  | _ => none }
def PolyProductRuleWrongFalsely : Prop := polyProductRuleRow.holds Try.pinned (OpenSpec.ofChange polyProductRuleWrong)

/-- 'scriptoriumlaw5.PolyInterpolateMatchesSpec': WHATEVER THE INPUT: true; the input reads as it did. -/
def polyInterpolateMatchesSpecSpec : ChangeSpec := { name := "polyInterpolateMatchesSpec", fn := fun _ => fun
  | [d1, d2] => { results := [.lit (.bool true)], args := [d1, d2] }
  | _ => none }
def polyInterpolateMatchesSpecRow : OpenClaim := { program := "ytpkaaiefnabfbaa", sum := "3e009db82d52e4b4ef46bf6d369fc7d13caddc63fced35de65de01f21156cfc6", func := "scriptorium/scriptoriumlaw5.PolyInterpolateMatchesSpec", spec := "polyInterpolateMatchesSpec", unfollowed := true, recurses := true, apart := false }
def PolyInterpolateMatchesSpecSaid : Prop := polyInterpolateMatchesSpecRow.holds Try.pinned (OpenSpec.ofChange polyInterpolateMatchesSpecSpec)

/-- ITS FALSE NEIGHBOUR: 'it returns false'. Refute it at one input. -/
def polyInterpolateMatchesSpecWrong : ChangeSpec := { name := "polyInterpolateMatchesSpec", fn := fun _ => fun
  | [d1, d2] => { results := [.lit (.bool false)], args := [d1, d2] }
  | _ => none }
def PolyInterpolateMatchesSpecWrongFalsely : Prop := polyInterpolateMatchesSpecRow.holds Try.pinned (OpenSpec.ofChange polyInterpolateMatchesSpecWrong)

/-- 'scriptoriumlaw5.PolyInterpolateRestores': WHATEVER THE INPUT: true; the input reads as it did. -/
def polyInterpolateRestoresSpec : ChangeSpec := { name := "polyInterpolateRestores", fn := fun _ => fun
  | [d1, d2, d3] => { results := [.lit (.bool true)], args := [d1, d2, d3] }
  | _ => none }
def polyInterpolateRestoresRow : OpenClaim := { program := "ytpkaaiefnabfbaa", sum := "3e009db82d52e4b4ef46bf6d369fc7d13caddc63fced35de65de01f21156cfc6", func := "scriptorium/scriptoriumlaw5.PolyInterpolateRestores", spec := "polyInterpolateRestores", unfollowed := true, recurses := true, apart := false }
def PolyInterpolateRestoresSaid : Prop := polyInterpolateRestoresRow.holds Try.pinned (OpenSpec.ofChange polyInterpolateRestoresSpec)

/-- ITS FALSE NEIGHBOUR: 'it returns false'. Refute it at one input. -/
def polyInterpolateRestoresWrong : ChangeSpec := { name := "polyInterpolateRestores", fn := fun _ => fun
  | [d1, d2, d3] => { results := [.lit (.bool false)], args := [d1, d2, d3] }
  | _ => none }
def PolyInterpolateRestoresWrongFalsely : Prop := polyInterpolateRestoresRow.holds Try.pinned (OpenSpec.ofChange polyInterpolateRestoresWrong)

/- THE SECOND FORM. 'bulk': how many values and letters a reading holds, each counted each time it is reached (what is shared counts as often as it is met; a slice's spare places count too). A statement '..UptoSaid' is the law's where the arguments, and the package variables that the reading takes, are together of bulk at most 1048576: NARROWER than '..Said'. Prove '..Said' where nothing that the law and all that it calls make is longer than what came in: it says more and counts as full. Else prove '..UptoSaid'. A law counts once. -/
mutual
def uptoBulk {H : Type} : DataW H → Nat
  | .lit (.string bytes) => bytes.length + 1
  | .lit _ => 1
  | .nil => 1
  | .ptr d => uptoBulk d + 1
  | .slice elems spare => uptoBulkAll elems + uptoBulkAll spare + 1
  | .agg parts => uptoBulkAll parts + 1
  | .iface _ d => uptoBulk d + 1
  | .map entries => uptoBulkEntries entries + 1
  | .held _ => 1
def uptoBulkAll {H : Type} : List (DataW H) → Nat
  | [] => 0
  | d :: r => uptoBulk d + uptoBulkAll r
def uptoBulkEntries {H : Type} : List (Lit × DataW H) → Nat
  | [] => 0
  | x :: r => uptoBulkEntry x + uptoBulkEntries r
def uptoBulkEntry {H : Type} : Lit × DataW H → Nat
  | (.string bytes, d) => bytes.length + uptoBulk d + 1
  | (_, d) => uptoBulk d + 1
 end
def uptoSmall : (H : Type) → List (DataW H) → Bool := fun _ ds => decide (uptoBulkAll ds ≤ 1048576)
def OpenSpec.upto (s : _root_.Go.ChangeSpec) : _root_.Go.OpenSpec := { _root_.Go.OpenSpec.ofChange s with cond := some uptoSmall }

/-- 'scriptoriumlaw5.PolyDivideMatchesSpec', WHERE WHAT IT READS IS OF BULK AT MOST 1048576: true; the input reads as it did. -/
def polyDivideMatchesSpecUptoRow : OpenClaim := { program := "ytpkaaiefnabfbaa", sum := "3e009db82d52e4b4ef46bf6d369fc7d13caddc63fced35de65de01f21156cfc6", func := "scriptorium/scriptoriumlaw5.PolyDivideMatchesSpec", spec := "polyDivideMatchesSpec", unfollowed := true, recurses := true, apart := false, narrowed := true }
def PolyDivideMatchesSpecUptoSaid : Prop := polyDivideMatchesSpecUptoRow.holds Try.pinned (OpenSpec.upto polyDivideMatchesSpecSpec)

/-- 'scriptoriumlaw5.PolyGcdMatchesSpec', WHERE WHAT IT READS IS OF BULK AT MOST 1048576: true; the input reads as it did. -/
def polyGcdMatchesSpecUptoRow : OpenClaim := { program := "ytpkaaiefnabfbaa", sum := "3e009db82d52e4b4ef46bf6d369fc7d13caddc63fced35de65de01f21156cfc6", func := "scriptorium/scriptoriumlaw5.PolyGcdMatchesSpec", spec := "polyGcdMatchesSpec", unfollowed := true, recurses := true, apart := false, narrowed := true }
def PolyGcdMatchesSpecUptoSaid : Prop := polyGcdMatchesSpecUptoRow.holds Try.pinned (OpenSpec.upto polyGcdMatchesSpecSpec)

/-- 'scriptoriumlaw5.PolyGcdKeepsFactors', WHERE WHAT IT READS IS OF BULK AT MOST 1048576: true; the input reads as it did. -/
def polyGcdKeepsFactorsUptoRow : OpenClaim := { program := "ytpkaaiefnabfbaa", sum := "3e009db82d52e4b4ef46bf6d369fc7d13caddc63fced35de65de01f21156cfc6", func := "scriptorium/scriptoriumlaw5.PolyGcdKeepsFactors", spec := "polyGcdKeepsFactors", unfollowed := true, recurses := true, apart := false, narrowed := true }
def PolyGcdKeepsFactorsUptoSaid : Prop := polyGcdKeepsFactorsUptoRow.holds Try.pinned (OpenSpec.upto polyGcdKeepsFactorsSpec)

/-- 'scriptoriumlaw5.PolyMatchesSpec', WHERE WHAT IT READS IS OF BULK AT MOST 1048576: true; the input reads as it did. -/
def polyMatchesSpecUptoRow : OpenClaim := { program := "ytpkaaiefnabfbaa", sum := "3e009db82d52e4b4ef46bf6d369fc7d13caddc63fced35de65de01f21156cfc6", func := "scriptorium/scriptoriumlaw5.PolyMatchesSpec", spec := "polyMatchesSpec", unfollowed := true, recurses := true, apart := false, narrowed := true }
def PolyMatchesSpecUptoSaid : Prop := polyMatchesSpecUptoRow.holds Try.pinned (OpenSpec.upto polyMatchesSpecSpec)

/-- 'scriptoriumlaw5.PolyValuesMultiply', WHERE WHAT IT READS IS OF BULK AT MOST 1048576: true; the input reads as it did. -/
def polyValuesMultiplyUptoRow : OpenClaim := { program := "ytpkaaiefnabfbaa", sum := "3e009db82d52e4b4ef46bf6d369fc7d13caddc63fced35de65de01f21156cfc6", func := "scriptorium/scriptoriumlaw5.PolyValuesMultiply", spec := "polyValuesMultiply", unfollowed := true, recurses := true, apart := false, narrowed := true }
def PolyValuesMultiplyUptoSaid : Prop := polyValuesMultiplyUptoRow.holds Try.pinned (OpenSpec.upto polyValuesMultiplySpec)

/-- 'scriptoriumlaw5.PolyRootsAreFactors', WHERE WHAT IT READS IS OF BULK AT MOST 1048576: true; the input reads as it did. -/
def polyRootsAreFactorsUptoRow : OpenClaim := { program := "ytpkaaiefnabfbaa", sum := "3e009db82d52e4b4ef46bf6d369fc7d13caddc63fced35de65de01f21156cfc6", func := "scriptorium/scriptoriumlaw5.PolyRootsAreFactors", spec := "polyRootsAreFactors", unfollowed := true, recurses := true, apart := false, narrowed := true }
def PolyRootsAreFactorsUptoSaid : Prop := polyRootsAreFactorsUptoRow.holds Try.pinned (OpenSpec.upto polyRootsAreFactorsSpec)

/-- 'scriptoriumlaw5.PolyValuesMatchSpec', WHERE WHAT IT READS IS OF BULK AT MOST 1048576: true; the input reads as it did. -/
def polyValuesMatchSpecUptoRow : OpenClaim := { program := "ytpkaaiefnabfbaa", sum := "3e009db82d52e4b4ef46bf6d369fc7d13caddc63fced35de65de01f21156cfc6", func := "scriptorium/scriptoriumlaw5.PolyValuesMatchSpec", spec := "polyValuesMatchSpec", unfollowed := true, recurses := true, apart := false, narrowed := true }
def PolyValuesMatchSpecUptoSaid : Prop := polyValuesMatchSpecUptoRow.holds Try.pinned (OpenSpec.upto polyValuesMatchSpecSpec)

/-- 'scriptoriumlaw5.PolyProductRule', WHERE WHAT IT READS IS OF BULK AT MOST 1048576: true; the input reads as it did. -/
def polyProductRuleUptoRow : OpenClaim := { program := "ytpkaaiefnabfbaa", sum := "3e009db82d52e4b4ef46bf6d369fc7d13caddc63fced35de65de01f21156cfc6", func := "scriptorium/scriptoriumlaw5.PolyProductRule", spec := "polyProductRule", unfollowed := true, recurses := true, apart := false, narrowed := true }
def PolyProductRuleUptoSaid : Prop := polyProductRuleUptoRow.holds Try.pinned (OpenSpec.upto polyProductRuleSpec)

/-- 'scriptoriumlaw5.PolyInterpolateMatchesSpec', WHERE WHAT IT READS IS OF BULK AT MOST 1048576: true; the input reads as it did. -/
def polyInterpolateMatchesSpecUptoRow : OpenClaim := { program := "ytpkaaiefnabfbaa", sum := "3e009db82d52e4b4ef46bf6d369fc7d13caddc63fced35de65de01f21156cfc6", func := "scriptorium/scriptoriumlaw5.PolyInterpolateMatchesSpec", spec := "polyInterpolateMatchesSpec", unfollowed := true, recurses := true, apart := false, narrowed := true }
def PolyInterpolateMatchesSpecUptoSaid : Prop := polyInterpolateMatchesSpecUptoRow.holds Try.pinned (OpenSpec.upto polyInterpolateMatchesSpecSpec)

/-- 'scriptoriumlaw5.PolyInterpolateRestores', WHERE WHAT IT READS IS OF BULK AT MOST 1048576: true; the input reads as it did. -/
def polyInterpolateRestoresUptoRow : OpenClaim := { program := "ytpkaaiefnabfbaa", sum := "3e009db82d52e4b4ef46bf6d369fc7d13caddc63fced35de65de01f21156cfc6", func := "scriptorium/scriptoriumlaw5.PolyInterpolateRestores", spec := "polyInterpolateRestores", unfollowed := true, recurses := true, apart := false, narrowed := true }
def PolyInterpolateRestoresUptoSaid : Prop := polyInterpolateRestoresUptoRow.holds Try.pinned (OpenSpec.upto polyInterpolateRestoresSpec)

end Rows
end Go.Proofs.Ytpkaaiefnabfbaa
