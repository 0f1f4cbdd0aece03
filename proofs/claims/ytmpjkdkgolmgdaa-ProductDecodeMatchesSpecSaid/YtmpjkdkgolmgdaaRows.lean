/-
  No cell of these rows narrows 'for every input' (looked for: loops, veiled, ifaces, maps, wideKeys, modest, calm, conditions, laid).
  DERIVED. THE GIVEN ROWS OF THIS SEAT. 7 by the template 'for every input the law returns true; each argument reads behind the call as it read before'; 0 by the template 'total and deterministic' (their statements: YtmpjkdkgolmgdaaTotals.lean).
  GIVEN WITH THE SEED: the statements are not yours to turn. If you find one false, say at which input.
  Laid BY PROGRAM, IN A SANDBOX (cutbox-rows.mjs): the forced cells as the released guide's own fill.sh prints them over the translation e00a0071f29a658d… (all of the seat's roots in one cut). By AI agents, Wed Nov 11 2026. No macro, syntax, notation, axiom, sorry.
-/
import Derived.Test.YtmpjkdkgolmgdaaChecked
import GoSem.Claim
import GoSem.ClaimJoined
import GoSem.ClaimMapViews
import Derived.JoinedTies
import Derived.KernelRfl
namespace Go.Proofs.Ytmpjkdkgolmgdaa
/- THE CELL 'sum', in the pinned program and in every row, IS THE sha256 OF THE DUMP (.gsa) THAT YtmpjkdkgolmgdaaProg.lean LOADS. Nothing in Lean hashes anything: it is a label: what it is worth is what the hold of that sum in a sandbox is worth. -/
noncomputable def Try.pinned : Pinned := { name := "ytmpjkdkgolmgdaa", sum := "e00a0071f29a658d3ca7ad9f68ef6c5cff0bd94b8cf3db45a974478e4d6622ac", checked := Try.checked }
namespace Rows
def none {H : Type} : Left H := { results := [], args := [] }

/-- 'scriptoriumlaw5.ProductMatchesSpec': WHATEVER THE INPUT: true; the input reads as it did. -/
def productMatchesSpecSpec : ChangeSpec := { name := "productMatchesSpec", fn := fun _ => fun
  | [d1, d2] => { results := [.lit (.bool true)], args := [d1, d2] }
  | _ => none }
def productMatchesSpecRow : OpenClaim := { program := "ytmpjkdkgolmgdaa", sum := "e00a0071f29a658d3ca7ad9f68ef6c5cff0bd94b8cf3db45a974478e4d6622ac", func := "scriptorium/scriptoriumlaw5.ProductMatchesSpec", spec := "productMatchesSpec", unfollowed := true, recurses := true, apart := false }
def ProductMatchesSpecSaid : Prop := productMatchesSpecRow.holds Try.pinned (OpenSpec.ofChange productMatchesSpecSpec)

/-- ITS FALSE NEIGHBOUR: 'it returns false'. Refute it at one input. -/
def productMatchesSpecWrong : ChangeSpec := { name := "productMatchesSpec", fn := fun _ => fun
  | [d1, d2] => { results := [.lit (.bool false)], args := [d1, d2] }
  | _ => none }
def ProductMatchesSpecWrongFalsely : Prop := productMatchesSpecRow.holds Try.pinned (OpenSpec.ofChange productMatchesSpecWrong)

/-- 'scriptoriumlaw5.ProductDecodeMatchesSpec': WHATEVER THE INPUT: true; the input reads as it did. -/
def productDecodeMatchesSpecSpec : ChangeSpec := { name := "productDecodeMatchesSpec", fn := fun _ => fun
  | [d1, d2, d3] => { results := [.lit (.bool true)], args := [d1, d2, d3] }
  | _ => none }
def productDecodeMatchesSpecRow : OpenClaim := { program := "ytmpjkdkgolmgdaa", sum := "e00a0071f29a658d3ca7ad9f68ef6c5cff0bd94b8cf3db45a974478e4d6622ac", func := "scriptorium/scriptoriumlaw5.ProductDecodeMatchesSpec", spec := "productDecodeMatchesSpec", unfollowed := true, recurses := true, apart := false }
def ProductDecodeMatchesSpecSaid : Prop := productDecodeMatchesSpecRow.holds Try.pinned (OpenSpec.ofChange productDecodeMatchesSpecSpec)

/-- ITS FALSE NEIGHBOUR: 'it returns false'. Refute it at one input. -/
def productDecodeMatchesSpecWrong : ChangeSpec := { name := "productDecodeMatchesSpec", fn := fun _ => fun
  | [d1, d2, d3] => { results := [.lit (.bool false)], args := [d1, d2, d3] }
  | _ => none }
def ProductDecodeMatchesSpecWrongFalsely : Prop := productDecodeMatchesSpecRow.holds Try.pinned (OpenSpec.ofChange productDecodeMatchesSpecWrong)

/-- 'scriptoriumlaw5.ProductCanBeTransposed': WHATEVER THE INPUT: true; the input reads as it did. -/
def productCanBeTransposedSpec : ChangeSpec := { name := "productCanBeTransposed", fn := fun _ => fun
  | [d1, d2] => { results := [.lit (.bool true)], args := [d1, d2] }
  | _ => none }
def productCanBeTransposedRow : OpenClaim := { program := "ytmpjkdkgolmgdaa", sum := "e00a0071f29a658d3ca7ad9f68ef6c5cff0bd94b8cf3db45a974478e4d6622ac", func := "scriptorium/scriptoriumlaw5.ProductCanBeTransposed", spec := "productCanBeTransposed", unfollowed := true, recurses := true, apart := false }
def ProductCanBeTransposedSaid : Prop := productCanBeTransposedRow.holds Try.pinned (OpenSpec.ofChange productCanBeTransposedSpec)

/-- ITS FALSE NEIGHBOUR: 'it returns false'. Refute it at one input. -/
def productCanBeTransposedWrong : ChangeSpec := { name := "productCanBeTransposed", fn := fun _ => fun
  | [d1, d2] => { results := [.lit (.bool false)], args := [d1, d2] }
  | _ => none }
def ProductCanBeTransposedWrongFalsely : Prop := productCanBeTransposedRow.holds Try.pinned (OpenSpec.ofChange productCanBeTransposedWrong)

/-- 'scriptoriumlaw5.ProductLinesAreWords': WHATEVER THE INPUT: true; the input reads as it did. -/
def productLinesAreWordsSpec : ChangeSpec := { name := "productLinesAreWords", fn := fun _ => fun
  | [d1, d2, d3, d4] => { results := [.lit (.bool true)], args := [d1, d2, d3, d4] }
  | _ => none }
def productLinesAreWordsRow : OpenClaim := { program := "ytmpjkdkgolmgdaa", sum := "e00a0071f29a658d3ca7ad9f68ef6c5cff0bd94b8cf3db45a974478e4d6622ac", func := "scriptorium/scriptoriumlaw5.ProductLinesAreWords", spec := "productLinesAreWords", unfollowed := true, recurses := true, apart := false }
def ProductLinesAreWordsSaid : Prop := productLinesAreWordsRow.holds Try.pinned (OpenSpec.ofChange productLinesAreWordsSpec)

/-- ITS FALSE NEIGHBOUR: 'it returns false'. Refute it at one input. -/
def productLinesAreWordsWrong : ChangeSpec := { name := "productLinesAreWords", fn := fun _ => fun
  | [d1, d2, d3, d4] => { results := [.lit (.bool false)], args := [d1, d2, d3, d4] }
  | _ => none }
def ProductLinesAreWordsWrongFalsely : Prop := productLinesAreWordsRow.holds Try.pinned (OpenSpec.ofChange productLinesAreWordsWrong)

/-- 'scriptoriumlaw5.ProductCorrects': WHATEVER THE INPUT: true; the input reads as it did. -/
def productCorrectsSpec : ChangeSpec := { name := "productCorrects", fn := fun _ => fun
  | [d1, d2, d3, d4, d5] => { results := [.lit (.bool true)], args := [d1, d2, d3, d4, d5] }
  | _ => none }
def productCorrectsRow : OpenClaim := { program := "ytmpjkdkgolmgdaa", sum := "e00a0071f29a658d3ca7ad9f68ef6c5cff0bd94b8cf3db45a974478e4d6622ac", func := "scriptorium/scriptoriumlaw5.ProductCorrects", spec := "productCorrects", unfollowed := true, recurses := true, apart := false }
def ProductCorrectsSaid : Prop := productCorrectsRow.holds Try.pinned (OpenSpec.ofChange productCorrectsSpec)

/-- ITS FALSE NEIGHBOUR: 'it returns false'. Refute it at one input. -/
def productCorrectsWrong : ChangeSpec := { name := "productCorrects", fn := fun _ => fun
  | [d1, d2, d3, d4, d5] => { results := [.lit (.bool false)], args := [d1, d2, d3, d4, d5] }
  | _ => none }
def ProductCorrectsWrongFalsely : Prop := productCorrectsRow.holds Try.pinned (OpenSpec.ofChange productCorrectsWrong)

/-- 'scriptoriumlaw5.ProductCheckMatchesSpec': WHATEVER THE INPUT: true; the input reads as it did. -/
def productCheckMatchesSpecSpec : ChangeSpec := { name := "productCheckMatchesSpec", fn := fun _ => fun
  | [d1, d2] => { results := [.lit (.bool true)], args := [d1, d2] }
  | _ => none }
def productCheckMatchesSpecRow : OpenClaim := { program := "ytmpjkdkgolmgdaa", sum := "e00a0071f29a658d3ca7ad9f68ef6c5cff0bd94b8cf3db45a974478e4d6622ac", func := "scriptorium/scriptoriumlaw5.ProductCheckMatchesSpec", spec := "productCheckMatchesSpec", unfollowed := true, recurses := true, apart := false }
def ProductCheckMatchesSpecSaid : Prop := productCheckMatchesSpecRow.holds Try.pinned (OpenSpec.ofChange productCheckMatchesSpecSpec)

/-- ITS FALSE NEIGHBOUR: 'it returns false'. Refute it at one input. -/
def productCheckMatchesSpecWrong : ChangeSpec := { name := "productCheckMatchesSpec", fn := fun _ => fun
  | [d1, d2] => { results := [.lit (.bool false)], args := [d1, d2] }
  | _ => none }
def ProductCheckMatchesSpecWrongFalsely : Prop := productCheckMatchesSpecRow.holds Try.pinned (OpenSpec.ofChange productCheckMatchesSpecWrong)

/-- 'scriptoriumlaw5.ProductLostBytesAreZero': WHATEVER THE INPUT: true; the input reads as it did. -/
def productLostBytesAreZeroSpec : ChangeSpec := { name := "productLostBytesAreZero", fn := fun _ => fun
  | [d1, d2, d3] => { results := [.lit (.bool true)], args := [d1, d2, d3] }
  | _ => none }
def productLostBytesAreZeroRow : OpenClaim := { program := "ytmpjkdkgolmgdaa", sum := "e00a0071f29a658d3ca7ad9f68ef6c5cff0bd94b8cf3db45a974478e4d6622ac", func := "scriptorium/scriptoriumlaw5.ProductLostBytesAreZero", spec := "productLostBytesAreZero", unfollowed := true, recurses := true, apart := false }
def ProductLostBytesAreZeroSaid : Prop := productLostBytesAreZeroRow.holds Try.pinned (OpenSpec.ofChange productLostBytesAreZeroSpec)

/-- ITS FALSE NEIGHBOUR: 'it returns false'. Refute it at one input. -/
def productLostBytesAreZeroWrong : ChangeSpec := { name := "productLostBytesAreZero", fn := fun _ => fun
  | [d1, d2, d3] => { results := [.lit (.bool false)], args := [d1, d2, d3] }
  | _ => none }
def ProductLostBytesAreZeroWrongFalsely : Prop := productLostBytesAreZeroRow.holds Try.pinned (OpenSpec.ofChange productLostBytesAreZeroWrong)

/- THE SECOND FORM. 'bulk': how many values and letters a reading holds, each counted each time it is reached (what is shared counts as often as it is met; a slice's spare places count too). A statement '..UptoSaid' is the law's where the arguments, and the package variables that the reading takes, are together of bulk at most 1048576: NARROWER than '..Said'. Prove '..Said' where nothing that the law and all that it calls make is longer than what came in: it says more and counts as full. Else prove '..UptoSaid'. A law counts once. -/
mutual
def uptoBulk {H : Type} : DataW H → Nat
  | .lit (.string bytes) => bytes.length + 1
  | .lit _ => 1
  | .nil => 1
  | .ptr d => uptoBulk d + 1
  | .slice elems spare => uptoBulkAll elems + uptoBulkAll spare + 1
  | .agg parts => uptoBulkAll parts + 1
  | .iface _ d => uptoBulk d + 1
  | .map entries => uptoBulkEntries entries + 1
  | .held _ => 1
def uptoBulkAll {H : Type} : List (DataW H) → Nat
  | [] => 0
  | d :: r => uptoBulk d + uptoBulkAll r
def uptoBulkEntries {H : Type} : List (Lit × DataW H) → Nat
  | [] => 0
  | x :: r => uptoBulkEntry x + uptoBulkEntries r
def uptoBulkEntry {H : Type} : Lit × DataW H → Nat
  | (.string bytes, d) => bytes.length + uptoBulk d + 1
  | (_, d) => uptoBulk d + 1
 end
def uptoSmall : (H : Type) → List (DataW H) → Bool := fun _ ds => decide (uptoBulkAll ds ≤ 1048576)
def OpenSpec.upto (s : _root_.Go.ChangeSpec) : _root_.Go.OpenSpec := { _root_.Go.OpenSpec.ofChange s with cond := some uptoSmall }

/-- 'scriptoriumlaw5.ProductMatchesSpec', WHERE WHAT IT READS IS OF BULK AT MOST 1048576: true; the input reads as it did. -/
def productMatchesSpecUptoRow : OpenClaim := { program := "ytmpjkdkgolmgdaa", sum := "e00a0071f29a658d3ca7ad9f68ef6c5cff0bd94b8cf3db45a974478e4d6622ac", func := "scriptorium/scriptoriumlaw5.ProductMatchesSpec", spec := "productMatchesSpec", unfollowed := true, recurses := true, apart := false, narrowed := true }
def ProductMatchesSpecUptoSaid : Prop := productMatchesSpecUptoRow.holds Try.pinned (OpenSpec.upto productMatchesSpecSpec)

/-- 'scriptoriumlaw5.ProductDecodeMatchesSpec', WHERE WHAT IT READS IS OF BULK AT MOST 1048576: true; the input reads as it did. -/
def productDecodeMatchesSpecUptoRow : OpenClaim := { program := "ytmpjkdkgolmgdaa", sum := "e00a0071f29a658d3ca7ad9f68ef6c5cff0bd94b8cf3db45a974478e4d6622ac", func := "scriptorium/scriptoriumlaw5.ProductDecodeMatchesSpec", spec := "productDecodeMatchesSpec", unfollowed := true, recurses := true, apart := false, narrowed := true }
def ProductDecodeMatchesSpecUptoSaid : Prop := productDecodeMatchesSpecUptoRow.holds Try.pinned (OpenSpec.upto productDecodeMatchesSpecSpec)

/-- 'scriptoriumlaw5.ProductCanBeTransposed', WHERE WHAT IT READS IS OF BULK AT MOST 1048576: true; the input reads as it did. -/
def productCanBeTransposedUptoRow : OpenClaim := { program := "ytmpjkdkgolmgdaa", sum := "e00a0071f29a658d3ca7ad9f68ef6c5cff0bd94b8cf3db45a974478e4d6622ac", func := "scriptorium/scriptoriumlaw5.ProductCanBeTransposed", spec := "productCanBeTransposed", unfollowed := true, recurses := true, apart := false, narrowed := true }
def ProductCanBeTransposedUptoSaid : Prop := productCanBeTransposedUptoRow.holds Try.pinned (OpenSpec.upto productCanBeTransposedSpec)

/-- 'scriptoriumlaw5.ProductLinesAreWords', WHERE WHAT IT READS IS OF BULK AT MOST 1048576: true; the input reads as it did. -/
def productLinesAreWordsUptoRow : OpenClaim := { program := "ytmpjkdkgolmgdaa", sum := "e00a0071f29a658d3ca7ad9f68ef6c5cff0bd94b8cf3db45a974478e4d6622ac", func := "scriptorium/scriptoriumlaw5.ProductLinesAreWords", spec := "productLinesAreWords", unfollowed := true, recurses := true, apart := false, narrowed := true }
def ProductLinesAreWordsUptoSaid : Prop := productLinesAreWordsUptoRow.holds Try.pinned (OpenSpec.upto productLinesAreWordsSpec)

/-- 'scriptoriumlaw5.ProductCorrects', WHERE WHAT IT READS IS OF BULK AT MOST 1048576: true; the input reads as it did. -/
def productCorrectsUptoRow : OpenClaim := { program := "ytmpjkdkgolmgdaa", sum := "e00a0071f29a658d3ca7ad9f68ef6c5cff0bd94b8cf3db45a974478e4d6622ac", func := "scriptorium/scriptoriumlaw5.ProductCorrects", spec := "productCorrects", unfollowed := true, recurses := true, apart := false, narrowed := true }
def ProductCorrectsUptoSaid : Prop := productCorrectsUptoRow.holds Try.pinned (OpenSpec.upto productCorrectsSpec)

/-- 'scriptoriumlaw5.ProductCheckMatchesSpec', WHERE WHAT IT READS IS OF BULK AT MOST 1048576: true; the input reads as it did. -/
def productCheckMatchesSpecUptoRow : OpenClaim := { program := "ytmpjkdkgolmgdaa", sum := "e00a0071f29a658d3ca7ad9f68ef6c5cff0bd94b8cf3db45a974478e4d6622ac", func := "scriptorium/scriptoriumlaw5.ProductCheckMatchesSpec", spec := "productCheckMatchesSpec", unfollowed := true, recurses := true, apart := false, narrowed := true }
def ProductCheckMatchesSpecUptoSaid : Prop := productCheckMatchesSpecUptoRow.holds Try.pinned (OpenSpec.upto productCheckMatchesSpecSpec)

/-- 'scriptoriumlaw5.ProductLostBytesAreZero', WHERE WHAT IT READS IS OF BULK AT MOST 1048576: true; the input reads as it did. -/
def productLostBytesAreZeroUptoRow : OpenClaim := { program := "ytmpjkdkgolmgdaa", sum := "e00a0071f29a658d3ca7ad9f68ef6c5cff0bd94b8cf3db45a974478e4d6622ac", func := "scriptorium/scriptoriumlaw5.ProductLostBytesAreZero", spec := "productLostBytesAreZero", unfollowed := true, recurses := true, apart := false, narrowed := true }
def ProductLostBytesAreZeroUptoSaid : Prop := productLostBytesAreZeroUptoRow.holds Try.pinned (OpenSpec.upto productLostBytesAreZeroSpec)

end Rows
end Go.Proofs.Ytmpjkdkgolmgdaa
