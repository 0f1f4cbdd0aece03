/-
  No cell of these rows narrows 'for every input' (looked for: loops, veiled, ifaces, maps, wideKeys, modest, calm, conditions, laid).
  DERIVED. THE GIVEN ROWS OF THIS SEAT. 10 by the template 'for every input the law returns true; each argument reads behind the call as it read before'; 0 by the template 'total and deterministic' (their statements: YtpkaaiefnabfbabTotals.lean).
  GIVEN WITH THE SEED: the statements are not yours to turn. If you find one false, say at which input.
  Laid BY PROGRAM, IN A SANDBOX (cutbox-rows.mjs): the forced cells as the released guide's own fill.sh prints them over the translation b72003ef3c5320d0… (all of the seat's roots in one cut). By AI agents, Wed Nov 11 2026. No macro, syntax, notation, axiom, sorry.
-/
import Derived.Test.YtpkaaiefnabfbabChecked
import GoSem.Claim
import GoSem.ClaimJoined
import GoSem.ClaimMapViews
import Derived.JoinedTies
import Derived.KernelRfl
namespace Go.Proofs.Ytpkaaiefnabfbab
/- THE CELL 'sum', in the pinned program and in every row, IS THE sha256 OF THE DUMP (.gsa) THAT YtpkaaiefnabfbabProg.lean LOADS. Nothing in Lean hashes anything: it is a label: what it is worth is what the hold of that sum in a sandbox is worth. -/
noncomputable def Try.pinned : Pinned := { name := "ytpkaaiefnabfbab", sum := "b72003ef3c5320d0e13445620769536e992cfa15d75e49f4f224fa24fc4536cc", checked := Try.checked }
namespace Rows
def none {H : Type} : Left H := { results := [], args := [] }

/-- 'scriptoriumlaw5.RsEncodeMatchesSpec': WHATEVER THE INPUT: true; the input reads as it did. -/
def rsEncodeMatchesSpecSpec : ChangeSpec := { name := "rsEncodeMatchesSpec", fn := fun _ => fun
  | [d1, d2] => { results := [.lit (.bool true)], args := [d1, d2] }
  | _ => none }
def rsEncodeMatchesSpecRow : OpenClaim := { program := "ytpkaaiefnabfbab", sum := "b72003ef3c5320d0e13445620769536e992cfa15d75e49f4f224fa24fc4536cc", func := "scriptorium/scriptoriumlaw5.RsEncodeMatchesSpec", spec := "rsEncodeMatchesSpec", unfollowed := true, recurses := true, apart := false }
def RsEncodeMatchesSpecSaid : Prop := rsEncodeMatchesSpecRow.holds Try.pinned (OpenSpec.ofChange rsEncodeMatchesSpecSpec)

/-- ITS FALSE NEIGHBOUR: 'it returns false'. Refute it at one input. -/
def rsEncodeMatchesSpecWrong : ChangeSpec := { name := "rsEncodeMatchesSpec", fn := fun _ => fun
  | [d1, d2] => { results := [.lit (.bool false)], args := [d1, d2] }
  | _ => none }
def RsEncodeMatchesSpecWrongFalsely : Prop := rsEncodeMatchesSpecRow.holds Try.pinned (OpenSpec.ofChange rsEncodeMatchesSpecWrong)

/-- 'scriptoriumlaw5.RsDecodeMatchesSpec': WHATEVER THE INPUT: true; the input reads as it did. -/
def rsDecodeMatchesSpecSpec : ChangeSpec := { name := "rsDecodeMatchesSpec", fn := fun _ => fun
  | [d1, d2, d3] => { results := [.lit (.bool true)], args := [d1, d2, d3] }
  | _ => none }
def rsDecodeMatchesSpecRow : OpenClaim := { program := "ytpkaaiefnabfbab", sum := "b72003ef3c5320d0e13445620769536e992cfa15d75e49f4f224fa24fc4536cc", func := "scriptorium/scriptoriumlaw5.RsDecodeMatchesSpec", spec := "rsDecodeMatchesSpec", unfollowed := true, recurses := true, apart := false }
def RsDecodeMatchesSpecSaid : Prop := rsDecodeMatchesSpecRow.holds Try.pinned (OpenSpec.ofChange rsDecodeMatchesSpecSpec)

/-- ITS FALSE NEIGHBOUR: 'it returns false'. Refute it at one input. -/
def rsDecodeMatchesSpecWrong : ChangeSpec := { name := "rsDecodeMatchesSpec", fn := fun _ => fun
  | [d1, d2, d3] => { results := [.lit (.bool false)], args := [d1, d2, d3] }
  | _ => none }
def RsDecodeMatchesSpecWrongFalsely : Prop := rsDecodeMatchesSpecRow.holds Try.pinned (OpenSpec.ofChange rsDecodeMatchesSpecWrong)

/-- 'scriptoriumlaw5.RsCorrects': WHATEVER THE INPUT: true; the input reads as it did. -/
def rsCorrectsSpec : ChangeSpec := { name := "rsCorrects", fn := fun _ => fun
  | [d1, d2, d3, d4, d5] => { results := [.lit (.bool true)], args := [d1, d2, d3, d4, d5] }
  | _ => none }
def rsCorrectsRow : OpenClaim := { program := "ytpkaaiefnabfbab", sum := "b72003ef3c5320d0e13445620769536e992cfa15d75e49f4f224fa24fc4536cc", func := "scriptorium/scriptoriumlaw5.RsCorrects", spec := "rsCorrects", unfollowed := true, recurses := true, apart := false }
def RsCorrectsSaid : Prop := rsCorrectsRow.holds Try.pinned (OpenSpec.ofChange rsCorrectsSpec)

/-- ITS FALSE NEIGHBOUR: 'it returns false'. Refute it at one input. -/
def rsCorrectsWrong : ChangeSpec := { name := "rsCorrects", fn := fun _ => fun
  | [d1, d2, d3, d4, d5] => { results := [.lit (.bool false)], args := [d1, d2, d3, d4, d5] }
  | _ => none }
def RsCorrectsWrongFalsely : Prop := rsCorrectsRow.holds Try.pinned (OpenSpec.ofChange rsCorrectsWrong)

/-- 'scriptoriumlaw5.RsIsLinear': WHATEVER THE INPUT: true; the input reads as it did. -/
def rsIsLinearSpec : ChangeSpec := { name := "rsIsLinear", fn := fun _ => fun
  | [d1, d2, d3, d4] => { results := [.lit (.bool true)], args := [d1, d2, d3, d4] }
  | _ => none }
def rsIsLinearRow : OpenClaim := { program := "ytpkaaiefnabfbab", sum := "b72003ef3c5320d0e13445620769536e992cfa15d75e49f4f224fa24fc4536cc", func := "scriptorium/scriptoriumlaw5.RsIsLinear", spec := "rsIsLinear", unfollowed := true, recurses := true, apart := false }
def RsIsLinearSaid : Prop := rsIsLinearRow.holds Try.pinned (OpenSpec.ofChange rsIsLinearSpec)

/-- ITS FALSE NEIGHBOUR: 'it returns false'. Refute it at one input. -/
def rsIsLinearWrong : ChangeSpec := { name := "rsIsLinear", fn := fun _ => fun
  | [d1, d2, d3, d4] => { results := [.lit (.bool false)], args := [d1, d2, d3, d4] }
  | _ => none }
def RsIsLinearWrongFalsely : Prop := rsIsLinearRow.holds Try.pinned (OpenSpec.ofChange rsIsLinearWrong)

/-- 'scriptoriumlaw5.RsWordsAreFarApart': WHATEVER THE INPUT: true; the input reads as it did. -/
def rsWordsAreFarApartSpec : ChangeSpec := { name := "rsWordsAreFarApart", fn := fun _ => fun
  | [d1, d2, d3, d4] => { results := [.lit (.bool true)], args := [d1, d2, d3, d4] }
  | _ => none }
def rsWordsAreFarApartRow : OpenClaim := { program := "ytpkaaiefnabfbab", sum := "b72003ef3c5320d0e13445620769536e992cfa15d75e49f4f224fa24fc4536cc", func := "scriptorium/scriptoriumlaw5.RsWordsAreFarApart", spec := "rsWordsAreFarApart", unfollowed := true, recurses := true, apart := false }
def RsWordsAreFarApartSaid : Prop := rsWordsAreFarApartRow.holds Try.pinned (OpenSpec.ofChange rsWordsAreFarApartSpec)

/-- ITS FALSE NEIGHBOUR: 'it returns false'. Refute it at one input. -/
def rsWordsAreFarApartWrong : ChangeSpec := { name := "rsWordsAreFarApart", fn := fun _ => fun
  | [d1, d2, d3, d4] => { results := [.lit (.bool false)], args := [d1, d2, d3, d4] }
  | _ => none }
def RsWordsAreFarApartWrongFalsely : Prop := rsWordsAreFarApartRow.holds Try.pinned (OpenSpec.ofChange rsWordsAreFarApartWrong)

/-- 'scriptoriumlaw5.RsSyndromesAreValues': WHATEVER THE INPUT: true; the input reads as it did. -/
def rsSyndromesAreValuesSpec : ChangeSpec := { name := "rsSyndromesAreValues", fn := fun _ => fun
  | [d1, d2, d3] => { results := [.lit (.bool true)], args := [d1, d2, d3] }
  | _ => none }
def rsSyndromesAreValuesRow : OpenClaim := { program := "ytpkaaiefnabfbab", sum := "b72003ef3c5320d0e13445620769536e992cfa15d75e49f4f224fa24fc4536cc", func := "scriptorium/scriptoriumlaw5.RsSyndromesAreValues", spec := "rsSyndromesAreValues", unfollowed := true, recurses := true, apart := false }
def RsSyndromesAreValuesSaid : Prop := rsSyndromesAreValuesRow.holds Try.pinned (OpenSpec.ofChange rsSyndromesAreValuesSpec)

/-- ITS FALSE NEIGHBOUR: 'it returns false'. Refute it at one input. -/
def rsSyndromesAreValuesWrong : ChangeSpec := { name := "rsSyndromesAreValues", fn := fun _ => fun
  | [d1, d2, d3] => { results := [.lit (.bool false)], args := [d1, d2, d3] }
  | _ => none }
def RsSyndromesAreValuesWrongFalsely : Prop := rsSyndromesAreValuesRow.holds Try.pinned (OpenSpec.ofChange rsSyndromesAreValuesWrong)

/-- 'scriptoriumlaw5.RsErasuresAreFree': WHATEVER THE INPUT: true; the input reads as it did. -/
def rsErasuresAreFreeSpec : ChangeSpec := { name := "rsErasuresAreFree", fn := fun _ => fun
  | [d1, d2, d3, d4] => { results := [.lit (.bool true)], args := [d1, d2, d3, d4] }
  | _ => none }
def rsErasuresAreFreeRow : OpenClaim := { program := "ytpkaaiefnabfbab", sum := "b72003ef3c5320d0e13445620769536e992cfa15d75e49f4f224fa24fc4536cc", func := "scriptorium/scriptoriumlaw5.RsErasuresAreFree", spec := "rsErasuresAreFree", unfollowed := true, recurses := true, apart := false }
def RsErasuresAreFreeSaid : Prop := rsErasuresAreFreeRow.holds Try.pinned (OpenSpec.ofChange rsErasuresAreFreeSpec)

/-- ITS FALSE NEIGHBOUR: 'it returns false'. Refute it at one input. -/
def rsErasuresAreFreeWrong : ChangeSpec := { name := "rsErasuresAreFree", fn := fun _ => fun
  | [d1, d2, d3, d4] => { results := [.lit (.bool false)], args := [d1, d2, d3, d4] }
  | _ => none }
def RsErasuresAreFreeWrongFalsely : Prop := rsErasuresAreFreeRow.holds Try.pinned (OpenSpec.ofChange rsErasuresAreFreeWrong)

/-- 'scriptoriumlaw5.RsSyndromesMatchSpec': WHATEVER THE INPUT: true; the input reads as it did. -/
def rsSyndromesMatchSpecSpec : ChangeSpec := { name := "rsSyndromesMatchSpec", fn := fun _ => fun
  | [d1, d2] => { results := [.lit (.bool true)], args := [d1, d2] }
  | _ => none }
def rsSyndromesMatchSpecRow : OpenClaim := { program := "ytpkaaiefnabfbab", sum := "b72003ef3c5320d0e13445620769536e992cfa15d75e49f4f224fa24fc4536cc", func := "scriptorium/scriptoriumlaw5.RsSyndromesMatchSpec", spec := "rsSyndromesMatchSpec", unfollowed := true, recurses := true, apart := false }
def RsSyndromesMatchSpecSaid : Prop := rsSyndromesMatchSpecRow.holds Try.pinned (OpenSpec.ofChange rsSyndromesMatchSpecSpec)

/-- ITS FALSE NEIGHBOUR: 'it returns false'. Refute it at one input. -/
def rsSyndromesMatchSpecWrong : ChangeSpec := { name := "rsSyndromesMatchSpec", fn := fun _ => fun
  | [d1, d2] => { results := [.lit (.bool false)], args := [d1, d2] }
  | _ => none }
def RsSyndromesMatchSpecWrongFalsely : Prop := rsSyndromesMatchSpecRow.holds Try.pinned (OpenSpec.ofChange rsSyndromesMatchSpecWrong)

/-- 'scriptoriumlaw5.RsDecodeIsSound': WHATEVER THE INPUT: true; the input reads as it did. -/
def rsDecodeIsSoundSpec : ChangeSpec := { name := "rsDecodeIsSound", fn := fun _ => fun
  | [d1, d2, d3] => { results := [.lit (.bool true)], args := [d1, d2, d3] }
  | _ => none }
def rsDecodeIsSoundRow : OpenClaim := { program := "ytpkaaiefnabfbab", sum := "b72003ef3c5320d0e13445620769536e992cfa15d75e49f4f224fa24fc4536cc", func := "scriptorium/scriptoriumlaw5.RsDecodeIsSound", spec := "rsDecodeIsSound", unfollowed := true, recurses := true, apart := false }
def RsDecodeIsSoundSaid : Prop := rsDecodeIsSoundRow.holds Try.pinned (OpenSpec.ofChange rsDecodeIsSoundSpec)

/-- ITS FALSE NEIGHBOUR: 'it returns false'. Refute it at one input. -/
def rsDecodeIsSoundWrong : ChangeSpec := { name := "rsDecodeIsSound", fn := fun _ => fun
  | [d1, d2, d3] => { results := [.lit (.bool false)], args := [d1, d2, d3] }
  | _ => none }
def RsDecodeIsSoundWrongFalsely : Prop := rsDecodeIsSoundRow.holds Try.pinned (OpenSpec.ofChange rsDecodeIsSoundWrong)

/-- 'scriptoriumlaw5.RsFewerParities': WHATEVER THE INPUT: true; the input reads as it did. -/
def rsFewerParitiesSpec : ChangeSpec := { name := "rsFewerParities", fn := fun _ => fun
  | [d1, d2, d3] => { results := [.lit (.bool true)], args := [d1, d2, d3] }
  | _ => none }
def rsFewerParitiesRow : OpenClaim := { program := "ytpkaaiefnabfbab", sum := "b72003ef3c5320d0e13445620769536e992cfa15d75e49f4f224fa24fc4536cc", func := "scriptorium/scriptoriumlaw5.RsFewerParities", spec := "rsFewerParities", unfollowed := true, recurses := true, apart := false }
def RsFewerParitiesSaid : Prop := rsFewerParitiesRow.holds Try.pinned (OpenSpec.ofChange rsFewerParitiesSpec)

/-- ITS FALSE NEIGHBOUR: 'it returns false'. Refute it at one input. -/
def rsFewerParitiesWrong : ChangeSpec := { name := "rsFewerParities", fn := fun _ => fun
  | [d1, d2, d3] => { results := [.lit (.bool false)], args := [d1, d2, d3] }
  | _ => none }
def RsFewerParitiesWrongFalsely : Prop := rsFewerParitiesRow.holds Try.pinned (OpenSpec.ofChange rsFewerParitiesWrong)

/- THE SECOND FORM. 'bulk': how many values and letters a reading holds, each counted each time it is reached (what is shared counts as often as it is met; a slice's spare places count too). A statement '..UptoSaid' is the law's where the arguments, and the package variables that the reading takes, are together of bulk at most 1048576: NARROWER than '..Said'. Prove '..Said' where nothing that the law and all that it calls make is longer than what came in: it says more and counts as full. Else prove '..UptoSaid'. A law counts once. -/
mutual
def uptoBulk {H : Type} : DataW H → Nat
  | .lit (.string bytes) => bytes.length + 1
  | .lit _ => 1
  | .nil => 1
  | .ptr d => uptoBulk d + 1
  | .slice elems spare => uptoBulkAll elems + uptoBulkAll spare + 1
  | .agg parts => uptoBulkAll parts + 1
  | .iface _ d => uptoBulk d + 1
  | .map entries => uptoBulkEntries entries + 1
  | .held _ => 1
def uptoBulkAll {H : Type} : List (DataW H) → Nat
  | [] => 0
  | d :: r => uptoBulk d + uptoBulkAll r
def uptoBulkEntries {H : Type} : List (Lit × DataW H) → Nat
  | [] => 0
  | x :: r => uptoBulkEntry x + uptoBulkEntries r
def uptoBulkEntry {H : Type} : Lit × DataW H → Nat
  | (.string bytes, d) => bytes.length + uptoBulk d + 1
  | (_, d) => uptoBulk d + 1
 end
def uptoSmall : (H : Type) → List (DataW H) → Bool := fun _ ds => decide (uptoBulkAll ds ≤ 1048576)
def OpenSpec.upto (s : _root_.Go.ChangeSpec) : _root_.Go.OpenSpec := { _root_.Go.OpenSpec.ofChange s with cond := some uptoSmall }

/-- 'scriptoriumlaw5.RsEncodeMatchesSpec', WHERE WHAT IT READS IS OF BULK AT MOST 1048576: true; the input reads as it did. -/
def rsEncodeMatchesSpecUptoRow : OpenClaim := { program := "ytpkaaiefnabfbab", sum := "b72003ef3c5320d0e13445620769536e992cfa15d75e49f4f224fa24fc4536cc", func := "scriptorium/scriptoriumlaw5.RsEncodeMatchesSpec", spec := "rsEncodeMatchesSpec", unfollowed := true, recurses := true, apart := false, narrowed := true }
def RsEncodeMatchesSpecUptoSaid : Prop := rsEncodeMatchesSpecUptoRow.holds Try.pinned (OpenSpec.upto rsEncodeMatchesSpecSpec)

/-- 'scriptoriumlaw5.RsDecodeMatchesSpec', WHERE WHAT IT READS IS OF BULK AT MOST 1048576: true; the input reads as it did. -/
def rsDecodeMatchesSpecUptoRow : OpenClaim := { program := "ytpkaaiefnabfbab", sum := "b72003ef3c5320d0e13445620769536e992cfa15d75e49f4f224fa24fc4536cc", func := "scriptorium/scriptoriumlaw5.RsDecodeMatchesSpec", spec := "rsDecodeMatchesSpec", unfollowed := true, recurses := true, apart := false, narrowed := true }
def RsDecodeMatchesSpecUptoSaid : Prop := rsDecodeMatchesSpecUptoRow.holds Try.pinned (OpenSpec.upto rsDecodeMatchesSpecSpec)

/-- 'scriptoriumlaw5.RsCorrects', WHERE WHAT IT READS IS OF BULK AT MOST 1048576: true; the input reads as it did. -/
def rsCorrectsUptoRow : OpenClaim := { program := "ytpkaaiefnabfbab", sum := "b72003ef3c5320d0e13445620769536e992cfa15d75e49f4f224fa24fc4536cc", func := "scriptorium/scriptoriumlaw5.RsCorrects", spec := "rsCorrects", unfollowed := true, recurses := true, apart := false, narrowed := true }
def RsCorrectsUptoSaid : Prop := rsCorrectsUptoRow.holds Try.pinned (OpenSpec.upto rsCorrectsSpec)

/-- 'scriptoriumlaw5.RsIsLinear', WHERE WHAT IT READS IS OF BULK AT MOST 1048576: true; the input reads as it did. -/
def rsIsLinearUptoRow : OpenClaim := { program := "ytpkaaiefnabfbab", sum := "b72003ef3c5320d0e13445620769536e992cfa15d75e49f4f224fa24fc4536cc", func := "scriptorium/scriptoriumlaw5.RsIsLinear", spec := "rsIsLinear", unfollowed := true, recurses := true, apart := false, narrowed := true }
def RsIsLinearUptoSaid : Prop := rsIsLinearUptoRow.holds Try.pinned (OpenSpec.upto rsIsLinearSpec)

/-- 'scriptoriumlaw5.RsWordsAreFarApart', WHERE WHAT IT READS IS OF BULK AT MOST 1048576: true; the input reads as it did. -/
def rsWordsAreFarApartUptoRow : OpenClaim := { program := "ytpkaaiefnabfbab", sum := "b72003ef3c5320d0e13445620769536e992cfa15d75e49f4f224fa24fc4536cc", func := "scriptorium/scriptoriumlaw5.RsWordsAreFarApart", spec := "rsWordsAreFarApart", unfollowed := true, recurses := true, apart := false, narrowed := true }
def RsWordsAreFarApartUptoSaid : Prop := rsWordsAreFarApartUptoRow.holds Try.pinned (OpenSpec.upto rsWordsAreFarApartSpec)

/-- 'scriptoriumlaw5.RsSyndromesAreValues', WHERE WHAT IT READS IS OF BULK AT MOST 1048576: true; the input reads as it did. -/
def rsSyndromesAreValuesUptoRow : OpenClaim := { program := "ytpkaaiefnabfbab", sum := "b72003ef3c5320d0e13445620769536e992cfa15d75e49f4f224fa24fc4536cc", func := "scriptorium/scriptoriumlaw5.RsSyndromesAreValues", spec := "rsSyndromesAreValues", unfollowed := true, recurses := true, apart := false, narrowed := true }
def RsSyndromesAreValuesUptoSaid : Prop := rsSyndromesAreValuesUptoRow.holds Try.pinned (OpenSpec.upto rsSyndromesAreValuesSpec)

/-- 'scriptoriumlaw5.RsErasuresAreFree', WHERE WHAT IT READS IS OF BULK AT MOST 1048576: true; the input reads as it did. -/
def rsErasuresAreFreeUptoRow : OpenClaim := { program := "ytpkaaiefnabfbab", sum := "b72003ef3c5320d0e13445620769536e992cfa15d75e49f4f224fa24fc4536cc", func := "scriptorium/scriptoriumlaw5.RsErasuresAreFree", spec := "rsErasuresAreFree", unfollowed := true, recurses := true, apart := false, narrowed := true }
def RsErasuresAreFreeUptoSaid : Prop := rsErasuresAreFreeUptoRow.holds Try.pinned (OpenSpec.upto rsErasuresAreFreeSpec)

/-- 'scriptoriumlaw5.RsSyndromesMatchSpec', WHERE WHAT IT READS IS OF BULK AT MOST 1048576: true; the input reads as it did. -/
def rsSyndromesMatchSpecUptoRow : OpenClaim := { program := "ytpkaaiefnabfbab", sum := "b72003ef3c5320d0e13445620769536e992cfa15d75e49f4f224fa24fc4536cc", func := "scriptorium/scriptoriumlaw5.RsSyndromesMatchSpec", spec := "rsSyndromesMatchSpec", unfollowed := true, recurses := true, apart := false, narrowed := true }
def RsSyndromesMatchSpecUptoSaid : Prop := rsSyndromesMatchSpecUptoRow.holds Try.pinned (OpenSpec.upto rsSyndromesMatchSpecSpec)

/-- 'scriptoriumlaw5.RsDecodeIsSound', WHERE WHAT IT READS IS OF BULK AT MOST 1048576: true; the input reads as it did. -/
def rsDecodeIsSoundUptoRow : OpenClaim := { program := "ytpkaaiefnabfbab", sum := "b72003ef3c5320d0e13445620769536e992cfa15d75e49f4f224fa24fc4536cc", func := "scriptorium/scriptoriumlaw5.RsDecodeIsSound", spec := "rsDecodeIsSound", unfollowed := true, recurses := true, apart := false, narrowed := true }
def RsDecodeIsSoundUptoSaid : Prop := rsDecodeIsSoundUptoRow.holds Try.pinned (OpenSpec.upto rsDecodeIsSoundSpec)

/-- 'scriptoriumlaw5.RsFewerParities', WHERE WHAT IT READS IS OF BULK AT MOST 1048576: true; the input reads as it did. -/
def rsFewerParitiesUptoRow : OpenClaim := { program := "ytpkaaiefnabfbab", sum := "b72003ef3c5320d0e13445620769536e992cfa15d75e49f4f224fa24fc4536cc", func := "scriptorium/scriptoriumlaw5.RsFewerParities", spec := "rsFewerParities", unfollowed := true, recurses := true, apart := false, narrowed := true }
def RsFewerParitiesUptoSaid : Prop := rsFewerParitiesUptoRow.holds Try.pinned (OpenSpec.upto rsFewerParitiesSpec)

end Rows
end Go.Proofs.Ytpkaaiefnabfbab
