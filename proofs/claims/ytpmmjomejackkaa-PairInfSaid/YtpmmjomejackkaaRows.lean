/-
  No cell of these rows narrows 'for every input' (looked for: loops, veiled, ifaces, maps, wideKeys, modest, calm, conditions, laid).
  DERIVED. THE GIVEN ROWS OF THIS SEAT. 17 by the template 'for every input the law returns true; each argument reads behind the call as it read before'; 0 by the template 'total and deterministic' (their statements: YtpmmjomejackkaaTotals.lean).
  GIVEN WITH THE SEED: the statements are not yours to turn. If you find one false, say at which input.
  Laid BY PROGRAM, IN A SANDBOX (cutbox-rows.mjs): the forced cells as the released guide's own fill.sh prints them over the translation 29015311ac1afb0a… (all of the seat's roots in one cut). By AI agents, Wed Nov 11 2026. No macro, syntax, notation, axiom, sorry.
-/
import Derived.Test.YtpmmjomejackkaaChecked
import GoSem.Claim
import GoSem.ClaimJoined
import GoSem.ClaimMapViews
import Derived.JoinedTies
import Derived.KernelRfl
namespace Go.Proofs.Ytpmmjomejackkaa
/- THE CELL 'sum', in the pinned program and in every row, IS THE sha256 OF THE DUMP (.gsa) THAT YtpmmjomejackkaaProg.lean LOADS. Nothing in Lean hashes anything: it is a label: what it is worth is what the hold of that sum in a sandbox is worth. -/
noncomputable def Try.pinned : Pinned := { name := "ytpmmjomejackkaa", sum := "29015311ac1afb0a8a8dfefe9c7457844fabebb366f501e1de88775d9ff5b03e", checked := Try.checked }
namespace Rows
def none {H : Type} : Left H := { results := [], args := [] }

/-- 'pharoslaw09.FieldLaws': WHATEVER THE INPUT: true; the input reads as it did. -/
def fieldLawsSpec : ChangeSpec := { name := "fieldLaws", fn := fun _ => fun
  | [d1, d2, d3] => { results := [.lit (.bool true)], args := [d1, d2, d3] }
  | _ => none }
def fieldLawsRow : OpenClaim := { program := "ytpmmjomejackkaa", sum := "29015311ac1afb0a8a8dfefe9c7457844fabebb366f501e1de88775d9ff5b03e", func := "pharos/pharoslaw09.FieldLaws", spec := "fieldLaws", unfollowed := true, recurses := true, apart := false }
def FieldLawsSaid : Prop := fieldLawsRow.holds Try.pinned (OpenSpec.ofChange fieldLawsSpec)

/-- ITS FALSE NEIGHBOUR: 'it returns false'. Refute it at one input. -/
def fieldLawsWrong : ChangeSpec := { name := "fieldLaws", fn := fun _ => fun
  | [d1, d2, d3] => { results := [.lit (.bool false)], args := [d1, d2, d3] }
  | _ => none }
def FieldLawsWrongFalsely : Prop := fieldLawsRow.holds Try.pinned (OpenSpec.ofChange fieldLawsWrong)

/-- 'pharoslaw09.FieldRoots': WHATEVER THE INPUT: true; the input reads as it did. -/
def fieldRootsSpec : ChangeSpec := { name := "fieldRoots", fn := fun _ => fun
  | [d] => { results := [.lit (.bool true)], args := [d] }
  | _ => none }
def fieldRootsRow : OpenClaim := { program := "ytpmmjomejackkaa", sum := "29015311ac1afb0a8a8dfefe9c7457844fabebb366f501e1de88775d9ff5b03e", func := "pharos/pharoslaw09.FieldRoots", spec := "fieldRoots", unfollowed := true, recurses := true, apart := false }
def FieldRootsSaid : Prop := fieldRootsRow.holds Try.pinned (OpenSpec.ofChange fieldRootsSpec)

/-- ITS FALSE NEIGHBOUR: 'it returns false'. Refute it at one input. -/
def fieldRootsWrong : ChangeSpec := { name := "fieldRoots", fn := fun _ => fun
  | [d] => { results := [.lit (.bool false)], args := [d] }
  | _ => none }
def FieldRootsWrongFalsely : Prop := fieldRootsRow.holds Try.pinned (OpenSpec.ofChange fieldRootsWrong)

/-- 'pharoslaw09.FieldReckons': WHATEVER THE INPUT: true; the input reads as it did. -/
def fieldReckonsSpec : ChangeSpec := { name := "fieldReckons", fn := fun _ => fun
  | [d1, d2] => { results := [.lit (.bool true)], args := [d1, d2] }
  | _ => none }
def fieldReckonsRow : OpenClaim := { program := "ytpmmjomejackkaa", sum := "29015311ac1afb0a8a8dfefe9c7457844fabebb366f501e1de88775d9ff5b03e", func := "pharos/pharoslaw09.FieldReckons", spec := "fieldReckons", unfollowed := true, recurses := true, apart := false }
def FieldReckonsSaid : Prop := fieldReckonsRow.holds Try.pinned (OpenSpec.ofChange fieldReckonsSpec)

/-- ITS FALSE NEIGHBOUR: 'it returns false'. Refute it at one input. -/
def fieldReckonsWrong : ChangeSpec := { name := "fieldReckons", fn := fun _ => fun
  | [d1, d2] => { results := [.lit (.bool false)], args := [d1, d2] }
  | _ => none }
def FieldReckonsWrongFalsely : Prop := fieldReckonsRow.holds Try.pinned (OpenSpec.ofChange fieldReckonsWrong)

/-- 'pharoslaw09.FieldFew': WHATEVER THE INPUT: true; the input reads as it did. -/
def fieldFewSpec : ChangeSpec := { name := "fieldFew", fn := fun _ => fun
  | [d1, d2] => { results := [.lit (.bool true)], args := [d1, d2] }
  | _ => none }
def fieldFewRow : OpenClaim := { program := "ytpmmjomejackkaa", sum := "29015311ac1afb0a8a8dfefe9c7457844fabebb366f501e1de88775d9ff5b03e", func := "pharos/pharoslaw09.FieldFew", spec := "fieldFew", unfollowed := true, recurses := true, apart := false }
def FieldFewSaid : Prop := fieldFewRow.holds Try.pinned (OpenSpec.ofChange fieldFewSpec)

/-- ITS FALSE NEIGHBOUR: 'it returns false'. Refute it at one input. -/
def fieldFewWrong : ChangeSpec := { name := "fieldFew", fn := fun _ => fun
  | [d1, d2] => { results := [.lit (.bool false)], args := [d1, d2] }
  | _ => none }
def FieldFewWrongFalsely : Prop := fieldFewRow.holds Try.pinned (OpenSpec.ofChange fieldFewWrong)

/-- 'pharoslaw09.FieldExtends': WHATEVER THE INPUT: true; the input reads as it did. -/
def fieldExtendsSpec : ChangeSpec := { name := "fieldExtends", fn := fun _ => fun
  | [d1, d2, d3] => { results := [.lit (.bool true)], args := [d1, d2, d3] }
  | _ => none }
def fieldExtendsRow : OpenClaim := { program := "ytpmmjomejackkaa", sum := "29015311ac1afb0a8a8dfefe9c7457844fabebb366f501e1de88775d9ff5b03e", func := "pharos/pharoslaw09.FieldExtends", spec := "fieldExtends", unfollowed := true, recurses := true, apart := false }
def FieldExtendsSaid : Prop := fieldExtendsRow.holds Try.pinned (OpenSpec.ofChange fieldExtendsSpec)

/-- ITS FALSE NEIGHBOUR: 'it returns false'. Refute it at one input. -/
def fieldExtendsWrong : ChangeSpec := { name := "fieldExtends", fn := fun _ => fun
  | [d1, d2, d3] => { results := [.lit (.bool false)], args := [d1, d2, d3] }
  | _ => none }
def FieldExtendsWrongFalsely : Prop := fieldExtendsRow.holds Try.pinned (OpenSpec.ofChange fieldExtendsWrong)

/-- 'pharoslaw09.FieldRanges': WHATEVER THE INPUT: true; the input reads as it did. -/
def fieldRangesSpec : ChangeSpec := { name := "fieldRanges", fn := fun _ => fun
  | [d1, d2, d3, d4] => { results := [.lit (.bool true)], args := [d1, d2, d3, d4] }
  | _ => none }
def fieldRangesRow : OpenClaim := { program := "ytpmmjomejackkaa", sum := "29015311ac1afb0a8a8dfefe9c7457844fabebb366f501e1de88775d9ff5b03e", func := "pharos/pharoslaw09.FieldRanges", spec := "fieldRanges", unfollowed := true, recurses := true, apart := false }
def FieldRangesSaid : Prop := fieldRangesRow.holds Try.pinned (OpenSpec.ofChange fieldRangesSpec)

/-- ITS FALSE NEIGHBOUR: 'it returns false'. Refute it at one input. -/
def fieldRangesWrong : ChangeSpec := { name := "fieldRanges", fn := fun _ => fun
  | [d1, d2, d3, d4] => { results := [.lit (.bool false)], args := [d1, d2, d3, d4] }
  | _ => none }
def FieldRangesWrongFalsely : Prop := fieldRangesRow.holds Try.pinned (OpenSpec.ofChange fieldRangesWrong)

/-- 'pharoslaw10.CurveTimes': WHATEVER THE INPUT: true; the input reads as it did. -/
def curveTimesSpec : ChangeSpec := { name := "curveTimes", fn := fun _ => fun
  | [d1, d2] => { results := [.lit (.bool true)], args := [d1, d2] }
  | _ => none }
def curveTimesRow : OpenClaim := { program := "ytpmmjomejackkaa", sum := "29015311ac1afb0a8a8dfefe9c7457844fabebb366f501e1de88775d9ff5b03e", func := "pharos/pharoslaw10.CurveTimes", spec := "curveTimes", unfollowed := true, recurses := true, apart := false }
def CurveTimesSaid : Prop := curveTimesRow.holds Try.pinned (OpenSpec.ofChange curveTimesSpec)

/-- ITS FALSE NEIGHBOUR: 'it returns false'. Refute it at one input. -/
def curveTimesWrong : ChangeSpec := { name := "curveTimes", fn := fun _ => fun
  | [d1, d2] => { results := [.lit (.bool false)], args := [d1, d2] }
  | _ => none }
def CurveTimesWrongFalsely : Prop := curveTimesRow.holds Try.pinned (OpenSpec.ofChange curveTimesWrong)

/-- 'pharoslaw10.CurveFew': WHATEVER THE INPUT: true; the input reads as it did. -/
def curveFewSpec : ChangeSpec := { name := "curveFew", fn := fun _ => fun
  | [d] => { results := [.lit (.bool true)], args := [d] }
  | _ => none }
def curveFewRow : OpenClaim := { program := "ytpmmjomejackkaa", sum := "29015311ac1afb0a8a8dfefe9c7457844fabebb366f501e1de88775d9ff5b03e", func := "pharos/pharoslaw10.CurveFew", spec := "curveFew", unfollowed := true, recurses := true, apart := false }
def CurveFewSaid : Prop := curveFewRow.holds Try.pinned (OpenSpec.ofChange curveFewSpec)

/-- ITS FALSE NEIGHBOUR: 'it returns false'. Refute it at one input. -/
def curveFewWrong : ChangeSpec := { name := "curveFew", fn := fun _ => fun
  | [d] => { results := [.lit (.bool false)], args := [d] }
  | _ => none }
def CurveFewWrongFalsely : Prop := curveFewRow.holds Try.pinned (OpenSpec.ofChange curveFewWrong)

/-- 'pharoslaw10.CurveAdds': WHATEVER THE INPUT: true; the input reads as it did. -/
def curveAddsSpec : ChangeSpec := { name := "curveAdds", fn := fun _ => fun
  | [d1, d2] => { results := [.lit (.bool true)], args := [d1, d2] }
  | _ => none }
def curveAddsRow : OpenClaim := { program := "ytpmmjomejackkaa", sum := "29015311ac1afb0a8a8dfefe9c7457844fabebb366f501e1de88775d9ff5b03e", func := "pharos/pharoslaw10.CurveAdds", spec := "curveAdds", unfollowed := true, recurses := true, apart := false }
def CurveAddsSaid : Prop := curveAddsRow.holds Try.pinned (OpenSpec.ofChange curveAddsSpec)

/-- ITS FALSE NEIGHBOUR: 'it returns false'. Refute it at one input. -/
def curveAddsWrong : ChangeSpec := { name := "curveAdds", fn := fun _ => fun
  | [d1, d2] => { results := [.lit (.bool false)], args := [d1, d2] }
  | _ => none }
def CurveAddsWrongFalsely : Prop := curveAddsRow.holds Try.pinned (OpenSpec.ofChange curveAddsWrong)

/-- 'pharoslaw10.CurveLaws': WHATEVER THE INPUT: true; the input reads as it did. -/
def curveLawsSpec : ChangeSpec := { name := "curveLaws", fn := fun _ => fun
  | [d] => { results := [.lit (.bool true)], args := [d] }
  | _ => none }
def curveLawsRow : OpenClaim := { program := "ytpmmjomejackkaa", sum := "29015311ac1afb0a8a8dfefe9c7457844fabebb366f501e1de88775d9ff5b03e", func := "pharos/pharoslaw10.CurveLaws", spec := "curveLaws", unfollowed := true, recurses := true, apart := false }
def CurveLawsSaid : Prop := curveLawsRow.holds Try.pinned (OpenSpec.ofChange curveLawsSpec)

/-- ITS FALSE NEIGHBOUR: 'it returns false'. Refute it at one input. -/
def curveLawsWrong : ChangeSpec := { name := "curveLaws", fn := fun _ => fun
  | [d] => { results := [.lit (.bool false)], args := [d] }
  | _ => none }
def CurveLawsWrongFalsely : Prop := curveLawsRow.holds Try.pinned (OpenSpec.ofChange curveLawsWrong)

/-- 'pharoslaw10.CurveBytes': WHATEVER THE INPUT: true; the input reads as it did. -/
def curveBytesSpec : ChangeSpec := { name := "curveBytes", fn := fun _ => fun
  | [d1, d2] => { results := [.lit (.bool true)], args := [d1, d2] }
  | _ => none }
def curveBytesRow : OpenClaim := { program := "ytpmmjomejackkaa", sum := "29015311ac1afb0a8a8dfefe9c7457844fabebb366f501e1de88775d9ff5b03e", func := "pharos/pharoslaw10.CurveBytes", spec := "curveBytes", unfollowed := true, recurses := true, apart := false }
def CurveBytesSaid : Prop := curveBytesRow.holds Try.pinned (OpenSpec.ofChange curveBytesSpec)

/-- ITS FALSE NEIGHBOUR: 'it returns false'. Refute it at one input. -/
def curveBytesWrong : ChangeSpec := { name := "curveBytes", fn := fun _ => fun
  | [d1, d2] => { results := [.lit (.bool false)], args := [d1, d2] }
  | _ => none }
def CurveBytesWrongFalsely : Prop := curveBytesRow.holds Try.pinned (OpenSpec.ofChange curveBytesWrong)

/-- 'pharoslaw10.CurveBack': WHATEVER THE INPUT: true; the input reads as it did. -/
def curveBackSpec : ChangeSpec := { name := "curveBack", fn := fun _ => fun
  | [d1, d2] => { results := [.lit (.bool true)], args := [d1, d2] }
  | _ => none }
def curveBackRow : OpenClaim := { program := "ytpmmjomejackkaa", sum := "29015311ac1afb0a8a8dfefe9c7457844fabebb366f501e1de88775d9ff5b03e", func := "pharos/pharoslaw10.CurveBack", spec := "curveBack", unfollowed := true, recurses := true, apart := false }
def CurveBackSaid : Prop := curveBackRow.holds Try.pinned (OpenSpec.ofChange curveBackSpec)

/-- ITS FALSE NEIGHBOUR: 'it returns false'. Refute it at one input. -/
def curveBackWrong : ChangeSpec := { name := "curveBack", fn := fun _ => fun
  | [d1, d2] => { results := [.lit (.bool false)], args := [d1, d2] }
  | _ => none }
def CurveBackWrongFalsely : Prop := curveBackRow.holds Try.pinned (OpenSpec.ofChange curveBackWrong)

/-- 'pharoslaw11.PairPairs': WHATEVER THE INPUT: true; the input reads as it did. -/
def pairPairsSpec : ChangeSpec := { name := "pairPairs", fn := fun _ => fun
  | [d1, d2] => { results := [.lit (.bool true)], args := [d1, d2] }
  | _ => none }
def pairPairsRow : OpenClaim := { program := "ytpmmjomejackkaa", sum := "29015311ac1afb0a8a8dfefe9c7457844fabebb366f501e1de88775d9ff5b03e", func := "pharos/pharoslaw11.PairPairs", spec := "pairPairs", unfollowed := true, recurses := true, apart := false }
def PairPairsSaid : Prop := pairPairsRow.holds Try.pinned (OpenSpec.ofChange pairPairsSpec)

/-- ITS FALSE NEIGHBOUR: 'it returns false'. Refute it at one input. -/
def pairPairsWrong : ChangeSpec := { name := "pairPairs", fn := fun _ => fun
  | [d1, d2] => { results := [.lit (.bool false)], args := [d1, d2] }
  | _ => none }
def PairPairsWrongFalsely : Prop := pairPairsRow.holds Try.pinned (OpenSpec.ofChange pairPairsWrong)

/-- 'pharoslaw11.PairSame': WHATEVER THE INPUT: true; the input reads as it did. -/
def pairSameSpec : ChangeSpec := { name := "pairSame", fn := fun _ => fun
  | [d1, d2, d3, d4] => { results := [.lit (.bool true)], args := [d1, d2, d3, d4] }
  | _ => none }
def pairSameRow : OpenClaim := { program := "ytpmmjomejackkaa", sum := "29015311ac1afb0a8a8dfefe9c7457844fabebb366f501e1de88775d9ff5b03e", func := "pharos/pharoslaw11.PairSame", spec := "pairSame", unfollowed := true, recurses := true, apart := false }
def PairSameSaid : Prop := pairSameRow.holds Try.pinned (OpenSpec.ofChange pairSameSpec)

/-- ITS FALSE NEIGHBOUR: 'it returns false'. Refute it at one input. -/
def pairSameWrong : ChangeSpec := { name := "pairSame", fn := fun _ => fun
  | [d1, d2, d3, d4] => { results := [.lit (.bool false)], args := [d1, d2, d3, d4] }
  | _ => none }
def PairSameWrongFalsely : Prop := pairSameRow.holds Try.pinned (OpenSpec.ofChange pairSameWrong)

/-- 'pharoslaw11.PairNone': WHATEVER THE INPUT: true; the input reads as it did. -/
def pairNoneSpec : ChangeSpec := { name := "pairNone", fn := fun _ => fun
  | [d] => { results := [.lit (.bool true)], args := [d] }
  | _ => none }
def pairNoneRow : OpenClaim := { program := "ytpmmjomejackkaa", sum := "29015311ac1afb0a8a8dfefe9c7457844fabebb366f501e1de88775d9ff5b03e", func := "pharos/pharoslaw11.PairNone", spec := "pairNone", unfollowed := true, recurses := true, apart := false }
def PairNoneSaid : Prop := pairNoneRow.holds Try.pinned (OpenSpec.ofChange pairNoneSpec)

/-- ITS FALSE NEIGHBOUR: 'it returns false'. Refute it at one input. -/
def pairNoneWrong : ChangeSpec := { name := "pairNone", fn := fun _ => fun
  | [d] => { results := [.lit (.bool false)], args := [d] }
  | _ => none }
def PairNoneWrongFalsely : Prop := pairNoneRow.holds Try.pinned (OpenSpec.ofChange pairNoneWrong)

/-- 'pharoslaw11.PairLines': WHATEVER THE INPUT: true; the input reads as it did. -/
def pairLinesSpec : ChangeSpec := { name := "pairLines", fn := fun _ => fun
  | [d1, d2, d3] => { results := [.lit (.bool true)], args := [d1, d2, d3] }
  | _ => none }
def pairLinesRow : OpenClaim := { program := "ytpmmjomejackkaa", sum := "29015311ac1afb0a8a8dfefe9c7457844fabebb366f501e1de88775d9ff5b03e", func := "pharos/pharoslaw11.PairLines", spec := "pairLines", unfollowed := true, recurses := true, apart := false }
def PairLinesSaid : Prop := pairLinesRow.holds Try.pinned (OpenSpec.ofChange pairLinesSpec)

/-- ITS FALSE NEIGHBOUR: 'it returns false'. Refute it at one input. -/
def pairLinesWrong : ChangeSpec := { name := "pairLines", fn := fun _ => fun
  | [d1, d2, d3] => { results := [.lit (.bool false)], args := [d1, d2, d3] }
  | _ => none }
def PairLinesWrongFalsely : Prop := pairLinesRow.holds Try.pinned (OpenSpec.ofChange pairLinesWrong)

/-- 'pharoslaw11.PairInf': WHATEVER THE INPUT: true; the input reads as it did. -/
def pairInfSpec : ChangeSpec := { name := "pairInf", fn := fun _ => fun
  | [d1, d2] => { results := [.lit (.bool true)], args := [d1, d2] }
  | _ => none }
def pairInfRow : OpenClaim := { program := "ytpmmjomejackkaa", sum := "29015311ac1afb0a8a8dfefe9c7457844fabebb366f501e1de88775d9ff5b03e", func := "pharos/pharoslaw11.PairInf", spec := "pairInf", unfollowed := true, recurses := true, apart := false }
def PairInfSaid : Prop := pairInfRow.holds Try.pinned (OpenSpec.ofChange pairInfSpec)

/-- ITS FALSE NEIGHBOUR: 'it returns false'. Refute it at one input. -/
def pairInfWrong : ChangeSpec := { name := "pairInf", fn := fun _ => fun
  | [d1, d2] => { results := [.lit (.bool false)], args := [d1, d2] }
  | _ => none }
def PairInfWrongFalsely : Prop := pairInfRow.holds Try.pinned (OpenSpec.ofChange pairInfWrong)

/- THE SECOND FORM. 'bulk': how many values and letters a reading holds, each counted each time it is reached (what is shared counts as often as it is met; a slice's spare places count too). A statement '..UptoSaid' is the law's where the arguments, and the package variables that the reading takes, are together of bulk at most 1048576: NARROWER than '..Said'. Prove '..Said' where nothing that the law and all that it calls make is longer than what came in: it says more and counts as full. Else prove '..UptoSaid'. A law counts once. -/
mutual
def uptoBulk {H : Type} : DataW H → Nat
  | .lit (.string bytes) => bytes.length + 1
  | .lit _ => 1
  | .nil => 1
  | .ptr d => uptoBulk d + 1
  | .slice elems spare => uptoBulkAll elems + uptoBulkAll spare + 1
  | .agg parts => uptoBulkAll parts + 1
  | .iface _ d => uptoBulk d + 1
  | .map entries => uptoBulkEntries entries + 1
  | .held _ => 1
def uptoBulkAll {H : Type} : List (DataW H) → Nat
  | [] => 0
  | d :: r => uptoBulk d + uptoBulkAll r
def uptoBulkEntries {H : Type} : List (Lit × DataW H) → Nat
  | [] => 0
  | x :: r => uptoBulkEntry x + uptoBulkEntries r
def uptoBulkEntry {H : Type} : Lit × DataW H → Nat
  | (.string bytes, d) => bytes.length + uptoBulk d + 1
  | (_, d) => uptoBulk d + 1
 end
def uptoSmall : (H : Type) → List (DataW H) → Bool := fun _ ds => decide (uptoBulkAll ds ≤ 1048576)
def OpenSpec.upto (s : _root_.Go.ChangeSpec) : _root_.Go.OpenSpec := { _root_.Go.OpenSpec.ofChange s with cond := some uptoSmall }

/-- 'pharoslaw09.FieldLaws', WHERE WHAT IT READS IS OF BULK AT MOST 1048576: true; the input reads as it did. -/
def fieldLawsUptoRow : OpenClaim := { program := "ytpmmjomejackkaa", sum := "29015311ac1afb0a8a8dfefe9c7457844fabebb366f501e1de88775d9ff5b03e", func := "pharos/pharoslaw09.FieldLaws", spec := "fieldLaws", unfollowed := true, recurses := true, apart := false, narrowed := true }
def FieldLawsUptoSaid : Prop := fieldLawsUptoRow.holds Try.pinned (OpenSpec.upto fieldLawsSpec)

/-- 'pharoslaw09.FieldRoots', WHERE WHAT IT READS IS OF BULK AT MOST 1048576: true; the input reads as it did. -/
def fieldRootsUptoRow : OpenClaim := { program := "ytpmmjomejackkaa", sum := "29015311ac1afb0a8a8dfefe9c7457844fabebb366f501e1de88775d9ff5b03e", func := "pharos/pharoslaw09.FieldRoots", spec := "fieldRoots", unfollowed := true, recurses := true, apart := false, narrowed := true }
def FieldRootsUptoSaid : Prop := fieldRootsUptoRow.holds Try.pinned (OpenSpec.upto fieldRootsSpec)

/-- 'pharoslaw09.FieldReckons', WHERE WHAT IT READS IS OF BULK AT MOST 1048576: true; the input reads as it did. -/
def fieldReckonsUptoRow : OpenClaim := { program := "ytpmmjomejackkaa", sum := "29015311ac1afb0a8a8dfefe9c7457844fabebb366f501e1de88775d9ff5b03e", func := "pharos/pharoslaw09.FieldReckons", spec := "fieldReckons", unfollowed := true, recurses := true, apart := false, narrowed := true }
def FieldReckonsUptoSaid : Prop := fieldReckonsUptoRow.holds Try.pinned (OpenSpec.upto fieldReckonsSpec)

/-- 'pharoslaw09.FieldFew', WHERE WHAT IT READS IS OF BULK AT MOST 1048576: true; the input reads as it did. -/
def fieldFewUptoRow : OpenClaim := { program := "ytpmmjomejackkaa", sum := "29015311ac1afb0a8a8dfefe9c7457844fabebb366f501e1de88775d9ff5b03e", func := "pharos/pharoslaw09.FieldFew", spec := "fieldFew", unfollowed := true, recurses := true, apart := false, narrowed := true }
def FieldFewUptoSaid : Prop := fieldFewUptoRow.holds Try.pinned (OpenSpec.upto fieldFewSpec)

/-- 'pharoslaw09.FieldExtends', WHERE WHAT IT READS IS OF BULK AT MOST 1048576: true; the input reads as it did. -/
def fieldExtendsUptoRow : OpenClaim := { program := "ytpmmjomejackkaa", sum := "29015311ac1afb0a8a8dfefe9c7457844fabebb366f501e1de88775d9ff5b03e", func := "pharos/pharoslaw09.FieldExtends", spec := "fieldExtends", unfollowed := true, recurses := true, apart := false, narrowed := true }
def FieldExtendsUptoSaid : Prop := fieldExtendsUptoRow.holds Try.pinned (OpenSpec.upto fieldExtendsSpec)

/-- 'pharoslaw09.FieldRanges', WHERE WHAT IT READS IS OF BULK AT MOST 1048576: true; the input reads as it did. -/
def fieldRangesUptoRow : OpenClaim := { program := "ytpmmjomejackkaa", sum := "29015311ac1afb0a8a8dfefe9c7457844fabebb366f501e1de88775d9ff5b03e", func := "pharos/pharoslaw09.FieldRanges", spec := "fieldRanges", unfollowed := true, recurses := true, apart := false, narrowed := true }
def FieldRangesUptoSaid : Prop := fieldRangesUptoRow.holds Try.pinned (OpenSpec.upto fieldRangesSpec)

/-- 'pharoslaw10.CurveTimes', WHERE WHAT IT READS IS OF BULK AT MOST 1048576: true; the input reads as it did. -/
def curveTimesUptoRow : OpenClaim := { program := "ytpmmjomejackkaa", sum := "29015311ac1afb0a8a8dfefe9c7457844fabebb366f501e1de88775d9ff5b03e", func := "pharos/pharoslaw10.CurveTimes", spec := "curveTimes", unfollowed := true, recurses := true, apart := false, narrowed := true }
def CurveTimesUptoSaid : Prop := curveTimesUptoRow.holds Try.pinned (OpenSpec.upto curveTimesSpec)

/-- 'pharoslaw10.CurveFew', WHERE WHAT IT READS IS OF BULK AT MOST 1048576: true; the input reads as it did. -/
def curveFewUptoRow : OpenClaim := { program := "ytpmmjomejackkaa", sum := "29015311ac1afb0a8a8dfefe9c7457844fabebb366f501e1de88775d9ff5b03e", func := "pharos/pharoslaw10.CurveFew", spec := "curveFew", unfollowed := true, recurses := true, apart := false, narrowed := true }
def CurveFewUptoSaid : Prop := curveFewUptoRow.holds Try.pinned (OpenSpec.upto curveFewSpec)

/-- 'pharoslaw10.CurveAdds', WHERE WHAT IT READS IS OF BULK AT MOST 1048576: true; the input reads as it did. -/
def curveAddsUptoRow : OpenClaim := { program := "ytpmmjomejackkaa", sum := "29015311ac1afb0a8a8dfefe9c7457844fabebb366f501e1de88775d9ff5b03e", func := "pharos/pharoslaw10.CurveAdds", spec := "curveAdds", unfollowed := true, recurses := true, apart := false, narrowed := true }
def CurveAddsUptoSaid : Prop := curveAddsUptoRow.holds Try.pinned (OpenSpec.upto curveAddsSpec)

/-- 'pharoslaw10.CurveLaws', WHERE WHAT IT READS IS OF BULK AT MOST 1048576: true; the input reads as it did. -/
def curveLawsUptoRow : OpenClaim := { program := "ytpmmjomejackkaa", sum := "29015311ac1afb0a8a8dfefe9c7457844fabebb366f501e1de88775d9ff5b03e", func := "pharos/pharoslaw10.CurveLaws", spec := "curveLaws", unfollowed := true, recurses := true, apart := false, narrowed := true }
def CurveLawsUptoSaid : Prop := curveLawsUptoRow.holds Try.pinned (OpenSpec.upto curveLawsSpec)

/-- 'pharoslaw10.CurveBytes', WHERE WHAT IT READS IS OF BULK AT MOST 1048576: true; the input reads as it did. -/
def curveBytesUptoRow : OpenClaim := { program := "ytpmmjomejackkaa", sum := "29015311ac1afb0a8a8dfefe9c7457844fabebb366f501e1de88775d9ff5b03e", func := "pharos/pharoslaw10.CurveBytes", spec := "curveBytes", unfollowed := true, recurses := true, apart := false, narrowed := true }
def CurveBytesUptoSaid : Prop := curveBytesUptoRow.holds Try.pinned (OpenSpec.upto curveBytesSpec)

/-- 'pharoslaw10.CurveBack', WHERE WHAT IT READS IS OF BULK AT MOST 1048576: true; the input reads as it did. -/
def curveBackUptoRow : OpenClaim := { program := "ytpmmjomejackkaa", sum := "29015311ac1afb0a8a8dfefe9c7457844fabebb366f501e1de88775d9ff5b03e", func := "pharos/pharoslaw10.CurveBack", spec := "curveBack", unfollowed := true, recurses := true, apart := false, narrowed := true }
def CurveBackUptoSaid : Prop := curveBackUptoRow.holds Try.pinned (OpenSpec.upto curveBackSpec)

/-- 'pharoslaw11.PairPairs', WHERE WHAT IT READS IS OF BULK AT MOST 1048576: true; the input reads as it did. -/
def pairPairsUptoRow : OpenClaim := { program := "ytpmmjomejackkaa", sum := "29015311ac1afb0a8a8dfefe9c7457844fabebb366f501e1de88775d9ff5b03e", func := "pharos/pharoslaw11.PairPairs", spec := "pairPairs", unfollowed := true, recurses := true, apart := false, narrowed := true }
def PairPairsUptoSaid : Prop := pairPairsUptoRow.holds Try.pinned (OpenSpec.upto pairPairsSpec)

/-- 'pharoslaw11.PairSame', WHERE WHAT IT READS IS OF BULK AT MOST 1048576: true; the input reads as it did. -/
def pairSameUptoRow : OpenClaim := { program := "ytpmmjomejackkaa", sum := "29015311ac1afb0a8a8dfefe9c7457844fabebb366f501e1de88775d9ff5b03e", func := "pharos/pharoslaw11.PairSame", spec := "pairSame", unfollowed := true, recurses := true, apart := false, narrowed := true }
def PairSameUptoSaid : Prop := pairSameUptoRow.holds Try.pinned (OpenSpec.upto pairSameSpec)

/-- 'pharoslaw11.PairNone', WHERE WHAT IT READS IS OF BULK AT MOST 1048576: true; the input reads as it did. -/
def pairNoneUptoRow : OpenClaim := { program := "ytpmmjomejackkaa", sum := "29015311ac1afb0a8a8dfefe9c7457844fabebb366f501e1de88775d9ff5b03e", func := "pharos/pharoslaw11.PairNone", spec := "pairNone", unfollowed := true, recurses := true, apart := false, narrowed := true }
def PairNoneUptoSaid : Prop := pairNoneUptoRow.holds Try.pinned (OpenSpec.upto pairNoneSpec)

/-- 'pharoslaw11.PairLines', WHERE WHAT IT READS IS OF BULK AT MOST 1048576: true; the input reads as it did. -/
def pairLinesUptoRow : OpenClaim := { program := "ytpmmjomejackkaa", sum := "29015311ac1afb0a8a8dfefe9c7457844fabebb366f501e1de88775d9ff5b03e", func := "pharos/pharoslaw11.PairLines", spec := "pairLines", unfollowed := true, recurses := true, apart := false, narrowed := true }
def PairLinesUptoSaid : Prop := pairLinesUptoRow.holds Try.pinned (OpenSpec.upto pairLinesSpec)

/-- 'pharoslaw11.PairInf', WHERE WHAT IT READS IS OF BULK AT MOST 1048576: true; the input reads as it did. -/
def pairInfUptoRow : OpenClaim := { program := "ytpmmjomejackkaa", sum := "29015311ac1afb0a8a8dfefe9c7457844fabebb366f501e1de88775d9ff5b03e", func := "pharos/pharoslaw11.PairInf", spec := "pairInf", unfollowed := true, recurses := true, apart := false, narrowed := true }
def PairInfUptoSaid : Prop := pairInfUptoRow.holds Try.pinned (OpenSpec.upto pairInfSpec)

end Rows
end Go.Proofs.Ytpmmjomejackkaa
