/-
  NARROWER THAN 'FOR EVERY INPUT', by the rows' own cells (each row's printed sentence says how): KindMore: laid · KindStrict: laid · InsertThere: laid · RowsRise: laid · EvalSums: laid · EvalParts: laid · EvalNulls: laid · EvalShort: laid · EvalMorgan: laid · LengthJoins: laid · FoldSame: laid · KindSound: laid · SpanSound: laid · SpanTight: laid.
  DERIVED. THE GIVEN ROWS OF THIS SEAT. 14 by the template 'for every input the law returns true; each argument reads behind the call as it read before'; 0 by the template 'total and deterministic' (their statements: YtnkpnnphmimagaaDoorTotals.lean).
  GIVEN WITH THE SEED: the statements are not yours to turn. If you find one false, say at which input.
  Laid BY PROGRAM, IN A SANDBOX (cutbox-rows.mjs): the forced cells as the released guide's own fill.sh prints them over the translation dc9c7f59b883c0fe… (all of the seat's roots in one cut). By AI agents, Wed Nov 11 2026. No macro, syntax, notation, axiom, sorry.
-/
import Derived.Test.YtnkpnnphmimagaaDoorChecked
import GoSem.PinnedTables
import GoSem.Claim
import GoSem.ClaimJoined
import GoSem.ClaimMapViews
import Derived.JoinedTies
import Derived.KernelRfl
namespace Go.Proofs.YtnkpnnphmimagaaDoor
/- THE CELL 'sum', in the pinned program and in every row, IS THE sha256 OF THE DUMP (.gsa) THAT YtnkpnnphmimagaaDoorProg.lean LOADS. Nothing in Lean hashes anything: it is a label: what it is worth is what the hold of that sum in a sandbox is worth. -/
noncomputable def Tryd.pinned : Pinned := { name := "ytnkpnnphmimagaadoor", sum := "dc9c7f59b883c0fe47bbbef47319a6b9691e8797ac8a992c2384a0dcfa4bd441", checked := Tryd.checked }
namespace Rows
def none {H : Type} : Left H := { results := [], args := [] }

/- WHAT THE LISTED PACKAGE-LEVEL VARIABLES READ AS WHEN THE CALL BEGINS. Each datum BY PROGRAM (the guide's laid-datum.mjs) off the statement by which the dump's own 'gosem.cut.vars' lays the variable. In a bare row this is a premise. The card (YtnkpnnphmimagaaDoorCards.lean) ties it to the program's text. -/
def laid_unicode_utf8_acceptRanges {H : Type} : DataW H := .agg [.agg [.lit (.int .u8 128), .lit (.int .u8 191)], .agg [.lit (.int .u8 160), .lit (.int .u8 191)], .agg [.lit (.int .u8 128), .lit (.int .u8 159)], .agg [.lit (.int .u8 144), .lit (.int .u8 191)], .agg [.lit (.int .u8 128), .lit (.int .u8 143)], .agg [.lit (.int .u8 0), .lit (.int .u8 0)], .agg [.lit (.int .u8 0), .lit (.int .u8 0)], .agg [.lit (.int .u8 0), .lit (.int .u8 0)], .agg [.lit (.int .u8 0), .lit (.int .u8 0)], .agg [.lit (.int .u8 0), .lit (.int .u8 0)], .agg [.lit (.int .u8 0), .lit (.int .u8 0)], .agg [.lit (.int .u8 0), .lit (.int .u8 0)], .agg [.lit (.int .u8 0), .lit (.int .u8 0)], .agg [.lit (.int .u8 0), .lit (.int .u8 0)], .agg [.lit (.int .u8 0), .lit (.int .u8 0)], .agg [.lit (.int .u8 0), .lit (.int .u8 0)]]
/-- One of Go's own tables, pinned by name: the form's constant. -/
def laid_unicode_utf8_first : DataW Unit := Go.Pinned.utf8First

/-- 'chirographkeep.KindMore': WHATEVER THE INPUT: true; the input reads as it did. -/
def kindMoreSpec : ChangeSpec := { name := "kindMore", fn := fun _ => fun
  | [d1, d2] => { results := [.lit (.bool true)], args := [d1, d2] }
  | _ => none }
def kindMoreRow : OpenClaim := { program := "ytnkpnnphmimagaadoor", sum := "dc9c7f59b883c0fe47bbbef47319a6b9691e8797ac8a992c2384a0dcfa4bd441", func := "chirograph/chirographkeep.KindMore", spec := "kindMore", inPlace := ["math.Float64frombits", "math.Float64bits"], unfollowed := true, recurses := true, named := ["unicode/utf8.first", "unicode/utf8.acceptRanges"], apart := false, laid := [("unicode/utf8.acceptRanges", laid_unicode_utf8_acceptRanges), ("unicode/utf8.first", laid_unicode_utf8_first)] }
def KindMoreSaid : Prop := kindMoreRow.holds Tryd.pinned (OpenSpec.ofChange kindMoreSpec)

/-- ITS FALSE NEIGHBOUR: 'it returns false'. Refute it at one input. -/
def kindMoreWrong : ChangeSpec := { name := "kindMore", fn := fun _ => fun
  | [d1, d2] => { results := [.lit (.bool false)], args := [d1, d2] }
  | _ => none }
def KindMoreWrongFalsely : Prop := kindMoreRow.holds Tryd.pinned (OpenSpec.ofChange kindMoreWrong)

/-- 'chirographkeep.KindStrict': WHATEVER THE INPUT: true; the input reads as it did. -/
def kindStrictSpec : ChangeSpec := { name := "kindStrict", fn := fun _ => fun
  | [d1, d2] => { results := [.lit (.bool true)], args := [d1, d2] }
  | _ => none }
def kindStrictRow : OpenClaim := { program := "ytnkpnnphmimagaadoor", sum := "dc9c7f59b883c0fe47bbbef47319a6b9691e8797ac8a992c2384a0dcfa4bd441", func := "chirograph/chirographkeep.KindStrict", spec := "kindStrict", inPlace := ["math.Float64frombits", "math.Float64bits"], unfollowed := true, recurses := true, named := ["unicode/utf8.first", "unicode/utf8.acceptRanges"], apart := false, laid := [("unicode/utf8.acceptRanges", laid_unicode_utf8_acceptRanges), ("unicode/utf8.first", laid_unicode_utf8_first)] }
def KindStrictSaid : Prop := kindStrictRow.holds Tryd.pinned (OpenSpec.ofChange kindStrictSpec)

/-- ITS FALSE NEIGHBOUR: 'it returns false'. Refute it at one input. -/
def kindStrictWrong : ChangeSpec := { name := "kindStrict", fn := fun _ => fun
  | [d1, d2] => { results := [.lit (.bool false)], args := [d1, d2] }
  | _ => none }
def KindStrictWrongFalsely : Prop := kindStrictRow.holds Tryd.pinned (OpenSpec.ofChange kindStrictWrong)

/-- 'chirographkeep.InsertThere': WHATEVER THE INPUT: true; the input reads as it did. -/
def insertThereSpec : ChangeSpec := { name := "insertThere", fn := fun _ => fun
  | [d1, d2, d3] => { results := [.lit (.bool true)], args := [d1, d2, d3] }
  | _ => none }
def insertThereRow : OpenClaim := { program := "ytnkpnnphmimagaadoor", sum := "dc9c7f59b883c0fe47bbbef47319a6b9691e8797ac8a992c2384a0dcfa4bd441", func := "chirograph/chirographkeep.InsertThere", spec := "insertThere", inPlace := ["math.Float64frombits", "math.Float64bits"], unfollowed := true, recurses := true, named := ["unicode/utf8.first", "unicode/utf8.acceptRanges"], apart := false, laid := [("unicode/utf8.acceptRanges", laid_unicode_utf8_acceptRanges), ("unicode/utf8.first", laid_unicode_utf8_first)] }
def InsertThereSaid : Prop := insertThereRow.holds Tryd.pinned (OpenSpec.ofChange insertThereSpec)

/-- ITS FALSE NEIGHBOUR: 'it returns false'. Refute it at one input. -/
def insertThereWrong : ChangeSpec := { name := "insertThere", fn := fun _ => fun
  | [d1, d2, d3] => { results := [.lit (.bool false)], args := [d1, d2, d3] }
  | _ => none }
def InsertThereWrongFalsely : Prop := insertThereRow.holds Tryd.pinned (OpenSpec.ofChange insertThereWrong)

/-- 'chirographkeep.RowsRise': WHATEVER THE INPUT: true; the input reads as it did. -/
def rowsRiseSpec : ChangeSpec := { name := "rowsRise", fn := fun _ => fun
  | [d] => { results := [.lit (.bool true)], args := [d] }
  | _ => none }
def rowsRiseRow : OpenClaim := { program := "ytnkpnnphmimagaadoor", sum := "dc9c7f59b883c0fe47bbbef47319a6b9691e8797ac8a992c2384a0dcfa4bd441", func := "chirograph/chirographkeep.RowsRise", spec := "rowsRise", inPlace := ["math.Float64frombits", "math.Float64bits"], unfollowed := true, recurses := true, named := ["unicode/utf8.first", "unicode/utf8.acceptRanges"], apart := false, laid := [("unicode/utf8.acceptRanges", laid_unicode_utf8_acceptRanges), ("unicode/utf8.first", laid_unicode_utf8_first)] }
def RowsRiseSaid : Prop := rowsRiseRow.holds Tryd.pinned (OpenSpec.ofChange rowsRiseSpec)

/-- ITS FALSE NEIGHBOUR: 'it returns false'. Refute it at one input. -/
def rowsRiseWrong : ChangeSpec := { name := "rowsRise", fn := fun _ => fun
  | [d] => { results := [.lit (.bool false)], args := [d] }
  | _ => none }
def RowsRiseWrongFalsely : Prop := rowsRiseRow.holds Tryd.pinned (OpenSpec.ofChange rowsRiseWrong)

/-- 'chirographkeep.EvalSums': WHATEVER THE INPUT: true; the input reads as it did. -/
def evalSumsSpec : ChangeSpec := { name := "evalSums", fn := fun _ => fun
  | [d1, d2] => { results := [.lit (.bool true)], args := [d1, d2] }
  | _ => none }
def evalSumsRow : OpenClaim := { program := "ytnkpnnphmimagaadoor", sum := "dc9c7f59b883c0fe47bbbef47319a6b9691e8797ac8a992c2384a0dcfa4bd441", func := "chirograph/chirographkeep.EvalSums", spec := "evalSums", inPlace := ["math.Float64frombits", "math.Float64bits"], unfollowed := true, recurses := true, named := ["unicode/utf8.first", "unicode/utf8.acceptRanges"], apart := false, laid := [("unicode/utf8.acceptRanges", laid_unicode_utf8_acceptRanges), ("unicode/utf8.first", laid_unicode_utf8_first)] }
def EvalSumsSaid : Prop := evalSumsRow.holds Tryd.pinned (OpenSpec.ofChange evalSumsSpec)

/-- ITS FALSE NEIGHBOUR: 'it returns false'. Refute it at one input. -/
def evalSumsWrong : ChangeSpec := { name := "evalSums", fn := fun _ => fun
  | [d1, d2] => { results := [.lit (.bool false)], args := [d1, d2] }
  | _ => none }
def EvalSumsWrongFalsely : Prop := evalSumsRow.holds Tryd.pinned (OpenSpec.ofChange evalSumsWrong)

/-- 'chirographkeep.EvalParts': WHATEVER THE INPUT: true; the input reads as it did. -/
def evalPartsSpec : ChangeSpec := { name := "evalParts", fn := fun _ => fun
  | [d1, d2] => { results := [.lit (.bool true)], args := [d1, d2] }
  | _ => none }
def evalPartsRow : OpenClaim := { program := "ytnkpnnphmimagaadoor", sum := "dc9c7f59b883c0fe47bbbef47319a6b9691e8797ac8a992c2384a0dcfa4bd441", func := "chirograph/chirographkeep.EvalParts", spec := "evalParts", inPlace := ["math.Float64frombits", "math.Float64bits"], unfollowed := true, recurses := true, named := ["unicode/utf8.first", "unicode/utf8.acceptRanges"], apart := false, laid := [("unicode/utf8.acceptRanges", laid_unicode_utf8_acceptRanges), ("unicode/utf8.first", laid_unicode_utf8_first)] }
def EvalPartsSaid : Prop := evalPartsRow.holds Tryd.pinned (OpenSpec.ofChange evalPartsSpec)

/-- ITS FALSE NEIGHBOUR: 'it returns false'. Refute it at one input. -/
def evalPartsWrong : ChangeSpec := { name := "evalParts", fn := fun _ => fun
  | [d1, d2] => { results := [.lit (.bool false)], args := [d1, d2] }
  | _ => none }
def EvalPartsWrongFalsely : Prop := evalPartsRow.holds Tryd.pinned (OpenSpec.ofChange evalPartsWrong)

/-- 'chirographkeep.EvalNulls': WHATEVER THE INPUT: true; the input reads as it did. -/
def evalNullsSpec : ChangeSpec := { name := "evalNulls", fn := fun _ => fun
  | [d1, d2, d3] => { results := [.lit (.bool true)], args := [d1, d2, d3] }
  | _ => none }
def evalNullsRow : OpenClaim := { program := "ytnkpnnphmimagaadoor", sum := "dc9c7f59b883c0fe47bbbef47319a6b9691e8797ac8a992c2384a0dcfa4bd441", func := "chirograph/chirographkeep.EvalNulls", spec := "evalNulls", inPlace := ["math.Float64frombits", "math.Float64bits"], unfollowed := true, recurses := true, named := ["unicode/utf8.first", "unicode/utf8.acceptRanges"], apart := false, laid := [("unicode/utf8.acceptRanges", laid_unicode_utf8_acceptRanges), ("unicode/utf8.first", laid_unicode_utf8_first)] }
def EvalNullsSaid : Prop := evalNullsRow.holds Tryd.pinned (OpenSpec.ofChange evalNullsSpec)

/-- ITS FALSE NEIGHBOUR: 'it returns false'. Refute it at one input. -/
def evalNullsWrong : ChangeSpec := { name := "evalNulls", fn := fun _ => fun
  | [d1, d2, d3] => { results := [.lit (.bool false)], args := [d1, d2, d3] }
  | _ => none }
def EvalNullsWrongFalsely : Prop := evalNullsRow.holds Tryd.pinned (OpenSpec.ofChange evalNullsWrong)

/-- 'chirographkeep.EvalShort': WHATEVER THE INPUT: true; the input reads as it did. -/
def evalShortSpec : ChangeSpec := { name := "evalShort", fn := fun _ => fun
  | [d1, d2, d3] => { results := [.lit (.bool true)], args := [d1, d2, d3] }
  | _ => none }
def evalShortRow : OpenClaim := { program := "ytnkpnnphmimagaadoor", sum := "dc9c7f59b883c0fe47bbbef47319a6b9691e8797ac8a992c2384a0dcfa4bd441", func := "chirograph/chirographkeep.EvalShort", spec := "evalShort", inPlace := ["math.Float64frombits", "math.Float64bits"], unfollowed := true, recurses := true, named := ["unicode/utf8.first", "unicode/utf8.acceptRanges"], apart := false, laid := [("unicode/utf8.acceptRanges", laid_unicode_utf8_acceptRanges), ("unicode/utf8.first", laid_unicode_utf8_first)] }
def EvalShortSaid : Prop := evalShortRow.holds Tryd.pinned (OpenSpec.ofChange evalShortSpec)

/-- ITS FALSE NEIGHBOUR: 'it returns false'. Refute it at one input. -/
def evalShortWrong : ChangeSpec := { name := "evalShort", fn := fun _ => fun
  | [d1, d2, d3] => { results := [.lit (.bool false)], args := [d1, d2, d3] }
  | _ => none }
def EvalShortWrongFalsely : Prop := evalShortRow.holds Tryd.pinned (OpenSpec.ofChange evalShortWrong)

/-- 'chirographkeep.EvalMorgan': WHATEVER THE INPUT: true; the input reads as it did. -/
def evalMorganSpec : ChangeSpec := { name := "evalMorgan", fn := fun _ => fun
  | [d1, d2] => { results := [.lit (.bool true)], args := [d1, d2] }
  | _ => none }
def evalMorganRow : OpenClaim := { program := "ytnkpnnphmimagaadoor", sum := "dc9c7f59b883c0fe47bbbef47319a6b9691e8797ac8a992c2384a0dcfa4bd441", func := "chirograph/chirographkeep.EvalMorgan", spec := "evalMorgan", inPlace := ["math.Float64frombits", "math.Float64bits"], unfollowed := true, recurses := true, named := ["unicode/utf8.first", "unicode/utf8.acceptRanges"], apart := false, laid := [("unicode/utf8.acceptRanges", laid_unicode_utf8_acceptRanges), ("unicode/utf8.first", laid_unicode_utf8_first)] }
def EvalMorganSaid : Prop := evalMorganRow.holds Tryd.pinned (OpenSpec.ofChange evalMorganSpec)

/-- ITS FALSE NEIGHBOUR: 'it returns false'. Refute it at one input. -/
def evalMorganWrong : ChangeSpec := { name := "evalMorgan", fn := fun _ => fun
  | [d1, d2] => { results := [.lit (.bool false)], args := [d1, d2] }
  | _ => none }
def EvalMorganWrongFalsely : Prop := evalMorganRow.holds Tryd.pinned (OpenSpec.ofChange evalMorganWrong)

/-- 'chirographkeep.LengthJoins': WHATEVER THE INPUT: true; the input reads as it did. -/
def lengthJoinsSpec : ChangeSpec := { name := "lengthJoins", fn := fun _ => fun
  | [d1, d2] => { results := [.lit (.bool true)], args := [d1, d2] }
  | _ => none }
def lengthJoinsRow : OpenClaim := { program := "ytnkpnnphmimagaadoor", sum := "dc9c7f59b883c0fe47bbbef47319a6b9691e8797ac8a992c2384a0dcfa4bd441", func := "chirograph/chirographkeep.LengthJoins", spec := "lengthJoins", inPlace := ["math.Float64frombits", "math.Float64bits"], unfollowed := true, recurses := true, named := ["unicode/utf8.first", "unicode/utf8.acceptRanges"], apart := false, laid := [("unicode/utf8.acceptRanges", laid_unicode_utf8_acceptRanges), ("unicode/utf8.first", laid_unicode_utf8_first)] }
def LengthJoinsSaid : Prop := lengthJoinsRow.holds Tryd.pinned (OpenSpec.ofChange lengthJoinsSpec)

/-- ITS FALSE NEIGHBOUR: 'it returns false'. Refute it at one input. -/
def lengthJoinsWrong : ChangeSpec := { name := "lengthJoins", fn := fun _ => fun
  | [d1, d2] => { results := [.lit (.bool false)], args := [d1, d2] }
  | _ => none }
def LengthJoinsWrongFalsely : Prop := lengthJoinsRow.holds Tryd.pinned (OpenSpec.ofChange lengthJoinsWrong)

/-- 'chirographkeep.FoldSame': WHATEVER THE INPUT: true; the input reads as it did. -/
def foldSameSpec : ChangeSpec := { name := "foldSame", fn := fun _ => fun
  | [d1, d2, d3] => { results := [.lit (.bool true)], args := [d1, d2, d3] }
  | _ => none }
def foldSameRow : OpenClaim := { program := "ytnkpnnphmimagaadoor", sum := "dc9c7f59b883c0fe47bbbef47319a6b9691e8797ac8a992c2384a0dcfa4bd441", func := "chirograph/chirographkeep.FoldSame", spec := "foldSame", inPlace := ["math.Float64frombits", "math.Float64bits"], unfollowed := true, recurses := true, named := ["unicode/utf8.first", "unicode/utf8.acceptRanges"], apart := false, laid := [("unicode/utf8.acceptRanges", laid_unicode_utf8_acceptRanges), ("unicode/utf8.first", laid_unicode_utf8_first)] }
def FoldSameSaid : Prop := foldSameRow.holds Tryd.pinned (OpenSpec.ofChange foldSameSpec)

/-- ITS FALSE NEIGHBOUR: 'it returns false'. Refute it at one input. -/
def foldSameWrong : ChangeSpec := { name := "foldSame", fn := fun _ => fun
  | [d1, d2, d3] => { results := [.lit (.bool false)], args := [d1, d2, d3] }
  | _ => none }
def FoldSameWrongFalsely : Prop := foldSameRow.holds Tryd.pinned (OpenSpec.ofChange foldSameWrong)

/-- 'chirographkeep.KindSound': WHATEVER THE INPUT: true; the input reads as it did. -/
def kindSoundSpec : ChangeSpec := { name := "kindSound", fn := fun _ => fun
  | [d1, d2, d3] => { results := [.lit (.bool true)], args := [d1, d2, d3] }
  | _ => none }
def kindSoundRow : OpenClaim := { program := "ytnkpnnphmimagaadoor", sum := "dc9c7f59b883c0fe47bbbef47319a6b9691e8797ac8a992c2384a0dcfa4bd441", func := "chirograph/chirographkeep.KindSound", spec := "kindSound", inPlace := ["math.Float64frombits", "math.Float64bits"], unfollowed := true, recurses := true, named := ["unicode/utf8.first", "unicode/utf8.acceptRanges"], apart := false, laid := [("unicode/utf8.acceptRanges", laid_unicode_utf8_acceptRanges), ("unicode/utf8.first", laid_unicode_utf8_first)] }
def KindSoundSaid : Prop := kindSoundRow.holds Tryd.pinned (OpenSpec.ofChange kindSoundSpec)

/-- ITS FALSE NEIGHBOUR: 'it returns false'. Refute it at one input. -/
def kindSoundWrong : ChangeSpec := { name := "kindSound", fn := fun _ => fun
  | [d1, d2, d3] => { results := [.lit (.bool false)], args := [d1, d2, d3] }
  | _ => none }
def KindSoundWrongFalsely : Prop := kindSoundRow.holds Tryd.pinned (OpenSpec.ofChange kindSoundWrong)

/-- 'chirographkeep.SpanSound': WHATEVER THE INPUT: true; the input reads as it did. -/
def spanSoundSpec : ChangeSpec := { name := "spanSound", fn := fun _ => fun
  | [d1, d2, d3] => { results := [.lit (.bool true)], args := [d1, d2, d3] }
  | _ => none }
def spanSoundRow : OpenClaim := { program := "ytnkpnnphmimagaadoor", sum := "dc9c7f59b883c0fe47bbbef47319a6b9691e8797ac8a992c2384a0dcfa4bd441", func := "chirograph/chirographkeep.SpanSound", spec := "spanSound", inPlace := ["math.Float64frombits", "math.Float64bits"], unfollowed := true, recurses := true, named := ["unicode/utf8.first", "unicode/utf8.acceptRanges"], apart := false, laid := [("unicode/utf8.acceptRanges", laid_unicode_utf8_acceptRanges), ("unicode/utf8.first", laid_unicode_utf8_first)] }
def SpanSoundSaid : Prop := spanSoundRow.holds Tryd.pinned (OpenSpec.ofChange spanSoundSpec)

/-- ITS FALSE NEIGHBOUR: 'it returns false'. Refute it at one input. -/
def spanSoundWrong : ChangeSpec := { name := "spanSound", fn := fun _ => fun
  | [d1, d2, d3] => { results := [.lit (.bool false)], args := [d1, d2, d3] }
  | _ => none }
def SpanSoundWrongFalsely : Prop := spanSoundRow.holds Tryd.pinned (OpenSpec.ofChange spanSoundWrong)

/-- 'chirographkeep.SpanTight': WHATEVER THE INPUT: true; the input reads as it did. -/
def spanTightSpec : ChangeSpec := { name := "spanTight", fn := fun _ => fun
  | [d1, d2] => { results := [.lit (.bool true)], args := [d1, d2] }
  | _ => none }
def spanTightRow : OpenClaim := { program := "ytnkpnnphmimagaadoor", sum := "dc9c7f59b883c0fe47bbbef47319a6b9691e8797ac8a992c2384a0dcfa4bd441", func := "chirograph/chirographkeep.SpanTight", spec := "spanTight", inPlace := ["math.Float64frombits", "math.Float64bits"], unfollowed := true, recurses := true, named := ["unicode/utf8.first", "unicode/utf8.acceptRanges"], apart := false, laid := [("unicode/utf8.acceptRanges", laid_unicode_utf8_acceptRanges), ("unicode/utf8.first", laid_unicode_utf8_first)] }
def SpanTightSaid : Prop := spanTightRow.holds Tryd.pinned (OpenSpec.ofChange spanTightSpec)

/-- ITS FALSE NEIGHBOUR: 'it returns false'. Refute it at one input. -/
def spanTightWrong : ChangeSpec := { name := "spanTight", fn := fun _ => fun
  | [d1, d2] => { results := [.lit (.bool false)], args := [d1, d2] }
  | _ => none }
def SpanTightWrongFalsely : Prop := spanTightRow.holds Tryd.pinned (OpenSpec.ofChange spanTightWrong)

/- THE SECOND FORM. 'bulk': how many values and letters a reading holds, each counted each time it is reached (what is shared counts as often as it is met; a slice's spare places count too). A statement '..UptoSaid' is the law's where the arguments, and the package variables that the reading takes, are together of bulk at most 1048576: NARROWER than '..Said'. Prove '..Said' where nothing that the law and all that it calls make is longer than what came in: it says more and counts as full. Else prove '..UptoSaid'. A law counts once. -/
mutual
def uptoBulk {H : Type} : DataW H → Nat
  | .lit (.string bytes) => bytes.length + 1
  | .lit _ => 1
  | .nil => 1
  | .ptr d => uptoBulk d + 1
  | .slice elems spare => uptoBulkAll elems + uptoBulkAll spare + 1
  | .agg parts => uptoBulkAll parts + 1
  | .iface _ d => uptoBulk d + 1
  | .map entries => uptoBulkEntries entries + 1
  | .held _ => 1
def uptoBulkAll {H : Type} : List (DataW H) → Nat
  | [] => 0
  | d :: r => uptoBulk d + uptoBulkAll r
def uptoBulkEntries {H : Type} : List (Lit × DataW H) → Nat
  | [] => 0
  | x :: r => uptoBulkEntry x + uptoBulkEntries r
def uptoBulkEntry {H : Type} : Lit × DataW H → Nat
  | (.string bytes, d) => bytes.length + uptoBulk d + 1
  | (_, d) => uptoBulk d + 1
 end
def uptoSmall : (H : Type) → List (DataW H) → Bool := fun _ ds => decide (uptoBulkAll ds ≤ 1048576)
def OpenSpec.upto (s : _root_.Go.ChangeSpec) : _root_.Go.OpenSpec := { _root_.Go.OpenSpec.ofChange s with cond := some uptoSmall }

/-- 'chirographkeep.KindMore', WHERE WHAT IT READS IS OF BULK AT MOST 1048576: true; the input reads as it did. -/
def kindMoreUptoRow : OpenClaim := { program := "ytnkpnnphmimagaadoor", sum := "dc9c7f59b883c0fe47bbbef47319a6b9691e8797ac8a992c2384a0dcfa4bd441", func := "chirograph/chirographkeep.KindMore", spec := "kindMore", inPlace := ["math.Float64frombits", "math.Float64bits"], unfollowed := true, recurses := true, named := ["unicode/utf8.first", "unicode/utf8.acceptRanges"], apart := false, laid := [("unicode/utf8.acceptRanges", laid_unicode_utf8_acceptRanges), ("unicode/utf8.first", laid_unicode_utf8_first)], narrowed := true }
def KindMoreUptoSaid : Prop := kindMoreUptoRow.holds Tryd.pinned (OpenSpec.upto kindMoreSpec)

/-- 'chirographkeep.KindStrict', WHERE WHAT IT READS IS OF BULK AT MOST 1048576: true; the input reads as it did. -/
def kindStrictUptoRow : OpenClaim := { program := "ytnkpnnphmimagaadoor", sum := "dc9c7f59b883c0fe47bbbef47319a6b9691e8797ac8a992c2384a0dcfa4bd441", func := "chirograph/chirographkeep.KindStrict", spec := "kindStrict", inPlace := ["math.Float64frombits", "math.Float64bits"], unfollowed := true, recurses := true, named := ["unicode/utf8.first", "unicode/utf8.acceptRanges"], apart := false, laid := [("unicode/utf8.acceptRanges", laid_unicode_utf8_acceptRanges), ("unicode/utf8.first", laid_unicode_utf8_first)], narrowed := true }
def KindStrictUptoSaid : Prop := kindStrictUptoRow.holds Tryd.pinned (OpenSpec.upto kindStrictSpec)

/-- 'chirographkeep.InsertThere', WHERE WHAT IT READS IS OF BULK AT MOST 1048576: true; the input reads as it did. -/
def insertThereUptoRow : OpenClaim := { program := "ytnkpnnphmimagaadoor", sum := "dc9c7f59b883c0fe47bbbef47319a6b9691e8797ac8a992c2384a0dcfa4bd441", func := "chirograph/chirographkeep.InsertThere", spec := "insertThere", inPlace := ["math.Float64frombits", "math.Float64bits"], unfollowed := true, recurses := true, named := ["unicode/utf8.first", "unicode/utf8.acceptRanges"], apart := false, laid := [("unicode/utf8.acceptRanges", laid_unicode_utf8_acceptRanges), ("unicode/utf8.first", laid_unicode_utf8_first)], narrowed := true }
def InsertThereUptoSaid : Prop := insertThereUptoRow.holds Tryd.pinned (OpenSpec.upto insertThereSpec)

/-- 'chirographkeep.RowsRise', WHERE WHAT IT READS IS OF BULK AT MOST 1048576: true; the input reads as it did. -/
def rowsRiseUptoRow : OpenClaim := { program := "ytnkpnnphmimagaadoor", sum := "dc9c7f59b883c0fe47bbbef47319a6b9691e8797ac8a992c2384a0dcfa4bd441", func := "chirograph/chirographkeep.RowsRise", spec := "rowsRise", inPlace := ["math.Float64frombits", "math.Float64bits"], unfollowed := true, recurses := true, named := ["unicode/utf8.first", "unicode/utf8.acceptRanges"], apart := false, laid := [("unicode/utf8.acceptRanges", laid_unicode_utf8_acceptRanges), ("unicode/utf8.first", laid_unicode_utf8_first)], narrowed := true }
def RowsRiseUptoSaid : Prop := rowsRiseUptoRow.holds Tryd.pinned (OpenSpec.upto rowsRiseSpec)

/-- 'chirographkeep.EvalSums', WHERE WHAT IT READS IS OF BULK AT MOST 1048576: true; the input reads as it did. -/
def evalSumsUptoRow : OpenClaim := { program := "ytnkpnnphmimagaadoor", sum := "dc9c7f59b883c0fe47bbbef47319a6b9691e8797ac8a992c2384a0dcfa4bd441", func := "chirograph/chirographkeep.EvalSums", spec := "evalSums", inPlace := ["math.Float64frombits", "math.Float64bits"], unfollowed := true, recurses := true, named := ["unicode/utf8.first", "unicode/utf8.acceptRanges"], apart := false, laid := [("unicode/utf8.acceptRanges", laid_unicode_utf8_acceptRanges), ("unicode/utf8.first", laid_unicode_utf8_first)], narrowed := true }
def EvalSumsUptoSaid : Prop := evalSumsUptoRow.holds Tryd.pinned (OpenSpec.upto evalSumsSpec)

/-- 'chirographkeep.EvalParts', WHERE WHAT IT READS IS OF BULK AT MOST 1048576: true; the input reads as it did. -/
def evalPartsUptoRow : OpenClaim := { program := "ytnkpnnphmimagaadoor", sum := "dc9c7f59b883c0fe47bbbef47319a6b9691e8797ac8a992c2384a0dcfa4bd441", func := "chirograph/chirographkeep.EvalParts", spec := "evalParts", inPlace := ["math.Float64frombits", "math.Float64bits"], unfollowed := true, recurses := true, named := ["unicode/utf8.first", "unicode/utf8.acceptRanges"], apart := false, laid := [("unicode/utf8.acceptRanges", laid_unicode_utf8_acceptRanges), ("unicode/utf8.first", laid_unicode_utf8_first)], narrowed := true }
def EvalPartsUptoSaid : Prop := evalPartsUptoRow.holds Tryd.pinned (OpenSpec.upto evalPartsSpec)

/-- 'chirographkeep.EvalNulls', WHERE WHAT IT READS IS OF BULK AT MOST 1048576: true; the input reads as it did. -/
def evalNullsUptoRow : OpenClaim := { program := "ytnkpnnphmimagaadoor", sum := "dc9c7f59b883c0fe47bbbef47319a6b9691e8797ac8a992c2384a0dcfa4bd441", func := "chirograph/chirographkeep.EvalNulls", spec := "evalNulls", inPlace := ["math.Float64frombits", "math.Float64bits"], unfollowed := true, recurses := true, named := ["unicode/utf8.first", "unicode/utf8.acceptRanges"], apart := false, laid := [("unicode/utf8.acceptRanges", laid_unicode_utf8_acceptRanges), ("unicode/utf8.first", laid_unicode_utf8_first)], narrowed := true }
def EvalNullsUptoSaid : Prop := evalNullsUptoRow.holds Tryd.pinned (OpenSpec.upto evalNullsSpec)

/-- 'chirographkeep.EvalShort', WHERE WHAT IT READS IS OF BULK AT MOST 1048576: true; the input reads as it did. -/
def evalShortUptoRow : OpenClaim := { program := "ytnkpnnphmimagaadoor", sum := "dc9c7f59b883c0fe47bbbef47319a6b9691e8797ac8a992c2384a0dcfa4bd441", func := "chirograph/chirographkeep.EvalShort", spec := "evalShort", inPlace := ["math.Float64frombits", "math.Float64bits"], unfollowed := true, recurses := true, named := ["unicode/utf8.first", "unicode/utf8.acceptRanges"], apart := false, laid := [("unicode/utf8.acceptRanges", laid_unicode_utf8_acceptRanges), ("unicode/utf8.first", laid_unicode_utf8_first)], narrowed := true }
def EvalShortUptoSaid : Prop := evalShortUptoRow.holds Tryd.pinned (OpenSpec.upto evalShortSpec)

/-- 'chirographkeep.EvalMorgan', WHERE WHAT IT READS IS OF BULK AT MOST 1048576: true; the input reads as it did. -/
def evalMorganUptoRow : OpenClaim := { program := "ytnkpnnphmimagaadoor", sum := "dc9c7f59b883c0fe47bbbef47319a6b9691e8797ac8a992c2384a0dcfa4bd441", func := "chirograph/chirographkeep.EvalMorgan", spec := "evalMorgan", inPlace := ["math.Float64frombits", "math.Float64bits"], unfollowed := true, recurses := true, named := ["unicode/utf8.first", "unicode/utf8.acceptRanges"], apart := false, laid := [("unicode/utf8.acceptRanges", laid_unicode_utf8_acceptRanges), ("unicode/utf8.first", laid_unicode_utf8_first)], narrowed := true }
def EvalMorganUptoSaid : Prop := evalMorganUptoRow.holds Tryd.pinned (OpenSpec.upto evalMorganSpec)

/-- 'chirographkeep.LengthJoins', WHERE WHAT IT READS IS OF BULK AT MOST 1048576: true; the input reads as it did. -/
def lengthJoinsUptoRow : OpenClaim := { program := "ytnkpnnphmimagaadoor", sum := "dc9c7f59b883c0fe47bbbef47319a6b9691e8797ac8a992c2384a0dcfa4bd441", func := "chirograph/chirographkeep.LengthJoins", spec := "lengthJoins", inPlace := ["math.Float64frombits", "math.Float64bits"], unfollowed := true, recurses := true, named := ["unicode/utf8.first", "unicode/utf8.acceptRanges"], apart := false, laid := [("unicode/utf8.acceptRanges", laid_unicode_utf8_acceptRanges), ("unicode/utf8.first", laid_unicode_utf8_first)], narrowed := true }
def LengthJoinsUptoSaid : Prop := lengthJoinsUptoRow.holds Tryd.pinned (OpenSpec.upto lengthJoinsSpec)

/-- 'chirographkeep.FoldSame', WHERE WHAT IT READS IS OF BULK AT MOST 1048576: true; the input reads as it did. -/
def foldSameUptoRow : OpenClaim := { program := "ytnkpnnphmimagaadoor", sum := "dc9c7f59b883c0fe47bbbef47319a6b9691e8797ac8a992c2384a0dcfa4bd441", func := "chirograph/chirographkeep.FoldSame", spec := "foldSame", inPlace := ["math.Float64frombits", "math.Float64bits"], unfollowed := true, recurses := true, named := ["unicode/utf8.first", "unicode/utf8.acceptRanges"], apart := false, laid := [("unicode/utf8.acceptRanges", laid_unicode_utf8_acceptRanges), ("unicode/utf8.first", laid_unicode_utf8_first)], narrowed := true }
def FoldSameUptoSaid : Prop := foldSameUptoRow.holds Tryd.pinned (OpenSpec.upto foldSameSpec)

/-- 'chirographkeep.KindSound', WHERE WHAT IT READS IS OF BULK AT MOST 1048576: true; the input reads as it did. -/
def kindSoundUptoRow : OpenClaim := { program := "ytnkpnnphmimagaadoor", sum := "dc9c7f59b883c0fe47bbbef47319a6b9691e8797ac8a992c2384a0dcfa4bd441", func := "chirograph/chirographkeep.KindSound", spec := "kindSound", inPlace := ["math.Float64frombits", "math.Float64bits"], unfollowed := true, recurses := true, named := ["unicode/utf8.first", "unicode/utf8.acceptRanges"], apart := false, laid := [("unicode/utf8.acceptRanges", laid_unicode_utf8_acceptRanges), ("unicode/utf8.first", laid_unicode_utf8_first)], narrowed := true }
def KindSoundUptoSaid : Prop := kindSoundUptoRow.holds Tryd.pinned (OpenSpec.upto kindSoundSpec)

/-- 'chirographkeep.SpanSound', WHERE WHAT IT READS IS OF BULK AT MOST 1048576: true; the input reads as it did. -/
def spanSoundUptoRow : OpenClaim := { program := "ytnkpnnphmimagaadoor", sum := "dc9c7f59b883c0fe47bbbef47319a6b9691e8797ac8a992c2384a0dcfa4bd441", func := "chirograph/chirographkeep.SpanSound", spec := "spanSound", inPlace := ["math.Float64frombits", "math.Float64bits"], unfollowed := true, recurses := true, named := ["unicode/utf8.first", "unicode/utf8.acceptRanges"], apart := false, laid := [("unicode/utf8.acceptRanges", laid_unicode_utf8_acceptRanges), ("unicode/utf8.first", laid_unicode_utf8_first)], narrowed := true }
def SpanSoundUptoSaid : Prop := spanSoundUptoRow.holds Tryd.pinned (OpenSpec.upto spanSoundSpec)

/-- 'chirographkeep.SpanTight', WHERE WHAT IT READS IS OF BULK AT MOST 1048576: true; the input reads as it did. -/
def spanTightUptoRow : OpenClaim := { program := "ytnkpnnphmimagaadoor", sum := "dc9c7f59b883c0fe47bbbef47319a6b9691e8797ac8a992c2384a0dcfa4bd441", func := "chirograph/chirographkeep.SpanTight", spec := "spanTight", inPlace := ["math.Float64frombits", "math.Float64bits"], unfollowed := true, recurses := true, named := ["unicode/utf8.first", "unicode/utf8.acceptRanges"], apart := false, laid := [("unicode/utf8.acceptRanges", laid_unicode_utf8_acceptRanges), ("unicode/utf8.first", laid_unicode_utf8_first)], narrowed := true }
def SpanTightUptoSaid : Prop := spanTightUptoRow.holds Tryd.pinned (OpenSpec.upto spanTightSpec)

end Rows
end Go.Proofs.YtnkpnnphmimagaaDoor
