/-
  NARROWER THAN 'FOR EVERY INPUT', by the rows' own cells (each row's printed sentence says how): InsertThere: laid · SpanSound: laid · DeleteParts: laid · UpdateParts: laid · InsertDelete: laid · IndexWhole: laid.
  DERIVED. THE GIVEN ROWS OF THIS SEAT. 6 by the template 'for every input the law returns true; each argument reads behind the call as it read before'; 0 by the template 'total and deterministic' (their statements: YtpaccaojgbfjdaaDoorTotals.lean).
  GIVEN WITH THE SEED: the statements are not yours to turn. If you find one false, say at which input.
  Laid BY PROGRAM, IN A SANDBOX (cutbox-rows.mjs): the forced cells as the released guide's own fill.sh prints them over the translation 6f8a1d2abefe1d0e… (all of the seat's roots in one cut). By AI agents, Wed Nov 11 2026. No macro, syntax, notation, axiom, sorry.
-/
import Derived.Test.YtpaccaojgbfjdaaDoorChecked
import GoSem.PinnedTables
import GoSem.Claim
import GoSem.ClaimJoined
import GoSem.ClaimMapViews
import Derived.JoinedTies
import Derived.KernelRfl
namespace Go.Proofs.YtpaccaojgbfjdaaDoor
/- THE CELL 'sum', in the pinned program and in every row, IS THE sha256 OF THE DUMP (.gsa) THAT YtpaccaojgbfjdaaDoorProg.lean LOADS. Nothing in Lean hashes anything: it is a label: what it is worth is what the hold of that sum in a sandbox is worth. -/
noncomputable def Tryd.pinned : Pinned := { name := "ytpaccaojgbfjdaadoor", sum := "6f8a1d2abefe1d0e5d4d7d27dbaa281bc27a514b5b04fcf175fe6d48f1f8c07a", checked := Tryd.checked }
namespace Rows
def none {H : Type} : Left H := { results := [], args := [] }

/- WHAT THE LISTED PACKAGE-LEVEL VARIABLES READ AS WHEN THE CALL BEGINS. Each datum BY PROGRAM (the guide's laid-datum.mjs) off the statement by which the dump's own 'gosem.cut.vars' lays the variable. In a bare row this is a premise. The card (YtpaccaojgbfjdaaDoorCards.lean) ties it to the program's text. -/
def laid_unicode_utf8_acceptRanges {H : Type} : DataW H := .agg [.agg [.lit (.int .u8 128), .lit (.int .u8 191)], .agg [.lit (.int .u8 160), .lit (.int .u8 191)], .agg [.lit (.int .u8 128), .lit (.int .u8 159)], .agg [.lit (.int .u8 144), .lit (.int .u8 191)], .agg [.lit (.int .u8 128), .lit (.int .u8 143)], .agg [.lit (.int .u8 0), .lit (.int .u8 0)], .agg [.lit (.int .u8 0), .lit (.int .u8 0)], .agg [.lit (.int .u8 0), .lit (.int .u8 0)], .agg [.lit (.int .u8 0), .lit (.int .u8 0)], .agg [.lit (.int .u8 0), .lit (.int .u8 0)], .agg [.lit (.int .u8 0), .lit (.int .u8 0)], .agg [.lit (.int .u8 0), .lit (.int .u8 0)], .agg [.lit (.int .u8 0), .lit (.int .u8 0)], .agg [.lit (.int .u8 0), .lit (.int .u8 0)], .agg [.lit (.int .u8 0), .lit (.int .u8 0)], .agg [.lit (.int .u8 0), .lit (.int .u8 0)]]
/-- One of Go's own tables, pinned by name: the form's constant. -/
def laid_unicode_utf8_first : DataW Unit := Go.Pinned.utf8First

/-- 'chirographkeep.InsertThere': WHATEVER THE INPUT: true; the input reads as it did. -/
def insertThereSpec : ChangeSpec := { name := "insertThere", fn := fun _ => fun
  | [d1, d2, d3] => { results := [.lit (.bool true)], args := [d1, d2, d3] }
  | _ => none }
def insertThereRow : OpenClaim := { program := "ytpaccaojgbfjdaadoor", sum := "6f8a1d2abefe1d0e5d4d7d27dbaa281bc27a514b5b04fcf175fe6d48f1f8c07a", func := "chirograph/chirographkeep.InsertThere", spec := "insertThere", inPlace := ["math.Float64frombits", "math.Float64bits"], unfollowed := true, recurses := true, named := ["unicode/utf8.first", "unicode/utf8.acceptRanges"], apart := false, laid := [("unicode/utf8.acceptRanges", laid_unicode_utf8_acceptRanges), ("unicode/utf8.first", laid_unicode_utf8_first)] }
def InsertThereSaid : Prop := insertThereRow.holds Tryd.pinned (OpenSpec.ofChange insertThereSpec)

/-- ITS FALSE NEIGHBOUR: 'it returns false'. Refute it at one input. -/
def insertThereWrong : ChangeSpec := { name := "insertThere", fn := fun _ => fun
  | [d1, d2, d3] => { results := [.lit (.bool false)], args := [d1, d2, d3] }
  | _ => none }
def InsertThereWrongFalsely : Prop := insertThereRow.holds Tryd.pinned (OpenSpec.ofChange insertThereWrong)

/-- 'chirographkeep.SpanSound': WHATEVER THE INPUT: true; the input reads as it did. -/
def spanSoundSpec : ChangeSpec := { name := "spanSound", fn := fun _ => fun
  | [d1, d2, d3] => { results := [.lit (.bool true)], args := [d1, d2, d3] }
  | _ => none }
def spanSoundRow : OpenClaim := { program := "ytpaccaojgbfjdaadoor", sum := "6f8a1d2abefe1d0e5d4d7d27dbaa281bc27a514b5b04fcf175fe6d48f1f8c07a", func := "chirograph/chirographkeep.SpanSound", spec := "spanSound", inPlace := ["math.Float64frombits", "math.Float64bits"], unfollowed := true, recurses := true, named := ["unicode/utf8.first", "unicode/utf8.acceptRanges"], apart := false, laid := [("unicode/utf8.acceptRanges", laid_unicode_utf8_acceptRanges), ("unicode/utf8.first", laid_unicode_utf8_first)] }
def SpanSoundSaid : Prop := spanSoundRow.holds Tryd.pinned (OpenSpec.ofChange spanSoundSpec)

/-- ITS FALSE NEIGHBOUR: 'it returns false'. Refute it at one input. -/
def spanSoundWrong : ChangeSpec := { name := "spanSound", fn := fun _ => fun
  | [d1, d2, d3] => { results := [.lit (.bool false)], args := [d1, d2, d3] }
  | _ => none }
def SpanSoundWrongFalsely : Prop := spanSoundRow.holds Tryd.pinned (OpenSpec.ofChange spanSoundWrong)

/-- 'chirographkeep.DeleteParts': WHATEVER THE INPUT: true; the input reads as it did. -/
def deletePartsSpec : ChangeSpec := { name := "deleteParts", fn := fun _ => fun
  | [d1, d2] => { results := [.lit (.bool true)], args := [d1, d2] }
  | _ => none }
def deletePartsRow : OpenClaim := { program := "ytpaccaojgbfjdaadoor", sum := "6f8a1d2abefe1d0e5d4d7d27dbaa281bc27a514b5b04fcf175fe6d48f1f8c07a", func := "chirograph/chirographkeep.DeleteParts", spec := "deleteParts", inPlace := ["math.Float64frombits", "math.Float64bits"], unfollowed := true, recurses := true, named := ["unicode/utf8.first", "unicode/utf8.acceptRanges"], apart := false, laid := [("unicode/utf8.acceptRanges", laid_unicode_utf8_acceptRanges), ("unicode/utf8.first", laid_unicode_utf8_first)] }
def DeletePartsSaid : Prop := deletePartsRow.holds Tryd.pinned (OpenSpec.ofChange deletePartsSpec)

/-- ITS FALSE NEIGHBOUR: 'it returns false'. Refute it at one input. -/
def deletePartsWrong : ChangeSpec := { name := "deleteParts", fn := fun _ => fun
  | [d1, d2] => { results := [.lit (.bool false)], args := [d1, d2] }
  | _ => none }
def DeletePartsWrongFalsely : Prop := deletePartsRow.holds Tryd.pinned (OpenSpec.ofChange deletePartsWrong)

/-- 'chirographkeep.UpdateParts': WHATEVER THE INPUT: true; the input reads as it did. -/
def updatePartsSpec : ChangeSpec := { name := "updateParts", fn := fun _ => fun
  | [d1, d2] => { results := [.lit (.bool true)], args := [d1, d2] }
  | _ => none }
def updatePartsRow : OpenClaim := { program := "ytpaccaojgbfjdaadoor", sum := "6f8a1d2abefe1d0e5d4d7d27dbaa281bc27a514b5b04fcf175fe6d48f1f8c07a", func := "chirograph/chirographkeep.UpdateParts", spec := "updateParts", inPlace := ["math.Float64frombits", "math.Float64bits"], unfollowed := true, recurses := true, named := ["unicode/utf8.first", "unicode/utf8.acceptRanges"], apart := false, laid := [("unicode/utf8.acceptRanges", laid_unicode_utf8_acceptRanges), ("unicode/utf8.first", laid_unicode_utf8_first)] }
def UpdatePartsSaid : Prop := updatePartsRow.holds Tryd.pinned (OpenSpec.ofChange updatePartsSpec)

/-- ITS FALSE NEIGHBOUR: 'it returns false'. Refute it at one input. -/
def updatePartsWrong : ChangeSpec := { name := "updateParts", fn := fun _ => fun
  | [d1, d2] => { results := [.lit (.bool false)], args := [d1, d2] }
  | _ => none }
def UpdatePartsWrongFalsely : Prop := updatePartsRow.holds Tryd.pinned (OpenSpec.ofChange updatePartsWrong)

/-- 'chirographkeep.InsertDelete': WHATEVER THE INPUT: true; the input reads as it did. -/
def insertDeleteSpec : ChangeSpec := { name := "insertDelete", fn := fun _ => fun
  | [d1, d2, d3] => { results := [.lit (.bool true)], args := [d1, d2, d3] }
  | _ => none }
def insertDeleteRow : OpenClaim := { program := "ytpaccaojgbfjdaadoor", sum := "6f8a1d2abefe1d0e5d4d7d27dbaa281bc27a514b5b04fcf175fe6d48f1f8c07a", func := "chirograph/chirographkeep.InsertDelete", spec := "insertDelete", inPlace := ["math.Float64frombits", "math.Float64bits"], unfollowed := true, recurses := true, named := ["unicode/utf8.first", "unicode/utf8.acceptRanges"], apart := false, laid := [("unicode/utf8.acceptRanges", laid_unicode_utf8_acceptRanges), ("unicode/utf8.first", laid_unicode_utf8_first)] }
def InsertDeleteSaid : Prop := insertDeleteRow.holds Tryd.pinned (OpenSpec.ofChange insertDeleteSpec)

/-- ITS FALSE NEIGHBOUR: 'it returns false'. Refute it at one input. -/
def insertDeleteWrong : ChangeSpec := { name := "insertDelete", fn := fun _ => fun
  | [d1, d2, d3] => { results := [.lit (.bool false)], args := [d1, d2, d3] }
  | _ => none }
def InsertDeleteWrongFalsely : Prop := insertDeleteRow.holds Tryd.pinned (OpenSpec.ofChange insertDeleteWrong)

/-- 'chirographkeep.IndexWhole': WHATEVER THE INPUT: true; the input reads as it did. -/
def indexWholeSpec : ChangeSpec := { name := "indexWhole", fn := fun _ => fun
  | [d1, d2, d3] => { results := [.lit (.bool true)], args := [d1, d2, d3] }
  | _ => none }
def indexWholeRow : OpenClaim := { program := "ytpaccaojgbfjdaadoor", sum := "6f8a1d2abefe1d0e5d4d7d27dbaa281bc27a514b5b04fcf175fe6d48f1f8c07a", func := "chirograph/chirographkeep.IndexWhole", spec := "indexWhole", inPlace := ["math.Float64frombits", "math.Float64bits"], unfollowed := true, recurses := true, named := ["unicode/utf8.first", "unicode/utf8.acceptRanges"], apart := false, laid := [("unicode/utf8.acceptRanges", laid_unicode_utf8_acceptRanges), ("unicode/utf8.first", laid_unicode_utf8_first)] }
def IndexWholeSaid : Prop := indexWholeRow.holds Tryd.pinned (OpenSpec.ofChange indexWholeSpec)

/-- ITS FALSE NEIGHBOUR: 'it returns false'. Refute it at one input. -/
def indexWholeWrong : ChangeSpec := { name := "indexWhole", fn := fun _ => fun
  | [d1, d2, d3] => { results := [.lit (.bool false)], args := [d1, d2, d3] }
  | _ => none }
def IndexWholeWrongFalsely : Prop := indexWholeRow.holds Tryd.pinned (OpenSpec.ofChange indexWholeWrong)

/- THE SECOND FORM. 'bulk': how many values and letters a reading holds, each counted each time it is reached (what is shared counts as often as it is met; a slice's spare places count too). A statement '..UptoSaid' is the law's where the arguments, and the package variables that the reading takes, are together of bulk at most 1048576: NARROWER than '..Said'. Prove '..Said' where nothing that the law and all that it calls make is longer than what came in: it says more and counts as full. Else prove '..UptoSaid'. A law counts once. -/
mutual
def uptoBulk {H : Type} : DataW H → Nat
  | .lit (.string bytes) => bytes.length + 1
  | .lit _ => 1
  | .nil => 1
  | .ptr d => uptoBulk d + 1
  | .slice elems spare => uptoBulkAll elems + uptoBulkAll spare + 1
  | .agg parts => uptoBulkAll parts + 1
  | .iface _ d => uptoBulk d + 1
  | .map entries => uptoBulkEntries entries + 1
  | .held _ => 1
def uptoBulkAll {H : Type} : List (DataW H) → Nat
  | [] => 0
  | d :: r => uptoBulk d + uptoBulkAll r
def uptoBulkEntries {H : Type} : List (Lit × DataW H) → Nat
  | [] => 0
  | x :: r => uptoBulkEntry x + uptoBulkEntries r
def uptoBulkEntry {H : Type} : Lit × DataW H → Nat
  | (.string bytes, d) => bytes.length + uptoBulk d + 1
  | (_, d) => uptoBulk d + 1
 end
def uptoSmall : (H : Type) → List (DataW H) → Bool := fun _ ds => decide (uptoBulkAll ds ≤ 1048576)
def OpenSpec.upto (s : _root_.Go.ChangeSpec) : _root_.Go.OpenSpec := { _root_.Go.OpenSpec.ofChange s with cond := some uptoSmall }

/-- 'chirographkeep.InsertThere', WHERE WHAT IT READS IS OF BULK AT MOST 1048576: true; the input reads as it did. -/
def insertThereUptoRow : OpenClaim := { program := "ytpaccaojgbfjdaadoor", sum := "6f8a1d2abefe1d0e5d4d7d27dbaa281bc27a514b5b04fcf175fe6d48f1f8c07a", func := "chirograph/chirographkeep.InsertThere", spec := "insertThere", inPlace := ["math.Float64frombits", "math.Float64bits"], unfollowed := true, recurses := true, named := ["unicode/utf8.first", "unicode/utf8.acceptRanges"], apart := false, laid := [("unicode/utf8.acceptRanges", laid_unicode_utf8_acceptRanges), ("unicode/utf8.first", laid_unicode_utf8_first)], narrowed := true }
def InsertThereUptoSaid : Prop := insertThereUptoRow.holds Tryd.pinned (OpenSpec.upto insertThereSpec)

/-- 'chirographkeep.SpanSound', WHERE WHAT IT READS IS OF BULK AT MOST 1048576: true; the input reads as it did. -/
def spanSoundUptoRow : OpenClaim := { program := "ytpaccaojgbfjdaadoor", sum := "6f8a1d2abefe1d0e5d4d7d27dbaa281bc27a514b5b04fcf175fe6d48f1f8c07a", func := "chirograph/chirographkeep.SpanSound", spec := "spanSound", inPlace := ["math.Float64frombits", "math.Float64bits"], unfollowed := true, recurses := true, named := ["unicode/utf8.first", "unicode/utf8.acceptRanges"], apart := false, laid := [("unicode/utf8.acceptRanges", laid_unicode_utf8_acceptRanges), ("unicode/utf8.first", laid_unicode_utf8_first)], narrowed := true }
def SpanSoundUptoSaid : Prop := spanSoundUptoRow.holds Tryd.pinned (OpenSpec.upto spanSoundSpec)

/-- 'chirographkeep.DeleteParts', WHERE WHAT IT READS IS OF BULK AT MOST 1048576: true; the input reads as it did. -/
def deletePartsUptoRow : OpenClaim := { program := "ytpaccaojgbfjdaadoor", sum := "6f8a1d2abefe1d0e5d4d7d27dbaa281bc27a514b5b04fcf175fe6d48f1f8c07a", func := "chirograph/chirographkeep.DeleteParts", spec := "deleteParts", inPlace := ["math.Float64frombits", "math.Float64bits"], unfollowed := true, recurses := true, named := ["unicode/utf8.first", "unicode/utf8.acceptRanges"], apart := false, laid := [("unicode/utf8.acceptRanges", laid_unicode_utf8_acceptRanges), ("unicode/utf8.first", laid_unicode_utf8_first)], narrowed := true }
def DeletePartsUptoSaid : Prop := deletePartsUptoRow.holds Tryd.pinned (OpenSpec.upto deletePartsSpec)

/-- 'chirographkeep.UpdateParts', WHERE WHAT IT READS IS OF BULK AT MOST 1048576: true; the input reads as it did. -/
def updatePartsUptoRow : OpenClaim := { program := "ytpaccaojgbfjdaadoor", sum := "6f8a1d2abefe1d0e5d4d7d27dbaa281bc27a514b5b04fcf175fe6d48f1f8c07a", func := "chirograph/chirographkeep.UpdateParts", spec := "updateParts", inPlace := ["math.Float64frombits", "math.Float64bits"], unfollowed := true, recurses := true, named := ["unicode/utf8.first", "unicode/utf8.acceptRanges"], apart := false, laid := [("unicode/utf8.acceptRanges", laid_unicode_utf8_acceptRanges), ("unicode/utf8.first", laid_unicode_utf8_first)], narrowed := true }
def UpdatePartsUptoSaid : Prop := updatePartsUptoRow.holds Tryd.pinned (OpenSpec.upto updatePartsSpec)

/-- 'chirographkeep.InsertDelete', WHERE WHAT IT READS IS OF BULK AT MOST 1048576: true; the input reads as it did. -/
def insertDeleteUptoRow : OpenClaim := { program := "ytpaccaojgbfjdaadoor", sum := "6f8a1d2abefe1d0e5d4d7d27dbaa281bc27a514b5b04fcf175fe6d48f1f8c07a", func := "chirograph/chirographkeep.InsertDelete", spec := "insertDelete", inPlace := ["math.Float64frombits", "math.Float64bits"], unfollowed := true, recurses := true, named := ["unicode/utf8.first", "unicode/utf8.acceptRanges"], apart := false, laid := [("unicode/utf8.acceptRanges", laid_unicode_utf8_acceptRanges), ("unicode/utf8.first", laid_unicode_utf8_first)], narrowed := true }
def InsertDeleteUptoSaid : Prop := insertDeleteUptoRow.holds Tryd.pinned (OpenSpec.upto insertDeleteSpec)

/-- 'chirographkeep.IndexWhole', WHERE WHAT IT READS IS OF BULK AT MOST 1048576: true; the input reads as it did. -/
def indexWholeUptoRow : OpenClaim := { program := "ytpaccaojgbfjdaadoor", sum := "6f8a1d2abefe1d0e5d4d7d27dbaa281bc27a514b5b04fcf175fe6d48f1f8c07a", func := "chirograph/chirographkeep.IndexWhole", spec := "indexWhole", inPlace := ["math.Float64frombits", "math.Float64bits"], unfollowed := true, recurses := true, named := ["unicode/utf8.first", "unicode/utf8.acceptRanges"], apart := false, laid := [("unicode/utf8.acceptRanges", laid_unicode_utf8_acceptRanges), ("unicode/utf8.first", laid_unicode_utf8_first)], narrowed := true }
def IndexWholeUptoSaid : Prop := indexWholeUptoRow.holds Tryd.pinned (OpenSpec.upto indexWholeSpec)

end Rows
end Go.Proofs.YtpaccaojgbfjdaaDoor
