/-
  DERIVED. GIVEN WITH THE SEED: THE CARDS: each row of YtnkpnnphmimagaaDoorRows.lean that lists a variable, with what it lists TIED to the program's text (the seventh form; the later family's looks); each row that meets fmt, with fmt's text TOLD by the authors' own Lean function (tested against real Go, not proved from fmt's source: count such statements apart). THE CARD IS WHAT COUNTS. Prove the row's statement (the work); the ties are given (YtnkpnnphmimagaaDoorTie.lean); close each card by the builder's one call (the guide's Derived/Test/ToyasCard.lean, 'card_holds'). Laid BY PROGRAM, IN A SANDBOX (cutbox-door.mjs). By AI agents, Wed Nov 11 2026. No macro, syntax, notation, axiom, sorry.
-/
import Derived.Test.YtnkpnnphmimagaaDoorRows
import GoSem.ClaimSeven
namespace Go.Proofs.YtnkpnnphmimagaaDoor
namespace Rows

/-- THE TIED CARD OF 'chirographkeep.KindMore'. -/
def kindMoreCard : Claim7 := { stood := { row := kindMoreRow, standIns := [], harness := (true, "e387d40ae2246d900923b14cfe8940cbfa2a0dae4c7f8946799a693cdbb4e767"), looks := true }, kinds := [], alts := [], laidByText := true, laidKinds := [.data, .pinned], laidTests := true, laidLooks := .later }
def KindMoreCardSaid : Prop := Claim7.holds Tryd.pinned (.plain (OpenSpec.ofChange kindMoreSpec)) kindMoreCard

/-- THE TIED CARD OF 'chirographkeep.KindStrict'. -/
def kindStrictCard : Claim7 := { stood := { row := kindStrictRow, standIns := [], harness := (true, "e387d40ae2246d900923b14cfe8940cbfa2a0dae4c7f8946799a693cdbb4e767"), looks := true }, kinds := [], alts := [], laidByText := true, laidKinds := [.data, .pinned], laidTests := true, laidLooks := .later }
def KindStrictCardSaid : Prop := Claim7.holds Tryd.pinned (.plain (OpenSpec.ofChange kindStrictSpec)) kindStrictCard

/-- THE TIED CARD OF 'chirographkeep.InsertThere'. -/
def insertThereCard : Claim7 := { stood := { row := insertThereRow, standIns := [], harness := (true, "e387d40ae2246d900923b14cfe8940cbfa2a0dae4c7f8946799a693cdbb4e767"), looks := true }, kinds := [], alts := [], laidByText := true, laidKinds := [.data, .pinned], laidTests := true, laidLooks := .later }
def InsertThereCardSaid : Prop := Claim7.holds Tryd.pinned (.plain (OpenSpec.ofChange insertThereSpec)) insertThereCard

/-- THE TIED CARD OF 'chirographkeep.RowsRise'. -/
def rowsRiseCard : Claim7 := { stood := { row := rowsRiseRow, standIns := [], harness := (true, "e387d40ae2246d900923b14cfe8940cbfa2a0dae4c7f8946799a693cdbb4e767"), looks := true }, kinds := [], alts := [], laidByText := true, laidKinds := [.data, .pinned], laidTests := true, laidLooks := .later }
def RowsRiseCardSaid : Prop := Claim7.holds Tryd.pinned (.plain (OpenSpec.ofChange rowsRiseSpec)) rowsRiseCard

/-- THE TIED CARD OF 'chirographkeep.EvalSums'. -/
def evalSumsCard : Claim7 := { stood := { row := evalSumsRow, standIns := [], harness := (true, "e387d40ae2246d900923b14cfe8940cbfa2a0dae4c7f8946799a693cdbb4e767"), looks := true }, kinds := [], alts := [], laidByText := true, laidKinds := [.data, .pinned], laidTests := true, laidLooks := .later }
def EvalSumsCardSaid : Prop := Claim7.holds Tryd.pinned (.plain (OpenSpec.ofChange evalSumsSpec)) evalSumsCard

/-- THE TIED CARD OF 'chirographkeep.EvalParts'. -/
def evalPartsCard : Claim7 := { stood := { row := evalPartsRow, standIns := [], harness := (true, "e387d40ae2246d900923b14cfe8940cbfa2a0dae4c7f8946799a693cdbb4e767"), looks := true }, kinds := [], alts := [], laidByText := true, laidKinds := [.data, .pinned], laidTests := true, laidLooks := .later }
def EvalPartsCardSaid : Prop := Claim7.holds Tryd.pinned (.plain (OpenSpec.ofChange evalPartsSpec)) evalPartsCard

/-- THE TIED CARD OF 'chirographkeep.EvalNulls'. -/
def evalNullsCard : Claim7 := { stood := { row := evalNullsRow, standIns := [], harness := (true, "e387d40ae2246d900923b14cfe8940cbfa2a0dae4c7f8946799a693cdbb4e767"), looks := true }, kinds := [], alts := [], laidByText := true, laidKinds := [.data, .pinned], laidTests := true, laidLooks := .later }
def EvalNullsCardSaid : Prop := Claim7.holds Tryd.pinned (.plain (OpenSpec.ofChange evalNullsSpec)) evalNullsCard

/-- THE TIED CARD OF 'chirographkeep.EvalShort'. -/
def evalShortCard : Claim7 := { stood := { row := evalShortRow, standIns := [], harness := (true, "e387d40ae2246d900923b14cfe8940cbfa2a0dae4c7f8946799a693cdbb4e767"), looks := true }, kinds := [], alts := [], laidByText := true, laidKinds := [.data, .pinned], laidTests := true, laidLooks := .later }
def EvalShortCardSaid : Prop := Claim7.holds Tryd.pinned (.plain (OpenSpec.ofChange evalShortSpec)) evalShortCard

/-- THE TIED CARD OF 'chirographkeep.EvalMorgan'. -/
def evalMorganCard : Claim7 := { stood := { row := evalMorganRow, standIns := [], harness := (true, "e387d40ae2246d900923b14cfe8940cbfa2a0dae4c7f8946799a693cdbb4e767"), looks := true }, kinds := [], alts := [], laidByText := true, laidKinds := [.data, .pinned], laidTests := true, laidLooks := .later }
def EvalMorganCardSaid : Prop := Claim7.holds Tryd.pinned (.plain (OpenSpec.ofChange evalMorganSpec)) evalMorganCard

/-- THE TIED CARD OF 'chirographkeep.LengthJoins'. -/
def lengthJoinsCard : Claim7 := { stood := { row := lengthJoinsRow, standIns := [], harness := (true, "e387d40ae2246d900923b14cfe8940cbfa2a0dae4c7f8946799a693cdbb4e767"), looks := true }, kinds := [], alts := [], laidByText := true, laidKinds := [.data, .pinned], laidTests := true, laidLooks := .later }
def LengthJoinsCardSaid : Prop := Claim7.holds Tryd.pinned (.plain (OpenSpec.ofChange lengthJoinsSpec)) lengthJoinsCard

/-- THE TIED CARD OF 'chirographkeep.FoldSame'. -/
def foldSameCard : Claim7 := { stood := { row := foldSameRow, standIns := [], harness := (true, "e387d40ae2246d900923b14cfe8940cbfa2a0dae4c7f8946799a693cdbb4e767"), looks := true }, kinds := [], alts := [], laidByText := true, laidKinds := [.data, .pinned], laidTests := true, laidLooks := .later }
def FoldSameCardSaid : Prop := Claim7.holds Tryd.pinned (.plain (OpenSpec.ofChange foldSameSpec)) foldSameCard

/-- THE TIED CARD OF 'chirographkeep.KindSound'. -/
def kindSoundCard : Claim7 := { stood := { row := kindSoundRow, standIns := [], harness := (true, "e387d40ae2246d900923b14cfe8940cbfa2a0dae4c7f8946799a693cdbb4e767"), looks := true }, kinds := [], alts := [], laidByText := true, laidKinds := [.data, .pinned], laidTests := true, laidLooks := .later }
def KindSoundCardSaid : Prop := Claim7.holds Tryd.pinned (.plain (OpenSpec.ofChange kindSoundSpec)) kindSoundCard

/-- THE TIED CARD OF 'chirographkeep.SpanSound'. -/
def spanSoundCard : Claim7 := { stood := { row := spanSoundRow, standIns := [], harness := (true, "e387d40ae2246d900923b14cfe8940cbfa2a0dae4c7f8946799a693cdbb4e767"), looks := true }, kinds := [], alts := [], laidByText := true, laidKinds := [.data, .pinned], laidTests := true, laidLooks := .later }
def SpanSoundCardSaid : Prop := Claim7.holds Tryd.pinned (.plain (OpenSpec.ofChange spanSoundSpec)) spanSoundCard

/-- THE TIED CARD OF 'chirographkeep.SpanTight'. -/
def spanTightCard : Claim7 := { stood := { row := spanTightRow, standIns := [], harness := (true, "e387d40ae2246d900923b14cfe8940cbfa2a0dae4c7f8946799a693cdbb4e767"), looks := true }, kinds := [], alts := [], laidByText := true, laidKinds := [.data, .pinned], laidTests := true, laidLooks := .later }
def SpanTightCardSaid : Prop := Claim7.holds Tryd.pinned (.plain (OpenSpec.ofChange spanTightSpec)) spanTightCard

/-- THE SECOND FORM's CARD OF 'chirographkeep.KindMore'. -/
def kindMoreUptoCard : Claim7 := { stood := { row := kindMoreUptoRow, standIns := [], harness := (true, "e387d40ae2246d900923b14cfe8940cbfa2a0dae4c7f8946799a693cdbb4e767"), looks := true }, kinds := [], alts := [], laidByText := true, laidKinds := [.data, .pinned], laidTests := true, laidLooks := .later }
def KindMoreUptoCardSaid : Prop := Claim7.holds Tryd.pinned (.plain (OpenSpec.upto kindMoreSpec)) kindMoreUptoCard

/-- THE SECOND FORM's CARD OF 'chirographkeep.KindStrict'. -/
def kindStrictUptoCard : Claim7 := { stood := { row := kindStrictUptoRow, standIns := [], harness := (true, "e387d40ae2246d900923b14cfe8940cbfa2a0dae4c7f8946799a693cdbb4e767"), looks := true }, kinds := [], alts := [], laidByText := true, laidKinds := [.data, .pinned], laidTests := true, laidLooks := .later }
def KindStrictUptoCardSaid : Prop := Claim7.holds Tryd.pinned (.plain (OpenSpec.upto kindStrictSpec)) kindStrictUptoCard

/-- THE SECOND FORM's CARD OF 'chirographkeep.InsertThere'. -/
def insertThereUptoCard : Claim7 := { stood := { row := insertThereUptoRow, standIns := [], harness := (true, "e387d40ae2246d900923b14cfe8940cbfa2a0dae4c7f8946799a693cdbb4e767"), looks := true }, kinds := [], alts := [], laidByText := true, laidKinds := [.data, .pinned], laidTests := true, laidLooks := .later }
def InsertThereUptoCardSaid : Prop := Claim7.holds Tryd.pinned (.plain (OpenSpec.upto insertThereSpec)) insertThereUptoCard

/-- THE SECOND FORM's CARD OF 'chirographkeep.RowsRise'. -/
def rowsRiseUptoCard : Claim7 := { stood := { row := rowsRiseUptoRow, standIns := [], harness := (true, "e387d40ae2246d900923b14cfe8940cbfa2a0dae4c7f8946799a693cdbb4e767"), looks := true }, kinds := [], alts := [], laidByText := true, laidKinds := [.data, .pinned], laidTests := true, laidLooks := .later }
def RowsRiseUptoCardSaid : Prop := Claim7.holds Tryd.pinned (.plain (OpenSpec.upto rowsRiseSpec)) rowsRiseUptoCard

/-- THE SECOND FORM's CARD OF 'chirographkeep.EvalSums'. -/
def evalSumsUptoCard : Claim7 := { stood := { row := evalSumsUptoRow, standIns := [], harness := (true, "e387d40ae2246d900923b14cfe8940cbfa2a0dae4c7f8946799a693cdbb4e767"), looks := true }, kinds := [], alts := [], laidByText := true, laidKinds := [.data, .pinned], laidTests := true, laidLooks := .later }
def EvalSumsUptoCardSaid : Prop := Claim7.holds Tryd.pinned (.plain (OpenSpec.upto evalSumsSpec)) evalSumsUptoCard

/-- THE SECOND FORM's CARD OF 'chirographkeep.EvalParts'. -/
def evalPartsUptoCard : Claim7 := { stood := { row := evalPartsUptoRow, standIns := [], harness := (true, "e387d40ae2246d900923b14cfe8940cbfa2a0dae4c7f8946799a693cdbb4e767"), looks := true }, kinds := [], alts := [], laidByText := true, laidKinds := [.data, .pinned], laidTests := true, laidLooks := .later }
def EvalPartsUptoCardSaid : Prop := Claim7.holds Tryd.pinned (.plain (OpenSpec.upto evalPartsSpec)) evalPartsUptoCard

/-- THE SECOND FORM's CARD OF 'chirographkeep.EvalNulls'. -/
def evalNullsUptoCard : Claim7 := { stood := { row := evalNullsUptoRow, standIns := [], harness := (true, "e387d40ae2246d900923b14cfe8940cbfa2a0dae4c7f8946799a693cdbb4e767"), looks := true }, kinds := [], alts := [], laidByText := true, laidKinds := [.data, .pinned], laidTests := true, laidLooks := .later }
def EvalNullsUptoCardSaid : Prop := Claim7.holds Tryd.pinned (.plain (OpenSpec.upto evalNullsSpec)) evalNullsUptoCard

/-- THE SECOND FORM's CARD OF 'chirographkeep.EvalShort'. -/
def evalShortUptoCard : Claim7 := { stood := { row := evalShortUptoRow, standIns := [], harness := (true, "e387d40ae2246d900923b14cfe8940cbfa2a0dae4c7f8946799a693cdbb4e767"), looks := true }, kinds := [], alts := [], laidByText := true, laidKinds := [.data, .pinned], laidTests := true, laidLooks := .later }
def EvalShortUptoCardSaid : Prop := Claim7.holds Tryd.pinned (.plain (OpenSpec.upto evalShortSpec)) evalShortUptoCard

/-- THE SECOND FORM's CARD OF 'chirographkeep.EvalMorgan'. -/
def evalMorganUptoCard : Claim7 := { stood := { row := evalMorganUptoRow, standIns := [], harness := (true, "e387d40ae2246d900923b14cfe8940cbfa2a0dae4c7f8946799a693cdbb4e767"), looks := true }, kinds := [], alts := [], laidByText := true, laidKinds := [.data, .pinned], laidTests := true, laidLooks := .later }
def EvalMorganUptoCardSaid : Prop := Claim7.holds Tryd.pinned (.plain (OpenSpec.upto evalMorganSpec)) evalMorganUptoCard

/-- THE SECOND FORM's CARD OF 'chirographkeep.LengthJoins'. -/
def lengthJoinsUptoCard : Claim7 := { stood := { row := lengthJoinsUptoRow, standIns := [], harness := (true, "e387d40ae2246d900923b14cfe8940cbfa2a0dae4c7f8946799a693cdbb4e767"), looks := true }, kinds := [], alts := [], laidByText := true, laidKinds := [.data, .pinned], laidTests := true, laidLooks := .later }
def LengthJoinsUptoCardSaid : Prop := Claim7.holds Tryd.pinned (.plain (OpenSpec.upto lengthJoinsSpec)) lengthJoinsUptoCard

/-- THE SECOND FORM's CARD OF 'chirographkeep.FoldSame'. -/
def foldSameUptoCard : Claim7 := { stood := { row := foldSameUptoRow, standIns := [], harness := (true, "e387d40ae2246d900923b14cfe8940cbfa2a0dae4c7f8946799a693cdbb4e767"), looks := true }, kinds := [], alts := [], laidByText := true, laidKinds := [.data, .pinned], laidTests := true, laidLooks := .later }
def FoldSameUptoCardSaid : Prop := Claim7.holds Tryd.pinned (.plain (OpenSpec.upto foldSameSpec)) foldSameUptoCard

/-- THE SECOND FORM's CARD OF 'chirographkeep.KindSound'. -/
def kindSoundUptoCard : Claim7 := { stood := { row := kindSoundUptoRow, standIns := [], harness := (true, "e387d40ae2246d900923b14cfe8940cbfa2a0dae4c7f8946799a693cdbb4e767"), looks := true }, kinds := [], alts := [], laidByText := true, laidKinds := [.data, .pinned], laidTests := true, laidLooks := .later }
def KindSoundUptoCardSaid : Prop := Claim7.holds Tryd.pinned (.plain (OpenSpec.upto kindSoundSpec)) kindSoundUptoCard

/-- THE SECOND FORM's CARD OF 'chirographkeep.SpanSound'. -/
def spanSoundUptoCard : Claim7 := { stood := { row := spanSoundUptoRow, standIns := [], harness := (true, "e387d40ae2246d900923b14cfe8940cbfa2a0dae4c7f8946799a693cdbb4e767"), looks := true }, kinds := [], alts := [], laidByText := true, laidKinds := [.data, .pinned], laidTests := true, laidLooks := .later }
def SpanSoundUptoCardSaid : Prop := Claim7.holds Tryd.pinned (.plain (OpenSpec.upto spanSoundSpec)) spanSoundUptoCard

/-- THE SECOND FORM's CARD OF 'chirographkeep.SpanTight'. -/
def spanTightUptoCard : Claim7 := { stood := { row := spanTightUptoRow, standIns := [], harness := (true, "e387d40ae2246d900923b14cfe8940cbfa2a0dae4c7f8946799a693cdbb4e767"), looks := true }, kinds := [], alts := [], laidByText := true, laidKinds := [.data, .pinned], laidTests := true, laidLooks := .later }
def SpanTightUptoCardSaid : Prop := Claim7.holds Tryd.pinned (.plain (OpenSpec.upto spanTightSpec)) spanTightUptoCard
end Rows
end Go.Proofs.YtnkpnnphmimagaaDoor
