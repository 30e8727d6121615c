/-
  DERIVED. GIVEN WITH THE SEED: THE CARDS: each row of YtpaccaojgbfjdaaDoorRows.lean that lists a variable, with what it lists TIED to the program's text (the seventh form; the later family's looks); each row that meets fmt, with fmt's text TOLD by the authors' own Lean function (tested against real Go, not proved from fmt's source: count such statements apart). THE CARD IS WHAT COUNTS. Prove the row's statement (the work); the ties are given (YtpaccaojgbfjdaaDoorTie.lean); close each card by the builder's one call (the guide's Derived/Test/ToyasCard.lean, 'card_holds'). Laid BY PROGRAM, IN A SANDBOX (cutbox-door.mjs). By AI agents, Wed Nov 11 2026. No macro, syntax, notation, axiom, sorry.
-/
import Derived.Test.YtpaccaojgbfjdaaDoorRows
import GoSem.ClaimSeven
namespace Go.Proofs.YtpaccaojgbfjdaaDoor
namespace Rows

/-- THE TIED CARD OF 'chirographkeep.InsertThere'. -/
def insertThereCard : Claim7 := { stood := { row := insertThereRow, standIns := [], harness := (true, "4dbb4a3bc033fca1046022ce525056f6d4dfa9f6f8bf0b2d898a466985818a1e"), looks := false }, kinds := [], alts := [], laidByText := true, laidKinds := [.data, .pinned], laidTests := true, laidLooks := .later }
def InsertThereCardSaid : Prop := Claim7.holds Tryd.pinned (.plain (OpenSpec.ofChange insertThereSpec)) insertThereCard

/-- THE TIED CARD OF 'chirographkeep.SpanSound'. -/
def spanSoundCard : Claim7 := { stood := { row := spanSoundRow, standIns := [], harness := (true, "4dbb4a3bc033fca1046022ce525056f6d4dfa9f6f8bf0b2d898a466985818a1e"), looks := false }, kinds := [], alts := [], laidByText := true, laidKinds := [.data, .pinned], laidTests := true, laidLooks := .later }
def SpanSoundCardSaid : Prop := Claim7.holds Tryd.pinned (.plain (OpenSpec.ofChange spanSoundSpec)) spanSoundCard

/-- THE TIED CARD OF 'chirographkeep.DeleteParts'. -/
def deletePartsCard : Claim7 := { stood := { row := deletePartsRow, standIns := [], harness := (true, "4dbb4a3bc033fca1046022ce525056f6d4dfa9f6f8bf0b2d898a466985818a1e"), looks := false }, kinds := [], alts := [], laidByText := true, laidKinds := [.data, .pinned], laidTests := true, laidLooks := .later }
def DeletePartsCardSaid : Prop := Claim7.holds Tryd.pinned (.plain (OpenSpec.ofChange deletePartsSpec)) deletePartsCard

/-- THE TIED CARD OF 'chirographkeep.UpdateParts'. -/
def updatePartsCard : Claim7 := { stood := { row := updatePartsRow, standIns := [], harness := (true, "4dbb4a3bc033fca1046022ce525056f6d4dfa9f6f8bf0b2d898a466985818a1e"), looks := false }, kinds := [], alts := [], laidByText := true, laidKinds := [.data, .pinned], laidTests := true, laidLooks := .later }
def UpdatePartsCardSaid : Prop := Claim7.holds Tryd.pinned (.plain (OpenSpec.ofChange updatePartsSpec)) updatePartsCard

/-- THE TIED CARD OF 'chirographkeep.InsertDelete'. -/
def insertDeleteCard : Claim7 := { stood := { row := insertDeleteRow, standIns := [], harness := (true, "4dbb4a3bc033fca1046022ce525056f6d4dfa9f6f8bf0b2d898a466985818a1e"), looks := false }, kinds := [], alts := [], laidByText := true, laidKinds := [.data, .pinned], laidTests := true, laidLooks := .later }
def InsertDeleteCardSaid : Prop := Claim7.holds Tryd.pinned (.plain (OpenSpec.ofChange insertDeleteSpec)) insertDeleteCard

/-- THE TIED CARD OF 'chirographkeep.IndexWhole'. -/
def indexWholeCard : Claim7 := { stood := { row := indexWholeRow, standIns := [], harness := (true, "4dbb4a3bc033fca1046022ce525056f6d4dfa9f6f8bf0b2d898a466985818a1e"), looks := false }, kinds := [], alts := [], laidByText := true, laidKinds := [.data, .pinned], laidTests := true, laidLooks := .later }
def IndexWholeCardSaid : Prop := Claim7.holds Tryd.pinned (.plain (OpenSpec.ofChange indexWholeSpec)) indexWholeCard

/-- THE SECOND FORM's CARD OF 'chirographkeep.InsertThere'. -/
def insertThereUptoCard : Claim7 := { stood := { row := insertThereUptoRow, standIns := [], harness := (true, "4dbb4a3bc033fca1046022ce525056f6d4dfa9f6f8bf0b2d898a466985818a1e"), looks := false }, kinds := [], alts := [], laidByText := true, laidKinds := [.data, .pinned], laidTests := true, laidLooks := .later }
def InsertThereUptoCardSaid : Prop := Claim7.holds Tryd.pinned (.plain (OpenSpec.upto insertThereSpec)) insertThereUptoCard

/-- THE SECOND FORM's CARD OF 'chirographkeep.SpanSound'. -/
def spanSoundUptoCard : Claim7 := { stood := { row := spanSoundUptoRow, standIns := [], harness := (true, "4dbb4a3bc033fca1046022ce525056f6d4dfa9f6f8bf0b2d898a466985818a1e"), looks := false }, kinds := [], alts := [], laidByText := true, laidKinds := [.data, .pinned], laidTests := true, laidLooks := .later }
def SpanSoundUptoCardSaid : Prop := Claim7.holds Tryd.pinned (.plain (OpenSpec.upto spanSoundSpec)) spanSoundUptoCard

/-- THE SECOND FORM's CARD OF 'chirographkeep.DeleteParts'. -/
def deletePartsUptoCard : Claim7 := { stood := { row := deletePartsUptoRow, standIns := [], harness := (true, "4dbb4a3bc033fca1046022ce525056f6d4dfa9f6f8bf0b2d898a466985818a1e"), looks := false }, kinds := [], alts := [], laidByText := true, laidKinds := [.data, .pinned], laidTests := true, laidLooks := .later }
def DeletePartsUptoCardSaid : Prop := Claim7.holds Tryd.pinned (.plain (OpenSpec.upto deletePartsSpec)) deletePartsUptoCard

/-- THE SECOND FORM's CARD OF 'chirographkeep.UpdateParts'. -/
def updatePartsUptoCard : Claim7 := { stood := { row := updatePartsUptoRow, standIns := [], harness := (true, "4dbb4a3bc033fca1046022ce525056f6d4dfa9f6f8bf0b2d898a466985818a1e"), looks := false }, kinds := [], alts := [], laidByText := true, laidKinds := [.data, .pinned], laidTests := true, laidLooks := .later }
def UpdatePartsUptoCardSaid : Prop := Claim7.holds Tryd.pinned (.plain (OpenSpec.upto updatePartsSpec)) updatePartsUptoCard

/-- THE SECOND FORM's CARD OF 'chirographkeep.InsertDelete'. -/
def insertDeleteUptoCard : Claim7 := { stood := { row := insertDeleteUptoRow, standIns := [], harness := (true, "4dbb4a3bc033fca1046022ce525056f6d4dfa9f6f8bf0b2d898a466985818a1e"), looks := false }, kinds := [], alts := [], laidByText := true, laidKinds := [.data, .pinned], laidTests := true, laidLooks := .later }
def InsertDeleteUptoCardSaid : Prop := Claim7.holds Tryd.pinned (.plain (OpenSpec.upto insertDeleteSpec)) insertDeleteUptoCard

/-- THE SECOND FORM's CARD OF 'chirographkeep.IndexWhole'. -/
def indexWholeUptoCard : Claim7 := { stood := { row := indexWholeUptoRow, standIns := [], harness := (true, "4dbb4a3bc033fca1046022ce525056f6d4dfa9f6f8bf0b2d898a466985818a1e"), looks := false }, kinds := [], alts := [], laidByText := true, laidKinds := [.data, .pinned], laidTests := true, laidLooks := .later }
def IndexWholeUptoCardSaid : Prop := Claim7.holds Tryd.pinned (.plain (OpenSpec.upto indexWholeSpec)) indexWholeUptoCard
end Rows
end Go.Proofs.YtpaccaojgbfjdaaDoor
