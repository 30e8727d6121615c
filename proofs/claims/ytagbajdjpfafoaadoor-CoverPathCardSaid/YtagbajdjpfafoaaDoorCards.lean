/-
  DERIVED. GIVEN WITH THE SEED: THE CARDS: each row of YtagbajdjpfafoaaDoorRows.lean that lists a variable, with what it lists TIED to the program's text (the seventh form; the later family's looks); each row that meets fmt, with fmt's text TOLD by the authors' own Lean function (tested against real Go, not proved from fmt's source: count such statements apart). THE CARD IS WHAT COUNTS. Prove the row's statement (the work); the ties are given (YtagbajdjpfafoaaDoorTie.lean); close each card by the builder's one call (the guide's Derived/Test/ToyasCard.lean, 'card_holds'). Laid BY PROGRAM, IN A SANDBOX (cutbox-door.mjs). By AI agents, Wed Nov 11 2026. No macro, syntax, notation, axiom, sorry.
-/
import Derived.Test.YtagbajdjpfafoaaDoorRows
import GoSem.ClaimSeven
namespace Go.Proofs.YtagbajdjpfafoaaDoor
namespace Rows

/-- THE TIED CARD OF 'chirographkeep.ReceiptRight'. -/
def receiptRightCard : Claim7 := { stood := { row := receiptRightRow, standIns := [], harness := (true, "32367c4d1676ff311777c4d85a24fcb38d47860becc579e5ad6d3b6478416e4e"), looks := false }, kinds := [], alts := [], laidByText := true, laidKinds := [.data], laidTests := true, laidLooks := .later }
def ReceiptRightCardSaid : Prop := Claim7.holds Tryd.pinned (.plain (OpenSpec.ofChange receiptRightSpec)) receiptRightCard

/-- THE TIED CARD OF 'chirographkeep.ReceiptSound'. -/
def receiptSoundCard : Claim7 := { stood := { row := receiptSoundRow, standIns := [], harness := (true, "32367c4d1676ff311777c4d85a24fcb38d47860becc579e5ad6d3b6478416e4e"), looks := false }, kinds := [], alts := [], laidByText := true, laidKinds := [.data], laidTests := true, laidLooks := .later }
def ReceiptSoundCardSaid : Prop := Claim7.holds Tryd.pinned (.plain (OpenSpec.ofChange receiptSoundSpec)) receiptSoundCard

/-- THE TIED CARD OF 'chirographkeep.CoverShape'. -/
def coverShapeCard : Claim7 := { stood := { row := coverShapeRow, standIns := [], harness := (true, "32367c4d1676ff311777c4d85a24fcb38d47860becc579e5ad6d3b6478416e4e"), looks := false }, kinds := [], alts := [], laidByText := true, laidKinds := [.data], laidTests := true, laidLooks := .later }
def CoverShapeCardSaid : Prop := Claim7.holds Tryd.pinned (.plain (OpenSpec.ofChange coverShapeSpec)) coverShapeCard

/-- THE TIED CARD OF 'chirographkeep.CoverPath'. -/
def coverPathCard : Claim7 := { stood := { row := coverPathRow, standIns := [], harness := (true, "32367c4d1676ff311777c4d85a24fcb38d47860becc579e5ad6d3b6478416e4e"), looks := false }, kinds := [], alts := [], laidByText := true, laidKinds := [.data], laidTests := true, laidLooks := .later }
def CoverPathCardSaid : Prop := Claim7.holds Tryd.pinned (.plain (OpenSpec.ofChange coverPathSpec)) coverPathCard

/-- THE TIED CARD OF 'chirographkeep.CoverRight'. -/
def coverRightCard : Claim7 := { stood := { row := coverRightRow, standIns := [], harness := (true, "32367c4d1676ff311777c4d85a24fcb38d47860becc579e5ad6d3b6478416e4e"), looks := false }, kinds := [], alts := [], laidByText := true, laidKinds := [.data], laidTests := true, laidLooks := .later }
def CoverRightCardSaid : Prop := Claim7.holds Tryd.pinned (.plain (OpenSpec.ofChange coverRightSpec)) coverRightCard

/-- THE TIED CARD OF 'chirographkeep.CoverSound'. -/
def coverSoundCard : Claim7 := { stood := { row := coverSoundRow, standIns := [], harness := (true, "32367c4d1676ff311777c4d85a24fcb38d47860becc579e5ad6d3b6478416e4e"), looks := false }, kinds := [], alts := [], laidByText := true, laidKinds := [.data], laidTests := true, laidLooks := .later }
def CoverSoundCardSaid : Prop := Claim7.holds Tryd.pinned (.plain (OpenSpec.ofChange coverSoundSpec)) coverSoundCard

/-- THE SECOND FORM's CARD OF 'chirographkeep.ReceiptRight'. -/
def receiptRightUptoCard : Claim7 := { stood := { row := receiptRightUptoRow, standIns := [], harness := (true, "32367c4d1676ff311777c4d85a24fcb38d47860becc579e5ad6d3b6478416e4e"), looks := false }, kinds := [], alts := [], laidByText := true, laidKinds := [.data], laidTests := true, laidLooks := .later }
def ReceiptRightUptoCardSaid : Prop := Claim7.holds Tryd.pinned (.plain (OpenSpec.upto receiptRightSpec)) receiptRightUptoCard

/-- THE SECOND FORM's CARD OF 'chirographkeep.ReceiptSound'. -/
def receiptSoundUptoCard : Claim7 := { stood := { row := receiptSoundUptoRow, standIns := [], harness := (true, "32367c4d1676ff311777c4d85a24fcb38d47860becc579e5ad6d3b6478416e4e"), looks := false }, kinds := [], alts := [], laidByText := true, laidKinds := [.data], laidTests := true, laidLooks := .later }
def ReceiptSoundUptoCardSaid : Prop := Claim7.holds Tryd.pinned (.plain (OpenSpec.upto receiptSoundSpec)) receiptSoundUptoCard

/-- THE SECOND FORM's CARD OF 'chirographkeep.CoverShape'. -/
def coverShapeUptoCard : Claim7 := { stood := { row := coverShapeUptoRow, standIns := [], harness := (true, "32367c4d1676ff311777c4d85a24fcb38d47860becc579e5ad6d3b6478416e4e"), looks := false }, kinds := [], alts := [], laidByText := true, laidKinds := [.data], laidTests := true, laidLooks := .later }
def CoverShapeUptoCardSaid : Prop := Claim7.holds Tryd.pinned (.plain (OpenSpec.upto coverShapeSpec)) coverShapeUptoCard

/-- THE SECOND FORM's CARD OF 'chirographkeep.CoverPath'. -/
def coverPathUptoCard : Claim7 := { stood := { row := coverPathUptoRow, standIns := [], harness := (true, "32367c4d1676ff311777c4d85a24fcb38d47860becc579e5ad6d3b6478416e4e"), looks := false }, kinds := [], alts := [], laidByText := true, laidKinds := [.data], laidTests := true, laidLooks := .later }
def CoverPathUptoCardSaid : Prop := Claim7.holds Tryd.pinned (.plain (OpenSpec.upto coverPathSpec)) coverPathUptoCard

/-- THE SECOND FORM's CARD OF 'chirographkeep.CoverRight'. -/
def coverRightUptoCard : Claim7 := { stood := { row := coverRightUptoRow, standIns := [], harness := (true, "32367c4d1676ff311777c4d85a24fcb38d47860becc579e5ad6d3b6478416e4e"), looks := false }, kinds := [], alts := [], laidByText := true, laidKinds := [.data], laidTests := true, laidLooks := .later }
def CoverRightUptoCardSaid : Prop := Claim7.holds Tryd.pinned (.plain (OpenSpec.upto coverRightSpec)) coverRightUptoCard

/-- THE SECOND FORM's CARD OF 'chirographkeep.CoverSound'. -/
def coverSoundUptoCard : Claim7 := { stood := { row := coverSoundUptoRow, standIns := [], harness := (true, "32367c4d1676ff311777c4d85a24fcb38d47860becc579e5ad6d3b6478416e4e"), looks := false }, kinds := [], alts := [], laidByText := true, laidKinds := [.data], laidTests := true, laidLooks := .later }
def CoverSoundUptoCardSaid : Prop := Claim7.holds Tryd.pinned (.plain (OpenSpec.upto coverSoundSpec)) coverSoundUptoCard
end Rows
end Go.Proofs.YtagbajdjpfafoaaDoor
