/-
  DERIVED. GIVEN WITH THE SEED: THE CARDS: each row of YtlpnnnmdkglkcaaDoorRows.lean that lists a variable, with what it lists TIED to the program's text (the seventh form; the later family's looks); each row that meets fmt, with fmt's text TOLD by the authors' own Lean function (tested against real Go, not proved from fmt's source: count such statements apart). THE CARD IS WHAT COUNTS. Prove the row's statement (the work); the ties are given (YtlpnnnmdkglkcaaDoorTie.lean); close each card by the builder's one call (the guide's Derived/Test/ToyasCard.lean, 'card_holds'). Laid BY PROGRAM, IN A SANDBOX (cutbox-door.mjs). By AI agents, Wed Nov 11 2026. No macro, syntax, notation, axiom, sorry.
-/
import Derived.Test.YtlpnnnmdkglkcaaDoorRows
import GoSem.ClaimSeven
namespace Go.Proofs.YtlpnnnmdkglkcaaDoor
namespace Rows

/-- THE TIED CARD OF 'chirographkeep.LexBack'. -/
def lexBackCard : Claim7 := { stood := { row := lexBackRow, standIns := [], harness := (true, "e22354593f451a6c0a39e22ad063e33f5479c22b40972c906fca4d8399bd390d"), looks := true }, kinds := [], alts := [], laidByText := true, laidKinds := [.data, .data, .data, .data, .pinned], laidTests := true, laidLooks := .later }
def LexBackCardSaid : Prop := Claim7.holds Tryd.pinned (.plain (OpenSpec.ofChange lexBackSpec)) lexBackCard

/-- THE TIED CARD OF 'chirographkeep.LexFixed'. -/
def lexFixedCard : Claim7 := { stood := { row := lexFixedRow, standIns := [], harness := (true, "e22354593f451a6c0a39e22ad063e33f5479c22b40972c906fca4d8399bd390d"), looks := true }, kinds := [], alts := [], laidByText := true, laidKinds := [.data, .data, .data, .data, .pinned], laidTests := true, laidLooks := .later }
def LexFixedCardSaid : Prop := Claim7.holds Tryd.pinned (.plain (OpenSpec.ofChange lexFixedSpec)) lexFixedCard

/-- THE TIED CARD OF 'chirographkeep.LexBlanks'. -/
def lexBlanksCard : Claim7 := { stood := { row := lexBlanksRow, standIns := [], harness := (true, "e22354593f451a6c0a39e22ad063e33f5479c22b40972c906fca4d8399bd390d"), looks := true }, kinds := [], alts := [], laidByText := true, laidKinds := [.data, .data, .data, .data, .pinned], laidTests := true, laidLooks := .later }
def LexBlanksCardSaid : Prop := Claim7.holds Tryd.pinned (.plain (OpenSpec.ofChange lexBlanksSpec)) lexBlanksCard

/-- THE TIED CARD OF 'chirographkeep.LexPlace'. -/
def lexPlaceCard : Claim7 := { stood := { row := lexPlaceRow, standIns := [], harness := (true, "e22354593f451a6c0a39e22ad063e33f5479c22b40972c906fca4d8399bd390d"), looks := true }, kinds := [], alts := [], laidByText := true, laidKinds := [.data, .data, .data, .data, .pinned], laidTests := true, laidLooks := .later }
def LexPlaceCardSaid : Prop := Claim7.holds Tryd.pinned (.plain (OpenSpec.ofChange lexPlaceSpec)) lexPlaceCard

/-- THE TIED CARD OF 'chirographkeep.LexQuotes'. -/
def lexQuotesCard : Claim7 := { stood := { row := lexQuotesRow, standIns := [], harness := (true, "e22354593f451a6c0a39e22ad063e33f5479c22b40972c906fca4d8399bd390d"), looks := true }, kinds := [], alts := [], laidByText := true, laidKinds := [.data, .data, .data, .data, .pinned], laidTests := true, laidLooks := .later }
def LexQuotesCardSaid : Prop := Claim7.holds Tryd.pinned (.plain (OpenSpec.ofChange lexQuotesSpec)) lexQuotesCard

/-- THE TIED CARD OF 'chirographkeep.ExprAhead'. -/
def exprAheadCard : Claim7 := { stood := { row := exprAheadRow, standIns := [], harness := (true, "e22354593f451a6c0a39e22ad063e33f5479c22b40972c906fca4d8399bd390d"), looks := true }, kinds := [], alts := [], laidByText := true, laidKinds := [.data, .pinned], laidTests := true, laidLooks := .later }
def ExprAheadCardSaid : Prop := Claim7.holds Tryd.pinned (.plain (OpenSpec.ofChange exprAheadSpec)) exprAheadCard

/-- THE TIED CARD OF 'chirographkeep.ExprBack'. -/
def exprBackCard : Claim7 := { stood := { row := exprBackRow, standIns := [], harness := (true, "e22354593f451a6c0a39e22ad063e33f5479c22b40972c906fca4d8399bd390d"), looks := true }, kinds := [], alts := [], laidByText := true, laidKinds := [.data, .pinned], laidTests := true, laidLooks := .later }
def ExprBackCardSaid : Prop := Claim7.holds Tryd.pinned (.plain (OpenSpec.ofChange exprBackSpec)) exprBackCard

/-- THE TIED CARD OF 'chirographkeep.ExprFixed'. -/
def exprFixedCard : Claim7 := { stood := { row := exprFixedRow, standIns := [], harness := (true, "e22354593f451a6c0a39e22ad063e33f5479c22b40972c906fca4d8399bd390d"), looks := true }, kinds := [], alts := [], laidByText := true, laidKinds := [.data, .pinned], laidTests := true, laidLooks := .later }
def ExprFixedCardSaid : Prop := Claim7.holds Tryd.pinned (.plain (OpenSpec.ofChange exprFixedSpec)) exprFixedCard

/-- THE TIED CARD OF 'chirographkeep.ExprFewest'. -/
def exprFewestCard : Claim7 := { stood := { row := exprFewestRow, standIns := [], harness := (true, "e22354593f451a6c0a39e22ad063e33f5479c22b40972c906fca4d8399bd390d"), looks := true }, kinds := [], alts := [], laidByText := true, laidKinds := [.data, .pinned], laidTests := true, laidLooks := .later }
def ExprFewestCardSaid : Prop := Claim7.holds Tryd.pinned (.plain (OpenSpec.ofChange exprFewestSpec)) exprFewestCard

/-- THE TIED CARD OF 'chirographkeep.ExprMore'. -/
def exprMoreCard : Claim7 := { stood := { row := exprMoreRow, standIns := [], harness := (true, "e22354593f451a6c0a39e22ad063e33f5479c22b40972c906fca4d8399bd390d"), looks := true }, kinds := [], alts := [], laidByText := true, laidKinds := [.data, .pinned], laidTests := true, laidLooks := .later }
def ExprMoreCardSaid : Prop := Claim7.holds Tryd.pinned (.plain (OpenSpec.ofChange exprMoreSpec)) exprMoreCard

/-- THE SECOND FORM's CARD OF 'chirographkeep.LexBack'. -/
def lexBackUptoCard : Claim7 := { stood := { row := lexBackUptoRow, standIns := [], harness := (true, "e22354593f451a6c0a39e22ad063e33f5479c22b40972c906fca4d8399bd390d"), looks := true }, kinds := [], alts := [], laidByText := true, laidKinds := [.data, .data, .data, .data, .pinned], laidTests := true, laidLooks := .later }
def LexBackUptoCardSaid : Prop := Claim7.holds Tryd.pinned (.plain (OpenSpec.upto lexBackSpec)) lexBackUptoCard

/-- THE SECOND FORM's CARD OF 'chirographkeep.LexFixed'. -/
def lexFixedUptoCard : Claim7 := { stood := { row := lexFixedUptoRow, standIns := [], harness := (true, "e22354593f451a6c0a39e22ad063e33f5479c22b40972c906fca4d8399bd390d"), looks := true }, kinds := [], alts := [], laidByText := true, laidKinds := [.data, .data, .data, .data, .pinned], laidTests := true, laidLooks := .later }
def LexFixedUptoCardSaid : Prop := Claim7.holds Tryd.pinned (.plain (OpenSpec.upto lexFixedSpec)) lexFixedUptoCard

/-- THE SECOND FORM's CARD OF 'chirographkeep.LexBlanks'. -/
def lexBlanksUptoCard : Claim7 := { stood := { row := lexBlanksUptoRow, standIns := [], harness := (true, "e22354593f451a6c0a39e22ad063e33f5479c22b40972c906fca4d8399bd390d"), looks := true }, kinds := [], alts := [], laidByText := true, laidKinds := [.data, .data, .data, .data, .pinned], laidTests := true, laidLooks := .later }
def LexBlanksUptoCardSaid : Prop := Claim7.holds Tryd.pinned (.plain (OpenSpec.upto lexBlanksSpec)) lexBlanksUptoCard

/-- THE SECOND FORM's CARD OF 'chirographkeep.LexPlace'. -/
def lexPlaceUptoCard : Claim7 := { stood := { row := lexPlaceUptoRow, standIns := [], harness := (true, "e22354593f451a6c0a39e22ad063e33f5479c22b40972c906fca4d8399bd390d"), looks := true }, kinds := [], alts := [], laidByText := true, laidKinds := [.data, .data, .data, .data, .pinned], laidTests := true, laidLooks := .later }
def LexPlaceUptoCardSaid : Prop := Claim7.holds Tryd.pinned (.plain (OpenSpec.upto lexPlaceSpec)) lexPlaceUptoCard

/-- THE SECOND FORM's CARD OF 'chirographkeep.LexQuotes'. -/
def lexQuotesUptoCard : Claim7 := { stood := { row := lexQuotesUptoRow, standIns := [], harness := (true, "e22354593f451a6c0a39e22ad063e33f5479c22b40972c906fca4d8399bd390d"), looks := true }, kinds := [], alts := [], laidByText := true, laidKinds := [.data, .data, .data, .data, .pinned], laidTests := true, laidLooks := .later }
def LexQuotesUptoCardSaid : Prop := Claim7.holds Tryd.pinned (.plain (OpenSpec.upto lexQuotesSpec)) lexQuotesUptoCard

/-- THE SECOND FORM's CARD OF 'chirographkeep.ExprAhead'. -/
def exprAheadUptoCard : Claim7 := { stood := { row := exprAheadUptoRow, standIns := [], harness := (true, "e22354593f451a6c0a39e22ad063e33f5479c22b40972c906fca4d8399bd390d"), looks := true }, kinds := [], alts := [], laidByText := true, laidKinds := [.data, .pinned], laidTests := true, laidLooks := .later }
def ExprAheadUptoCardSaid : Prop := Claim7.holds Tryd.pinned (.plain (OpenSpec.upto exprAheadSpec)) exprAheadUptoCard

/-- THE SECOND FORM's CARD OF 'chirographkeep.ExprBack'. -/
def exprBackUptoCard : Claim7 := { stood := { row := exprBackUptoRow, standIns := [], harness := (true, "e22354593f451a6c0a39e22ad063e33f5479c22b40972c906fca4d8399bd390d"), looks := true }, kinds := [], alts := [], laidByText := true, laidKinds := [.data, .pinned], laidTests := true, laidLooks := .later }
def ExprBackUptoCardSaid : Prop := Claim7.holds Tryd.pinned (.plain (OpenSpec.upto exprBackSpec)) exprBackUptoCard

/-- THE SECOND FORM's CARD OF 'chirographkeep.ExprFixed'. -/
def exprFixedUptoCard : Claim7 := { stood := { row := exprFixedUptoRow, standIns := [], harness := (true, "e22354593f451a6c0a39e22ad063e33f5479c22b40972c906fca4d8399bd390d"), looks := true }, kinds := [], alts := [], laidByText := true, laidKinds := [.data, .pinned], laidTests := true, laidLooks := .later }
def ExprFixedUptoCardSaid : Prop := Claim7.holds Tryd.pinned (.plain (OpenSpec.upto exprFixedSpec)) exprFixedUptoCard

/-- THE SECOND FORM's CARD OF 'chirographkeep.ExprFewest'. -/
def exprFewestUptoCard : Claim7 := { stood := { row := exprFewestUptoRow, standIns := [], harness := (true, "e22354593f451a6c0a39e22ad063e33f5479c22b40972c906fca4d8399bd390d"), looks := true }, kinds := [], alts := [], laidByText := true, laidKinds := [.data, .pinned], laidTests := true, laidLooks := .later }
def ExprFewestUptoCardSaid : Prop := Claim7.holds Tryd.pinned (.plain (OpenSpec.upto exprFewestSpec)) exprFewestUptoCard

/-- THE SECOND FORM's CARD OF 'chirographkeep.ExprMore'. -/
def exprMoreUptoCard : Claim7 := { stood := { row := exprMoreUptoRow, standIns := [], harness := (true, "e22354593f451a6c0a39e22ad063e33f5479c22b40972c906fca4d8399bd390d"), looks := true }, kinds := [], alts := [], laidByText := true, laidKinds := [.data, .pinned], laidTests := true, laidLooks := .later }
def ExprMoreUptoCardSaid : Prop := Claim7.holds Tryd.pinned (.plain (OpenSpec.upto exprMoreSpec)) exprMoreUptoCard
end Rows
end Go.Proofs.YtlpnnnmdkglkcaaDoor
