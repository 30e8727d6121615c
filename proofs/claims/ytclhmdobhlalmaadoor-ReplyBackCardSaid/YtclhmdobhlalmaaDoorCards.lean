/-
  DERIVED. GIVEN WITH THE SEED: THE CARDS: each row of YtclhmdobhlalmaaDoorRows.lean that lists a variable, with what it lists TIED to the program's text (the seventh form; the later family's looks); each row that meets fmt, with fmt's text TOLD by the authors' own Lean function (tested against real Go, not proved from fmt's source: count such statements apart). THE CARD IS WHAT COUNTS. Prove the row's statement (the work); the ties are given (YtclhmdobhlalmaaDoorTie.lean); close each card by the builder's one call (the guide's Derived/Test/ToyasCard.lean, 'card_holds'). Laid BY PROGRAM, IN A SANDBOX (cutbox-door.mjs). By AI agents, Wed Nov 11 2026. No macro, syntax, notation, axiom, sorry.
-/
import Derived.Test.YtclhmdobhlalmaaDoorRows
import GoSem.ClaimSeven
namespace Go.Proofs.YtclhmdobhlalmaaDoor
namespace Rows

/-- THE TIED CARD OF 'chirographkeep.OrderTurns'. -/
def orderTurnsCard : Claim7 := { stood := { row := orderTurnsRow, standIns := [], harness := (true, "9832d41ce8049a0c073725bff77f42490d7f916be102bbca75d04fd2a3aaed2b"), looks := false }, kinds := [], alts := [], laidByText := true, laidKinds := [.data, .pinned], laidTests := true, laidLooks := .later }
def OrderTurnsCardSaid : Prop := Claim7.holds Tryd.pinned (.plain (OpenSpec.ofChange orderTurnsSpec)) orderTurnsCard

/-- THE TIED CARD OF 'chirographkeep.OrderChain'. -/
def orderChainCard : Claim7 := { stood := { row := orderChainRow, standIns := [], harness := (true, "9832d41ce8049a0c073725bff77f42490d7f916be102bbca75d04fd2a3aaed2b"), looks := false }, kinds := [], alts := [], laidByText := true, laidKinds := [.data, .pinned], laidTests := true, laidLooks := .later }
def OrderChainCardSaid : Prop := Claim7.holds Tryd.pinned (.plain (OpenSpec.ofChange orderChainSpec)) orderChainCard

/-- THE TIED CARD OF 'chirographkeep.RealsRise'. -/
def realsRiseCard : Claim7 := { stood := { row := realsRiseRow, standIns := [], harness := (true, "9832d41ce8049a0c073725bff77f42490d7f916be102bbca75d04fd2a3aaed2b"), looks := false }, kinds := [], alts := [], laidByText := true, laidKinds := [.data, .pinned], laidTests := true, laidLooks := .later }
def RealsRiseCardSaid : Prop := Claim7.holds Tryd.pinned (.plain (OpenSpec.ofChange realsRiseSpec)) realsRiseCard

/-- THE TIED CARD OF 'chirographkeep.JustOne'. -/
def justOneCard : Claim7 := { stood := { row := justOneRow, standIns := [], harness := (true, "9832d41ce8049a0c073725bff77f42490d7f916be102bbca75d04fd2a3aaed2b"), looks := false }, kinds := [], alts := [], laidByText := true, laidKinds := [.data, .pinned], laidTests := true, laidLooks := .later }
def JustOneCardSaid : Prop := Claim7.holds Tryd.pinned (.plain (OpenSpec.ofChange justOneSpec)) justOneCard

/-- THE TIED CARD OF 'chirographkeep.CodeBack'. -/
def codeBackCard : Claim7 := { stood := { row := codeBackRow, standIns := [], harness := (true, "9832d41ce8049a0c073725bff77f42490d7f916be102bbca75d04fd2a3aaed2b"), looks := false }, kinds := [], alts := [], laidByText := true, laidKinds := [.data, .pinned], laidTests := true, laidLooks := .later }
def CodeBackCardSaid : Prop := Claim7.holds Tryd.pinned (.plain (OpenSpec.ofChange codeBackSpec)) codeBackCard

/-- THE TIED CARD OF 'chirographkeep.CodeFixed'. -/
def codeFixedCard : Claim7 := { stood := { row := codeFixedRow, standIns := [], harness := (true, "9832d41ce8049a0c073725bff77f42490d7f916be102bbca75d04fd2a3aaed2b"), looks := false }, kinds := [], alts := [], laidByText := true, laidKinds := [.data, .pinned], laidTests := true, laidLooks := .later }
def CodeFixedCardSaid : Prop := Claim7.holds Tryd.pinned (.plain (OpenSpec.ofChange codeFixedSpec)) codeFixedCard

/-- THE TIED CARD OF 'chirographkeep.CodeApart'. -/
def codeApartCard : Claim7 := { stood := { row := codeApartRow, standIns := [], harness := (true, "9832d41ce8049a0c073725bff77f42490d7f916be102bbca75d04fd2a3aaed2b"), looks := false }, kinds := [], alts := [], laidByText := true, laidKinds := [.data, .pinned], laidTests := true, laidLooks := .later }
def CodeApartCardSaid : Prop := Claim7.holds Tryd.pinned (.plain (OpenSpec.ofChange codeApartSpec)) codeApartCard

/-- THE TIED CARD OF 'chirographkeep.CodeJoins'. -/
def codeJoinsCard : Claim7 := { stood := { row := codeJoinsRow, standIns := [], harness := (true, "9832d41ce8049a0c073725bff77f42490d7f916be102bbca75d04fd2a3aaed2b"), looks := false }, kinds := [], alts := [], laidByText := true, laidKinds := [.data, .pinned], laidTests := true, laidLooks := .later }
def CodeJoinsCardSaid : Prop := Claim7.holds Tryd.pinned (.plain (OpenSpec.ofChange codeJoinsSpec)) codeJoinsCard

/-- THE TIED CARD OF 'chirographkeep.CodeOrder'. -/
def codeOrderCard : Claim7 := { stood := { row := codeOrderRow, standIns := [], harness := (true, "9832d41ce8049a0c073725bff77f42490d7f916be102bbca75d04fd2a3aaed2b"), looks := false }, kinds := [], alts := [], laidByText := true, laidKinds := [.data, .pinned], laidTests := true, laidLooks := .later }
def CodeOrderCardSaid : Prop := Claim7.holds Tryd.pinned (.plain (OpenSpec.ofChange codeOrderSpec)) codeOrderCard

/-- THE TIED CARD OF 'chirographkeep.ReplyBack'. -/
def replyBackCard : Claim7 := { stood := { row := replyBackRow, standIns := [], harness := (true, "9832d41ce8049a0c073725bff77f42490d7f916be102bbca75d04fd2a3aaed2b"), looks := false }, kinds := [], alts := [], laidByText := true, laidKinds := [.data, .pinned], laidTests := true, laidLooks := .later }
def ReplyBackCardSaid : Prop := Claim7.holds Tryd.pinned (.plain (OpenSpec.ofChange replyBackSpec)) replyBackCard

/-- THE TIED CARD OF 'chirographkeep.ReplyFixed'. -/
def replyFixedCard : Claim7 := { stood := { row := replyFixedRow, standIns := [], harness := (true, "9832d41ce8049a0c073725bff77f42490d7f916be102bbca75d04fd2a3aaed2b"), looks := false }, kinds := [], alts := [], laidByText := true, laidKinds := [.data, .pinned], laidTests := true, laidLooks := .later }
def ReplyFixedCardSaid : Prop := Claim7.holds Tryd.pinned (.plain (OpenSpec.ofChange replyFixedSpec)) replyFixedCard

/-- THE SECOND FORM's CARD OF 'chirographkeep.OrderTurns'. -/
def orderTurnsUptoCard : Claim7 := { stood := { row := orderTurnsUptoRow, standIns := [], harness := (true, "9832d41ce8049a0c073725bff77f42490d7f916be102bbca75d04fd2a3aaed2b"), looks := false }, kinds := [], alts := [], laidByText := true, laidKinds := [.data, .pinned], laidTests := true, laidLooks := .later }
def OrderTurnsUptoCardSaid : Prop := Claim7.holds Tryd.pinned (.plain (OpenSpec.upto orderTurnsSpec)) orderTurnsUptoCard

/-- THE SECOND FORM's CARD OF 'chirographkeep.OrderChain'. -/
def orderChainUptoCard : Claim7 := { stood := { row := orderChainUptoRow, standIns := [], harness := (true, "9832d41ce8049a0c073725bff77f42490d7f916be102bbca75d04fd2a3aaed2b"), looks := false }, kinds := [], alts := [], laidByText := true, laidKinds := [.data, .pinned], laidTests := true, laidLooks := .later }
def OrderChainUptoCardSaid : Prop := Claim7.holds Tryd.pinned (.plain (OpenSpec.upto orderChainSpec)) orderChainUptoCard

/-- THE SECOND FORM's CARD OF 'chirographkeep.RealsRise'. -/
def realsRiseUptoCard : Claim7 := { stood := { row := realsRiseUptoRow, standIns := [], harness := (true, "9832d41ce8049a0c073725bff77f42490d7f916be102bbca75d04fd2a3aaed2b"), looks := false }, kinds := [], alts := [], laidByText := true, laidKinds := [.data, .pinned], laidTests := true, laidLooks := .later }
def RealsRiseUptoCardSaid : Prop := Claim7.holds Tryd.pinned (.plain (OpenSpec.upto realsRiseSpec)) realsRiseUptoCard

/-- THE SECOND FORM's CARD OF 'chirographkeep.JustOne'. -/
def justOneUptoCard : Claim7 := { stood := { row := justOneUptoRow, standIns := [], harness := (true, "9832d41ce8049a0c073725bff77f42490d7f916be102bbca75d04fd2a3aaed2b"), looks := false }, kinds := [], alts := [], laidByText := true, laidKinds := [.data, .pinned], laidTests := true, laidLooks := .later }
def JustOneUptoCardSaid : Prop := Claim7.holds Tryd.pinned (.plain (OpenSpec.upto justOneSpec)) justOneUptoCard

/-- THE SECOND FORM's CARD OF 'chirographkeep.CodeBack'. -/
def codeBackUptoCard : Claim7 := { stood := { row := codeBackUptoRow, standIns := [], harness := (true, "9832d41ce8049a0c073725bff77f42490d7f916be102bbca75d04fd2a3aaed2b"), looks := false }, kinds := [], alts := [], laidByText := true, laidKinds := [.data, .pinned], laidTests := true, laidLooks := .later }
def CodeBackUptoCardSaid : Prop := Claim7.holds Tryd.pinned (.plain (OpenSpec.upto codeBackSpec)) codeBackUptoCard

/-- THE SECOND FORM's CARD OF 'chirographkeep.CodeFixed'. -/
def codeFixedUptoCard : Claim7 := { stood := { row := codeFixedUptoRow, standIns := [], harness := (true, "9832d41ce8049a0c073725bff77f42490d7f916be102bbca75d04fd2a3aaed2b"), looks := false }, kinds := [], alts := [], laidByText := true, laidKinds := [.data, .pinned], laidTests := true, laidLooks := .later }
def CodeFixedUptoCardSaid : Prop := Claim7.holds Tryd.pinned (.plain (OpenSpec.upto codeFixedSpec)) codeFixedUptoCard

/-- THE SECOND FORM's CARD OF 'chirographkeep.CodeApart'. -/
def codeApartUptoCard : Claim7 := { stood := { row := codeApartUptoRow, standIns := [], harness := (true, "9832d41ce8049a0c073725bff77f42490d7f916be102bbca75d04fd2a3aaed2b"), looks := false }, kinds := [], alts := [], laidByText := true, laidKinds := [.data, .pinned], laidTests := true, laidLooks := .later }
def CodeApartUptoCardSaid : Prop := Claim7.holds Tryd.pinned (.plain (OpenSpec.upto codeApartSpec)) codeApartUptoCard

/-- THE SECOND FORM's CARD OF 'chirographkeep.CodeJoins'. -/
def codeJoinsUptoCard : Claim7 := { stood := { row := codeJoinsUptoRow, standIns := [], harness := (true, "9832d41ce8049a0c073725bff77f42490d7f916be102bbca75d04fd2a3aaed2b"), looks := false }, kinds := [], alts := [], laidByText := true, laidKinds := [.data, .pinned], laidTests := true, laidLooks := .later }
def CodeJoinsUptoCardSaid : Prop := Claim7.holds Tryd.pinned (.plain (OpenSpec.upto codeJoinsSpec)) codeJoinsUptoCard

/-- THE SECOND FORM's CARD OF 'chirographkeep.CodeOrder'. -/
def codeOrderUptoCard : Claim7 := { stood := { row := codeOrderUptoRow, standIns := [], harness := (true, "9832d41ce8049a0c073725bff77f42490d7f916be102bbca75d04fd2a3aaed2b"), looks := false }, kinds := [], alts := [], laidByText := true, laidKinds := [.data, .pinned], laidTests := true, laidLooks := .later }
def CodeOrderUptoCardSaid : Prop := Claim7.holds Tryd.pinned (.plain (OpenSpec.upto codeOrderSpec)) codeOrderUptoCard

/-- THE SECOND FORM's CARD OF 'chirographkeep.ReplyBack'. -/
def replyBackUptoCard : Claim7 := { stood := { row := replyBackUptoRow, standIns := [], harness := (true, "9832d41ce8049a0c073725bff77f42490d7f916be102bbca75d04fd2a3aaed2b"), looks := false }, kinds := [], alts := [], laidByText := true, laidKinds := [.data, .pinned], laidTests := true, laidLooks := .later }
def ReplyBackUptoCardSaid : Prop := Claim7.holds Tryd.pinned (.plain (OpenSpec.upto replyBackSpec)) replyBackUptoCard

/-- THE SECOND FORM's CARD OF 'chirographkeep.ReplyFixed'. -/
def replyFixedUptoCard : Claim7 := { stood := { row := replyFixedUptoRow, standIns := [], harness := (true, "9832d41ce8049a0c073725bff77f42490d7f916be102bbca75d04fd2a3aaed2b"), looks := false }, kinds := [], alts := [], laidByText := true, laidKinds := [.data, .pinned], laidTests := true, laidLooks := .later }
def ReplyFixedUptoCardSaid : Prop := Claim7.holds Tryd.pinned (.plain (OpenSpec.upto replyFixedSpec)) replyFixedUptoCard
end Rows
end Go.Proofs.YtclhmdobhlalmaaDoor
