/-
  DERIVED. GIVEN WITH THE SEED: THE CARDS: each row of YtaibgoobghmfjaaDoorRows.lean that lists a variable, with what it lists TIED to the program's text (the seventh form; the later family's looks); each row that meets fmt, with fmt's text TOLD by the authors' own Lean function (tested against real Go, not proved from fmt's source: count such statements apart). THE CARD IS WHAT COUNTS. Prove the row's statement (the work); the ties are given (YtaibgoobghmfjaaDoorTie.lean); close each card by the builder's one call (the guide's Derived/Test/ToyasCard.lean, 'card_holds'). Laid BY PROGRAM, IN A SANDBOX (cutbox-door.mjs). By AI agents, Wed Nov 11 2026. No macro, syntax, notation, axiom, sorry.
-/
import Derived.Test.YtaibgoobghmfjaaDoorRows
import GoSem.ClaimSeven
namespace Go.Proofs.YtaibgoobghmfjaaDoor
namespace Rows

/-- THE TIED CARD OF 'chirographkeep.SumKnown'. -/
def sumKnownCard : Claim7 := { stood := { row := sumKnownRow, standIns := [], harness := (true, "fee588892b300d19d1848ee2ed1146c89ccae18a786eb58d65fab91e930f344f"), looks := false }, kinds := [], alts := [], laidByText := true, laidKinds := [.data], laidTests := true, laidLooks := .later }
def SumKnownCardSaid : Prop := Claim7.holds Tryd.pinned (.plain (OpenSpec.ofChange sumKnownSpec)) sumKnownCard

/-- THE TIED CARD OF 'chirographkeep.SaltsApart'. -/
def saltsApartCard : Claim7 := { stood := { row := saltsApartRow, standIns := [], harness := (true, "fee588892b300d19d1848ee2ed1146c89ccae18a786eb58d65fab91e930f344f"), looks := false }, kinds := [], alts := [], laidByText := true, laidKinds := [.data], laidTests := true, laidLooks := .later }
def SaltsApartCardSaid : Prop := Claim7.holds Tryd.pinned (.plain (OpenSpec.ofChange saltsApartSpec)) saltsApartCard

/-- THE TIED CARD OF 'chirographkeep.SumParts'. -/
def sumPartsCard : Claim7 := { stood := { row := sumPartsRow, standIns := [], harness := (true, "fee588892b300d19d1848ee2ed1146c89ccae18a786eb58d65fab91e930f344f"), looks := false }, kinds := [], alts := [], laidByText := true, laidKinds := [.data], laidTests := true, laidLooks := .later }
def SumPartsCardSaid : Prop := Claim7.holds Tryd.pinned (.plain (OpenSpec.ofChange sumPartsSpec)) sumPartsCard

/-- THE TIED CARD OF 'chirographkeep.OrderTurns'. -/
def orderTurnsCard : Claim7 := { stood := { row := orderTurnsRow, standIns := [], harness := (true, "fee588892b300d19d1848ee2ed1146c89ccae18a786eb58d65fab91e930f344f"), looks := false }, kinds := [], alts := [], laidByText := true, laidKinds := [.data, .pinned], laidTests := true, laidLooks := .later }
def OrderTurnsCardSaid : Prop := Claim7.holds Tryd.pinned (.plain (OpenSpec.ofChange orderTurnsSpec)) orderTurnsCard

/-- THE TIED CARD OF 'chirographkeep.OrderChain'. -/
def orderChainCard : Claim7 := { stood := { row := orderChainRow, standIns := [], harness := (true, "fee588892b300d19d1848ee2ed1146c89ccae18a786eb58d65fab91e930f344f"), looks := false }, kinds := [], alts := [], laidByText := true, laidKinds := [.data, .pinned], laidTests := true, laidLooks := .later }
def OrderChainCardSaid : Prop := Claim7.holds Tryd.pinned (.plain (OpenSpec.ofChange orderChainSpec)) orderChainCard

/-- THE TIED CARD OF 'chirographkeep.RealsRise'. -/
def realsRiseCard : Claim7 := { stood := { row := realsRiseRow, standIns := [], harness := (true, "fee588892b300d19d1848ee2ed1146c89ccae18a786eb58d65fab91e930f344f"), looks := false }, kinds := [], alts := [], laidByText := true, laidKinds := [.data, .pinned], laidTests := true, laidLooks := .later }
def RealsRiseCardSaid : Prop := Claim7.holds Tryd.pinned (.plain (OpenSpec.ofChange realsRiseSpec)) realsRiseCard

/-- THE TIED CARD OF 'chirographkeep.JustOne'. -/
def justOneCard : Claim7 := { stood := { row := justOneRow, standIns := [], harness := (true, "fee588892b300d19d1848ee2ed1146c89ccae18a786eb58d65fab91e930f344f"), looks := false }, kinds := [], alts := [], laidByText := true, laidKinds := [.data, .pinned], laidTests := true, laidLooks := .later }
def JustOneCardSaid : Prop := Claim7.holds Tryd.pinned (.plain (OpenSpec.ofChange justOneSpec)) justOneCard

/-- THE TIED CARD OF 'chirographkeep.OpenTells'. -/
def openTellsCard : Claim7 := { stood := { row := openTellsRow, standIns := [], harness := (true, "fee588892b300d19d1848ee2ed1146c89ccae18a786eb58d65fab91e930f344f"), looks := false }, kinds := [], alts := [], laidByText := true, laidKinds := [.data], laidTests := true, laidLooks := .later }
def OpenTellsCardSaid : Prop := Claim7.holds Tryd.pinned (.plain (OpenSpec.ofChange openTellsSpec)) openTellsCard

/-- THE TIED CARD OF 'chirographkeep.RollApart'. -/
def rollApartCard : Claim7 := { stood := { row := rollApartRow, standIns := [], harness := (true, "fee588892b300d19d1848ee2ed1146c89ccae18a786eb58d65fab91e930f344f"), looks := false }, kinds := [], alts := [], laidByText := true, laidKinds := [.data], laidTests := true, laidLooks := .later }
def RollApartCardSaid : Prop := Claim7.holds Tryd.pinned (.plain (OpenSpec.ofChange rollApartSpec)) rollApartCard

/-- THE SECOND FORM's CARD OF 'chirographkeep.SumKnown'. -/
def sumKnownUptoCard : Claim7 := { stood := { row := sumKnownUptoRow, standIns := [], harness := (true, "fee588892b300d19d1848ee2ed1146c89ccae18a786eb58d65fab91e930f344f"), looks := false }, kinds := [], alts := [], laidByText := true, laidKinds := [.data], laidTests := true, laidLooks := .later }
def SumKnownUptoCardSaid : Prop := Claim7.holds Tryd.pinned (.plain (OpenSpec.upto sumKnownSpec)) sumKnownUptoCard

/-- THE SECOND FORM's CARD OF 'chirographkeep.SaltsApart'. -/
def saltsApartUptoCard : Claim7 := { stood := { row := saltsApartUptoRow, standIns := [], harness := (true, "fee588892b300d19d1848ee2ed1146c89ccae18a786eb58d65fab91e930f344f"), looks := false }, kinds := [], alts := [], laidByText := true, laidKinds := [.data], laidTests := true, laidLooks := .later }
def SaltsApartUptoCardSaid : Prop := Claim7.holds Tryd.pinned (.plain (OpenSpec.upto saltsApartSpec)) saltsApartUptoCard

/-- THE SECOND FORM's CARD OF 'chirographkeep.SumParts'. -/
def sumPartsUptoCard : Claim7 := { stood := { row := sumPartsUptoRow, standIns := [], harness := (true, "fee588892b300d19d1848ee2ed1146c89ccae18a786eb58d65fab91e930f344f"), looks := false }, kinds := [], alts := [], laidByText := true, laidKinds := [.data], laidTests := true, laidLooks := .later }
def SumPartsUptoCardSaid : Prop := Claim7.holds Tryd.pinned (.plain (OpenSpec.upto sumPartsSpec)) sumPartsUptoCard

/-- THE SECOND FORM's CARD OF 'chirographkeep.OrderTurns'. -/
def orderTurnsUptoCard : Claim7 := { stood := { row := orderTurnsUptoRow, standIns := [], harness := (true, "fee588892b300d19d1848ee2ed1146c89ccae18a786eb58d65fab91e930f344f"), looks := false }, kinds := [], alts := [], laidByText := true, laidKinds := [.data, .pinned], laidTests := true, laidLooks := .later }
def OrderTurnsUptoCardSaid : Prop := Claim7.holds Tryd.pinned (.plain (OpenSpec.upto orderTurnsSpec)) orderTurnsUptoCard

/-- THE SECOND FORM's CARD OF 'chirographkeep.OrderChain'. -/
def orderChainUptoCard : Claim7 := { stood := { row := orderChainUptoRow, standIns := [], harness := (true, "fee588892b300d19d1848ee2ed1146c89ccae18a786eb58d65fab91e930f344f"), looks := false }, kinds := [], alts := [], laidByText := true, laidKinds := [.data, .pinned], laidTests := true, laidLooks := .later }
def OrderChainUptoCardSaid : Prop := Claim7.holds Tryd.pinned (.plain (OpenSpec.upto orderChainSpec)) orderChainUptoCard

/-- THE SECOND FORM's CARD OF 'chirographkeep.RealsRise'. -/
def realsRiseUptoCard : Claim7 := { stood := { row := realsRiseUptoRow, standIns := [], harness := (true, "fee588892b300d19d1848ee2ed1146c89ccae18a786eb58d65fab91e930f344f"), looks := false }, kinds := [], alts := [], laidByText := true, laidKinds := [.data, .pinned], laidTests := true, laidLooks := .later }
def RealsRiseUptoCardSaid : Prop := Claim7.holds Tryd.pinned (.plain (OpenSpec.upto realsRiseSpec)) realsRiseUptoCard

/-- THE SECOND FORM's CARD OF 'chirographkeep.JustOne'. -/
def justOneUptoCard : Claim7 := { stood := { row := justOneUptoRow, standIns := [], harness := (true, "fee588892b300d19d1848ee2ed1146c89ccae18a786eb58d65fab91e930f344f"), looks := false }, kinds := [], alts := [], laidByText := true, laidKinds := [.data, .pinned], laidTests := true, laidLooks := .later }
def JustOneUptoCardSaid : Prop := Claim7.holds Tryd.pinned (.plain (OpenSpec.upto justOneSpec)) justOneUptoCard

/-- THE SECOND FORM's CARD OF 'chirographkeep.OpenTells'. -/
def openTellsUptoCard : Claim7 := { stood := { row := openTellsUptoRow, standIns := [], harness := (true, "fee588892b300d19d1848ee2ed1146c89ccae18a786eb58d65fab91e930f344f"), looks := false }, kinds := [], alts := [], laidByText := true, laidKinds := [.data], laidTests := true, laidLooks := .later }
def OpenTellsUptoCardSaid : Prop := Claim7.holds Tryd.pinned (.plain (OpenSpec.upto openTellsSpec)) openTellsUptoCard

/-- THE SECOND FORM's CARD OF 'chirographkeep.RollApart'. -/
def rollApartUptoCard : Claim7 := { stood := { row := rollApartUptoRow, standIns := [], harness := (true, "fee588892b300d19d1848ee2ed1146c89ccae18a786eb58d65fab91e930f344f"), looks := false }, kinds := [], alts := [], laidByText := true, laidKinds := [.data], laidTests := true, laidLooks := .later }
def RollApartUptoCardSaid : Prop := Claim7.holds Tryd.pinned (.plain (OpenSpec.upto rollApartSpec)) rollApartUptoCard
end Rows
end Go.Proofs.YtaibgoobghmfjaaDoor
