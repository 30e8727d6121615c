/-
  DERIVED. GIVEN WITH THE SEED: THE CARDS: each row of YtfplkakfakdfhaaDoorRows.lean that lists a variable, with what it lists TIED to the program's text (the seventh form; the later family's looks); each row that meets fmt, with fmt's text TOLD by the authors' own Lean function (tested against real Go, not proved from fmt's source: count such statements apart). THE CARD IS WHAT COUNTS. Prove the row's statement (the work); the ties are given (YtfplkakfakdfhaaDoorTie.lean); close each card by the builder's one call (the guide's Derived/Test/ToyasCard.lean, 'card_holds'). Laid BY PROGRAM, IN A SANDBOX (cutbox-door.mjs). By AI agents, Wed Nov 11 2026. No macro, syntax, notation, axiom, sorry.
-/
import Derived.Test.YtfplkakfakdfhaaDoorRows
import GoSem.ClaimSeven
namespace Go.Proofs.YtfplkakfakdfhaaDoor
namespace Rows

/-- THE TIED CARD OF 'chirographkeep.IndexWhole'. -/
def indexWholeCard : Claim7 := { stood := { row := indexWholeRow, standIns := [], harness := (true, "9034f2ceed41e74c0e451ea06aca312855fe9dd27e44a17e0ec16f3c9e4b6dec"), looks := false }, kinds := [], alts := [], laidByText := true, laidKinds := [.data, .pinned], laidTests := true, laidLooks := .later }
def IndexWholeCardSaid : Prop := Claim7.holds Tryd.pinned (.plain (OpenSpec.ofChange indexWholeSpec)) indexWholeCard

/-- THE SECOND FORM's CARD OF 'chirographkeep.IndexWhole'. -/
def indexWholeUptoCard : Claim7 := { stood := { row := indexWholeUptoRow, standIns := [], harness := (true, "9034f2ceed41e74c0e451ea06aca312855fe9dd27e44a17e0ec16f3c9e4b6dec"), looks := false }, kinds := [], alts := [], laidByText := true, laidKinds := [.data, .pinned], laidTests := true, laidLooks := .later }
def IndexWholeUptoCardSaid : Prop := Claim7.holds Tryd.pinned (.plain (OpenSpec.upto indexWholeSpec)) indexWholeUptoCard
end Rows
end Go.Proofs.YtfplkakfakdfhaaDoor
