/-
  DERIVED. GIVEN WITH THE SEED: THE CARDS: each row of YtfkkamkhjbfjmaaDoorRows.lean that lists a variable, with what it lists TIED to the program's text (the seventh form; the later family's looks); each row that meets fmt, with fmt's text TOLD by the authors' own Lean function (tested against real Go, not proved from fmt's source: count such statements apart). THE CARD IS WHAT COUNTS. Prove the row's statement (the work); the ties are given (YtfkkamkhjbfjmaaDoorTie.lean); close each card by the builder's one call (the guide's Derived/Test/ToyasCard.lean, 'card_holds'). Laid BY PROGRAM, IN A SANDBOX (cutbox-door.mjs). By AI agents, Wed Nov 11 2026. No macro, syntax, notation, axiom, sorry.
-/
import Derived.Test.YtfkkamkhjbfjmaaDoorRows
import GoSem.ClaimSeven
namespace Go.Proofs.YtfkkamkhjbfjmaaDoor
namespace Rows

/-- THE TIED CARD OF 'chirographkeep.SlotsApart'. -/
def slotsApartCard : Claim7 := { stood := { row := slotsApartRow, standIns := [], harness := (true, "4a9e1016f83abb37d6675793feb2a193ebf2c69f2b4e031b04a5ce0b00b18eb1"), looks := false }, kinds := [], alts := [], laidByText := true, laidKinds := [.data], laidTests := true, laidLooks := .later }
def SlotsApartCardSaid : Prop := Claim7.holds Tryd.pinned (.plain (OpenSpec.ofChange slotsApartSpec)) slotsApartCard

/-- THE TIED CARD OF 'chirographkeep.PathRight'. -/
def pathRightCard : Claim7 := { stood := { row := pathRightRow, standIns := [], harness := (true, "4a9e1016f83abb37d6675793feb2a193ebf2c69f2b4e031b04a5ce0b00b18eb1"), looks := false }, kinds := [], alts := [], laidByText := true, laidKinds := [.data], laidTests := true, laidLooks := .later }
def PathRightCardSaid : Prop := Claim7.holds Tryd.pinned (.plain (OpenSpec.ofChange pathRightSpec)) pathRightCard

/-- THE TIED CARD OF 'chirographkeep.PathSound'. -/
def pathSoundCard : Claim7 := { stood := { row := pathSoundRow, standIns := [], harness := (true, "4a9e1016f83abb37d6675793feb2a193ebf2c69f2b4e031b04a5ce0b00b18eb1"), looks := false }, kinds := [], alts := [], laidByText := true, laidKinds := [.data], laidTests := true, laidLooks := .later }
def PathSoundCardSaid : Prop := Claim7.holds Tryd.pinned (.plain (OpenSpec.ofChange pathSoundSpec)) pathSoundCard

/-- THE TIED CARD OF 'chirographkeep.IncludeRight'. -/
def includeRightCard : Claim7 := { stood := { row := includeRightRow, standIns := [], harness := (true, "4a9e1016f83abb37d6675793feb2a193ebf2c69f2b4e031b04a5ce0b00b18eb1"), looks := false }, kinds := [], alts := [], laidByText := true, laidKinds := [.data], laidTests := true, laidLooks := .later }
def IncludeRightCardSaid : Prop := Claim7.holds Tryd.pinned (.plain (OpenSpec.ofChange includeRightSpec)) includeRightCard

/-- THE TIED CARD OF 'chirographkeep.IncludeSound'. -/
def includeSoundCard : Claim7 := { stood := { row := includeSoundRow, standIns := [], harness := (true, "4a9e1016f83abb37d6675793feb2a193ebf2c69f2b4e031b04a5ce0b00b18eb1"), looks := false }, kinds := [], alts := [], laidByText := true, laidKinds := [.data], laidTests := true, laidLooks := .later }
def IncludeSoundCardSaid : Prop := Claim7.holds Tryd.pinned (.plain (OpenSpec.ofChange includeSoundSpec)) includeSoundCard

/-- THE TIED CARD OF 'chirographkeep.ExtendRight'. -/
def extendRightCard : Claim7 := { stood := { row := extendRightRow, standIns := [], harness := (true, "4a9e1016f83abb37d6675793feb2a193ebf2c69f2b4e031b04a5ce0b00b18eb1"), looks := false }, kinds := [], alts := [], laidByText := true, laidKinds := [.data], laidTests := true, laidLooks := .later }
def ExtendRightCardSaid : Prop := Claim7.holds Tryd.pinned (.plain (OpenSpec.ofChange extendRightSpec)) extendRightCard

/-- THE TIED CARD OF 'chirographkeep.ExtendSound'. -/
def extendSoundCard : Claim7 := { stood := { row := extendSoundRow, standIns := [], harness := (true, "4a9e1016f83abb37d6675793feb2a193ebf2c69f2b4e031b04a5ce0b00b18eb1"), looks := false }, kinds := [], alts := [], laidByText := true, laidKinds := [.data], laidTests := true, laidLooks := .later }
def ExtendSoundCardSaid : Prop := Claim7.holds Tryd.pinned (.plain (OpenSpec.ofChange extendSoundSpec)) extendSoundCard

/-- THE TIED CARD OF 'chirographkeep.CoverShape'. -/
def coverShapeCard : Claim7 := { stood := { row := coverShapeRow, standIns := [], harness := (true, "4a9e1016f83abb37d6675793feb2a193ebf2c69f2b4e031b04a5ce0b00b18eb1"), looks := false }, kinds := [], alts := [], laidByText := true, laidKinds := [.data], laidTests := true, laidLooks := .later }
def CoverShapeCardSaid : Prop := Claim7.holds Tryd.pinned (.plain (OpenSpec.ofChange coverShapeSpec)) coverShapeCard

/-- THE TIED CARD OF 'chirographkeep.CoverPath'. -/
def coverPathCard : Claim7 := { stood := { row := coverPathRow, standIns := [], harness := (true, "4a9e1016f83abb37d6675793feb2a193ebf2c69f2b4e031b04a5ce0b00b18eb1"), looks := false }, kinds := [], alts := [], laidByText := true, laidKinds := [.data], laidTests := true, laidLooks := .later }
def CoverPathCardSaid : Prop := Claim7.holds Tryd.pinned (.plain (OpenSpec.ofChange coverPathSpec)) coverPathCard

/-- THE TIED CARD OF 'chirographkeep.CoverRight'. -/
def coverRightCard : Claim7 := { stood := { row := coverRightRow, standIns := [], harness := (true, "4a9e1016f83abb37d6675793feb2a193ebf2c69f2b4e031b04a5ce0b00b18eb1"), looks := false }, kinds := [], alts := [], laidByText := true, laidKinds := [.data], laidTests := true, laidLooks := .later }
def CoverRightCardSaid : Prop := Claim7.holds Tryd.pinned (.plain (OpenSpec.ofChange coverRightSpec)) coverRightCard

/-- THE TIED CARD OF 'chirographkeep.CoverSound'. -/
def coverSoundCard : Claim7 := { stood := { row := coverSoundRow, standIns := [], harness := (true, "4a9e1016f83abb37d6675793feb2a193ebf2c69f2b4e031b04a5ce0b00b18eb1"), looks := false }, kinds := [], alts := [], laidByText := true, laidKinds := [.data], laidTests := true, laidLooks := .later }
def CoverSoundCardSaid : Prop := Claim7.holds Tryd.pinned (.plain (OpenSpec.ofChange coverSoundSpec)) coverSoundCard

/-- THE SECOND FORM's CARD OF 'chirographkeep.SlotsApart'. -/
def slotsApartUptoCard : Claim7 := { stood := { row := slotsApartUptoRow, standIns := [], harness := (true, "4a9e1016f83abb37d6675793feb2a193ebf2c69f2b4e031b04a5ce0b00b18eb1"), looks := false }, kinds := [], alts := [], laidByText := true, laidKinds := [.data], laidTests := true, laidLooks := .later }
def SlotsApartUptoCardSaid : Prop := Claim7.holds Tryd.pinned (.plain (OpenSpec.upto slotsApartSpec)) slotsApartUptoCard

/-- THE SECOND FORM's CARD OF 'chirographkeep.PathRight'. -/
def pathRightUptoCard : Claim7 := { stood := { row := pathRightUptoRow, standIns := [], harness := (true, "4a9e1016f83abb37d6675793feb2a193ebf2c69f2b4e031b04a5ce0b00b18eb1"), looks := false }, kinds := [], alts := [], laidByText := true, laidKinds := [.data], laidTests := true, laidLooks := .later }
def PathRightUptoCardSaid : Prop := Claim7.holds Tryd.pinned (.plain (OpenSpec.upto pathRightSpec)) pathRightUptoCard

/-- THE SECOND FORM's CARD OF 'chirographkeep.PathSound'. -/
def pathSoundUptoCard : Claim7 := { stood := { row := pathSoundUptoRow, standIns := [], harness := (true, "4a9e1016f83abb37d6675793feb2a193ebf2c69f2b4e031b04a5ce0b00b18eb1"), looks := false }, kinds := [], alts := [], laidByText := true, laidKinds := [.data], laidTests := true, laidLooks := .later }
def PathSoundUptoCardSaid : Prop := Claim7.holds Tryd.pinned (.plain (OpenSpec.upto pathSoundSpec)) pathSoundUptoCard

/-- THE SECOND FORM's CARD OF 'chirographkeep.IncludeRight'. -/
def includeRightUptoCard : Claim7 := { stood := { row := includeRightUptoRow, standIns := [], harness := (true, "4a9e1016f83abb37d6675793feb2a193ebf2c69f2b4e031b04a5ce0b00b18eb1"), looks := false }, kinds := [], alts := [], laidByText := true, laidKinds := [.data], laidTests := true, laidLooks := .later }
def IncludeRightUptoCardSaid : Prop := Claim7.holds Tryd.pinned (.plain (OpenSpec.upto includeRightSpec)) includeRightUptoCard

/-- THE SECOND FORM's CARD OF 'chirographkeep.IncludeSound'. -/
def includeSoundUptoCard : Claim7 := { stood := { row := includeSoundUptoRow, standIns := [], harness := (true, "4a9e1016f83abb37d6675793feb2a193ebf2c69f2b4e031b04a5ce0b00b18eb1"), looks := false }, kinds := [], alts := [], laidByText := true, laidKinds := [.data], laidTests := true, laidLooks := .later }
def IncludeSoundUptoCardSaid : Prop := Claim7.holds Tryd.pinned (.plain (OpenSpec.upto includeSoundSpec)) includeSoundUptoCard

/-- THE SECOND FORM's CARD OF 'chirographkeep.ExtendRight'. -/
def extendRightUptoCard : Claim7 := { stood := { row := extendRightUptoRow, standIns := [], harness := (true, "4a9e1016f83abb37d6675793feb2a193ebf2c69f2b4e031b04a5ce0b00b18eb1"), looks := false }, kinds := [], alts := [], laidByText := true, laidKinds := [.data], laidTests := true, laidLooks := .later }
def ExtendRightUptoCardSaid : Prop := Claim7.holds Tryd.pinned (.plain (OpenSpec.upto extendRightSpec)) extendRightUptoCard

/-- THE SECOND FORM's CARD OF 'chirographkeep.ExtendSound'. -/
def extendSoundUptoCard : Claim7 := { stood := { row := extendSoundUptoRow, standIns := [], harness := (true, "4a9e1016f83abb37d6675793feb2a193ebf2c69f2b4e031b04a5ce0b00b18eb1"), looks := false }, kinds := [], alts := [], laidByText := true, laidKinds := [.data], laidTests := true, laidLooks := .later }
def ExtendSoundUptoCardSaid : Prop := Claim7.holds Tryd.pinned (.plain (OpenSpec.upto extendSoundSpec)) extendSoundUptoCard

/-- THE SECOND FORM's CARD OF 'chirographkeep.CoverShape'. -/
def coverShapeUptoCard : Claim7 := { stood := { row := coverShapeUptoRow, standIns := [], harness := (true, "4a9e1016f83abb37d6675793feb2a193ebf2c69f2b4e031b04a5ce0b00b18eb1"), looks := false }, kinds := [], alts := [], laidByText := true, laidKinds := [.data], laidTests := true, laidLooks := .later }
def CoverShapeUptoCardSaid : Prop := Claim7.holds Tryd.pinned (.plain (OpenSpec.upto coverShapeSpec)) coverShapeUptoCard

/-- THE SECOND FORM's CARD OF 'chirographkeep.CoverPath'. -/
def coverPathUptoCard : Claim7 := { stood := { row := coverPathUptoRow, standIns := [], harness := (true, "4a9e1016f83abb37d6675793feb2a193ebf2c69f2b4e031b04a5ce0b00b18eb1"), looks := false }, kinds := [], alts := [], laidByText := true, laidKinds := [.data], laidTests := true, laidLooks := .later }
def CoverPathUptoCardSaid : Prop := Claim7.holds Tryd.pinned (.plain (OpenSpec.upto coverPathSpec)) coverPathUptoCard

/-- THE SECOND FORM's CARD OF 'chirographkeep.CoverRight'. -/
def coverRightUptoCard : Claim7 := { stood := { row := coverRightUptoRow, standIns := [], harness := (true, "4a9e1016f83abb37d6675793feb2a193ebf2c69f2b4e031b04a5ce0b00b18eb1"), looks := false }, kinds := [], alts := [], laidByText := true, laidKinds := [.data], laidTests := true, laidLooks := .later }
def CoverRightUptoCardSaid : Prop := Claim7.holds Tryd.pinned (.plain (OpenSpec.upto coverRightSpec)) coverRightUptoCard

/-- THE SECOND FORM's CARD OF 'chirographkeep.CoverSound'. -/
def coverSoundUptoCard : Claim7 := { stood := { row := coverSoundUptoRow, standIns := [], harness := (true, "4a9e1016f83abb37d6675793feb2a193ebf2c69f2b4e031b04a5ce0b00b18eb1"), looks := false }, kinds := [], alts := [], laidByText := true, laidKinds := [.data], laidTests := true, laidLooks := .later }
def CoverSoundUptoCardSaid : Prop := Claim7.holds Tryd.pinned (.plain (OpenSpec.upto coverSoundSpec)) coverSoundUptoCard
end Rows
end Go.Proofs.YtfkkamkhjbfjmaaDoor
