/-
  DERIVED. GIVEN WITH THE SEED: THE CARDS: each row of YtlcechkalldhfaaGreatDoorRows.lean that lists a variable, with what it lists TIED to the program's text (the seventh form; the later family's looks); each row that meets fmt, with fmt's text TOLD by the authors' own Lean function (tested against real Go, not proved from fmt's source: count such statements apart). THE CARD IS WHAT COUNTS. Prove the row's statement (the work); the ties are given (YtlcechkalldhfaaGreatDoorTie.lean); close each card by the builder's one call (the guide's Derived/Test/ToyasCard.lean, 'card_holds'). Laid BY PROGRAM, IN A SANDBOX (cutbox-door.mjs). By AI agents, Wed Nov 11 2026. No macro, syntax, notation, axiom, sorry.
-/
import Derived.Test.YtlcechkalldhfaaGreatDoorRows
import GoSem.ClaimSeven
namespace Go.Proofs.YtlcechkalldhfaaGreatDoor
namespace Rows

/-- THE TIED CARD OF 'retargetlaw32.CallingPlaces'. -/
def callingPlacesCard : Claim7 := { stood := { row := callingPlacesRow, standIns := [], harness := (true, "c4ae710ddea176483b2120d7583113c53286eadaf46a46f7e5e988eca0aaff99"), looks := false }, kinds := [], alts := [], laidByText := true, laidKinds := [.data], laidTests := true, laidLooks := .later }
def CallingPlacesCardSaid : Prop := Claim7.holds Tryz.pinned (.plain (OpenSpec.ofChange callingPlacesSpec)) callingPlacesCard

/-- THE TIED CARD OF 'retargetlaw32.CallingFills'. -/
def callingFillsCard : Claim7 := { stood := { row := callingFillsRow, standIns := [], harness := (true, "c4ae710ddea176483b2120d7583113c53286eadaf46a46f7e5e988eca0aaff99"), looks := false }, kinds := [], alts := [], laidByText := true, laidKinds := [.data], laidTests := true, laidLooks := .later }
def CallingFillsCardSaid : Prop := Claim7.holds Tryz.pinned (.plain (OpenSpec.ofChange callingFillsSpec)) callingFillsCard

/-- THE SECOND FORM's CARD OF 'retargetlaw32.CallingPlaces'. -/
def callingPlacesUptoCard : Claim7 := { stood := { row := callingPlacesUptoRow, standIns := [], harness := (true, "c4ae710ddea176483b2120d7583113c53286eadaf46a46f7e5e988eca0aaff99"), looks := false }, kinds := [], alts := [], laidByText := true, laidKinds := [.data], laidTests := true, laidLooks := .later }
def CallingPlacesUptoCardSaid : Prop := Claim7.holds Tryz.pinned (.plain (OpenSpec.upto callingPlacesSpec)) callingPlacesUptoCard

/-- THE SECOND FORM's CARD OF 'retargetlaw32.CallingFills'. -/
def callingFillsUptoCard : Claim7 := { stood := { row := callingFillsUptoRow, standIns := [], harness := (true, "c4ae710ddea176483b2120d7583113c53286eadaf46a46f7e5e988eca0aaff99"), looks := false }, kinds := [], alts := [], laidByText := true, laidKinds := [.data], laidTests := true, laidLooks := .later }
def CallingFillsUptoCardSaid : Prop := Claim7.holds Tryz.pinned (.plain (OpenSpec.upto callingFillsSpec)) callingFillsUptoCard
end Rows
end Go.Proofs.YtlcechkalldhfaaGreatDoor
