/-
  DERIVED. GIVEN WITH THE SEED: THE CARDS: each row of YtcommodbjjdbmaaGreatDoorRows.lean that lists a variable, with what it lists TIED to the program's text (the seventh form; the later family's looks); each row that meets fmt, with fmt's text TOLD by the authors' own Lean function (tested against real Go, not proved from fmt's source: count such statements apart). THE CARD IS WHAT COUNTS. Prove the row's statement (the work); the ties are given (YtcommodbjjdbmaaGreatDoorTie.lean); close each card by the builder's one call (the guide's Derived/Test/ToyasCard.lean, 'card_holds'). Laid BY PROGRAM, IN A SANDBOX (cutbox-door.mjs). By AI agents, Wed Nov 11 2026. No macro, syntax, notation, axiom, sorry.
-/
import Derived.Test.YtcommodbjjdbmaaGreatDoorRows
import GoSem.ClaimSeven
namespace Go.Proofs.YtcommodbjjdbmaaGreatDoor
namespace Rows

/-- THE TIED CARD OF 'ephemeriskeep1.DeskDates'. -/
def deskDatesCard : Claim7 := { stood := { row := deskDatesRow, standIns := [], harness := (true, "81d6045b90d3834e87b533e7250e32a86b567d2b65059155804bb351bd1bd491"), looks := true }, kinds := [], alts := [], laidByText := true, laidKinds := [.data, .data, .data, .data, .sentinel, .sentinel, .data, .widerDeep, .data, .data, .pinned], laidTests := true, laidLooks := .later }
def DeskDatesCardSaid : Prop := Claim7.holds Tryz.pinned (.plain (OpenSpec.ofChange deskDatesSpec)) deskDatesCard

/-- THE SECOND FORM's CARD OF 'ephemeriskeep1.DeskDates'. -/
def deskDatesUptoCard : Claim7 := { stood := { row := deskDatesUptoRow, standIns := [], harness := (true, "81d6045b90d3834e87b533e7250e32a86b567d2b65059155804bb351bd1bd491"), looks := true }, kinds := [], alts := [], laidByText := true, laidKinds := [.data, .data, .data, .data, .sentinel, .sentinel, .data, .widerDeep, .data, .data, .pinned], laidTests := true, laidLooks := .later }
def DeskDatesUptoCardSaid : Prop := Claim7.holds Tryz.pinned (.plain (OpenSpec.upto deskDatesSpec)) deskDatesUptoCard
end Rows
end Go.Proofs.YtcommodbjjdbmaaGreatDoor
