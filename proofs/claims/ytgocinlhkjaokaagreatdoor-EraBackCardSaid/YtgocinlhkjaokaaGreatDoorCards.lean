/-
  DERIVED. GIVEN WITH THE SEED: THE CARDS: each row of YtgocinlhkjaokaaGreatDoorRows.lean that lists a variable, with what it lists TIED to the program's text (the seventh form; the later family's looks); each row that meets fmt, with fmt's text TOLD by the authors' own Lean function (tested against real Go, not proved from fmt's source: count such statements apart). THE CARD IS WHAT COUNTS. Prove the row's statement (the work); the ties are given (YtgocinlhkjaokaaGreatDoorTie.lean); close each card by the builder's one call (the guide's Derived/Test/ToyasCard.lean, 'card_holds'). Laid BY PROGRAM, IN A SANDBOX (cutbox-door.mjs). By AI agents, Wed Nov 11 2026. No macro, syntax, notation, axiom, sorry.
-/
import Derived.Test.YtgocinlhkjaokaaGreatDoorRows
import GoSem.ClaimSeven
namespace Go.Proofs.YtgocinlhkjaokaaGreatDoor
namespace Rows

/-- THE TIED CARD OF 'ephemeriskeep1.EraBack'. -/
def eraBackCard : Claim7 := { stood := { row := eraBackRow, standIns := [], harness := (true, "a9e58ecc7d7ed35d3a5050b3ad21a33dda6369fd258d11af196b6a207148e113"), looks := true }, kinds := [], alts := [], laidByText := true, laidKinds := [.data, .data, .data, .data, .sentinel, .sentinel, .data, .data, .pinned], laidTests := true, laidLooks := .later }
def EraBackCardSaid : Prop := Claim7.holds Tryz.pinned (.plain (OpenSpec.ofChange eraBackSpec)) eraBackCard

/-- THE SECOND FORM's CARD OF 'ephemeriskeep1.EraBack'. -/
def eraBackUptoCard : Claim7 := { stood := { row := eraBackUptoRow, standIns := [], harness := (true, "a9e58ecc7d7ed35d3a5050b3ad21a33dda6369fd258d11af196b6a207148e113"), looks := true }, kinds := [], alts := [], laidByText := true, laidKinds := [.data, .data, .data, .data, .sentinel, .sentinel, .data, .data, .pinned], laidTests := true, laidLooks := .later }
def EraBackUptoCardSaid : Prop := Claim7.holds Tryz.pinned (.plain (OpenSpec.upto eraBackSpec)) eraBackUptoCard
end Rows
end Go.Proofs.YtgocinlhkjaokaaGreatDoor
