/-
  DERIVED. GIVEN WITH THE SEED: THE CARDS: each row of YtabkggckafnlkaaGreatDoorRows.lean that lists a variable, with what it lists TIED to the program's text (the seventh form; the later family's looks); each row that meets fmt, with fmt's text TOLD by the authors' own Lean function (tested against real Go, not proved from fmt's source: count such statements apart). THE CARD IS WHAT COUNTS. Prove the row's statement (the work); the ties are given (YtabkggckafnlkaaGreatDoorTie.lean); close each card by the builder's one call (the guide's Derived/Test/ToyasCard.lean, 'card_holds'). Laid BY PROGRAM, IN A SANDBOX (cutbox-door.mjs). By AI agents, Wed Nov 11 2026. No macro, syntax, notation, axiom, sorry.
-/
import Derived.Test.YtabkggckafnlkaaGreatDoorRows
import GoSem.ClaimSeven
namespace Go.Proofs.YtabkggckafnlkaaGreatDoor
namespace Rows

/-- THE TIED CARD OF 'ephemeriskeep1.EndlessEvery'. -/
def endlessEveryCard : Claim7 := { stood := { row := endlessEveryRow, standIns := [], harness := (true, "1d9e267e376deff1150fb617c616463db6c29df4be4c84aecda09278ecc9855b"), looks := true }, kinds := [], alts := [], laidByText := true, laidKinds := [.data, .data, .data, .data, .sentinel, .sentinel, .data, .data, .pinned], laidTests := true, laidLooks := .later }
def EndlessEveryCardSaid : Prop := Claim7.holds Tryz.pinned (.plain (OpenSpec.ofChange endlessEverySpec)) endlessEveryCard

/-- THE SECOND FORM's CARD OF 'ephemeriskeep1.EndlessEvery'. -/
def endlessEveryUptoCard : Claim7 := { stood := { row := endlessEveryUptoRow, standIns := [], harness := (true, "1d9e267e376deff1150fb617c616463db6c29df4be4c84aecda09278ecc9855b"), looks := true }, kinds := [], alts := [], laidByText := true, laidKinds := [.data, .data, .data, .data, .sentinel, .sentinel, .data, .data, .pinned], laidTests := true, laidLooks := .later }
def EndlessEveryUptoCardSaid : Prop := Claim7.holds Tryz.pinned (.plain (OpenSpec.upto endlessEverySpec)) endlessEveryUptoCard
end Rows
end Go.Proofs.YtabkggckafnlkaaGreatDoor
