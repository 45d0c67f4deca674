/-
  DERIVED. GIVEN WITH THE SEED: THE CARDS: each row of YtkkjaaognefeiaaGreatDoorRows.lean that lists a variable, with what it lists TIED to the program's text (the seventh form; the later family's looks); each row that meets fmt, with fmt's text TOLD by the authors' own Lean function (tested against real Go, not proved from fmt's source: count such statements apart). THE CARD IS WHAT COUNTS. Prove the row's statement (the work); the ties are given (YtkkjaaognefeiaaGreatDoorTie.lean); close each card by the builder's one call (the guide's Derived/Test/ToyasCard.lean, 'card_holds'). Laid BY PROGRAM, IN A SANDBOX (cutbox-door.mjs). By AI agents, Wed Nov 11 2026. No macro, syntax, notation, axiom, sorry.
-/
import Derived.Test.YtkkjaaognefeiaaGreatDoorRows
import GoSem.ClaimSeven
namespace Go.Proofs.YtkkjaaognefeiaaGreatDoor
namespace Rows

/-- THE TIED CARD OF 'ephemeriskeep1.AlmanacLooks'. -/
def almanacLooksCard : Claim7 := { stood := { row := almanacLooksRow, standIns := [], harness := (true, "efd8778388ce1ed8d569cebb2a93745a4ac0cb9255cd8b3947ba5560232737d1"), looks := true }, kinds := [], alts := [], laidByText := true, laidKinds := [.data, .data, .data, .data, .data, .data, .data, .data, .sentinel, .sentinel, .data, .data, .pinned], laidTests := true, laidLooks := .later }
def AlmanacLooksCardSaid : Prop := Claim7.holds Tryz.pinned (.plain (OpenSpec.ofChange almanacLooksSpec)) almanacLooksCard

/-- THE SECOND FORM's CARD OF 'ephemeriskeep1.AlmanacLooks'. -/
def almanacLooksUptoCard : Claim7 := { stood := { row := almanacLooksUptoRow, standIns := [], harness := (true, "efd8778388ce1ed8d569cebb2a93745a4ac0cb9255cd8b3947ba5560232737d1"), looks := true }, kinds := [], alts := [], laidByText := true, laidKinds := [.data, .data, .data, .data, .data, .data, .data, .data, .sentinel, .sentinel, .data, .data, .pinned], laidTests := true, laidLooks := .later }
def AlmanacLooksUptoCardSaid : Prop := Claim7.holds Tryz.pinned (.plain (OpenSpec.upto almanacLooksSpec)) almanacLooksUptoCard
end Rows
end Go.Proofs.YtkkjaaognefeiaaGreatDoor
