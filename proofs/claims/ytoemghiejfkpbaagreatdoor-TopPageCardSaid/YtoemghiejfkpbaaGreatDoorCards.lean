/-
  DERIVED. GIVEN WITH THE SEED: THE CARDS: each row of YtoemghiejfkpbaaGreatDoorRows.lean that lists a variable, with what it lists TIED to the program's text (the seventh form; the later family's looks); each row that meets fmt, with fmt's text TOLD by the authors' own Lean function (tested against real Go, not proved from fmt's source: count such statements apart). THE CARD IS WHAT COUNTS. Prove the row's statement (the work); the ties are given (YtoemghiejfkpbaaGreatDoorTie.lean); close each card by the builder's one call (the guide's Derived/Test/ToyasCard.lean, 'card_holds'). Laid BY PROGRAM, IN A SANDBOX (cutbox-door.mjs). By AI agents, Wed Nov 11 2026. No macro, syntax, notation, axiom, sorry.
-/
import Derived.Test.YtoemghiejfkpbaaGreatDoorRows
import GoSem.ClaimSeven
namespace Go.Proofs.YtoemghiejfkpbaaGreatDoor
namespace Rows

/-- THE TIED CARD OF 'ephemeristop.TopPage'. -/
def topPageCard : Claim7 := { stood := { row := topPageRow, standIns := [], harness := (true, "736814589e6c2409a403200fa2e2130ba67ce405ce34fae239867bb1d12b412f"), looks := true }, kinds := [], alts := [], laidByText := true, laidKinds := [.data, .data, .data, .data, .sentinel, .sentinel, .data, .data, .data, .pinned], laidTests := true, laidLooks := .later }
def TopPageCardSaid : Prop := Claim7.holds Tryz.pinned (.plain (OpenSpec.ofChange topPageSpec)) topPageCard

/-- THE SECOND FORM's CARD OF 'ephemeristop.TopPage'. -/
def topPageUptoCard : Claim7 := { stood := { row := topPageUptoRow, standIns := [], harness := (true, "736814589e6c2409a403200fa2e2130ba67ce405ce34fae239867bb1d12b412f"), looks := true }, kinds := [], alts := [], laidByText := true, laidKinds := [.data, .data, .data, .data, .sentinel, .sentinel, .data, .data, .data, .pinned], laidTests := true, laidLooks := .later }
def TopPageUptoCardSaid : Prop := Claim7.holds Tryz.pinned (.plain (OpenSpec.upto topPageSpec)) topPageUptoCard
end Rows
end Go.Proofs.YtoemghiejfkpbaaGreatDoor
