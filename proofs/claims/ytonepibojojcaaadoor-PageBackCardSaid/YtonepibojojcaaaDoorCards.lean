/-
  DERIVED. GIVEN WITH THE SEED: THE CARDS: each row of YtonepibojojcaaaDoorRows.lean that lists a variable, with what it lists TIED to the program's text (the seventh form; the later family's looks); each row that meets fmt, with fmt's text TOLD by the authors' own Lean function (tested against real Go, not proved from fmt's source: count such statements apart). THE CARD IS WHAT COUNTS. Prove the row's statement (the work); the ties are given (YtonepibojojcaaaDoorTie.lean); close each card by the builder's one call (the guide's Derived/Test/ToyasCard.lean, 'card_holds'). Laid BY PROGRAM, IN A SANDBOX (cutbox-door.mjs). By AI agents, Wed Nov 11 2026. No macro, syntax, notation, axiom, sorry.
-/
import Derived.Test.YtonepibojojcaaaDoorRows
import GoSem.ClaimSeven
namespace Go.Proofs.YtonepibojojcaaaDoor
namespace Rows

/-- THE TIED CARD OF 'ephemeriskeep1.PageFits'. -/
def pageFitsCard : Claim7 := { stood := { row := pageFitsRow, standIns := [], harness := (true, "94ccae457cfe23c954259f5135e44572723b40823c3617c36730e8cf36040bb8"), looks := false }, kinds := [], alts := [], laidByText := true, laidKinds := [.data, .data, .data, .data, .pinned], laidTests := true, laidLooks := .later }
def PageFitsCardSaid : Prop := Claim7.holds Tryd.pinned (.plain (OpenSpec.ofChange pageFitsSpec)) pageFitsCard

/-- THE TIED CARD OF 'ephemeriskeep1.PageBack'. -/
def pageBackCard : Claim7 := { stood := { row := pageBackRow, standIns := [], harness := (true, "94ccae457cfe23c954259f5135e44572723b40823c3617c36730e8cf36040bb8"), looks := false }, kinds := [], alts := [], laidByText := true, laidKinds := [.data, .data, .data, .data, .pinned], laidTests := true, laidLooks := .later }
def PageBackCardSaid : Prop := Claim7.holds Tryd.pinned (.plain (OpenSpec.ofChange pageBackSpec)) pageBackCard

/-- THE SECOND FORM's CARD OF 'ephemeriskeep1.PageFits'. -/
def pageFitsUptoCard : Claim7 := { stood := { row := pageFitsUptoRow, standIns := [], harness := (true, "94ccae457cfe23c954259f5135e44572723b40823c3617c36730e8cf36040bb8"), looks := false }, kinds := [], alts := [], laidByText := true, laidKinds := [.data, .data, .data, .data, .pinned], laidTests := true, laidLooks := .later }
def PageFitsUptoCardSaid : Prop := Claim7.holds Tryd.pinned (.plain (OpenSpec.upto pageFitsSpec)) pageFitsUptoCard

/-- THE SECOND FORM's CARD OF 'ephemeriskeep1.PageBack'. -/
def pageBackUptoCard : Claim7 := { stood := { row := pageBackUptoRow, standIns := [], harness := (true, "94ccae457cfe23c954259f5135e44572723b40823c3617c36730e8cf36040bb8"), looks := false }, kinds := [], alts := [], laidByText := true, laidKinds := [.data, .data, .data, .data, .pinned], laidTests := true, laidLooks := .later }
def PageBackUptoCardSaid : Prop := Claim7.holds Tryd.pinned (.plain (OpenSpec.upto pageBackSpec)) pageBackUptoCard
end Rows
end Go.Proofs.YtonepibojojcaaaDoor
