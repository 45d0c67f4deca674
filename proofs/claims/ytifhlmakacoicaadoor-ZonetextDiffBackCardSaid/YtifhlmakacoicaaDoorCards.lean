/-
  DERIVED. GIVEN WITH THE SEED: THE CARDS: each row of YtifhlmakacoicaaDoorRows.lean that lists a variable, with what it lists TIED to the program's text (the seventh form; the later family's looks); each row that meets fmt, with fmt's text TOLD by the authors' own Lean function (tested against real Go, not proved from fmt's source: count such statements apart). THE CARD IS WHAT COUNTS. Prove the row's statement (the work); the ties are given (YtifhlmakacoicaaDoorTie.lean); close each card by the builder's one call (the guide's Derived/Test/ToyasCard.lean, 'card_holds'). Laid BY PROGRAM, IN A SANDBOX (cutbox-door.mjs). By AI agents, Wed Nov 11 2026. No macro, syntax, notation, axiom, sorry.
-/
import Derived.Test.YtifhlmakacoicaaDoorRows
import GoSem.ClaimSeven
namespace Go.Proofs.YtifhlmakacoicaaDoor
namespace Rows

/-- THE TIED CARD OF 'ephemeristop.TopNotices'. -/
def topNoticesCard : Claim7 := { stood := { row := topNoticesRow, standIns := [], harness := (true, "a0ca0bca498e09965ddad1ae20a6c311043c7f6aaab3cdf88e1fe4db599fcbc9"), looks := true }, kinds := [], alts := [], laidByText := true, laidKinds := [.data, .data, .data, .data, .sentinel, .sentinel, .pinned], laidTests := true, laidLooks := .later }
def TopNoticesCardSaid : Prop := Claim7.holds Tryd.pinned (.plain (OpenSpec.ofChange topNoticesSpec)) topNoticesCard

/-- THE TIED CARD OF 'ephemeriskeep1.ZonetextDiffBack'. -/
def zonetextDiffBackCard : Claim7 := { stood := { row := zonetextDiffBackRow, standIns := [], harness := (true, "a0ca0bca498e09965ddad1ae20a6c311043c7f6aaab3cdf88e1fe4db599fcbc9"), looks := true }, kinds := [], alts := [], laidByText := true, laidKinds := [.data, .data, .data], laidTests := true, laidLooks := .later }
def ZonetextDiffBackCardSaid : Prop := Claim7.holds Tryd.pinned (.plain (OpenSpec.ofChange zonetextDiffBackSpec)) zonetextDiffBackCard

/-- THE TIED CARD OF 'ephemeriskeep1.BureauLast'. -/
def bureauLastCard : Claim7 := { stood := { row := bureauLastRow, standIns := [], harness := (true, "a0ca0bca498e09965ddad1ae20a6c311043c7f6aaab3cdf88e1fe4db599fcbc9"), looks := true }, kinds := [], alts := [], laidByText := true, laidKinds := [.data, .data, .data, .data, .sentinel, .sentinel, .pinned], laidTests := true, laidLooks := .later }
def BureauLastCardSaid : Prop := Claim7.holds Tryd.pinned (.plain (OpenSpec.ofChange bureauLastSpec)) bureauLastCard

/-- THE SECOND FORM's CARD OF 'ephemeristop.TopNotices'. -/
def topNoticesUptoCard : Claim7 := { stood := { row := topNoticesUptoRow, standIns := [], harness := (true, "a0ca0bca498e09965ddad1ae20a6c311043c7f6aaab3cdf88e1fe4db599fcbc9"), looks := true }, kinds := [], alts := [], laidByText := true, laidKinds := [.data, .data, .data, .data, .sentinel, .sentinel, .pinned], laidTests := true, laidLooks := .later }
def TopNoticesUptoCardSaid : Prop := Claim7.holds Tryd.pinned (.plain (OpenSpec.upto topNoticesSpec)) topNoticesUptoCard

/-- THE SECOND FORM's CARD OF 'ephemeriskeep1.ZonetextDiffBack'. -/
def zonetextDiffBackUptoCard : Claim7 := { stood := { row := zonetextDiffBackUptoRow, standIns := [], harness := (true, "a0ca0bca498e09965ddad1ae20a6c311043c7f6aaab3cdf88e1fe4db599fcbc9"), looks := true }, kinds := [], alts := [], laidByText := true, laidKinds := [.data, .data, .data], laidTests := true, laidLooks := .later }
def ZonetextDiffBackUptoCardSaid : Prop := Claim7.holds Tryd.pinned (.plain (OpenSpec.upto zonetextDiffBackSpec)) zonetextDiffBackUptoCard

/-- THE SECOND FORM's CARD OF 'ephemeriskeep1.BureauLast'. -/
def bureauLastUptoCard : Claim7 := { stood := { row := bureauLastUptoRow, standIns := [], harness := (true, "a0ca0bca498e09965ddad1ae20a6c311043c7f6aaab3cdf88e1fe4db599fcbc9"), looks := true }, kinds := [], alts := [], laidByText := true, laidKinds := [.data, .data, .data, .data, .sentinel, .sentinel, .pinned], laidTests := true, laidLooks := .later }
def BureauLastUptoCardSaid : Prop := Claim7.holds Tryd.pinned (.plain (OpenSpec.upto bureauLastSpec)) bureauLastUptoCard
end Rows
end Go.Proofs.YtifhlmakacoicaaDoor
