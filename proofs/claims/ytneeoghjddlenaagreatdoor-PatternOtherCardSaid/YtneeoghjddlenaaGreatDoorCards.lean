/-
  DERIVED. GIVEN WITH THE SEED: THE CARDS: each row of YtneeoghjddlenaaGreatDoorRows.lean that lists a variable, with what it lists TIED to the program's text (the seventh form; the later family's looks); each row that meets fmt, with fmt's text TOLD by the authors' own Lean function (tested against real Go, not proved from fmt's source: count such statements apart). THE CARD IS WHAT COUNTS. Prove the row's statement (the work); the ties are given (YtneeoghjddlenaaGreatDoorTie.lean); close each card by the builder's one call (the guide's Derived/Test/ToyasCard.lean, 'card_holds'). Laid BY PROGRAM, IN A SANDBOX (cutbox-door.mjs). By AI agents, Wed Nov 11 2026. No macro, syntax, notation, axiom, sorry.
-/
import Derived.Test.YtneeoghjddlenaaGreatDoorRows
import GoSem.ClaimSeven
namespace Go.Proofs.YtneeoghjddlenaaGreatDoor
namespace Rows

/-- THE TIED CARD OF 'ephemeriskeep1.ConvertBack'. -/
def convertBackCard : Claim7 := { stood := { row := convertBackRow, standIns := [], harness := (true, "190db90ae2089984e81ee4417a7ce32cacda4ea51874219b257137f114fe6f4a"), looks := true }, kinds := [], alts := [], laidByText := true, laidKinds := [.data, .data, .data, .data, .sentinel, .sentinel, .data, .data, .pinned], laidTests := true, laidLooks := .later }
def ConvertBackCardSaid : Prop := Claim7.holds Tryz.pinned (.plain (OpenSpec.ofChange convertBackSpec)) convertBackCard

/-- THE TIED CARD OF 'ephemeriskeep1.CatalogMonths'. -/
def catalogMonthsCard : Claim7 := { stood := { row := catalogMonthsRow, standIns := [], harness := (true, "190db90ae2089984e81ee4417a7ce32cacda4ea51874219b257137f114fe6f4a"), looks := true }, kinds := [], alts := [], laidByText := true, laidKinds := [.data, .data, .data, .data, .sentinel, .sentinel, .data, .data, .data, .pinned], laidTests := true, laidLooks := .later }
def CatalogMonthsCardSaid : Prop := Claim7.holds Tryz.pinned (.plain (OpenSpec.ofChange catalogMonthsSpec)) catalogMonthsCard

/-- THE TIED CARD OF 'ephemeriskeep1.PatternOther'. -/
def patternOtherCard : Claim7 := { stood := { row := patternOtherRow, standIns := [], harness := (true, "190db90ae2089984e81ee4417a7ce32cacda4ea51874219b257137f114fe6f4a"), looks := true }, kinds := [], alts := [], laidByText := true, laidKinds := [.data, .data, .data, .data, .sentinel, .sentinel, .data, .data, .data, .pinned], laidTests := true, laidLooks := .later }
def PatternOtherCardSaid : Prop := Claim7.holds Tryz.pinned (.plain (OpenSpec.ofChange patternOtherSpec)) patternOtherCard

/-- THE SECOND FORM's CARD OF 'ephemeriskeep1.ConvertBack'. -/
def convertBackUptoCard : Claim7 := { stood := { row := convertBackUptoRow, standIns := [], harness := (true, "190db90ae2089984e81ee4417a7ce32cacda4ea51874219b257137f114fe6f4a"), looks := true }, kinds := [], alts := [], laidByText := true, laidKinds := [.data, .data, .data, .data, .sentinel, .sentinel, .data, .data, .pinned], laidTests := true, laidLooks := .later }
def ConvertBackUptoCardSaid : Prop := Claim7.holds Tryz.pinned (.plain (OpenSpec.upto convertBackSpec)) convertBackUptoCard

/-- THE SECOND FORM's CARD OF 'ephemeriskeep1.CatalogMonths'. -/
def catalogMonthsUptoCard : Claim7 := { stood := { row := catalogMonthsUptoRow, standIns := [], harness := (true, "190db90ae2089984e81ee4417a7ce32cacda4ea51874219b257137f114fe6f4a"), looks := true }, kinds := [], alts := [], laidByText := true, laidKinds := [.data, .data, .data, .data, .sentinel, .sentinel, .data, .data, .data, .pinned], laidTests := true, laidLooks := .later }
def CatalogMonthsUptoCardSaid : Prop := Claim7.holds Tryz.pinned (.plain (OpenSpec.upto catalogMonthsSpec)) catalogMonthsUptoCard

/-- THE SECOND FORM's CARD OF 'ephemeriskeep1.PatternOther'. -/
def patternOtherUptoCard : Claim7 := { stood := { row := patternOtherUptoRow, standIns := [], harness := (true, "190db90ae2089984e81ee4417a7ce32cacda4ea51874219b257137f114fe6f4a"), looks := true }, kinds := [], alts := [], laidByText := true, laidKinds := [.data, .data, .data, .data, .sentinel, .sentinel, .data, .data, .data, .pinned], laidTests := true, laidLooks := .later }
def PatternOtherUptoCardSaid : Prop := Claim7.holds Tryz.pinned (.plain (OpenSpec.upto patternOtherSpec)) patternOtherUptoCard
end Rows
end Go.Proofs.YtneeoghjddlenaaGreatDoor
