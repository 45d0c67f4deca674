/-
  DERIVED. GIVEN WITH THE SEED: THE CARDS: each row of YtlihhlijombepaaDoorRows.lean that lists a variable, with what it lists TIED to the program's text (the seventh form; the later family's looks); each row that meets fmt, with fmt's text TOLD by the authors' own Lean function (tested against real Go, not proved from fmt's source: count such statements apart). THE CARD IS WHAT COUNTS. Prove the row's statement (the work); the ties are given (YtlihhlijombepaaDoorTie.lean); close each card by the builder's one call (the guide's Derived/Test/ToyasCard.lean, 'card_holds'). Laid BY PROGRAM, IN A SANDBOX (cutbox-door.mjs). By AI agents, Wed Nov 11 2026. No macro, syntax, notation, axiom, sorry.
-/
import Derived.Test.YtlihhlijombepaaDoorRows
import GoSem.ClaimSeven
namespace Go.Proofs.YtlihhlijombepaaDoor
namespace Rows

/-- THE TIED CARD OF 'ephemeristop.TopNotices'. -/
def topNoticesCard : Claim7 := { stood := { row := topNoticesRow, standIns := [], harness := (true, "22d4628e50f0d7d628cb464286c148fdb3b42001ffd30aa4ba7d916d3c8c1979"), looks := true }, kinds := [], alts := [], laidByText := true, laidKinds := [.data, .data, .data, .data, .sentinel, .sentinel, .pinned], laidTests := true, laidLooks := .later }
def TopNoticesCardSaid : Prop := Claim7.holds Tryd.pinned (.plain (OpenSpec.ofChange topNoticesSpec)) topNoticesCard

/-- THE TIED CARD OF 'ephemeriskeep1.ForecastOnce'. -/
def forecastOnceCard : Claim7 := { stood := { row := forecastOnceRow, standIns := [], harness := (true, "22d4628e50f0d7d628cb464286c148fdb3b42001ffd30aa4ba7d916d3c8c1979"), looks := true }, kinds := [], alts := [], laidByText := true, laidKinds := [.data, .data, .data], laidTests := true, laidLooks := .later }
def ForecastOnceCardSaid : Prop := Claim7.holds Tryd.pinned (.plain (OpenSpec.ofChange forecastOnceSpec)) forecastOnceCard

/-- THE TIED CARD OF 'ephemeriskeep1.NumeralWidths'. -/
def numeralWidthsCard : Claim7 := { stood := { row := numeralWidthsRow, standIns := [], harness := (true, "22d4628e50f0d7d628cb464286c148fdb3b42001ffd30aa4ba7d916d3c8c1979"), looks := true }, kinds := [], alts := [], laidByText := true, laidKinds := [.data, .data, .data, .data, .data, .pinned], laidTests := true, laidLooks := .later }
def NumeralWidthsCardSaid : Prop := Claim7.holds Tryd.pinned (.plain (OpenSpec.ofChange numeralWidthsSpec)) numeralWidthsCard

/-- THE TIED CARD OF 'ephemeriskeep1.ZonetextDiffBack'. -/
def zonetextDiffBackCard : Claim7 := { stood := { row := zonetextDiffBackRow, standIns := [], harness := (true, "22d4628e50f0d7d628cb464286c148fdb3b42001ffd30aa4ba7d916d3c8c1979"), looks := true }, kinds := [], alts := [], laidByText := true, laidKinds := [.data, .data, .data], laidTests := true, laidLooks := .later }
def ZonetextDiffBackCardSaid : Prop := Claim7.holds Tryd.pinned (.plain (OpenSpec.ofChange zonetextDiffBackSpec)) zonetextDiffBackCard

/-- THE TIED CARD OF 'ephemeriskeep1.FracBack'. -/
def fracBackCard : Claim7 := { stood := { row := fracBackRow, standIns := [], harness := (true, "22d4628e50f0d7d628cb464286c148fdb3b42001ffd30aa4ba7d916d3c8c1979"), looks := true }, kinds := [], alts := [], laidByText := true, laidKinds := [.data, .data, .data, .sentinel, .sentinel], laidTests := true, laidLooks := .later }
def FracBackCardSaid : Prop := Claim7.holds Tryd.pinned (.plain (OpenSpec.ofChange fracBackSpec)) fracBackCard

/-- THE TIED CARD OF 'ephemeriskeep1.NumeralBack'. -/
def numeralBackCard : Claim7 := { stood := { row := numeralBackRow, standIns := [], harness := (true, "22d4628e50f0d7d628cb464286c148fdb3b42001ffd30aa4ba7d916d3c8c1979"), looks := true }, kinds := [], alts := [], laidByText := true, laidKinds := [.data, .data, .data, .data, .data, .pinned], laidTests := true, laidLooks := .later }
def NumeralBackCardSaid : Prop := Claim7.holds Tryd.pinned (.plain (OpenSpec.ofChange numeralBackSpec)) numeralBackCard

/-- THE TIED CARD OF 'ephemeriskeep1.ZonetextBack'. -/
def zonetextBackCard : Claim7 := { stood := { row := zonetextBackRow, standIns := [], harness := (true, "22d4628e50f0d7d628cb464286c148fdb3b42001ffd30aa4ba7d916d3c8c1979"), looks := true }, kinds := [], alts := [], laidByText := true, laidKinds := [.data, .data, .data, .data, .sentinel, .sentinel, .pinned], laidTests := true, laidLooks := .later }
def ZonetextBackCardSaid : Prop := Claim7.holds Tryd.pinned (.plain (OpenSpec.ofChange zonetextBackSpec)) zonetextBackCard

/-- THE TIED CARD OF 'ephemeriskeep1.BureauLast'. -/
def bureauLastCard : Claim7 := { stood := { row := bureauLastRow, standIns := [], harness := (true, "22d4628e50f0d7d628cb464286c148fdb3b42001ffd30aa4ba7d916d3c8c1979"), looks := true }, kinds := [], alts := [], laidByText := true, laidKinds := [.data, .data, .data, .data, .sentinel, .sentinel, .pinned], laidTests := true, laidLooks := .later }
def BureauLastCardSaid : Prop := Claim7.holds Tryd.pinned (.plain (OpenSpec.ofChange bureauLastSpec)) bureauLastCard

/-- THE SECOND FORM's CARD OF 'ephemeristop.TopNotices'. -/
def topNoticesUptoCard : Claim7 := { stood := { row := topNoticesUptoRow, standIns := [], harness := (true, "22d4628e50f0d7d628cb464286c148fdb3b42001ffd30aa4ba7d916d3c8c1979"), looks := true }, kinds := [], alts := [], laidByText := true, laidKinds := [.data, .data, .data, .data, .sentinel, .sentinel, .pinned], laidTests := true, laidLooks := .later }
def TopNoticesUptoCardSaid : Prop := Claim7.holds Tryd.pinned (.plain (OpenSpec.upto topNoticesSpec)) topNoticesUptoCard

/-- THE SECOND FORM's CARD OF 'ephemeriskeep1.ForecastOnce'. -/
def forecastOnceUptoCard : Claim7 := { stood := { row := forecastOnceUptoRow, standIns := [], harness := (true, "22d4628e50f0d7d628cb464286c148fdb3b42001ffd30aa4ba7d916d3c8c1979"), looks := true }, kinds := [], alts := [], laidByText := true, laidKinds := [.data, .data, .data], laidTests := true, laidLooks := .later }
def ForecastOnceUptoCardSaid : Prop := Claim7.holds Tryd.pinned (.plain (OpenSpec.upto forecastOnceSpec)) forecastOnceUptoCard

/-- THE SECOND FORM's CARD OF 'ephemeriskeep1.NumeralWidths'. -/
def numeralWidthsUptoCard : Claim7 := { stood := { row := numeralWidthsUptoRow, standIns := [], harness := (true, "22d4628e50f0d7d628cb464286c148fdb3b42001ffd30aa4ba7d916d3c8c1979"), looks := true }, kinds := [], alts := [], laidByText := true, laidKinds := [.data, .data, .data, .data, .data, .pinned], laidTests := true, laidLooks := .later }
def NumeralWidthsUptoCardSaid : Prop := Claim7.holds Tryd.pinned (.plain (OpenSpec.upto numeralWidthsSpec)) numeralWidthsUptoCard

/-- THE SECOND FORM's CARD OF 'ephemeriskeep1.ZonetextDiffBack'. -/
def zonetextDiffBackUptoCard : Claim7 := { stood := { row := zonetextDiffBackUptoRow, standIns := [], harness := (true, "22d4628e50f0d7d628cb464286c148fdb3b42001ffd30aa4ba7d916d3c8c1979"), looks := true }, kinds := [], alts := [], laidByText := true, laidKinds := [.data, .data, .data], laidTests := true, laidLooks := .later }
def ZonetextDiffBackUptoCardSaid : Prop := Claim7.holds Tryd.pinned (.plain (OpenSpec.upto zonetextDiffBackSpec)) zonetextDiffBackUptoCard

/-- THE SECOND FORM's CARD OF 'ephemeriskeep1.FracBack'. -/
def fracBackUptoCard : Claim7 := { stood := { row := fracBackUptoRow, standIns := [], harness := (true, "22d4628e50f0d7d628cb464286c148fdb3b42001ffd30aa4ba7d916d3c8c1979"), looks := true }, kinds := [], alts := [], laidByText := true, laidKinds := [.data, .data, .data, .sentinel, .sentinel], laidTests := true, laidLooks := .later }
def FracBackUptoCardSaid : Prop := Claim7.holds Tryd.pinned (.plain (OpenSpec.upto fracBackSpec)) fracBackUptoCard

/-- THE SECOND FORM's CARD OF 'ephemeriskeep1.NumeralBack'. -/
def numeralBackUptoCard : Claim7 := { stood := { row := numeralBackUptoRow, standIns := [], harness := (true, "22d4628e50f0d7d628cb464286c148fdb3b42001ffd30aa4ba7d916d3c8c1979"), looks := true }, kinds := [], alts := [], laidByText := true, laidKinds := [.data, .data, .data, .data, .data, .pinned], laidTests := true, laidLooks := .later }
def NumeralBackUptoCardSaid : Prop := Claim7.holds Tryd.pinned (.plain (OpenSpec.upto numeralBackSpec)) numeralBackUptoCard

/-- THE SECOND FORM's CARD OF 'ephemeriskeep1.ZonetextBack'. -/
def zonetextBackUptoCard : Claim7 := { stood := { row := zonetextBackUptoRow, standIns := [], harness := (true, "22d4628e50f0d7d628cb464286c148fdb3b42001ffd30aa4ba7d916d3c8c1979"), looks := true }, kinds := [], alts := [], laidByText := true, laidKinds := [.data, .data, .data, .data, .sentinel, .sentinel, .pinned], laidTests := true, laidLooks := .later }
def ZonetextBackUptoCardSaid : Prop := Claim7.holds Tryd.pinned (.plain (OpenSpec.upto zonetextBackSpec)) zonetextBackUptoCard

/-- THE SECOND FORM's CARD OF 'ephemeriskeep1.BureauLast'. -/
def bureauLastUptoCard : Claim7 := { stood := { row := bureauLastUptoRow, standIns := [], harness := (true, "22d4628e50f0d7d628cb464286c148fdb3b42001ffd30aa4ba7d916d3c8c1979"), looks := true }, kinds := [], alts := [], laidByText := true, laidKinds := [.data, .data, .data, .data, .sentinel, .sentinel, .pinned], laidTests := true, laidLooks := .later }
def BureauLastUptoCardSaid : Prop := Claim7.holds Tryd.pinned (.plain (OpenSpec.upto bureauLastSpec)) bureauLastUptoCard
end Rows
end Go.Proofs.YtlihhlijombepaaDoor
