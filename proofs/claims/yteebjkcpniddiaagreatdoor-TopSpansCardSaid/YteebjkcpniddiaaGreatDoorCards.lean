/-
  DERIVED. GIVEN WITH THE SEED: THE CARDS: each row of YteebjkcpniddiaaGreatDoorRows.lean that lists a variable, with what it lists TIED to the program's text (the seventh form; the later family's looks); each row that meets fmt, with fmt's text TOLD by the authors' own Lean function (tested against real Go, not proved from fmt's source: count such statements apart). THE CARD IS WHAT COUNTS. Prove the row's statement (the work); the ties are given (YteebjkcpniddiaaGreatDoorTie.lean); close each card by the builder's one call (the guide's Derived/Test/ToyasCard.lean, 'card_holds'). Laid BY PROGRAM, IN A SANDBOX (cutbox-door.mjs). By AI agents, Wed Nov 11 2026. No macro, syntax, notation, axiom, sorry.
-/
import Derived.Test.YteebjkcpniddiaaGreatDoorRows
import GoSem.ClaimSeven
namespace Go.Proofs.YteebjkcpniddiaaGreatDoor
namespace Rows

/-- THE TIED CARD OF 'ephemeriskeep1.SpanBack'. -/
def spanBackCard : Claim7 := { stood := { row := spanBackRow, standIns := [], harness := (true, "8e870f323e2bb544c2b2337dc28c8236bf45160273b8386be94aec795217050c"), looks := true }, kinds := [], alts := [], laidByText := true, laidKinds := [.data, .data, .data, .data, .sentinel, .sentinel, .data, .data, .pinned], laidTests := true, laidLooks := .later }
def SpanBackCardSaid : Prop := Claim7.holds Tryz.pinned (.plain (OpenSpec.ofChange spanBackSpec)) spanBackCard

/-- THE TIED CARD OF 'ephemeriskeep1.FeastBack'. -/
def feastBackCard : Claim7 := { stood := { row := feastBackRow, standIns := [], harness := (true, "8e870f323e2bb544c2b2337dc28c8236bf45160273b8386be94aec795217050c"), looks := true }, kinds := [], alts := [], laidByText := true, laidKinds := [.data, .data, .data, .data, .sentinel, .sentinel, .data, .data, .pinned], laidTests := true, laidLooks := .later }
def FeastBackCardSaid : Prop := Claim7.holds Tryz.pinned (.plain (OpenSpec.ofChange feastBackSpec)) feastBackCard

/-- THE TIED CARD OF 'ephemeriskeep1.FeastBlanks'. -/
def feastBlanksCard : Claim7 := { stood := { row := feastBlanksRow, standIns := [], harness := (true, "8e870f323e2bb544c2b2337dc28c8236bf45160273b8386be94aec795217050c"), looks := true }, kinds := [], alts := [], laidByText := true, laidKinds := [.data, .data, .data, .data, .sentinel, .sentinel, .data, .data, .pinned], laidTests := true, laidLooks := .later }
def FeastBlanksCardSaid : Prop := Claim7.holds Tryz.pinned (.plain (OpenSpec.ofChange feastBlanksSpec)) feastBlanksCard

/-- THE TIED CARD OF 'ephemeriskeep1.SpanSteps'. -/
def spanStepsCard : Claim7 := { stood := { row := spanStepsRow, standIns := [], harness := (true, "8e870f323e2bb544c2b2337dc28c8236bf45160273b8386be94aec795217050c"), looks := true }, kinds := [], alts := [], laidByText := true, laidKinds := [.data, .data, .data, .data, .sentinel, .sentinel, .data, .data, .pinned], laidTests := true, laidLooks := .later }
def SpanStepsCardSaid : Prop := Claim7.holds Tryz.pinned (.plain (OpenSpec.ofChange spanStepsSpec)) spanStepsCard

/-- THE TIED CARD OF 'ephemeristop.TopSpans'. -/
def topSpansCard : Claim7 := { stood := { row := topSpansRow, standIns := [], harness := (true, "8e870f323e2bb544c2b2337dc28c8236bf45160273b8386be94aec795217050c"), looks := true }, kinds := [], alts := [], laidByText := true, laidKinds := [.data, .data, .data, .data, .sentinel, .sentinel, .data, .data, .pinned], laidTests := true, laidLooks := .later }
def TopSpansCardSaid : Prop := Claim7.holds Tryz.pinned (.plain (OpenSpec.ofChange topSpansSpec)) topSpansCard

/-- THE TIED CARD OF 'ephemeriskeep1.SolveAlgebra'. -/
def solveAlgebraCard : Claim7 := { stood := { row := solveAlgebraRow, standIns := [], harness := (true, "8e870f323e2bb544c2b2337dc28c8236bf45160273b8386be94aec795217050c"), looks := true }, kinds := [], alts := [], laidByText := true, laidKinds := [.data, .data, .data, .data, .sentinel, .sentinel, .data, .data, .pinned], laidTests := true, laidLooks := .later }
def SolveAlgebraCardSaid : Prop := Claim7.holds Tryz.pinned (.plain (OpenSpec.ofChange solveAlgebraSpec)) solveAlgebraCard

/-- THE TIED CARD OF 'ephemeriskeep1.SolveShifts'. -/
def solveShiftsCard : Claim7 := { stood := { row := solveShiftsRow, standIns := [], harness := (true, "8e870f323e2bb544c2b2337dc28c8236bf45160273b8386be94aec795217050c"), looks := true }, kinds := [], alts := [], laidByText := true, laidKinds := [.data, .data, .data, .data, .sentinel, .sentinel, .data, .data, .pinned], laidTests := true, laidLooks := .later }
def SolveShiftsCardSaid : Prop := Claim7.holds Tryz.pinned (.plain (OpenSpec.ofChange solveShiftsSpec)) solveShiftsCard

/-- THE TIED CARD OF 'ephemeriskeep1.SolveCounts'. -/
def solveCountsCard : Claim7 := { stood := { row := solveCountsRow, standIns := [], harness := (true, "8e870f323e2bb544c2b2337dc28c8236bf45160273b8386be94aec795217050c"), looks := true }, kinds := [], alts := [], laidByText := true, laidKinds := [.data, .data, .data, .data, .sentinel, .sentinel, .data, .data, .pinned], laidTests := true, laidLooks := .later }
def SolveCountsCardSaid : Prop := Claim7.holds Tryz.pinned (.plain (OpenSpec.ofChange solveCountsSpec)) solveCountsCard

/-- THE TIED CARD OF 'ephemeriskeep1.SolveMonths'. -/
def solveMonthsCard : Claim7 := { stood := { row := solveMonthsRow, standIns := [], harness := (true, "8e870f323e2bb544c2b2337dc28c8236bf45160273b8386be94aec795217050c"), looks := true }, kinds := [], alts := [], laidByText := true, laidKinds := [.data, .data, .data, .data, .sentinel, .sentinel, .data, .data, .pinned], laidTests := true, laidLooks := .later }
def SolveMonthsCardSaid : Prop := Claim7.holds Tryz.pinned (.plain (OpenSpec.ofChange solveMonthsSpec)) solveMonthsCard

/-- THE TIED CARD OF 'ephemeriskeep1.TermsBack'. -/
def termsBackCard : Claim7 := { stood := { row := termsBackRow, standIns := [], harness := (true, "8e870f323e2bb544c2b2337dc28c8236bf45160273b8386be94aec795217050c"), looks := true }, kinds := [], alts := [], laidByText := true, laidKinds := [.data, .data, .data, .data, .sentinel, .sentinel, .data, .data, .pinned], laidTests := true, laidLooks := .later }
def TermsBackCardSaid : Prop := Claim7.holds Tryz.pinned (.plain (OpenSpec.ofChange termsBackSpec)) termsBackCard

/-- THE TIED CARD OF 'ephemeriskeep1.TermsEnd'. -/
def termsEndCard : Claim7 := { stood := { row := termsEndRow, standIns := [], harness := (true, "8e870f323e2bb544c2b2337dc28c8236bf45160273b8386be94aec795217050c"), looks := true }, kinds := [], alts := [], laidByText := true, laidKinds := [.data, .data, .data, .data, .sentinel, .sentinel, .data, .data, .pinned], laidTests := true, laidLooks := .later }
def TermsEndCardSaid : Prop := Claim7.holds Tryz.pinned (.plain (OpenSpec.ofChange termsEndSpec)) termsEndCard

/-- THE TIED CARD OF 'ephemeriskeep1.PeriodRepeats'. -/
def periodRepeatsCard : Claim7 := { stood := { row := periodRepeatsRow, standIns := [], harness := (true, "8e870f323e2bb544c2b2337dc28c8236bf45160273b8386be94aec795217050c"), looks := true }, kinds := [], alts := [], laidByText := true, laidKinds := [.data, .data, .data, .data, .sentinel, .sentinel, .data, .data, .pinned], laidTests := true, laidLooks := .later }
def PeriodRepeatsCardSaid : Prop := Claim7.holds Tryz.pinned (.plain (OpenSpec.ofChange periodRepeatsSpec)) periodRepeatsCard

/-- THE SECOND FORM's CARD OF 'ephemeriskeep1.SpanBack'. -/
def spanBackUptoCard : Claim7 := { stood := { row := spanBackUptoRow, standIns := [], harness := (true, "8e870f323e2bb544c2b2337dc28c8236bf45160273b8386be94aec795217050c"), looks := true }, kinds := [], alts := [], laidByText := true, laidKinds := [.data, .data, .data, .data, .sentinel, .sentinel, .data, .data, .pinned], laidTests := true, laidLooks := .later }
def SpanBackUptoCardSaid : Prop := Claim7.holds Tryz.pinned (.plain (OpenSpec.upto spanBackSpec)) spanBackUptoCard

/-- THE SECOND FORM's CARD OF 'ephemeriskeep1.FeastBack'. -/
def feastBackUptoCard : Claim7 := { stood := { row := feastBackUptoRow, standIns := [], harness := (true, "8e870f323e2bb544c2b2337dc28c8236bf45160273b8386be94aec795217050c"), looks := true }, kinds := [], alts := [], laidByText := true, laidKinds := [.data, .data, .data, .data, .sentinel, .sentinel, .data, .data, .pinned], laidTests := true, laidLooks := .later }
def FeastBackUptoCardSaid : Prop := Claim7.holds Tryz.pinned (.plain (OpenSpec.upto feastBackSpec)) feastBackUptoCard

/-- THE SECOND FORM's CARD OF 'ephemeriskeep1.FeastBlanks'. -/
def feastBlanksUptoCard : Claim7 := { stood := { row := feastBlanksUptoRow, standIns := [], harness := (true, "8e870f323e2bb544c2b2337dc28c8236bf45160273b8386be94aec795217050c"), looks := true }, kinds := [], alts := [], laidByText := true, laidKinds := [.data, .data, .data, .data, .sentinel, .sentinel, .data, .data, .pinned], laidTests := true, laidLooks := .later }
def FeastBlanksUptoCardSaid : Prop := Claim7.holds Tryz.pinned (.plain (OpenSpec.upto feastBlanksSpec)) feastBlanksUptoCard

/-- THE SECOND FORM's CARD OF 'ephemeriskeep1.SpanSteps'. -/
def spanStepsUptoCard : Claim7 := { stood := { row := spanStepsUptoRow, standIns := [], harness := (true, "8e870f323e2bb544c2b2337dc28c8236bf45160273b8386be94aec795217050c"), looks := true }, kinds := [], alts := [], laidByText := true, laidKinds := [.data, .data, .data, .data, .sentinel, .sentinel, .data, .data, .pinned], laidTests := true, laidLooks := .later }
def SpanStepsUptoCardSaid : Prop := Claim7.holds Tryz.pinned (.plain (OpenSpec.upto spanStepsSpec)) spanStepsUptoCard

/-- THE SECOND FORM's CARD OF 'ephemeristop.TopSpans'. -/
def topSpansUptoCard : Claim7 := { stood := { row := topSpansUptoRow, standIns := [], harness := (true, "8e870f323e2bb544c2b2337dc28c8236bf45160273b8386be94aec795217050c"), looks := true }, kinds := [], alts := [], laidByText := true, laidKinds := [.data, .data, .data, .data, .sentinel, .sentinel, .data, .data, .pinned], laidTests := true, laidLooks := .later }
def TopSpansUptoCardSaid : Prop := Claim7.holds Tryz.pinned (.plain (OpenSpec.upto topSpansSpec)) topSpansUptoCard

/-- THE SECOND FORM's CARD OF 'ephemeriskeep1.SolveAlgebra'. -/
def solveAlgebraUptoCard : Claim7 := { stood := { row := solveAlgebraUptoRow, standIns := [], harness := (true, "8e870f323e2bb544c2b2337dc28c8236bf45160273b8386be94aec795217050c"), looks := true }, kinds := [], alts := [], laidByText := true, laidKinds := [.data, .data, .data, .data, .sentinel, .sentinel, .data, .data, .pinned], laidTests := true, laidLooks := .later }
def SolveAlgebraUptoCardSaid : Prop := Claim7.holds Tryz.pinned (.plain (OpenSpec.upto solveAlgebraSpec)) solveAlgebraUptoCard

/-- THE SECOND FORM's CARD OF 'ephemeriskeep1.SolveShifts'. -/
def solveShiftsUptoCard : Claim7 := { stood := { row := solveShiftsUptoRow, standIns := [], harness := (true, "8e870f323e2bb544c2b2337dc28c8236bf45160273b8386be94aec795217050c"), looks := true }, kinds := [], alts := [], laidByText := true, laidKinds := [.data, .data, .data, .data, .sentinel, .sentinel, .data, .data, .pinned], laidTests := true, laidLooks := .later }
def SolveShiftsUptoCardSaid : Prop := Claim7.holds Tryz.pinned (.plain (OpenSpec.upto solveShiftsSpec)) solveShiftsUptoCard

/-- THE SECOND FORM's CARD OF 'ephemeriskeep1.SolveCounts'. -/
def solveCountsUptoCard : Claim7 := { stood := { row := solveCountsUptoRow, standIns := [], harness := (true, "8e870f323e2bb544c2b2337dc28c8236bf45160273b8386be94aec795217050c"), looks := true }, kinds := [], alts := [], laidByText := true, laidKinds := [.data, .data, .data, .data, .sentinel, .sentinel, .data, .data, .pinned], laidTests := true, laidLooks := .later }
def SolveCountsUptoCardSaid : Prop := Claim7.holds Tryz.pinned (.plain (OpenSpec.upto solveCountsSpec)) solveCountsUptoCard

/-- THE SECOND FORM's CARD OF 'ephemeriskeep1.SolveMonths'. -/
def solveMonthsUptoCard : Claim7 := { stood := { row := solveMonthsUptoRow, standIns := [], harness := (true, "8e870f323e2bb544c2b2337dc28c8236bf45160273b8386be94aec795217050c"), looks := true }, kinds := [], alts := [], laidByText := true, laidKinds := [.data, .data, .data, .data, .sentinel, .sentinel, .data, .data, .pinned], laidTests := true, laidLooks := .later }
def SolveMonthsUptoCardSaid : Prop := Claim7.holds Tryz.pinned (.plain (OpenSpec.upto solveMonthsSpec)) solveMonthsUptoCard

/-- THE SECOND FORM's CARD OF 'ephemeriskeep1.TermsBack'. -/
def termsBackUptoCard : Claim7 := { stood := { row := termsBackUptoRow, standIns := [], harness := (true, "8e870f323e2bb544c2b2337dc28c8236bf45160273b8386be94aec795217050c"), looks := true }, kinds := [], alts := [], laidByText := true, laidKinds := [.data, .data, .data, .data, .sentinel, .sentinel, .data, .data, .pinned], laidTests := true, laidLooks := .later }
def TermsBackUptoCardSaid : Prop := Claim7.holds Tryz.pinned (.plain (OpenSpec.upto termsBackSpec)) termsBackUptoCard

/-- THE SECOND FORM's CARD OF 'ephemeriskeep1.TermsEnd'. -/
def termsEndUptoCard : Claim7 := { stood := { row := termsEndUptoRow, standIns := [], harness := (true, "8e870f323e2bb544c2b2337dc28c8236bf45160273b8386be94aec795217050c"), looks := true }, kinds := [], alts := [], laidByText := true, laidKinds := [.data, .data, .data, .data, .sentinel, .sentinel, .data, .data, .pinned], laidTests := true, laidLooks := .later }
def TermsEndUptoCardSaid : Prop := Claim7.holds Tryz.pinned (.plain (OpenSpec.upto termsEndSpec)) termsEndUptoCard

/-- THE SECOND FORM's CARD OF 'ephemeriskeep1.PeriodRepeats'. -/
def periodRepeatsUptoCard : Claim7 := { stood := { row := periodRepeatsUptoRow, standIns := [], harness := (true, "8e870f323e2bb544c2b2337dc28c8236bf45160273b8386be94aec795217050c"), looks := true }, kinds := [], alts := [], laidByText := true, laidKinds := [.data, .data, .data, .data, .sentinel, .sentinel, .data, .data, .pinned], laidTests := true, laidLooks := .later }
def PeriodRepeatsUptoCardSaid : Prop := Claim7.holds Tryz.pinned (.plain (OpenSpec.upto periodRepeatsSpec)) periodRepeatsUptoCard
end Rows
end Go.Proofs.YteebjkcpniddiaaGreatDoor
