/-
  DERIVED. GIVEN WITH THE SEED: THE CARDS: each row of YtjaahiphjekfgaaGreatDoorRows.lean that lists a variable, with what it lists TIED to the program's text (the seventh form; the later family's looks); each row that meets fmt, with fmt's text TOLD by the authors' own Lean function (tested against real Go, not proved from fmt's source: count such statements apart). THE CARD IS WHAT COUNTS. Prove the row's statement (the work); the ties are given (YtjaahiphjekfgaaGreatDoorTie.lean); close each card by the builder's one call (the guide's Derived/Test/ToyasCard.lean, 'card_holds'). Laid BY PROGRAM, IN A SANDBOX (cutbox-door.mjs). By AI agents, Wed Nov 11 2026. No macro, syntax, notation, axiom, sorry.
-/
import Derived.Test.YtjaahiphjekfgaaGreatDoorRows
import GoSem.ClaimSeven
namespace Go.Proofs.YtjaahiphjekfgaaGreatDoor
namespace Rows

/-- THE TIED CARD OF 'ephemeriskeep1.SolveAlgebra'. -/
def solveAlgebraCard : Claim7 := { stood := { row := solveAlgebraRow, standIns := [], harness := (true, "138879a52ce06b9b6cdfb554ddf4e778943ea4bfd131924e43ae1f62b8487a7f"), looks := true }, kinds := [], alts := [], laidByText := true, laidKinds := [.data, .data, .data, .data, .sentinel, .sentinel, .data, .data, .pinned], laidTests := true, laidLooks := .later }
def SolveAlgebraCardSaid : Prop := Claim7.holds Tryz.pinned (.plain (OpenSpec.ofChange solveAlgebraSpec)) solveAlgebraCard

/-- THE TIED CARD OF 'ephemeriskeep1.SolveShifts'. -/
def solveShiftsCard : Claim7 := { stood := { row := solveShiftsRow, standIns := [], harness := (true, "138879a52ce06b9b6cdfb554ddf4e778943ea4bfd131924e43ae1f62b8487a7f"), looks := true }, kinds := [], alts := [], laidByText := true, laidKinds := [.data, .data, .data, .data, .sentinel, .sentinel, .data, .data, .pinned], laidTests := true, laidLooks := .later }
def SolveShiftsCardSaid : Prop := Claim7.holds Tryz.pinned (.plain (OpenSpec.ofChange solveShiftsSpec)) solveShiftsCard

/-- THE TIED CARD OF 'ephemeriskeep1.SolveCounts'. -/
def solveCountsCard : Claim7 := { stood := { row := solveCountsRow, standIns := [], harness := (true, "138879a52ce06b9b6cdfb554ddf4e778943ea4bfd131924e43ae1f62b8487a7f"), looks := true }, kinds := [], alts := [], laidByText := true, laidKinds := [.data, .data, .data, .data, .sentinel, .sentinel, .data, .data, .pinned], laidTests := true, laidLooks := .later }
def SolveCountsCardSaid : Prop := Claim7.holds Tryz.pinned (.plain (OpenSpec.ofChange solveCountsSpec)) solveCountsCard

/-- THE TIED CARD OF 'ephemeriskeep1.SolveMonths'. -/
def solveMonthsCard : Claim7 := { stood := { row := solveMonthsRow, standIns := [], harness := (true, "138879a52ce06b9b6cdfb554ddf4e778943ea4bfd131924e43ae1f62b8487a7f"), looks := true }, kinds := [], alts := [], laidByText := true, laidKinds := [.data, .data, .data, .data, .sentinel, .sentinel, .data, .data, .pinned], laidTests := true, laidLooks := .later }
def SolveMonthsCardSaid : Prop := Claim7.holds Tryz.pinned (.plain (OpenSpec.ofChange solveMonthsSpec)) solveMonthsCard

/-- THE TIED CARD OF 'ephemeriskeep1.PeriodRepeats'. -/
def periodRepeatsCard : Claim7 := { stood := { row := periodRepeatsRow, standIns := [], harness := (true, "138879a52ce06b9b6cdfb554ddf4e778943ea4bfd131924e43ae1f62b8487a7f"), looks := true }, kinds := [], alts := [], laidByText := true, laidKinds := [.data, .data, .data, .data, .sentinel, .sentinel, .data, .data, .pinned], laidTests := true, laidLooks := .later }
def PeriodRepeatsCardSaid : Prop := Claim7.holds Tryz.pinned (.plain (OpenSpec.ofChange periodRepeatsSpec)) periodRepeatsCard

/-- THE SECOND FORM's CARD OF 'ephemeriskeep1.SolveAlgebra'. -/
def solveAlgebraUptoCard : Claim7 := { stood := { row := solveAlgebraUptoRow, standIns := [], harness := (true, "138879a52ce06b9b6cdfb554ddf4e778943ea4bfd131924e43ae1f62b8487a7f"), looks := true }, kinds := [], alts := [], laidByText := true, laidKinds := [.data, .data, .data, .data, .sentinel, .sentinel, .data, .data, .pinned], laidTests := true, laidLooks := .later }
def SolveAlgebraUptoCardSaid : Prop := Claim7.holds Tryz.pinned (.plain (OpenSpec.upto solveAlgebraSpec)) solveAlgebraUptoCard

/-- THE SECOND FORM's CARD OF 'ephemeriskeep1.SolveShifts'. -/
def solveShiftsUptoCard : Claim7 := { stood := { row := solveShiftsUptoRow, standIns := [], harness := (true, "138879a52ce06b9b6cdfb554ddf4e778943ea4bfd131924e43ae1f62b8487a7f"), looks := true }, kinds := [], alts := [], laidByText := true, laidKinds := [.data, .data, .data, .data, .sentinel, .sentinel, .data, .data, .pinned], laidTests := true, laidLooks := .later }
def SolveShiftsUptoCardSaid : Prop := Claim7.holds Tryz.pinned (.plain (OpenSpec.upto solveShiftsSpec)) solveShiftsUptoCard

/-- THE SECOND FORM's CARD OF 'ephemeriskeep1.SolveCounts'. -/
def solveCountsUptoCard : Claim7 := { stood := { row := solveCountsUptoRow, standIns := [], harness := (true, "138879a52ce06b9b6cdfb554ddf4e778943ea4bfd131924e43ae1f62b8487a7f"), looks := true }, kinds := [], alts := [], laidByText := true, laidKinds := [.data, .data, .data, .data, .sentinel, .sentinel, .data, .data, .pinned], laidTests := true, laidLooks := .later }
def SolveCountsUptoCardSaid : Prop := Claim7.holds Tryz.pinned (.plain (OpenSpec.upto solveCountsSpec)) solveCountsUptoCard

/-- THE SECOND FORM's CARD OF 'ephemeriskeep1.SolveMonths'. -/
def solveMonthsUptoCard : Claim7 := { stood := { row := solveMonthsUptoRow, standIns := [], harness := (true, "138879a52ce06b9b6cdfb554ddf4e778943ea4bfd131924e43ae1f62b8487a7f"), looks := true }, kinds := [], alts := [], laidByText := true, laidKinds := [.data, .data, .data, .data, .sentinel, .sentinel, .data, .data, .pinned], laidTests := true, laidLooks := .later }
def SolveMonthsUptoCardSaid : Prop := Claim7.holds Tryz.pinned (.plain (OpenSpec.upto solveMonthsSpec)) solveMonthsUptoCard

/-- THE SECOND FORM's CARD OF 'ephemeriskeep1.PeriodRepeats'. -/
def periodRepeatsUptoCard : Claim7 := { stood := { row := periodRepeatsUptoRow, standIns := [], harness := (true, "138879a52ce06b9b6cdfb554ddf4e778943ea4bfd131924e43ae1f62b8487a7f"), looks := true }, kinds := [], alts := [], laidByText := true, laidKinds := [.data, .data, .data, .data, .sentinel, .sentinel, .data, .data, .pinned], laidTests := true, laidLooks := .later }
def PeriodRepeatsUptoCardSaid : Prop := Claim7.holds Tryz.pinned (.plain (OpenSpec.upto periodRepeatsSpec)) periodRepeatsUptoCard
end Rows
end Go.Proofs.YtjaahiphjekfgaaGreatDoor
