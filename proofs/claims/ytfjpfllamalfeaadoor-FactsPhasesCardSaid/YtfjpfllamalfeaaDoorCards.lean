/-
  DERIVED. GIVEN WITH THE SEED: THE CARDS: each row of YtfjpfllamalfeaaDoorRows.lean that lists a variable, with what it lists TIED to the program's text (the seventh form; the later family's looks); each row that meets fmt, with fmt's text TOLD by the authors' own Lean function (tested against real Go, not proved from fmt's source: count such statements apart). THE CARD IS WHAT COUNTS. Prove the row's statement (the work); the ties are given (YtfjpfllamalfeaaDoorTie.lean); close each card by the builder's one call (the guide's Derived/Test/ToyasCard.lean, 'card_holds'). Laid BY PROGRAM, IN A SANDBOX (cutbox-door.mjs). By AI agents, Wed Nov 11 2026. No macro, syntax, notation, axiom, sorry.
-/
import Derived.Test.YtfjpfllamalfeaaDoorRows
import GoSem.ClaimSeven
namespace Go.Proofs.YtfjpfllamalfeaaDoor
namespace Rows

/-- THE TIED CARD OF 'ephemeriskeep1.FactsPhases'. -/
def factsPhasesCard : Claim7 := { stood := { row := factsPhasesRow, standIns := [], harness := (true, "e98f36543594c481aafa1defe0649aea007b4d81821641f6a6d48a90504adc6d"), looks := false }, kinds := [], alts := [], laidByText := true, laidKinds := [.data, .data, .data], laidTests := true, laidLooks := .later }
def FactsPhasesCardSaid : Prop := Claim7.holds Tryd.pinned (.plain (OpenSpec.ofChange factsPhasesSpec)) factsPhasesCard

/-- THE SECOND FORM's CARD OF 'ephemeriskeep1.FactsPhases'. -/
def factsPhasesUptoCard : Claim7 := { stood := { row := factsPhasesUptoRow, standIns := [], harness := (true, "e98f36543594c481aafa1defe0649aea007b4d81821641f6a6d48a90504adc6d"), looks := false }, kinds := [], alts := [], laidByText := true, laidKinds := [.data, .data, .data], laidTests := true, laidLooks := .later }
def FactsPhasesUptoCardSaid : Prop := Claim7.holds Tryd.pinned (.plain (OpenSpec.upto factsPhasesSpec)) factsPhasesUptoCard
end Rows
end Go.Proofs.YtfjpfllamalfeaaDoor
