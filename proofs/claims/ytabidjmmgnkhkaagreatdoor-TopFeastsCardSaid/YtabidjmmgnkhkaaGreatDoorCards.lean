/-
  DERIVED. GIVEN WITH THE SEED: THE CARDS: each row of YtabidjmmgnkhkaaGreatDoorRows.lean that lists a variable, with what it lists TIED to the program's text (the seventh form; the later family's looks); each row that meets fmt, with fmt's text TOLD by the authors' own Lean function (tested against real Go, not proved from fmt's source: count such statements apart). THE CARD IS WHAT COUNTS. Prove the row's statement (the work); the ties are given (YtabidjmmgnkhkaaGreatDoorTie.lean); close each card by the builder's one call (the guide's Derived/Test/ToyasCard.lean, 'card_holds'). Laid BY PROGRAM, IN A SANDBOX (cutbox-door.mjs). By AI agents, Wed Nov 11 2026. No macro, syntax, notation, axiom, sorry.
-/
import Derived.Test.YtabidjmmgnkhkaaGreatDoorRows
import GoSem.ClaimSeven
namespace Go.Proofs.YtabidjmmgnkhkaaGreatDoor
namespace Rows

/-- THE TIED CARD OF 'ephemeriskeep1.PlanBest'. -/
def planBestCard : Claim7 := { stood := { row := planBestRow, standIns := [], harness := (true, "30ecaf554f09347abfa6449231ddf15263945cfb66920106b38c421b3207942c"), looks := true }, kinds := [], alts := [], laidByText := true, laidKinds := [.data, .data, .data, .data, .sentinel, .sentinel, .data, .data, .pinned], laidTests := true, laidLooks := .later }
def PlanBestCardSaid : Prop := Claim7.holds Tryz.pinned (.plain (OpenSpec.ofChange planBestSpec)) planBestCard

/-- THE TIED CARD OF 'ephemeristop.TopPlan'. -/
def topPlanCard : Claim7 := { stood := { row := topPlanRow, standIns := [], harness := (true, "30ecaf554f09347abfa6449231ddf15263945cfb66920106b38c421b3207942c"), looks := true }, kinds := [], alts := [], laidByText := true, laidKinds := [.data, .data, .data, .data, .sentinel, .sentinel, .data, .data, .pinned], laidTests := true, laidLooks := .later }
def TopPlanCardSaid : Prop := Claim7.holds Tryz.pinned (.plain (OpenSpec.ofChange topPlanSpec)) topPlanCard

/-- THE TIED CARD OF 'ephemeriskeep1.FeastBack'. -/
def feastBackCard : Claim7 := { stood := { row := feastBackRow, standIns := [], harness := (true, "30ecaf554f09347abfa6449231ddf15263945cfb66920106b38c421b3207942c"), looks := true }, kinds := [], alts := [], laidByText := true, laidKinds := [.data, .data, .data, .data, .sentinel, .sentinel, .data, .data, .pinned], laidTests := true, laidLooks := .later }
def FeastBackCardSaid : Prop := Claim7.holds Tryz.pinned (.plain (OpenSpec.ofChange feastBackSpec)) feastBackCard

/-- THE TIED CARD OF 'ephemeriskeep1.FeastBlanks'. -/
def feastBlanksCard : Claim7 := { stood := { row := feastBlanksRow, standIns := [], harness := (true, "30ecaf554f09347abfa6449231ddf15263945cfb66920106b38c421b3207942c"), looks := true }, kinds := [], alts := [], laidByText := true, laidKinds := [.data, .data, .data, .data, .sentinel, .sentinel, .data, .data, .pinned], laidTests := true, laidLooks := .later }
def FeastBlanksCardSaid : Prop := Claim7.holds Tryz.pinned (.plain (OpenSpec.ofChange feastBlanksSpec)) feastBlanksCard

/-- THE TIED CARD OF 'ephemeristop.TopFeasts'. -/
def topFeastsCard : Claim7 := { stood := { row := topFeastsRow, standIns := [], harness := (true, "30ecaf554f09347abfa6449231ddf15263945cfb66920106b38c421b3207942c"), looks := true }, kinds := [], alts := [], laidByText := true, laidKinds := [.data, .data, .data, .data, .sentinel, .sentinel, .data, .data, .pinned], laidTests := true, laidLooks := .later }
def TopFeastsCardSaid : Prop := Claim7.holds Tryz.pinned (.plain (OpenSpec.ofChange topFeastsSpec)) topFeastsCard

/-- THE SECOND FORM's CARD OF 'ephemeriskeep1.PlanBest'. -/
def planBestUptoCard : Claim7 := { stood := { row := planBestUptoRow, standIns := [], harness := (true, "30ecaf554f09347abfa6449231ddf15263945cfb66920106b38c421b3207942c"), looks := true }, kinds := [], alts := [], laidByText := true, laidKinds := [.data, .data, .data, .data, .sentinel, .sentinel, .data, .data, .pinned], laidTests := true, laidLooks := .later }
def PlanBestUptoCardSaid : Prop := Claim7.holds Tryz.pinned (.plain (OpenSpec.upto planBestSpec)) planBestUptoCard

/-- THE SECOND FORM's CARD OF 'ephemeristop.TopPlan'. -/
def topPlanUptoCard : Claim7 := { stood := { row := topPlanUptoRow, standIns := [], harness := (true, "30ecaf554f09347abfa6449231ddf15263945cfb66920106b38c421b3207942c"), looks := true }, kinds := [], alts := [], laidByText := true, laidKinds := [.data, .data, .data, .data, .sentinel, .sentinel, .data, .data, .pinned], laidTests := true, laidLooks := .later }
def TopPlanUptoCardSaid : Prop := Claim7.holds Tryz.pinned (.plain (OpenSpec.upto topPlanSpec)) topPlanUptoCard

/-- THE SECOND FORM's CARD OF 'ephemeriskeep1.FeastBack'. -/
def feastBackUptoCard : Claim7 := { stood := { row := feastBackUptoRow, standIns := [], harness := (true, "30ecaf554f09347abfa6449231ddf15263945cfb66920106b38c421b3207942c"), looks := true }, kinds := [], alts := [], laidByText := true, laidKinds := [.data, .data, .data, .data, .sentinel, .sentinel, .data, .data, .pinned], laidTests := true, laidLooks := .later }
def FeastBackUptoCardSaid : Prop := Claim7.holds Tryz.pinned (.plain (OpenSpec.upto feastBackSpec)) feastBackUptoCard

/-- THE SECOND FORM's CARD OF 'ephemeriskeep1.FeastBlanks'. -/
def feastBlanksUptoCard : Claim7 := { stood := { row := feastBlanksUptoRow, standIns := [], harness := (true, "30ecaf554f09347abfa6449231ddf15263945cfb66920106b38c421b3207942c"), looks := true }, kinds := [], alts := [], laidByText := true, laidKinds := [.data, .data, .data, .data, .sentinel, .sentinel, .data, .data, .pinned], laidTests := true, laidLooks := .later }
def FeastBlanksUptoCardSaid : Prop := Claim7.holds Tryz.pinned (.plain (OpenSpec.upto feastBlanksSpec)) feastBlanksUptoCard

/-- THE SECOND FORM's CARD OF 'ephemeristop.TopFeasts'. -/
def topFeastsUptoCard : Claim7 := { stood := { row := topFeastsUptoRow, standIns := [], harness := (true, "30ecaf554f09347abfa6449231ddf15263945cfb66920106b38c421b3207942c"), looks := true }, kinds := [], alts := [], laidByText := true, laidKinds := [.data, .data, .data, .data, .sentinel, .sentinel, .data, .data, .pinned], laidTests := true, laidLooks := .later }
def TopFeastsUptoCardSaid : Prop := Claim7.holds Tryz.pinned (.plain (OpenSpec.upto topFeastsSpec)) topFeastsUptoCard
end Rows
end Go.Proofs.YtabidjmmgnkhkaaGreatDoor
