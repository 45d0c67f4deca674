/-
  DERIVED. GIVEN WITH THE SEED: THE CARDS: each row of YtoaflcnphijhpaaGreatDoorRows.lean that lists a variable, with what it lists TIED to the program's text (the seventh form; the later family's looks); each row that meets fmt, with fmt's text TOLD by the authors' own Lean function (tested against real Go, not proved from fmt's source: count such statements apart). THE CARD IS WHAT COUNTS. Prove the row's statement (the work); the ties are given (YtoaflcnphijhpaaGreatDoorTie.lean); close each card by the builder's one call (the guide's Derived/Test/ToyasCard.lean, 'card_holds'). Laid BY PROGRAM, IN A SANDBOX (cutbox-door.mjs). By AI agents, Wed Nov 11 2026. No macro, syntax, notation, axiom, sorry.
-/
import Derived.Test.YtoaflcnphijhpaaGreatDoorRows
import GoSem.ClaimSeven
namespace Go.Proofs.YtoaflcnphijhpaaGreatDoor
namespace Rows

/-- THE TIED CARD OF 'ephemeriskeep1.TermsBack'. -/
def termsBackCard : Claim7 := { stood := { row := termsBackRow, standIns := [], harness := (true, "2f903d527628df3e51b6712bbe6dd327e560a5faa005e0e370017b7a488f9f53"), looks := true }, kinds := [], alts := [], laidByText := true, laidKinds := [.data, .data, .data, .data, .sentinel, .sentinel, .data, .data, .pinned], laidTests := true, laidLooks := .later }
def TermsBackCardSaid : Prop := Claim7.holds Tryz.pinned (.plain (OpenSpec.ofChange termsBackSpec)) termsBackCard

/-- THE TIED CARD OF 'ephemeriskeep1.TermsEnd'. -/
def termsEndCard : Claim7 := { stood := { row := termsEndRow, standIns := [], harness := (true, "2f903d527628df3e51b6712bbe6dd327e560a5faa005e0e370017b7a488f9f53"), looks := true }, kinds := [], alts := [], laidByText := true, laidKinds := [.data, .data, .data, .data, .sentinel, .sentinel, .data, .data, .pinned], laidTests := true, laidLooks := .later }
def TermsEndCardSaid : Prop := Claim7.holds Tryz.pinned (.plain (OpenSpec.ofChange termsEndSpec)) termsEndCard

/-- THE TIED CARD OF 'ephemeristop.TopTerms'. -/
def topTermsCard : Claim7 := { stood := { row := topTermsRow, standIns := [], harness := (true, "2f903d527628df3e51b6712bbe6dd327e560a5faa005e0e370017b7a488f9f53"), looks := true }, kinds := [], alts := [], laidByText := true, laidKinds := [.data, .data, .data, .data, .sentinel, .sentinel, .data, .data, .pinned], laidTests := true, laidLooks := .later }
def TopTermsCardSaid : Prop := Claim7.holds Tryz.pinned (.plain (OpenSpec.ofChange topTermsSpec)) topTermsCard

/-- THE TIED CARD OF 'ephemeriskeep1.HoursSplits'. -/
def hoursSplitsCard : Claim7 := { stood := { row := hoursSplitsRow, standIns := [], harness := (true, "2f903d527628df3e51b6712bbe6dd327e560a5faa005e0e370017b7a488f9f53"), looks := true }, kinds := [], alts := [], laidByText := true, laidKinds := [.data, .data, .data, .data, .sentinel, .sentinel, .data, .data, .pinned], laidTests := true, laidLooks := .later }
def HoursSplitsCardSaid : Prop := Claim7.holds Tryz.pinned (.plain (OpenSpec.ofChange hoursSplitsSpec)) hoursSplitsCard

/-- THE TIED CARD OF 'ephemeriskeep1.HoursAgree'. -/
def hoursAgreeCard : Claim7 := { stood := { row := hoursAgreeRow, standIns := [], harness := (true, "2f903d527628df3e51b6712bbe6dd327e560a5faa005e0e370017b7a488f9f53"), looks := true }, kinds := [], alts := [], laidByText := true, laidKinds := [.data, .data, .data, .data, .sentinel, .sentinel, .data, .data, .pinned], laidTests := true, laidLooks := .later }
def HoursAgreeCardSaid : Prop := Claim7.holds Tryz.pinned (.plain (OpenSpec.ofChange hoursAgreeSpec)) hoursAgreeCard

/-- THE TIED CARD OF 'ephemeriskeep1.PlanBest'. -/
def planBestCard : Claim7 := { stood := { row := planBestRow, standIns := [], harness := (true, "2f903d527628df3e51b6712bbe6dd327e560a5faa005e0e370017b7a488f9f53"), looks := true }, kinds := [], alts := [], laidByText := true, laidKinds := [.data, .data, .data, .data, .sentinel, .sentinel, .data, .data, .pinned], laidTests := true, laidLooks := .later }
def PlanBestCardSaid : Prop := Claim7.holds Tryz.pinned (.plain (OpenSpec.ofChange planBestSpec)) planBestCard

/-- THE TIED CARD OF 'ephemeristop.TopPlan'. -/
def topPlanCard : Claim7 := { stood := { row := topPlanRow, standIns := [], harness := (true, "2f903d527628df3e51b6712bbe6dd327e560a5faa005e0e370017b7a488f9f53"), looks := true }, kinds := [], alts := [], laidByText := true, laidKinds := [.data, .data, .data, .data, .sentinel, .sentinel, .data, .data, .pinned], laidTests := true, laidLooks := .later }
def TopPlanCardSaid : Prop := Claim7.holds Tryz.pinned (.plain (OpenSpec.ofChange topPlanSpec)) topPlanCard

/-- THE TIED CARD OF 'ephemeriskeep1.FeastBack'. -/
def feastBackCard : Claim7 := { stood := { row := feastBackRow, standIns := [], harness := (true, "2f903d527628df3e51b6712bbe6dd327e560a5faa005e0e370017b7a488f9f53"), looks := true }, kinds := [], alts := [], laidByText := true, laidKinds := [.data, .data, .data, .data, .sentinel, .sentinel, .data, .data, .pinned], laidTests := true, laidLooks := .later }
def FeastBackCardSaid : Prop := Claim7.holds Tryz.pinned (.plain (OpenSpec.ofChange feastBackSpec)) feastBackCard

/-- THE TIED CARD OF 'ephemeriskeep1.FeastBlanks'. -/
def feastBlanksCard : Claim7 := { stood := { row := feastBlanksRow, standIns := [], harness := (true, "2f903d527628df3e51b6712bbe6dd327e560a5faa005e0e370017b7a488f9f53"), looks := true }, kinds := [], alts := [], laidByText := true, laidKinds := [.data, .data, .data, .data, .sentinel, .sentinel, .data, .data, .pinned], laidTests := true, laidLooks := .later }
def FeastBlanksCardSaid : Prop := Claim7.holds Tryz.pinned (.plain (OpenSpec.ofChange feastBlanksSpec)) feastBlanksCard

/-- THE TIED CARD OF 'ephemeristop.TopFeasts'. -/
def topFeastsCard : Claim7 := { stood := { row := topFeastsRow, standIns := [], harness := (true, "2f903d527628df3e51b6712bbe6dd327e560a5faa005e0e370017b7a488f9f53"), looks := true }, kinds := [], alts := [], laidByText := true, laidKinds := [.data, .data, .data, .data, .sentinel, .sentinel, .data, .data, .pinned], laidTests := true, laidLooks := .later }
def TopFeastsCardSaid : Prop := Claim7.holds Tryz.pinned (.plain (OpenSpec.ofChange topFeastsSpec)) topFeastsCard

/-- THE SECOND FORM's CARD OF 'ephemeriskeep1.TermsBack'. -/
def termsBackUptoCard : Claim7 := { stood := { row := termsBackUptoRow, standIns := [], harness := (true, "2f903d527628df3e51b6712bbe6dd327e560a5faa005e0e370017b7a488f9f53"), looks := true }, kinds := [], alts := [], laidByText := true, laidKinds := [.data, .data, .data, .data, .sentinel, .sentinel, .data, .data, .pinned], laidTests := true, laidLooks := .later }
def TermsBackUptoCardSaid : Prop := Claim7.holds Tryz.pinned (.plain (OpenSpec.upto termsBackSpec)) termsBackUptoCard

/-- THE SECOND FORM's CARD OF 'ephemeriskeep1.TermsEnd'. -/
def termsEndUptoCard : Claim7 := { stood := { row := termsEndUptoRow, standIns := [], harness := (true, "2f903d527628df3e51b6712bbe6dd327e560a5faa005e0e370017b7a488f9f53"), looks := true }, kinds := [], alts := [], laidByText := true, laidKinds := [.data, .data, .data, .data, .sentinel, .sentinel, .data, .data, .pinned], laidTests := true, laidLooks := .later }
def TermsEndUptoCardSaid : Prop := Claim7.holds Tryz.pinned (.plain (OpenSpec.upto termsEndSpec)) termsEndUptoCard

/-- THE SECOND FORM's CARD OF 'ephemeristop.TopTerms'. -/
def topTermsUptoCard : Claim7 := { stood := { row := topTermsUptoRow, standIns := [], harness := (true, "2f903d527628df3e51b6712bbe6dd327e560a5faa005e0e370017b7a488f9f53"), looks := true }, kinds := [], alts := [], laidByText := true, laidKinds := [.data, .data, .data, .data, .sentinel, .sentinel, .data, .data, .pinned], laidTests := true, laidLooks := .later }
def TopTermsUptoCardSaid : Prop := Claim7.holds Tryz.pinned (.plain (OpenSpec.upto topTermsSpec)) topTermsUptoCard

/-- THE SECOND FORM's CARD OF 'ephemeriskeep1.HoursSplits'. -/
def hoursSplitsUptoCard : Claim7 := { stood := { row := hoursSplitsUptoRow, standIns := [], harness := (true, "2f903d527628df3e51b6712bbe6dd327e560a5faa005e0e370017b7a488f9f53"), looks := true }, kinds := [], alts := [], laidByText := true, laidKinds := [.data, .data, .data, .data, .sentinel, .sentinel, .data, .data, .pinned], laidTests := true, laidLooks := .later }
def HoursSplitsUptoCardSaid : Prop := Claim7.holds Tryz.pinned (.plain (OpenSpec.upto hoursSplitsSpec)) hoursSplitsUptoCard

/-- THE SECOND FORM's CARD OF 'ephemeriskeep1.HoursAgree'. -/
def hoursAgreeUptoCard : Claim7 := { stood := { row := hoursAgreeUptoRow, standIns := [], harness := (true, "2f903d527628df3e51b6712bbe6dd327e560a5faa005e0e370017b7a488f9f53"), looks := true }, kinds := [], alts := [], laidByText := true, laidKinds := [.data, .data, .data, .data, .sentinel, .sentinel, .data, .data, .pinned], laidTests := true, laidLooks := .later }
def HoursAgreeUptoCardSaid : Prop := Claim7.holds Tryz.pinned (.plain (OpenSpec.upto hoursAgreeSpec)) hoursAgreeUptoCard

/-- THE SECOND FORM's CARD OF 'ephemeriskeep1.PlanBest'. -/
def planBestUptoCard : Claim7 := { stood := { row := planBestUptoRow, standIns := [], harness := (true, "2f903d527628df3e51b6712bbe6dd327e560a5faa005e0e370017b7a488f9f53"), looks := true }, kinds := [], alts := [], laidByText := true, laidKinds := [.data, .data, .data, .data, .sentinel, .sentinel, .data, .data, .pinned], laidTests := true, laidLooks := .later }
def PlanBestUptoCardSaid : Prop := Claim7.holds Tryz.pinned (.plain (OpenSpec.upto planBestSpec)) planBestUptoCard

/-- THE SECOND FORM's CARD OF 'ephemeristop.TopPlan'. -/
def topPlanUptoCard : Claim7 := { stood := { row := topPlanUptoRow, standIns := [], harness := (true, "2f903d527628df3e51b6712bbe6dd327e560a5faa005e0e370017b7a488f9f53"), looks := true }, kinds := [], alts := [], laidByText := true, laidKinds := [.data, .data, .data, .data, .sentinel, .sentinel, .data, .data, .pinned], laidTests := true, laidLooks := .later }
def TopPlanUptoCardSaid : Prop := Claim7.holds Tryz.pinned (.plain (OpenSpec.upto topPlanSpec)) topPlanUptoCard

/-- THE SECOND FORM's CARD OF 'ephemeriskeep1.FeastBack'. -/
def feastBackUptoCard : Claim7 := { stood := { row := feastBackUptoRow, standIns := [], harness := (true, "2f903d527628df3e51b6712bbe6dd327e560a5faa005e0e370017b7a488f9f53"), looks := true }, kinds := [], alts := [], laidByText := true, laidKinds := [.data, .data, .data, .data, .sentinel, .sentinel, .data, .data, .pinned], laidTests := true, laidLooks := .later }
def FeastBackUptoCardSaid : Prop := Claim7.holds Tryz.pinned (.plain (OpenSpec.upto feastBackSpec)) feastBackUptoCard

/-- THE SECOND FORM's CARD OF 'ephemeriskeep1.FeastBlanks'. -/
def feastBlanksUptoCard : Claim7 := { stood := { row := feastBlanksUptoRow, standIns := [], harness := (true, "2f903d527628df3e51b6712bbe6dd327e560a5faa005e0e370017b7a488f9f53"), looks := true }, kinds := [], alts := [], laidByText := true, laidKinds := [.data, .data, .data, .data, .sentinel, .sentinel, .data, .data, .pinned], laidTests := true, laidLooks := .later }
def FeastBlanksUptoCardSaid : Prop := Claim7.holds Tryz.pinned (.plain (OpenSpec.upto feastBlanksSpec)) feastBlanksUptoCard

/-- THE SECOND FORM's CARD OF 'ephemeristop.TopFeasts'. -/
def topFeastsUptoCard : Claim7 := { stood := { row := topFeastsUptoRow, standIns := [], harness := (true, "2f903d527628df3e51b6712bbe6dd327e560a5faa005e0e370017b7a488f9f53"), looks := true }, kinds := [], alts := [], laidByText := true, laidKinds := [.data, .data, .data, .data, .sentinel, .sentinel, .data, .data, .pinned], laidTests := true, laidLooks := .later }
def TopFeastsUptoCardSaid : Prop := Claim7.holds Tryz.pinned (.plain (OpenSpec.upto topFeastsSpec)) topFeastsUptoCard
end Rows
end Go.Proofs.YtoaflcnphijhpaaGreatDoor
