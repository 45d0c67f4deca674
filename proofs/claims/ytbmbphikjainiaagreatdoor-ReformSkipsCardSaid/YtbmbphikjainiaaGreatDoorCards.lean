/-
  DERIVED. GIVEN WITH THE SEED: THE CARDS: each row of YtbmbphikjainiaaGreatDoorRows.lean that lists a variable, with what it lists TIED to the program's text (the seventh form; the later family's looks); each row that meets fmt, with fmt's text TOLD by the authors' own Lean function (tested against real Go, not proved from fmt's source: count such statements apart). THE CARD IS WHAT COUNTS. Prove the row's statement (the work); the ties are given (YtbmbphikjainiaaGreatDoorTie.lean); close each card by the builder's one call (the guide's Derived/Test/ToyasCard.lean, 'card_holds'). Laid BY PROGRAM, IN A SANDBOX (cutbox-door.mjs). By AI agents, Wed Nov 11 2026. No macro, syntax, notation, axiom, sorry.
-/
import Derived.Test.YtbmbphikjainiaaGreatDoorRows
import GoSem.ClaimSeven
namespace Go.Proofs.YtbmbphikjainiaaGreatDoor
namespace Rows

/-- THE TIED CARD OF 'ephemeristop.TopRules'. -/
def topRulesCard : Claim7 := { stood := { row := topRulesRow, standIns := [], harness := (true, "b8c4c011371c8fe8a658cece98fde13c42c0d4b8513b7364a32ca64e831127e9"), looks := true }, kinds := [], alts := [], laidByText := true, laidKinds := [.data, .data, .data, .sentinel, .sentinel, .data, .data], laidTests := true, laidLooks := .later }
def TopRulesCardSaid : Prop := Claim7.holds Tryz.pinned (.plain (OpenSpec.ofChange topRulesSpec)) topRulesCard

/-- THE TIED CARD OF 'ephemeriskeep1.ArithNext'. -/
def arithNextCard : Claim7 := { stood := { row := arithNextRow, standIns := [], harness := (true, "b8c4c011371c8fe8a658cece98fde13c42c0d4b8513b7364a32ca64e831127e9"), looks := true }, kinds := [], alts := [], laidByText := true, laidKinds := [.data, .data, .data, .data, .sentinel, .sentinel, .data, .data, .pinned], laidTests := true, laidLooks := .later }
def ArithNextCardSaid : Prop := Claim7.holds Tryz.pinned (.plain (OpenSpec.ofChange arithNextSpec)) arithNextCard

/-- THE TIED CARD OF 'ephemeriskeep1.CatalogGregorian'. -/
def catalogGregorianCard : Claim7 := { stood := { row := catalogGregorianRow, standIns := [], harness := (true, "b8c4c011371c8fe8a658cece98fde13c42c0d4b8513b7364a32ca64e831127e9"), looks := true }, kinds := [], alts := [], laidByText := true, laidKinds := [.data, .data, .data, .data, .sentinel, .sentinel, .data, .data, .pinned], laidTests := true, laidLooks := .later }
def CatalogGregorianCardSaid : Prop := Claim7.holds Tryz.pinned (.plain (OpenSpec.ofChange catalogGregorianSpec)) catalogGregorianCard

/-- THE TIED CARD OF 'ephemeriskeep1.ArithBack'. -/
def arithBackCard : Claim7 := { stood := { row := arithBackRow, standIns := [], harness := (true, "b8c4c011371c8fe8a658cece98fde13c42c0d4b8513b7364a32ca64e831127e9"), looks := true }, kinds := [], alts := [], laidByText := true, laidKinds := [.data, .data, .data, .data, .sentinel, .sentinel, .data, .data, .pinned], laidTests := true, laidLooks := .later }
def ArithBackCardSaid : Prop := Claim7.holds Tryz.pinned (.plain (OpenSpec.ofChange arithBackSpec)) arithBackCard

/-- THE TIED CARD OF 'ephemeriskeep1.ArithYears'. -/
def arithYearsCard : Claim7 := { stood := { row := arithYearsRow, standIns := [], harness := (true, "b8c4c011371c8fe8a658cece98fde13c42c0d4b8513b7364a32ca64e831127e9"), looks := true }, kinds := [], alts := [], laidByText := true, laidKinds := [.data, .data, .data, .data, .sentinel, .sentinel, .data, .data, .pinned], laidTests := true, laidLooks := .later }
def ArithYearsCardSaid : Prop := Claim7.holds Tryz.pinned (.plain (OpenSpec.ofChange arithYearsSpec)) arithYearsCard

/-- THE TIED CARD OF 'ephemeriskeep1.ArithSteps'. -/
def arithStepsCard : Claim7 := { stood := { row := arithStepsRow, standIns := [], harness := (true, "b8c4c011371c8fe8a658cece98fde13c42c0d4b8513b7364a32ca64e831127e9"), looks := true }, kinds := [], alts := [], laidByText := true, laidKinds := [.data, .data, .data, .data, .sentinel, .sentinel, .data, .data, .pinned], laidTests := true, laidLooks := .later }
def ArithStepsCardSaid : Prop := Claim7.holds Tryz.pinned (.plain (OpenSpec.ofChange arithStepsSpec)) arithStepsCard

/-- THE TIED CARD OF 'ephemeriskeep1.CatalogBack'. -/
def catalogBackCard : Claim7 := { stood := { row := catalogBackRow, standIns := [], harness := (true, "b8c4c011371c8fe8a658cece98fde13c42c0d4b8513b7364a32ca64e831127e9"), looks := true }, kinds := [], alts := [], laidByText := true, laidKinds := [.data, .data, .data, .data, .sentinel, .sentinel, .data, .data, .pinned], laidTests := true, laidLooks := .later }
def CatalogBackCardSaid : Prop := Claim7.holds Tryz.pinned (.plain (OpenSpec.ofChange catalogBackSpec)) catalogBackCard

/-- THE TIED CARD OF 'ephemeriskeep1.ReformEach'. -/
def reformEachCard : Claim7 := { stood := { row := reformEachRow, standIns := [], harness := (true, "b8c4c011371c8fe8a658cece98fde13c42c0d4b8513b7364a32ca64e831127e9"), looks := true }, kinds := [], alts := [], laidByText := true, laidKinds := [.data, .data, .data, .data, .sentinel, .sentinel, .data, .data, .pinned], laidTests := true, laidLooks := .later }
def ReformEachCardSaid : Prop := Claim7.holds Tryz.pinned (.plain (OpenSpec.ofChange reformEachSpec)) reformEachCard

/-- THE TIED CARD OF 'ephemeriskeep1.ReformSkips'. -/
def reformSkipsCard : Claim7 := { stood := { row := reformSkipsRow, standIns := [], harness := (true, "b8c4c011371c8fe8a658cece98fde13c42c0d4b8513b7364a32ca64e831127e9"), looks := true }, kinds := [], alts := [], laidByText := true, laidKinds := [.data, .data, .data, .data, .sentinel, .sentinel, .data, .data, .pinned], laidTests := true, laidLooks := .later }
def ReformSkipsCardSaid : Prop := Claim7.holds Tryz.pinned (.plain (OpenSpec.ofChange reformSkipsSpec)) reformSkipsCard

/-- THE TIED CARD OF 'ephemeristop.TopReform'. -/
def topReformCard : Claim7 := { stood := { row := topReformRow, standIns := [], harness := (true, "b8c4c011371c8fe8a658cece98fde13c42c0d4b8513b7364a32ca64e831127e9"), looks := true }, kinds := [], alts := [], laidByText := true, laidKinds := [.data, .data, .data, .data, .sentinel, .sentinel, .data, .data, .pinned], laidTests := true, laidLooks := .later }
def TopReformCardSaid : Prop := Claim7.holds Tryz.pinned (.plain (OpenSpec.ofChange topReformSpec)) topReformCard

/-- THE SECOND FORM's CARD OF 'ephemeristop.TopRules'. -/
def topRulesUptoCard : Claim7 := { stood := { row := topRulesUptoRow, standIns := [], harness := (true, "b8c4c011371c8fe8a658cece98fde13c42c0d4b8513b7364a32ca64e831127e9"), looks := true }, kinds := [], alts := [], laidByText := true, laidKinds := [.data, .data, .data, .sentinel, .sentinel, .data, .data], laidTests := true, laidLooks := .later }
def TopRulesUptoCardSaid : Prop := Claim7.holds Tryz.pinned (.plain (OpenSpec.upto topRulesSpec)) topRulesUptoCard

/-- THE SECOND FORM's CARD OF 'ephemeriskeep1.ArithNext'. -/
def arithNextUptoCard : Claim7 := { stood := { row := arithNextUptoRow, standIns := [], harness := (true, "b8c4c011371c8fe8a658cece98fde13c42c0d4b8513b7364a32ca64e831127e9"), looks := true }, kinds := [], alts := [], laidByText := true, laidKinds := [.data, .data, .data, .data, .sentinel, .sentinel, .data, .data, .pinned], laidTests := true, laidLooks := .later }
def ArithNextUptoCardSaid : Prop := Claim7.holds Tryz.pinned (.plain (OpenSpec.upto arithNextSpec)) arithNextUptoCard

/-- THE SECOND FORM's CARD OF 'ephemeriskeep1.CatalogGregorian'. -/
def catalogGregorianUptoCard : Claim7 := { stood := { row := catalogGregorianUptoRow, standIns := [], harness := (true, "b8c4c011371c8fe8a658cece98fde13c42c0d4b8513b7364a32ca64e831127e9"), looks := true }, kinds := [], alts := [], laidByText := true, laidKinds := [.data, .data, .data, .data, .sentinel, .sentinel, .data, .data, .pinned], laidTests := true, laidLooks := .later }
def CatalogGregorianUptoCardSaid : Prop := Claim7.holds Tryz.pinned (.plain (OpenSpec.upto catalogGregorianSpec)) catalogGregorianUptoCard

/-- THE SECOND FORM's CARD OF 'ephemeriskeep1.ArithBack'. -/
def arithBackUptoCard : Claim7 := { stood := { row := arithBackUptoRow, standIns := [], harness := (true, "b8c4c011371c8fe8a658cece98fde13c42c0d4b8513b7364a32ca64e831127e9"), looks := true }, kinds := [], alts := [], laidByText := true, laidKinds := [.data, .data, .data, .data, .sentinel, .sentinel, .data, .data, .pinned], laidTests := true, laidLooks := .later }
def ArithBackUptoCardSaid : Prop := Claim7.holds Tryz.pinned (.plain (OpenSpec.upto arithBackSpec)) arithBackUptoCard

/-- THE SECOND FORM's CARD OF 'ephemeriskeep1.ArithYears'. -/
def arithYearsUptoCard : Claim7 := { stood := { row := arithYearsUptoRow, standIns := [], harness := (true, "b8c4c011371c8fe8a658cece98fde13c42c0d4b8513b7364a32ca64e831127e9"), looks := true }, kinds := [], alts := [], laidByText := true, laidKinds := [.data, .data, .data, .data, .sentinel, .sentinel, .data, .data, .pinned], laidTests := true, laidLooks := .later }
def ArithYearsUptoCardSaid : Prop := Claim7.holds Tryz.pinned (.plain (OpenSpec.upto arithYearsSpec)) arithYearsUptoCard

/-- THE SECOND FORM's CARD OF 'ephemeriskeep1.ArithSteps'. -/
def arithStepsUptoCard : Claim7 := { stood := { row := arithStepsUptoRow, standIns := [], harness := (true, "b8c4c011371c8fe8a658cece98fde13c42c0d4b8513b7364a32ca64e831127e9"), looks := true }, kinds := [], alts := [], laidByText := true, laidKinds := [.data, .data, .data, .data, .sentinel, .sentinel, .data, .data, .pinned], laidTests := true, laidLooks := .later }
def ArithStepsUptoCardSaid : Prop := Claim7.holds Tryz.pinned (.plain (OpenSpec.upto arithStepsSpec)) arithStepsUptoCard

/-- THE SECOND FORM's CARD OF 'ephemeriskeep1.CatalogBack'. -/
def catalogBackUptoCard : Claim7 := { stood := { row := catalogBackUptoRow, standIns := [], harness := (true, "b8c4c011371c8fe8a658cece98fde13c42c0d4b8513b7364a32ca64e831127e9"), looks := true }, kinds := [], alts := [], laidByText := true, laidKinds := [.data, .data, .data, .data, .sentinel, .sentinel, .data, .data, .pinned], laidTests := true, laidLooks := .later }
def CatalogBackUptoCardSaid : Prop := Claim7.holds Tryz.pinned (.plain (OpenSpec.upto catalogBackSpec)) catalogBackUptoCard

/-- THE SECOND FORM's CARD OF 'ephemeriskeep1.ReformEach'. -/
def reformEachUptoCard : Claim7 := { stood := { row := reformEachUptoRow, standIns := [], harness := (true, "b8c4c011371c8fe8a658cece98fde13c42c0d4b8513b7364a32ca64e831127e9"), looks := true }, kinds := [], alts := [], laidByText := true, laidKinds := [.data, .data, .data, .data, .sentinel, .sentinel, .data, .data, .pinned], laidTests := true, laidLooks := .later }
def ReformEachUptoCardSaid : Prop := Claim7.holds Tryz.pinned (.plain (OpenSpec.upto reformEachSpec)) reformEachUptoCard

/-- THE SECOND FORM's CARD OF 'ephemeriskeep1.ReformSkips'. -/
def reformSkipsUptoCard : Claim7 := { stood := { row := reformSkipsUptoRow, standIns := [], harness := (true, "b8c4c011371c8fe8a658cece98fde13c42c0d4b8513b7364a32ca64e831127e9"), looks := true }, kinds := [], alts := [], laidByText := true, laidKinds := [.data, .data, .data, .data, .sentinel, .sentinel, .data, .data, .pinned], laidTests := true, laidLooks := .later }
def ReformSkipsUptoCardSaid : Prop := Claim7.holds Tryz.pinned (.plain (OpenSpec.upto reformSkipsSpec)) reformSkipsUptoCard

/-- THE SECOND FORM's CARD OF 'ephemeristop.TopReform'. -/
def topReformUptoCard : Claim7 := { stood := { row := topReformUptoRow, standIns := [], harness := (true, "b8c4c011371c8fe8a658cece98fde13c42c0d4b8513b7364a32ca64e831127e9"), looks := true }, kinds := [], alts := [], laidByText := true, laidKinds := [.data, .data, .data, .data, .sentinel, .sentinel, .data, .data, .pinned], laidTests := true, laidLooks := .later }
def TopReformUptoCardSaid : Prop := Claim7.holds Tryz.pinned (.plain (OpenSpec.upto topReformSpec)) topReformUptoCard
end Rows
end Go.Proofs.YtbmbphikjainiaaGreatDoor
