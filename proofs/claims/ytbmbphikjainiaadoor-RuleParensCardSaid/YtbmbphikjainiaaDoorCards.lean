/-
  DERIVED. GIVEN WITH THE SEED: THE CARDS: each row of YtbmbphikjainiaaDoorRows.lean that lists a variable, with what it lists TIED to the program's text (the seventh form; the later family's looks); each row that meets fmt, with fmt's text TOLD by the authors' own Lean function (tested against real Go, not proved from fmt's source: count such statements apart). THE CARD IS WHAT COUNTS. Prove the row's statement (the work); the ties are given (YtbmbphikjainiaaDoorTie.lean); close each card by the builder's one call (the guide's Derived/Test/ToyasCard.lean, 'card_holds'). Laid BY PROGRAM, IN A SANDBOX (cutbox-door.mjs). By AI agents, Wed Nov 11 2026. No macro, syntax, notation, axiom, sorry.
-/
import Derived.Test.YtbmbphikjainiaaDoorRows
import GoSem.ClaimSeven
namespace Go.Proofs.YtbmbphikjainiaaDoor
namespace Rows

/-- THE TIED CARD OF 'ephemeriskeep1.RuleBack'. -/
def ruleBackCard : Claim7 := { stood := { row := ruleBackRow, standIns := [], harness := (true, "23551fa8582a88910dc89fa60b0b1d819802c9761913a5d113499a206d0bfdb8"), looks := true }, kinds := [], alts := [], laidByText := true, laidKinds := [.data, .data, .data, .sentinel, .sentinel, .data, .data], laidTests := true, laidLooks := .later }
def RuleBackCardSaid : Prop := Claim7.holds Tryd.pinned (.plain (OpenSpec.ofChange ruleBackSpec)) ruleBackCard

/-- THE TIED CARD OF 'ephemeriskeep1.RuleParens'. -/
def ruleParensCard : Claim7 := { stood := { row := ruleParensRow, standIns := [], harness := (true, "23551fa8582a88910dc89fa60b0b1d819802c9761913a5d113499a206d0bfdb8"), looks := true }, kinds := [], alts := [], laidByText := true, laidKinds := [.data, .data, .data, .data, .sentinel, .sentinel, .data, .data, .pinned], laidTests := true, laidLooks := .later }
def RuleParensCardSaid : Prop := Claim7.holds Tryd.pinned (.plain (OpenSpec.ofChange ruleParensSpec)) ruleParensCard

/-- THE SECOND FORM's CARD OF 'ephemeriskeep1.RuleBack'. -/
def ruleBackUptoCard : Claim7 := { stood := { row := ruleBackUptoRow, standIns := [], harness := (true, "23551fa8582a88910dc89fa60b0b1d819802c9761913a5d113499a206d0bfdb8"), looks := true }, kinds := [], alts := [], laidByText := true, laidKinds := [.data, .data, .data, .sentinel, .sentinel, .data, .data], laidTests := true, laidLooks := .later }
def RuleBackUptoCardSaid : Prop := Claim7.holds Tryd.pinned (.plain (OpenSpec.upto ruleBackSpec)) ruleBackUptoCard

/-- THE SECOND FORM's CARD OF 'ephemeriskeep1.RuleParens'. -/
def ruleParensUptoCard : Claim7 := { stood := { row := ruleParensUptoRow, standIns := [], harness := (true, "23551fa8582a88910dc89fa60b0b1d819802c9761913a5d113499a206d0bfdb8"), looks := true }, kinds := [], alts := [], laidByText := true, laidKinds := [.data, .data, .data, .data, .sentinel, .sentinel, .data, .data, .pinned], laidTests := true, laidLooks := .later }
def RuleParensUptoCardSaid : Prop := Claim7.holds Tryd.pinned (.plain (OpenSpec.upto ruleParensSpec)) ruleParensUptoCard
end Rows
end Go.Proofs.YtbmbphikjainiaaDoor
