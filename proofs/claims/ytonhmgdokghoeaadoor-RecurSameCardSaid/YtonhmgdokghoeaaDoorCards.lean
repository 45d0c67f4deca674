/-
  DERIVED. GIVEN WITH THE SEED: THE CARDS: each row of YtonhmgdokghoeaaDoorRows.lean that lists a variable, with what it lists TIED to the program's text (the seventh form; the later family's looks); each row that meets fmt, with fmt's text TOLD by the authors' own Lean function (tested against real Go, not proved from fmt's source: count such statements apart). THE CARD IS WHAT COUNTS. Prove the row's statement (the work); the ties are given (YtonhmgdokghoeaaDoorTie.lean); close each card by the builder's one call (the guide's Derived/Test/ToyasCard.lean, 'card_holds'). Laid BY PROGRAM, IN A SANDBOX (cutbox-door.mjs). By AI agents, Wed Nov 11 2026. No macro, syntax, notation, axiom, sorry.
-/
import Derived.Test.YtonhmgdokghoeaaDoorRows
import GoSem.ClaimSeven
namespace Go.Proofs.YtonhmgdokghoeaaDoor
namespace Rows

/-- THE TIED CARD OF 'ephemeriskeep1.RecurSame'. -/
def recurSameCard : Claim7 := { stood := { row := recurSameRow, standIns := [], harness := (true, "3f81368c68cac9fd93619224ca69618c63f87bfd2173f9217012b474d4fb5f87"), looks := false }, kinds := [], alts := [], laidByText := true, laidKinds := [.data, .data, .data, .widerDeep], laidTests := true, laidLooks := .later }
def RecurSameCardSaid : Prop := Claim7.holds Tryd.pinned (.plain (OpenSpec.ofChange recurSameSpec)) recurSameCard

/-- THE SECOND FORM's CARD OF 'ephemeriskeep1.RecurSame'. -/
def recurSameUptoCard : Claim7 := { stood := { row := recurSameUptoRow, standIns := [], harness := (true, "3f81368c68cac9fd93619224ca69618c63f87bfd2173f9217012b474d4fb5f87"), looks := false }, kinds := [], alts := [], laidByText := true, laidKinds := [.data, .data, .data, .widerDeep], laidTests := true, laidLooks := .later }
def RecurSameUptoCardSaid : Prop := Claim7.holds Tryd.pinned (.plain (OpenSpec.upto recurSameSpec)) recurSameUptoCard
end Rows
end Go.Proofs.YtonhmgdokghoeaaDoor
