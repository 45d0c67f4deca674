/- PlainDate, PlainGreg -/
import Derived.Test.YtoemghiejfkpbaaGreatDoorGCatOk
/- Plain arithmetic of the Gregorian calendar, no program in sight. -/
namespace Go.Proofs.YtoemghiejfkpbaaGreatDoor
set_option linter.unusedVariables false
def leapB (y : Int) : Bool := decide (y % 4 = 0 ∧ (y % 100 ≠ 0 ∨ y % 400 = 0))
def feb (y : Int) : Int := if leapB y then 29 else 28
def ny (y : Int) : Int := 365 * (y - 1) + (y - 1) / 4 - (y - 1) / 100 + (y - 1) / 400 + 1
def lens (f : Int) : List Int := [31, f, 31, 30, 31, 30, 31, 31, 30, 31, 30, 31]
def len (f : Int) (k : Nat) : Int := (lens f).getD k 0
def valid (y : Int) (k : Nat) (d : Int) : Prop := k < 12 ∧ 1 ≤ d ∧ d ≤ len (feb y) k
end Go.Proofs.YtoemghiejfkpbaaGreatDoor
/- The calendar gregorian of the catalog is that of package line. -/
namespace Go.Proofs.YtoemghiejfkpbaaGreatDoor
open Go.RowKit
set_option linter.unusedVariables false
end Go.Proofs.YtoemghiejfkpbaaGreatDoor
