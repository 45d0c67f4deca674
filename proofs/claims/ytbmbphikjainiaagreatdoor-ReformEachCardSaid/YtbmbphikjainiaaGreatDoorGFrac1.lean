/- Frac1 -/
import Derived.Test.YtbmbphikjainiaaGreatDoorGWhole1
import Derived.Test.YtbmbphikjainiaaGreatDoorGPlainFrac
/- Contracts of package frac: size, Check, both, Of. -/
namespace Go.Proofs.YtbmbphikjainiaaGreatDoor
open Go.RowKit
set_option linter.unusedVariables false

/-- a valid fraction -/
def FOk (n d : Int) : Prop := 1 ≤ d ∧ d ≤ 2147483647 ∧ -2147483647 ≤ n ∧ n ≤ 2147483647 ∧ Int.gcd n d = 1

end Go.Proofs.YtbmbphikjainiaaGreatDoor
