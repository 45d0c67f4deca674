/- Search1 -/
import Derived.Deep.LoopGhost
import Derived.LoopTactic
import Derived.Shelf.Abstract
import Derived.Test.YtifhlmakacoicaaDoorGBase
import Derived.Test.YtifhlmakacoicaaDoorGPlainMoon
/- Contracts of sort.Search (at any closure that keeps a predicate of worlds) and sort.SearchInts. -/
namespace Go.Proofs.YtifhlmakacoicaaDoor
open Go.RowKit
set_option linter.unusedVariables false

/-- the first place from which on p holds -/
def IsFirst (n : Nat) (p : Nat → Bool) (S : World → Prop) (e : Ending) (w' : World) : Prop :=
  ∃ k : Nat, e = .returned (.int .i64 (k : Int)) ∧ k ≤ n ∧ (∀ t, t < k → p t = false) ∧ (∀ t, k ≤ t → t < n → p t = true) ∧ S w'
/-- what a search knows -/
def Between (n : Nat) (p : Nat → Bool) (lo hi : Nat) : Prop := (∀ t, t < lo → p t = false) ∧ (∀ t, hi ≤ t → t < n → p t = true)

end Go.Proofs.YtifhlmakacoicaaDoor
