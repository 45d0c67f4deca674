/- SliceFind -/
import Derived.Shelf.Abstract
import Derived.Test.YtabidjmmgnkhkaaGreatDoorGName1
import Derived.Test.YtabidjmmgnkhkaaGreatDoorGMem
/- Contracts of slices.Index, Contains, IndexFunc, ContainsFunc at []int. -/
namespace Go.Proofs.YtabidjmmgnkhkaaGreatDoor
open Go.RowKit
set_option linter.unusedVariables false
def IsIdxF (P : Prop) (S : World → Prop) (e : Ending) (w' : World) : Prop := ∃ i : Int, e = .returned (.int .i64 i) ∧ (0 ≤ i ↔ P) ∧ S w'
end Go.Proofs.YtabidjmmgnkhkaaGreatDoor
