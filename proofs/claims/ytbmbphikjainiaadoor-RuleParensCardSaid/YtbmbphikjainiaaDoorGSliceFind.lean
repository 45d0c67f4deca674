/- SliceFind -/
import Derived.Shelf.Abstract
import Derived.Test.YtbmbphikjainiaaDoorGName1
import Derived.Test.YtbmbphikjainiaaDoorGWords
import Derived.Test.YtbmbphikjainiaaDoorGOwn
import Derived.Test.YtbmbphikjainiaaDoorGFlow
/- Contracts of slices.Index, Contains, IndexFunc, ContainsFunc at []int. -/
namespace Go.Proofs.YtbmbphikjainiaaDoor
open Go.RowKit
set_option linter.unusedVariables false

theorem mem_getD (l : List Int) (i : Nat) (h : i < l.length) : l.getD i 0 ∈ l := by simp [List.getD, List.getElem?_eq_getElem h]
theorem not_mem_getD (l : List Int) (x : Int) (h : ∀ i, i < l.length → l.getD i 0 ≠ x) : x ∉ l := fun hm => by
  obtain ⟨i, hi, e⟩ := List.getElem_of_mem hm
  exact h i hi (by rw [← e]; simp [List.getD, List.getElem?_eq_getElem hi])
/-- an index, or -1 -/
def IsIdx (P : Prop) (w : World) (e : Ending) (w' : World) : Prop := ∃ i : Int, e = .returned (.int .i64 i) ∧ (0 ≤ i ↔ P) ∧ w = w'

/-- IndexFunc at any predicate that keeps a property of worlds -/
def IsIdxF (P : Prop) (S : World → Prop) (e : Ending) (w' : World) : Prop := ∃ i : Int, e = .returned (.int .i64 i) ∧ (0 ≤ i ↔ P) ∧ S w'

end Go.Proofs.YtbmbphikjainiaaDoor
