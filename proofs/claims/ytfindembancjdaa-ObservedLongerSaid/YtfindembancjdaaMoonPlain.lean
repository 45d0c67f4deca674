/- The rule with which the laws on moons begin. -/
import Derived.Test.YtfindembancjdaaMoonArg
import Derived.Test.YtfindembancjdaaDateEq
namespace Go.Proofs.Ytfindembancjdaa
open Go.RowKit
set_option linter.unusedVariables false

/-- the rule that the laws begin with -/
def plainM : Mo := ⟨⟨#[112, 108, 97, 105, 110]⟩, 1, 0, 1, 59, 2, 1, 1, 1, [], [], none, 0, none, 0⟩
theorem plain_in (w : World) : MIn w plainM := ⟨.inl rfl, .inl rfl⟩
theorem plain_fit : MFit plainM := ⟨by decide, by decide, by decide⟩
theorem plain_name : NameOk ⟨#[112, 108, 97, 105, 110]⟩ := by
  refine ⟨by decide, by decide, by rw [Lib.toList_data]; decide, by rw [Lib.toList_data]; decide, by rw [Lib.toList_data]; decide, by rw [Lib.toList_data]; decide, fun k hk => ?_⟩
  have : k = 0 ∨ k = 1 ∨ k = 2 ∨ k = 3 ∨ k = 4 := by
    have : (⟨#[112, 108, 97, 105, 110]⟩ : ByteArray).size = 5 := by decide
    omega
  rcases this with rfl | rfl | rfl | rfl | rfl <;> decide +revert
theorem plain_ok : MOk plainM := by
  refine ⟨plain_name, by decide, by decide, ⟨by decide, by decide, by decide, by decide, by decide⟩, ⟨by decide, by decide, by decide, by decide, by decide⟩, ⟨by decide, by decide, by decide, by decide, by decide⟩, by decide, by decide, by decide, by decide, by decide, by decide, by decide, by decide, by decide, ?_, by decide, ?_⟩
  · intro i hi; exact absurd hi (by simp [plainM])
  · intro i hi; exact absurd hi (by simp [plainM])
theorem plain_from (y k : Int) (h1 : 1 ≤ k) (h2 : k ≤ plainM.mon y) (h3 : plainM.beg y k ≤ 30) (h4 : 30 < plainM.beg y (k + 1)) : y = 1 ∧ k = 2 := by
  have := plain_ok.same y k 1 2 30 h1 h2 h3 h4 (by decide) (by decide) (by decide) (by decide)
  exact this
theorem plain_day : MDay plainM 30 := ⟨plain_ok, by decide, by decide, by decide⟩
end Go.Proofs.Ytfindembancjdaa
