/- The model's == and != at api.Date. -/
import Derived.Test.YtfindembancjdaaBase
import Derived.Laws.StructEq
namespace Go.Proofs.Ytfindembancjdaa
open Go.RowKit
set_option linter.unusedVariables false

/-- two dates are one -/
def dateB (a b c x y z : Int) : Bool := a == x && b == y && c == z
theorem dateB_yes {a b c x y z : Int} (h : a = x ∧ b = y ∧ c = z) : dateB a b c x y z = true := by obtain ⟨rfl, rfl, rfl⟩ := h; simp [dateB]
theorem dateB_iff (a b c x y z : Int) : dateB a b c x y z = true ↔ (a = x ∧ b = y ∧ c = z) := by simp [dateB, and_assoc]
theorem date_same (a b c x y z : Int) (w : World) : (Op.equalIn 10000 44 (.agg #[.int .i64 a, .int .i64 b, .int .i64 c]) (.agg #[.int .i64 x, .int .i64 y, .int .i64 z])).run Try.prog w = .ok (dateB a b c x y z) w := by
  have u3 := Try.underlying3
  have a3 := Try.isAgg3
  have z3 := Try.sizeOf3
  have hS : Try.prog.underlying 44 = some (.struct (Try.prog.fieldsOf 44)) := by kernel_rfl
  have hp : Try.prog.stoodInHeld 44 = false := by kernel_rfl
  rw [show (10000 : Nat) = 9999 + 1 from rfl, run_equalIn_agg w 9999 44 _ _ hS hp]
  simp only [Program.fieldsOf, Try.underlying44]
  go_simp
  unfold dateB
  by_cases h1 : a = x <;> by_cases h2 : b = y <;> by_cases h3 : c = z <;> simp [h1, h2, h3]
theorem date_guard : Try.prog.eqGuardType Try.prog.depth 44 = false := by kernel_rfl
end Go.Proofs.Ytfindembancjdaa
