/- DateEq -/
import Derived.Laws.StructEq
import Derived.Test.YtneeoghjddlenaaGreatDoorGLaid
/- The model's == and != at api.Date. -/
namespace Go.Proofs.YtneeoghjddlenaaGreatDoor
open Go.RowKit
set_option linter.unusedVariables false

/-- two dates are one -/
def dateB (a b c x y z : Int) : Bool := a == x && b == y && c == z
theorem dateB_yes {a b c x y z : Int} (h : a = x ∧ b = y ∧ c = z) : dateB a b c x y z = true := by obtain ⟨rfl, rfl, rfl⟩ := h; simp [dateB]
theorem dateB_iff (a b c x y z : Int) : dateB a b c x y z = true ↔ (a = x ∧ b = y ∧ c = z) := by simp [dateB, and_assoc]
theorem date_same (a b c x y z : Int) (w : World) : (Op.equalIn 10000 23 (.agg #[.int .i64 a, .int .i64 b, .int .i64 c]) (.agg #[.int .i64 x, .int .i64 y, .int .i64 z])).run Tryz.prog w = .ok (dateB a b c x y z) w := by
  have u3 := Tryz.underlying3
  have a3 := Tryz.isAgg3
  have z3 := Tryz.sizeOf3
  have hS : Tryz.prog.underlying 23 = some (.struct (Tryz.prog.fieldsOf 23)) := by kernel_rfl
  have hp : Tryz.prog.stoodInHeld 23 = false := by kernel_rfl
  rw [show (10000 : Nat) = 9999 + 1 from rfl, run_equalIn_agg w 9999 23 _ _ hS hp]
  simp only [Program.fieldsOf, Tryz.underlying23]
  go_simp
  unfold dateB
  by_cases h1 : a = x <;> by_cases h2 : b = y <;> by_cases h3 : c = z <;> simp [h1, h2, h3]
theorem date_guard : Tryz.prog.eqGuardType Tryz.prog.depth 23 = false := by kernel_rfl
end Go.Proofs.YtneeoghjddlenaaGreatDoor
