/- LenEq -/
import Derived.Laws.StructEq
import Derived.Test.YteebjkcpniddiaaGreatDoorGSpPlain
/- The model's == and != at api.Length. -/
namespace Go.Proofs.YteebjkcpniddiaaGreatDoor
open Go.RowKit
set_option linter.unusedVariables false

/-- two durations are one -/
def lenB (a b c d x y z u : Int) : Bool := a == x && b == y && c == z && d == u
theorem lenB_yes {a b c d x y z u : Int} (h : a = x ∧ b = y ∧ c = z ∧ d = u) : lenB a b c d x y z u = true := by obtain ⟨rfl, rfl, rfl, rfl⟩ := h; simp [lenB]
theorem lenB_iff (a b c d x y z u : Int) : lenB a b c d x y z u = true ↔ (a = x ∧ b = y ∧ c = z ∧ d = u) := by simp [lenB, and_assoc]
theorem len_same (a b c d x y z u : Int) (w : World) : (Op.equalIn 10000 23 (.agg #[.int .i64 a, .int .i64 b, .int .i64 c, .int .i64 d]) (.agg #[.int .i64 x, .int .i64 y, .int .i64 z, .int .i64 u])).run Tryz.prog w = .ok (lenB a b c d x y z u) w := by
  have u3 := Tryz.underlying3
  have a3 := Tryz.isAgg3
  have z3 := Tryz.sizeOf3
  have hS : Tryz.prog.underlying 23 = some (.struct (Tryz.prog.fieldsOf 23)) := by kernel_rfl
  have hp : Tryz.prog.stoodInHeld 23 = false := by kernel_rfl
  rw [show (10000 : Nat) = 9999 + 1 from rfl, run_equalIn_agg w 9999 23 _ _ hS hp]
  simp only [Program.fieldsOf, Tryz.underlying23]
  go_simp
  unfold lenB
  by_cases h1 : a = x <;> by_cases h2 : b = y <;> by_cases h3 : c = z <;> by_cases h4 : d = u <;> simp [h1, h2, h3, h4]
theorem len_guard : Tryz.prog.eqGuardType Tryz.prog.depth 23 = false := by kernel_rfl
/-- the least of four that are not negative -/
theorem min_four (a b c d : Int) (h0 : 0 ≤ a) (h1 : 0 ≤ b) (h2 : 0 ≤ c) (h3 : 0 ≤ d) : ∃ z : Int, 0 ≤ z ∧ ∀ W, (Builtin.min_ #[3, 3, 3, 3] 3 #[.int .i64 a, .int .i64 b, .int .i64 c, .int .i64 d]).run Tryz.prog W = .ok (.int .i64 z) W := by
  refine ⟨if d < (if c < (if b < a then b else a) then c else (if b < a then b else a)) then d else (if c < (if b < a then b else a) then c else (if b < a then b else a)), ?_, fun W => ?_⟩
  · repeat' split
    all_goals assumption
  · simp [Builtin.min_, Builtin.min2, go_sem]
end Go.Proofs.YteebjkcpniddiaaGreatDoor
