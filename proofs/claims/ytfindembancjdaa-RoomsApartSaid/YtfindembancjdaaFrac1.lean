/- Contracts of package frac: size, Check, both, Of. -/
import Derived.Test.YtfindembancjdaaWhole3
import Derived.Test.YtfindembancjdaaPlainFrac
namespace Go.Proofs.Ytfindembancjdaa
open Go.RowKit
set_option linter.unusedVariables false

/-- a valid fraction -/
def FOk (n d : Int) : Prop := 1 ≤ d ∧ d ≤ 2147483647 ∧ -2147483647 ≤ n ∧ n ≤ 2147483647 ∧ Int.gcd n d = 1

set_option maxRecDepth 100000 in
theorem fcheck_yes (n d : Int) (w : World) (h : FOk n d) :
    Calls Try.prog 45 #[.agg #[.int .i64 n, .int .i64 d]] w fun e w' => e = .returned (.int .i64 0) ∧ Below w.heap.size w w' := by
  obtain ⟨h1, h2, h3, h4, h5⟩ := h
  have Hg := Lib.hid (fun w => gcd_any n d w (by omega) (by omega) (by omega) (by omega))
  rw [h5] at Hg
  have t1 : decide (d < 1) = false := decide_eq_false (by omega)
  have t2 : decide (2147483647 < d) = false := decide_eq_false (by omega)
  have t3 : decide (n < -2147483647) = false := decide_eq_false (by omega)
  have t4 : decide (2147483647 < n) = false := decide_eq_false (by omega)
  clear h5
  go_enter Try.func45, Try.ntmps45
  go_wp2_with (go_at_call 84; refine (Hg.out _).mono ?_; rintro e w' ⟨rfl, k, rfl⟩)
  go_ret
  exact ⟨rfl, below_drew ((Below.refl _ _).alloc (Nat.le_refl _) _) _⟩

end Go.Proofs.Ytfindembancjdaa
