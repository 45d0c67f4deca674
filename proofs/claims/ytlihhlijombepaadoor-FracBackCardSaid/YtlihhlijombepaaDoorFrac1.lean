/- Contracts of package frac: size, Check, both, Of. -/
import Derived.Test.YtlihhlijombepaaDoorWhole3
import Derived.Test.YtlihhlijombepaaDoorPlainFrac
namespace Go.Proofs.YtlihhlijombepaaDoor
open Go.RowKit
set_option linter.unusedVariables false

/-- a valid fraction -/
def FOk (n d : Int) : Prop := 1 ≤ d ∧ d ≤ 2147483647 ∧ -2147483647 ≤ n ∧ n ≤ 2147483647 ∧ Int.gcd n d = 1

theorem fsize_any (a : Int) (w : World) (h1 : -9223372036854775808 ≤ a) (h2 : a ≤ 9223372036854775807) :
    Calls Tryd.prog 83 #[.int .i64 a] w fun e w' => e = .returned (.int .u64 (a.natAbs : Nat)) ∧ w = w' := by
  by_cases h : a < 0
  · go_enter Tryd.func83, Tryd.ntmps83
    go_wp2
    go_ret
    exact ⟨ret_int (u64_neg a h1 h), rfl⟩
  · go_enter Tryd.func83, Tryd.ntmps83
    go_wp2
    go_ret
    exact ⟨ret_int (by omega), rfl⟩

set_option maxRecDepth 100000 in
theorem fcheck_yes (n d : Int) (w : World) (h : FOk n d) :
    Calls Tryd.prog 81 #[.agg #[.int .i64 n, .int .i64 d]] w fun e w' => e = .returned (.int .i64 0) ∧ Below w.heap.size w w' := by
  obtain ⟨h1, h2, h3, h4, h5⟩ := h
  have Hg := Lib.hid (fun w => gcd_any n d w (by omega) (by omega) (by omega) (by omega))
  rw [h5] at Hg
  have t1 : decide (d < 1) = false := decide_eq_false (by omega)
  have t2 : decide (2147483647 < d) = false := decide_eq_false (by omega)
  have t3 : decide (n < -2147483647) = false := decide_eq_false (by omega)
  have t4 : decide (2147483647 < n) = false := decide_eq_false (by omega)
  clear h5
  go_enter Tryd.func81, Tryd.ntmps81
  go_wp2_with (go_at_call 122; refine (Hg.out _).mono ?_; rintro e w' ⟨rfl, k, rfl⟩)
  go_ret
  exact ⟨rfl, below_drew ((Below.refl _ _).alloc (Nat.le_refl _) _) _⟩

end Go.Proofs.YtlihhlijombepaaDoor
