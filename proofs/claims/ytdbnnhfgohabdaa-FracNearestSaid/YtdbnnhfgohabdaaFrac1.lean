/- Contracts of package frac: size, Check, both, Of. -/
import Derived.Test.YtdbnnhfgohabdaaWhole3
import Derived.Test.YtdbnnhfgohabdaaPlainFrac
namespace Go.Proofs.Ytdbnnhfgohabdaa
open Go.RowKit
set_option linter.unusedVariables false

/-- a valid fraction -/
def FOk (n d : Int) : Prop := 1 ≤ d ∧ d ≤ 2147483647 ∧ -2147483647 ≤ n ∧ n ≤ 2147483647 ∧ Int.gcd n d = 1

theorem fsize_any (a : Int) (w : World) (h1 : -9223372036854775808 ≤ a) (h2 : a ≤ 9223372036854775807) :
    Calls Try.prog 79 #[.int .i64 a] w fun e w' => e = .returned (.int .u64 (a.natAbs : Nat)) ∧ w = w' := by
  by_cases h : a < 0
  · go_enter Try.func79, Try.ntmps79
    go_wp2
    go_ret
    exact ⟨ret_int (u64_neg a h1 h), rfl⟩
  · go_enter Try.func79, Try.ntmps79
    go_wp2
    go_ret
    exact ⟨ret_int (by omega), rfl⟩

set_option maxRecDepth 100000 in
theorem fcheck_yes (n d : Int) (w : World) (h : FOk n d) :
    Calls Try.prog 77 #[.agg #[.int .i64 n, .int .i64 d]] w fun e w' => e = .returned (.int .i64 0) ∧ Below w.heap.size w w' := by
  obtain ⟨h1, h2, h3, h4, h5⟩ := h
  have Hg := Lib.hid (fun w => gcd_any n d w (by omega) (by omega) (by omega) (by omega))
  rw [h5] at Hg
  have t1 : decide (d < 1) = false := decide_eq_false (by omega)
  have t2 : decide (2147483647 < d) = false := decide_eq_false (by omega)
  have t3 : decide (n < -2147483647) = false := decide_eq_false (by omega)
  have t4 : decide (2147483647 < n) = false := decide_eq_false (by omega)
  clear h5
  go_enter Try.func77, Try.ntmps77
  go_wp2_with (go_at_call 25; refine (Hg.out _).mono ?_; rintro e w' ⟨rfl, k, rfl⟩)
  go_ret
  exact ⟨rfl, below_drew ((Below.refl _ _).alloc (Nat.le_refl _) _) _⟩

set_option maxRecDepth 100000 in
theorem both_yes (n d n' d' : Int) (w : World) (h : FOk n d) (h' : FOk n' d') :
    Calls Try.prog 61 #[.agg #[.int .i64 n, .int .i64 d], .agg #[.int .i64 n', .int .i64 d']] w fun e w' => e = .returned (.int .i64 0) ∧ Below w.heap.size w w' := by
  go_enter Try.func61, Try.ntmps61
  go_wp2_with fail
  refine (fcheck_yes n d _ h).mono ?_
  rintro e w1 ⟨rfl, hb1⟩
  have hz : w.heap.size + 1 < w1.heap.size := by have := hb1.size; simp at this; omega
  have c0 : w1.cell? ⟨w.heap.size + 1, 0, none⟩ = some (.int .i64 n') := by rw [hb1.cell (p := ⟨w.heap.size + 1, 0, none⟩) (by simp), cell_of_row _ _ _ _ _ _ (heap_alloc2_new _ _ _)]; rfl
  have c1 : w1.cell? ⟨w.heap.size + 1, 1, none⟩ = some (.int .i64 d') := by rw [hb1.cell (p := ⟨w.heap.size + 1, 1, none⟩) (by simp), cell_of_row _ _ _ _ _ _ (heap_alloc2_new _ _ _)]; rfl
  go_wp2_with fail
  refine (fcheck_yes n' d' _ h').mono ?_
  rintro e w2 ⟨rfl, hb2⟩
  go_wp2_with fail
  go_ret
  have b1 := (((Below.refl w.heap.size w).alloc (Nat.le_refl _) (Obj.cells #[.int .i64 n, .int .i64 d] 44)).alloc (by simp) (Obj.cells #[.int .i64 n', .int .i64 d'] 44)).trans (hb1.mono (by simp; omega))
  exact ⟨rfl, b1.trans (hb2.mono b1.size)⟩
end Go.Proofs.Ytdbnnhfgohabdaa
