/- Contract of frac.Near. -/
import Derived.Test.YtdbnnhfgohabdaaNear1
namespace Go.Proofs.Ytdbnnhfgohabdaa
open Go.RowKit
set_option linter.unusedVariables false

set_option maxHeartbeats 1000000 in
set_option maxRecDepth 100000 in
theorem near_self (N m d : Int) (w : World) (h : FOk N m) (hd : 1 ≤ d) (hd' : d ≤ 2147483647) (hm : m ≤ d) :
    Calls Try.prog 45 #[.agg #[.int .i64 N, .int .i64 m], .int .i64 d] w fun e w' => e = .returned (.tuple #[.agg #[.int .i64 N, .int .i64 m], .int .i64 0]) ∧ Below w.heap.size w w' := by
  have Hc := Lib.hid (fun w => fcheck_yes N m w h)
  go_enter Try.func45, Try.ntmps45
  go_wp2_with fail
  refine (Hc.out _).mono ?_
  rintro e w1 ⟨rfl, hb1⟩
  have hz : w.heap.size + 1 < w1.heap.size := by have := hb1.size; simp at this; omega
  have hB := below_then (below_alloc2 _ _ _) hb1
  have hx : IsF w1 w.heap.size N m := IsF.below ((show IsF (w.alloc _) w.heap.size N m from heap_alloc_new _ _).alloc _) hb1
  have hr : IsF w1 (w.heap.size + 1) 0 0 := IsF.below (show IsF ((w.alloc _).alloc _) (w.heap.size + 1) 0 0 from heap_alloc2_new _ _ _) hb1
  have x0 := hx.c0
  have x1 := hx.c1
  have r0 := hr.c0
  have r1 := hr.c1
  have rf := fun i => Box.free (show Box w1 (w.heap.size + 1) _ _ from hr) i
  have t1 : decide (d < 1) = false := decide_eq_false (by omega)
  have t2 : decide (2147483647 < d) = false := decide_eq_false (by omega)
  have t3 : decide (m ≤ d) = true := decide_eq_true (by omega)
  clear hb1 h
  go_wp2_with fail
  refine bodyPost_ret (v := .tuple #[.agg #[.int .i64 N, .int .i64 m], .int .i64 0]) (by simp [results, Try.results45, go_sem, r0, r1]) rfl ⟨rfl, ?_⟩
  exact (hB.setCell (p := ⟨w.heap.size + 1, 0, none⟩) (show w.heap.size ≤ w.heap.size + 1 by omega) _).setCell (p := ⟨w.heap.size + 1, 1, none⟩) (show w.heap.size ≤ w.heap.size + 1 by omega) _
end Go.Proofs.Ytdbnnhfgohabdaa
