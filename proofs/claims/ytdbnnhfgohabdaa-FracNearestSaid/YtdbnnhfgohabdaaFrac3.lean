/- Contracts of package frac: Add, Sub, Mul, Div at valid fractions whose result fits. -/
import Derived.Test.YtdbnnhfgohabdaaFrac2
namespace Go.Proofs.Ytdbnnhfgohabdaa
open Go.RowKit
set_option linter.unusedVariables false

theorem mul_bound (x y : Int) (h1 : -2147483647 ≤ x) (h2 : x ≤ 2147483647) (h3 : -2147483647 ≤ y) (h4 : y ≤ 2147483647) : -4611686014132420609 ≤ x * y ∧ x * y ≤ 4611686014132420609 := by
  have := Int.natAbs_mul x y
  have := Nat.mul_le_mul (show x.natAbs ≤ 2147483647 by omega) (show y.natAbs ≤ 2147483647 by omega)
  omega

set_option maxHeartbeats 1000000 in
set_option maxRecDepth 100000 in
theorem fadd_yes (n d n' d' : Int) (w : World) (h : FOk n d) (h' : FOk n' d') (hN : (fN (n * d' + n' * d) (d * d')).natAbs ≤ 2147483647) (hD : fD (n * d' + n' * d) (d * d') ≤ 2147483647) :
    Calls Try.prog 29 #[.agg #[.int .i64 n, .int .i64 d], .agg #[.int .i64 n', .int .i64 d']] w fun e w' => e = .returned (.tuple #[.agg #[.int .i64 (fN (n * d' + n' * d) (d * d')), .int .i64 (fD (n * d' + n' * d) (d * d'))], .int .i64 0]) ∧ Below w.heap.size w w' := by
  have Hb := Lib.hid (fun w => both_yes n d n' d' w h h')
  obtain ⟨a1, a2, a3, a4, _⟩ := h
  obtain ⟨b1, b2, b3, b4, _⟩ := h'
  have p0 := mul_bound n d' (by omega) (by omega) (by omega) (by omega)
  have p1 := mul_bound n' d (by omega) (by omega) (by omega) (by omega)
  have p2 := mul_bound d d' (by omega) (by omega) (by omega) (by omega)
  have hne : d * d' ≠ 0 := by rw [ne_eq, Int.mul_eq_zero]; omega
  have Ho := Lib.hid (fun w => of_fits (n * d' + n' * d) (d * d') w (by omega) (by omega) (by omega) (by omega) hne hN hD)
  clear hN hD hne
  generalize fN (n * d' + n' * d) (d * d') = N at *
  generalize fD (n * d' + n' * d) (d * d') = D at *
  go_enter Try.func29, Try.ntmps29
  go_wp2_with fail
  refine (Hb.out _).mono ?_
  rintro e w1 ⟨rfl, hb1⟩
  have hz : w.heap.size + 2 < w1.heap.size := by have := hb1.size; simp at this; omega
  obtain ⟨hcell, hfroz⟩ := bcell hb1
  go_wp2_with fail
  refine (Ho.out _).mono ?_
  rintro e w2 ⟨rfl, hb2⟩
  have hz2 : w.heap.size + 2 < w2.heap.size := by have := hb2.size; omega
  have c2 : ∀ j, w2.cell? ⟨w.heap.size + 2, j, none⟩ = #[Value.int .i64 0, .int .i64 0][j]? := fun j => by
    rw [hb2.cell (p := ⟨w.heap.size + 2, j, none⟩) hz, hb1.cell (p := ⟨w.heap.size + 2, j, none⟩) (by simp)]
    exact cell_of_row _ _ _ _ _ _ (heap_alloc3_new _ _ _ _)
  have c20 : w2.cell? ⟨w.heap.size + 2, 0, none⟩ = some (.int .i64 0) := c2 0
  have c21 : w2.cell? ⟨w.heap.size + 2, 1, none⟩ = some (.int .i64 0) := c2 1
  have f2 : ∀ j, w2.frozen? ⟨w.heap.size + 2, j, none⟩ = false := fun j => by
    rw [hb2.frozen (p := ⟨w.heap.size + 2, j, none⟩) hz, hb1.frozen (p := ⟨w.heap.size + 2, j, none⟩) (by simp)]
    exact frozen_of_row _ _ _ _ _ (heap_alloc3_new _ _ _ _)
  have hB := (below_alloc3 w (Obj.cells #[.int .i64 n, .int .i64 d] 44) (Obj.cells #[.int .i64 n', .int .i64 d'] 44) (Obj.cells #[.int .i64 0, .int .i64 0] 44)).trans (hb1.mono (by simp; omega))
  have hB2 := hB.trans (hb2.mono hB.size)
  clear hcell hfroz hb1 hb2 c2 hB
  go_wp2_with fail
  refine bodyPost_ret (v := .tuple #[.agg #[.int .i64 N, .int .i64 D], .int .i64 0]) (by simp [results, Try.results29, go_sem, c20, c21]) rfl ⟨rfl, ?_⟩
  exact (hB2.setCell (p := ⟨w.heap.size + 2, 0, none⟩) (show w.heap.size ≤ w.heap.size + 2 by omega) _).setCell (p := ⟨w.heap.size + 2, 1, none⟩) (show w.heap.size ≤ w.heap.size + 2 by omega) _

set_option maxHeartbeats 1000000 in
set_option maxRecDepth 100000 in
theorem fsub_yes (n d n' d' : Int) (w : World) (h : FOk n d) (h' : FOk n' d') (hN : (fN (n * d' - n' * d) (d * d')).natAbs ≤ 2147483647) (hD : fD (n * d' - n' * d) (d * d') ≤ 2147483647) :
    Calls Try.prog 32 #[.agg #[.int .i64 n, .int .i64 d], .agg #[.int .i64 n', .int .i64 d']] w fun e w' => e = .returned (.tuple #[.agg #[.int .i64 (fN (n * d' - n' * d) (d * d')), .int .i64 (fD (n * d' - n' * d) (d * d'))], .int .i64 0]) ∧ Below w.heap.size w w' := by
  have Hb := Lib.hid (fun w => both_yes n d n' d' w h h')
  obtain ⟨a1, a2, a3, a4, _⟩ := h
  obtain ⟨b1, b2, b3, b4, _⟩ := h'
  have p0 := mul_bound n d' (by omega) (by omega) (by omega) (by omega)
  have p1 := mul_bound n' d (by omega) (by omega) (by omega) (by omega)
  have p2 := mul_bound d d' (by omega) (by omega) (by omega) (by omega)
  have hne : d * d' ≠ 0 := by rw [ne_eq, Int.mul_eq_zero]; omega
  have Ho := Lib.hid (fun w => of_fits (n * d' - n' * d) (d * d') w (by omega) (by omega) (by omega) (by omega) hne hN hD)
  clear hN hD hne
  generalize fN (n * d' - n' * d) (d * d') = N at *
  generalize fD (n * d' - n' * d) (d * d') = D at *
  go_enter Try.func32, Try.ntmps32
  go_wp2_with fail
  refine (Hb.out _).mono ?_
  rintro e w1 ⟨rfl, hb1⟩
  have hz : w.heap.size + 2 < w1.heap.size := by have := hb1.size; simp at this; omega
  obtain ⟨hcell, hfroz⟩ := bcell hb1
  go_wp2_with fail
  refine (Ho.out _).mono ?_
  rintro e w2 ⟨rfl, hb2⟩
  have hz2 : w.heap.size + 2 < w2.heap.size := by have := hb2.size; omega
  have c2 : ∀ j, w2.cell? ⟨w.heap.size + 2, j, none⟩ = #[Value.int .i64 0, .int .i64 0][j]? := fun j => by
    rw [hb2.cell (p := ⟨w.heap.size + 2, j, none⟩) hz, hb1.cell (p := ⟨w.heap.size + 2, j, none⟩) (by simp)]
    exact cell_of_row _ _ _ _ _ _ (heap_alloc3_new _ _ _ _)
  have c20 : w2.cell? ⟨w.heap.size + 2, 0, none⟩ = some (.int .i64 0) := c2 0
  have c21 : w2.cell? ⟨w.heap.size + 2, 1, none⟩ = some (.int .i64 0) := c2 1
  have f2 : ∀ j, w2.frozen? ⟨w.heap.size + 2, j, none⟩ = false := fun j => by
    rw [hb2.frozen (p := ⟨w.heap.size + 2, j, none⟩) hz, hb1.frozen (p := ⟨w.heap.size + 2, j, none⟩) (by simp)]
    exact frozen_of_row _ _ _ _ _ (heap_alloc3_new _ _ _ _)
  have hB := (below_alloc3 w (Obj.cells #[.int .i64 n, .int .i64 d] 44) (Obj.cells #[.int .i64 n', .int .i64 d'] 44) (Obj.cells #[.int .i64 0, .int .i64 0] 44)).trans (hb1.mono (by simp; omega))
  have hB2 := hB.trans (hb2.mono hB.size)
  clear hcell hfroz hb1 hb2 c2 hB
  go_wp2_with fail
  refine bodyPost_ret (v := .tuple #[.agg #[.int .i64 N, .int .i64 D], .int .i64 0]) (by simp [results, Try.results32, go_sem, c20, c21]) rfl ⟨rfl, ?_⟩
  exact (hB2.setCell (p := ⟨w.heap.size + 2, 0, none⟩) (show w.heap.size ≤ w.heap.size + 2 by omega) _).setCell (p := ⟨w.heap.size + 2, 1, none⟩) (show w.heap.size ≤ w.heap.size + 2 by omega) _

set_option maxHeartbeats 1000000 in
set_option maxRecDepth 100000 in
theorem fmul_yes (n d n' d' : Int) (w : World) (h : FOk n d) (h' : FOk n' d') (hN : (fN (n * n') (d * d')).natAbs ≤ 2147483647) (hD : fD (n * n') (d * d') ≤ 2147483647) :
    Calls Try.prog 31 #[.agg #[.int .i64 n, .int .i64 d], .agg #[.int .i64 n', .int .i64 d']] w fun e w' => e = .returned (.tuple #[.agg #[.int .i64 (fN (n * n') (d * d')), .int .i64 (fD (n * n') (d * d'))], .int .i64 0]) ∧ Below w.heap.size w w' := by
  have Hb := Lib.hid (fun w => both_yes n d n' d' w h h')
  obtain ⟨a1, a2, a3, a4, _⟩ := h
  obtain ⟨b1, b2, b3, b4, _⟩ := h'
  have p0 := mul_bound n n' (by omega) (by omega) (by omega) (by omega)
  have p1 := mul_bound d d' (by omega) (by omega) (by omega) (by omega)
  have hne : d * d' ≠ 0 := by rw [ne_eq, Int.mul_eq_zero]; omega
  have Ho := Lib.hid (fun w => of_fits (n * n') (d * d') w (by omega) (by omega) (by omega) (by omega) hne hN hD)
  clear hN hD hne
  generalize fN (n * n') (d * d') = N at *
  generalize fD (n * n') (d * d') = D at *
  go_enter Try.func31, Try.ntmps31
  go_wp2_with fail
  refine (Hb.out _).mono ?_
  rintro e w1 ⟨rfl, hb1⟩
  have hz : w.heap.size + 2 < w1.heap.size := by have := hb1.size; simp at this; omega
  obtain ⟨hcell, hfroz⟩ := bcell hb1
  go_wp2_with fail
  refine (Ho.out _).mono ?_
  rintro e w2 ⟨rfl, hb2⟩
  have hz2 : w.heap.size + 2 < w2.heap.size := by have := hb2.size; omega
  have c2 : ∀ j, w2.cell? ⟨w.heap.size + 2, j, none⟩ = #[Value.int .i64 0, .int .i64 0][j]? := fun j => by
    rw [hb2.cell (p := ⟨w.heap.size + 2, j, none⟩) hz, hb1.cell (p := ⟨w.heap.size + 2, j, none⟩) (by simp)]
    exact cell_of_row _ _ _ _ _ _ (heap_alloc3_new _ _ _ _)
  have c20 : w2.cell? ⟨w.heap.size + 2, 0, none⟩ = some (.int .i64 0) := c2 0
  have c21 : w2.cell? ⟨w.heap.size + 2, 1, none⟩ = some (.int .i64 0) := c2 1
  have f2 : ∀ j, w2.frozen? ⟨w.heap.size + 2, j, none⟩ = false := fun j => by
    rw [hb2.frozen (p := ⟨w.heap.size + 2, j, none⟩) hz, hb1.frozen (p := ⟨w.heap.size + 2, j, none⟩) (by simp)]
    exact frozen_of_row _ _ _ _ _ (heap_alloc3_new _ _ _ _)
  have hB := (below_alloc3 w (Obj.cells #[.int .i64 n, .int .i64 d] 44) (Obj.cells #[.int .i64 n', .int .i64 d'] 44) (Obj.cells #[.int .i64 0, .int .i64 0] 44)).trans (hb1.mono (by simp; omega))
  have hB2 := hB.trans (hb2.mono hB.size)
  clear hcell hfroz hb1 hb2 c2 hB
  go_wp2_with fail
  refine bodyPost_ret (v := .tuple #[.agg #[.int .i64 N, .int .i64 D], .int .i64 0]) (by simp [results, Try.results31, go_sem, c20, c21]) rfl ⟨rfl, ?_⟩
  exact (hB2.setCell (p := ⟨w.heap.size + 2, 0, none⟩) (show w.heap.size ≤ w.heap.size + 2 by omega) _).setCell (p := ⟨w.heap.size + 2, 1, none⟩) (show w.heap.size ≤ w.heap.size + 2 by omega) _

set_option maxHeartbeats 1000000 in
set_option maxRecDepth 100000 in
theorem fdiv_yes (n d n' d' : Int) (w : World) (h : FOk n d) (h' : FOk n' d') (h0 : n' ≠ 0) (hN : (fN (n * d') (d * n')).natAbs ≤ 2147483647) (hD : fD (n * d') (d * n') ≤ 2147483647) :
    Calls Try.prog 33 #[.agg #[.int .i64 n, .int .i64 d], .agg #[.int .i64 n', .int .i64 d']] w fun e w' => e = .returned (.tuple #[.agg #[.int .i64 (fN (n * d') (d * n')), .int .i64 (fD (n * d') (d * n'))], .int .i64 0]) ∧ Below w.heap.size w w' := by
  have Hb := Lib.hid (fun w => both_yes n d n' d' w h h')
  obtain ⟨a1, a2, a3, a4, _⟩ := h
  obtain ⟨b1, b2, b3, b4, _⟩ := h'
  have p0 := mul_bound n d' (by omega) (by omega) (by omega) (by omega)
  have p1 := mul_bound d n' (by omega) (by omega) (by omega) (by omega)
  have hne : d * n' ≠ 0 := by rw [ne_eq, Int.mul_eq_zero]; omega
  have Ho := Lib.hid (fun w => of_fits (n * d') (d * n') w (by omega) (by omega) (by omega) (by omega) hne hN hD)
  clear hN hD hne
  generalize fN (n * d') (d * n') = N at *
  generalize fD (n * d') (d * n') = D at *
  have t0 : (n' == 0) = false := beq_eq_false_iff_ne.2 h0
  clear h0
  go_enter Try.func33, Try.ntmps33
  go_wp2_with fail
  refine (Hb.out _).mono ?_
  rintro e w1 ⟨rfl, hb1⟩
  have hz : w.heap.size + 2 < w1.heap.size := by have := hb1.size; simp at this; omega
  obtain ⟨hcell, hfroz⟩ := bcell hb1
  go_wp2_with fail
  refine (Ho.out _).mono ?_
  rintro e w2 ⟨rfl, hb2⟩
  have hz2 : w.heap.size + 2 < w2.heap.size := by have := hb2.size; omega
  have c2 : ∀ j, w2.cell? ⟨w.heap.size + 2, j, none⟩ = #[Value.int .i64 0, .int .i64 0][j]? := fun j => by
    rw [hb2.cell (p := ⟨w.heap.size + 2, j, none⟩) hz, hb1.cell (p := ⟨w.heap.size + 2, j, none⟩) (by simp)]
    exact cell_of_row _ _ _ _ _ _ (heap_alloc3_new _ _ _ _)
  have c20 : w2.cell? ⟨w.heap.size + 2, 0, none⟩ = some (.int .i64 0) := c2 0
  have c21 : w2.cell? ⟨w.heap.size + 2, 1, none⟩ = some (.int .i64 0) := c2 1
  have f2 : ∀ j, w2.frozen? ⟨w.heap.size + 2, j, none⟩ = false := fun j => by
    rw [hb2.frozen (p := ⟨w.heap.size + 2, j, none⟩) hz, hb1.frozen (p := ⟨w.heap.size + 2, j, none⟩) (by simp)]
    exact frozen_of_row _ _ _ _ _ (heap_alloc3_new _ _ _ _)
  have hB := (below_alloc3 w (Obj.cells #[.int .i64 n, .int .i64 d] 44) (Obj.cells #[.int .i64 n', .int .i64 d'] 44) (Obj.cells #[.int .i64 0, .int .i64 0] 44)).trans (hb1.mono (by simp; omega))
  have hB2 := hB.trans (hb2.mono hB.size)
  clear hcell hfroz hb1 hb2 c2 hB
  go_wp2_with fail
  refine bodyPost_ret (v := .tuple #[.agg #[.int .i64 N, .int .i64 D], .int .i64 0]) (by simp [results, Try.results33, go_sem, c20, c21]) rfl ⟨rfl, ?_⟩
  exact (hB2.setCell (p := ⟨w.heap.size + 2, 0, none⟩) (show w.heap.size ≤ w.heap.size + 2 by omega) _).setCell (p := ⟨w.heap.size + 2, 1, none⟩) (show w.heap.size ≤ w.heap.size + 2 by omega) _
end Go.Proofs.Ytdbnnhfgohabdaa
