/- Contract of line.Day at a date that exists. -/
import Derived.Test.YtlihhlijombepaaDoorLine3
namespace Go.Proofs.YtlihhlijombepaaDoor
open Go.RowKit
set_option linter.unusedVariables false

theorem slice12 (g k : Nat) (hk : k ≤ 12) (W : World) : (Instr.sliceAt 187 (.pointer (some ⟨g, 0, none⟩)) none (some (.int .i64 (k : Int))) none).run Tryd.prog W = .ok (.slice (some ⟨g, 0, none⟩) k 12) W := by
  have hl : Tryd.prog.arrayLen 187 = 12 := by kernel_rfl
  have he : Tryd.prog.elem 187 = 3 := by kernel_rfl
  rw [run_sliceAt_array_h W 187 ⟨g, 0, none⟩ (by rw [hl, he]; exact Tryd.underlying187) .i64 k (by omega) (by rw [hl]; omega), he, hl]
  simp [go_sem]

set_option maxHeartbeats 1000000 in
set_option maxRecDepth 100000 in
theorem day_yes (y : Int) (k : Nat) (d : Int) (w : World) (h1 : -10000 ≤ y) (h2 : y ≤ 10000) (hv : valid y k d) :
    Calls Tryd.prog 132 #[.agg #[.int .i64 y, .int .i64 ((k : Int) + 1), .int .i64 d]] w fun e w' => e = .returned (.tuple #[.int .i64 (dayOf y k d), .int .i64 0]) ∧ Below w.heap.size w w' := by
  obtain ⟨hk, hd1, hd2⟩ := hv
  have hf := feb_or y
  have hbn := ny_lo y (by omega) (by omega)
  have hu := len_le (feb y) (by omega) k
  unfold dayOf
  have HL := Lib.hid (lengths_any y)
  generalize feb y = f at *
  have t1 : decide (y < -10000) = false := decide_eq_false (by omega)
  have t2 : decide (10000 < y) = false := decide_eq_false (by omega)
  go_enter Tryd.func132, Tryd.ntmps132
  go_wp2_with (go_at_call 133; refine (HL.out _).mono ?_; rintro e w1 ⟨rfl, hb1⟩)
  have hz1 : w.heap.size < w1.heap.size := by have := hb1.size; simp at this; omega
  have hB : Below w.heap.size w (w1.alloc (Obj.cells #[.int .i64 31, .int .i64 f, .int .i64 31, .int .i64 30, .int .i64 31, .int .i64 30, .int .i64 31, .int .i64 31, .int .i64 30, .int .i64 31, .int .i64 30, .int .i64 31] 187)) := (((Below.refl _ _).alloc (Nat.le_refl _) _).trans (hb1.mono (by simp))).alloc (by omega) _
  have cc : ∀ j, (w1.alloc (Obj.cells #[.int .i64 31, .int .i64 f, .int .i64 31, .int .i64 30, .int .i64 31, .int .i64 30, .int .i64 31, .int .i64 31, .int .i64 30, .int .i64 31, .int .i64 30, .int .i64 31] 187)).cell? ⟨w.heap.size, j, none⟩ = #[Value.int .i64 y, .int .i64 ((k : Int) + 1), .int .i64 d][j]? := fun j => by
    rw [World.cell?_alloc_lt _ _ _ (by simpa using hz1), hb1.cell (p := ⟨w.heap.size, j, none⟩) (by simp), cell_of_row _ _ _ _ _ _ (heap_alloc_new _ _)]
  have c0 : (w1.alloc (Obj.cells #[.int .i64 31, .int .i64 f, .int .i64 31, .int .i64 30, .int .i64 31, .int .i64 30, .int .i64 31, .int .i64 31, .int .i64 30, .int .i64 31, .int .i64 30, .int .i64 31] 187)).cell? ⟨w.heap.size, 0, none⟩ = some (.int .i64 y) := cc 0
  have c1 : (w1.alloc (Obj.cells #[.int .i64 31, .int .i64 f, .int .i64 31, .int .i64 30, .int .i64 31, .int .i64 30, .int .i64 31, .int .i64 31, .int .i64 30, .int .i64 31, .int .i64 30, .int .i64 31] 187)).cell? ⟨w.heap.size, 1, none⟩ = some (.int .i64 ((k : Int) + 1)) := cc 1
  have c2 : (w1.alloc (Obj.cells #[.int .i64 31, .int .i64 f, .int .i64 31, .int .i64 30, .int .i64 31, .int .i64 30, .int .i64 31, .int .i64 31, .int .i64 30, .int .i64 31, .int .i64 30, .int .i64 31] 187)).cell? ⟨w.heap.size, 2, none⟩ = some (.int .i64 d) := cc 2
  have hbk := heap_alloc_new w1 (Obj.cells #[.int .i64 31, .int .i64 f, .int .i64 31, .int .i64 30, .int .i64 31, .int .i64 30, .int .i64 31, .int .i64 31, .int .i64 30, .int .i64 31, .int .i64 30, .int .i64 31] 187)
  generalize w1.alloc (Obj.cells #[.int .i64 31, .int .i64 f, .int .i64 31, .int .i64 30, .int .i64 31, .int .i64 30, .int .i64 31, .int .i64 31, .int .i64 30, .int .i64 31, .int .i64 30, .int .i64 31] 187) = W2 at *
  generalize w1.heap.size = g at *
  generalize hbe : w.heap.size = b0 at *
  have Hbe := Lib.hid hbe
  clear hbe
  have hcell := cell_lens W2 g f hbk k hk
  clear cc hb1
  have hwk : IntKind.i64.wrap (k : Int) = (k : Int) := IntWalk.i64_in _ (by omega)
  have k0 : (0 : Int) ≤ (k : Int) := by omega
  have k1 : (k : Int) < 12 := by omega
  have t3 : decide ((k : Int) + 1 < 1) = false := decide_eq_false (by omega)
  have t4 : decide (12 < (k : Int) + 1) = false := decide_eq_false (by omega)
  have t5 : decide (d < 1) = false := decide_eq_false (by omega)
  have t6 : decide (len f k < d) = false := decide_eq_false (by omega)
  go_quiet (fail)
  go_wp2_with fail
  replace c0 : (W2.drewN nq).cell? ⟨b0, 0, none⟩ = some (.int .i64 y) := c0
  replace c1 : (W2.drewN nq).cell? ⟨b0, 1, none⟩ = some (.int .i64 ((k : Int) + 1)) := c1
  replace c2 : (W2.drewN nq).cell? ⟨b0, 2, none⟩ = some (.int .i64 d) := c2
  replace hbk : (W2.drewN nq).heap[g]? = some (.cells #[.int .i64 31, .int .i64 f, .int .i64 31, .int .i64 30, .int .i64 31, .int .i64 30, .int .i64 31, .int .i64 31, .int .i64 30, .int .i64 31, .int .i64 30, .int .i64 31] 187 (0, 0)) := hbk
  replace hB := below_drew hB nq
  clear hcell
  generalize W2.drewN nq = W3 at *
  have hw1 : IntKind.i64.wrap (ny y + d) = ny y + d := IntWalk.i64_in _ (by omega)
  have hw2 : IntKind.i64.wrap (ny y + d - 1) = ny y + d - 1 := IntWalk.i64_in _ (by omega)
  go_quiet ((go_at_call 166; exact Calls.quiet_of (ny_any _ _ (by omega) (by omega))))
  clear hw1 hw2
  replace hbk : (W3.drewN nq).heap[g]? = some (.cells #[.int .i64 31, .int .i64 f, .int .i64 31, .int .i64 30, .int .i64 31, .int .i64 30, .int .i64 31, .int .i64 31, .int .i64 30, .int .i64 31, .int .i64 30, .int .i64 31] 187 (0, 0)) := hbk
  replace hB := below_drew hB nq
  replace c1 : (W3.drewN nq).cell? ⟨b0, 1, none⟩ = some (.int .i64 ((k : Int) + 1)) := c1
  clear c0 c2 t1 t2 t3 t4 t5 t6 hwk
  generalize W3.drewN nq = W4 at *
  have hsl := slice12 g k (by omega)
  go_wp2_with fail
  go_loop [5, 7, 54] (fun o _ i => ∃ j : Nat, j ≤ k ∧ i = .int .i64 j ∧ o = .int .i64 (ny y + d - 1 + cum f j)) (fun _ _ i => (12 - intOf i).toNat)
  case atStart => exact ⟨0, by omega, rfl, by simp [cum]⟩
  case round =>
    obtain ⟨j, hj, rfl, rfl⟩ := hrel
    have cs : Hid (cum f (j + 1) = cum f j + len f j) := rfl
    have hcu : 0 ≤ cum f j := by have := cum_mono f (by omega) 0 j (by omega); simpa [cum] using this
    have hcv : cum f j ≤ 400 := by have := cum_mono f (by omega) j (12 - j) (by omega); rw [show j + (12 - j) = 12 from by omega, cum_12] at this; omega
    have hlj := len_le f (by omega) j
    by_cases hc : j < k
    · have hcell := cell_lens W4 g f hbk j (by omega)
      have hlp := len_pos f (by omega) j (by omega)
      go_wp2_with fail
      go_round
      case rel => exact ⟨j + 1, by omega, by go_num, by rw [cs.out]; go_num⟩
      case measure => simp [intOf]; omega
    · go_wp2_with fail
      go_ret2
      obtain rfl : j = k := by omega
      exact ⟨ret_int2 (by omega) rfl, by rw [Hbe.out]; exact hB⟩
end Go.Proofs.YtlihhlijombepaaDoor
