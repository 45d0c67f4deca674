/- The walk of LineBack: it returns true at every input; it writes nothing that was there. -/
import Derived.Test.YtdbnnhfgohabdaaLine4
namespace Go.Proofs.Ytdbnnhfgohabdaa.lineBack
open Go.RowKit
set_option linter.unusedVariables false

set_option maxHeartbeats 1000000 in
set_option maxRecDepth 100000 in
theorem walk (a : Int) (w0 : (Lit.int .i64 a).wf = true) (w : World) :
    Calls Try.prog 6 #[.int .i64 a] w fun e w' => e = .returned (.bool true) ∧ Below w.heap.size w w' := by
  have hd1 : -3600000 ≤ -3600000 + a % 7200000 := by omega
  have hd2 : -3600000 + a % 7200000 < 3600000 := by omega
  go_enter Try.func6, Try.ntmps6
  go_wp2_with fail
  refine (day_yes 1 0 1 _ (by omega) (by omega) ⟨by omega, by omega, by decide⟩).mono ?_
  rintro e w1 ⟨rfl, hb1⟩
  have e1 : dayOf 1 0 1 = 1 := by decide
  rw [e1]
  go_wp2_with (go_at_call 18; refine (cut_any _ _ _ _ (by omega) (by omega) (by omega) (by omega)).mono ?_; rintro e w' ⟨rfl, rfl⟩)
  generalize -3600000 + a % 7200000 = day at *
  refine (date_any day _ (by omega) (by omega)).mono ?_
  rintro e w2 ⟨y, k, d, rfl, hv, hd, hb2⟩
  have hy := year_in y k d hv (by omega) (by omega)
  have H := Lib.hid hd
  have HV := Lib.hid hv
  clear hd hv e1
  go_wp2_with fail
  refine (day_yes y k d _ (by omega) (by omega) HV.out).mono ?_
  rw [H.out]
  rintro e w3 ⟨rfl, hb3⟩
  go_wp2_with fail
  refine (date_any (day + 1) _ (by omega) (by omega)).mono ?_
  rintro e w4 ⟨y', k', d', rfl, hv', hd', hb4⟩
  have hn := next_date y y' k k' d d' HV.out hv' (by rw [H.out]; exact hd')
  clear hd'
  have hz3 := hb3.size
  have hz4 := hb4.size
  simp at hz3
  have cc : ∀ j, w4.cell? ⟨w2.heap.size, j, none⟩ = #[Value.int .i64 y, .int .i64 ((k : Int) + 1), .int .i64 d][j]? := fun j => by
    rw [hb4.cell (p := ⟨w2.heap.size, j, none⟩) (by simp; omega), hb3.cell (p := ⟨w2.heap.size, j, none⟩) (by simp), cell_of_row _ _ _ _ _ _ (heap_alloc_new _ _)]
  have c0 : w4.cell? ⟨w2.heap.size, 0, none⟩ = some (.int .i64 y) := cc 0
  have c1 : w4.cell? ⟨w2.heap.size, 1, none⟩ = some (.int .i64 ((k : Int) + 1)) := cc 1
  have c2 : w4.cell? ⟨w2.heap.size, 2, none⟩ = some (.int .i64 d) := cc 2
  have hz5 : w2.heap.size < w4.heap.size := by omega
  have hB : Below w.heap.size w w4 := by
    have b2 := hb1.trans (hb2.mono hb1.size)
    have b3 := b2.alloc b2.size (Obj.cells #[.int .i64 y, .int .i64 ((k : Int) + 1), .int .i64 d] 36)
    have b4 := b3.trans (hb3.mono b3.size)
    exact b4.trans (hb4.mono b4.size)
  have hd3 : d ≤ 31 := by have := HV.out.2.2; have := len_le (feb y) (by have := feb_or y; omega) k; omega
  have hd4 : 1 ≤ d := HV.out.2.1
  have hk1 : k < 12 := HV.out.1
  clear cc hv' hb1 hb2 hb3 hb4 H HV hz3 hz4
  rcases hn with ⟨rfl, rfl, rfl⟩ | ⟨rfl, rfl, rfl⟩ | ⟨rfl, rfl, rfl, rfl⟩
  · go_wp2_with fail
    go_ret
    exact ⟨rfl, hB.alloc hB.size _⟩
  · have t1 : ((k : Int) + 1 + 1 == (k : Int) + 1) = false := beq_eq_false_iff_ne.2 (by omega)
    go_wp2_with fail
    go_ret
    exact ⟨rfl, hB.alloc hB.size _⟩
  · have t1 : (y + 1 == y) = false := beq_eq_false_iff_ne.2 (by omega)
    go_wp2_with fail
    go_ret
    exact ⟨rfl, hB.alloc hB.size _⟩
end Go.Proofs.Ytdbnnhfgohabdaa.lineBack
