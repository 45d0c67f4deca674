/- Contracts of package line: Leap, NewYear, Lengths. -/
import Derived.Test.YtlihhlijombepaaDoorLine1
import Derived.Test.YtlihhlijombepaaDoorPlainDate
namespace Go.Proofs.YtlihhlijombepaaDoor
open Go.RowKit
set_option linter.unusedVariables false

theorem tmod_zero (y n : Int) : (y.tmod n = 0) ↔ (y % n = 0) := by
  rw [← Int.dvd_iff_tmod_eq_zero, Int.dvd_iff_emod_eq_zero]

theorem leap_yes (y : Int) (w : World) (h : leapB y = true) :
    Calls Tryd.prog 167 #[.int .i64 y] w fun e w' => e = .returned (.bool true) ∧ w = w' := by
  have H := Lib.hid h
  clear h
  have h0 := H.out
  simp only [leapB, decide_eq_true_eq] at h0
  have t1 : (y.tmod 4 == 0) = true := by rw [beq_iff_eq, tmod_zero]; exact h0.1
  by_cases h2 : y % 100 = 0
  · have t2 : (y.tmod 100 != 0) = false := by rw [bne_eq_false_iff_eq, tmod_zero]; exact h2
    have t3 : (y.tmod 400 == 0) = true := by rw [beq_iff_eq, tmod_zero]; omega
    clear h0 h2
    go_enter Tryd.func167, Tryd.ntmps167
    go_wp2
    go_ret
    exact ⟨rfl, rfl⟩
  · have t2 : (y.tmod 100 != 0) = true := by rw [bne_iff_ne, ne_eq, tmod_zero]; exact h2
    clear h0 h2
    go_enter Tryd.func167, Tryd.ntmps167
    go_wp2
    go_ret
    exact ⟨rfl, rfl⟩

theorem leap_no (y : Int) (w : World) (h : leapB y = false) :
    Calls Tryd.prog 167 #[.int .i64 y] w fun e w' => e = .returned (.bool false) ∧ w = w' := by
  have H := Lib.hid h
  clear h
  have h0 := H.out
  simp only [leapB, decide_eq_false_iff_not] at h0
  by_cases h1 : y % 4 = 0
  · have t1 : (y.tmod 4 == 0) = true := by rw [beq_iff_eq, tmod_zero]; exact h1
    have t2 : (y.tmod 100 != 0) = false := by rw [bne_eq_false_iff_eq, tmod_zero]; omega
    have t3 : (y.tmod 400 == 0) = false := by rw [beq_eq_false_iff_ne, ne_eq, tmod_zero]; omega
    clear h0 h1
    go_enter Tryd.func167, Tryd.ntmps167
    go_wp2
    go_ret
    exact ⟨rfl, rfl⟩
  · have t1 : (y.tmod 4 == 0) = false := by rw [beq_eq_false_iff_ne, ne_eq, tmod_zero]; exact h1
    clear h0 h1
    go_enter Tryd.func167, Tryd.ntmps167
    go_wp2
    go_ret
    exact ⟨rfl, rfl⟩

theorem ny_any (y : Int) (w : World) (h1 : -20000 ≤ y) (h2 : y ≤ 20000) :
    Calls Tryd.prog 166 #[.int .i64 y] w fun e w' => e = .returned (.int .i64 (ny y)) ∧ ∃ n, w' = w.drewN n := by
  go_enter Tryd.func166, Tryd.ntmps166
  go_wp2_with (go_at_call 86; refine (down_pos _ _ _ (by omega) (by omega) (by omega) (by omega)).mono ?_; rintro e w' ⟨rfl, n, rfl⟩)
  go_ret
  exact ⟨rfl, _, rfl⟩

theorem lengths_any (y : Int) (w : World) :
    Calls Tryd.prog 133 #[.int .i64 y] w fun e w' => e = .returned (.agg #[.int .i64 31, .int .i64 (feb y), .int .i64 31, .int .i64 30, .int .i64 31, .int .i64 30, .int .i64 31, .int .i64 31, .int .i64 30, .int .i64 31, .int .i64 30, .int .i64 31]) ∧ Below w.heap.size w w' := by
  unfold feb
  by_cases h : leapB y = true
  · rw [if_pos h]
    go_enter Tryd.func133, Tryd.ntmps133
    go_wp2_with (go_at_call 167; refine (leap_yes _ _ h).mono ?_; rintro e w' ⟨rfl, rfl⟩)
    refine bodyPost_ret (v := .agg #[.int .i64 31, .int .i64 29, .int .i64 31, .int .i64 30, .int .i64 31, .int .i64 30, .int .i64 31, .int .i64 31, .int .i64 30, .int .i64 31, .int .i64 30, .int .i64 31]) (by simp [results, Tryd.results133, go_sem]) rfl ⟨rfl, ?_⟩
    exact ((Below.refl _ _).alloc (Nat.le_refl _) _).alloc (by simp) _
  · rw [if_neg h]
    have h' : leapB y = false := by simpa using h
    go_enter Tryd.func133, Tryd.ntmps133
    go_wp2_with (go_at_call 167; refine (leap_no _ _ h').mono ?_; rintro e w' ⟨rfl, rfl⟩)
    refine bodyPost_ret (v := .agg #[.int .i64 31, .int .i64 28, .int .i64 31, .int .i64 30, .int .i64 31, .int .i64 30, .int .i64 31, .int .i64 31, .int .i64 30, .int .i64 31, .int .i64 30, .int .i64 31]) (by simp [results, Tryd.results133, go_sem]) rfl ⟨rfl, ?_⟩
    exact ((Below.refl _ _).alloc (Nat.le_refl _) _).alloc (by simp) _
end Go.Proofs.YtlihhlijombepaaDoor
