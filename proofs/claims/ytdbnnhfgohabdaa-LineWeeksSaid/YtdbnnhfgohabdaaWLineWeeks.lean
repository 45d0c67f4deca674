/- The walk of LineWeeks: it returns true at every input; it only computes. -/
import Derived.Test.YtdbnnhfgohabdaaLine1
namespace Go.Proofs.Ytdbnnhfgohabdaa.lineWeeks
open Go.RowKit
set_option linter.unusedVariables false

theorem two_mods (day wd : Int) (h1 : 0 ≤ wd) (h2 : wd ≤ 6) : (0 ≤ (wd - (day - 1)) % 7 ∧ (wd - (day - 1)) % 7 < 7 ∧ 0 ≤ (day - 1 - wd) % 7 ∧ (day - 1 - wd) % 7 < 7) ∧
    (((wd - (day - 1)) % 7 = 0 ∧ (day - 1 - wd) % 7 = 0) ∨ ((wd - (day - 1)) % 7 + (day - 1 - wd) % 7 = 7 ∧ 1 ≤ (wd - (day - 1)) % 7 ∧ 1 ≤ (day - 1 - wd) % 7)) ∧
    ∀ n : Int, (day + (wd - (day - 1)) % 7 + 7 * (n - 1) - 1) % 7 = wd := by
  refine ⟨by omega, by omega, fun n => by omega⟩

set_option maxHeartbeats 1000000 in
theorem walk0 (a b c : Int) (w : World) :
    Calls Try.prog 5 #[.int .i64 a, .int .i64 b, .int .i64 c] w fun e w' => e = .returned (.bool true) ∧ ∃ n, w' = w.drewN n := by
  have hd1 : -3000000 ≤ -3000000 + a % 6000000 := by omega
  have hd2 : -3000000 + a % 6000000 < 3000000 := by omega
  have hw1 : 0 ≤ b % 7 := by omega
  have hw2 : b % 7 ≤ 6 := by omega
  have hn1 : 1 ≤ 1 + c % 1000 := by omega
  have hn2 : 1 + c % 1000 ≤ 1000 := by omega
  go_enter Try.func5, Try.ntmps5
  go_wp2_with fail
  refine (nth_pos 1 0 1 _ (by omega) (by omega) (by omega) (by omega) (by omega) (by omega) (by decide)).mono ?_
  rintro e w' ⟨rfl, n1, rfl⟩
  go_wp2_with (go_at_call 18; refine (cut_any _ _ _ _ (by omega) (by omega) (by omega) (by omega)).mono ?_; rintro e w' ⟨rfl, rfl⟩)
  generalize -3000000 + a % 6000000 = day at *
  generalize b % 7 = wd at *
  generalize 1 + c % 1000 = n at *
  obtain ⟨⟨u1, u2, v1, v2⟩, uv, hwd⟩ := two_mods day wd hw1 hw2
  have hwd := Lib.hid (hwd n)
  refine (nth_pos day wd n _ (by omega) (by omega) (by omega) (by omega) (by omega) (by omega) (by omega)).mono ?_
  rintro e w' ⟨rfl, n2, rfl⟩
  go_wp2_with fail
  refine (nth_pos day wd (n + 1) _ (by omega) (by omega) (by omega) (by omega) (by omega) (by omega) (by omega)).mono ?_
  rintro e w' ⟨rfl, n3, rfl⟩
  go_wp2_with fail
  refine (Weekday_yes _ _ (by omega) (by omega)).mono ?_
  rintro e w' ⟨rfl, n4, rfl⟩
  rw [hwd.out]
  go_wp2_with fail
  refine (nth_pos day wd 1 _ (by omega) (by omega) (by omega) (by omega) (by omega) (by omega) (by omega)).mono ?_
  rintro e w' ⟨rfl, n5, rfl⟩
  go_wp2_with fail
  refine (nth_neg day wd (-1) _ (by omega) (by omega) (by omega) (by omega) (by omega) (by omega) (by omega)).mono ?_
  rintro e w' ⟨rfl, n6, rfl⟩
  clear hwd
  generalize (wd - (day - 1)) % 7 = u at *
  generalize (day - 1 - wd) % 7 = v at *
  rcases uv with ⟨r1, r2⟩ | ⟨r1, r2, r3⟩
  · subst r1 r2
    go_wp2_with fail
    go_ret
    exact ⟨rfl, _, rfl⟩
  · have r4 : u ≤ 7 - v := by omega
    have r5 : 7 - v ≤ u := by omega
    clear r1
    have s1 : (day + u == day - v) = false := beq_eq_false_iff_ne.2 (by omega)
    have s2 : (day + u == day) = false := beq_eq_false_iff_ne.2 (by omega)
    have s3 : (day + u - (day - v) == 7) = true := beq_iff_eq.2 (by omega)
    go_wp2_with fail
    go_ret
    exact ⟨rfl, _, rfl⟩

theorem walk (a : Int) (w0 : (Lit.int .i64 a).wf = true) (b : Int) (w1 : (Lit.int .i64 b).wf = true) (c : Int) (w2 : (Lit.int .i64 c).wf = true) (w : World) :
    Calls Try.prog 5 #[.int .i64 a, .int .i64 b, .int .i64 c] w fun e w' => e = .returned (.bool true) ∧ Below w.heap.size w w' :=
  (walk0 a b c w).mono fun _ _ ⟨he, n, hn⟩ => ⟨he, by rw [hn]; exact below_drewN w n⟩
end Go.Proofs.Ytdbnnhfgohabdaa.lineWeeks
