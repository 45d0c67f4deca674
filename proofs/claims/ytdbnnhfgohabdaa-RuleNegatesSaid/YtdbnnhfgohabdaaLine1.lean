/- Contracts of the laws' own mod and cut, and of package line: Is, Check, weekday, Weekday, Nth, Cycle, Instant, Split, IsInstant. -/
import Derived.Test.YtdbnnhfgohabdaaWhole1
namespace Go.Proofs.Ytdbnnhfgohabdaa
open Go.RowKit
set_option linter.unusedVariables false

theorem tmod_add_emod (a n : Int) (h : 1 ≤ n) : (a.tmod n + n) % n = a % n := by
  have h1 := Int.mul_tdiv_add_tmod a n
  rw [Int.add_emod_right]
  have : a.tmod n = a - n * a.tdiv n := by omega
  rw [this, Int.sub_mul_emod_self_left]

theorem lawmod_any (a n : Int) (w : World) (h1 : 1 ≤ n) (h2 : n ≤ 1000000000000000) :
    Calls Try.prog 27 #[.int .i64 a, .int .i64 n] w fun e w' => e = .returned (.int .i64 (a % n)) ∧ w = w' := by
  have ht := (tmod_facts a n (by omega)).2.2.2
  have e1 := tmod_add_emod a n h1
  have E := Lib.hid e1
  clear e1
  have b1 : 0 ≤ a.tmod n + n := by omega
  have b2 : a.tmod n + n ≤ 9223372036854775807 := by omega
  have b3 : ¬ n = 0 := by omega
  go_enter Try.func27, Try.ntmps27
  go_wp2
  go_ret
  exact ⟨ret_int E.out, rfl⟩

theorem cut_any (x low n : Int) (w : World) (h1 : 1 ≤ n) (h2 : n ≤ 1000000000000000) (h3 : -1000000000000000 ≤ low) (h4 : low ≤ 1000000000000000) :
    Calls Try.prog 18 #[.int .i64 x, .int .i64 low, .int .i64 n] w fun e w' => e = .returned (.int .i64 (low + x % n)) ∧ w = w' := by
  have b1 := Int.emod_nonneg x (show n ≠ 0 by omega)
  have b2 := Int.emod_lt_of_pos x (show 0 < n by omega)
  go_enter Try.func18, Try.ntmps18
  go_wp2_with (go_at_call 27; refine (lawmod_any _ _ _ (by omega) (by omega)).mono ?_; rintro e w' ⟨rfl, rfl⟩)
  go_ret
  exact ⟨rfl, rfl⟩

theorem is_yes (d : Int) (w : World) (h1 : -4000000 ≤ d) (h2 : d ≤ 4000000) :
    Calls Try.prog 51 #[.int .i64 d] w fun e w' => e = .returned (.bool true) ∧ w = w' := by
  go_enter Try.func51, Try.ntmps51
  go_wp2
  go_ret
  exact ⟨rfl, rfl⟩

theorem is_no (d : Int) (w : World) (h1 : d < -4000000 ∨ 4000000 < d) :
    Calls Try.prog 51 #[.int .i64 d] w fun e w' => e = .returned (.bool false) ∧ w = w' := by
  rcases h1 with h | h
  · go_enter Try.func51, Try.ntmps51
    go_wp2
    go_ret
    exact ⟨rfl, rfl⟩
  · have hd : decide (d ≤ 4000000) = false := by simp; omega
    go_enter Try.func51, Try.ntmps51
    go_wp2
    go_ret
    exact ⟨rfl, rfl⟩

theorem linecheck_yes (d : Int) (w : World) (h1 : -4000000 ≤ d) (h2 : d ≤ 4000000) :
    Calls Try.prog 52 #[.int .i64 d] w fun e w' => e = .returned (.int .i64 0) ∧ w = w' := by
  go_enter Try.func52, Try.ntmps52
  go_wp2_with (go_at_call 51; refine (is_yes _ _ h1 h2).mono ?_; rintro e w' ⟨rfl, rfl⟩)
  go_ret
  exact ⟨rfl, rfl⟩

theorem linecheck_no (d : Int) (w : World) (h1 : d < -4000000 ∨ 4000000 < d) :
    Calls Try.prog 52 #[.int .i64 d] w fun e w' => e = .returned (.int .i64 3) ∧ w = w' := by
  go_enter Try.func52, Try.ntmps52
  go_wp2_with (go_at_call 51; refine (is_no _ _ h1).mono ?_; rintro e w' ⟨rfl, rfl⟩)
  go_ret
  exact ⟨rfl, rfl⟩

theorem weekday_any (d : Int) (w : World) (h1 : -1000000000000000 ≤ d) (h2 : d ≤ 1000000000000000) :
    Calls Try.prog 54 #[.int .i64 d] w fun e w' => e = .returned (.int .i64 ((d - 1) % 7)) ∧ ∃ n, w' = w.drewN n := by
  go_enter Try.func54, Try.ntmps54
  go_wp2_with (go_at_call 53; refine (mod_pos _ _ _ (by omega) (by omega) (by omega) (by omega)).mono ?_; rintro e w' ⟨rfl, n, rfl⟩)
  go_ret
  exact ⟨rfl, _, rfl⟩

theorem Weekday_yes (d : Int) (w : World) (h1 : -4000000 ≤ d) (h2 : d ≤ 4000000) :
    Calls Try.prog 22 #[.int .i64 d] w fun e w' => e = .returned (.tuple #[.int .i64 ((d - 1) % 7), .int .i64 0]) ∧ ∃ n, w' = w.drewN n := by
  go_enter Try.func22, Try.ntmps22
  go_wp2_with (first
    | (go_at_call 52; refine (linecheck_yes _ _ h1 h2).mono ?_; rintro e w' ⟨rfl, rfl⟩)
    | (go_at_call 54; refine (weekday_any _ _ (by omega) (by omega)).mono ?_; rintro e w' ⟨rfl, n, rfl⟩))
  go_ret2
  exact ⟨rfl, _, rfl⟩

theorem nth_pos (day wd n : Int) (w : World) (h1 : -4000000 ≤ day) (h2 : day ≤ 4000000) (h3 : 0 ≤ wd) (h4 : wd ≤ 6) (h5 : 1 ≤ n) (h6 : n ≤ 1000000)
    (h7 : day + (wd - (day - 1)) % 7 + 7 * (n - 1) ≤ 4000000) :
    Calls Try.prog 21 #[.int .i64 day, .int .i64 wd, .int .i64 n] w fun e w' => e = .returned (.tuple #[.int .i64 (day + (wd - (day - 1)) % 7 + 7 * (n - 1)), .int .i64 0]) ∧ ∃ n, w' = w.drewN n := by
  have t1 : decide (wd < 0) = false := decide_eq_false (by omega)
  have t2 : decide (6 < wd) = false := decide_eq_false (by omega)
  have t3 : (n == 0) = false := beq_eq_false_iff_ne.2 (by omega)
  have t4 : decide (n < -1000000) = false := decide_eq_false (by omega)
  have t5 : decide (1000000 < n) = false := decide_eq_false (by omega)
  go_enter Try.func21, Try.ntmps21
  go_wp2_with (first
    | (go_at_call 52; refine (linecheck_yes _ _ h1 h2).mono ?_; rintro e w' ⟨rfl, rfl⟩)
    | (go_at_call 51; refine (is_yes _ _ (by omega) (by omega)).mono ?_; rintro e w' ⟨rfl, rfl⟩)
    | (go_at_call 54; refine (weekday_any _ _ (by omega) (by omega)).mono ?_; rintro e w' ⟨rfl, k, rfl⟩)
    | (go_at_call 53; refine (mod_pos _ _ _ (by omega) (by omega) (by omega) (by omega)).mono ?_; rintro e w' ⟨rfl, k, rfl⟩))
  go_ret2
  exact ⟨rfl, _, rfl⟩

theorem nth_neg (day wd n : Int) (w : World) (h1 : -4000000 ≤ day) (h2 : day ≤ 4000000) (h3 : 0 ≤ wd) (h4 : wd ≤ 6) (h5 : n ≤ -1) (h6 : -1000000 ≤ n)
    (h7 : -4000000 ≤ day - (day - 1 - wd) % 7 + 7 * (n + 1)) :
    Calls Try.prog 21 #[.int .i64 day, .int .i64 wd, .int .i64 n] w fun e w' => e = .returned (.tuple #[.int .i64 (day - (day - 1 - wd) % 7 + 7 * (n + 1)), .int .i64 0]) ∧ ∃ n, w' = w.drewN n := by
  have t1 : decide (wd < 0) = false := decide_eq_false (by omega)
  have t2 : decide (6 < wd) = false := decide_eq_false (by omega)
  have t3 : (n == 0) = false := beq_eq_false_iff_ne.2 (by omega)
  have t4 : decide (n < -1000000) = false := decide_eq_false (by omega)
  have t5 : decide (1000000 < n) = false := decide_eq_false (by omega)
  go_enter Try.func21, Try.ntmps21
  go_wp2_with (first
    | (go_at_call 52; refine (linecheck_yes _ _ h1 h2).mono ?_; rintro e w' ⟨rfl, rfl⟩)
    | (go_at_call 51; refine (is_yes _ _ (by omega) (by omega)).mono ?_; rintro e w' ⟨rfl, rfl⟩)
    | (go_at_call 54; refine (weekday_any _ _ (by omega) (by omega)).mono ?_; rintro e w' ⟨rfl, k, rfl⟩)
    | (go_at_call 53; refine (mod_pos _ _ _ (by omega) (by omega) (by omega) (by omega)).mono ?_; rintro e w' ⟨rfl, k, rfl⟩))
  go_ret2
  exact ⟨rfl, _, rfl⟩

theorem cycle_yes (day len off : Int) (w : World) (h1 : -4000000 ≤ day) (h2 : day ≤ 4000000) (h3 : 1 ≤ len) (h4 : len ≤ 2147483647) (h5 : -2147483647 ≤ off) (h6 : off ≤ 2147483647) :
    Calls Try.prog 20 #[.int .i64 day, .int .i64 len, .int .i64 off] w fun e w' => e = .returned (.tuple #[.int .i64 ((day + off) % len), .int .i64 0]) ∧ ∃ n, w' = w.drewN n := by
  go_enter Try.func20, Try.ntmps20
  go_wp2_with (first
    | (go_at_call 52; refine (linecheck_yes _ _ h1 h2).mono ?_; rintro e w' ⟨rfl, rfl⟩)
    | (go_at_call 53; refine (mod_pos _ _ _ (by omega) (by omega) (by omega) (by omega)).mono ?_; rintro e w' ⟨rfl, k, rfl⟩))
  go_ret2
  exact ⟨rfl, _, rfl⟩

theorem instant_yes (day ms : Int) (w : World) (h1 : -4000000 ≤ day) (h2 : day ≤ 4000000) (h3 : 0 ≤ ms) (h4 : ms < 86400000) :
    Calls Try.prog 19 #[.int .i64 day, .int .i64 ms] w fun e w' => e = .returned (.tuple #[.int .i64 (day * 86400000 + ms), .int .i64 0]) ∧ w = w' := by
  go_enter Try.func19, Try.ntmps19
  go_wp2_with (go_at_call 52; refine (linecheck_yes _ _ h1 h2).mono ?_; rintro e w' ⟨rfl, rfl⟩)
  go_ret2
  exact ⟨rfl, rfl⟩

theorem split_yes (t : Int) (w : World) (h1 : -345600000000000 ≤ t) (h2 : t < 345600086400000) :
    Calls Try.prog 17 #[.int .i64 t] w fun e w' => e = .returned (.tuple #[.int .i64 (t / 86400000), .int .i64 (t % 86400000), .int .i64 0]) ∧ ∃ n, w' = w.drewN n := by
  go_enter Try.func17, Try.ntmps17
  go_wp2_with (first
    | (go_at_call 16; refine (div_pos _ _ _ (by omega) (by omega) (by omega) (by omega)).mono ?_; rintro e w' ⟨rfl, k, rfl⟩)
    | (go_at_call 51; refine (is_yes _ _ (by omega) (by omega)).mono ?_; rintro e w' ⟨rfl, rfl⟩))
  go_ret3
  exact ⟨rfl, _, rfl⟩

theorem split_no (t : Int) (w : World) (h0 : -9223372036854775808 ≤ t) (h0' : t ≤ 9223372036854775807) (h1 : t < -345600000000000 ∨ 345600086400000 ≤ t) :
    Calls Try.prog 17 #[.int .i64 t] w fun e w' => e = .returned (.tuple #[.int .i64 0, .int .i64 0, .int .i64 3]) ∧ ∃ n, w' = w.drewN n := by
  go_enter Try.func17, Try.ntmps17
  go_wp2_with (first
    | (go_at_call 16; refine (div_day _ _ (by omega) (by omega)).mono ?_; rintro e w' ⟨rfl, k, rfl⟩)
    | (go_at_call 51; refine (is_no _ _ (by omega)).mono ?_; rintro e w' ⟨rfl, rfl⟩))
  go_ret3
  exact ⟨rfl, _, rfl⟩
end Go.Proofs.Ytdbnnhfgohabdaa
