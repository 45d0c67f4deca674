/- Contracts of the laws' own mod and cut, and of package line: Is, Check, weekday, Weekday, Nth, Cycle, Instant, Split, IsInstant. -/
import Derived.Test.YtlihhlijombepaaDoorWhole1
namespace Go.Proofs.YtlihhlijombepaaDoor
open Go.RowKit
set_option linter.unusedVariables false

theorem tmod_add_emod (a n : Int) (h : 1 ≤ n) : (a.tmod n + n) % n = a % n := by
  have h1 := Int.mul_tdiv_add_tmod a n
  rw [Int.add_emod_right]
  have : a.tmod n = a - n * a.tdiv n := by omega
  rw [this, Int.sub_mul_emod_self_left]

theorem lawmod_any (a n : Int) (w : World) (h1 : 1 ≤ n) (h2 : n ≤ 1000000000000000) :
    Calls Tryd.prog 69 #[.int .i64 a, .int .i64 n] w fun e w' => e = .returned (.int .i64 (a % n)) ∧ w = w' := by
  have ht := (tmod_facts a n (by omega)).2.2.2
  have e1 := tmod_add_emod a n h1
  have E := Lib.hid e1
  clear e1
  have b1 : 0 ≤ a.tmod n + n := by omega
  have b2 : a.tmod n + n ≤ 9223372036854775807 := by omega
  have b3 : ¬ n = 0 := by omega
  go_enter Tryd.func69, Tryd.ntmps69
  go_wp2
  go_ret
  exact ⟨ret_int E.out, rfl⟩

theorem cut_any (x low n : Int) (w : World) (h1 : 1 ≤ n) (h2 : n ≤ 1000000000000000) (h3 : -1000000000000000 ≤ low) (h4 : low ≤ 1000000000000000) :
    Calls Tryd.prog 24 #[.int .i64 x, .int .i64 low, .int .i64 n] w fun e w' => e = .returned (.int .i64 (low + x % n)) ∧ w = w' := by
  have b1 := Int.emod_nonneg x (show n ≠ 0 by omega)
  have b2 := Int.emod_lt_of_pos x (show 0 < n by omega)
  go_enter Tryd.func24, Tryd.ntmps24
  go_wp2_with (go_at_call 69; refine (lawmod_any _ _ _ (by omega) (by omega)).mono ?_; rintro e w' ⟨rfl, rfl⟩)
  go_ret
  exact ⟨rfl, rfl⟩

theorem is_yes (d : Int) (w : World) (h1 : -4000000 ≤ d) (h2 : d ≤ 4000000) :
    Calls Tryd.prog 94 #[.int .i64 d] w fun e w' => e = .returned (.bool true) ∧ w = w' := by
  go_enter Tryd.func94, Tryd.ntmps94
  go_wp2
  go_ret
  exact ⟨rfl, rfl⟩

theorem is_no (d : Int) (w : World) (h1 : d < -4000000 ∨ 4000000 < d) :
    Calls Tryd.prog 94 #[.int .i64 d] w fun e w' => e = .returned (.bool false) ∧ w = w' := by
  rcases h1 with h | h
  · go_enter Tryd.func94, Tryd.ntmps94
    go_wp2
    go_ret
    exact ⟨rfl, rfl⟩
  · have hd : decide (d ≤ 4000000) = false := by simp; omega
    go_enter Tryd.func94, Tryd.ntmps94
    go_wp2
    go_ret
    exact ⟨rfl, rfl⟩

theorem linecheck_yes (d : Int) (w : World) (h1 : -4000000 ≤ d) (h2 : d ≤ 4000000) :
    Calls Tryd.prog 168 #[.int .i64 d] w fun e w' => e = .returned (.int .i64 0) ∧ w = w' := by
  go_enter Tryd.func168, Tryd.ntmps168
  go_wp2_with (go_at_call 94; refine (is_yes _ _ h1 h2).mono ?_; rintro e w' ⟨rfl, rfl⟩)
  go_ret
  exact ⟨rfl, rfl⟩

theorem linecheck_no (d : Int) (w : World) (h1 : d < -4000000 ∨ 4000000 < d) :
    Calls Tryd.prog 168 #[.int .i64 d] w fun e w' => e = .returned (.int .i64 3) ∧ w = w' := by
  go_enter Tryd.func168, Tryd.ntmps168
  go_wp2_with (go_at_call 94; refine (is_no _ _ h1).mono ?_; rintro e w' ⟨rfl, rfl⟩)
  go_ret
  exact ⟨rfl, rfl⟩

theorem weekday_any (d : Int) (w : World) (h1 : -1000000000000000 ≤ d) (h2 : d ≤ 1000000000000000) :
    Calls Tryd.prog 170 #[.int .i64 d] w fun e w' => e = .returned (.int .i64 ((d - 1) % 7)) ∧ ∃ n, w' = w.drewN n := by
  go_enter Tryd.func170, Tryd.ntmps170
  go_wp2_with (go_at_call 169; refine (mod_pos _ _ _ (by omega) (by omega) (by omega) (by omega)).mono ?_; rintro e w' ⟨rfl, n, rfl⟩)
  go_ret
  exact ⟨rfl, _, rfl⟩

theorem nth_pos (day wd n : Int) (w : World) (h1 : -4000000 ≤ day) (h2 : day ≤ 4000000) (h3 : 0 ≤ wd) (h4 : wd ≤ 6) (h5 : 1 ≤ n) (h6 : n ≤ 1000000)
    (h7 : day + (wd - (day - 1)) % 7 + 7 * (n - 1) ≤ 4000000) :
    Calls Tryd.prog 134 #[.int .i64 day, .int .i64 wd, .int .i64 n] w fun e w' => e = .returned (.tuple #[.int .i64 (day + (wd - (day - 1)) % 7 + 7 * (n - 1)), .int .i64 0]) ∧ ∃ n, w' = w.drewN n := by
  have t1 : decide (wd < 0) = false := decide_eq_false (by omega)
  have t2 : decide (6 < wd) = false := decide_eq_false (by omega)
  have t3 : (n == 0) = false := beq_eq_false_iff_ne.2 (by omega)
  have t4 : decide (n < -1000000) = false := decide_eq_false (by omega)
  have t5 : decide (1000000 < n) = false := decide_eq_false (by omega)
  go_enter Tryd.func134, Tryd.ntmps134
  go_wp2_with (first
    | (go_at_call 168; refine (linecheck_yes _ _ h1 h2).mono ?_; rintro e w' ⟨rfl, rfl⟩)
    | (go_at_call 94; refine (is_yes _ _ (by omega) (by omega)).mono ?_; rintro e w' ⟨rfl, rfl⟩)
    | (go_at_call 170; refine (weekday_any _ _ (by omega) (by omega)).mono ?_; rintro e w' ⟨rfl, k, rfl⟩)
    | (go_at_call 169; refine (mod_pos _ _ _ (by omega) (by omega) (by omega) (by omega)).mono ?_; rintro e w' ⟨rfl, k, rfl⟩))
  go_ret2
  exact ⟨rfl, _, rfl⟩

theorem nth_neg (day wd n : Int) (w : World) (h1 : -4000000 ≤ day) (h2 : day ≤ 4000000) (h3 : 0 ≤ wd) (h4 : wd ≤ 6) (h5 : n ≤ -1) (h6 : -1000000 ≤ n)
    (h7 : -4000000 ≤ day - (day - 1 - wd) % 7 + 7 * (n + 1)) :
    Calls Tryd.prog 134 #[.int .i64 day, .int .i64 wd, .int .i64 n] w fun e w' => e = .returned (.tuple #[.int .i64 (day - (day - 1 - wd) % 7 + 7 * (n + 1)), .int .i64 0]) ∧ ∃ n, w' = w.drewN n := by
  have t1 : decide (wd < 0) = false := decide_eq_false (by omega)
  have t2 : decide (6 < wd) = false := decide_eq_false (by omega)
  have t3 : (n == 0) = false := beq_eq_false_iff_ne.2 (by omega)
  have t4 : decide (n < -1000000) = false := decide_eq_false (by omega)
  have t5 : decide (1000000 < n) = false := decide_eq_false (by omega)
  go_enter Tryd.func134, Tryd.ntmps134
  go_wp2_with (first
    | (go_at_call 168; refine (linecheck_yes _ _ h1 h2).mono ?_; rintro e w' ⟨rfl, rfl⟩)
    | (go_at_call 94; refine (is_yes _ _ (by omega) (by omega)).mono ?_; rintro e w' ⟨rfl, rfl⟩)
    | (go_at_call 170; refine (weekday_any _ _ (by omega) (by omega)).mono ?_; rintro e w' ⟨rfl, k, rfl⟩)
    | (go_at_call 169; refine (mod_pos _ _ _ (by omega) (by omega) (by omega) (by omega)).mono ?_; rintro e w' ⟨rfl, k, rfl⟩))
  go_ret2
  exact ⟨rfl, _, rfl⟩

end Go.Proofs.YtlihhlijombepaaDoor
