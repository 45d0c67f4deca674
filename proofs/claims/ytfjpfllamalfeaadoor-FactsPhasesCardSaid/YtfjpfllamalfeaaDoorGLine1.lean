/- Line1 -/
import Derived.Test.YtfjpfllamalfeaaDoorGShMul64
/- Contracts of the laws' own mod and cut, and of package line: Is, Check, weekday, Weekday, Nth, Cycle, Instant, Split, IsInstant. -/
namespace Go.Proofs.YtfjpfllamalfeaaDoor
open Go.RowKit
set_option linter.unusedVariables false

theorem tmod_add_emod (a n : Int) (h : 1 ≤ n) : (a.tmod n + n) % n = a % n := by
  have h1 := Int.mul_tdiv_add_tmod a n
  rw [Int.add_emod_right]
  have : a.tmod n = a - n * a.tdiv n := by omega
  rw [this, Int.sub_mul_emod_self_left]

theorem lawmod_any (a n : Int) (w : World) (h1 : 1 ≤ n) (h2 : n ≤ 1000000000000000) :
    Calls Tryd.prog 9 #[.int .i64 a, .int .i64 n] w fun e w' => e = .returned (.int .i64 (a % n)) ∧ w = w' := by
  have ht := (tmod_facts a n (by omega)).2.2.2
  have e1 := tmod_add_emod a n h1
  have E := Lib.hid e1
  clear e1
  have b1 : 0 ≤ a.tmod n + n := by omega
  have b2 : a.tmod n + n ≤ 9223372036854775807 := by omega
  have b3 : ¬ n = 0 := by omega
  go_enter Tryd.func9, Tryd.ntmps9
  go_wp2
  go_ret
  exact ⟨ret_int E.out, rfl⟩

theorem cut_any (x low n : Int) (w : World) (h1 : 1 ≤ n) (h2 : n ≤ 1000000000000000) (h3 : -1000000000000000 ≤ low) (h4 : low ≤ 1000000000000000) :
    Calls Tryd.prog 5 #[.int .i64 x, .int .i64 low, .int .i64 n] w fun e w' => e = .returned (.int .i64 (low + x % n)) ∧ w = w' := by
  have b1 := Int.emod_nonneg x (show n ≠ 0 by omega)
  have b2 := Int.emod_lt_of_pos x (show 0 < n by omega)
  go_enter Tryd.func5, Tryd.ntmps5
  go_wp2_with (go_at_call 9; refine (lawmod_any _ _ _ (by omega) (by omega)).mono ?_; rintro e w' ⟨rfl, rfl⟩)
  go_ret
  exact ⟨rfl, rfl⟩

theorem is_yes (d : Int) (w : World) (h1 : -4000000 ≤ d) (h2 : d ≤ 4000000) :
    Calls Tryd.prog 13 #[.int .i64 d] w fun e w' => e = .returned (.bool true) ∧ w = w' := by
  go_enter Tryd.func13, Tryd.ntmps13
  go_wp2
  go_ret
  exact ⟨rfl, rfl⟩

theorem is_no (d : Int) (w : World) (h1 : d < -4000000 ∨ 4000000 < d) :
    Calls Tryd.prog 13 #[.int .i64 d] w fun e w' => e = .returned (.bool false) ∧ w = w' := by
  rcases h1 with h | h
  · go_enter Tryd.func13, Tryd.ntmps13
    go_wp2
    go_ret
    exact ⟨rfl, rfl⟩
  · have hd : decide (d ≤ 4000000) = false := by simp; omega
    go_enter Tryd.func13, Tryd.ntmps13
    go_wp2
    go_ret
    exact ⟨rfl, rfl⟩

theorem split_yes (t : Int) (w : World) (h1 : -345600000000000 ≤ t) (h2 : t < 345600086400000) :
    Calls Tryd.prog 7 #[.int .i64 t] w fun e w' => e = .returned (.tuple #[.int .i64 (t / 86400000), .int .i64 (t % 86400000), .int .i64 0]) ∧ ∃ n, w' = w.drewN n := by
  go_enter Tryd.func7, Tryd.ntmps7
  go_wp2_with (first
    | (go_at_call 12; refine (div_pos _ _ _ (by omega) (by omega) (by omega) (by omega)).mono ?_; rintro e w' ⟨rfl, k, rfl⟩)
    | (go_at_call 13; refine (is_yes _ _ (by omega) (by omega)).mono ?_; rintro e w' ⟨rfl, rfl⟩))
  go_ret3
  exact ⟨rfl, _, rfl⟩

theorem split_no (t : Int) (w : World) (h0 : -9223372036854775808 ≤ t) (h0' : t ≤ 9223372036854775807) (h1 : t < -345600000000000 ∨ 345600086400000 ≤ t) :
    Calls Tryd.prog 7 #[.int .i64 t] w fun e w' => e = .returned (.tuple #[.int .i64 0, .int .i64 0, .int .i64 3]) ∧ ∃ n, w' = w.drewN n := by
  go_enter Tryd.func7, Tryd.ntmps7
  go_wp2_with (first
    | (go_at_call 12; refine (div_day _ _ (by omega) (by omega)).mono ?_; rintro e w' ⟨rfl, k, rfl⟩)
    | (go_at_call 13; refine (is_no _ _ (by omega)).mono ?_; rintro e w' ⟨rfl, rfl⟩))
  go_ret3
  exact ⟨rfl, _, rfl⟩
end Go.Proofs.YtfjpfllamalfeaaDoor
