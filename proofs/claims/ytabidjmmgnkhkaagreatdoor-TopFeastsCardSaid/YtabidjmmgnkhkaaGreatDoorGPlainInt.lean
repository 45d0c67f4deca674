/- PlainInt, Whole1, Line1, Whole3 -/
import Derived.Test.YtabidjmmgnkhkaaGreatDoorGBase
import Derived.Test.YtabidjmmgnkhkaaGreatDoorGPlainNum
/- Plain arithmetic, no program in sight. -/
namespace Go.Proofs.YtabidjmmgnkhkaaGreatDoor
set_option linter.unusedVariables false
theorem fdiv_unique (a b q r : Int) (e : a = b * q + r) (h : (0 < b ∧ 0 ≤ r ∧ r < b) ∨ (b < 0 ∧ r ≤ 0 ∧ b < r)) : a.fdiv b = q ∧ a.fmod b = r := by
 have hq : a.fdiv b = q := by
  rcases h with ⟨hb, h1, h2⟩ | ⟨hb, h1, h2⟩
  ·rw [Int.fdiv_eq_ediv_of_nonneg _ (by omega)]
   have := (Int.ediv_emod_unique (a := a) (r := r) (q := q) hb).2 ⟨by omega, h1, h2⟩
   exact this.1
  ·rw [← Int.neg_fdiv_neg, Int.fdiv_eq_ediv_of_nonneg _ (by omega)]
   have := (Int.ediv_emod_unique (a := -a) (b := -b) (r := -r) (q := q) (by omega)).2 ⟨by rw [Int.neg_mul]; omega, by omega, by omega⟩
   exact this.1
 refine ⟨hq, ?_⟩
 have := Int.mul_fdiv_add_fmod a b
 rw [hq] at this
 omega
theorem tmod_facts (a b : Int) (hb : b ≠ 0) : a = b * a.tdiv b + a.tmod b ∧ (0 < a.tmod b → 0 < a) ∧ (a.tmod b < 0 → a < 0) ∧ (a.tmod b).natAbs < b.natAbs := by
 refine ⟨(Int.mul_tdiv_add_tmod a b).symm, ?_, ?_, ?_⟩
 ·intro h
  by_cases ha : 0 < a
  ·exact ha
  ·have := Int.tmod_nonneg (a := -a) b (by omega)
   rw [Int.neg_tmod] at this; omega
 ·intro h
  by_cases ha : a < 0
  ·exact ha
  ·have := Int.tmod_nonneg (a := a) b (by omega)
   omega
 ·rw [Int.natAbs_tmod]
  exact Nat.mod_lt _ (by omega)
theorem div_same (a b : Int) (hb : b ≠ 0) (h : a.tmod b = 0 ∨ (a.tmod b < 0 ↔ b < 0)) : a.tdiv b = a.fdiv b ∧ a.tmod b = a.fmod b := by
 obtain ⟨h1, _, _, h4⟩ := tmod_facts a b hb
 have := fdiv_unique a b _ _ h1 (by omega)
 exact ⟨this.1.symm, this.2.symm⟩
theorem div_less (a b : Int) (hb : b ≠ 0) (h0 : a.tmod b ≠ 0) (h : ¬ (a.tmod b < 0 ↔ b < 0)) : a.tdiv b - 1 = a.fdiv b ∧ a.tmod b + b = a.fmod b := by
 obtain ⟨h1, _, _, h4⟩ := tmod_facts a b hb
 have := fdiv_unique a b (a.tdiv b - 1) (a.tmod b + b) (by rw [Int.mul_sub]; omega) (by omega)
 exact ⟨this.1.symm, this.2.symm⟩
theorem fdiv_pos (a b : Int) (hb : 0 < b) : a.fdiv b = a / b := Int.fdiv_eq_ediv_of_nonneg _ (by omega)
theorem fmod_pos (a b : Int) (hb : 0 < b) : a.fmod b = a % b := Int.fmod_eq_emod_of_nonneg _ (by omega)
end Go.Proofs.YtabidjmmgnkhkaaGreatDoor
/- Contracts of package whole: size, Div, Mod, Down, Up, Mul. -/
namespace Go.Proofs.YtabidjmmgnkhkaaGreatDoor
open Go.RowKit
set_option linter.unusedVariables false
theorem ret_int {k : IntKind} {a b : Int} (h : a = b) : Ending.returned (.int k a) = .returned (.int k b) := by rw [h]
theorem ret_int3 {k k' k'' : IntKind} {a b a' b' a'' b'' : Int} (h : a = b) (h' : a' = b') (h'' : a'' = b'') : Ending.returned (.tuple #[.int k a, .int k' a', .int k'' a'']) = .returned (.tuple #[.int k b, .int k' b', .int k'' b'']) := by rw [h, h', h'']
theorem tdiv_bound (a b : Int) (h1 : -9223372036854775807 ≤ a) (h2 : a ≤ 9223372036854775807) : -9223372036854775807 ≤ a.tdiv b ∧ a.tdiv b ≤ 9223372036854775807 := by
 have h := Int.natAbs_tdiv_le_natAbs a b
 omega
set_option maxHeartbeats 400000 in
theorem div_any (a b : Int) (w : World) (h1 : -9223372036854775807 ≤ a) (h2 : a ≤ 9223372036854775807) (h3 : -9223372036854775807 ≤ b) (h4 : b ≤ 9223372036854775807) (h0 : (b == 0) = false) :
  Calls Tryz.prog 88 #[.int .i64 a, .int .i64 b] w fun e w' => e = .returned (.tuple #[.int .i64 (a.fdiv b), .int .i64 (a.fmod b), .int .i64 0]) ∧ ∃ n, w' = w.drewN n := by
 have hb0 : ¬ b = 0 := by simpa using h0
 obtain ⟨hq1, hq2⟩ := tdiv_bound a b h1 h2
 have hr := (tmod_facts a b hb0).2.2.2
 have hw : IntKind.i64.wrap (a.tdiv b) = a.tdiv b := IntWalk.i64_in _ (by omega)
 by_cases hz : a.tmod b = 0
 ·obtain ⟨e1, e2⟩ := div_same a b hb0 (.inl hz)
  rw [← e1, ← e2]
  clear e1 e2
  go_enter Tryz.func88, Tryz.ntmps88
  go_wp2
  go_quiet (fail)
  go_wp2
  go_ret3
  exact ⟨ret_int3 rfl (by simp [hz]) rfl, _, rfl⟩
 ·by_cases hs : (a.tmod b < 0 ↔ b < 0)
  ·obtain ⟨e1, e2⟩ := div_same a b hb0 (.inr hs)
   rw [← e1, ← e2]
   clear e1 e2
   have hd : (!decide (a.tmod b < 0) == decide (b < 0)) = false := by simpa using hs
   have H := Lib.hid hs; clear hs
   go_enter Tryz.func88, Tryz.ntmps88
   go_wp2
   go_quiet (fail)
   go_wp2
   go_ret3
   exact ⟨rfl, _, rfl⟩
  ·obtain ⟨e1, e2⟩ := div_less a b hb0 hz hs
   rw [← e1, ← e2]
   clear e1 e2
   have hd : (!decide (a.tmod b < 0) == decide (b < 0)) = true := by simpa using hs
   have hl : -9223372036854775807 ≤ a.tmod b + b := by omega
   have hu : a.tmod b + b ≤ 9223372036854775807 := by omega
   have H := Lib.hid hs; clear hs
   go_enter Tryz.func88, Tryz.ntmps88
   go_wp2
   go_quiet (fail)
   go_wp2
   go_ret3
   exact ⟨rfl, _, rfl⟩
theorem div_zero (a : Int) (w : World) :
  Calls Tryz.prog 88 #[.int .i64 a, .int .i64 0] w fun e w' => e = .returned (.tuple #[.int .i64 0, .int .i64 0, .int .i64 1]) ∧ w = w' := by
 go_enter Tryz.func88, Tryz.ntmps88
 go_wp2
 go_ret3
 exact ⟨rfl, rfl⟩
theorem div_pos (a b : Int) (w : World) (h1 : -9223372036854775807 ≤ a) (h2 : a ≤ 9223372036854775807) (h3 : 1 ≤ b) (h4 : b ≤ 9223372036854775807) :
  Calls Tryz.prog 88 #[.int .i64 a, .int .i64 b] w fun e w' => e = .returned (.tuple #[.int .i64 (a / b), .int .i64 (a % b), .int .i64 0]) ∧ ∃ n, w' = w.drewN n := by
 have h := div_any a b w h1 h2 (by omega) h4 (by rw [beq_eq_false_iff_ne]; omega)
 rw [fdiv_pos a b (by omega), fmod_pos a b (by omega)] at h
 exact h
theorem mod_pos (a b : Int) (w : World) (h1 : -9223372036854775807 ≤ a) (h2 : a ≤ 9223372036854775807) (h3 : 1 ≤ b) (h4 : b ≤ 9223372036854775807) :
  Calls Tryz.prog 80 #[.int .i64 a, .int .i64 b] w fun e w' => e = .returned (.int .i64 (a % b)) ∧ ∃ n, w' = w.drewN n := by
 go_enter Tryz.func80, Tryz.ntmps80
 go_wp2_with (go_at_call 88; refine (div_pos _ _ _ h1 h2 h3 h4).mono ?_; rintro e w' ⟨rfl, n, rfl⟩)
 go_ret
 exact ⟨rfl, _, rfl⟩
theorem down_pos (a b : Int) (w : World) (h1 : -9223372036854775807 ≤ a) (h2 : a ≤ 9223372036854775807) (h3 : 1 ≤ b) (h4 : b ≤ 9223372036854775807) :
  Calls Tryz.prog 54 #[.int .i64 a, .int .i64 b] w fun e w' => e = .returned (.int .i64 (a / b)) ∧ ∃ n, w' = w.drewN n := by
 go_enter Tryz.func54, Tryz.ntmps54
 go_wp2_with (go_at_call 88; refine (div_pos _ _ _ h1 h2 h3 h4).mono ?_; rintro e w' ⟨rfl, n, rfl⟩)
 go_ret
 exact ⟨rfl, _, rfl⟩
end Go.Proofs.YtabidjmmgnkhkaaGreatDoor
/- Contracts of the laws' own mod and cut, and of package line: Is, Check, weekday, Weekday, Nth, Cycle, Instant, Split, IsInstant. -/
namespace Go.Proofs.YtabidjmmgnkhkaaGreatDoor
open Go.RowKit
set_option linter.unusedVariables false
theorem tmod_add_emod (a n : Int) (h : 1 ≤ n) : (a.tmod n + n) % n = a % n := by
 have h1 := Int.mul_tdiv_add_tmod a n
 rw [Int.add_emod_right]
 have : a.tmod n = a - n * a.tdiv n := by omega
 rw [this, Int.sub_mul_emod_self_left]
theorem is_yes (d : Int) (w : World) (h1 : -4000000 ≤ d) (h2 : d ≤ 4000000) :
  Calls Tryz.prog 53 #[.int .i64 d] w fun e w' => e = .returned (.bool true) ∧ w = w' := by
 go_enter Tryz.func53, Tryz.ntmps53
 go_wp2
 go_ret
 exact ⟨rfl, rfl⟩
theorem is_no (d : Int) (w : World) (h1 : d < -4000000 ∨ 4000000 < d) :
  Calls Tryz.prog 53 #[.int .i64 d] w fun e w' => e = .returned (.bool false) ∧ w = w' := by
 rcases h1 with h | h
 ·go_enter Tryz.func53, Tryz.ntmps53
  go_wp2
  go_ret
  exact ⟨rfl, rfl⟩
 ·have hd : decide (d ≤ 4000000) = false := by simp; omega
  go_enter Tryz.func53, Tryz.ntmps53
  go_wp2
  go_ret
  exact ⟨rfl, rfl⟩
end Go.Proofs.YtabidjmmgnkhkaaGreatDoor
/- Contracts of package whole: Gcd, natural, inRange, invert. -/
namespace Go.Proofs.YtabidjmmgnkhkaaGreatDoor
open Go.RowKit
set_option linter.unusedVariables false
end Go.Proofs.YtabidjmmgnkhkaaGreatDoor
