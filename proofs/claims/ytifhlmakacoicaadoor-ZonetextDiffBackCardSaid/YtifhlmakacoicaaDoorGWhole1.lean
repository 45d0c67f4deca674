/- Whole1, Line1, Whole3 -/
import Derived.Test.YtifhlmakacoicaaDoorGBase
import Derived.Test.YtifhlmakacoicaaDoorGNumShp
import Derived.Test.YtifhlmakacoicaaDoorGPlainNum
/- Contracts of package whole: size, Div, Mod, Down, Up, Mul. -/
namespace Go.Proofs.YtifhlmakacoicaaDoor
open Go.RowKit
set_option linter.unusedVariables false

theorem ret_int {k : IntKind} {a b : Int} (h : a = b) : Ending.returned (.int k a) = .returned (.int k b) := by rw [h]

theorem ret_int2 {k k' : IntKind} {a b a' b' : Int} (h : a = b) (h' : a' = b') : Ending.returned (.tuple #[.int k a, .int k' a']) = .returned (.tuple #[.int k b, .int k' b']) := by rw [h, h']
theorem ret_int3 {k k' k'' : IntKind} {a b a' b' a'' b'' : Int} (h : a = b) (h' : a' = b') (h'' : a'' = b'') : Ending.returned (.tuple #[.int k a, .int k' a', .int k'' a'']) = .returned (.tuple #[.int k b, .int k' b', .int k'' b'']) := by rw [h, h', h'']
theorem wf_bounds {a : Int} (h : (Lit.int .i64 a).wf = true) : -9223372036854775808 ≤ a ∧ a ≤ 9223372036854775807 := bounds_i64 h
theorem u64_neg (a : Int) (h1 : -9223372036854775808 ≤ a) (h : a < 0) : IntKind.u64.wrap (-IntKind.u64.wrap a) = (a.natAbs : Nat) := by
  simp only [IntKind.wrap_u64]; omega

theorem tdiv_bound (a b : Int) (h1 : -9223372036854775807 ≤ a) (h2 : a ≤ 9223372036854775807) : -9223372036854775807 ≤ a.tdiv b ∧ a.tdiv b ≤ 9223372036854775807 := by
  have h := Int.natAbs_tdiv_le_natAbs a b
  omega

set_option maxHeartbeats 400000 in
theorem div_any (a b : Int) (w : World) (h1 : -9223372036854775807 ≤ a) (h2 : a ≤ 9223372036854775807) (h3 : -9223372036854775807 ≤ b) (h4 : b ≤ 9223372036854775807) (h0 : (b == 0) = false) :
    Calls Tryd.prog 46 #[.int .i64 a, .int .i64 b] w fun e w' => e = .returned (.tuple #[.int .i64 (a.fdiv b), .int .i64 (a.fmod b), .int .i64 0]) ∧ ∃ n, w' = w.drewN n := by
  have hb0 : ¬ b = 0 := by simpa using h0
  obtain ⟨hq1, hq2⟩ := tdiv_bound a b h1 h2
  have hr := (tmod_facts a b hb0).2.2.2
  have hw : IntKind.i64.wrap (a.tdiv b) = a.tdiv b := IntWalk.i64_in _ (by omega)
  by_cases hz : a.tmod b = 0
  · obtain ⟨e1, e2⟩ := div_same a b hb0 (.inl hz)
    rw [← e1, ← e2]
    clear e1 e2
    go_enter Tryd.func46, Tryd.ntmps46
    go_wp2
    go_quiet (fail)
    go_wp2
    go_ret3
    exact ⟨ret_int3 rfl (by simp [hz]) rfl, _, rfl⟩
  · by_cases hs : (a.tmod b < 0 ↔ b < 0)
    · obtain ⟨e1, e2⟩ := div_same a b hb0 (.inr hs)
      rw [← e1, ← e2]
      clear e1 e2
      have hd : (!decide (a.tmod b < 0) == decide (b < 0)) = false := by simpa using hs
      have H := Lib.hid hs; clear hs
      go_enter Tryd.func46, Tryd.ntmps46
      go_wp2
      go_quiet (fail)
      go_wp2
      go_ret3
      exact ⟨rfl, _, rfl⟩
    · obtain ⟨e1, e2⟩ := div_less a b hb0 hz hs
      rw [← e1, ← e2]
      clear e1 e2
      have hd : (!decide (a.tmod b < 0) == decide (b < 0)) = true := by simpa using hs
      have hl : -9223372036854775807 ≤ a.tmod b + b := by omega
      have hu : a.tmod b + b ≤ 9223372036854775807 := by omega
      have H := Lib.hid hs; clear hs
      go_enter Tryd.func46, Tryd.ntmps46
      go_wp2
      go_quiet (fail)
      go_wp2
      go_ret3
      exact ⟨rfl, _, rfl⟩

theorem div_zero (a : Int) (w : World) :
    Calls Tryd.prog 46 #[.int .i64 a, .int .i64 0] w fun e w' => e = .returned (.tuple #[.int .i64 0, .int .i64 0, .int .i64 1]) ∧ w = w' := by
  go_enter Tryd.func46, Tryd.ntmps46
  go_wp2
  go_ret3
  exact ⟨rfl, rfl⟩

theorem div_pos (a b : Int) (w : World) (h1 : -9223372036854775807 ≤ a) (h2 : a ≤ 9223372036854775807) (h3 : 1 ≤ b) (h4 : b ≤ 9223372036854775807) :
    Calls Tryd.prog 46 #[.int .i64 a, .int .i64 b] w fun e w' => e = .returned (.tuple #[.int .i64 (a / b), .int .i64 (a % b), .int .i64 0]) ∧ ∃ n, w' = w.drewN n := by
  have h := div_any a b w h1 h2 (by omega) h4 (by rw [beq_eq_false_iff_ne]; omega)
  rw [fdiv_pos a b (by omega), fmod_pos a b (by omega)] at h
  exact h

theorem down_pos (a b : Int) (w : World) (h1 : -9223372036854775807 ≤ a) (h2 : a ≤ 9223372036854775807) (h3 : 1 ≤ b) (h4 : b ≤ 9223372036854775807) :
    Calls Tryd.prog 61 #[.int .i64 a, .int .i64 b] w fun e w' => e = .returned (.int .i64 (a / b)) ∧ ∃ n, w' = w.drewN n := by
  go_enter Tryd.func61, Tryd.ntmps61
  go_wp2_with (go_at_call 46; refine (div_pos _ _ _ h1 h2 h3 h4).mono ?_; rintro e w' ⟨rfl, n, rfl⟩)
  go_ret
  exact ⟨rfl, _, rfl⟩

/-- Div of the least int by a day's length. -/
theorem div_min_day (w : World) :
    Calls Tryd.prog 46 #[.int .i64 (-9223372036854775808), .int .i64 86400000] w fun e w' => e = .returned (.tuple #[.int .i64 (-9223372036854775808 / 86400000), .int .i64 (-9223372036854775808 % 86400000), .int .i64 0]) ∧ ∃ n, w' = w.drewN n := by
  go_enter Tryd.func46, Tryd.ntmps46
  go_wp2
  go_quiet (fail)
  go_wp2
  go_ret3
  exact ⟨rfl, _, rfl⟩

/-- Div by a day's length, whatever the first number is. -/
theorem div_day (a : Int) (w : World) (h1 : -9223372036854775808 ≤ a) (h2 : a ≤ 9223372036854775807) :
    Calls Tryd.prog 46 #[.int .i64 a, .int .i64 86400000] w fun e w' => e = .returned (.tuple #[.int .i64 (a / 86400000), .int .i64 (a % 86400000), .int .i64 0]) ∧ ∃ n, w' = w.drewN n := by
  by_cases h : a = -9223372036854775808
  · subst h; exact div_min_day w
  · exact div_pos a 86400000 w (by omega) h2 (by omega) (by omega)

theorem down_day (a : Int) (w : World) (h1 : -9223372036854775808 ≤ a) (h2 : a ≤ 9223372036854775807) :
    Calls Tryd.prog 61 #[.int .i64 a, .int .i64 86400000] w fun e w' => e = .returned (.int .i64 (a / 86400000)) ∧ ∃ n, w' = w.drewN n := by
  go_enter Tryd.func61, Tryd.ntmps61
  go_wp2_with (go_at_call 46; refine (div_day _ _ h1 h2).mono ?_; rintro e w' ⟨rfl, n, rfl⟩)
  go_ret
  exact ⟨rfl, _, rfl⟩
end Go.Proofs.YtifhlmakacoicaaDoor

/- Contracts of the laws' own mod and cut, and of package line: Is, Check, weekday, Weekday, Nth, Cycle, Instant, Split, IsInstant. -/
namespace Go.Proofs.YtifhlmakacoicaaDoor
open Go.RowKit
set_option linter.unusedVariables false

theorem tmod_add_emod (a n : Int) (h : 1 ≤ n) : (a.tmod n + n) % n = a % n := by
  have h1 := Int.mul_tdiv_add_tmod a n
  rw [Int.add_emod_right]
  have : a.tmod n = a - n * a.tdiv n := by omega
  rw [this, Int.sub_mul_emod_self_left]

theorem lawmod_any (a n : Int) (w : World) (h1 : 1 ≤ n) (h2 : n ≤ 1000000000000000) :
    Calls Tryd.prog 54 #[.int .i64 a, .int .i64 n] w fun e w' => e = .returned (.int .i64 (a % n)) ∧ w = w' := by
  have ht := (tmod_facts a n (by omega)).2.2.2
  have e1 := tmod_add_emod a n h1
  have E := Lib.hid e1
  clear e1
  have b1 : 0 ≤ a.tmod n + n := by omega
  have b2 : a.tmod n + n ≤ 9223372036854775807 := by omega
  have b3 : ¬ n = 0 := by omega
  go_enter Tryd.func54, Tryd.ntmps54
  go_wp2
  go_ret
  exact ⟨ret_int E.out, rfl⟩

theorem cut_any (x low n : Int) (w : World) (h1 : 1 ≤ n) (h2 : n ≤ 1000000000000000) (h3 : -1000000000000000 ≤ low) (h4 : low ≤ 1000000000000000) :
    Calls Tryd.prog 20 #[.int .i64 x, .int .i64 low, .int .i64 n] w fun e w' => e = .returned (.int .i64 (low + x % n)) ∧ w = w' := by
  have b1 := Int.emod_nonneg x (show n ≠ 0 by omega)
  have b2 := Int.emod_lt_of_pos x (show 0 < n by omega)
  go_enter Tryd.func20, Tryd.ntmps20
  go_wp2_with (go_at_call 54; refine (lawmod_any _ _ _ (by omega) (by omega)).mono ?_; rintro e w' ⟨rfl, rfl⟩)
  go_ret
  exact ⟨rfl, rfl⟩

theorem is_yes (d : Int) (w : World) (h1 : -4000000 ≤ d) (h2 : d ≤ 4000000) :
    Calls Tryd.prog 60 #[.int .i64 d] w fun e w' => e = .returned (.bool true) ∧ w = w' := by
  go_enter Tryd.func60, Tryd.ntmps60
  go_wp2
  go_ret
  exact ⟨rfl, rfl⟩

theorem is_no (d : Int) (w : World) (h1 : d < -4000000 ∨ 4000000 < d) :
    Calls Tryd.prog 60 #[.int .i64 d] w fun e w' => e = .returned (.bool false) ∧ w = w' := by
  rcases h1 with h | h
  · go_enter Tryd.func60, Tryd.ntmps60
    go_wp2
    go_ret
    exact ⟨rfl, rfl⟩
  · have hd : decide (d ≤ 4000000) = false := by simp; omega
    go_enter Tryd.func60, Tryd.ntmps60
    go_wp2
    go_ret
    exact ⟨rfl, rfl⟩

end Go.Proofs.YtifhlmakacoicaaDoor

/- Contracts of package whole: Gcd, natural, inRange, invert. -/
namespace Go.Proofs.YtifhlmakacoicaaDoor
open Go.RowKit
set_option linter.unusedVariables false

theorem tmod_nat (x y : Nat) : (x : Int).tmod (y : Int) = ((x % y : Nat) : Int) := by
  rw [Int.tmod_eq_emod_of_nonneg (by omega), Int.natCast_emod]

end Go.Proofs.YtifhlmakacoicaaDoor
