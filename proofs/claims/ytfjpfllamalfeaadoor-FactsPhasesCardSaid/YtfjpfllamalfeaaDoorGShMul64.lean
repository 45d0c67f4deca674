/- ShMul64, PlainInt, Whole1 -/
import Derived.Shelf.Bits.Mul64
import Derived.Test.YtfjpfllamalfeaaDoorProg
import Derived.Test.YtfjpfllamalfeaaDoorGLaid
/- math/bits.Mul64: the shelf's contract at this dump, in plain words (as the kit's lay-plain.mjs writes it). -/
namespace Go.Proofs.YtfjpfllamalfeaaDoor
open Go.Shelf
def lays264_ren : Go.Shelf.Ren := ⟨fun | 264 => 38 | n => n, fun | 53 => 59 | 46 => 64 | n => n, fun | n => n⟩
theorem lays264 : Go.Proofs.Lays.n264 Tryd.prog lays264_ren := {
  mixed := by kernel_rfl
  f264 := Tryd.func38.trans (congrArg some (by kernel_rfl))
  t46 := Tryd.underlying64
  a46 := Tryd.isAgg64
  z46 := Tryd.sizeOf64
  v46 := Tryd.zeroValue64
  t53 := Tryd.underlying59
  a53 := Tryd.isAgg59
  z53 := Tryd.sizeOf59
  v53 := Tryd.zeroValue59 }
open Go.RowKit Go.Lib in
theorem bits_Mul64 (x y : Nat) (hx : x < 18446744073709551616) (hy : y < 18446744073709551616) (w : World) :
    Calls Tryd.prog 38 #[.int .u64 x, .int .u64 y] w fun e w' => e = .returned (.tuple #[.int .u64 ((x * y / 18446744073709551616 : Nat) : Int), .int .u64 ((x * y % 18446744073709551616 : Nat) : Int)]) ∧ w' = w := Any.bits_Mul64 lays264 x y hx hy w
end Go.Proofs.YtfjpfllamalfeaaDoor

/- Plain arithmetic, no program in sight. -/
namespace Go.Proofs.YtfjpfllamalfeaaDoor
set_option linter.unusedVariables false
theorem fdiv_unique (a b q r : Int) (e : a = b * q + r) (h : (0 < b ∧ 0 ≤ r ∧ r < b) ∨ (b < 0 ∧ r ≤ 0 ∧ b < r)) : a.fdiv b = q ∧ a.fmod b = r := by
  have hq : a.fdiv b = q := by
    rcases h with ⟨hb, h1, h2⟩ | ⟨hb, h1, h2⟩
    · rw [Int.fdiv_eq_ediv_of_nonneg _ (by omega)]
      have := (Int.ediv_emod_unique (a := a) (r := r) (q := q) hb).2 ⟨by omega, h1, h2⟩
      exact this.1
    · rw [← Int.neg_fdiv_neg, Int.fdiv_eq_ediv_of_nonneg _ (by omega)]
      have := (Int.ediv_emod_unique (a := -a) (b := -b) (r := -r) (q := q) (by omega)).2 ⟨by rw [Int.neg_mul]; omega, by omega, by omega⟩
      exact this.1
  refine ⟨hq, ?_⟩
  have := Int.mul_fdiv_add_fmod a b
  rw [hq] at this
  omega
theorem tmod_facts (a b : Int) (hb : b ≠ 0) : a = b * a.tdiv b + a.tmod b ∧ (0 < a.tmod b → 0 < a) ∧ (a.tmod b < 0 → a < 0) ∧ (a.tmod b).natAbs < b.natAbs := by
  refine ⟨(Int.mul_tdiv_add_tmod a b).symm, ?_, ?_, ?_⟩
  · intro h
    by_cases ha : 0 < a
    · exact ha
    · have := Int.tmod_nonneg (a := -a) b (by omega)
      rw [Int.neg_tmod] at this; omega
  · intro h
    by_cases ha : a < 0
    · exact ha
    · have := Int.tmod_nonneg (a := a) b (by omega)
      omega
  · rw [Int.natAbs_tmod]
    exact Nat.mod_lt _ (by omega)
theorem div_same (a b : Int) (hb : b ≠ 0) (h : a.tmod b = 0 ∨ (a.tmod b < 0 ↔ b < 0)) : a.tdiv b = a.fdiv b ∧ a.tmod b = a.fmod b := by
  obtain ⟨h1, _, _, h4⟩ := tmod_facts a b hb
  have := fdiv_unique a b _ _ h1 (by omega)
  exact ⟨this.1.symm, this.2.symm⟩
theorem div_less (a b : Int) (hb : b ≠ 0) (h0 : a.tmod b ≠ 0) (h : ¬ (a.tmod b < 0 ↔ b < 0)) : a.tdiv b - 1 = a.fdiv b ∧ a.tmod b + b = a.fmod b := by
  obtain ⟨h1, _, _, h4⟩ := tmod_facts a b hb
  have := fdiv_unique a b (a.tdiv b - 1) (a.tmod b + b) (by rw [Int.mul_sub]; omega) (by omega)
  exact ⟨this.1.symm, this.2.symm⟩
theorem fdiv_pos (a b : Int) (hb : 0 < b) : a.fdiv b = a / b := Int.fdiv_eq_ediv_of_nonneg _ (by omega)
theorem fmod_pos (a b : Int) (hb : 0 < b) : a.fmod b = a % b := Int.fmod_eq_emod_of_nonneg _ (by omega)
theorem fmod_facts (a b : Int) (hb : b ≠ 0) : a.fdiv b * b + a.fmod b = a ∧ ((0 < b ∧ 0 ≤ a.fmod b ∧ a.fmod b < b) ∨ (b < 0 ∧ a.fmod b ≤ 0 ∧ b < a.fmod b)) ∧ (a.fdiv b).natAbs ≤ a.natAbs + 1 := by
  obtain ⟨h1, h2, h3, h4⟩ := tmod_facts a b hb
  have hm := Int.mul_fdiv_add_fmod a b
  have ht := Int.natAbs_tdiv_le_natAbs a b
  rw [Int.mul_comm] at hm
  refine ⟨hm, ?_⟩
  by_cases hz : a.tmod b = 0
  · obtain ⟨e1, e2⟩ := div_same a b hb (.inl hz)
    rw [← e1, ← e2]; clear h1 hm; omega
  · by_cases hs : (a.tmod b < 0 ↔ b < 0)
    · obtain ⟨e1, e2⟩ := div_same a b hb (.inr hs)
      rw [← e1, ← e2]; clear h1 hm; omega
    · obtain ⟨e1, e2⟩ := div_less a b hb hz hs
      rw [← e1, ← e2]; clear h1 hm; omega
theorem tmod_zero0 (y n : Int) : (y.tmod n = 0) ↔ (y % n = 0) := by
  rw [← Int.dvd_iff_tmod_eq_zero, Int.dvd_iff_emod_eq_zero]
end Go.Proofs.YtfjpfllamalfeaaDoor

/- Contracts of package whole: size, Div, Mod, Down, Up, Mul. -/
namespace Go.Proofs.YtfjpfllamalfeaaDoor
open Go.RowKit
set_option linter.unusedVariables false

theorem ret_int {k : IntKind} {a b : Int} (h : a = b) : Ending.returned (.int k a) = .returned (.int k b) := by rw [h]

theorem ret_int2 {k k' : IntKind} {a b a' b' : Int} (h : a = b) (h' : a' = b') : Ending.returned (.tuple #[.int k a, .int k' a']) = .returned (.tuple #[.int k b, .int k' b']) := by rw [h, h']
theorem ret_int3 {k k' k'' : IntKind} {a b a' b' a'' b'' : Int} (h : a = b) (h' : a' = b') (h'' : a'' = b'') : Ending.returned (.tuple #[.int k a, .int k' a', .int k'' a'']) = .returned (.tuple #[.int k b, .int k' b', .int k'' b'']) := by rw [h, h', h'']
theorem wf_bounds {a : Int} (h : (Lit.int .i64 a).wf = true) : -9223372036854775808 ≤ a ∧ a ≤ 9223372036854775807 := bounds_i64 h
theorem u64_neg (a : Int) (h1 : -9223372036854775808 ≤ a) (h : a < 0) : IntKind.u64.wrap (-IntKind.u64.wrap a) = (a.natAbs : Nat) := by
  simp only [IntKind.wrap_u64]; omega

theorem tdiv_bound (a b : Int) (h1 : -9223372036854775807 ≤ a) (h2 : a ≤ 9223372036854775807) : -9223372036854775807 ≤ a.tdiv b ∧ a.tdiv b ≤ 9223372036854775807 := by
  have h := Int.natAbs_tdiv_le_natAbs a b
  omega

set_option maxHeartbeats 400000 in
theorem div_any (a b : Int) (w : World) (h1 : -9223372036854775807 ≤ a) (h2 : a ≤ 9223372036854775807) (h3 : -9223372036854775807 ≤ b) (h4 : b ≤ 9223372036854775807) (h0 : (b == 0) = false) :
    Calls Tryd.prog 12 #[.int .i64 a, .int .i64 b] w fun e w' => e = .returned (.tuple #[.int .i64 (a.fdiv b), .int .i64 (a.fmod b), .int .i64 0]) ∧ ∃ n, w' = w.drewN n := by
  have hb0 : ¬ b = 0 := by simpa using h0
  obtain ⟨hq1, hq2⟩ := tdiv_bound a b h1 h2
  have hr := (tmod_facts a b hb0).2.2.2
  have hw : IntKind.i64.wrap (a.tdiv b) = a.tdiv b := IntWalk.i64_in _ (by omega)
  by_cases hz : a.tmod b = 0
  · obtain ⟨e1, e2⟩ := div_same a b hb0 (.inl hz)
    rw [← e1, ← e2]
    clear e1 e2
    go_enter Tryd.func12, Tryd.ntmps12
    go_wp2
    go_quiet (fail)
    go_wp2
    go_ret3
    exact ⟨ret_int3 rfl (by simp [hz]) rfl, _, rfl⟩
  · by_cases hs : (a.tmod b < 0 ↔ b < 0)
    · obtain ⟨e1, e2⟩ := div_same a b hb0 (.inr hs)
      rw [← e1, ← e2]
      clear e1 e2
      have hd : (!decide (a.tmod b < 0) == decide (b < 0)) = false := by simpa using hs
      have H := Lib.hid hs; clear hs
      go_enter Tryd.func12, Tryd.ntmps12
      go_wp2
      go_quiet (fail)
      go_wp2
      go_ret3
      exact ⟨rfl, _, rfl⟩
    · obtain ⟨e1, e2⟩ := div_less a b hb0 hz hs
      rw [← e1, ← e2]
      clear e1 e2
      have hd : (!decide (a.tmod b < 0) == decide (b < 0)) = true := by simpa using hs
      have hl : -9223372036854775807 ≤ a.tmod b + b := by omega
      have hu : a.tmod b + b ≤ 9223372036854775807 := by omega
      have H := Lib.hid hs; clear hs
      go_enter Tryd.func12, Tryd.ntmps12
      go_wp2
      go_quiet (fail)
      go_wp2
      go_ret3
      exact ⟨rfl, _, rfl⟩

theorem div_zero (a : Int) (w : World) :
    Calls Tryd.prog 12 #[.int .i64 a, .int .i64 0] w fun e w' => e = .returned (.tuple #[.int .i64 0, .int .i64 0, .int .i64 1]) ∧ w = w' := by
  go_enter Tryd.func12, Tryd.ntmps12
  go_wp2
  go_ret3
  exact ⟨rfl, rfl⟩

theorem div_pos (a b : Int) (w : World) (h1 : -9223372036854775807 ≤ a) (h2 : a ≤ 9223372036854775807) (h3 : 1 ≤ b) (h4 : b ≤ 9223372036854775807) :
    Calls Tryd.prog 12 #[.int .i64 a, .int .i64 b] w fun e w' => e = .returned (.tuple #[.int .i64 (a / b), .int .i64 (a % b), .int .i64 0]) ∧ ∃ n, w' = w.drewN n := by
  have h := div_any a b w h1 h2 (by omega) h4 (by rw [beq_eq_false_iff_ne]; omega)
  rw [fdiv_pos a b (by omega), fmod_pos a b (by omega)] at h
  exact h

theorem mod_pos (a b : Int) (w : World) (h1 : -9223372036854775807 ≤ a) (h2 : a ≤ 9223372036854775807) (h3 : 1 ≤ b) (h4 : b ≤ 9223372036854775807) :
    Calls Tryd.prog 21 #[.int .i64 a, .int .i64 b] w fun e w' => e = .returned (.int .i64 (a % b)) ∧ ∃ n, w' = w.drewN n := by
  go_enter Tryd.func21, Tryd.ntmps21
  go_wp2_with (go_at_call 12; refine (div_pos _ _ _ h1 h2 h3 h4).mono ?_; rintro e w' ⟨rfl, n, rfl⟩)
  go_ret
  exact ⟨rfl, _, rfl⟩

theorem down_pos (a b : Int) (w : World) (h1 : -9223372036854775807 ≤ a) (h2 : a ≤ 9223372036854775807) (h3 : 1 ≤ b) (h4 : b ≤ 9223372036854775807) :
    Calls Tryd.prog 8 #[.int .i64 a, .int .i64 b] w fun e w' => e = .returned (.int .i64 (a / b)) ∧ ∃ n, w' = w.drewN n := by
  go_enter Tryd.func8, Tryd.ntmps8
  go_wp2_with (go_at_call 12; refine (div_pos _ _ _ h1 h2 h3 h4).mono ?_; rintro e w' ⟨rfl, n, rfl⟩)
  go_ret
  exact ⟨rfl, _, rfl⟩

/-- Div of the least int by a day's length. -/
theorem div_min_day (w : World) :
    Calls Tryd.prog 12 #[.int .i64 (-9223372036854775808), .int .i64 86400000] w fun e w' => e = .returned (.tuple #[.int .i64 (-9223372036854775808 / 86400000), .int .i64 (-9223372036854775808 % 86400000), .int .i64 0]) ∧ ∃ n, w' = w.drewN n := by
  go_enter Tryd.func12, Tryd.ntmps12
  go_wp2
  go_quiet (fail)
  go_wp2
  go_ret3
  exact ⟨rfl, _, rfl⟩

/-- Div by a day's length, whatever the first number is. -/
theorem div_day (a : Int) (w : World) (h1 : -9223372036854775808 ≤ a) (h2 : a ≤ 9223372036854775807) :
    Calls Tryd.prog 12 #[.int .i64 a, .int .i64 86400000] w fun e w' => e = .returned (.tuple #[.int .i64 (a / 86400000), .int .i64 (a % 86400000), .int .i64 0]) ∧ ∃ n, w' = w.drewN n := by
  by_cases h : a = -9223372036854775808
  · subst h; exact div_min_day w
  · exact div_pos a 86400000 w (by omega) h2 (by omega) (by omega)

theorem down_day (a : Int) (w : World) (h1 : -9223372036854775808 ≤ a) (h2 : a ≤ 9223372036854775807) :
    Calls Tryd.prog 8 #[.int .i64 a, .int .i64 86400000] w fun e w' => e = .returned (.int .i64 (a / 86400000)) ∧ ∃ n, w' = w.drewN n := by
  go_enter Tryd.func8, Tryd.ntmps8
  go_wp2_with (go_at_call 12; refine (div_day _ _ h1 h2).mono ?_; rintro e w' ⟨rfl, n, rfl⟩)
  go_ret
  exact ⟨rfl, _, rfl⟩
end Go.Proofs.YtfjpfllamalfeaaDoor
