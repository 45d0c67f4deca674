/- Contract of whole.Mul where the product fits. -/
import Derived.Test.YtdbnnhfgohabdaaWhole1
import Derived.Test.YtdbnnhfgohabdaaShMul64
namespace Go.Proofs.Ytdbnnhfgohabdaa
open Go.RowKit
set_option linter.unusedVariables false

theorem mul64_small (x y p : Nat) (hp : x * y = p) (h : p ≤ 9223372036854775807) (hx : x < 18446744073709551616) (hy : y < 18446744073709551616) (w : World) :
    Calls Try.prog 49 #[.int .u64 x, .int .u64 y] w fun e w' => e = .returned (.tuple #[.int .u64 0, .int .u64 p]) ∧ w = w' := by
  have hm := bits_Mul64 x y hx hy w
  rw [hp] at hm
  have e1 : ((p / 18446744073709551616 : Nat) : Int) = 0 := by omega
  have e2 : ((p % 18446744073709551616 : Nat) : Int) = p := by omega
  rw [e1, e2] at hm
  exact hm.mono fun _ _ h => ⟨h.1, h.2.symm⟩

theorem natAbs_mul_neg (a b : Int) (h : (a < 0 ∧ 0 ≤ b) ∨ (0 ≤ a ∧ b < 0)) : -((a.natAbs * b.natAbs : Nat) : Int) = a * b := by
  rcases h with ⟨h1, h2⟩ | ⟨h1, h2⟩
  · rw [Int.natCast_mul, Int.natAbs_of_nonneg h2, show (a.natAbs : Int) = -a from by omega, Int.neg_mul, Int.neg_neg]
  · rw [Int.natCast_mul, Int.natAbs_of_nonneg h1, show (b.natAbs : Int) = -b from by omega, Int.mul_neg, Int.neg_neg]
theorem natAbs_mul_pos (a b : Int) (h : (a < 0 ∧ b < 0) ∨ (0 ≤ a ∧ 0 ≤ b)) : ((a.natAbs * b.natAbs : Nat) : Int) = a * b := by
  rcases h with ⟨h1, h2⟩ | ⟨h1, h2⟩
  · rw [Int.natCast_mul, show (a.natAbs : Int) = -a from by omega, show (b.natAbs : Int) = -b from by omega, Int.neg_mul_neg]
  · rw [Int.natCast_mul, Int.natAbs_of_nonneg h1, Int.natAbs_of_nonneg h2]

theorem wrap_neg_u64 (p : Nat) (h : p ≤ 9223372036854775807) : wrap64 (IntKind.u64.wrap (-(p : Int))) = -(p : Int) := by
  simp only [IntKind.wrap_u64]; unfold wrap64; omega

set_option maxHeartbeats 400000 in
theorem mul_in (a b : Int) (w : World) (h1 : -9223372036854775807 ≤ a) (h2 : a ≤ 9223372036854775807) (h3 : -9223372036854775807 ≤ b) (h4 : b ≤ 9223372036854775807) (hp : a.natAbs * b.natAbs ≤ 9223372036854775807) :
    Calls Try.prog 15 #[.int .i64 a, .int .i64 b] w fun e w' => e = .returned (.tuple #[.int .i64 (a * b), .int .i64 0]) ∧ w = w' := by
  obtain ⟨p, hpe⟩ : ∃ p, a.natAbs * b.natAbs = p := ⟨_, rfl⟩
  have hn := natAbs_mul_neg a b
  have hq := natAbs_mul_pos a b
  rw [hpe] at hn hq hp
  have Hn := Lib.hid hn
  have Hq := Lib.hid hq
  have He := Lib.hid hpe
  clear hn hq hpe
  have hm := fun w => mul64_small a.natAbs b.natAbs p He.out hp (by omega) (by omega) w
  have Hm := Lib.hid hm
  clear hm
  by_cases ha : a < 0 <;> by_cases hb : b < 0
  all_goals
    go_enter Try.func15, Try.ntmps15
    go_wp2_with (first
      | (go_at_call 50; refine (size_any _ _ (by omega) (by omega)).mono ?_; rintro e w' ⟨rfl, rfl⟩)
      | (go_at_call 49; refine (Hm.out _).mono ?_; rintro e w' ⟨rfl, rfl⟩))
    go_ret2
  · exact ⟨ret_int2 (Hq.out (by omega)) rfl, rfl⟩
  · exact ⟨ret_int2 (by rw [← Hn.out (by omega), wrap_neg_u64 p hp]) rfl, rfl⟩
  · exact ⟨ret_int2 (by rw [← Hn.out (by omega), wrap_neg_u64 p hp]) rfl, rfl⟩
  · exact ⟨ret_int2 (Hq.out (by omega)) rfl, rfl⟩
end Go.Proofs.Ytdbnnhfgohabdaa
