/- Contracts of package whole: Gcd, natural, inRange, invert. -/
import Derived.Test.YtlihhlijombepaaDoorWhole1
import Derived.Test.YtlihhlijombepaaDoorPlainNum
namespace Go.Proofs.YtlihhlijombepaaDoor
open Go.RowKit
set_option linter.unusedVariables false

theorem tmod_nat (x y : Nat) : (x : Int).tmod (y : Int) = ((x % y : Nat) : Int) := by
  rw [Int.tmod_eq_emod_of_nonneg (by omega), Int.natCast_emod]

set_option maxHeartbeats 1000000 in
set_option maxRecDepth 100000 in
theorem gcd_any (a b : Int) (w : World) (h1 : -9223372036854775807 ≤ a) (h2 : a ≤ 9223372036854775807) (h3 : -9223372036854775807 ≤ b) (h4 : b ≤ 9223372036854775807) :
    Calls Tryd.prog 122 #[.int .i64 a, .int .i64 b] w fun e w' => e = .returned (.tuple #[.int .i64 (Int.gcd a b : Nat), .int .i64 0]) ∧ ∃ n, w' = w.drewN n := by
  have hg : Nat.gcd a.natAbs b.natAbs = Int.gcd a b := rfl
  generalize Int.gcd a b = G at *
  have Hg := Lib.hid hg
  clear hg
  go_enter Tryd.func122, Tryd.ntmps122
  go_wp2_with (go_at_call 151; refine (size_any _ _ (by omega) (by omega)).mono ?_; rintro e w' ⟨rfl, rfl⟩)
  go_loopw [6, 7] (fun s t wr => ∃ (x y n : Nat), x ≤ 9223372036854775807 ∧ y ≤ 9223372036854775807 ∧ Nat.gcd x y = G ∧ s = .int .u64 x ∧ t = .int .u64 y ∧ wr = w.drewN n) (fun _ t _ => (intOf t).toNat)
  case atStart => exact ⟨_, _, 0, by omega, by omega, Hg.out, rfl, rfl, rfl⟩
  case round =>
    obtain ⟨x, y, n, hx, hy, hxy, rfl, rfl, rfl⟩ := hrel
    have Hxy := Lib.hid hxy
    clear hxy
    by_cases h0 : y = 0
    · subst h0
      have hG := Hxy.out
      rw [Nat.gcd_zero_right] at hG
      subst hG
      go_wp2
      go_ret2
      exact ⟨rfl, _, rfl⟩
    · have t0 : ((y : Int) != 0) = true := by rw [bne_iff_ne]; omega
      have t1 : ¬ (y : Int) = 0 := by omega
      have t2 := tmod_nat x y
      have hl : x % y < y := Nat.mod_lt _ (by omega)
      go_wp2
      go_quiet (fail)
      go_wp2
      go_roundw
      case rel => exact ⟨y, x % y, _, hy, by omega, by rw [← Hxy.out, Nat.gcd_comm x y, Nat.gcd_rec y x, Nat.gcd_comm], rfl, rfl, World.drewN_drewN _ _ _⟩
      case measure => simp [intOf]; omega

end Go.Proofs.YtlihhlijombepaaDoor
