/- Contracts of package whole: Gcd, natural, inRange, invert. -/
import Derived.Test.YtdbnnhfgohabdaaWhole1
import Derived.Test.YtdbnnhfgohabdaaPlainNum
namespace Go.Proofs.Ytdbnnhfgohabdaa
open Go.RowKit
set_option linter.unusedVariables false

theorem natural_yes (n : Int) (w : World) (h1 : 1 ≤ n) (h2 : n ≤ 2147483647) :
    Calls Try.prog 58 #[.int .i64 n] w fun e w' => e = .returned (.bool true) ∧ w = w' := by
  go_enter Try.func58, Try.ntmps58
  go_wp2
  go_ret
  exact ⟨rfl, rfl⟩
theorem inRange_yes (n : Int) (w : World) (h1 : -2147483647 ≤ n) (h2 : n ≤ 2147483647) :
    Calls Try.prog 59 #[.int .i64 n] w fun e w' => e = .returned (.bool true) ∧ w = w' := by
  go_enter Try.func59, Try.ntmps59
  go_wp2
  go_ret
  exact ⟨rfl, rfl⟩

theorem tmod_nat (x y : Nat) : (x : Int).tmod (y : Int) = ((x % y : Nat) : Int) := by
  rw [Int.tmod_eq_emod_of_nonneg (by omega), Int.natCast_emod]

set_option maxHeartbeats 1000000 in
set_option maxRecDepth 100000 in
theorem gcd_any (a b : Int) (w : World) (h1 : -9223372036854775807 ≤ a) (h2 : a ≤ 9223372036854775807) (h3 : -9223372036854775807 ≤ b) (h4 : b ≤ 9223372036854775807) :
    Calls Try.prog 25 #[.int .i64 a, .int .i64 b] w fun e w' => e = .returned (.tuple #[.int .i64 (Int.gcd a b : Nat), .int .i64 0]) ∧ ∃ n, w' = w.drewN n := by
  have hg : Nat.gcd a.natAbs b.natAbs = Int.gcd a b := rfl
  generalize Int.gcd a b = G at *
  have Hg := Lib.hid hg
  clear hg
  go_enter Try.func25, Try.ntmps25
  go_wp2_with (go_at_call 50; refine (size_any _ _ (by omega) (by omega)).mono ?_; rintro e w' ⟨rfl, rfl⟩)
  go_loopw [6, 7] (fun s t wr => ∃ (x y n : Nat), x ≤ 9223372036854775807 ∧ y ≤ 9223372036854775807 ∧ Nat.gcd x y = G ∧ s = .int .u64 x ∧ t = .int .u64 y ∧ wr = w.drewN n) (fun _ t _ => (intOf t).toNat)
  case atStart => exact ⟨_, _, 0, by omega, by omega, Hg.out, rfl, rfl, rfl⟩
  case round =>
    obtain ⟨x, y, n, hx, hy, hxy, rfl, rfl, rfl⟩ := hrel
    have Hxy := Lib.hid hxy
    clear hxy
    by_cases h0 : y = 0
    · subst h0
      have hG := Hxy.out
      rw [Nat.gcd_zero_right] at hG
      subst hG
      go_wp2
      go_ret2
      exact ⟨rfl, _, rfl⟩
    · have t0 : ((y : Int) != 0) = true := by rw [bne_iff_ne]; omega
      have t1 : ¬ (y : Int) = 0 := by omega
      have t2 := tmod_nat x y
      have hl : x % y < y := Nat.mod_lt _ (by omega)
      go_wp2
      go_quiet (fail)
      go_wp2
      go_roundw
      case rel => exact ⟨y, x % y, _, hy, by omega, by rw [← Hxy.out, Nat.gcd_comm x y, Nat.gcd_rec y x, Nat.gcd_comm], rfl, rfl, World.drewN_drewN _ _ _⟩
      case measure => simp [intOf]; omega

set_option maxHeartbeats 1000000 in
set_option maxRecDepth 100000 in
theorem invert_any (a m : Int) (w : World) (h1 : -2147483647 ≤ a) (h2 : a ≤ 2147483647) (h3 : 1 ≤ m) (h4 : m ≤ 2147483647) :
    Calls Try.prog 60 #[.int .i64 a, .int .i64 m] w fun e w' => e = .returned (.tuple #[.int .i64 (invX a m), .int .i64 (invG a m)]) ∧ ∃ n, w' = w.drewN n := by
  unfold invX invG
  obtain ⟨R, hR⟩ : ∃ R, euRun a m = R := ⟨_, rfl⟩
  rw [hR]
  have HR : Hid (eu (m.toNat + 1) 1 0 (a % m) m = R) := hR
  clear hR
  go_enter Try.func60, Try.ntmps60
  go_wp2_with (go_at_call 53; refine (mod_pos _ _ _ (by omega) (by omega) (by omega) (by omega)).mono ?_; rintro e w' ⟨rfl, n, rfl⟩)
  go_loop [6, 7, 8, 9, 10] (fun sx sy sg sh _ => ∃ (f : Nat) (x y g h : Int), EuInv a m x y g h ∧ h.toNat < f ∧ eu f x y g h = R ∧ sx = .int .i64 x ∧ sy = .int .i64 y ∧ sg = .int .i64 g ∧ sh = .int .i64 h) (fun _ _ _ sh _ => (intOf sh).toNat)
  case atStart => exact ⟨_, _, _, _, _, inv_start a m h3, by omega, HR.out, rfl, rfl, rfl, rfl⟩
  case round =>
    obtain ⟨f, x, y, g, h, I, hf, hE, rfl, rfl, rfl, rfl⟩ := hrel
    have i1 := I.g0
    have i2 := I.h0
    have i3 := I.gm
    have i4 := I.hm
    have i5 := I.x1
    have i6 := I.x2
    have i7 := I.y1
    have i8 := I.y2
    obtain ⟨f, rfl⟩ : ∃ f', f = f' + 1 := ⟨f - 1, by omega⟩
    unfold eu at hE
    by_cases h0 : h = 0
    · rw [if_pos h0] at hE
      subst h0
      subst hE
      clear I hf HR
      go_wp2_with (go_at_call 53; refine (mod_pos _ _ _ (by omega) (by omega) (by omega) (by omega)).mono ?_; rintro e w' ⟨rfl, n, rfl⟩)
      go_ret2
      exact ⟨rfl, _, rfl⟩
    · rw [if_neg h0] at hE
      have HE := Lib.hid hE
      clear hE
      obtain ⟨s1, s2, s3, s4, s5, J⟩ := inv_step I (by omega)
      have HJ := Lib.hid J
      have hJ := J.h0
      clear J I
      have t0 : (h != 0) = true := by rw [bne_iff_ne]; exact h0
      have hq : g / h ≤ g := Int.ediv_le_self h i1
      have hp : 1 ≤ h := by omega
      have hqh : 0 ≤ g / h * h := Int.mul_nonneg s1 i2
      go_wp2
      go_round
      case rel => exact ⟨f, _, _, _, _, HJ.out, by omega, HE.out, rfl, rfl, rfl, rfl⟩
      case measure => simp [intOf]; omega
end Go.Proofs.Ytdbnnhfgohabdaa
