/- Whole1, Whole3 -/
import Derived.Test.YtcommodbjjdbmaaGreatDoorGBase
import Derived.Test.YtcommodbjjdbmaaGreatDoorGListArg
import Derived.Test.YtcommodbjjdbmaaGreatDoorGPlainNum
/- Contracts of package whole: size, Div, Mod, Down, Up, Mul. -/
namespace Go.Proofs.YtcommodbjjdbmaaGreatDoor
open Go.RowKit
set_option linter.unusedVariables false

theorem ret_int {k : IntKind} {a b : Int} (h : a = b) : Ending.returned (.int k a) = .returned (.int k b) := by rw [h]

theorem ret_int2 {k k' : IntKind} {a b a' b' : Int} (h : a = b) (h' : a' = b') : Ending.returned (.tuple #[.int k a, .int k' a']) = .returned (.tuple #[.int k b, .int k' b']) := by rw [h, h']
theorem ret_int3 {k k' k'' : IntKind} {a b a' b' a'' b'' : Int} (h : a = b) (h' : a' = b') (h'' : a'' = b'') : Ending.returned (.tuple #[.int k a, .int k' a', .int k'' a'']) = .returned (.tuple #[.int k b, .int k' b', .int k'' b'']) := by rw [h, h', h'']
theorem wf_bounds {a : Int} (h : (Lit.int .i64 a).wf = true) : -9223372036854775808 ≤ a ∧ a ≤ 9223372036854775807 := bounds_i64 h
theorem u64_neg (a : Int) (h1 : -9223372036854775808 ≤ a) (h : a < 0) : IntKind.u64.wrap (-IntKind.u64.wrap a) = (a.natAbs : Nat) := by
  simp only [IntKind.wrap_u64]; omega

set_option maxHeartbeats 400000 in
theorem size_any (a : Int) (w : World) (h1 : -9223372036854775808 ≤ a) (h2 : a ≤ 9223372036854775807) :
    Calls Tryz.prog 255 #[.int .i64 a] w fun e w' => e = .returned (.int .u64 (a.natAbs : Nat)) ∧ w = w' := by
  by_cases h : a < 0
  · go_enter Tryz.func255, Tryz.ntmps255
    go_wp2
    go_ret
    exact ⟨ret_int (u64_neg a h1 h), rfl⟩
  · go_enter Tryz.func255, Tryz.ntmps255
    go_wp2
    go_ret
    exact ⟨ret_int (by omega), rfl⟩

theorem tdiv_bound (a b : Int) (h1 : -9223372036854775807 ≤ a) (h2 : a ≤ 9223372036854775807) : -9223372036854775807 ≤ a.tdiv b ∧ a.tdiv b ≤ 9223372036854775807 := by
  have h := Int.natAbs_tdiv_le_natAbs a b
  omega

set_option maxHeartbeats 400000 in
theorem div_any (a b : Int) (w : World) (h1 : -9223372036854775807 ≤ a) (h2 : a ≤ 9223372036854775807) (h3 : -9223372036854775807 ≤ b) (h4 : b ≤ 9223372036854775807) (h0 : (b == 0) = false) :
    Calls Tryz.prog 172 #[.int .i64 a, .int .i64 b] w fun e w' => e = .returned (.tuple #[.int .i64 (a.fdiv b), .int .i64 (a.fmod b), .int .i64 0]) ∧ ∃ n, w' = w.drewN n := by
  have hb0 : ¬ b = 0 := by simpa using h0
  obtain ⟨hq1, hq2⟩ := tdiv_bound a b h1 h2
  have hr := (tmod_facts a b hb0).2.2.2
  have hw : IntKind.i64.wrap (a.tdiv b) = a.tdiv b := IntWalk.i64_in _ (by omega)
  by_cases hz : a.tmod b = 0
  · obtain ⟨e1, e2⟩ := div_same a b hb0 (.inl hz)
    rw [← e1, ← e2]
    clear e1 e2
    go_enter Tryz.func172, Tryz.ntmps172
    go_wp2
    go_quiet (fail)
    go_wp2
    go_ret3
    exact ⟨ret_int3 rfl (by simp [hz]) rfl, _, rfl⟩
  · by_cases hs : (a.tmod b < 0 ↔ b < 0)
    · obtain ⟨e1, e2⟩ := div_same a b hb0 (.inr hs)
      rw [← e1, ← e2]
      clear e1 e2
      have hd : (!decide (a.tmod b < 0) == decide (b < 0)) = false := by simpa using hs
      have H := Lib.hid hs; clear hs
      go_enter Tryz.func172, Tryz.ntmps172
      go_wp2
      go_quiet (fail)
      go_wp2
      go_ret3
      exact ⟨rfl, _, rfl⟩
    · obtain ⟨e1, e2⟩ := div_less a b hb0 hz hs
      rw [← e1, ← e2]
      clear e1 e2
      have hd : (!decide (a.tmod b < 0) == decide (b < 0)) = true := by simpa using hs
      have hl : -9223372036854775807 ≤ a.tmod b + b := by omega
      have hu : a.tmod b + b ≤ 9223372036854775807 := by omega
      have H := Lib.hid hs; clear hs
      go_enter Tryz.func172, Tryz.ntmps172
      go_wp2
      go_quiet (fail)
      go_wp2
      go_ret3
      exact ⟨rfl, _, rfl⟩

theorem div_zero (a : Int) (w : World) :
    Calls Tryz.prog 172 #[.int .i64 a, .int .i64 0] w fun e w' => e = .returned (.tuple #[.int .i64 0, .int .i64 0, .int .i64 1]) ∧ w = w' := by
  go_enter Tryz.func172, Tryz.ntmps172
  go_wp2
  go_ret3
  exact ⟨rfl, rfl⟩

theorem div_pos (a b : Int) (w : World) (h1 : -9223372036854775807 ≤ a) (h2 : a ≤ 9223372036854775807) (h3 : 1 ≤ b) (h4 : b ≤ 9223372036854775807) :
    Calls Tryz.prog 172 #[.int .i64 a, .int .i64 b] w fun e w' => e = .returned (.tuple #[.int .i64 (a / b), .int .i64 (a % b), .int .i64 0]) ∧ ∃ n, w' = w.drewN n := by
  have h := div_any a b w h1 h2 (by omega) h4 (by rw [beq_eq_false_iff_ne]; omega)
  rw [fdiv_pos a b (by omega), fmod_pos a b (by omega)] at h
  exact h

theorem mod_pos (a b : Int) (w : World) (h1 : -9223372036854775807 ≤ a) (h2 : a ≤ 9223372036854775807) (h3 : 1 ≤ b) (h4 : b ≤ 9223372036854775807) :
    Calls Tryz.prog 127 #[.int .i64 a, .int .i64 b] w fun e w' => e = .returned (.int .i64 (a % b)) ∧ ∃ n, w' = w.drewN n := by
  go_enter Tryz.func127, Tryz.ntmps127
  go_wp2_with (go_at_call 172; refine (div_pos _ _ _ h1 h2 h3 h4).mono ?_; rintro e w' ⟨rfl, n, rfl⟩)
  go_ret
  exact ⟨rfl, _, rfl⟩

theorem down_pos (a b : Int) (w : World) (h1 : -9223372036854775807 ≤ a) (h2 : a ≤ 9223372036854775807) (h3 : 1 ≤ b) (h4 : b ≤ 9223372036854775807) :
    Calls Tryz.prog 126 #[.int .i64 a, .int .i64 b] w fun e w' => e = .returned (.int .i64 (a / b)) ∧ ∃ n, w' = w.drewN n := by
  go_enter Tryz.func126, Tryz.ntmps126
  go_wp2_with (go_at_call 172; refine (div_pos _ _ _ h1 h2 h3 h4).mono ?_; rintro e w' ⟨rfl, n, rfl⟩)
  go_ret
  exact ⟨rfl, _, rfl⟩

/-- Div of the least int by a day's length. -/
theorem div_min_day (w : World) :
    Calls Tryz.prog 172 #[.int .i64 (-9223372036854775808), .int .i64 86400000] w fun e w' => e = .returned (.tuple #[.int .i64 (-9223372036854775808 / 86400000), .int .i64 (-9223372036854775808 % 86400000), .int .i64 0]) ∧ ∃ n, w' = w.drewN n := by
  go_enter Tryz.func172, Tryz.ntmps172
  go_wp2
  go_quiet (fail)
  go_wp2
  go_ret3
  exact ⟨rfl, _, rfl⟩

/-- Div by a day's length, whatever the first number is. -/
theorem div_day (a : Int) (w : World) (h1 : -9223372036854775808 ≤ a) (h2 : a ≤ 9223372036854775807) :
    Calls Tryz.prog 172 #[.int .i64 a, .int .i64 86400000] w fun e w' => e = .returned (.tuple #[.int .i64 (a / 86400000), .int .i64 (a % 86400000), .int .i64 0]) ∧ ∃ n, w' = w.drewN n := by
  by_cases h : a = -9223372036854775808
  · subst h; exact div_min_day w
  · exact div_pos a 86400000 w (by omega) h2 (by omega) (by omega)

theorem down_day (a : Int) (w : World) (h1 : -9223372036854775808 ≤ a) (h2 : a ≤ 9223372036854775807) :
    Calls Tryz.prog 126 #[.int .i64 a, .int .i64 86400000] w fun e w' => e = .returned (.int .i64 (a / 86400000)) ∧ ∃ n, w' = w.drewN n := by
  go_enter Tryz.func126, Tryz.ntmps126
  go_wp2_with (go_at_call 172; refine (div_day _ _ h1 h2).mono ?_; rintro e w' ⟨rfl, n, rfl⟩)
  go_ret
  exact ⟨rfl, _, rfl⟩
end Go.Proofs.YtcommodbjjdbmaaGreatDoor

/- Contracts of package whole: Gcd, natural, inRange, invert. -/
namespace Go.Proofs.YtcommodbjjdbmaaGreatDoor
open Go.RowKit
set_option linter.unusedVariables false

theorem tmod_nat (x y : Nat) : (x : Int).tmod (y : Int) = ((x % y : Nat) : Int) := by
  rw [Int.tmod_eq_emod_of_nonneg (by omega), Int.natCast_emod]

set_option maxHeartbeats 1000000 in
set_option maxRecDepth 100000 in
theorem gcd_any (a b : Int) (w : World) (h1 : -9223372036854775807 ≤ a) (h2 : a ≤ 9223372036854775807) (h3 : -9223372036854775807 ≤ b) (h4 : b ≤ 9223372036854775807) :
    Calls Tryz.prog 239 #[.int .i64 a, .int .i64 b] w fun e w' => e = .returned (.tuple #[.int .i64 (Int.gcd a b : Nat), .int .i64 0]) ∧ ∃ n, w' = w.drewN n := by
  have hg : Nat.gcd a.natAbs b.natAbs = Int.gcd a b := rfl
  generalize Int.gcd a b = G at *
  have Hg := Lib.hid hg
  clear hg
  go_enter Tryz.func239, Tryz.ntmps239
  go_wp2_with (go_at_call 255; refine (size_any _ _ (by omega) (by omega)).mono ?_; rintro e w' ⟨rfl, rfl⟩)
  go_loopw [6, 7] (fun s t wr => ∃ (x y n : Nat), x ≤ 9223372036854775807 ∧ y ≤ 9223372036854775807 ∧ Nat.gcd x y = G ∧ s = .int .u64 x ∧ t = .int .u64 y ∧ wr = w.drewN n) (fun _ t _ => (intOf t).toNat)
  case atStart => exact ⟨_, _, 0, by omega, by omega, Hg.out, rfl, rfl, rfl⟩
  case round =>
    obtain ⟨x, y, n, hx, hy, hxy, rfl, rfl, rfl⟩ := hrel
    have Hxy := Lib.hid hxy
    clear hxy
    by_cases h0 : y = 0
    · subst h0
      have hG := Hxy.out
      rw [Nat.gcd_zero_right] at hG
      subst hG
      go_wp2
      go_ret2
      exact ⟨rfl, _, rfl⟩
    · have t0 : ((y : Int) != 0) = true := by rw [bne_iff_ne]; omega
      have t1 : ¬ (y : Int) = 0 := by omega
      have t2 := tmod_nat x y
      have hl : x % y < y := Nat.mod_lt _ (by omega)
      go_wp2
      go_quiet (fail)
      go_wp2
      go_roundw
      case rel => exact ⟨y, x % y, _, hy, by omega, by rw [← Hxy.out, Nat.gcd_comm x y, Nat.gcd_rec y x, Nat.gcd_comm], rfl, rfl, World.drewN_drewN _ _ _⟩
      case measure => simp [intOf]; omega

end Go.Proofs.YtcommodbjjdbmaaGreatDoor
