/- TopCut -/
import Derived.Test.YtabidjmmgnkhkaaGreatDoorGPlainInt
/- Contracts of the great laws' own mod and cut. -/
namespace Go.Proofs.YtabidjmmgnkhkaaGreatDoor
open Go.RowKit
set_option linter.unusedVariables false
theorem amod_any (a n : Int) (w : World) (h1 : 1 ≤ n) (h2 : n ≤ 1000000000000000) :
  Calls Tryz.prog 32 #[.int .i64 a, .int .i64 n] w fun e w' => e = .returned (.int .i64 (a % n)) ∧ w = w' := by
 have ht := (tmod_facts a n (by omega)).2.2.2
 have e1 := tmod_add_emod a n h1
 have E := Lib.hid e1
 clear e1
 have b1 : 0 ≤ a.tmod n + n := by omega
 have b2 : a.tmod n + n ≤ 9223372036854775807 := by omega
 have b3 : ¬ n = 0 := by omega
 go_enter Tryz.func32, Tryz.ntmps32
 go_wp2
 go_ret
 exact ⟨ret_int E.out, rfl⟩
theorem acut_any (x low n : Int) (w : World) (h1 : 1 ≤ n) (h2 : n ≤ 1000000000000000) (h3 : -1000000000000000 ≤ low) (h4 : low ≤ 1000000000000000) :
  Calls Tryz.prog 13 #[.int .i64 x, .int .i64 low, .int .i64 n] w fun e w' => e = .returned (.int .i64 (low + x % n)) ∧ w = w' := by
 have b1 := Int.emod_nonneg x (show n ≠ 0 by omega)
 have b2 := Int.emod_lt_of_pos x (show 0 < n by omega)
 go_enter Tryz.func13, Tryz.ntmps13
 go_wp2_with (go_at_call 32; refine (amod_any _ _ _ (by omega) (by omega)).mono ?_; rintro e w' ⟨rfl, rfl⟩)
 go_ret
 exact ⟨rfl, rfl⟩
end Go.Proofs.YtabidjmmgnkhkaaGreatDoor
