/- The walk of WholeBezout: it returns true at every input; it only computes. -/
import Derived.Test.YtdbnnhfgohabdaaWhole4
import Derived.Test.YtdbnnhfgohabdaaLine1
namespace Go.Proofs.Ytdbnnhfgohabdaa.wholeBezout
open Go.RowKit
set_option linter.unusedVariables false

set_option maxHeartbeats 1000000 in
set_option maxRecDepth 100000 in
theorem walk0 (a b : Int) (w : World) :
    Calls Try.prog 7 #[.int .i64 a, .int .i64 b] w fun e w' => e = .returned (.bool true) ∧ ∃ n, w' = w.drewN n := by
  have ha1 : -100000 ≤ -100000 + a % 200001 := by omega
  have ha2 : -100000 + a % 200001 ≤ 100000 := by omega
  have hm1 : 1 ≤ 1 + b % 100000 := by omega
  have hm2 : 1 + b % 100000 ≤ 100000 := by omega
  go_enter Try.func7, Try.ntmps7
  go_wp2_with fail
  refine (gcd_any 4 6 _ (by omega) (by omega) (by omega) (by omega)).mono ?_
  rw [show ((Int.gcd 4 6 : Nat) : Int) = 2 from rfl]
  rintro e w' ⟨rfl, n1, rfl⟩
  go_wp2_with (go_at_call 18; refine (cut_any _ _ _ _ (by omega) (by omega) (by omega) (by omega)).mono ?_; rintro e w' ⟨rfl, rfl⟩)
  generalize -100000 + a % 200001 = x at *
  generalize 1 + b % 100000 = m at *
  refine (gcd_any x m _ (by omega) (by omega) (by omega) (by omega)).mono ?_
  rintro e w' ⟨rfl, n2, rfl⟩
  have d1 := Int.gcd_dvd_left x m
  have d2 := Int.gcd_dvd_right x m
  have hp : 0 < Int.gcd x m := Int.gcd_pos_of_ne_zero_right x (by omega)
  have hG : ∀ G : Int, G ∣ x → G ∣ m → G ∣ (Int.gcd x m : Int) := fun G h1 h2 => by
    rw [← Int.natAbs_dvd]
    exact Int.natCast_dvd_natCast.2 (Int.dvd_gcd (by rw [Int.natAbs_dvd]; exact h1) (by rw [Int.natAbs_dvd]; exact h2))
  have hle := Int.le_of_dvd (by omega) d2
  have hsv := Lib.hid (solveV_ok x (Int.gcd x m) m hm1 hG)
  have Hs := Lib.hid (fun w => solve_yes x (Int.gcd x m) m w (by omega) (by omega) (by omega) (by omega) hm1 (by omega) hG)
  have s1 := hsv.out.1
  have s2 := hsv.out.2.1
  have s3 : (x * solveV x (Int.gcd x m) m - (Int.gcd x m : Int)) % m = 0 := Int.emod_eq_zero_of_dvd hsv.out.2.2
  have t1 : (x.tmod (Int.gcd x m : Int) != 0) = false := by rw [bne_eq_false_iff_eq, tmod_zero0]; exact Int.emod_eq_zero_of_dvd d1
  have t2 : (m.tmod (Int.gcd x m : Int) != 0) = false := by rw [bne_eq_false_iff_eq, tmod_zero0]; exact Int.emod_eq_zero_of_dvd d2
  have t2' : (m % (Int.gcd x m : Int) != 0) = false := by rw [bne_eq_false_iff_eq]; exact Int.emod_eq_zero_of_dvd d2
  clear d1 d2 hsv hG
  have hp' : 1 ≤ (Int.gcd x m : Int) := by omega
  generalize (Int.gcd x m : Int) = g at *
  have g0 : ¬ g = 0 := by omega
  go_wp2_with fail
  refine (Hs.out _).mono ?_
  rintro e w' ⟨rfl, n3, rfl⟩
  generalize solveV x g m = s at *
  have b1 : -10000000000 ≤ x * s ∧ x * s ≤ 10000000000 := by
    have := Int.natAbs_mul x s
    have := Nat.mul_le_mul (show x.natAbs ≤ 100000 by omega) (show s.natAbs ≤ 100000 by omega)
    omega
  have b2 := b1.1
  have b3 := b1.2
  clear b1
  have S3 := Lib.hid s3
  clear s3
  go_wp2_with fail
  refine (lawmod_any _ _ _ (by omega) (by omega)).mono ?_
  rw [S3.out]
  rintro e w' ⟨rfl, rfl⟩
  go_wp2_with fail
  refine (meet_yes x m x m _ (by omega) (by omega) (by omega) (by omega) (by omega) (by omega) (by omega) (by omega) (by rw [Int.sub_self]; exact Int.dvd_zero _)).mono ?_
  obtain ⟨v1, v2, v3, _⟩ := meetV_ok x m x m hm1 hm1 (by rw [Int.sub_self]; exact Int.dvd_zero _)
  have eL : meetL m m = m := by
    unfold meetL
    rw [Int.gcd_self, Int.natAbs_of_nonneg (by omega), Int.ediv_self (by omega), Int.mul_one]
  have eV : meetV x m x m = x % m := by
    rw [eL] at v2
    have h1 := Int.emod_nonneg x (show m ≠ 0 by omega)
    have h2 := Int.emod_lt_of_pos x (show 0 < m by omega)
    have := dvd_of_small m (meetV x m x m - x % m) (by
      have e : meetV x m x m - x % m = (meetV x m x m - x) + (x - x % m) := by omega
      rw [e]
      exact Int.dvd_add v3 (dvd_sub_emod m x)) (by omega) (by omega)
    omega
  rw [eL, eV]
  clear v1 v2 v3 eL eV
  rintro e w' ⟨rfl, n4, rfl⟩
  go_wp2_with (go_at_call 27; refine (lawmod_any _ _ _ (by omega) (by omega)).mono ?_; rintro e w' ⟨rfl, rfl⟩)
  go_ret
  exact ⟨rfl, _, rfl⟩

theorem walk (a : Int) (w0 : (Lit.int .i64 a).wf = true) (b : Int) (w1 : (Lit.int .i64 b).wf = true) (w : World) :
    Calls Try.prog 7 #[.int .i64 a, .int .i64 b] w fun e w' => e = .returned (.bool true) ∧ Below w.heap.size w w' :=
  (walk0 a b w).mono fun _ _ ⟨he, n, hn⟩ => ⟨he, by rw [hn]; exact below_drewN w n⟩
end Go.Proofs.Ytdbnnhfgohabdaa.wholeBezout
