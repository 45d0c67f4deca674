/- Contracts of package whole: Solve, Meet. -/
import Derived.Test.YtdbnnhfgohabdaaWhole3
namespace Go.Proofs.Ytdbnnhfgohabdaa
open Go.RowKit
set_option linter.unusedVariables false

set_option maxHeartbeats 1000000 in
set_option maxRecDepth 100000 in
theorem solve_yes (a b m : Int) (w : World) (h1 : -2147483647 ≤ a) (h2 : a ≤ 2147483647) (h3 : -2147483647 ≤ b) (h4 : b ≤ 2147483647) (h5 : 1 ≤ m) (h6 : m ≤ 2147483647)
    (hd : ∀ G : Int, G ∣ a → G ∣ m → G ∣ b) : Calls Try.prog 26 #[.int .i64 a, .int .i64 b, .int .i64 m] w fun e w' => e = .returned (.tuple #[.int .i64 (solveV a b m), .int .i64 0]) ∧ ∃ n, w' = w.drewN n := by
  obtain ⟨x1, x2, g1, g2, ga, gm, hX⟩ := inv_ok a m h5
  have gb := hd _ ga gm
  have Hi := Lib.hid (invert_any a m · h1 h2 h5 h6)
  unfold solveV
  clear hd hX ga
  generalize invX a m = X at *
  generalize invG a m = G at *
  obtain ⟨n1, n2, n3⟩ := quot_facts m G g1 h5 gm
  have ht := tdiv_exact b G gb
  have hz : b % G = 0 := Int.emod_eq_zero_of_dvd gb
  have hzt : (b.tmod G != 0) = false := by rw [bne_eq_false_iff_eq, tmod_zero0]; exact hz
  have hb : -2147483647 ≤ b / G ∧ b / G ≤ 2147483647 := by
    have := Int.natAbs_tdiv_le_natAbs b G
    rw [ht] at this; omega
  have g0 : ¬ G = 0 := by omega
  clear n3 hz gb gm
  generalize hk : m / G = k at *
  go_enter Try.func26, Try.ntmps26
  go_wp2_with (first
    | (go_at_call 58; refine (natural_yes _ _ (by omega) (by omega)).mono ?_; rintro e w' ⟨rfl, rfl⟩)
    | (go_at_call 59; refine (inRange_yes _ _ (by omega) (by omega)).mono ?_; rintro e w' ⟨rfl, rfl⟩)
    | (go_at_call 60; refine (Hi.out _).mono ?_; rintro e w' ⟨rfl, n, rfl⟩))
  rw [hk]
  clear hk
  have p1 := Int.emod_nonneg X (show k ≠ 0 by omega)
  have p2 := Int.emod_lt_of_pos X (show 0 < k by omega)
  have p3 := Int.emod_nonneg (b / G) (show k ≠ 0 by omega)
  have p4 := Int.emod_lt_of_pos (b / G) (show 0 < k by omega)
  have p5 : 0 ≤ X % k * (b / G % k) := Int.mul_nonneg p1 p3
  have p6 : X % k * (b / G % k) ≤ 2147483647 * 2147483647 := Int.mul_le_mul (by omega) (by omega) p3 (by omega)
  have q1 : IntKind.i64.wrap (b / G) = b / G := IntWalk.i64_in _ (by omega)
  have q2 : IntKind.i64.wrap (X % k * (b / G % k)) = X % k * (b / G % k) := IntWalk.i64_in _ (by omega)
  have q3 : (X % k * (b / G % k)).tmod k = X % k * (b / G % k) % k := Int.tmod_eq_emod_of_nonneg p5
  have q4 : ¬ k = 0 := by omega
  have r1 := Int.emod_nonneg (X % k * (b / G % k)) (show k ≠ 0 by omega)
  have r2 := Int.emod_lt_of_pos (X % k * (b / G % k)) (show 0 < k by omega)
  go_quiet ((go_at_call 53; exact quiet_add (mod_pos _ _ _ (by omega) (by omega) (by omega) (by omega))))
  clear q1 q2 q3
  go_wp2
  go_ret2
  exact ⟨rfl, _, World.drewN_drewN _ _ _⟩

set_option maxHeartbeats 1000000 in
set_option maxRecDepth 100000 in
theorem meet_yes (a m b n : Int) (w : World) (h1 : -2147483647 ≤ a) (h2 : a ≤ 2147483647) (h3 : -2147483647 ≤ b) (h4 : b ≤ 2147483647) (h5 : 1 ≤ m) (h6 : m ≤ 2147483647) (h7 : 1 ≤ n) (h8 : n ≤ 2147483647)
    (hd : (Int.gcd m n : Int) ∣ b - a) : Calls Try.prog 28 #[.int .i64 a, .int .i64 m, .int .i64 b, .int .i64 n] w fun e w' => e = .returned (.tuple #[.int .i64 (meetV a m b n), .int .i64 (meetL m n), .int .i64 0]) ∧ ∃ k, w' = w.drewN k := by
  obtain ⟨g1, g2, g3, d1, d2, hc⟩ := gcd_facts m n h5 h7
  have k1 := (quot_facts n _ g1 h7 d2).1
  have k2 := (quot_facts n _ g1 h7 d2).2.1
  have m1 := (quot_facts m _ g1 h5 d1).1
  have m2 := (quot_facts m _ g1 h5 d1).2.1
  have Hs := Lib.hid (fun w => solve_yes (m / (Int.gcd m n : Int) % (n / (Int.gcd m n : Int))) ((b - a) / (Int.gcd m n : Int) % (n / (Int.gcd m n : Int))) (n / (Int.gcd m n : Int)) w
    (by have := Int.emod_nonneg (m / (Int.gcd m n : Int)) (show n / (Int.gcd m n : Int) ≠ 0 by omega); omega) (by have := Int.emod_lt_of_pos (m / (Int.gcd m n : Int)) (show 0 < n / (Int.gcd m n : Int) by omega); omega)
    (by have := Int.emod_nonneg ((b - a) / (Int.gcd m n : Int)) (show n / (Int.gcd m n : Int) ≠ 0 by omega); omega) (by have := Int.emod_lt_of_pos ((b - a) / (Int.gcd m n : Int)) (show 0 < n / (Int.gcd m n : Int) by omega); omega)
    k1 (by omega) (fun G h1 h2 => unit_dvd G _ _ _ hc (dvd_of_emod G _ _ h1 h2) h2))
  have sv := solveV_ok (m / (Int.gcd m n : Int) % (n / (Int.gcd m n : Int))) ((b - a) / (Int.gcd m n : Int) % (n / (Int.gcd m n : Int))) _ k1 (fun G h1 h2 => unit_dvd G _ _ _ hc (dvd_of_emod G _ _ h1 h2) h2)
  have s1 := sv.1
  have s2 := sv.2.1
  clear sv
  have Hg := Lib.hid (fun w => gcd_any m n w (by omega) (by omega) (by omega) (by omega))
  have hH : Hid ((Int.gcd m n : Int) ∣ b - a) := hd
  unfold meetV meetL
  clear hc d1 d2
  generalize (Int.gcd m n : Int) = g at *
  have ht := tdiv_exact (b - a) g hd
  have hz : (b - a) % g = 0 := Int.emod_eq_zero_of_dvd hd
  have hb : -4294967294 ≤ (b - a) / g ∧ (b - a) / g ≤ 4294967294 := by
    have := Int.natAbs_tdiv_le_natAbs (b - a) g
    rw [ht] at this; omega
  have hzt : ((b - a) % g != 0) = false := by rw [bne_eq_false_iff_eq]; exact hz
  have g0 : ¬ g = 0 := by omega
  clear hd hz
  generalize hk : n / g = k at *
  go_enter Try.func28, Try.ntmps28
  go_wp2_with (first
    | (go_at_call 58; refine (natural_yes _ _ (by omega) (by omega)).mono ?_; rintro e w' ⟨rfl, rfl⟩)
    | (go_at_call 59; refine (inRange_yes _ _ (by omega) (by omega)).mono ?_; rintro e w' ⟨rfl, rfl⟩)
    | (go_at_call 25; refine (Hg.out _).mono ?_; rintro e w' ⟨rfl, n1, rfl⟩)
    | (go_at_call 53; refine (mod_pos _ _ _ (by omega) (by omega) (by omega) (by omega)).mono ?_; rintro e w' ⟨rfl, n2, rfl⟩))
  rw [hk]
  clear hk
  have q1 : m.tdiv g = m / g := Int.tdiv_eq_ediv_of_nonneg (by omega)
  have q2 : IntKind.i64.wrap (m / g) = m / g := IntWalk.i64_in _ (by omega)
  have q3 : IntKind.i64.wrap (b - a) = b - a := IntWalk.i64_in _ (by omega)
  have q4 : IntKind.i64.wrap ((b - a) / g) = (b - a) / g := IntWalk.i64_in _ (by omega)
  go_quiet (first
    | ((go_at_call 53; exact quiet_add (mod_pos _ _ _ (by omega) (by omega) (by omega) (by omega))))
    | ((go_at_call 26; exact quiet_add (Hs.out _))))
  clear q1 q2 q3 q4 ht hb
  generalize hsv : solveV (m / g % k) ((b - a) / g % k) k = s at *
  have Hsv := Lib.hid hsv
  clear hsv
  have b1 : 1 ≤ m * k := by have := Int.mul_le_mul h5 k1 (by omega) (by omega); omega
  have b2 : m * k ≤ 2147483647 * 2147483647 := Int.mul_le_mul h6 (by omega) (by omega) (by omega)
  have f1 := Int.emod_nonneg a (show m ≠ 0 by omega)
  have f2 := Int.emod_lt_of_pos a (show 0 < m by omega)
  have hsh : (a % m - a).tdiv m = (a % m - a) / m := by
    apply tdiv_exact
    exact ⟨-(a / m), by have := Int.emod_add_mul_ediv a m; rw [Int.mul_neg]; omega⟩
  have hsb : -4294967294 ≤ (a % m - a) / m ∧ (a % m - a) / m ≤ 4294967294 := by
    have := Int.natAbs_tdiv_le_natAbs (a % m - a) m
    rw [hsh] at this; omega
  go_wp2_with fail
  refine (mod_pos _ _ _ (by omega) (by omega) (by omega) (by omega)).mono ?_
  rintro e w2 ⟨rfl, n3, rfl⟩
  go_wp2_with fail
  refine (mod_pos _ _ _ (by omega) (by omega) (by omega) (by omega)).mono ?_
  rintro e w3 ⟨rfl, n4, rfl⟩
  have u1 := Int.emod_nonneg (s - (a % m - a) / m) (show k ≠ 0 by omega)
  have u2 := Int.emod_lt_of_pos (s - (a % m - a) / m) (show 0 < k by omega)
  generalize hr : (s - (a % m - a) / m) % k = r at *
  have Hr := Lib.hid hr
  clear hr hsh
  have b3 : 0 ≤ m * r := Int.mul_nonneg (by omega) u1
  have b4 : m * r ≤ 2147483647 * 2147483647 := Int.mul_le_mul h6 (by omega) (by omega) (by omega)
  go_wp2_with fail
  refine (mod_pos _ _ _ (by omega) (by omega) (by omega) (by omega)).mono ?_
  rintro e w4 ⟨rfl, n5, rfl⟩
  go_wp2_with fail
  go_ret3
  exact ⟨ret_int3 (by rw [← Hr.out, ← Hsv.out]) rfl rfl, _, rfl⟩

theorem meet_no (a m b n : Int) (w : World) (h1 : -2147483647 ≤ a) (h2 : a ≤ 2147483647) (h3 : -2147483647 ≤ b) (h4 : b ≤ 2147483647) (h5 : 1 ≤ m) (h6 : m ≤ 2147483647) (h7 : 1 ≤ n) (h8 : n ≤ 2147483647)
    (hd : ¬ (Int.gcd m n : Int) ∣ b - a) : Calls Try.prog 28 #[.int .i64 a, .int .i64 m, .int .i64 b, .int .i64 n] w fun e w' => e = .returned (.tuple #[.int .i64 0, .int .i64 0, .int .i64 6]) ∧ ∃ k, w' = w.drewN k := by
  obtain ⟨g1, g2, g3, d1, d2, hc⟩ := gcd_facts m n h5 h7
  have Hg := Lib.hid (fun w => gcd_any m n w (by omega) (by omega) (by omega) (by omega))
  clear hc d1 d2
  generalize (Int.gcd m n : Int) = g at *
  have hzt : ((b - a) % g != 0) = true := by rw [bne_iff_ne]; exact fun h => hd (Int.dvd_of_emod_eq_zero h)
  clear hd
  go_enter Try.func28, Try.ntmps28
  go_wp2_with (first
    | (go_at_call 58; refine (natural_yes _ _ (by omega) (by omega)).mono ?_; rintro e w' ⟨rfl, rfl⟩)
    | (go_at_call 59; refine (inRange_yes _ _ (by omega) (by omega)).mono ?_; rintro e w' ⟨rfl, rfl⟩)
    | (go_at_call 25; refine (Hg.out _).mono ?_; rintro e w' ⟨rfl, n1, rfl⟩)
    | (go_at_call 53; refine (mod_pos _ _ _ (by omega) (by omega) (by omega) (by omega)).mono ?_; rintro e w' ⟨rfl, n2, rfl⟩))
  go_ret3
  exact ⟨rfl, _, rfl⟩
end Go.Proofs.Ytdbnnhfgohabdaa
