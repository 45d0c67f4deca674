/- The walk of WholeDistributes: it returns true at every input; it only computes. -/
import Derived.Test.YtdbnnhfgohabdaaWhole2
namespace Go.Proofs.Ytdbnnhfgohabdaa.wholeDistributes
open Go.RowKit

theorem prod_le (x y : Int) (n : Nat) (h1 : x.natAbs ≤ 1073741825) (h2 : y.natAbs ≤ n) (h : 1073741825 * n ≤ 4611686018427387904) : x.natAbs * y.natAbs ≤ 4611686018427387904 :=
  Nat.le_trans (Nat.mul_le_mul h1 h2) h
theorem prod_in (x y : Int) (h : x.natAbs * y.natAbs ≤ 4611686018427387904) : -4611686018427387904 ≤ x * y ∧ x * y ≤ 4611686018427387904 := by
  rw [← Int.natAbs_mul] at h; omega

set_option maxHeartbeats 1000000 in
theorem walk0 (a b c : Int) (w0 : (Lit.int .i64 a).wf = true) (w1 : (Lit.int .i64 b).wf = true) (w2 : (Lit.int .i64 c).wf = true) (w : World) :
    Calls Try.prog 3 #[.int .i64 a, .int .i64 b, .int .i64 c] w fun e w' => e = .returned (.bool true) ∧ ∃ n, w' = w.drewN n := by
  have ba := wf_bounds w0
  have bb := wf_bounds w1
  have bc := wf_bounds w2
  have hx1 : -1073741824 ≤ a / 8589934592 := by omega
  have hx2 : a / 8589934592 ≤ 1073741824 := by omega
  have hy1 : -1073741824 ≤ b / 8589934592 := by omega
  have hy2 : b / 8589934592 ≤ 1073741824 := by omega
  have hz1 : -1073741824 ≤ c / 8589934592 := by omega
  have hz2 : c / 8589934592 ≤ 1073741824 := by omega
  clear ba bb bc
  go_enter Try.func3, Try.ntmps3
  go_wp2_with fail
  refine (mul_in (-3) 5 _ (by omega) (by omega) (by omega) (by omega) (by decide)).mono ?_
  rintro e w' ⟨rfl, rfl⟩
  go_wp2_with fail
  generalize a / 8589934592 = x at *
  generalize b / 8589934592 = y at *
  generalize c / 8589934592 = z at *
  have q1 := prod_le x y 1073741824 (by omega) (by omega) (by omega)
  have q2 := prod_le x z 1073741824 (by omega) (by omega) (by omega)
  have q3 := prod_le x (y + z) 2147483648 (by omega) (by omega) (by omega)
  refine (mul_in x y _ (by omega) (by omega) (by omega) (by omega) (by omega)).mono ?_
  rintro e w' ⟨rfl, rfl⟩
  go_wp2_with fail
  refine (mul_in x z _ (by omega) (by omega) (by omega) (by omega) (by omega)).mono ?_
  rintro e w' ⟨rfl, rfl⟩
  go_wp2_with fail
  refine (mul_in x (y + z) _ (by omega) (by omega) (by omega) (by omega) (by omega)).mono ?_
  rintro e w' ⟨rfl, rfl⟩
  have i1 := prod_in _ _ q1
  have i2 := prod_in _ _ q2
  have i3 := prod_in _ _ q3
  obtain ⟨d1, d2⟩ : x * y + x * z ≤ x * (y + z) ∧ x * (y + z) ≤ x * y + x * z := by rw [Int.mul_add]; omega
  clear q1 q2 q3
  generalize x * y = p1 at *
  generalize x * z = p2 at *
  generalize x * (y + z) = p3 at *
  by_cases h0 : y = 0
  · subst h0
    go_wp2_with fail
    refine (div_zero x _).mono ?_
    rintro e w' ⟨rfl, rfl⟩
    go_wp2_with fail
    go_ret
    exact ⟨rfl, 0, rfl⟩
  · have hb : (y == 0) = false := by simpa using h0
    go_wp2_with fail
    refine (div_any x y _ (by omega) (by omega) (by omega) (by omega) hb).mono ?_
    rintro e w' ⟨rfl, n, rfl⟩
    obtain ⟨e1, e2, e3⟩ := fmod_facts x y h0
    go_wp2_with fail
    generalize x.fdiv y = q at *
    generalize x.fmod y = r at *
    have q4 := prod_le q y 1073741824 (by omega) (by omega) (by omega)
    have i4 := prod_in _ _ q4
    refine (mul_in q y _ (by omega) (by omega) (by omega) (by omega) (by omega)).mono ?_
    rintro e w' ⟨rfl, rfl⟩
    obtain ⟨d3, d4⟩ : q * y + r ≤ x ∧ x ≤ q * y + r := by omega
    clear q4 e1
    generalize q * y = p4 at *
    rcases e2 with ⟨s1, s2, s3⟩ | ⟨s1, s2, s3⟩
    · go_wp2_with fail
      go_ret
      exact ⟨rfl, _, rfl⟩
    · go_wp2_with fail
      go_ret
      exact ⟨rfl, _, rfl⟩

theorem walk (a : Int) (w0 : (Lit.int .i64 a).wf = true) (b : Int) (w1 : (Lit.int .i64 b).wf = true) (c : Int) (w2 : (Lit.int .i64 c).wf = true) (w : World) :
    Calls Try.prog 3 #[.int .i64 a, .int .i64 b, .int .i64 c] w fun e w' => e = .returned (.bool true) ∧ Below w.heap.size w w' :=
  (walk0 a b c w0 w1 w2 w).mono fun _ _ ⟨he, n, hn⟩ => ⟨he, by rw [hn]; exact below_drewN w n⟩
end Go.Proofs.Ytdbnnhfgohabdaa.wholeDistributes
