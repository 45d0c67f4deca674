/- The walk of LineSplits: it returns true at every input; it only computes. -/
import Derived.Test.YtdbnnhfgohabdaaLine1
namespace Go.Proofs.Ytdbnnhfgohabdaa.lineSplits
open Go.RowKit
set_option linter.unusedVariables false

theorem next_mod (x m : Int) (h : 1 ≤ m) : 0 ≤ x % m ∧ x % m < m ∧ (((x + 1) % m = x % m + 1 ∧ x % m + 1 < m) ∨ ((x + 1) % m = 0 ∧ x % m = m - 1)) := by
  have h1 := Int.emod_nonneg x (show m ≠ 0 by omega)
  have h2 := Int.emod_lt_of_pos x (show 0 < m by omega)
  refine ⟨h1, h2, ?_⟩
  have e : (x + 1) % m = (x % m + 1) % m := by rw [Int.emod_add_emod]
  by_cases hl : x % m + 1 < m
  · left
    exact ⟨by rw [e, Int.emod_eq_of_lt (by omega) hl], hl⟩
  · right
    have : x % m + 1 = m := by omega
    exact ⟨by rw [e, this, Int.emod_self], by omega⟩

set_option maxHeartbeats 1000000 in
theorem walk0 (a b c d : Int) (w : World) :
    Calls Try.prog 4 #[.int .i64 a, .int .i64 b, .int .i64 c, .int .i64 d] w fun e w' => e = .returned (.bool true) ∧ ∃ n, w' = w.drewN n := by
  have hd1 : -3999999 ≤ -3999999 + a % 7999998 := by omega
  have hd2 : -3999999 + a % 7999998 < 3999999 := by omega
  have hm1 : 0 ≤ b % 86400000 := by omega
  have hm2 : b % 86400000 < 86400000 := by omega
  have hl1 : 1 ≤ 1 + c % 100000 := by omega
  have hl2 : 1 + c % 100000 ≤ 100000 := by omega
  have ho1 : -100000 ≤ -100000 + d % 200001 := by omega
  have ho2 : -100000 + d % 200001 ≤ 100000 := by omega
  go_enter Try.func4, Try.ntmps4
  go_wp2_with fail
  refine (split_yes (-1) _ (by omega) (by omega)).mono ?_
  rintro e w' ⟨rfl, n1, rfl⟩
  go_wp2_with (go_at_call 18; refine (cut_any _ _ _ _ (by omega) (by omega) (by omega) (by omega)).mono ?_; rintro e w' ⟨rfl, rfl⟩)
  generalize -3999999 + a % 7999998 = day at *
  generalize b % 86400000 = ms at *
  generalize 1 + c % 100000 = len at *
  generalize -100000 + d % 200001 = off at *
  refine (instant_yes day ms _ (by omega) (by omega) (by omega) (by omega)).mono ?_
  rintro e w' ⟨rfl, rfl⟩
  go_wp2_with fail
  refine (split_yes _ _ (by omega) (by omega)).mono ?_
  have s1 : (day * 86400000 + ms) / 86400000 = day := by omega
  have s2 : (day * 86400000 + ms) % 86400000 = ms := by omega
  rw [s1, s2]
  clear s1 s2
  rintro e w' ⟨rfl, n2, rfl⟩
  go_wp2_with fail
  refine (cycle_yes day len off _ (by omega) (by omega) (by omega) (by omega) (by omega) (by omega)).mono ?_
  rintro e w' ⟨rfl, n3, rfl⟩
  go_wp2_with fail
  refine (cycle_yes (day + 1) len off _ (by omega) (by omega) (by omega) (by omega) (by omega) (by omega)).mono ?_
  obtain ⟨m1, m2, m3⟩ := next_mod (day + off) len hl1
  have e1 : day + 1 + off = day + off + 1 := by omega
  rw [e1]
  clear e1
  rintro e w' ⟨rfl, n4, rfl⟩
  generalize (day + off + 1) % len = q at *
  generalize (day + off) % len = p at *
  rcases m3 with ⟨r1, r2⟩ | ⟨r1, r2⟩
  · subst r1
    go_wp2_with fail
    go_ret
    exact ⟨rfl, _, rfl⟩
  · subst r1
    by_cases hp : p + 1 = 0
    · omega
    · have s1 : (0 == p + 1) = false := beq_eq_false_iff_ne.2 (by omega)
      have s2 : (p == len - 1) = true := beq_iff_eq.2 r2
      clear r2
      go_wp2_with fail
      go_ret
      exact ⟨rfl, _, rfl⟩

theorem walk (a : Int) (w0 : (Lit.int .i64 a).wf = true) (b : Int) (w1 : (Lit.int .i64 b).wf = true) (c : Int) (w2 : (Lit.int .i64 c).wf = true) (d : Int) (w3 : (Lit.int .i64 d).wf = true) (w : World) :
    Calls Try.prog 4 #[.int .i64 a, .int .i64 b, .int .i64 c, .int .i64 d] w fun e w' => e = .returned (.bool true) ∧ Below w.heap.size w w' :=
  (walk0 a b c d w).mono fun _ _ ⟨he, n, hn⟩ => ⟨he, by rw [hn]; exact below_drewN w n⟩
end Go.Proofs.Ytdbnnhfgohabdaa.lineSplits
