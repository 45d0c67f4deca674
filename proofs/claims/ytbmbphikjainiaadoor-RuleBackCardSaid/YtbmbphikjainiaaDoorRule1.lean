/- Contracts of package rule: truth, operands, apply. -/
import Derived.Test.YtbmbphikjainiaaDoorPlainRule
import Derived.Test.YtbmbphikjainiaaDoorWhole1
namespace Go.Proofs.YtbmbphikjainiaaDoor
open Go.RowKit
set_option linter.unusedVariables false

theorem truth_any (b : Bool) (w : World) : Calls Tryd.prog 66 #[.bool b] w fun e w' => e = .returned (.int .i64 (truthI b)) ∧ w = w' := by
  cases b
  all_goals
    go_enter Tryd.func66, Tryd.ntmps66
    go_wp2
    go_ret
    exact ⟨rfl, rfl⟩
theorem operands_any (k : Int) (w : World) : Calls Tryd.prog 64 #[.int .i64 k] w fun e w' => e = .returned (.int .i64 (opsN k)) ∧ w = w' := by
  by_cases h1 : k = 1
  · subst h1
    go_enter Tryd.func64, Tryd.ntmps64
    go_wp2
    go_ret
    exact ⟨rfl, rfl⟩
  by_cases h2 : k = 2
  · subst h2
    go_enter Tryd.func64, Tryd.ntmps64
    go_wp2
    go_ret
    exact ⟨rfl, rfl⟩
  by_cases h3 : k = 3
  · subst h3
    go_enter Tryd.func64, Tryd.ntmps64
    go_wp2
    go_ret
    exact ⟨rfl, rfl⟩
  by_cases h11 : k = 11
  · subst h11
    go_enter Tryd.func64, Tryd.ntmps64
    go_wp2
    go_ret
    exact ⟨rfl, rfl⟩
  have e : opsN k = 2 := by unfold opsN; rw [if_neg (by omega), if_neg (by omega)]
  rw [e]
  clear e
  have t1 : (k == 1) = false := by simpa using h1
  have t2 : (k == 2) = false := by simpa using h2
  have t3 : (k == 3) = false := by simpa using h3
  have t11 : (k == 11) = false := by simpa using h11
  go_enter Tryd.func64, Tryd.ntmps64
  go_wp2
  go_ret
  exact ⟨rfl, rfl⟩
theorem rmul_in (a b : Int) (h1 : -2147483647 ≤ a) (h2 : a ≤ 2147483647) (h3 : -2147483647 ≤ b) (h4 : b ≤ 2147483647) : -4611686014132420609 ≤ a * b ∧ a * b ≤ 4611686014132420609 := by
  have h : (a * b).natAbs = a.natAbs * b.natAbs := Int.natAbs_mul a b
  have : a.natAbs * b.natAbs ≤ 2147483647 * 2147483647 := Nat.mul_le_mul (by omega) (by omega)
  omega
/-- what apply gives -/
def IsApply (p : Int × Int) (w : World) (e : Ending) (w' : World) : Prop := e = .returned (.tuple #[.int .i64 p.1, .int .i64 p.2]) ∧ Below w.heap.size w w'

set_option maxHeartbeats 1000000 in
set_option maxRecDepth 100000 in
theorem apply_1 (n y a b : Int) (A : Option Addr) (l c : Nat) (w : World) (h1 : -2147483647 ≤ a) (h2 : a ≤ 2147483647) (h3 : -2147483647 ≤ b) (h4 : b ≤ 2147483647) :
    Calls Tryd.prog 47 #[.agg #[.int .i64 1, .int .i64 n, .slice A l c], .int .i64 y, .agg #[.int .i64 a, .int .i64 b]] w (IsApply (applyR 1 n y a b) w) := by
  rw [show applyR 1 n y a b = (n, 0) from rfl]
  go_enter Tryd.func47, Tryd.ntmps47
  go_wp2_with fail
  go_quiet (fail)
  go_wp2_with fail
  go_ret2
  exact ⟨rfl, below_drew (below_alloc2 _ _ _) _⟩

set_option maxHeartbeats 1000000 in
set_option maxRecDepth 100000 in
theorem apply_2 (n y a b : Int) (A : Option Addr) (l c : Nat) (w : World) (h1 : -2147483647 ≤ a) (h2 : a ≤ 2147483647) (h3 : -2147483647 ≤ b) (h4 : b ≤ 2147483647) :
    Calls Tryd.prog 47 #[.agg #[.int .i64 2, .int .i64 n, .slice A l c], .int .i64 y, .agg #[.int .i64 a, .int .i64 b]] w (IsApply (applyR 2 n y a b) w) := by
  rw [show applyR 2 n y a b = (y, 0) from rfl]
  go_enter Tryd.func47, Tryd.ntmps47
  go_wp2_with fail
  go_quiet (fail)
  go_wp2_with fail
  go_ret2
  exact ⟨rfl, below_drew (below_alloc2 _ _ _) _⟩

set_option maxHeartbeats 1000000 in
set_option maxRecDepth 100000 in
theorem apply_3 (n y a b : Int) (A : Option Addr) (l c : Nat) (w : World) (h1 : -2147483647 ≤ a) (h2 : a ≤ 2147483647) (h3 : -2147483647 ≤ b) (h4 : b ≤ 2147483647) :
    Calls Tryd.prog 47 #[.agg #[.int .i64 3, .int .i64 n, .slice A l c], .int .i64 y, .agg #[.int .i64 a, .int .i64 b]] w (IsApply (applyR 3 n y a b) w) := by
  rw [show applyR 3 n y a b = (-a, 0) from rfl]
  go_enter Tryd.func47, Tryd.ntmps47
  go_wp2_with fail
  go_quiet (fail)
  go_wp2_with fail
  go_ret2
  exact ⟨rfl, below_drew (below_alloc2 _ _ _) _⟩

set_option maxHeartbeats 1000000 in
set_option maxRecDepth 100000 in
theorem apply_4 (n y a b : Int) (A : Option Addr) (l c : Nat) (w : World) (h1 : -2147483647 ≤ a) (h2 : a ≤ 2147483647) (h3 : -2147483647 ≤ b) (h4 : b ≤ 2147483647) :
    Calls Tryd.prog 47 #[.agg #[.int .i64 4, .int .i64 n, .slice A l c], .int .i64 y, .agg #[.int .i64 a, .int .i64 b]] w (IsApply (applyR 4 n y a b) w) := by
  rw [show applyR 4 n y a b = (a + b, 0) from rfl]
  go_enter Tryd.func47, Tryd.ntmps47
  go_wp2_with fail
  go_quiet (fail)
  go_wp2_with fail
  go_ret2
  exact ⟨rfl, below_drew (below_alloc2 _ _ _) _⟩

set_option maxHeartbeats 1000000 in
set_option maxRecDepth 100000 in
theorem apply_5 (n y a b : Int) (A : Option Addr) (l c : Nat) (w : World) (h1 : -2147483647 ≤ a) (h2 : a ≤ 2147483647) (h3 : -2147483647 ≤ b) (h4 : b ≤ 2147483647) :
    Calls Tryd.prog 47 #[.agg #[.int .i64 5, .int .i64 n, .slice A l c], .int .i64 y, .agg #[.int .i64 a, .int .i64 b]] w (IsApply (applyR 5 n y a b) w) := by
  rw [show applyR 5 n y a b = (a - b, 0) from rfl]
  go_enter Tryd.func47, Tryd.ntmps47
  go_wp2_with fail
  go_quiet (fail)
  go_wp2_with fail
  go_ret2
  exact ⟨rfl, below_drew (below_alloc2 _ _ _) _⟩

set_option maxHeartbeats 1000000 in
set_option maxRecDepth 100000 in
theorem apply_6 (n y a b : Int) (A : Option Addr) (l c : Nat) (w : World) (h1 : -2147483647 ≤ a) (h2 : a ≤ 2147483647) (h3 : -2147483647 ≤ b) (h4 : b ≤ 2147483647) :
    Calls Tryd.prog 47 #[.agg #[.int .i64 6, .int .i64 n, .slice A l c], .int .i64 y, .agg #[.int .i64 a, .int .i64 b]] w (IsApply (applyR 6 n y a b) w) := by
  rw [show applyR 6 n y a b = (a * b, 0) from rfl]
  have hm := rmul_in a b h1 h2 h3 h4
  obtain ⟨m1, m2⟩ := hm
  go_enter Tryd.func47, Tryd.ntmps47
  go_wp2_with fail
  go_quiet (fail)
  go_wp2_with fail
  go_ret2
  exact ⟨rfl, below_drew (below_alloc2 _ _ _) _⟩

set_option maxHeartbeats 1000000 in
set_option maxRecDepth 100000 in
theorem apply_7_zero (n y a : Int) (A : Option Addr) (l c : Nat) (w : World) :
    Calls Tryd.prog 47 #[.agg #[.int .i64 7, .int .i64 n, .slice A l c], .int .i64 y, .agg #[.int .i64 a, .int .i64 0]] w (IsApply (applyR 7 n y a 0) w) := by
  rw [show applyR 7 n y a 0 = (0, 1) from rfl]
  go_enter Tryd.func47, Tryd.ntmps47
  go_wp2_with fail
  go_quiet (fail)
  go_wp2_with (go_at_call 65; refine (div_zero _ _).mono ?_; rintro e w' ⟨rfl, rfl⟩)
  go_ret2
  exact ⟨rfl, below_drew (below_alloc2 _ _ _) _⟩

set_option maxHeartbeats 1000000 in
set_option maxRecDepth 100000 in
theorem apply_7_pos (n y a b : Int) (A : Option Addr) (l c : Nat) (w : World) (h1 : -2147483647 ≤ a) (h2 : a ≤ 2147483647) (h3 : -2147483647 ≤ b) (h4 : b ≤ 2147483647) (h0 : ¬ b = 0) :
    Calls Tryd.prog 47 #[.agg #[.int .i64 7, .int .i64 n, .slice A l c], .int .i64 y, .agg #[.int .i64 a, .int .i64 b]] w (IsApply (applyR 7 n y a b) w) := by
  rw [show applyR 7 n y a b = (a.fdiv b, 0) from by simp [applyR, h0]]
  have hb : (b == 0) = false := by simpa using h0
  have HD := Lib.hid (fun w => div_any a b w (by omega) (by omega) (by omega) (by omega) hb)
  generalize a.fdiv b = q at *
  generalize a.fmod b = r at *
  clear hb h0
  go_enter Tryd.func47, Tryd.ntmps47
  go_wp2_with fail
  go_quiet (fail)
  go_wp2_with (go_at_call 65; refine (HD.out _).mono ?_; rintro e w' ⟨rfl, n1, rfl⟩)
  go_ret2
  exact ⟨rfl, (by first | exact below_drew (below_drew (below_alloc2 _ _ _) _) _ | exact below_drew (below_alloc2 _ _ _) _)⟩

set_option maxHeartbeats 1000000 in
set_option maxRecDepth 100000 in
theorem apply_7 (n y a b : Int) (A : Option Addr) (l c : Nat) (w : World) (h1 : -2147483647 ≤ a) (h2 : a ≤ 2147483647) (h3 : -2147483647 ≤ b) (h4 : b ≤ 2147483647) :
    Calls Tryd.prog 47 #[.agg #[.int .i64 7, .int .i64 n, .slice A l c], .int .i64 y, .agg #[.int .i64 a, .int .i64 b]] w (IsApply (applyR 7 n y a b) w) := by
  by_cases h0 : b = 0
  · subst h0; exact apply_7_zero n y a A l c w
  · exact apply_7_pos n y a b A l c w h1 h2 h3 h4 h0

set_option maxHeartbeats 1000000 in
set_option maxRecDepth 100000 in
theorem apply_8_zero (n y a : Int) (A : Option Addr) (l c : Nat) (w : World) :
    Calls Tryd.prog 47 #[.agg #[.int .i64 8, .int .i64 n, .slice A l c], .int .i64 y, .agg #[.int .i64 a, .int .i64 0]] w (IsApply (applyR 8 n y a 0) w) := by
  rw [show applyR 8 n y a 0 = (0, 1) from rfl]
  go_enter Tryd.func47, Tryd.ntmps47
  go_wp2_with fail
  go_quiet (fail)
  go_wp2_with (go_at_call 65; refine (div_zero _ _).mono ?_; rintro e w' ⟨rfl, rfl⟩)
  go_ret2
  exact ⟨rfl, below_drew (below_alloc2 _ _ _) _⟩

set_option maxHeartbeats 1000000 in
set_option maxRecDepth 100000 in
theorem apply_8_pos (n y a b : Int) (A : Option Addr) (l c : Nat) (w : World) (h1 : -2147483647 ≤ a) (h2 : a ≤ 2147483647) (h3 : -2147483647 ≤ b) (h4 : b ≤ 2147483647) (h0 : ¬ b = 0) :
    Calls Tryd.prog 47 #[.agg #[.int .i64 8, .int .i64 n, .slice A l c], .int .i64 y, .agg #[.int .i64 a, .int .i64 b]] w (IsApply (applyR 8 n y a b) w) := by
  rw [show applyR 8 n y a b = (a.fmod b, 0) from by simp [applyR, h0]]
  have hb : (b == 0) = false := by simpa using h0
  have HD := Lib.hid (fun w => div_any a b w (by omega) (by omega) (by omega) (by omega) hb)
  generalize a.fdiv b = q at *
  generalize a.fmod b = r at *
  clear hb h0
  go_enter Tryd.func47, Tryd.ntmps47
  go_wp2_with fail
  go_quiet (fail)
  go_wp2_with (go_at_call 65; refine (HD.out _).mono ?_; rintro e w' ⟨rfl, n1, rfl⟩)
  go_ret2
  exact ⟨rfl, (by first | exact below_drew (below_drew (below_alloc2 _ _ _) _) _ | exact below_drew (below_alloc2 _ _ _) _)⟩

set_option maxHeartbeats 1000000 in
set_option maxRecDepth 100000 in
theorem apply_8 (n y a b : Int) (A : Option Addr) (l c : Nat) (w : World) (h1 : -2147483647 ≤ a) (h2 : a ≤ 2147483647) (h3 : -2147483647 ≤ b) (h4 : b ≤ 2147483647) :
    Calls Tryd.prog 47 #[.agg #[.int .i64 8, .int .i64 n, .slice A l c], .int .i64 y, .agg #[.int .i64 a, .int .i64 b]] w (IsApply (applyR 8 n y a b) w) := by
  by_cases h0 : b = 0
  · subst h0; exact apply_8_zero n y a A l c w
  · exact apply_8_pos n y a b A l c w h1 h2 h3 h4 h0

set_option maxHeartbeats 1000000 in
set_option maxRecDepth 100000 in
theorem apply_9 (n y a b : Int) (A : Option Addr) (l c : Nat) (w : World) (h1 : -2147483647 ≤ a) (h2 : a ≤ 2147483647) (h3 : -2147483647 ≤ b) (h4 : b ≤ 2147483647) :
    Calls Tryd.prog 47 #[.agg #[.int .i64 9, .int .i64 n, .slice A l c], .int .i64 y, .agg #[.int .i64 a, .int .i64 b]] w (IsApply (applyR 9 n y a b) w) := by
  rw [show applyR 9 n y a b = (truthI (decide (a < b)), 0) from rfl]
  go_enter Tryd.func47, Tryd.ntmps47
  go_wp2_with fail
  go_quiet (fail)
  go_wp2_with (go_at_call 66; refine (truth_any _ _).mono ?_; rintro e w' ⟨rfl, rfl⟩)
  go_ret2
  exact ⟨rfl, below_drew (below_alloc2 _ _ _) _⟩

set_option maxHeartbeats 1000000 in
set_option maxRecDepth 100000 in
theorem apply_10 (n y a b : Int) (A : Option Addr) (l c : Nat) (w : World) (h1 : -2147483647 ≤ a) (h2 : a ≤ 2147483647) (h3 : -2147483647 ≤ b) (h4 : b ≤ 2147483647) :
    Calls Tryd.prog 47 #[.agg #[.int .i64 10, .int .i64 n, .slice A l c], .int .i64 y, .agg #[.int .i64 a, .int .i64 b]] w (IsApply (applyR 10 n y a b) w) := by
  rw [show applyR 10 n y a b = (truthI (a == b), 0) from rfl]
  go_enter Tryd.func47, Tryd.ntmps47
  go_wp2_with fail
  go_quiet (fail)
  go_wp2_with (go_at_call 66; refine (truth_any _ _).mono ?_; rintro e w' ⟨rfl, rfl⟩)
  go_ret2
  exact ⟨rfl, below_drew (below_alloc2 _ _ _) _⟩

set_option maxHeartbeats 1000000 in
set_option maxRecDepth 100000 in
theorem apply_11 (n y a b : Int) (A : Option Addr) (l c : Nat) (w : World) (h1 : -2147483647 ≤ a) (h2 : a ≤ 2147483647) (h3 : -2147483647 ≤ b) (h4 : b ≤ 2147483647) :
    Calls Tryd.prog 47 #[.agg #[.int .i64 11, .int .i64 n, .slice A l c], .int .i64 y, .agg #[.int .i64 a, .int .i64 b]] w (IsApply (applyR 11 n y a b) w) := by
  rw [show applyR 11 n y a b = (truthI (a == 0), 0) from rfl]
  go_enter Tryd.func47, Tryd.ntmps47
  go_wp2_with fail
  go_quiet (fail)
  go_wp2_with (go_at_call 66; refine (truth_any _ _).mono ?_; rintro e w' ⟨rfl, rfl⟩)
  go_ret2
  exact ⟨rfl, below_drew (below_alloc2 _ _ _) _⟩

set_option maxHeartbeats 1000000 in
set_option maxRecDepth 100000 in
theorem apply_12 (n y a b : Int) (A : Option Addr) (l c : Nat) (w : World) (h1 : -2147483647 ≤ a) (h2 : a ≤ 2147483647) (h3 : -2147483647 ≤ b) (h4 : b ≤ 2147483647) :
    Calls Tryd.prog 47 #[.agg #[.int .i64 12, .int .i64 n, .slice A l c], .int .i64 y, .agg #[.int .i64 a, .int .i64 b]] w (IsApply (applyR 12 n y a b) w) := by
  rw [show applyR 12 n y a b = (truthI (a != 0 && b != 0), 0) from rfl]
  by_cases ha : a = 0
  · have t : (a != 0) = false := by simp [ha]
    rw [t]
    clear ha
    go_enter Tryd.func47, Tryd.ntmps47
    go_wp2_with fail
    go_quiet (fail)
    go_wp2_with (go_at_call 66; refine (truth_any _ _).mono ?_; rintro e w' ⟨rfl, rfl⟩)
    go_ret2
    exact ⟨by simp, below_drew (below_alloc2 _ _ _) _⟩
  · have t : (a != 0) = true := by simp [ha]
    rw [t]
    clear ha
    go_enter Tryd.func47, Tryd.ntmps47
    go_wp2_with fail
    go_quiet (fail)
    go_wp2_with (go_at_call 66; refine (truth_any _ _).mono ?_; rintro e w' ⟨rfl, rfl⟩)
    go_ret2
    exact ⟨by simp, below_drew (below_alloc2 _ _ _) _⟩
set_option maxHeartbeats 1000000 in
set_option maxRecDepth 100000 in
theorem apply_13 (n y a b : Int) (A : Option Addr) (l c : Nat) (w : World) (h1 : -2147483647 ≤ a) (h2 : a ≤ 2147483647) (h3 : -2147483647 ≤ b) (h4 : b ≤ 2147483647) :
    Calls Tryd.prog 47 #[.agg #[.int .i64 13, .int .i64 n, .slice A l c], .int .i64 y, .agg #[.int .i64 a, .int .i64 b]] w (IsApply (applyR 13 n y a b) w) := by
  rw [show applyR 13 n y a b = (truthI (a != 0 || b != 0), 0) from rfl]
  by_cases ha : a = 0
  · have t : (a != 0) = false := by simp [ha]
    rw [t]
    clear ha
    go_enter Tryd.func47, Tryd.ntmps47
    go_wp2_with fail
    go_quiet (fail)
    go_wp2_with (go_at_call 66; refine (truth_any _ _).mono ?_; rintro e w' ⟨rfl, rfl⟩)
    go_ret2
    exact ⟨by simp, below_drew (below_alloc2 _ _ _) _⟩
  · have t : (a != 0) = true := by simp [ha]
    rw [t]
    clear ha
    go_enter Tryd.func47, Tryd.ntmps47
    go_wp2_with fail
    go_quiet (fail)
    go_wp2_with (go_at_call 66; refine (truth_any _ _).mono ?_; rintro e w' ⟨rfl, rfl⟩)
    go_ret2
    exact ⟨by simp, below_drew (below_alloc2 _ _ _) _⟩
theorem apply_any (k n y a b : Int) (A : Option Addr) (l c : Nat) (w : World) (k0 : 1 ≤ k) (k1 : k ≤ 13) (h1 : -2147483647 ≤ a) (h2 : a ≤ 2147483647) (h3 : -2147483647 ≤ b) (h4 : b ≤ 2147483647) :
    Calls Tryd.prog 47 #[.agg #[.int .i64 k, .int .i64 n, .slice A l c], .int .i64 y, .agg #[.int .i64 a, .int .i64 b]] w (IsApply (applyR k n y a b) w) := by
  have h : k = 1 ∨ k = 2 ∨ k = 3 ∨ k = 4 ∨ k = 5 ∨ k = 6 ∨ k = 7 ∨ k = 8 ∨ k = 9 ∨ k = 10 ∨ k = 11 ∨ k = 12 ∨ k = 13 := by omega
  rcases h with rfl | rfl | rfl | rfl | rfl | rfl | rfl | rfl | rfl | rfl | rfl | rfl | rfl
  · exact apply_1 n y a b A l c w h1 h2 h3 h4
  · exact apply_2 n y a b A l c w h1 h2 h3 h4
  · exact apply_3 n y a b A l c w h1 h2 h3 h4
  · exact apply_4 n y a b A l c w h1 h2 h3 h4
  · exact apply_5 n y a b A l c w h1 h2 h3 h4
  · exact apply_6 n y a b A l c w h1 h2 h3 h4
  · exact apply_7 n y a b A l c w h1 h2 h3 h4
  · exact apply_8 n y a b A l c w h1 h2 h3 h4
  · exact apply_9 n y a b A l c w h1 h2 h3 h4
  · exact apply_10 n y a b A l c w h1 h2 h3 h4
  · exact apply_11 n y a b A l c w h1 h2 h3 h4
  · exact apply_12 n y a b A l c w h1 h2 h3 h4
  · exact apply_13 n y a b A l c w h1 h2 h3 h4
end Go.Proofs.YtbmbphikjainiaaDoor
