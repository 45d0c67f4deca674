/- Plain facts on the months of a valid rule. -/
import Derived.Test.YtfindembancjdaaMoon4
namespace Go.Proofs.Ytfindembancjdaa
set_option linter.unusedVariables false

theorem Mo.bf_succ (m : Mo) (y : Int) : m.bf (y + 1) = m.bf y + m.mon y := by unfold Mo.mon; omega
theorem Mo.beg_in (m : Mo) (y k : Int) (h : k ≤ m.mon y) : m.beg y k = m.beg1 y k := by unfold Mo.beg; rw [if_neg (by omega)]
theorem Mo.beg_next (m : Mo) (y k : Int) (h : m.mon y < k) : m.beg y k = m.beg1 (y + 1) 1 := by unfold Mo.beg; rw [if_pos h]
theorem Mo.beg1_one (m : Mo) (y : Int) : m.raw (m.bf y) ≤ m.beg1 y 1 ∧ m.beg1 y 1 ≤ m.raw (m.bf y) + 3 := by
  unfold Mo.beg1
  rw [if_pos rfl, show m.bf y + 1 - 1 = m.bf y from by omega]
  exact post_in _ _
theorem Mo.beg1_more (m : Mo) (y k : Int) (h : k ≠ 1) : m.beg1 y k = m.raw (m.bf y + k - 1) := by unfold Mo.beg1; rw [if_neg h]
section
variable {m : Mo} (ok : MOk m)
include ok
theorem MOk.beg_one (y : Int) : m.beg y 1 = m.beg1 y 1 := m.beg_in y 1 (by have := ok.mon y; omega)
theorem MOk.last (y : Int) : m.beg y (m.mon y + 1) = m.beg (y + 1) 1 := by rw [m.beg_next y _ (by omega), ok.beg_one]
/-- the length of a month -/
theorem MOk.step (y k : Int) (h1 : 1 ≤ k) (h2 : k ≤ m.mon y) : 26 ≤ m.beg y (k + 1) - m.beg y k ∧ m.beg y (k + 1) - m.beg y k ≤ 33 := by
  have hmo := ok.mon y
  have hr := ok.raw (m.bf y + k - 1)
  rw [show m.bf y + k - 1 + 1 = m.bf y + k from by omega] at hr
  rw [m.beg_in y k h2]
  by_cases hl : k = m.mon y
  · rw [m.beg_next y (k + 1) (by omega), m.beg1_more y k (by omega)]
    have := m.beg1_one (y + 1)
    rw [m.bf_succ, ← hl] at this
    omega
  · rw [m.beg_in y (k + 1) (by omega), m.beg1_more y (k + 1) (by omega), show m.bf y + (k + 1) - 1 = m.bf y + k from by omega]
    by_cases h : k = 1
    · subst h
      have := m.beg1_one y
      rw [show m.bf y + 1 - 1 = m.bf y from by omega] at hr
      omega
    · rw [m.beg1_more y k h]; omega
theorem MOk.steps (y : Int) : ∀ (n : Nat) (k : Int), 1 ≤ k → k + n ≤ m.mon y + 1 → m.beg y k + 26 * n ≤ m.beg y (k + n) := by
  intro n
  induction n with
  | zero => intro k _ _; simp
  | succ n ih =>
    intro k h1 h2
    have := ih k h1 (by omega)
    have := ok.step y (k + n) (by omega) (by omega)
    rw [show k + ((n + 1 : Nat) : Int) = k + n + 1 from by omega]
    omega
theorem MOk.mono (y j k : Int) (h1 : 1 ≤ j) (h2 : j ≤ k) (h3 : k ≤ m.mon y + 1) : m.beg y j + 26 * (k - j) ≤ m.beg y k := by
  have := ok.steps y (k - j).toNat j h1 (by omega)
  rw [show j + (((k - j).toNat : Nat) : Int) = k from by omega] at this
  omega
theorem MOk.year (y : Int) : m.beg y 1 + 312 ≤ m.beg (y + 1) 1 := by
  have h := ok.mon y
  have := ok.mono y 1 (m.mon y + 1) (by omega) (by omega) (by omega)
  rw [ok.last] at this
  omega
theorem MOk.years (y : Int) : ∀ n : Nat, m.beg y 1 + 312 * n ≤ m.beg (y + n) 1 := by
  intro n
  induction n with
  | zero => simp
  | succ n ih =>
    have := ok.year (y + n)
    rw [show y + ((n + 1 : Nat) : Int) = y + n + 1 from by omega]
    omega
theorem MOk.yearLt (y z : Int) (h : y ≤ z) : m.beg y 1 + 312 * (z - y) ≤ m.beg z 1 := by
  have := ok.years y (z - y).toNat
  rw [show y + (((z - y).toNat : Nat) : Int) = z from by omega] at this
  omega
/-- the day lies in month k of year y -/
theorem MOk.inYear (y k d : Int) (h1 : 1 ≤ k) (h2 : k ≤ m.mon y) (h3 : m.beg y k ≤ d) (h4 : d < m.beg y (k + 1)) : m.beg y 1 ≤ d ∧ d < m.beg (y + 1) 1 := by
  have a := ok.mono y 1 k (by omega) h1 (by omega)
  have b := ok.mono y (k + 1) (m.mon y + 1) (by omega) (by omega) (by omega)
  rw [ok.last] at b
  omega
theorem MOk.same (y k z l d : Int) (h1 : 1 ≤ k) (h2 : k ≤ m.mon y) (h3 : m.beg y k ≤ d) (h4 : d < m.beg y (k + 1))
    (g1 : 1 ≤ l) (g2 : l ≤ m.mon z) (g3 : m.beg z l ≤ d) (g4 : d < m.beg z (l + 1)) : y = z ∧ k = l := by
  have a := ok.inYear y k d h1 h2 h3 h4
  have b := ok.inYear z l d g1 g2 g3 g4
  have hyz : y = z := by
    rcases Int.lt_trichotomy y z with h | h | h
    · have := ok.yearLt (y + 1) z (by omega); omega
    · exact h
    · have := ok.yearLt (z + 1) y (by omega); omega
  subst hyz
  refine ⟨rfl, ?_⟩
  rcases Int.lt_trichotomy k l with h | h | h
  · have := ok.mono y (k + 1) l (by omega) (by omega) (by omega); omega
  · exact h
  · have := ok.mono y (l + 1) k (by omega) (by omega) (by omega); omega
/-- the day after a day: in the same month, or the first day of the next one -/
theorem MOk.next (y k z l d : Int) (h1 : 1 ≤ k) (h2 : k ≤ m.mon y) (h3 : m.beg y k ≤ d) (h4 : d < m.beg y (k + 1))
    (g1 : 1 ≤ l) (g2 : l ≤ m.mon z) (g3 : m.beg z l ≤ d + 1) (g4 : d + 1 < m.beg z (l + 1)) :
    (z = y ∧ l = k) ∨ (d + 1 = m.beg z l ∧ ((z = y ∧ l = k + 1) ∨ (z = y + 1 ∧ l = 1))) := by
  by_cases hs : d + 1 < m.beg y (k + 1)
  · left
    have := ok.same y k z l (d + 1) h1 h2 (by omega) hs g1 g2 g3 g4
    omega
  · right
    have hmo := ok.mon y
    have hmz := ok.mon (y + 1)
    by_cases hl : k = m.mon y
    · have e := ok.last y
      rw [← hl] at e
      have s1 := ok.step (y + 1) 1 (by omega) (by omega)
      obtain ⟨rfl, rfl⟩ := ok.same (y + 1) 1 z l (d + 1) (by omega) (by omega) (by omega) (by omega) g1 g2 g3 g4
      exact ⟨by omega, .inr ⟨rfl, rfl⟩⟩
    · have s1 := ok.step y (k + 1) (by omega) (by omega)
      obtain ⟨rfl, rfl⟩ := ok.same y (k + 1) z l (d + 1) (by omega) (by omega) (by omega) (by omega) g1 g2 g3 g4
      exact ⟨by omega, .inl ⟨rfl, rfl⟩⟩
/-- no year begins on a weekday that is avoided -/
theorem MOk.free (y : Int) : avB m.av (m.beg y 1) = false := by
  rw [ok.beg_one]
  unfold Mo.beg1
  rw [if_pos rfl]
  exact post_free _ ok.al _
theorem MOk.beg_bound (y k : Int) (h1 : -15000 ≤ y) (h2 : y ≤ 15000) (h3 : 1 ≤ k) (h4 : k ≤ 100) : -300000000 ≤ m.beg y k ∧ m.beg y k ≤ 300000000 := by
  have hraw : ∀ K : Int, -3000100 ≤ K → K ≤ 3000100 → -200000000 ≤ m.raw K ∧ m.raw K ≤ 200000000 := fun K k1 k2 => by
    obtain ⟨p1, p2, _⟩ := ok.parts
    obtain ⟨s1, s2, s3, s4, s5, s6⟩ := ok.SML
    have e1 := ok.e1
    have e2 := ok.e2
    unfold Mo.raw
    rw [rawD_eq _ _ _ _ _ _ (by omega) s5 s6]
    have hK1 : K * m.M ≤ 3000100 * (30 * m.parts) := by
      have := mul_in K m.M 3000100 (30 * m.parts) (by omega) (by omega) (by omega) s4 (by omega); omega
    have hK2 : -(3000100 * (30 * m.parts)) ≤ K * m.M := by
      have := mul_in K m.M 3000100 (30 * m.parts) (by omega) (by omega) (by omega) s4 (by omega); omega
    have q1 : -90003001 ≤ (m.S + K * m.M + (m.parts - m.L)) / m.parts := by
      rw [Int.le_ediv_iff_mul_le (by omega)]; omega
    have q2 : (m.S + K * m.M + (m.parts - m.L)) / m.parts < 90003003 := by
      rw [Int.ediv_lt_iff_lt_mul (by omega)]; omega
    omega
  have b0 := ok.bf y (by omega) (by omega)
  have b1 := ok.bf (y + 1) (by omega) (by omega)
  by_cases hk : m.mon y < k
  · rw [m.beg_next y k hk]
    have := m.beg1_one (y + 1)
    have := hraw (m.bf (y + 1)) (by omega) (by omega)
    omega
  · rw [m.beg_in y k (by omega)]
    by_cases h : k = 1
    · subst h
      have := m.beg1_one y
      have := hraw (m.bf y) (by omega) (by omega)
      omega
    · rw [m.beg1_more y k h]
      have := hraw (m.bf y + k - 1) (by omega) (by omega)
      omega
end
end Go.Proofs.Ytfindembancjdaa
