/- PlainInt -/
/- Plain arithmetic, no program in sight. -/
namespace Go.Proofs.YtjaahiphjekfgaaGreatDoor
set_option linter.unusedVariables false
theorem fdiv_unique (a b q r : Int) (e : a = b * q + r) (h : (0 < b ∧ 0 ≤ r ∧ r < b) ∨ (b < 0 ∧ r ≤ 0 ∧ b < r)) : a.fdiv b = q ∧ a.fmod b = r := by
  have hq : a.fdiv b = q := by
    rcases h with ⟨hb, h1, h2⟩ | ⟨hb, h1, h2⟩
    · rw [Int.fdiv_eq_ediv_of_nonneg _ (by omega)]
      have := (Int.ediv_emod_unique (a := a) (r := r) (q := q) hb).2 ⟨by omega, h1, h2⟩
      exact this.1
    · rw [← Int.neg_fdiv_neg, Int.fdiv_eq_ediv_of_nonneg _ (by omega)]
      have := (Int.ediv_emod_unique (a := -a) (b := -b) (r := -r) (q := q) (by omega)).2 ⟨by rw [Int.neg_mul]; omega, by omega, by omega⟩
      exact this.1
  refine ⟨hq, ?_⟩
  have := Int.mul_fdiv_add_fmod a b
  rw [hq] at this
  omega
theorem tmod_facts (a b : Int) (hb : b ≠ 0) : a = b * a.tdiv b + a.tmod b ∧ (0 < a.tmod b → 0 < a) ∧ (a.tmod b < 0 → a < 0) ∧ (a.tmod b).natAbs < b.natAbs := by
  refine ⟨(Int.mul_tdiv_add_tmod a b).symm, ?_, ?_, ?_⟩
  · intro h
    by_cases ha : 0 < a
    · exact ha
    · have := Int.tmod_nonneg (a := -a) b (by omega)
      rw [Int.neg_tmod] at this; omega
  · intro h
    by_cases ha : a < 0
    · exact ha
    · have := Int.tmod_nonneg (a := a) b (by omega)
      omega
  · rw [Int.natAbs_tmod]
    exact Nat.mod_lt _ (by omega)
theorem div_same (a b : Int) (hb : b ≠ 0) (h : a.tmod b = 0 ∨ (a.tmod b < 0 ↔ b < 0)) : a.tdiv b = a.fdiv b ∧ a.tmod b = a.fmod b := by
  obtain ⟨h1, _, _, h4⟩ := tmod_facts a b hb
  have := fdiv_unique a b _ _ h1 (by omega)
  exact ⟨this.1.symm, this.2.symm⟩
theorem div_less (a b : Int) (hb : b ≠ 0) (h0 : a.tmod b ≠ 0) (h : ¬ (a.tmod b < 0 ↔ b < 0)) : a.tdiv b - 1 = a.fdiv b ∧ a.tmod b + b = a.fmod b := by
  obtain ⟨h1, _, _, h4⟩ := tmod_facts a b hb
  have := fdiv_unique a b (a.tdiv b - 1) (a.tmod b + b) (by rw [Int.mul_sub]; omega) (by omega)
  exact ⟨this.1.symm, this.2.symm⟩
theorem fdiv_pos (a b : Int) (hb : 0 < b) : a.fdiv b = a / b := Int.fdiv_eq_ediv_of_nonneg _ (by omega)
theorem fmod_pos (a b : Int) (hb : 0 < b) : a.fmod b = a % b := Int.fmod_eq_emod_of_nonneg _ (by omega)
theorem fmod_facts (a b : Int) (hb : b ≠ 0) : a.fdiv b * b + a.fmod b = a ∧ ((0 < b ∧ 0 ≤ a.fmod b ∧ a.fmod b < b) ∨ (b < 0 ∧ a.fmod b ≤ 0 ∧ b < a.fmod b)) ∧ (a.fdiv b).natAbs ≤ a.natAbs + 1 := by
  obtain ⟨h1, h2, h3, h4⟩ := tmod_facts a b hb
  have hm := Int.mul_fdiv_add_fmod a b
  have ht := Int.natAbs_tdiv_le_natAbs a b
  rw [Int.mul_comm] at hm
  refine ⟨hm, ?_⟩
  by_cases hz : a.tmod b = 0
  · obtain ⟨e1, e2⟩ := div_same a b hb (.inl hz)
    rw [← e1, ← e2]; clear h1 hm; omega
  · by_cases hs : (a.tmod b < 0 ↔ b < 0)
    · obtain ⟨e1, e2⟩ := div_same a b hb (.inr hs)
      rw [← e1, ← e2]; clear h1 hm; omega
    · obtain ⟨e1, e2⟩ := div_less a b hb hz hs
      rw [← e1, ← e2]; clear h1 hm; omega
theorem tmod_zero0 (y n : Int) : (y.tmod n = 0) ↔ (y % n = 0) := by
  rw [← Int.dvd_iff_tmod_eq_zero, Int.dvd_iff_emod_eq_zero]
end Go.Proofs.YtjaahiphjekfgaaGreatDoor
