/- PlainDate -/
/- Plain arithmetic of the Gregorian calendar, no program in sight. -/
namespace Go.Proofs.YtifhlmakacoicaaDoor
set_option linter.unusedVariables false

/-- a leap year -/
def leapB (y : Int) : Bool := decide (y % 4 = 0 ∧ (y % 100 ≠ 0 ∨ y % 400 = 0))
/-- days of February -/
def feb (y : Int) : Int := if leapB y then 29 else 28
/-- 1 January -/
def ny (y : Int) : Int := 365 * (y - 1) + (y - 1) / 4 - (y - 1) / 100 + (y - 1) / 400 + 1
/-- the lengths of the months, f: February's -/
def lens (f : Int) : List Int := [31, f, 31, 30, 31, 30, 31, 31, 30, 31, 30, 31]
/-- the length of month k (from 0 on) -/
def len (f : Int) (k : Nat) : Int := (lens f).getD k 0
/-- the days of the first k months -/
def cum (f : Int) : Nat → Int
  | 0 => 0
  | k + 1 => cum f k + len f k

theorem feb_or (y : Int) : feb y = 28 ∨ feb y = 29 := by unfold feb; split <;> simp
theorem ny_succ (y : Int) : ny (y + 1) = ny y + 337 + feb y := by
  unfold ny feb leapB
  by_cases h : y % 4 = 0 ∧ (y % 100 ≠ 0 ∨ y % 400 = 0)
  · rw [if_pos (by simpa using h)]; omega
  · rw [if_neg (by simpa using h)]; omega
theorem cum_12 (f : Int) : cum f 12 = 337 + f := by simp [cum, len, lens]; omega
theorem len_pos (f : Int) (h : 28 ≤ f) (k : Nat) (hk : k < 12) : 28 ≤ len f k := by
  match k, hk with
  | 0, _ | 1, _ | 2, _ | 3, _ | 4, _ | 5, _ | 6, _ | 7, _ | 8, _ | 9, _ | 10, _ | 11, _ => simp [len, lens]; try omega
theorem len_le (f : Int) (h : f ≤ 31) (k : Nat) : len f k ≤ 31 := by
  match k with
  | 0 | 1 | 2 | 3 | 4 | 5 | 6 | 7 | 8 | 9 | 10 | 11 => simp [len, lens]; try omega
  | n + 12 => simp [len, lens]
theorem cum_mono (f : Int) (h : 28 ≤ f) (k j : Nat) (hj : k + j ≤ 12) : cum f k ≤ cum f (k + j) := by
  induction j with
  | zero => simp
  | succ j ih =>
    have := len_pos f h (k + j) (by omega)
    have := ih (by omega)
    rw [← Nat.add_assoc]; simp only [cum]; omega
theorem ny_bounds (y : Int) (h : ny y > -4000001) : -10955 ≤ y := by unfold ny at h; omega
theorem ny_bounds' (y : Int) (h : ny y ≤ 4000001) : y ≤ 10955 := by unfold ny at h; omega
theorem ny_lo (y : Int) (h : y ≤ 20000) (h' : -20000 ≤ y) : -8000000 ≤ ny y ∧ ny y ≤ 8000000 := by unfold ny; omega
/-- the day d of month k (from 0 on) of year y -/
def dayOf (y : Int) (k : Nat) (d : Int) : Int := ny y + cum (feb y) k + d - 1
/-- such a date exists -/
def valid (y : Int) (k : Nat) (d : Int) : Prop := k < 12 ∧ 1 ≤ d ∧ d ≤ len (feb y) k

theorem dayOf_in (y : Int) (k : Nat) (d : Int) (h : valid y k d) : ny y ≤ dayOf y k d ∧ dayOf y k d < ny (y + 1) := by
  obtain ⟨hk, h1, h2⟩ := h
  have hf := feb_or y
  have c1 := cum_mono (feb y) (by omega) 0 k (by omega)
  have c2 := cum_mono (feb y) (by omega) (k + 1) (11 - k) (by omega)
  rw [show k + 1 + (11 - k) = 12 from by omega, cum_12] at c2
  have c3 : cum (feb y) (k + 1) = cum (feb y) k + len (feb y) k := rfl
  have c4 : cum (feb y) 0 = 0 := rfl
  rw [ny_succ]
  rw [Nat.zero_add] at c1
  unfold dayOf
  omega
theorem ny_mono (a b : Int) (h : a ≤ b) : ny a ≤ ny b := by unfold ny; omega
/-- a day has one date -/
theorem dayOf_inj (y y' : Int) (k k' : Nat) (d d' : Int) (h : valid y k d) (h' : valid y' k' d') (e : dayOf y k d = dayOf y' k' d') : y = y' ∧ k = k' ∧ d = d' := by
  obtain ⟨a1, a2⟩ := dayOf_in y k d h
  obtain ⟨b1, b2⟩ := dayOf_in y' k' d' h'
  have hy : y = y' := by
    rcases Int.lt_trichotomy y y' with g | g | g
    · have := ny_mono (y + 1) y' (by omega); omega
    · exact g
    · have := ny_mono (y' + 1) y (by omega); omega
  subst hy
  obtain ⟨hk, h1, h2⟩ := h
  obtain ⟨hk', h1', h2'⟩ := h'
  have hf := feb_or y
  have hkk : k = k' := by
    rcases Nat.lt_trichotomy k k' with g | g | g
    · have c := cum_mono (feb y) (by omega) (k + 1) (k' - (k + 1)) (by omega)
      rw [show k + 1 + (k' - (k + 1)) = k' from by omega] at c
      have c3 : cum (feb y) (k + 1) = cum (feb y) k + len (feb y) k := rfl
      unfold dayOf at e; omega
    · exact g
    · have c := cum_mono (feb y) (by omega) (k' + 1) (k - (k' + 1)) (by omega)
      rw [show k' + 1 + (k - (k' + 1)) = k from by omega] at c
      have c3 : cum (feb y) (k' + 1) = cum (feb y) k' + len (feb y) k' := rfl
      unfold dayOf at e; omega
  subst hkk
  refine ⟨rfl, rfl, ?_⟩
  unfold dayOf at e; omega
/-- the date of the next day -/
theorem next_date (y y' : Int) (k k' : Nat) (d d' : Int) (h : valid y k d) (h' : valid y' k' d') (e : dayOf y' k' d' = dayOf y k d + 1) :
    (y' = y ∧ k' = k ∧ d' = d + 1) ∨ (d' = 1 ∧ y' = y ∧ k' = k + 1) ∨ (d' = 1 ∧ y' = y + 1 ∧ k' = 0 ∧ k = 11) := by
  obtain ⟨hk, h1, h2⟩ := h
  have hf := feb_or y
  have hf' := feb_or (y + 1)
  by_cases hd : d + 1 ≤ len (feb y) k
  · left
    have v : valid y k (d + 1) := ⟨hk, by omega, hd⟩
    have := dayOf_inj y' y k' k d' (d + 1) h' v (by rw [e]; unfold dayOf; omega)
    exact this
  · right
    by_cases hm : k + 1 < 12
    · left
      have v : valid y (k + 1) 1 := ⟨hm, by omega, by have := len_pos (feb y) (by omega) (k + 1) hm; omega⟩
      have := dayOf_inj y' y k' (k + 1) d' 1 h' v (by rw [e]; unfold dayOf; simp only [cum]; omega)
      exact ⟨this.2.2, this.1, this.2.1⟩
    · right
      have hk11 : k = 11 := by omega
      have v : valid (y + 1) 0 1 := ⟨by omega, by omega, by have := len_pos (feb (y + 1)) (by omega) 0 (by omega); omega⟩
      have c12 := cum_12 (feb y)
      have := dayOf_inj y' (y + 1) k' 0 d' 1 h' v (by
        rw [e]; unfold dayOf; rw [ny_succ]; subst hk11
        have c3 : cum (feb y) 12 = cum (feb y) 11 + len (feb y) 11 := rfl
        have c0 : cum (feb (y + 1)) 0 = 0 := rfl
        omega)
      exact ⟨this.2.2, this.1, this.2.1, hk11⟩
theorem year_in (y : Int) (k : Nat) (d : Int) (h : valid y k d) (h1 : -3640000 ≤ dayOf y k d) (h2 : dayOf y k d ≤ 3640000) : -10000 ≤ y ∧ y ≤ 10000 := by
  obtain ⟨a1, a2⟩ := dayOf_in y k d h
  unfold ny at a1 a2
  omega
end Go.Proofs.YtifhlmakacoicaaDoor
