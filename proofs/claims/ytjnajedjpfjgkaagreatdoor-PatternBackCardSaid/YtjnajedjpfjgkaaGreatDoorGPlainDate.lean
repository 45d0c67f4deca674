/- PlainDate, PlainGreg -/
import Derived.Test.YtjnajedjpfjgkaaGreatDoorGCatOk
/- Plain arithmetic of the Gregorian calendar, no program in sight. -/
namespace Go.Proofs.YtjnajedjpfjgkaaGreatDoor
set_option linter.unusedVariables false

/-- a leap year -/
def leapB (y : Int) : Bool := decide (y % 4 = 0 ∧ (y % 100 ≠ 0 ∨ y % 400 = 0))
/-- days of February -/
def feb (y : Int) : Int := if leapB y then 29 else 28
/-- 1 January -/
def ny (y : Int) : Int := 365 * (y - 1) + (y - 1) / 4 - (y - 1) / 100 + (y - 1) / 400 + 1
/-- the lengths of the months, f: February's -/
def lens (f : Int) : List Int := [31, f, 31, 30, 31, 30, 31, 31, 30, 31, 30, 31]
/-- the length of month k (from 0 on) -/
def len (f : Int) (k : Nat) : Int := (lens f).getD k 0
/-- the days of the first k months -/
def cum (f : Int) : Nat → Int
  | 0 => 0
  | k + 1 => cum f k + len f k

theorem feb_or (y : Int) : feb y = 28 ∨ feb y = 29 := by unfold feb; split <;> simp
theorem ny_succ (y : Int) : ny (y + 1) = ny y + 337 + feb y := by
  unfold ny feb leapB
  by_cases h : y % 4 = 0 ∧ (y % 100 ≠ 0 ∨ y % 400 = 0)
  · rw [if_pos (by simpa using h)]; omega
  · rw [if_neg (by simpa using h)]; omega
theorem cum_12 (f : Int) : cum f 12 = 337 + f := by simp [cum, len, lens]; omega
theorem len_pos (f : Int) (h : 28 ≤ f) (k : Nat) (hk : k < 12) : 28 ≤ len f k := by
  match k, hk with
  | 0, _ | 1, _ | 2, _ | 3, _ | 4, _ | 5, _ | 6, _ | 7, _ | 8, _ | 9, _ | 10, _ | 11, _ => simp [len, lens]; try omega
theorem len_le (f : Int) (h : f ≤ 31) (k : Nat) : len f k ≤ 31 := by
  match k with
  | 0 | 1 | 2 | 3 | 4 | 5 | 6 | 7 | 8 | 9 | 10 | 11 => simp [len, lens]; try omega
  | n + 12 => simp [len, lens]
theorem cum_mono (f : Int) (h : 28 ≤ f) (k j : Nat) (hj : k + j ≤ 12) : cum f k ≤ cum f (k + j) := by
  induction j with
  | zero => simp
  | succ j ih =>
    have := len_pos f h (k + j) (by omega)
    have := ih (by omega)
    rw [← Nat.add_assoc]; simp only [cum]; omega
theorem ny_bounds (y : Int) (h : ny y > -4000001) : -10955 ≤ y := by unfold ny at h; omega
theorem ny_bounds' (y : Int) (h : ny y ≤ 4000001) : y ≤ 10955 := by unfold ny at h; omega
theorem ny_lo (y : Int) (h : y ≤ 20000) (h' : -20000 ≤ y) : -8000000 ≤ ny y ∧ ny y ≤ 8000000 := by unfold ny; omega
/-- the day d of month k (from 0 on) of year y -/
def dayOf (y : Int) (k : Nat) (d : Int) : Int := ny y + cum (feb y) k + d - 1
/-- such a date exists -/
def valid (y : Int) (k : Nat) (d : Int) : Prop := k < 12 ∧ 1 ≤ d ∧ d ≤ len (feb y) k

theorem dayOf_in (y : Int) (k : Nat) (d : Int) (h : valid y k d) : ny y ≤ dayOf y k d ∧ dayOf y k d < ny (y + 1) := by
  obtain ⟨hk, h1, h2⟩ := h
  have hf := feb_or y
  have c1 := cum_mono (feb y) (by omega) 0 k (by omega)
  have c2 := cum_mono (feb y) (by omega) (k + 1) (11 - k) (by omega)
  rw [show k + 1 + (11 - k) = 12 from by omega, cum_12] at c2
  have c3 : cum (feb y) (k + 1) = cum (feb y) k + len (feb y) k := rfl
  have c4 : cum (feb y) 0 = 0 := rfl
  rw [ny_succ]
  rw [Nat.zero_add] at c1
  unfold dayOf
  omega
theorem ny_mono (a b : Int) (h : a ≤ b) : ny a ≤ ny b := by unfold ny; omega
/-- a day has one date -/
theorem dayOf_inj (y y' : Int) (k k' : Nat) (d d' : Int) (h : valid y k d) (h' : valid y' k' d') (e : dayOf y k d = dayOf y' k' d') : y = y' ∧ k = k' ∧ d = d' := by
  obtain ⟨a1, a2⟩ := dayOf_in y k d h
  obtain ⟨b1, b2⟩ := dayOf_in y' k' d' h'
  have hy : y = y' := by
    rcases Int.lt_trichotomy y y' with g | g | g
    · have := ny_mono (y + 1) y' (by omega); omega
    · exact g
    · have := ny_mono (y' + 1) y (by omega); omega
  subst hy
  obtain ⟨hk, h1, h2⟩ := h
  obtain ⟨hk', h1', h2'⟩ := h'
  have hf := feb_or y
  have hkk : k = k' := by
    rcases Nat.lt_trichotomy k k' with g | g | g
    · have c := cum_mono (feb y) (by omega) (k + 1) (k' - (k + 1)) (by omega)
      rw [show k + 1 + (k' - (k + 1)) = k' from by omega] at c
      have c3 : cum (feb y) (k + 1) = cum (feb y) k + len (feb y) k := rfl
      unfold dayOf at e; omega
    · exact g
    · have c := cum_mono (feb y) (by omega) (k' + 1) (k - (k' + 1)) (by omega)
      rw [show k' + 1 + (k - (k' + 1)) = k from by omega] at c
      have c3 : cum (feb y) (k' + 1) = cum (feb y) k' + len (feb y) k' := rfl
      unfold dayOf at e; omega
  subst hkk
  refine ⟨rfl, rfl, ?_⟩
  unfold dayOf at e; omega
/-- the date of the next day -/
theorem next_date (y y' : Int) (k k' : Nat) (d d' : Int) (h : valid y k d) (h' : valid y' k' d') (e : dayOf y' k' d' = dayOf y k d + 1) :
    (y' = y ∧ k' = k ∧ d' = d + 1) ∨ (d' = 1 ∧ y' = y ∧ k' = k + 1) ∨ (d' = 1 ∧ y' = y + 1 ∧ k' = 0 ∧ k = 11) := by
  obtain ⟨hk, h1, h2⟩ := h
  have hf := feb_or y
  have hf' := feb_or (y + 1)
  by_cases hd : d + 1 ≤ len (feb y) k
  · left
    have v : valid y k (d + 1) := ⟨hk, by omega, hd⟩
    have := dayOf_inj y' y k' k d' (d + 1) h' v (by rw [e]; unfold dayOf; omega)
    exact this
  · right
    by_cases hm : k + 1 < 12
    · left
      have v : valid y (k + 1) 1 := ⟨hm, by omega, by have := len_pos (feb y) (by omega) (k + 1) hm; omega⟩
      have := dayOf_inj y' y k' (k + 1) d' 1 h' v (by rw [e]; unfold dayOf; simp only [cum]; omega)
      exact ⟨this.2.2, this.1, this.2.1⟩
    · right
      have hk11 : k = 11 := by omega
      have v : valid (y + 1) 0 1 := ⟨by omega, by omega, by have := len_pos (feb (y + 1)) (by omega) 0 (by omega); omega⟩
      have c12 := cum_12 (feb y)
      have := dayOf_inj y' (y + 1) k' 0 d' 1 h' v (by
        rw [e]; unfold dayOf; rw [ny_succ]; subst hk11
        have c3 : cum (feb y) 12 = cum (feb y) 11 + len (feb y) 11 := rfl
        have c0 : cum (feb (y + 1)) 0 = 0 := rfl
        omega)
      exact ⟨this.2.2, this.1, this.2.1, hk11⟩
theorem year_in (y : Int) (k : Nat) (d : Int) (h : valid y k d) (h1 : -3640000 ≤ dayOf y k d) (h2 : dayOf y k d ≤ 3640000) : -10000 ≤ y ∧ y ≤ 10000 := by
  obtain ⟨a1, a2⟩ := dayOf_in y k d h
  unfold ny at a1 a2
  omega
end Go.Proofs.YtjnajedjpfjgkaaGreatDoor

/- The calendar gregorian of the catalog is that of package line. -/
namespace Go.Proofs.YtjnajedjpfjgkaaGreatDoor
open Go.RowKit
set_option linter.unusedVariables false

theorem cr0_in : cr0 ∈ catR := by simp [catR]
theorem leapB_mod (y : Int) : leapB y = leapB ((y - 1) % 400 + 1) := by
  unfold leapB
  rw [Bool.eq_iff_iff, decide_eq_true_eq, decide_eq_true_eq]
  omega
set_option maxHeartbeats 4000000 in
set_option maxRecDepth 1000000 in
theorem greg_tab : ∀ i : Nat, i < 400 → decide (((i : Int) + 1) ∈ cr0.t.leaps 400) = leapB ((i : Int) + 1) := by
  have h : (List.range 400).all (fun i => decide (((i : Int) + 1) ∈ cr0.t.leaps 400) == leapB ((i : Int) + 1)) = true := by decide +kernel
  intro i hi
  have := List.all_eq_true.1 h i (List.mem_range.2 hi)
  simpa using this
theorem greg_leap {c : Cal} (h : CalOf cr0 c) (y : Int) : c.lpy y = leapB y := by
  have hcy : c.cy = 400 := h.cy
  have hlp : c.lp = cr0.t.leaps 400 := h.lp
  unfold Cal.lpy Cal.pl
  rw [hcy, hlp, leapB_mod y]
  have := greg_tab ((y - 1) % 400).toNat (by omega)
  rw [show (((y - 1) % 400).toNat : Int) = (y - 1) % 400 from by omega] at this
  exact this
theorem greg_len {c : Cal} (h : CalOf cr0 c) (y : Int) (k : Nat) (hk : k < 12) : c.mlen y k = len (feb y) k := by
  have hmo : c.mo = moA := h.mo
  unfold Cal.mlen
  rw [greg_leap h, hmo]
  unfold feb
  cases leapB y
  · match k, hk with
    | 0, _ | 1, _ | 2, _ | 3, _ | 4, _ | 5, _ | 6, _ | 7, _ | 8, _ | 9, _ | 10, _ | 11, _ => rfl
  · match k, hk with
    | 0, _ | 1, _ | 2, _ | 3, _ | 4, _ | 5, _ | 6, _ | 7, _ | 8, _ | 9, _ | 10, _ | 11, _ => rfl
theorem greg_n {c : Cal} (h : CalOf cr0 c) : c.mo.length = 12 := by rw [h.mo]; rfl
theorem greg_pre {c : Cal} (h : CalOf cr0 c) (y : Int) : ∀ k, k ≤ 12 → c.pre y k = cum (feb y) k := by
  intro k
  induction k with
  | zero => intro _; rw [c.pre_zero]; rfl
  | succ k ih => intro hk; rw [c.pre_succ y k (by rw [greg_n h]; omega), ih (by omega), greg_len h y k (by omega)]; rfl
theorem greg_ylen {c : Cal} (h : CalOf cr0 c) (y : Int) : c.ylen y = 337 + feb y := by
  rw [← c.pre_all, greg_n h, greg_pre h y 12 (Nat.le_refl _), cum_12]
theorem greg_ny {c : Cal} (h : CalOf cr0 c) (ok : CalOk c) (y : Int) : c.ny y = ny y := by
  have h1 : c.ny 1 = ny 1 := by rw [Cal.ny_one ok, h.ep]; rfl
  have up : ∀ k : Nat, c.ny (1 + (k : Int)) = ny (1 + (k : Int)) := by
    intro k
    induction k with
    | zero => exact h1
    | succ k ih =>
      rw [show (1 : Int) + ((k + 1 : Nat) : Int) = 1 + (k : Int) + 1 from by omega, Cal.ny_step ok, ih, greg_ylen h, ny_succ]
      omega
  have down : ∀ k : Nat, c.ny (1 - (k : Int)) = ny (1 - (k : Int)) := by
    intro k
    induction k with
    | zero => exact h1
    | succ k ih =>
      have a := Cal.ny_step ok (1 - ((k + 1 : Nat) : Int))
      have b := ny_succ (1 - ((k + 1 : Nat) : Int))
      rw [show (1 : Int) - ((k + 1 : Nat) : Int) + 1 = 1 - (k : Int) from by omega] at a b
      rw [greg_ylen h] at a
      omega
  by_cases hy : 1 ≤ y
  · have := up (y - 1).toNat
    rwa [show (1 : Int) + ((y - 1).toNat : Int) = y from by omega] at this
  · have := down (1 - y).toNat
    rwa [show (1 : Int) - ((1 - y).toNat : Int) = y from by omega] at this
theorem greg_on {c : Cal} (h : CalOf cr0 c) (ok : CalOk c) (y : Int) (k : Nat) (d : Int) (hv : valid y k d) : IsOn c y k (d - 1) (dayOf y k d) := by
  obtain ⟨hk, h1, h2⟩ := hv
  refine ⟨by rw [greg_n h]; exact hk, by omega, ?_, ?_⟩
  · rw [greg_len h y k hk]; omega
  · rw [greg_ny h ok, greg_pre h y k (by omega)]
    unfold dayOf
    omega
end Go.Proofs.YtjnajedjpfjgkaaGreatDoor
