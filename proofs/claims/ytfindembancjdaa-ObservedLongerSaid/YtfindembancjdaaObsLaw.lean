/- Where a day lies in the table of a rule. -/
import Derived.Test.YtfindembancjdaaObs5
namespace Go.Proofs.Ytfindembancjdaa
open Go.RowKit
set_option linter.unusedVariables false

theorem st_find (f : Nat → Int) (day : Int) (h1 : f 0 ≤ day) : ∀ N, day < f N → ∃ p, p < N ∧ f p ≤ day ∧ day < f (p + 1) := by
  intro N
  induction N with
  | zero => intro h; omega
  | succ N ih =>
    intro h
    by_cases hc : day < f N
    · obtain ⟨p, hp, h2, h3⟩ := ih hc
      exact ⟨p, by omega, h2, h3⟩
    · exact ⟨N, by omega, by omega, h⟩
theorem sm_place {m : Mo} (ok : MOk m) (first : Int) (p : Nat) : ∀ n, p < m.sm first n → ∃ j k : Nat, j < n ∧ (k : Int) + 1 ≤ m.mon (first + j) ∧ p = m.sm first j + k := by
  intro n
  induction n with
  | zero => intro h; simp [Mo.sm] at h
  | succ n ih =>
    intro h
    have hm := ok.mon (first + n)
    by_cases hc : p < m.sm first n
    · obtain ⟨j, k, h1, h2, h3⟩ := ih hc
      exact ⟨j, k, by omega, h2, h3⟩
    · simp only [Mo.sm] at h
      exact ⟨n, p - m.sm first n, by omega, by omega, by omega⟩
/-- a day's place -/
structure Place (m : Mo) (t : Tab) (day : Int) (j : Nat) (k : Int) (p : Nat) : Prop where
  hj : j < t.ms.length
  k1 : 1 ≤ k
  k2 : k ≤ t.ms.getD j 0
  kp : (p : Int) = sumTo t.ms j + k - 1
  d1 : t.ss.getD p 0 ≤ day
  d2 : day < t.ss.getD (p + 1) 0
  b1 : t.ss.getD p 0 = m.beg (t.first + j) k
  b2 : t.ss.getD (p + 1) 0 = m.beg (t.first + j) (k + 1)
  km : k ≤ m.mon (t.first + j)
section
variable {m : Mo} {first : Int} {n : Nat} {w w' : World} {t : Tab}
theorem TabGood.ok (h : TabGood m first n w w' t) (hf : MFit m) (h1 : 1 ≤ n) (h2 : n ≤ 40) (hf1 : -10000 ≤ first) (hf2 : first ≤ 9960) : TOk t := by
  obtain ⟨ok, a1, a2, a3, a4, _, _, _, _, _, _, _, hd⟩ := h
  subst a2
  exact ok.tab t n h1 h2 hf1 hf2 a1 a3 a4 hf.nm hd
theorem TabGood.len (h : TabGood m first n w w' t) : t.ms.length = n ∧ t.ss.length = m.sm first n + 1 := by
  obtain ⟨ok, a1, a2, a3, a4, _⟩ := h
  rw [a3, a4, m.ms_len, m.ss_len]; exact ⟨rfl, rfl⟩
theorem TabGood.get (h : TabGood m first n w w' t) (i : Nat) (hi : i ≤ m.sm first n) : t.ss.getD i 0 = m.st first i := by
  obtain ⟨ok, a1, a2, a3, a4, _⟩ := h
  rw [a4, m.ss_get _ _ _ (by omega)]
theorem TabGood.last (h : TabGood m first n w w' t) : m.st first (m.sm first n) = m.beg (first + n) 1 := by
  obtain ⟨ok, _⟩ := h
  unfold Mo.st
  rw [(ok.pair_in first n).1]
theorem TabGood.place (h : TabGood m first n w w' t) (day : Int) (h1 : m.st first 0 ≤ day) (h2 : day < m.st first (m.sm first n)) : ∃ j k p, Place m t day j k p := by
  have hh := h
  obtain ⟨ok, a1, a2, a3, a4, _⟩ := hh
  obtain ⟨p, hp, d1, d2⟩ := st_find (m.st first) day h1 _ h2
  obtain ⟨j, k, hj, hk, hpe⟩ := sm_place ok first p n hp
  refine ⟨j, (k : Int) + 1, p, ⟨by rw [h.len.1]; exact hj, by omega, by rw [a3, m.ms_get _ _ _ hj]; exact hk, ?_, by rw [h.get p (by omega)]; exact d1, by rw [h.get (p + 1) (by omega)]; exact d2, ?_, ?_, by rw [a2]; exact hk⟩⟩
  · rw [a3, ok.sumTo first n j (by omega), hpe]; omega
  · rw [h.get p (by omega), a2, hpe]; exact ok.st_at first j k hk
  · rw [h.get (p + 1) (by omega), a2, hpe]; exact ok.st_next first j k hk
/-- the rule itself has a date for the days of its table -/
theorem TabGood.day (h : TabGood m first n w w' t) (hn : n ≤ 40) (hf1 : -9000 ≤ first) (hf2 : first ≤ 9000) (day : Int) (h1 : m.st first 0 ≤ day) (h2 : day < m.st first (m.sm first n)) : MDay m day := by
  have hl := h.last
  obtain ⟨ok, a1, a2, a3, a4, _, _, _, _, _, _, _, hd⟩ := h
  have e0 := (hd 0 (by omega)).1
  have e1 := (hd _ (Nat.le_refl _)).2
  have hs0 : m.st first 0 = m.beg first 1 := rfl
  have y1 := ok.yearLt (-9999) first (by omega)
  have y2 := ok.yearLt (first + n) 10000 (by omega)
  refine ⟨ok, ⟨by omega, by omega⟩, by omega, by omega⟩
theorem Place.same {day : Int} {j : Nat} {k : Int} {p : Nat} (hp : Place m t day j k p) (ok : MOk m) (y l : Int) (l1 : 1 ≤ l) (l2 : l ≤ m.mon y) (l3 : m.beg y l ≤ day) (l4 : day < m.beg y (l + 1)) : y = t.first + j ∧ l = k := by
  have a := hp.d1
  have b := hp.d2
  rw [hp.b1] at a
  rw [hp.b2] at b
  have := ok.same (t.first + j) k y l day hp.k1 hp.km a b l1 l2 l3 l4
  exact ⟨this.1.symm, this.2.symm⟩
end
theorem plain_days1 : OfDays plainM 1 (plainM.sm 1 1) := by
  have h : ∀ i, i < 13 → IsD (plainM.st 1 i) := by decide +kernel
  intro i hi
  exact h i (by have : plainM.sm 1 1 = 12 := by decide +kernel
                omega)
end Go.Proofs.Ytfindembancjdaa
