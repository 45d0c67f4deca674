/- The table of a rule, plainly. -/
import Derived.Test.YtfindembancjdaaObs1
namespace Go.Proofs.Ytfindembancjdaa
set_option linter.unusedVariables false

def Mo.nxt (m : Mo) (q : Int × Int) : Int × Int := if q.2 < m.mon q.1 then (q.1, q.2 + 1) else (q.1 + 1, 1)
/-- the i-th month from a year's first one on -/
def Mo.pair (m : Mo) (first : Int) : Nat → Int × Int
  | 0 => (first, 1)
  | i + 1 => m.nxt (m.pair first i)
/-- its beginning -/
def Mo.st (m : Mo) (first : Int) (i : Nat) : Int := m.beg (m.pair first i).1 (m.pair first i).2
/-- the months of the first j years -/
def Mo.sm (m : Mo) (first : Int) : Nat → Nat
  | 0 => 0
  | j + 1 => m.sm first j + (m.mon (first + j)).toNat
def Mo.ms (m : Mo) (first : Int) (n : Nat) : List Int := (List.range n).map fun j => m.mon (first + (j : Nat))
def Mo.ss (m : Mo) (first : Int) (i : Nat) : List Int := (List.range i).map (m.st first)
theorem Mo.ms_len (m : Mo) (first : Int) (n : Nat) : (m.ms first n).length = n := by simp [Mo.ms]
theorem Mo.ss_len (m : Mo) (first : Int) (n : Nat) : (m.ss first n).length = n := by simp [Mo.ss]
theorem Mo.ms_get (m : Mo) (first : Int) (n j : Nat) (h : j < n) : (m.ms first n).getD j 0 = m.mon (first + j) := by simp [Mo.ms, List.getD, h]
theorem Mo.ss_get (m : Mo) (first : Int) (n j : Nat) (h : j < n) : (m.ss first n).getD j 0 = m.st first j := by simp [Mo.ss, List.getD, h]
theorem Mo.ms_succ (m : Mo) (first : Int) (n : Nat) : m.ms first (n + 1) = m.ms first n ++ [m.mon (first + (n : Nat))] := by simp [Mo.ms, List.range_succ]
theorem Mo.ss_succ (m : Mo) (first : Int) (n : Nat) : m.ss first (n + 1) = m.ss first n ++ [m.st first n] := by simp [Mo.ss, List.range_succ]
theorem Mo.sm_mono (m : Mo) (first : Int) (a b : Nat) (h : a ≤ b) : m.sm first a ≤ m.sm first b := by
  obtain ⟨d, rfl⟩ : ∃ d, b = a + d := ⟨b - a, by omega⟩
  clear h
  induction d with
  | zero => exact Nat.le_refl _
  | succ d ih => rw [← Nat.add_assoc]; simp only [Mo.sm]; omega
section
variable {m : Mo} (ok : MOk m)
include ok
theorem MOk.pair_ok (first : Int) : ∀ i, 1 ≤ (m.pair first i).2 ∧ (m.pair first i).2 ≤ m.mon (m.pair first i).1 := by
  intro i
  induction i with
  | zero => have := ok.mon first; exact ⟨by simp [Mo.pair], by simp [Mo.pair]; omega⟩
  | succ i ih =>
    simp only [Mo.pair]
    unfold Mo.nxt
    split
    · exact ⟨by simp; omega, by simp; omega⟩
    · have := ok.mon ((m.pair first i).1 + 1); exact ⟨by simp, by simp; omega⟩
theorem MOk.st_succ (first : Int) (i : Nat) : m.st first (i + 1) = m.beg (m.pair first i).1 ((m.pair first i).2 + 1) := by
  have h := ok.pair_ok first i
  unfold Mo.st
  simp only [Mo.pair]
  unfold Mo.nxt
  split
  · rfl
  · rw [show (m.pair first i).2 = m.mon (m.pair first i).1 from by omega, ok.last]
theorem MOk.st_step (first : Int) (i : Nat) : 26 ≤ m.st first (i + 1) - m.st first i ∧ m.st first (i + 1) - m.st first i ≤ 33 := by
  have h := ok.pair_ok first i
  rw [ok.st_succ]
  unfold Mo.st
  exact ok.step _ _ h.1 h.2
theorem MOk.pair_in (first : Int) : ∀ j : Nat, m.pair first (m.sm first j) = (first + j, 1) ∧ ∀ k : Nat, ((k : Int) + 1) ≤ m.mon (first + j) → m.pair first (m.sm first j + k) = (first + j, (k : Int) + 1) := by
  intro j
  have inner : ∀ j : Nat, m.pair first (m.sm first j) = (first + j, 1) → ∀ k : Nat, ((k : Int) + 1) ≤ m.mon (first + j) → m.pair first (m.sm first j + k) = (first + j, (k : Int) + 1) := by
    intro j hA k
    induction k with
    | zero => intro _; simpa using hA
    | succ k ih =>
      intro hk
      have h := ih (by omega)
      rw [← Nat.add_assoc]
      simp only [Mo.pair, h, Mo.nxt]
      rw [if_pos (by omega)]
      simp
  induction j with
  | zero => exact ⟨by simp [Mo.sm, Mo.pair], inner 0 (by simp [Mo.sm, Mo.pair])⟩
  | succ j ih =>
    have hm := ok.mon (first + j)
    have hA : m.pair first (m.sm first (j + 1)) = (first + ((j + 1 : Nat) : Int), 1) := by
      have h := ih.2 ((m.mon (first + j)).toNat - 1) (by omega)
      have e : m.sm first (j + 1) = m.sm first j + ((m.mon (first + j)).toNat - 1) + 1 := by simp only [Mo.sm]; omega
      rw [e]
      simp only [Mo.pair, h, Mo.nxt]
      rw [if_neg (by omega)]
      simp
      omega
    exact ⟨hA, inner (j + 1) hA⟩
theorem MOk.st_at (first : Int) (j k : Nat) (h : (k : Int) + 1 ≤ m.mon (first + j)) : m.st first (m.sm first j + k) = m.beg (first + j) ((k : Int) + 1) := by
  unfold Mo.st
  rw [(ok.pair_in first j).2 k h]
theorem MOk.st_next (first : Int) (j k : Nat) (h : (k : Int) + 1 ≤ m.mon (first + j)) : m.st first (m.sm first j + k + 1) = m.beg (first + j) ((k : Int) + 1 + 1) := by
  rw [ok.st_succ, (ok.pair_in first j).2 k h]
theorem MOk.sm_in (first : Int) : ∀ j : Nat, 12 * j ≤ m.sm first j ∧ m.sm first j ≤ 13 * j := by
  intro j
  induction j with
  | zero => simp [Mo.sm]
  | succ j ih => have := ok.mon (first + j); simp only [Mo.sm]; omega
theorem MOk.sumTo (first : Int) (n : Nat) : ∀ j : Nat, j ≤ n → Go.Proofs.Ytfindembancjdaa.sumTo (m.ms first n) j = m.sm first j := by
  intro j
  induction j with
  | zero => intro _; rfl
  | succ j ih =>
    intro h
    have := ok.mon (first + j)
    simp only [Go.Proofs.Ytfindembancjdaa.sumTo, Mo.sm]
    rw [ih (by omega), m.ms_get first n j (by omega)]
    omega
/-- the table of a rule is valid -/
theorem MOk.tab (t : Tab) (n : Nat) (h1 : 1 ≤ n) (h2 : n ≤ 40) (hf1 : -10000 ≤ t.first) (hf2 : t.first ≤ 9960) (hnm : t.nm = m.nm) (hms : t.ms = m.ms t.first n) (hss : t.ss = m.ss t.first (m.sm t.first n + 1)) (hfit : m.nm.size ≤ Go.maxLen) (hd : ∀ i, i ≤ m.sm t.first n → IsD (m.st t.first i)) : TOk t := by
  have hl : t.ms.length = n := by rw [hms, m.ms_len]
  have hl2 : t.ss.length = m.sm t.first n + 1 := by rw [hss, m.ss_len]
  refine ⟨by rw [hnm]; exact ok.nm, by rw [hnm]; exact hfit, by omega, by omega, hf1, by omega, ?_, ?_, ?_, ?_⟩
  · intro i hi
    rw [hms, m.ms_get _ _ _ (by omega)]
    have := ok.mon (t.first + i)
    omega
  · rw [hl, hl2, hms, ok.sumTo t.first n n (Nat.le_refl _)]; omega
  · intro i hi
    rw [hss, m.ss_get _ _ _ (by omega)]
    exact hd i (by omega)
  · intro i h0 hi
    rw [hss, m.ss_get _ _ _ (by omega), m.ss_get _ _ _ (by omega)]
    have := ok.st_step t.first (i - 1)
    rw [show i - 1 + 1 = i from by omega] at this
    omega
end
/-- the beginnings so far, q months done -/
def Mo.sl (m : Mo) (first : Int) (q : Nat) : List Int := if q = 0 then [] else m.ss first (q + 1)
theorem Mo.sl_first (m : Mo) (first : Int) : m.sl first 1 = ([] ++ [m.st first 0]) ++ [m.st first 1] := by unfold Mo.sl; rw [if_neg (by omega), m.ss_succ, m.ss_succ]; rfl
theorem Mo.sl_next (m : Mo) (first : Int) (q : Nat) (h : 0 < q) : m.sl first (q + 1) = m.sl first q ++ [m.st first (q + 1)] := by unfold Mo.sl; rw [if_neg (by omega), if_neg (by omega), m.ss_succ]
theorem Mo.sl_len (m : Mo) (first : Int) (q : Nat) : (m.sl first q).length = if q = 0 then 0 else q + 1 := by unfold Mo.sl; split <;> simp [m.ss_len]
end Go.Proofs.Ytfindembancjdaa
