/- Fb -/
import Ieee.Arith
/- Bounds on floats: a result of rounding is not greater than a bound that the format has. (Plain.) -/
namespace Go.Proofs.YtfjpfllamalfeaaDoor
open Ieee
theorem dbl_frac : Ieee.double.fractionBits = 52 := rfl
theorem dbl_binade : Ieee.double.binade = 2 ^ 52 := rfl
theorem dbl_inf : Ieee.double.infRung = 2047 * 2 ^ 52 := rfl
theorem dbl_sign : Ieee.double.signWeight = 2 ^ 63 := rfl
theorem dbl_least : Ieee.double.leastPlace = -1074 := rfl
/-- rounding to a whole number, in any way, does not pass a whole number -/
theorem cut_le (way : Toward) (s : Bool) (n drop N : Nat) (h : n ≤ N * 2 ^ drop) : way.cut s n drop ≤ N := by
  unfold Toward.cut
  simp only [Nat.one_shiftLeft]
  have lt := Nat.lt_log2_self (n := n)
  by_cases hd : drop ≤ n.log2 + 2
  · rw [Nat.min_eq_left hd]
    generalize hg : 2 ^ drop = g at h
    have gp : 0 < g := by rw [← hg]; exact Nat.two_pow_pos _
    have dm := Nat.div_add_mod n g
    have ml := Nat.mod_lt n gp
    rcases Nat.lt_or_ge (n / g) N with hl | hl
    · have one : ∀ z : Bool, n / g + z.toNat ≤ N := fun z => by cases z <;> simp <;> omega
      exact one _
    · have e : n % g = 0 := by
        have : N * g ≤ n / g * g := Nat.mul_le_mul_right g hl
        have : g * (n / g) = n / g * g := Nat.mul_comm _ _
        omega
      have le : n / g ≤ N := by
        rw [Nat.div_le_iff_le_mul_add_pred gp]
        have : N * g = g * N := Nat.mul_comm _ _
        omega
      have n1 : (g == 0) = false := by simp; omega
      cases way <;> simp [e, n1] <;> exact le
  · have hd' : n.log2 + 2 ≤ drop := by omega
    rw [Nat.min_eq_right hd']
    have p1 : 2 ^ (n.log2 + 1) * 2 = 2 ^ (n.log2 + 2) := by rw [← Nat.pow_succ]
    generalize 2 ^ (n.log2 + 2) = g at p1
    have hn : n < g := by omega
    rw [Nat.div_eq_of_lt hn, Nat.mod_eq_of_lt hn]
    have a : decide (g < 2 * n) = false := by simp; omega
    have b : (g == 2 * n) = false := by simp; omega
    have one : n ≠ 0 → 1 ≤ N := fun h0 => by
      rcases Nat.eq_zero_or_pos N with h1 | h1
      · rw [h1] at h; omega
      · exact h1
    by_cases h0 : n = 0
    · subst h0
      cases way <;> simp at a b ⊢ <;> omega
    · have := one h0
      cases way <;> cases s <;> simp [a, b] <;> first | omega | exact Nat.le_trans (Bool.toNat_le _) this
/-- nor does it fall below the whole part -/
theorem cut_ge (s : Bool) (n drop : Nat) (h : drop ≤ n.log2 + 2) : n / 2 ^ drop ≤ Toward.even.cut s n drop := by
  unfold Toward.cut
  simp only [Nat.one_shiftLeft, Nat.min_eq_left h]
  omega
theorem cut_zero (s : Bool) (n : Nat) : Toward.even.cut s n 0 = n := by
  unfold Toward.cut
  simp [Nat.mod_one]
/-- what a word of a sign and a rung reads as -/
theorem read_word (s : Bool) (d k : Nat) (hd : d ≤ 2040) (hk : k ≤ 2 ^ 53) (hl : d = 0 ∨ 2 ^ 52 ≤ k) : ∃ m p : Nat, Ieee.double.read (Ieee.double.word s (d * 2 ^ 52 + k)) = .number s m ((p : Int) - 1074) ∧ m * 2 ^ p = k * 2 ^ d := by
  have hr : d * 2 ^ 52 + k < 2 ^ 63 := by omega
  have e1 : Ieee.double.word s (d * 2 ^ 52 + k) / 2 ^ 63 % 2 = s.toNat := by
    unfold Format.word; rw [dbl_sign]; cases s <;> simp <;> omega
  have e2 : Ieee.double.word s (d * 2 ^ 52 + k) % 2 ^ 63 = d * 2 ^ 52 + k := by
    unfold Format.word; rw [dbl_sign]; cases s <;> simp <;> omega
  have e3 : (Ieee.double.word s (d * 2 ^ 52 + k) / 2 ^ 63 % 2 == 1) = s := by rw [e1]; cases s <;> rfl
  unfold Format.read
  simp only [dbl_sign, dbl_binade, dbl_inf, dbl_least, e2, e3]
  by_cases c1 : d * 2 ^ 52 + k < 2 ^ 52
  · rw [if_pos c1]
    have : d = 0 := by omega
    subst this
    refine ⟨k, 0, ?_, by simp⟩
    simp
  · rw [if_neg c1, if_pos (by omega)]
    by_cases c2 : k = 2 ^ 53
    · subst c2
      refine ⟨2 ^ 52, d + 1, ?_, ?_⟩
      · have a : (d * 2 ^ 52 + 2 ^ 53) % 2 ^ 52 = 0 := by omega
        have b : (d * 2 ^ 52 + 2 ^ 53) / 2 ^ 52 = d + 2 := by omega
        have c : (-1074 + ((d + 2 - 1 : Nat) : Int)) = ((d + 1 : Nat) : Int) - 1074 := by omega
        rw [a, b, c]
      · rw [← Nat.pow_add, ← Nat.pow_add]
        congr 1
        omega
    · refine ⟨k, d, ?_, rfl⟩
      rcases Nat.lt_or_ge k (2 ^ 52) with c3 | c3
      · have : d = 0 := by omega
        omega
      · have a : (d * 2 ^ 52 + k) % 2 ^ 52 = k - 2 ^ 52 := by omega
        have b : (d * 2 ^ 52 + k) / 2 ^ 52 = d + 1 := by omega
        have e4 : 2 ^ 52 + (k - 2 ^ 52) = k := by omega
        have c : (-1074 + ((d + 1 - 1 : Nat) : Int)) = (d : Int) - 1074 := by omega
        rw [a, b, e4, c]
/-- THE WORD NEAREST TO A NUMBER OF AT MOST b * 2 ^ t UNITS (a unit: the least number) is a number of its sign, and of at most so many. -/
theorem pow_two_add (a b c : Nat) (h : a + b = c) : 2 ^ a * 2 ^ b = 2 ^ c := by rw [← h, Nat.pow_add]
theorem near_le (s : Bool) (m i c b t : Nat) (hb : b ≤ 2 ^ 52) (ht : t ≤ 1900) (hv : m * 2 ^ (i + 1074) ≤ b * 2 ^ t * 2 ^ c) : ∃ m' p : Nat, Ieee.double.read (Ieee.double.nearest s m ((i : Int) - c)) = .number s m' ((p : Int) - 1074) ∧ m' * 2 ^ p ≤ b * 2 ^ t ∧ (m = 0 → m' = 0) := by
  unfold Format.nearest
  by_cases hm : m = 0
  · rw [if_pos hm]
    obtain ⟨m', p, e1, e2⟩ := read_word s 0 0 (by omega) (by omega) (.inl rfl)
    simp only [Nat.zero_mul, Nat.zero_add] at e1 e2
    have : m' = 0 := by
      have := Nat.two_pow_pos p
      rcases Nat.mul_eq_zero.1 e2 with h | h <;> omega
    exact ⟨m', p, e1, by rw [e2]; exact Nat.zero_le _, fun _ => this⟩
  rw [if_neg hm]
  have l1 := Nat.log2_self_le hm
  have l2 := Nat.lt_log2_self (n := m)
  dsimp only
  rw [dbl_frac, dbl_least]
  generalize hL : m.log2 = L at *
  generalize hlast : max ((i : Int) - c + L - (52 : Nat)) (-1074) = last
  obtain ⟨d, hd⟩ : ∃ d : Nat, last = (d : Int) - 1074 := ⟨(last + 1074).toNat, by omega⟩
  subst hd
  have hdn : (((d : Int) - 1074) - -1074).toNat = d := by omega
  rw [hdn, dbl_binade, dbl_inf]
  generalize hup : ((i : Int) - c - (d - 1074)).toNat = up
  generalize hdrop : (((d : Int) - 1074) - (i - c)).toNat = drop
  -- the whole number that is kept: at most 2 ^ 53; at least 2 ^ 52 unless it is of the least place; and within the bound
  have key : Toward.even.cut s (m <<< up) drop ≤ 2 ^ 53 ∧ (d = 0 ∨ 2 ^ 52 ≤ Toward.even.cut s (m <<< up) drop) ∧ Toward.even.cut s (m <<< up) drop * 2 ^ d ≤ b * 2 ^ t := by
    by_cases hx : drop = 0
    · subst hx
      rw [cut_zero, Nat.shiftLeft_eq]
      have eu : up + d + c = i + 1074 := by omega
      have ul : up + L ≤ 52 := by omega
      refine ⟨?_, ?_, ?_⟩
      · have a : m * 2 ^ up ≤ 2 ^ (L + 1) * 2 ^ up := Nat.mul_le_mul_right _ (by omega)
        rw [← Nat.pow_add] at a
        exact Nat.le_trans a (Nat.pow_le_pow_right (by omega) (by omega))
      · rcases Nat.eq_zero_or_pos d with h0 | h0
        · exact .inl h0
        · right
          have : up + L = 52 := by omega
          have a : 2 ^ L * 2 ^ up ≤ m * 2 ^ up := Nat.mul_le_mul_right _ l1
          rw [← Nat.pow_add, Nat.add_comm, this] at a
          exact a
      · rw [← eu, Nat.pow_add, Nat.pow_add, ← Nat.mul_assoc, ← Nat.mul_assoc] at hv
        exact Nat.le_of_mul_le_mul_right hv (Nat.two_pow_pos c)
    · have hu0 : up = 0 := by omega
      subst hu0
      rw [Nat.shiftLeft_zero]
      have ed : drop + (i + 1074) = d + c := by omega
      have dl : L ≤ drop + 52 := by omega
      refine ⟨?_, ?_, ?_⟩
      · apply cut_le .even
        rw [← Nat.pow_add]
        exact Nat.le_trans (Nat.le_of_lt l2) (Nat.pow_le_pow_right (by omega) (by omega))
      · rcases Nat.eq_zero_or_pos d with h0 | h0
        · exact .inl h0
        · right
          have e : L = drop + 52 := by omega
          refine Nat.le_trans ?_ (cut_ge s m drop (by omega))
          rw [Nat.le_div_iff_mul_le (Nat.two_pow_pos _), ← Nat.pow_add, Nat.add_comm, ← e]
          exact l1
      · have td : d ≤ t := by
          rcases Nat.eq_zero_or_pos d with h0 | h0
          · omega
          · have e : L = drop + 52 := by omega
            have a : 2 ^ (52 + (d + c)) ≤ 2 ^ (52 + (t + c)) := by
              calc 2 ^ (52 + (d + c)) = 2 ^ L * 2 ^ (i + 1074) := by rw [← Nat.pow_add]; congr 1; omega
                _ ≤ m * 2 ^ (i + 1074) := Nat.mul_le_mul_right _ l1
                _ ≤ b * 2 ^ t * 2 ^ c := hv
                _ ≤ 2 ^ 52 * 2 ^ t * 2 ^ c := Nat.mul_le_mul_right _ (Nat.mul_le_mul_right _ hb)
                _ = 2 ^ (52 + (t + c)) := by rw [← Nat.pow_add, ← Nat.pow_add]; congr 1; omega
            have := (Nat.pow_le_pow_iff_right (a := 2) (by omega)).1 a
            omega
        have le : Toward.even.cut s m drop ≤ b * 2 ^ (t - d) := by
          apply cut_le .even
          have a : m * 2 ^ (i + 1074) ≤ b * 2 ^ (t - d) * 2 ^ drop * 2 ^ (i + 1074) := by
            rw [Nat.mul_assoc, ← Nat.pow_add, ed, Nat.mul_assoc, ← Nat.pow_add]
            rw [Nat.mul_assoc, ← Nat.pow_add] at hv
            have : t - d + (d + c) = t + c := by omega
            rw [this]
            exact hv
          exact Nat.le_of_mul_le_mul_right a (Nat.two_pow_pos _)
        calc _ ≤ b * 2 ^ (t - d) * 2 ^ d := Nat.mul_le_mul_right _ le
          _ = b * 2 ^ t := by rw [Nat.mul_assoc, ← Nat.pow_add]; congr 2; omega
  generalize Toward.even.cut s (m <<< up) drop = k at key
  obtain ⟨k1, k2, k3⟩ := key
  have dd : d ≤ 2040 := by
    rcases k2 with h | h
    · omega
    · have a : 2 ^ (52 + d) ≤ 2 ^ (52 + t) := by
        rw [Nat.pow_add, Nat.pow_add]
        exact Nat.le_trans (Nat.mul_le_mul_right _ h) (Nat.le_trans k3 (Nat.mul_le_mul_right _ hb))
      have := (Nat.pow_le_pow_iff_right (a := 2) (by omega)).1 a
      omega
  rw [Nat.min_eq_left (by omega)]
  obtain ⟨m', p, e1, e2⟩ := read_word s d k dd k1 k2
  exact ⟨m', p, e1, by rw [e2]; exact k3, fun h => absurd h hm⟩
end Go.Proofs.YtfjpfllamalfeaaDoor
