/- PlainFrac, Frac1 -/
import Derived.Test.YtcommodbjjdbmaaGreatDoorGWhole1
/- Plain arithmetic of fractions in lowest terms, no program in sight. -/
namespace Go.Proofs.YtcommodbjjdbmaaGreatDoor
set_option linter.unusedVariables false
/-- numerator and denominator of n / d in lowest terms -/
def fN (n d : Int) : Int := if d < 0 then -(n / (Int.gcd n d : Int)) else n / (Int.gcd n d : Int)
def fD (n d : Int) : Int := if d < 0 then -(d / (Int.gcd n d : Int)) else d / (Int.gcd n d : Int)

theorem f_facts (n d : Int) (hd : d ≠ 0) : ∃ (g n' d' : Int), 1 ≤ g ∧ g = (Int.gcd n d : Int) ∧ n = g * n' ∧ d = g * d' ∧ Int.gcd n' d' = 1 ∧ n / g = n' ∧ d / g = d' := by
  have hp : 0 < Int.gcd n d := Int.gcd_pos_of_ne_zero_right n hd
  have e := Int.gcd_ediv (Int.gcd_dvd_left n d) (Int.gcd_dvd_right n d)
  rw [Int.natAbs_natCast, Nat.div_self hp] at e
  refine ⟨(Int.gcd n d : Int), n / (Int.gcd n d : Int), d / (Int.gcd n d : Int), by omega, rfl, ?_, ?_, e, rfl, rfl⟩
  · exact (Int.mul_ediv_cancel' (Int.gcd_dvd_left n d)).symm
  · exact (Int.mul_ediv_cancel' (Int.gcd_dvd_right n d)).symm
theorem pos_of_mul_pos (g x : Int) (hg : 1 ≤ g) (h : 0 < g * x) : 0 < x := by
  rcases Int.lt_trichotomy x 0 with hx | hx | hx
  · have := Int.mul_neg_of_pos_of_neg (show 0 < g by omega) hx; omega
  · subst hx; omega
  · exact hx
theorem le_mul_abs (g x : Int) (hg : 1 ≤ g) : x.natAbs ≤ (g * x).natAbs := by
  rw [Int.natAbs_mul]
  exact Nat.le_mul_of_pos_left _ (by omega)
theorem fD_pos (n d : Int) (hd : d ≠ 0) : 1 ≤ fD n d ∧ (fD n d).natAbs ≤ d.natAbs ∧ (fN n d).natAbs ≤ n.natAbs ∧ Int.gcd (fN n d) (fD n d) = 1 ∧ fN n d * d = n * fD n d := by
  obtain ⟨g, n', d', hg, eg, en, ed, hc, e1, e2⟩ := f_facts n d hd
  unfold fN fD
  rw [← eg, e1, e2]
  have a1 := le_mul_abs g n' hg
  have a2 := le_mul_abs g d' hg
  rw [← en] at a1
  rw [← ed] at a2
  have hx : n' * d = n * d' := by rw [en, ed, ← Int.mul_assoc, Int.mul_comm n' g]
  by_cases h : d < 0
  · rw [if_pos h, if_pos h]
    have hd' : 0 < -d' := by apply pos_of_mul_pos g _ hg; rw [Int.mul_neg]; omega
    refine ⟨by omega, by omega, by omega, by rw [Int.gcd_neg, Int.neg_gcd]; exact hc, by rw [Int.neg_mul, Int.mul_neg, hx]⟩
  · rw [if_neg h, if_neg h]
    have hd' : 0 < d' := by apply pos_of_mul_pos g _ hg; omega
    exact ⟨by omega, a2, a1, hc, hx⟩
theorem dvd_of_coprime (q p x : Int) (hc : Int.gcd p q = 1) (h : q ∣ p * x) : q ∣ x := by
  have h1 : q.natAbs ∣ p.natAbs * x.natAbs := by rw [← Int.natAbs_mul]; exact Int.natAbs_dvd_natAbs.2 h
  have h2 : Nat.Coprime q.natAbs p.natAbs := by rw [Nat.coprime_comm]; exact hc
  exact Int.natAbs_dvd_natAbs.1 (h2.dvd_of_dvd_mul_left h1)
/-- two fractions in lowest terms that are equal have the same parts -/
theorem lowest (p q p' q' : Int) (hq : 1 ≤ q) (hq' : 1 ≤ q') (hc : Int.gcd p q = 1) (hc' : Int.gcd p' q' = 1) (h : p * q' = p' * q) : p = p' ∧ q = q' := by
  have d1 : q ∣ q' := dvd_of_coprime q p q' hc ⟨p', by rw [h, Int.mul_comm]⟩
  have d2 : q' ∣ q := dvd_of_coprime q' p' q hc' ⟨p, by rw [← h, Int.mul_comm]⟩
  have e : q = q' := Int.le_antisymm (Int.le_of_dvd (by omega) d1) (Int.le_of_dvd (by omega) d2)
  subst e
  exact ⟨Int.eq_of_mul_eq_mul_right (by omega) h, rfl⟩
theorem f_same (n d n' d' : Int) (hd : d ≠ 0) (hd' : d' ≠ 0) (h : n * d' = n' * d) : fN n d = fN n' d' ∧ fD n d = fD n' d' := by
  obtain ⟨a1, _, _, a4, a5⟩ := fD_pos n d hd
  obtain ⟨b1, _, _, b4, b5⟩ := fD_pos n' d' hd'
  refine lowest _ _ _ _ a1 b1 a4 b4 ?_
  -- N * D' = N' * D : multiply by d d'
  have e : fN n d * fD n' d' * (d * d') = fN n' d' * fD n d * (d * d') := by
    have l : fN n d * fD n' d' * (d * d') = (fN n d * d) * (fD n' d' * d') := by ac_rfl
    have r : fN n' d' * fD n d * (d * d') = (fN n' d' * d') * (fD n d * d) := by ac_rfl
    rw [l, r, a5, b5]
    have l2 : n * fD n d * (fD n' d' * d') = (n * d') * (fD n d * fD n' d') := by ac_rfl
    have r2 : n' * fD n' d' * (fD n d * d) = (n' * d) * (fD n d * fD n' d') := by ac_rfl
    rw [l2, r2, h]
  exact Int.eq_of_mul_eq_mul_right (by rw [ne_eq, Int.mul_eq_zero]; omega) e
theorem f_self (n d : Int) (hd : 1 ≤ d) (hc : Int.gcd n d = 1) : fN n d = n ∧ fD n d = d := by
  unfold fN fD
  rw [hc, if_neg (by omega), if_neg (by omega)]
  simp
theorem natAbs_quot (n : Int) (g : Nat) (hg : 0 < g) (h : g ∣ n.natAbs) : ((n.natAbs / g : Nat) : Int) = if n < 0 then -(n / (g : Int)) else n / (g : Int) := by
  have h' : (g : Int) ∣ n := by rw [← Int.natAbs_dvd_natAbs, Int.natAbs_natCast]; exact h
  rw [Int.natCast_ediv]
  by_cases hn : n < 0
  · rw [if_pos hn, Int.ofNat_natAbs_of_nonpos (by omega), Int.neg_ediv_of_dvd h']
  · rw [if_neg hn, Int.natAbs_of_nonneg (by omega)]
/-- the parts as the program makes them -/
theorem f_parts (n d : Int) (hd : d ≠ 0) : ∃ A B : Nat, n.natAbs / Nat.gcd n.natAbs d.natAbs = A ∧ d.natAbs / Nat.gcd n.natAbs d.natAbs = B ∧ fD n d = B ∧ fN n d = (if (n < 0 ↔ d < 0) then (A : Int) else -(A : Int)) ∧ (n = 0 → A = 0) := by
  have hp : 0 < Nat.gcd n.natAbs d.natAbs := Int.gcd_pos_of_ne_zero_right n hd
  have e1 := natAbs_quot n _ hp (Nat.gcd_dvd_left _ _)
  have e2 := natAbs_quot d _ hp (Nat.gcd_dvd_right _ _)
  refine ⟨_, _, rfl, rfl, ?_, ?_, fun h => by subst h; simp⟩
  · rw [e2]; rfl
  · rw [e1]
    unfold fN Int.gcd
    have h0 : n = 0 → n / (Nat.gcd n.natAbs d.natAbs : Int) = 0 := fun h => by subst h; simp
    generalize n / (Nat.gcd n.natAbs d.natAbs : Int) = q at *
    by_cases h1 : n < 0 <;> by_cases h2 : d < 0 <;> simp [h1, h2]
theorem mul3_ne (a b c : Int) (ha : 1 ≤ a) (hb : 1 ≤ b) (hc : 1 ≤ c) : a * b * c ≠ 0 := by
  rw [ne_eq, Int.mul_eq_zero, Int.mul_eq_zero]; omega
theorem mul2_ne (a b : Int) (ha : 1 ≤ a) (hb : 1 ≤ b) : a * b ≠ 0 := by
  rw [ne_eq, Int.mul_eq_zero]; omega
theorem field_distrib (xn xd yn yd zn zd : Int) (hx : 1 ≤ xd) (hy : 1 ≤ yd) (hz : 1 ≤ zd) :
    fN (fN (xn * yd + yn * xd) (xd * yd) * zn) (fD (xn * yd + yn * xd) (xd * yd) * zd) = fN (fN (xn * zn) (xd * zd) * fD (yn * zn) (yd * zd) + fN (yn * zn) (yd * zd) * fD (xn * zn) (xd * zd)) (fD (xn * zn) (xd * zd) * fD (yn * zn) (yd * zd)) ∧
    fD (fN (xn * yd + yn * xd) (xd * yd) * zn) (fD (xn * yd + yn * xd) (xd * yd) * zd) = fD (fN (xn * zn) (xd * zd) * fD (yn * zn) (yd * zd) + fN (yn * zn) (yd * zd) * fD (xn * zn) (xd * zd)) (fD (xn * zn) (xd * zd) * fD (yn * zn) (yd * zd)) := by
  obtain ⟨a1, _, _, _, a5⟩ := fD_pos (xn * yd + yn * xd) (xd * yd) (mul2_ne _ _ hx hy)
  obtain ⟨b1, _, _, _, b5⟩ := fD_pos (xn * zn) (xd * zd) (mul2_ne _ _ hx hz)
  obtain ⟨c1, _, _, _, c5⟩ := fD_pos (yn * zn) (yd * zd) (mul2_ne _ _ hy hz)
  generalize fN (xn * yd + yn * xd) (xd * yd) = N1 at *
  generalize fD (xn * yd + yn * xd) (xd * yd) = D1 at *
  generalize fN (xn * zn) (xd * zd) = N3 at *
  generalize fD (xn * zn) (xd * zd) = D3 at *
  generalize fN (yn * zn) (yd * zd) = N4 at *
  generalize fD (yn * zn) (yd * zd) = D4 at *
  refine f_same _ _ _ _ (mul2_ne _ _ a1 hz) (mul2_ne _ _ b1 c1) ?_
  refine Int.eq_of_mul_eq_mul_right (mul3_ne xd yd zd hx hy hz) ?_
  grind
theorem field_back (xn xd yn yd : Int) (hx : 1 ≤ xd) (hy : 1 ≤ yd) (hc : Int.gcd xn xd = 1) :
    fN (fN (xn * yd + yn * xd) (xd * yd) * yd - yn * fD (xn * yd + yn * xd) (xd * yd)) (fD (xn * yd + yn * xd) (xd * yd) * yd) = xn ∧
    fD (fN (xn * yd + yn * xd) (xd * yd) * yd - yn * fD (xn * yd + yn * xd) (xd * yd)) (fD (xn * yd + yn * xd) (xd * yd) * yd) = xd := by
  obtain ⟨a1, _, _, _, a5⟩ := fD_pos (xn * yd + yn * xd) (xd * yd) (mul2_ne _ _ hx hy)
  generalize fN (xn * yd + yn * xd) (xd * yd) = N1 at *
  generalize fD (xn * yd + yn * xd) (xd * yd) = D1 at *
  obtain ⟨s1, s2⟩ := f_self xn xd hx hc
  have h := f_same (N1 * yd - yn * D1) (D1 * yd) xn xd (mul2_ne _ _ a1 hy) (by omega) (by
    refine Int.eq_of_mul_eq_mul_right (show yd ≠ 0 by omega) ?_
    grind)
  rw [s1, s2] at h
  exact h
theorem field_quot (xn xd zn zd : Int) (hx : 1 ≤ xd) (hz : 1 ≤ zd) (h0 : zn ≠ 0) (hc : Int.gcd xn xd = 1) :
    fN (fN (xn * zn) (xd * zd) * zd) (fD (xn * zn) (xd * zd) * zn) = xn ∧ fD (fN (xn * zn) (xd * zd) * zd) (fD (xn * zn) (xd * zd) * zn) = xd := by
  obtain ⟨a1, _, _, _, a5⟩ := fD_pos (xn * zn) (xd * zd) (mul2_ne _ _ hx hz)
  generalize fN (xn * zn) (xd * zd) = N1 at *
  generalize fD (xn * zn) (xd * zd) = D1 at *
  obtain ⟨s1, s2⟩ := f_self xn xd hx hc
  have h := f_same (N1 * zd) (D1 * zn) xn xd (by rw [ne_eq, Int.mul_eq_zero]; omega) (by omega) (by grind)
  rw [s1, s2] at h
  exact h
theorem natAbs_mul_le (x y : Int) (a b : Nat) (hx : x.natAbs ≤ a) (hy : y.natAbs ≤ b) : (x * y).natAbs ≤ a * b := by
  rw [Int.natAbs_mul]; exact Nat.mul_le_mul hx hy
theorem natAbs_add_le (x y : Int) (a b : Nat) (hx : x.natAbs ≤ a) (hy : y.natAbs ≤ b) : (x + y).natAbs ≤ a + b := by omega
theorem natAbs_sub_le (x y : Int) (a b : Nat) (hx : x.natAbs ≤ a) (hy : y.natAbs ≤ b) : (x - y).natAbs ≤ a + b := by omega
/-- a valid fraction, its parts not greater than these -/
structure FIn (n d : Int) (a b : Nat) : Prop where
  n1 : n.natAbs ≤ a
  d1 : d.natAbs ≤ b
  pos : 1 ≤ d
  low : Int.gcd n d = 1
theorem FIn.of (n d : Int) (a b : Nat) (hn : n.natAbs ≤ a) (hd : d.natAbs ≤ b) (h0 : d ≠ 0) : FIn (fN n d) (fD n d) a b := by
  obtain ⟨h1, h2, h3, h4, _⟩ := fD_pos n d h0
  exact ⟨by omega, by omega, h1, h4⟩
theorem FIn.add {n d n' d' : Int} {a b a' b' : Nat} (h : FIn n d a b) (h' : FIn n' d' a' b') : FIn (fN (n * d' + n' * d) (d * d')) (fD (n * d' + n' * d) (d * d')) (a * b' + a' * b) (b * b') :=
  FIn.of _ _ _ _ (natAbs_add_le _ _ _ _ (natAbs_mul_le _ _ _ _ h.n1 h'.d1) (natAbs_mul_le _ _ _ _ h'.n1 h.d1)) (natAbs_mul_le _ _ _ _ h.d1 h'.d1) (mul2_ne _ _ h.pos h'.pos)
theorem FIn.sub {n d n' d' : Int} {a b a' b' : Nat} (h : FIn n d a b) (h' : FIn n' d' a' b') : FIn (fN (n * d' - n' * d) (d * d')) (fD (n * d' - n' * d) (d * d')) (a * b' + a' * b) (b * b') :=
  FIn.of _ _ _ _ (natAbs_sub_le _ _ _ _ (natAbs_mul_le _ _ _ _ h.n1 h'.d1) (natAbs_mul_le _ _ _ _ h'.n1 h.d1)) (natAbs_mul_le _ _ _ _ h.d1 h'.d1) (mul2_ne _ _ h.pos h'.pos)
theorem FIn.mul {n d n' d' : Int} {a b a' b' : Nat} (h : FIn n d a b) (h' : FIn n' d' a' b') : FIn (fN (n * n') (d * d')) (fD (n * n') (d * d')) (a * a') (b * b') :=
  FIn.of _ _ _ _ (natAbs_mul_le _ _ _ _ h.n1 h'.n1) (natAbs_mul_le _ _ _ _ h.d1 h'.d1) (mul2_ne _ _ h.pos h'.pos)
theorem FIn.div {n d n' d' : Int} {a b a' b' : Nat} (h : FIn n d a b) (h' : FIn n' d' a' b') (h0 : n' ≠ 0) : FIn (fN (n * d') (d * n')) (fD (n * d') (d * n')) (a * b') (b * a') :=
  FIn.of _ _ _ _ (natAbs_mul_le _ _ _ _ h.n1 h'.d1) (natAbs_mul_le _ _ _ _ h.d1 h'.n1) (by have := h.pos; rw [ne_eq, Int.mul_eq_zero]; omega)
end Go.Proofs.YtcommodbjjdbmaaGreatDoor

/- Contracts of package frac: size, Check, both, Of. -/
namespace Go.Proofs.YtcommodbjjdbmaaGreatDoor
open Go.RowKit
set_option linter.unusedVariables false

/-- a valid fraction -/
def FOk (n d : Int) : Prop := 1 ≤ d ∧ d ≤ 2147483647 ∧ -2147483647 ≤ n ∧ n ≤ 2147483647 ∧ Int.gcd n d = 1

end Go.Proofs.YtcommodbjjdbmaaGreatDoor
