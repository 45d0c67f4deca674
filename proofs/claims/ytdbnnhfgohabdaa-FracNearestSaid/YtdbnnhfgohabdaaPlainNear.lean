/- The nearest fraction with a small denominator: steps of the tree of fractions, no program in sight. -/
import Derived.Test.YtdbnnhfgohabdaaPlainFrac
namespace Go.Proofs.Ytdbnnhfgohabdaa
set_option linter.unusedVariables false

/-- neighbours a/b and p/q around n/m -/
structure NInv (d n m a b p q : Int) : Prop where
  a0 : 0 ≤ a
  b1 : 1 ≤ b
  bd : b ≤ d
  p0 : 0 ≤ p
  q1 : 1 ≤ q
  qd : q ≤ d
  ab : a ≤ b
  pq : p ≤ q
  lo : a * m < n * b
  hi : n * q < p * m
  one : p * b - a * q = 1

theorem no_eq (n m d u v : Int) (hc : Int.gcd n m = 1) (hm : d < m) (h1 : 1 ≤ v) (h2 : v ≤ d) : u * m ≠ n * v := by
  intro h
  have hd : m ∣ v := dvd_of_coprime m n v hc ⟨u, by rw [← h, Int.mul_comm]⟩
  have := Int.le_of_dvd (by omega) hd
  omega

theorem quot_min (u up r q : Int) (hu : 0 ≤ u) (hup : 1 ≤ up) (hr : 0 ≤ r) (hq : 1 ≤ q) :
    ∃ k K M, u.tdiv up = K ∧ r.tdiv q = M ∧ ((M < K ∧ k = M) ∨ (K ≤ M ∧ k = K)) ∧ 0 ≤ k ∧ k * up ≤ u ∧ k * q ≤ r ∧ (k = 0 → u < up ∨ r < q) ∧ 0 ≤ K ∧ 0 ≤ M ∧ K ≤ u ∧ M ≤ r := by
  have e1 : u.tdiv up = u / up := Int.tdiv_eq_ediv_of_nonneg hu
  have e2 : r.tdiv q = r / q := Int.tdiv_eq_ediv_of_nonneg hr
  have k1 := Int.ediv_mul_le u (show up ≠ 0 by omega)
  have k2 := Int.ediv_mul_le r (show q ≠ 0 by omega)
  have k3 : 0 ≤ u / up := Int.ediv_nonneg hu (by omega)
  have k4 : 0 ≤ r / q := Int.ediv_nonneg hr (by omega)
  have k5 := Int.lt_ediv_add_one_mul_self u (show 0 < up by omega)
  have k6 := Int.lt_ediv_add_one_mul_self r (show 0 < q by omega)
  have k7 : u / up ≤ u := Int.ediv_le_self _ hu
  have k8 : r / q ≤ r := Int.ediv_le_self _ hr
  rw [e1, e2]
  generalize u / up = K at *
  generalize r / q = M at *
  rcases Int.lt_or_le M K with h | h
  · refine ⟨M, K, M, rfl, rfl, .inl ⟨h, rfl⟩, k4, ?_, k2, fun h0 => ?_, k3, k4, k7, k8⟩
    · exact Int.le_trans (Int.mul_le_mul_of_nonneg_right (by omega) (by omega)) k1
    · subst h0; right; simpa using k6
  · refine ⟨K, K, M, rfl, rfl, .inr ⟨h, rfl⟩, k3, k1, ?_, fun h0 => ?_, k3, k4, k7, k8⟩
    · exact Int.le_trans (Int.mul_le_mul_of_nonneg_right (by omega) (by omega)) k2
    · subst h0; left; simpa using k5

theorem right_step (d n m a b p q k : Int) (hc : Int.gcd n m = 1) (hm : d < m) (I : NInv d n m a b p q)
    (hk : 0 ≤ k) (h1 : k * (p * m - n * q) ≤ n * b - a * m) (h2 : k * q ≤ d - b) : NInv d n m (a + k * p) (b + k * q) p q := by
  have c1 : 0 ≤ k * p := Int.mul_nonneg hk I.p0
  have c2 : 0 ≤ k * q := Int.mul_nonneg hk (by have := I.q1; omega)
  have c3 : k * p ≤ k * q := Int.mul_le_mul_of_nonneg_left I.pq hk
  have hb1 := I.b1
  have hl : (a + k * p) * m ≤ n * (b + k * q) := by
    have e : n * (b + k * q) - (a + k * p) * m = (n * b - a * m) - k * (p * m - n * q) := by grind
    omega
  have hne := no_eq n m d (a + k * p) (b + k * q) hc hm (by omega) (by omega)
  exact ⟨by have := I.a0; omega, by omega, by omega, I.p0, I.q1, I.qd, by have := I.ab; omega, I.pq, by omega, I.hi, by
    have e : p * (b + k * q) - (a + k * p) * q = p * b - a * q := by grind
    rw [e]; exact I.one⟩

theorem left_step (d n m a b p q j : Int) (hc : Int.gcd n m = 1) (hm : d < m) (I : NInv d n m a b p q)
    (hk : 0 ≤ j) (h1 : j * (n * b - a * m) ≤ p * m - n * q) (h2 : j * b ≤ d - q) : NInv d n m a b (p + j * a) (q + j * b) := by
  have c1 : 0 ≤ j * a := Int.mul_nonneg hk I.a0
  have c2 : 0 ≤ j * b := Int.mul_nonneg hk (by have := I.b1; omega)
  have c3 : j * a ≤ j * b := Int.mul_le_mul_of_nonneg_left I.ab hk
  have hq1 := I.q1
  have hl : n * (q + j * b) ≤ (p + j * a) * m := by
    have e : (p + j * a) * m - n * (q + j * b) = (p * m - n * q) - j * (n * b - a * m) := by grind
    omega
  have hne := no_eq n m d (p + j * a) (q + j * b) hc hm (by omega) (by omega)
  exact ⟨I.a0, I.b1, I.bd, by have := I.p0; omega, by omega, by omega, I.ab, by have := I.pq; omega, I.lo, by omega, by
    have e : (p + j * a) * b - a * (q + j * b) = p * b - a * q := by grind
    rw [e]; exact I.one⟩

/-- between neighbours with b + q > d there is no fraction with a denominator up to d -/
theorem no_between (d n m a b p q : Int) (I : NInv d n m a b p q) (hd : d < b + q) (z v : Int) (h1 : 1 ≤ v) (h2 : v ≤ d) : z * b ≤ a * v ∨ p * v ≤ z * q := by
  rcases Int.lt_or_le (a * v) (z * b) with h | h
  · rcases Int.lt_or_le (z * q) (p * v) with h' | h'
    · exfalso
      have e : v * (p * b - a * q) = b * (p * v - z * q) + q * (z * b - a * v) := by grind
      rw [I.one, Int.mul_one] at e
      have x1 : b * 1 ≤ b * (p * v - z * q) := Int.mul_le_mul_of_nonneg_left (by omega) (by have := I.b1; omega)
      have x2 : q * 1 ≤ q * (z * b - a * v) := Int.mul_le_mul_of_nonneg_left (by omega) (by have := I.q1; omega)
      omega
    · exact .inr h'
  · exact .inl h

/-- y = N'/D' is a nearest fraction to N/m with a denominator up to d -/
structure IsNear (N m d yN yD : Int) : Prop where
  pos : 1 ≤ yD
  small : yD ≤ d
  low : Int.gcd yN yD = 1
  size : yN.natAbs ≤ 110000
  near : ∀ z v, 1 ≤ v → v ≤ d → ((yN * m - N * yD).natAbs : Int) * v ≤ ((z * m - N * v).natAbs : Int) * yD

theorem gcd_one (x y s t : Int) (h : x * s + y * t = 1) : Int.gcd x y = 1 := by
  have h1 : (Int.gcd x y : Int) ∣ 1 := by
    rw [← h]
    exact Int.dvd_add (Int.dvd_mul_of_dvd_left (Int.gcd_dvd_left x y)) (Int.dvd_mul_of_dvd_left (Int.gcd_dvd_right x y))
  have h2 := Int.le_of_dvd (by omega) h1
  have h3 : Int.gcd x y ≠ 0 := by
    intro h0
    rw [h0] at h1
    have := Int.zero_dvd.1 h1
    omega
  omega

/-- the size of y = base + a/b, by that of N/m -/
theorem near_size (N m base n a b d : Int) (hN : N.natAbs ≤ 100000) (hm0 : 1 ≤ m) (hm : m ≤ 10000) (hn0 : 0 ≤ n) (hn : n < m) (e : N = n + base * m) (a0 : 0 ≤ a) (ab : a ≤ b) (b1 : 1 ≤ b) (bd : b ≤ d) (dm : d < m) : (a + base * b).natAbs ≤ 110000 := by
  rcases Int.le_total 0 base with h | h
  · have h1 : base * b ≤ base * m := Int.mul_le_mul_of_nonneg_left (by omega) h
    have h2 : 0 ≤ base * b := Int.mul_nonneg h (by omega)
    omega
  · have h1 : base * m ≤ base * b := Int.mul_le_mul_of_nonpos_left h (by omega)
    have h2 : base * b ≤ 0 := Int.mul_nonpos_of_nonpos_of_nonneg h (by omega)
    omega

theorem near_pick (N m base n d a b p q : Int) (e : N = n + base * m) (hm0 : 1 ≤ m) (I : NInv d n m a b p q) (hd : d < b + q) :
    (((p + base * q) * m - N * q).natAbs : Int) = p * m - n * q ∧ (((a + base * b) * m - N * b).natAbs : Int) = n * b - a * m ∧
    ((n * b - a * m) * q ≤ (p * m - n * q) * b → ∀ z v, 1 ≤ v → v ≤ d → (((a + base * b) * m - N * b).natAbs : Int) * v ≤ ((z * m - N * v).natAbs : Int) * b) ∧
    ((p * m - n * q) * b ≤ (n * b - a * m) * q → ∀ z v, 1 ≤ v → v ≤ d → (((p + base * q) * m - N * q).natAbs : Int) * v ≤ ((z * m - N * v).natAbs : Int) * q) := by
  have e1 : (p + base * q) * m - N * q = p * m - n * q := by subst e; grind
  have e2 : (a + base * b) * m - N * b = a * m - n * b := by subst e; grind
  have f1 : (((p + base * q) * m - N * q).natAbs : Int) = p * m - n * q := by rw [e1]; have := I.hi; omega
  have f2 : (((a + base * b) * m - N * b).natAbs : Int) = n * b - a * m := by rw [e2]; have := I.lo; omega
  have hb1 := I.b1
  have hq1 := I.q1
  -- the two sides
  have side : ∀ z v, 1 ≤ v → v ≤ d → (n * b - a * m) * v ≤ ((z * m - N * v).natAbs : Int) * b ∨ (p * m - n * q) * v ≤ ((z * m - N * v).natAbs : Int) * q := by
    intro z v h1 h2
    have e3 : z * m - N * v = (z - base * v) * m - n * v := by subst e; grind
    rcases no_between d n m a b p q I hd (z - base * v) v h1 h2 with h | h
    · left
      have g1 : (z - base * v) * b * m ≤ a * v * m := Int.mul_le_mul_of_nonneg_right h (by omega)
      have g2 : (n * b - a * m) * v ≤ (n * v - (z - base * v) * m) * b := by grind
      refine Int.le_trans g2 (Int.mul_le_mul_of_nonneg_right ?_ (by omega))
      rw [e3]; omega
    · right
      have g1 : p * v * m ≤ (z - base * v) * q * m := Int.mul_le_mul_of_nonneg_right h (by omega)
      have g2 : (p * m - n * q) * v ≤ ((z - base * v) * m - n * v) * q := by grind
      refine Int.le_trans g2 (Int.mul_le_mul_of_nonneg_right ?_ (by omega))
      rw [e3]; omega
  refine ⟨f1, f2, fun h z v h1 h2 => ?_, fun h z v h1 h2 => ?_⟩
  · rw [f2]
    rcases side z v h1 h2 with s | s
    · exact s
    · generalize ((z * m - N * v).natAbs : Int) = D at *
      generalize n * b - a * m = l at *
      generalize p * m - n * q = u at *
      have g1 : l * q * v ≤ u * b * v := Int.mul_le_mul_of_nonneg_right h (by omega)
      have g2 : u * v * b ≤ D * q * b := Int.mul_le_mul_of_nonneg_right s (by omega)
      have g3 : (l * v) * q ≤ (D * b) * q := by grind
      exact Int.le_of_mul_le_mul_right g3 (by omega)
  · rw [f1]
    rcases side z v h1 h2 with s | s
    · generalize ((z * m - N * v).natAbs : Int) = D at *
      generalize n * b - a * m = l at *
      generalize p * m - n * q = u at *
      have g1 : u * b * v ≤ l * q * v := Int.mul_le_mul_of_nonneg_right h (by omega)
      have g2 : l * v * q ≤ D * b * q := Int.mul_le_mul_of_nonneg_right s (by omega)
      have g3 : (u * v) * b ≤ (D * q) * b := by grind
      exact Int.le_of_mul_le_mul_right g3 (by omega)
    · exact s

/-- the distances in lowest terms compare as the distances -/
theorem dist_le (s t n1 d1 n2 d2 yD v m : Int) (hy : 1 ≤ yD) (hv : 1 ≤ v) (hm : 1 ≤ m) (e1 : n1 * (yD * m) = s * d1) (e2 : n2 * (v * m) = t * d2) (h1 : 1 ≤ d1) (h2 : 1 ≤ d2)
    (h : (s.natAbs : Int) * v ≤ (t.natAbs : Int) * yD) : (n1.natAbs : Int) * d2 ≤ (n2.natAbs : Int) * d1 := by
  have f1 : (n1.natAbs : Int) * (yD * m) = (s.natAbs : Int) * d1 := by
    have := congrArg (fun x => (x.natAbs : Int)) e1
    simp only [Int.natAbs_mul, Int.natCast_mul] at this
    rw [show (yD.natAbs : Int) = yD from by omega, show (m.natAbs : Int) = m from by omega, show (d1.natAbs : Int) = d1 from by omega] at this
    exact this
  have f2 : (n2.natAbs : Int) * (v * m) = (t.natAbs : Int) * d2 := by
    have := congrArg (fun x => (x.natAbs : Int)) e2
    simp only [Int.natAbs_mul, Int.natCast_mul] at this
    rw [show (v.natAbs : Int) = v from by omega, show (m.natAbs : Int) = m from by omega, show (d2.natAbs : Int) = d2 from by omega] at this
    exact this
  generalize (n1.natAbs : Int) = A at *
  generalize (n2.natAbs : Int) = B at *
  generalize (s.natAbs : Int) = S at *
  generalize (t.natAbs : Int) = T at *
  have p1 : 0 < d1 * d2 * m := Int.mul_pos (Int.mul_pos (by omega) (by omega)) (by omega)
  have g : S * v * (d1 * d2 * m) ≤ T * yD * (d1 * d2 * m) := Int.mul_le_mul_of_nonneg_right h (by omega)
  have l : S * v * (d1 * d2 * m) = (A * d2) * (yD * m * (v * m)) := by
    have : S * v * (d1 * d2 * m) = (S * d1) * (d2 * (v * m)) := by grind
    rw [this, ← f1]; grind
  have r : T * yD * (d1 * d2 * m) = (B * d1) * (yD * m * (v * m)) := by
    have : T * yD * (d1 * d2 * m) = (T * d2) * (d1 * (yD * m)) := by grind
    rw [this, ← f2]; grind
  rw [l, r] at g
  exact Int.le_of_mul_le_mul_right g (Int.mul_pos (Int.mul_pos (by omega) (by omega)) (Int.mul_pos (by omega) (by omega)))
end Go.Proofs.Ytdbnnhfgohabdaa
