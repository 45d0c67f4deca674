/- PlainNum -/
/- Plain arithmetic of divisors and congruences, no program in sight. -/
namespace Go.Proofs.YtcommodbjjdbmaaGreatDoor
set_option linter.unusedVariables false
/-- the same common divisors -/
def Common (g h a m : Int) : Prop := ∀ c : Int, (c ∣ g ∧ c ∣ h) ↔ (c ∣ a ∧ c ∣ m)

theorem common_step {g h a m : Int} (H : Common g h a m) (q : Int) : Common h (g - q * h) a m := by
  intro c
  rw [← H c]
  constructor
  · rintro ⟨h1, h2⟩
    refine ⟨?_, h1⟩
    have := Int.dvd_add h2 (Int.dvd_mul_of_dvd_right (b := q) h1)
    rwa [Int.sub_add_cancel] at this
  · rintro ⟨h1, h2⟩
    exact ⟨h2, Int.dvd_sub h1 (Int.dvd_mul_of_dvd_right (b := q) h2)⟩
theorem common_start (a m : Int) : Common (a % m) m a m := by
  intro c
  constructor
  · rintro ⟨h1, h2⟩
    refine ⟨?_, h2⟩
    have := Int.dvd_add h1 (Int.dvd_mul_of_dvd_left (c := a / m) h2)
    rwa [Int.emod_add_mul_ediv] at this
  · rintro ⟨h1, h2⟩
    refine ⟨?_, h2⟩
    rw [Int.emod_def]
    exact Int.dvd_sub h1 (Int.dvd_mul_of_dvd_left (c := a / m) h2)

/-- the invariant of the extended Euclidean algorithm -/
structure EuInv (a m x y g h : Int) : Prop where
  g0 : 0 ≤ g
  h0 : 0 ≤ h
  gm : g ≤ m
  hm : h ≤ m
  dx : m ∣ a * x - g
  dy : m ∣ a * y - h
  com : Common g h a m
  sgn : (0 ≤ x ∧ y ≤ 0 ∧ x * h - y * g = m) ∨ (x ≤ 0 ∧ 0 ≤ y ∧ y * g - x * h = m)
  x1 : -m ≤ x
  x2 : x ≤ m
  y1 : -m ≤ y
  y2 : y ≤ m

theorem inv_start (a m : Int) (h : 1 ≤ m) : EuInv a m 1 0 (a % m) m := by
  have h1 := Int.emod_nonneg a (show m ≠ 0 by omega)
  have h2 := Int.emod_lt_of_pos a (show 0 < m by omega)
  refine ⟨h1, by omega, by omega, by omega, ?_, ?_, common_start a m, .inl ⟨by omega, by omega, by omega⟩, by omega, by omega, by omega, by omega⟩
  · rw [Int.mul_one, Int.emod_def]
    exact ⟨a / m, by omega⟩
  · exact ⟨-1, by omega⟩

theorem inv_step {a m x y g h : Int} (I : EuInv a m x y g h) (hh : 1 ≤ h) :
    0 ≤ g / h ∧ g / h * h ≤ g ∧ g - g / h * h < h ∧ -m ≤ g / h * y ∧ g / h * y ≤ m ∧ EuInv a m y (x - g / h * y) h (g - g / h * h) := by
  obtain ⟨g0, h0, gm, hm, dx, dy, com, sgn, x1, x2, y1, y2⟩ := I
  have q0 : 0 ≤ g / h := Int.ediv_nonneg g0 h0
  have q1 : g / h * h ≤ g := Int.ediv_mul_le g (by omega)
  have q2 : g - g / h * h < h := by
    have := Int.emod_lt_of_pos g (show 0 < h by omega)
    have e := Int.emod_def g h
    rw [Int.mul_comm] at e
    omega
  generalize g / h = q at *
  have bounds : ∀ X Y : Int, 0 ≤ X → 0 ≤ Y → X * h + Y * g = m → 0 ≤ q * Y ∧ q * Y ≤ m ∧ X + q * Y ≤ m := by
    intro X Y hX hY e
    have p1 : 0 ≤ q * Y := Int.mul_nonneg q0 hY
    have p2 : Y * (q * h) ≤ Y * g := Int.mul_le_mul_of_nonneg_left q1 hY
    have p3 : (X + q * Y) * h = X * h + Y * (q * h) := by rw [Int.add_mul]; congr 1; rw [Int.mul_comm q Y, Int.mul_assoc]
    have p4 : X + q * Y ≤ (X + q * Y) * h := by
      have := Int.mul_le_mul_of_nonneg_left hh (show 0 ≤ X + q * Y by omega)
      rwa [Int.mul_one] at this
    omega
  have key : (x - q * y) * h - y * (g - q * h) = x * h - y * g := by
    rw [Int.sub_mul, Int.mul_sub]
    have : q * y * h = y * (q * h) := by rw [Int.mul_comm q y, Int.mul_assoc]
    omega
  have d' : m ∣ a * (x - q * y) - (g - q * h) := by
    have e : a * (x - q * y) - (g - q * h) = (a * x - g) - q * (a * y - h) := by
      rw [Int.mul_sub, Int.mul_sub]
      have : a * (q * y) = q * (a * y) := by rw [← Int.mul_assoc, Int.mul_comm a q, Int.mul_assoc]
      omega
    rw [e]
    exact Int.dvd_sub dx (Int.dvd_mul_of_dvd_right dy)
  rcases sgn with ⟨s1, s2, s3⟩ | ⟨s1, s2, s3⟩
  · obtain ⟨b1, b2, b3⟩ := bounds x (-y) s1 (by omega) (by rw [Int.neg_mul]; omega)
    rw [Int.mul_neg] at b1 b2 b3
    refine ⟨q0, q1, q2, by omega, by omega, ⟨h0, by omega, hm, by omega, dy, d', common_step com q, .inr ⟨by omega, by omega, by omega⟩, by omega, by omega, by omega, by omega⟩⟩
  · obtain ⟨b1, b2, b3⟩ := bounds (-x) y (by omega) s2 (by rw [Int.neg_mul]; omega)
    refine ⟨q0, q1, q2, by omega, by omega, ⟨h0, by omega, hm, by omega, dy, d', common_step com q, .inl ⟨by omega, by omega, by omega⟩, by omega, by omega, by omega, by omega⟩⟩

theorem inv_end {a m x y g : Int} (I : EuInv a m x y g 0) (hm : 1 ≤ m) : 1 ≤ g ∧ g ∣ a ∧ g ∣ m ∧ m ∣ a * (x % m) - g := by
  obtain ⟨g0, h0, gm, _, dx, dy, com, sgn, x1, x2, y1, y2⟩ := I
  have hg := (com g).1 ⟨Int.dvd_refl g, Int.dvd_zero g⟩
  refine ⟨?_, hg.1, hg.2, ?_⟩
  · rcases Int.lt_trichotomy g 0 with h | h | h
    · omega
    · subst h
      have := Int.zero_dvd.1 hg.2
      omega
    · omega
  · rw [Int.emod_def, Int.mul_sub]
    have e : a * x - a * (m * (x / m)) - g = (a * x - g) - m * (a * (x / m)) := by
      have : a * (m * (x / m)) = m * (a * (x / m)) := by rw [← Int.mul_assoc, Int.mul_comm a m, Int.mul_assoc]
      omega
    rw [e]
    exact Int.dvd_sub dx (Int.dvd_mul_right m _)

theorem dvd_sub_emod (n x : Int) : n ∣ x - x % n := ⟨x / n, by have := Int.emod_add_mul_ediv x n; omega⟩
/-- a congruence is kept by products and remainders -/
theorem mul_mod_dvd (n a X b : Int) (h : n ∣ a * X - 1) : n ∣ a * (X % n * (b % n) % n) - b := by
  have h1 := dvd_sub_emod n (X % n * (b % n))
  have h2 := dvd_sub_emod n X
  have h3 := dvd_sub_emod n b
  obtain ⟨u, hu⟩ := h
  obtain ⟨u1, e1⟩ := h1
  obtain ⟨u2, e2⟩ := h2
  obtain ⟨u3, e3⟩ := h3
  generalize X % n * (b % n) % n = r at *
  generalize hx : X % n = x at *
  generalize hb : b % n = c at *
  have ex : X = x + n * u2 := by omega
  have eb : b = c + n * u3 := by omega
  have er : r = x * c - n * u1 := by omega
  subst er
  have e4 : a * X - 1 = n * u := hu
  rw [ex] at e4
  -- a * (x * c) - c = (a * x - 1) * c
  refine ⟨(u - a * u2) * c - a * u1 - u3, ?_⟩
  have e5 : a * x - 1 = n * (u - a * u2) := by
    rw [Int.mul_add] at e4; rw [Int.mul_sub]
    have : a * (n * u2) = n * (a * u2) := by rw [← Int.mul_assoc, Int.mul_comm a n, Int.mul_assoc]
    omega
  have e6 : a * (x * c) - c = n * ((u - a * u2) * c) := by
    rw [← Int.mul_assoc n, ← e5, Int.sub_mul, Int.one_mul, Int.mul_assoc]
  rw [eb, Int.mul_sub, Int.mul_sub, Int.mul_sub]
  have e7 : a * (n * u1) = n * (a * u1) := by rw [← Int.mul_assoc, Int.mul_comm a n, Int.mul_assoc]
  omega
theorem solve_ok (a m b X G : Int) (hG : 1 ≤ G) (ha : G ∣ a) (hm : G ∣ m) (hb : G ∣ b) (hX : m ∣ a * X - G) :
    m ∣ a * (X % (m / G) * (b / G % (m / G)) % (m / G)) - b := by
  obtain ⟨a', rfl⟩ := ha
  obtain ⟨n, rfl⟩ := hm
  obtain ⟨b', rfl⟩ := hb
  rw [Int.mul_ediv_cancel_left _ (by omega), Int.mul_ediv_cancel_left _ (by omega)]
  have h1 : n ∣ a' * X - 1 := by
    have e : G * a' * X - G = G * (a' * X - 1) := by rw [Int.mul_sub, Int.mul_assoc, Int.mul_one]
    rw [e] at hX
    exact (Int.mul_dvd_mul_iff_left (by omega)).1 hX
  have h2 := mul_mod_dvd n a' X b' h1
  have e : G * a' * (X % n * (b' % n) % n) - G * b' = G * (a' * (X % n * (b' % n) % n) - b') := by rw [Int.mul_sub, Int.mul_assoc]
  rw [e]
  exact Int.mul_dvd_mul_left G h2
theorem quot_facts (m G : Int) (hG : 1 ≤ G) (hm : 1 ≤ m) (h : G ∣ m) : 1 ≤ m / G ∧ m / G ≤ m ∧ m = G * (m / G) := by
  obtain ⟨n, rfl⟩ := h
  rw [Int.mul_ediv_cancel_left _ (by omega)]
  have hn : 1 ≤ n := by
    rcases Int.lt_trichotomy n 0 with h | h | h
    · have := Int.mul_neg_of_pos_of_neg (show 0 < G by omega) h; omega
    · subst h; omega
    · omega
  refine ⟨hn, ?_, rfl⟩
  have := Int.mul_le_mul_of_nonneg_right hG (show 0 ≤ n by omega)
  omega
theorem tdiv_exact (b G : Int) (h : G ∣ b) : b.tdiv G = b / G := Int.tdiv_eq_ediv_of_dvd h
theorem dvd_of_small (m d : Int) (h : m ∣ d) (h1 : -m < d) (h2 : d < m) : d = 0 := by
  obtain ⟨k, rfl⟩ := h
  rcases Int.lt_trichotomy k 0 with hk | hk | hk
  · have h0 : 0 < m := by omega
    have := Int.mul_le_mul_of_nonneg_left (show k ≤ -1 by omega) (show 0 ≤ m by omega)
    omega
  · subst hk; omega
  · have h0 : 0 < m := by omega
    have := Int.mul_le_mul_of_nonneg_left (show 1 ≤ k by omega) (show 0 ≤ m by omega)
    omega

/-- the extended Euclidean algorithm, f: fuel -/
def eu : Nat → Int → Int → Int → Int → Int × Int
  | 0, x, _, g, _ => (x, g)
  | f + 1, x, y, g, h => if h = 0 then (x, g) else eu f y (x - g / h * y) h (g - g / h * h)
def euRun (a m : Int) : Int × Int := eu (m.toNat + 1) 1 0 (a % m) m
/-- invert's two results -/
def invX (a m : Int) : Int := (euRun a m).1 % m
def invG (a m : Int) : Int := (euRun a m).2
theorem eu_ok (a m : Int) (hm : 1 ≤ m) : ∀ (f : Nat) (x y g h : Int), EuInv a m x y g h → h.toNat < f →
    1 ≤ (eu f x y g h).2 ∧ (eu f x y g h).2 ≤ m ∧ (eu f x y g h).2 ∣ a ∧ (eu f x y g h).2 ∣ m ∧ m ∣ a * ((eu f x y g h).1 % m) - (eu f x y g h).2 := by
  intro f
  induction f with
  | zero => intro x y g h _ hf; omega
  | succ f ih =>
    intro x y g h I hf
    unfold eu
    by_cases h0 : h = 0
    · rw [if_pos h0]
      subst h0
      obtain ⟨e1, e2, e3, e4⟩ := inv_end I hm
      exact ⟨e1, I.gm, e2, e3, e4⟩
    · rw [if_neg h0]
      have := I.h0
      obtain ⟨s1, s2, s3, s4, s5, J⟩ := inv_step I (by omega)
      exact ih _ _ _ _ J (by have := J.h0; omega)
theorem inv_ok (a m : Int) (hm : 1 ≤ m) : 0 ≤ invX a m ∧ invX a m < m ∧ 1 ≤ invG a m ∧ invG a m ≤ m ∧ invG a m ∣ a ∧ invG a m ∣ m ∧ m ∣ a * invX a m - invG a m := by
  have h := eu_ok a m hm (m.toNat + 1) 1 0 (a % m) m (inv_start a m hm) (by omega)
  exact ⟨Int.emod_nonneg _ (by omega), Int.emod_lt_of_pos _ (by omega), h.1, h.2.1, h.2.2.1, h.2.2.2.1, h.2.2.2.2⟩
/-- Solve's result -/
def solveV (a b m : Int) : Int := invX a m % (m / invG a m) * (b / invG a m % (m / invG a m)) % (m / invG a m)
theorem solveV_ok (a b m : Int) (hm : 1 ≤ m) (hd : ∀ G : Int, G ∣ a → G ∣ m → G ∣ b) : 0 ≤ solveV a b m ∧ solveV a b m < m ∧ m ∣ a * solveV a b m - b := by
  obtain ⟨_, _, g1, _, ga, gm, hX⟩ := inv_ok a m hm
  obtain ⟨n1, n2, _⟩ := quot_facts m _ g1 hm gm
  have r1 := Int.emod_nonneg (invX a m % (m / invG a m) * (b / invG a m % (m / invG a m))) (show m / invG a m ≠ 0 by omega)
  have r2 := Int.emod_lt_of_pos (invX a m % (m / invG a m) * (b / invG a m % (m / invG a m))) (show 0 < m / invG a m by omega)
  unfold solveV
  exact ⟨r1, by omega, solve_ok a m b _ _ g1 ga gm (hd _ ga gm) hX⟩
theorem unit_dvd (G x y c : Int) (h : Int.gcd x y = 1) (h1 : G ∣ x) (h2 : G ∣ y) : G ∣ c := by
  have h3 : G.natAbs ∣ Int.gcd x y := Int.dvd_gcd (by rw [Int.natAbs_dvd]; exact h1) (by rw [Int.natAbs_dvd]; exact h2)
  rw [h, Nat.dvd_one] at h3
  rw [← Int.natAbs_dvd, h3]
  exact Int.one_dvd c
theorem gcd_facts (m n : Int) (hm : 1 ≤ m) (hn : 1 ≤ n) : 1 ≤ (Int.gcd m n : Int) ∧ (Int.gcd m n : Int) ≤ m ∧ (Int.gcd m n : Int) ≤ n ∧ (Int.gcd m n : Int) ∣ m ∧ (Int.gcd m n : Int) ∣ n ∧
    Int.gcd (m / (Int.gcd m n : Int)) (n / (Int.gcd m n : Int)) = 1 := by
  have d1 := Int.gcd_dvd_left m n
  have d2 := Int.gcd_dvd_right m n
  have hp : 0 < Int.gcd m n := Int.gcd_pos_of_ne_zero_left n (by omega)
  refine ⟨by omega, Int.le_of_dvd (by omega) d1, Int.le_of_dvd (by omega) d2, d1, d2, ?_⟩
  rw [Int.gcd_ediv d1 d2, Int.natAbs_natCast, Nat.div_self hp]
theorem dvd_of_emod (G x k : Int) (h1 : G ∣ x % k) (h2 : G ∣ k) : G ∣ x := by
  have := Int.dvd_add h1 (Int.dvd_mul_of_dvd_left (c := x / k) h2)
  rwa [Int.emod_add_mul_ediv] at this
theorem meet_ok (a b g m' k s : Int) (hg : 1 ≤ g) (hm' : 1 ≤ m') (hk : 1 ≤ k) (hd : g ∣ b - a) (hs : k ∣ m' % k * s - (b - a) / g % k) :
    0 ≤ (a % (g * m') + g * m' * ((s - (a % (g * m') - a) / (g * m')) % k)) % (g * m' * k) ∧ (a % (g * m') + g * m' * ((s - (a % (g * m') - a) / (g * m')) % k)) % (g * m' * k) < g * m' * k ∧
    g * m' ∣ (a % (g * m') + g * m' * ((s - (a % (g * m') - a) / (g * m')) % k)) % (g * m' * k) - a ∧ g * k ∣ (a % (g * m') + g * m' * ((s - (a % (g * m') - a) / (g * m')) % k)) % (g * m' * k) - b := by
  obtain ⟨c, hc⟩ := hd
  rw [hc, Int.mul_ediv_cancel_left _ (by omega)] at hs
  have hm : 1 ≤ g * m' := by have := Int.mul_le_mul hg hm' (by omega) (by omega); omega
  have hall : 1 ≤ g * m' * k := by have := Int.mul_le_mul hm hk (by omega) (by omega); omega
  refine ⟨Int.emod_nonneg _ (by omega), Int.emod_lt_of_pos _ (by omega), ?_⟩
  -- k ∣ m' s - c
  have hs' : k ∣ m' * s - c := by
    obtain ⟨u, hu⟩ := hs
    have e1 := Int.emod_add_mul_ediv m' k
    have e2 := Int.emod_add_mul_ediv c k
    refine ⟨u + m' / k * s - c / k, ?_⟩
    rw [Int.mul_sub, Int.mul_add, ← hu, ← Int.mul_assoc]
    have e3 : m' * s = m' % k * s + k * (m' / k) * s := by rw [← Int.add_mul, e1]
    omega
  obtain ⟨v, hv⟩ := hs'
  -- the shift
  have esh : a % (g * m') - a = g * m' * (-(a / (g * m'))) := by
    have := Int.emod_add_mul_ediv a (g * m')
    rw [Int.mul_neg]; omega
  rw [esh, Int.mul_ediv_cancel_left _ (by omega)]
  have ea := Int.emod_add_mul_ediv a (g * m')
  generalize a % (g * m') = f at *
  generalize a / (g * m') = t at *
  have e4 := Int.emod_add_mul_ediv (s - -t) k
  generalize (s - -t) % k = r at *
  generalize (s - -t) / k = z at *
  have e5 := Int.emod_add_mul_ediv (f + g * m' * r) (g * m' * k)
  generalize (f + g * m' * r) % (g * m' * k) = X at *
  generalize (f + g * m' * r) / (g * m' * k) = y at *
  -- X = f + m r - m k y;  r = s + t - k z;  f + m t = a
  have er : r = s + t - k * z := by omega
  have eX : X = f + g * m' * r - g * m' * k * y := by omega
  have emr : g * m' * r = g * m' * s + g * m' * t - g * m' * (k * z) := by rw [er, Int.mul_sub, Int.mul_add]
  have eX2 : X - a = g * m' * (s - k * z - k * y) := by
    rw [Int.mul_sub, Int.mul_sub, ← Int.mul_assoc (g * m') k y]; omega
  refine ⟨⟨_, eX2⟩, ?_⟩
  refine ⟨v - m' * z - m' * y, ?_⟩
  have e6 : X - b = (X - a) - g * c := by omega
  rw [e6, eX2]
  -- g m' (s - k z - k y) - g c = g k (v - m' z - m' y)
  have e7 : m' * (s - k * z - k * y) - c = k * (v - m' * z - m' * y) := by
    rw [Int.mul_sub, Int.mul_sub, Int.mul_sub, Int.mul_sub]
    have a1 : m' * (k * z) = k * (m' * z) := by rw [← Int.mul_assoc, Int.mul_comm m' k, Int.mul_assoc]
    have a2 : m' * (k * y) = k * (m' * y) := by rw [← Int.mul_assoc, Int.mul_comm m' k, Int.mul_assoc]
    omega
  rw [Int.mul_assoc, ← Int.mul_sub, e7, Int.mul_assoc]

/-- Meet's result -/
def meetL (m n : Int) : Int := m * (n / (Int.gcd m n : Int))
def meetV (a m b n : Int) : Int :=
  (a % m + m * ((solveV (m / (Int.gcd m n : Int) % (n / (Int.gcd m n : Int))) ((b - a) / (Int.gcd m n : Int) % (n / (Int.gcd m n : Int))) (n / (Int.gcd m n : Int)) - (a % m - a) / m) % (n / (Int.gcd m n : Int)))) % meetL m n
theorem meetV_ok (a m b n : Int) (hm : 1 ≤ m) (hn : 1 ≤ n) (hd : (Int.gcd m n : Int) ∣ b - a) : 0 ≤ meetV a m b n ∧ meetV a m b n < meetL m n ∧ m ∣ meetV a m b n - a ∧ n ∣ meetV a m b n - b := by
  obtain ⟨g1, _, _, d1, d2, hc⟩ := gcd_facts m n hm hn
  obtain ⟨k1, _, k3⟩ := quot_facts n _ g1 hn d2
  obtain ⟨m1, _, m3⟩ := quot_facts m _ g1 hm d1
  have hs := solveV_ok (m / (Int.gcd m n : Int) % (n / (Int.gcd m n : Int))) ((b - a) / (Int.gcd m n : Int) % (n / (Int.gcd m n : Int))) _ k1 (fun G h1 h2 => unit_dvd G _ _ _ hc (dvd_of_emod G _ _ h1 h2) h2)
  have h := meet_ok a b _ _ _ _ g1 m1 k1 hd hs.2.2
  unfold meetV meetL
  rw [← m3, ← k3] at h
  exact h
end Go.Proofs.YtcommodbjjdbmaaGreatDoor
