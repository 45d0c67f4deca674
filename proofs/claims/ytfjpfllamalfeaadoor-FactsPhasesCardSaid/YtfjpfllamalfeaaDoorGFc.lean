/- Fc -/
import Derived.Laws.FloatArith
import Derived.Test.YtfjpfllamalfeaaDoorGFb
/- The bounds of sums, products, quotients, roundings and conversions of floats. (Plain.) -/
namespace Go.Proofs.YtfjpfllamalfeaaDoor
open Ieee
/-- the word x is a number of at most B units, of either sign (a unit: 2 ^ -1074) -/
def Lb (B x : Nat) : Prop := ∃ (s : Bool) (m p : Nat), Ieee.double.read x = .number s m ((p : Int) - 1074) ∧ m * 2 ^ p ≤ B
/-- the word x is a number that is not below nought -/
def Nn (x : Nat) : Prop := ∃ (s : Bool) (m : Nat) (q : Int), Ieee.double.read x = .number s m q ∧ (s = false ∨ m = 0)
/-- the word x is a number of at least B units -/
def Gb (B x : Nat) : Prop := ∃ (s : Bool) (m p : Nat), Ieee.double.read x = .number s m ((p : Int) - 1074) ∧ 0 < m ∧ B ≤ m * 2 ^ p
theorem Lb.mono {A B x : Nat} (h : Lb A x) (hAB : A ≤ B) : Lb B x := by
  obtain ⟨s, m, p, e, l⟩ := h
  exact ⟨s, m, p, e, Nat.le_trans l hAB⟩
/-- of a given word -/
def lbOf (B x : Nat) : Bool := match Ieee.double.read x with
  | .number _ m q => decide (-1074 ≤ q) && decide (m * 2 ^ (q + 1074).toNat ≤ B)
  | _ => false
theorem lb_of {B x : Nat} (h : lbOf B x = true) : Lb B x := by
  unfold lbOf at h
  split at h
  · rename_i s m q e
    simp only [Bool.and_eq_true, decide_eq_true_eq] at h
    refine ⟨s, m, (q + 1074).toNat, ?_, h.2⟩
    rw [e]
    congr 1
    omega
  · cases h
def gbOf (B x : Nat) : Bool := match Ieee.double.read x with
  | .number _ m q => decide (-1074 ≤ q) && decide (0 < m) && decide (B ≤ m * 2 ^ (q + 1074).toNat)
  | _ => false
theorem gb_of {B x : Nat} (h : gbOf B x = true) : Gb B x := by
  unfold gbOf at h
  split at h
  · rename_i s m q e
    simp only [Bool.and_eq_true, decide_eq_true_eq] at h
    refine ⟨s, m, (q + 1074).toNat, ?_, h.1.2, h.2⟩
    rw [e]
    congr 1
    omega
  · cases h
def nnOf (x : Nat) : Bool := match Ieee.double.read x with
  | .number s m _ => !s || m == 0
  | _ => false
theorem nn_of {x : Nat} (h : nnOf x = true) : Nn x := by
  unfold nnOf at h
  split at h
  · rename_i s m q e
    refine ⟨s, m, q, e, ?_⟩
    cases s
    · exact .inl rfl
    · exact .inr (by simpa using h)
  · cases h
section
variable {A B b t x y : Nat}
theorem mul_lb (hx : Lb A x) (hy : Lb B y) (hb : b ≤ 2 ^ 52) (ht : t ≤ 1900) (h : A * B ≤ b * 2 ^ t * 2 ^ 1074) : ∃ r, floatBits .mul .f64 x y = some r ∧ Lb (b * 2 ^ t) r ∧ (Nn x → Nn y → Nn r) := by
  obtain ⟨s, m, p, e1, l1⟩ := hx
  obtain ⟨u, n, q, e2, l2⟩ := hy
  have hv : m * n * 2 ^ (p + q + 1074) ≤ b * 2 ^ t * 2 ^ 2148 := by
    calc m * n * 2 ^ (p + q + 1074) = (m * 2 ^ p) * (n * 2 ^ q) * 2 ^ 1074 := by rw [Nat.pow_add, Nat.pow_add]; simp only [Nat.mul_assoc, Nat.mul_left_comm]
      _ ≤ A * B * 2 ^ 1074 := Nat.mul_le_mul_right _ (Nat.mul_le_mul l1 l2)
      _ ≤ b * 2 ^ t * 2 ^ 1074 * 2 ^ 1074 := Nat.mul_le_mul_right _ h
      _ = b * 2 ^ t * 2 ^ 2148 := by rw [Nat.mul_assoc, pow_two_add 1074 1074 2148 rfl]
  obtain ⟨m', p', e3, l3, z3⟩ := near_le (s ^^ u) (m * n) (p + q) 2148 b t hb ht hv
  refine ⟨_, ?_, ⟨_, m', p', e3, l3⟩, ?_⟩
  · show Ieee.double.mul x y = _
    unfold Format.mul
    rw [e1, e2]
    show some (Ieee.double.nearest (s ^^ u) (m * n) ((p : Int) - 1074 + ((q : Int) - 1074))) = _
    have : (p : Int) - 1074 + ((q : Int) - 1074) = ((p + q : Nat) : Int) - (2148 : Nat) := by omega
    rw [this]
  · intro hx hy
    obtain ⟨s', m1, q1, f1, g1⟩ := hx
    obtain ⟨u', n1, q2, f2, g2⟩ := hy
    rw [e1] at f1; rw [e2] at f2
    cases f1; cases f2
    refine ⟨_, m', _, e3, ?_⟩
    rcases g1 with g1 | g1
    · rcases g2 with g2 | g2
      · left; rw [g1, g2]; rfl
      · right; apply z3; rw [g2]; rfl
    · right; apply z3; rw [g1]; simp
theorem sum_lb (s u : Bool) (m n p q : Nat) (hb : b ≤ 2 ^ 52) (ht : t ≤ 1900) (h : m * 2 ^ p + n * 2 ^ q ≤ b * 2 ^ t) : ∃ d r, Datum.sum (.number s m ((p : Int) - 1074)) (.number u n ((q : Int) - 1074)) = some d ∧ Ieee.double.write d = r ∧ Lb (b * 2 ^ t) r := by
  have hmin : min ((p : Int) - 1074) ((q : Int) - 1074) = ((min p q : Nat) : Int) - (1074 : Nat) := by omega
  refine ⟨_, _, rfl, rfl, ?_⟩
  rw [hmin]
  have e1 : ((p : Int) - 1074 - (((min p q : Nat) : Int) - (1074 : Nat))).toNat = p - min p q := by omega
  have e2 : ((q : Int) - 1074 - (((min p q : Nat) : Int) - (1074 : Nat))).toNat = q - min p q := by omega
  rw [e1, e2]
  have ab : (signed s m (p - min p q) + signed u n (q - min p q)).natAbs ≤ m * 2 ^ (p - min p q) + n * 2 ^ (q - min p q) := by
    unfold signed
    rw [Nat.shiftLeft_eq, Nat.shiftLeft_eq]
    generalize m * 2 ^ (p - min p q) = a
    generalize n * 2 ^ (q - min p q) = c
    cases s <;> cases u <;> simp <;> omega
  generalize (signed s m (p - min p q) + signed u n (q - min p q)) = T at ab
  have hv : T.natAbs * 2 ^ (min p q + 1074) ≤ b * 2 ^ t * 2 ^ 1074 := by
    calc T.natAbs * 2 ^ (min p q + 1074) ≤ (m * 2 ^ (p - min p q) + n * 2 ^ (q - min p q)) * 2 ^ (min p q + 1074) := Nat.mul_le_mul_right _ ab
      _ = (m * 2 ^ p + n * 2 ^ q) * 2 ^ 1074 := by
        rw [Nat.pow_add, ← Nat.mul_assoc, Nat.add_mul, Nat.mul_assoc m, ← Nat.pow_add, Nat.mul_assoc n, ← Nat.pow_add]
        congr 3 <;> congr 1 <;> omega
      _ ≤ b * 2 ^ t * 2 ^ 1074 := Nat.mul_le_mul_right _ h
  obtain ⟨m', p', e3, l3, _⟩ := near_le (if T = 0 then s && u else decide (T < 0)) T.natAbs (min p q) 1074 b t hb ht hv
  exact ⟨_, m', p', e3, l3⟩
theorem add_lb (hx : Lb A x) (hy : Lb B y) (hb : b ≤ 2 ^ 52) (ht : t ≤ 1900) (h : A + B ≤ b * 2 ^ t) : ∃ r, floatBits .add .f64 x y = some r ∧ Lb (b * 2 ^ t) r := by
  obtain ⟨s, m, p, e1, l1⟩ := hx
  obtain ⟨u, n, q, e2, l2⟩ := hy
  obtain ⟨d, r, f1, f2, f3⟩ := sum_lb s u m n p q hb ht (by omega)
  refine ⟨r, ?_, f3⟩
  show Ieee.double.add x y = _
  unfold Format.add
  rw [e1, e2, f1, ← f2]
  rfl
theorem sub_lb (hx : Lb A x) (hy : Lb B y) (hb : b ≤ 2 ^ 52) (ht : t ≤ 1900) (h : A + B ≤ b * 2 ^ t) : ∃ r, floatBits .sub .f64 x y = some r ∧ Lb (b * 2 ^ t) r := by
  obtain ⟨s, m, p, e1, l1⟩ := hx
  obtain ⟨u, n, q, e2, l2⟩ := hy
  obtain ⟨d, r, f1, f2, f3⟩ := sum_lb s (!u) m n p q hb ht (by omega)
  refine ⟨r, ?_, f3⟩
  show Ieee.double.sub x y = _
  unfold Format.sub
  rw [e1, e2]
  show ((Datum.sum _ (.number (!u) n ((q : Int) - 1074))).map _) = _
  rw [f1, ← f2]
  rfl
/-- a whole number as a float -/
theorem int_lb (n : Int) (hb : b ≤ 2 ^ 52) (ht : t ≤ 1900) (h : n.natAbs * 2 ^ 1074 ≤ b * 2 ^ t) : Lb (b * 2 ^ t) (floatOfInt .f64 n) ∧ (0 ≤ n → Nn (floatOfInt .f64 n)) := by
  obtain ⟨m', p', e3, l3, z3⟩ := near_le (decide (n < 0)) n.natAbs 0 0 b t hb ht (by rw [Nat.zero_add, Nat.pow_zero, Nat.mul_one]; exact h)
  refine ⟨⟨_, m', p', e3, l3⟩, fun h0 => ⟨_, m', _, e3, .inl (by simp; omega)⟩⟩
theorem int_lb1 (n : Int) (b : Nat) (hb : b ≤ 2 ^ 52) (h : n.natAbs ≤ b) : Lb (b * 2 ^ 1074) (floatOfInt .f64 n) ∧ (0 ≤ n → Nn (floatOfInt .f64 n)) := by
  have g : n.natAbs * 2 ^ 1074 ≤ b * 2 ^ 1074 := Nat.mul_le_mul_right _ h
  have h2 : (1074 : Nat) ≤ 1900 := by decide
  have k := int_lb (t := 1074) n hb h2 g
  exact k
/-- a quotient, of a bound a little greater -/
theorem quo_lb (hx : Lb A x) (hy : Gb B y) (hb : b ≤ 2 ^ 52) (ht : t ≤ 1900) (h : 9 * A * 2 ^ 1074 ≤ 8 * (b * 2 ^ t * B)) : ∃ r, floatBits .quo .f64 x y = some r ∧ Lb (b * 2 ^ t) r ∧ (Nn x → Nn y → Nn r) := by
  obtain ⟨s, m, p, e1, l1⟩ := hx
  obtain ⟨u, n, q, e2, n0, l2⟩ := hy
  generalize hmore : 54 + n.log2 - m.log2 = more
  have hv : (2 * ((m <<< more) / n) + ((m <<< more) % n != 0).toNat) * 2 ^ (p + 1074) ≤ b * 2 ^ t * 2 ^ (q + more + 1) := by
    rcases Nat.eq_zero_or_pos m with m0 | m0
    · subst m0; simp
    have a1 := Nat.log2_self_le (show m ≠ 0 by omega)
    have a2 := Nat.lt_log2_self (n := n)
    rw [Nat.shiftLeft_eq]
    have a3 : 4 * n ≤ m * 2 ^ more := by
      calc 4 * n ≤ 2 ^ 2 * 2 ^ (n.log2 + 1) := Nat.mul_le_mul_left 4 (Nat.le_of_lt a2)
        _ = 2 ^ (n.log2 + 3) := by rw [← Nat.pow_add]; congr 1; omega
        _ ≤ 2 ^ (m.log2 + more) := Nat.pow_le_pow_right (by omega) (by omega)
        _ = 2 ^ m.log2 * 2 ^ more := Nat.pow_add ..
        _ ≤ m * 2 ^ more := Nat.mul_le_mul_right _ a1
    have a4 : 4 ≤ m * 2 ^ more / n := (Nat.le_div_iff_mul_le n0).2 a3
    have a5 : m * 2 ^ more / n * n ≤ m * 2 ^ more := Nat.div_mul_le_self ..
    have a6 := Bool.toNat_le (m * 2 ^ more % n != 0)
    generalize (m * 2 ^ more % n != 0).toNat = r at a6
    generalize m * 2 ^ more / n = Q at a4 a5
    have a7 : 4 * (2 * Q + r) ≤ 9 * Q := by omega
    refine Nat.le_of_mul_le_mul_right (c := 4 * n) ?_ (by omega)
    calc (2 * Q + r) * 2 ^ (p + 1074) * (4 * n) = 4 * (2 * Q + r) * n * 2 ^ (p + 1074) := by
          simp only [Nat.mul_assoc, Nat.mul_comm, Nat.mul_left_comm]
      _ ≤ 9 * Q * n * 2 ^ (p + 1074) := Nat.mul_le_mul_right _ (Nat.mul_le_mul_right _ a7)
      _ = 9 * (Q * n) * 2 ^ (p + 1074) := by rw [Nat.mul_assoc 9]
      _ ≤ 9 * (m * 2 ^ more) * 2 ^ (p + 1074) := Nat.mul_le_mul_right _ (Nat.mul_le_mul_left _ a5)
      _ = 9 * (m * 2 ^ p) * 2 ^ 1074 * 2 ^ more := by rw [Nat.pow_add]; simp only [Nat.mul_assoc, Nat.mul_comm, Nat.mul_left_comm]
      _ ≤ 9 * A * 2 ^ 1074 * 2 ^ more := Nat.mul_le_mul_right _ (Nat.mul_le_mul_right _ (Nat.mul_le_mul_left _ l1))
      _ ≤ 8 * (b * 2 ^ t * B) * 2 ^ more := Nat.mul_le_mul_right _ h
      _ ≤ 8 * (b * 2 ^ t * (n * 2 ^ q)) * 2 ^ more := Nat.mul_le_mul_right _ (Nat.mul_le_mul_left _ (Nat.mul_le_mul_left _ l2))
      _ = b * 2 ^ t * 2 ^ (q + more + 1) * (4 * n) := by
        rw [Nat.pow_succ, Nat.pow_add]
        have : 8 = 2 * 4 := rfl
        rw [this]
        simp only [Nat.mul_assoc, Nat.mul_comm, Nat.mul_left_comm]
  obtain ⟨m', p', e3, l3, z3⟩ := near_le (s ^^ u) _ p (q + more + 1) b t hb ht hv
  refine ⟨_, ?_, ⟨_, m', p', e3, l3⟩, ?_⟩
  · show Ieee.double.div x y = _
    unfold Format.div
    rw [e1, e2]
    have nn : n ≠ 0 := by omega
    show ((Datum.quotient (52 + 2) _ _).map _) = _
    unfold Datum.quotient
    dsimp only
    rw [if_neg nn, hmore]
    show some (Ieee.double.nearest (s ^^ u) (2 * ((m <<< more) / n) + ((m <<< more) % n != 0).toNat) ((p : Int) - 1074 - ((q : Int) - 1074) - more - 1)) = _
    have : (p : Int) - 1074 - ((q : Int) - 1074) - more - 1 = (p : Int) - ((q + more + 1 : Nat) : Int) := by omega
    rw [this]
  · intro hx hy
    obtain ⟨s', m1, q1, f1, g1⟩ := hx
    obtain ⟨u', n1, q2, f2, g2⟩ := hy
    rw [e1] at f1; rw [e2] at f2
    cases f1; cases f2
    refine ⟨_, m', _, e3, ?_⟩
    rcases g1 with g1 | g1
    · rcases g2 with g2 | g2
      · left; rw [g1, g2]; rfl
      · omega
    · right; apply z3; rw [g1]; simp
def rdw (neg : Bool) (rung : Nat) : Datum :=
  if rung < 2 ^ 52 then .number neg rung (-1074)
  else if rung < 2047 * 2 ^ 52 then .number neg (2 ^ 52 + rung % 2 ^ 52) (-1074 + (rung / 2 ^ 52 - 1 : Nat))
  else if rung = 2047 * 2 ^ 52 then .infinity neg
  else .nan neg (rung - 2047 * 2 ^ 52)
theorem read_rdw (x : Nat) : Ieee.double.read x = rdw (x / 2 ^ 63 % 2 == 1) (x % 2 ^ 63) := rfl
theorem rdw_opp (n : Bool) (r : Nat) : (rdw n r).opposite = rdw (!n) r := by
  unfold rdw
  by_cases a1 : r < 2 ^ 52
  · rw [if_pos a1, if_pos a1]; rfl
  · rw [if_neg a1, if_neg a1]
    by_cases a2 : r < 2047 * 2 ^ 52
    · rw [if_pos a2, if_pos a2]; rfl
    · rw [if_neg a2, if_neg a2]
      by_cases a3 : r = 2047 * 2 ^ 52
      · rw [if_pos a3, if_pos a3]; rfl
      · rw [if_neg a3, if_neg a3]; rfl
/-- the sign turned -/
theorem read_neg (x : Nat) : Ieee.double.read (Op.negFloat .f64 x) = (Ieee.double.read x).opposite := by
  have e0 : Op.negFloat .f64 x = x ^^^ 2 ^ 63 := rfl
  have e1 : (x ^^^ 2 ^ 63) % 2 ^ 63 = x % 2 ^ 63 := by
    apply Nat.eq_of_testBit_eq
    intro i
    rw [Nat.testBit_mod_two_pow, Nat.testBit_mod_two_pow, Nat.testBit_xor, Nat.testBit_two_pow]
    by_cases h : i < 63
    · have : ¬ 63 = i := by omega
      simp [h, this]
    · simp [h]
  have e2 : ((x ^^^ 2 ^ 63) / 2 ^ 63 % 2 == 1) = !(x / 2 ^ 63 % 2 == 1) := by
    have f : ∀ y : Nat, (y / 2 ^ 63 % 2 == 1) = y.testBit 63 := fun y => by
      rw [Nat.testBit_eq_decide_div_mod_eq]
      rfl
    rw [f, f, Nat.testBit_xor, Nat.testBit_two_pow]
    simp
  rw [e0, read_rdw, read_rdw, e1, e2, rdw_opp]
theorem Lb.neg (h : Lb B x) : Lb B (Op.negFloat .f64 x) := by
  obtain ⟨s, m, p, e, l⟩ := h
  exact ⟨!s, m, p, by rw [read_neg, e]; rfl, l⟩
theorem cmp_scale (a b c : Int) (hc : 0 < c) : compare (a * c) (b * c) = compare a b := by
  rcases Int.lt_trichotomy a b with h | h | h
  · rw [Int.compare_eq_lt.2 h, Int.compare_eq_lt.2 (Int.mul_lt_mul_of_pos_right h hc)]
  · subst h; rw [Int.compare_eq_eq.2 rfl, Int.compare_eq_eq.2 rfl]
  · rw [Int.compare_eq_gt.2 h, Int.compare_eq_gt.2 (Int.mul_lt_mul_of_pos_right h hc)]
/-- a number of units with its sign -/
def sv (s : Bool) (k : Nat) : Int := if s then -(k : Int) else k
theorem signed_scale (s : Bool) (m p c : Nat) : signed s m p * ((2 ^ c : Nat) : Int) = sv s (m * 2 ^ (p + c)) := by
  unfold signed sv
  rw [Nat.shiftLeft_eq, Nat.pow_add, ← Nat.mul_assoc]
  cases s <;> simp [Int.neg_mul]
/-- the order of two numbers is that of their units -/
theorem order_units {s u : Bool} {m n p q x y : Nat} (hx : Ieee.double.read x = .number s m ((p : Int) - 1074)) (hy : Ieee.double.read y = .number u n ((q : Int) - 1074)) : Ieee.double.order x y = some (compare (sv s (m * 2 ^ p)) (sv u (n * 2 ^ q))) := by
  unfold Format.order
  rw [hx, hy]
  unfold Datum.order
  have e1 : ((p : Int) - 1074 - min ((p : Int) - 1074) ((q : Int) - 1074)).toNat = p - min p q := by omega
  have e2 : ((q : Int) - 1074 - min ((p : Int) - 1074) ((q : Int) - 1074)).toNat = q - min p q := by omega
  dsimp only
  rw [e1, e2, ← cmp_scale _ _ ((2 ^ min p q : Nat) : Int) (by exact_mod_cast Nat.two_pow_pos _), signed_scale, signed_scale]
  have e3 : p - min p q + min p q = p := by omega
  have e4 : q - min p q + min p q = q := by omega
  rw [e3, e4]
theorem read_zero : Ieee.double.read 0 = .number false 0 (((0 : Nat) : Int) - 1074) := by decide +kernel
/-- the order with nought; a number that is below nought, turned, is not -/
theorem nn_neg (h : Lb B x) (hlt : Ieee.double.order x 0 = some .lt) : Nn (Op.negFloat .f64 x) := by
  obtain ⟨s, m, p, e, l⟩ := h
  refine ⟨!s, m, _, by rw [read_neg, e]; rfl, ?_⟩
  cases s
  · exfalso
    rw [order_units e read_zero] at hlt
    injection hlt with hlt
    rw [Int.compare_eq_lt] at hlt
    unfold sv at hlt
    generalize m * 2 ^ p = k at hlt
    simp at hlt
    omega
  · exact .inl rfl
theorem nn_nlt (h : Lb B x) (hlt : Ieee.double.order x 0 ≠ some .lt) : Nn x := by
  obtain ⟨s, m, p, e, l⟩ := h
  refine ⟨s, m, _, e, ?_⟩
  cases s
  · exact .inl rfl
  · right
    apply Classical.byContradiction
    intro m0
    apply hlt
    rw [order_units e read_zero, Int.compare_eq_lt.2]
    have := Nat.mul_pos (Nat.pos_of_ne_zero m0) (Nat.two_pow_pos p)
    unfold sv
    generalize m * 2 ^ p = k at this
    simp
    omega
/-- a number is like itself: it is no NaN -/
theorem order_self (h : Lb B x) : Ieee.double.order x x = some .eq := by
  obtain ⟨s, m, p, e, l⟩ := h
  rw [order_units e e, Int.compare_eq_eq.2 rfl]
/-- a number of fewer units than another one that is not below nought -/
theorem order_below (h : Lb B x) {n q : Nat} (hy : Ieee.double.read y = .number false n ((q : Int) - 1074)) (hB : B < n * 2 ^ q) : Ieee.double.order x y = some .lt := by
  obtain ⟨s, m, p, e, l⟩ := h
  rw [order_units e hy, Int.compare_eq_lt.2]
  unfold sv
  generalize m * 2 ^ p = k at l
  generalize n * 2 ^ q = j at hB
  cases s <;> simp <;> omega
theorem order_above (h : Lb B x) {n q : Nat} (hy : Ieee.double.read y = .number true n ((q : Int) - 1074)) (hB : B < n * 2 ^ q) : Ieee.double.order x y = some .gt := by
  obtain ⟨s, m, p, e, l⟩ := h
  rw [order_units e hy, Int.compare_eq_gt.2]
  unfold sv
  generalize m * 2 ^ p = k at l
  generalize n * 2 ^ q = j at hB
  cases s <;> simp <;> omega
/-- a float made a whole number: within the bound; not below nought where the float is not -/
theorem toInt_lb {C : Nat} (h : Lb B x) (way : Toward) (hB : B ≤ C * 2 ^ 1074) : ∃ s k, Datum.integral way (Ieee.double.read x) = .number s k 0 ∧ k ≤ C ∧ (Nn x → s = false ∨ k = 0) := by
  obtain ⟨s, m, p, e, l⟩ := h
  rw [e]
  refine ⟨s, _, rfl, ?_, ?_⟩
  · apply cut_le
    rw [Nat.shiftLeft_eq]
    rcases Nat.lt_or_ge p 1074 with h | h
    · have e1 : ((p : Int) - 1074).toNat = 0 := by omega
      have e2 : (-((p : Int) - 1074)).toNat = 1074 - p := by omega
      rw [e1, e2]
      have a : m * 2 ^ p ≤ C * 2 ^ (1074 - p) * 2 ^ p := by
        rw [Nat.mul_assoc, ← Nat.pow_add]
        have : 1074 - p + p = 1074 := by omega
        rw [this]
        omega
      have := Nat.le_of_mul_le_mul_right a (Nat.two_pow_pos _)
      omega
    · have e1 : ((p : Int) - 1074).toNat = p - 1074 := by omega
      have e2 : (-((p : Int) - 1074)).toNat = 0 := by omega
      rw [e1, e2]
      have a : m * 2 ^ (p - 1074) * 2 ^ 1074 ≤ C * 2 ^ 0 * 2 ^ 1074 := by
        rw [Nat.mul_assoc, pow_two_add (p - 1074) 1074 p (by omega)]
        omega
      exact Nat.le_of_mul_le_mul_right (c := 2 ^ 1074) a (Nat.two_pow_pos 1074)
  · intro hn
    obtain ⟨s1, m1, q1, f1, g1⟩ := hn
    rw [e] at f1
    cases f1
    rcases g1 with g | g
    · exact .inl g
    · right
      subst g
      unfold Toward.cut
      cases way <;> simp
end
end Go.Proofs.YtfjpfllamalfeaaDoor
