/- FpA, FpB, FpC, FpD, FpE, FpF, FpG, FpH, FpI, FpJ, FpK, FpL, FpM, FpN, FpO, FpP, FpR, FpS, FpQ -/
import Derived.Test.YtfjpfllamalfeaaDoorRows
import Derived.Test.YtfjpfllamalfeaaDoorGFs1
import Derived.Test.YtfjpfllamalfeaaDoorGDv0
import Derived.Test.YtfjpfllamalfeaaDoorGShMul64
import Derived.Test.YtfjpfllamalfeaaDoorGLine1
import Derived.Test.YtfjpfllamalfeaaDoorGFlow
import Derived.Test.YtfjpfllamalfeaaDoorGListArg
import Derived.Test.YtfjpfllamalfeaaDoorGLaid
/- Plain: the sums of moon and sun, the elongation, the search of a phase: functions of the instant. -/
namespace Go.Proofs.YtfjpfllamalfeaaDoor
open Go
set_option linter.unusedVariables false
structure TermR where
  amp : Int
  ph : Int
  rate : Int
structure SumR where
  mean : Int
  mrate : Int
  rest : Int
  ts : List TermR
abbrev fUnit : Nat := 4815374002031689728
abbrev fTurn : Nat := 4741671816366391296
abbrev fTwo : Nat := 4611686018427387904
abbrev fPi : Nat := 4614256656552045848
/-- the angle of a term, in radians -/
def partA (m r : Int) : Option Nat := (fQ (floatOfInt .f64 r) fUnit).bind fun u => (fA (floatOfInt .f64 m) u).bind fun a => (fQ a fTurn).bind fun b => (fM b fTwo).bind fun c => fM c fPi
def partF (t : TermR) (i : Int) : Option Nat := (partA ((t.ph + t.rate * i / 86400000000000) % 1000000000) (t.rate * i % 86400000000000)).bind fun x => (sinF x).bind fun s => fM (floatOfInt .f64 t.amp) s
def sumF (i : Int) : List TermR → Nat → Option Nat
  | [], v => some v
  | t :: r, v => (partF t i).bind fun p => (fA v p).bind fun v' => sumF i r v'
def valueF (s : SumR) (i : Int) : Option (Int × Int) := (sumF i s.ts 0).bind fun v => (aroundF v).bind fun a => some (s.mean + a.1 - s.rest, s.mean + a.2 + s.rest)
def normI (a b : Int) : Int × Int := (a % 1000000000, a % 1000000000 + b - a)
def angleF (s : SumR) (i : Int) : Option (Int × Int) := (valueF s i).bind fun a => some (normI (a.1 + s.mrate * i / 86400000000000 % 1000000000) ((if 0 < s.mrate * i % 86400000000000 then a.2 + 1 else a.2) + s.mrate * i / 86400000000000 % 1000000000))
def moonS : SumR := ⟨392048814, 36601101305556, 20000, [⟨17468817, 99384016, 36291647083333⟩, ⟨3538964, 134030564, 31434736861111⟩, ⟨1828650, 233414580, 67726383944444⟩, ⟨593383, 198768032, 72583294166666⟩, ⟨-514211, 84888545, 2737778555556⟩, ⟨-317589, 297001062, 73496390222222⟩]⟩
def sunS : SumR := ⟨775342092, 2737909333333, 2000, [⟨5318339, 84888545, 2737778555556⟩, ⟨55536, 169777090, 5475557111112⟩]⟩
def elongF (i : Int) : Option (Int × Int) := (angleF moonS i).bind fun a => (angleF sunS i).bind fun b => some (normI (a.1 - b.2) (a.2 - b.1))
/-- the side of an interval of angles -/
def sideI (a b target : Int) : Int :=
  if (a - target) % 1000000000 = 0 ∨ 1000000000 ≤ (a - target) % 1000000000 + (b - a) then 0
  else if (a - target) % 1000000000 ≤ 500000000 ∧ 500000000 ≤ (a - target) % 1000000000 + (b - a) then 2
  else if (a - target) % 1000000000 < 500000000 then 1 else -1
def sideF (q i : Int) : Int := match elongF i with
  | some a => sideI a.1 a.2 (q * 250000000)
  | none => 0
def lastF (hold : Int → Bool) : Nat → Int → Int → Int
  | 0, lo, _ => lo
  | n + 1, lo, hi => if hi - lo ≤ 1 then lo else if hold (lo + (hi - lo) / 2) then lastF hold n (lo + (hi - lo) / 2) hi else lastF hold n lo (lo + (hi - lo) / 2)
def narF (sd : Int → Int) (w : Int) : Nat → Int → Int → Int × Int
  | 0, lo, hi => (lo, hi)
  | n + 1, lo, hi => if hi - lo ≤ w then (lo, hi)
    else if sd (lo + (hi - lo) / 2) = -1 then narF sd w n (lo + (hi - lo) / 2) hi
    else if sd (lo + (hi - lo) / 2) = 1 then narF sd w n lo (lo + (hi - lo) / 2)
    else (lastF (fun x => sd x == -1) 40 lo (lo + (hi - lo) / 2), -lastF (fun x => sd (-x) == 1) 40 (-hi) (-(lo + (hi - lo) / 2)))
def midI (k q : Int) : Int := 977949455 + 2551442878 * k + 637860719 * q
def findF (k q : Int) : Int × Int := narF (sideF q) 600000 40 (midI k q - 172800000) (midI k q + 172800000)

theorem last_in (hold : Int → Bool) : ∀ n lo hi, lo ≤ hi → lo ≤ lastF hold n lo hi ∧ lastF hold n lo hi ≤ hi := by
  intro n
  induction n with
  | zero => intro lo hi h; exact ⟨Int.le_refl _, h⟩
  | succ n ih =>
    intro lo hi h
    unfold lastF
    by_cases h1 : hi - lo ≤ 1
    · rw [if_pos h1]; exact ⟨Int.le_refl _, h⟩
    · rw [if_neg h1]
      have a : lo ≤ lo + (hi - lo) / 2 := by omega
      have b : lo + (hi - lo) / 2 ≤ hi := by omega
      split
      · have := ih _ _ b; omega
      · have := ih _ _ a; omega
theorem nar_in (sd : Int → Int) (w : Int) : ∀ n lo hi, lo ≤ hi → lo ≤ (narF sd w n lo hi).1 ∧ (narF sd w n lo hi).1 ≤ (narF sd w n lo hi).2 ∧ (narF sd w n lo hi).2 ≤ hi := by
  intro n
  induction n with
  | zero => intro lo hi h; exact ⟨Int.le_refl _, h, Int.le_refl _⟩
  | succ n ih =>
    intro lo hi h
    unfold narF
    by_cases h1 : hi - lo ≤ w
    · rw [if_pos h1]; exact ⟨Int.le_refl _, h, Int.le_refl _⟩
    · rw [if_neg h1]
      have a : lo ≤ lo + (hi - lo) / 2 := by omega
      have b : lo + (hi - lo) / 2 ≤ hi := by omega
      split
      · have := ih _ _ b; omega
      · split
        · have := ih _ _ a; omega
        · have l1 := last_in (fun x => sd x == -1) 40 _ _ a
          have l2 := last_in (fun x => sd (-x) == 1) 40 (-hi) (-(lo + (hi - lo) / 2)) (by omega)
          dsimp only
          omega
theorem find_in (k q : Int) : midI k q - 172800000 ≤ (findF k q).1 ∧ (findF k q).1 ≤ (findF k q).2 ∧ (findF k q).2 ≤ midI k q + 172800000 := nar_in _ _ _ _ _ (by omega)
/-- the phase that lies within a day -/
def inDay (day k q : Int) : Bool := decide ((findF k q).1 / 86400000 = day) && decide ((findF k q).2 / 86400000 = day)
def moonQ (day k : Int) : Nat → Int → Int
  | 0, _ => 0
  | n + 1, q => if inDay day k q then q + 1 else moonQ day k n (q + 1)
def moonN (day : Int) : Int := (day * 86400000 - 977949455) / 2551442878
def moonK (day : Int) : Nat → Int → Int
  | 0, _ => 0
  | n + 1, k => if moonQ day k 4 0 = 0 then moonK day n (k + 1) else moonQ day k 4 0
def moonF (day : Int) : Int := moonK day 3 (moonN day - 1)
/-- two phases never lie within one day -/
theorem inDay_one {day k q k' q' : Int} (h0 : 0 ≤ q) (h1 : q ≤ 3) (h2 : 0 ≤ q') (h3 : q' ≤ 3) (h : inDay day k q = true) (h' : inDay day k' q' = true) : k = k' ∧ q = q' := by
  unfold inDay at h h'
  simp only [Bool.and_eq_true, decide_eq_true_eq] at h h'
  have a := find_in k q
  have b := find_in k' q'
  unfold midI at a b
  have hq : q = 0 ∨ q = 1 ∨ q = 2 ∨ q = 3 := by omega
  have hq' : q' = 0 ∨ q' = 1 ∨ q' = 2 ∨ q' = 3 := by omega
  obtain ⟨h5, h6⟩ := h
  obtain ⟨h7, h8⟩ := h'
  have d1 : (findF k q).1 - 86399999 ≤ (findF k' q').1 := by omega
  have d2 : (findF k' q').1 - 86399999 ≤ (findF k q).1 := by omega
  clear h5 h6 h7 h8 h0 h1 h2 h3
  rcases hq with rfl | rfl | rfl | rfl <;> rcases hq' with rfl | rfl | rfl | rfl <;> omega
theorem moonQ_no {day k : Int} : ∀ (n : Nat) (q : Int), (∀ j : Int, q ≤ j → j < q + (n : Nat) → inDay day k j = false) → moonQ day k n q = 0 := by
  intro n
  induction n with
  | zero => intro q h; rfl
  | succ n ih =>
    intro q h
    unfold moonQ
    rw [if_neg (by rw [h q (Int.le_refl _) (by omega)]; decide)]
    exact ih (q + 1) fun j a b => h j (by omega) (by omega)
theorem moonQ_yes {day k q : Int} (h0 : 0 ≤ q) (h1 : q ≤ 3) (h : inDay day k q = true) : ∀ (n : Nat) (p : Int), 0 ≤ p → p ≤ q → q < p + (n : Nat) → p + (n : Nat) ≤ 4 → moonQ day k n p = q + 1 := by
  intro n
  induction n with
  | zero => intro p _ a b _; omega
  | succ n ih =>
    intro p p0 a b c
    unfold moonQ
    by_cases e : inDay day k p = true
    · obtain ⟨_, rfl⟩ := inDay_one h0 h1 p0 (by omega) h e
      rw [if_pos e]
    · rw [if_neg e]
      have hne : p ≠ q := by rintro rfl; exact e h
      exact ih (p + 1) (by omega) (by omega) (by omega) (by omega)
theorem moonK_yes {day k q : Int} (h0 : 0 ≤ q) (h1 : q ≤ 3) (h : inDay day k q = true) : ∀ (n : Nat) (j : Int), j ≤ k → k < j + (n : Nat) → moonK day n j = q + 1 := by
  intro n
  induction n with
  | zero => intro j a b; omega
  | succ n ih =>
    intro j a b
    unfold moonK
    by_cases e : j = k
    · subst e
      rw [moonQ_yes h0 h1 h 4 0 (by omega) h0 (by omega) (by omega), if_neg (by omega)]
    · rw [moonQ_no 4 0 (fun p p0 p1 => by
        cases hp : inDay day j p
        · rfl
        · exact absurd (inDay_one h0 h1 p0 (by omega) h hp).1.symm e), if_pos rfl]
      exact ih (j + 1) (by omega) (by omega)
/-- of an interval of a phase: the day on which it begins has this phase, if it ends on this day -/
theorem moon_law {k q : Int} (h0 : 0 ≤ q) (h1 : q ≤ 3) : moonF ((findF k q).1 / 86400000) = q + 1 ∨ (findF k q).2 / 86400000 ≠ (findF k q).1 / 86400000 := by
  by_cases e : (findF k q).2 / 86400000 = (findF k q).1 / 86400000
  · left
    have a := find_in k q
    unfold midI at a
    have hd : inDay ((findF k q).1 / 86400000) k q = true := by
      unfold inDay
      simp [e]
    unfold moonF
    refine moonK_yes h0 h1 hd 3 _ ?_ ?_
    · unfold moonN; omega
    · unfold moonN; omega
  · exact .inr e
end Go.Proofs.YtfjpfllamalfeaaDoor

/- series.size, inRange, grown: the quotient and the rest of rate times instant. -/
namespace Go.Proofs.YtfjpfllamalfeaaDoor
open Go.RowKit Go.Lib
set_option linter.unusedVariables false
set_option maxRecDepth 100000 in
theorem ssize_neg (a : Int) (w : World) (h1 : -9223372036854775807 ≤ a) (h2 : a < 0) :
    Calls Tryd.prog 39 #[.int .i64 a] w fun e w' => e = .returned (.int .i64 (-a)) ∧ w' = w := by
  have hw : IntKind.i64.wrap (-a) = -a := by simp only [IntKind.wrap_i64]; omega
  have hm : max a (-a) = -a := by omega
  go_enter Tryd.func39, Tryd.ntmps39
  go_wp2_with fail
  all_goals (go_ret)
  exact ⟨rfl, rfl⟩
set_option maxRecDepth 100000 in
theorem ssize_pos (a : Int) (w : World) (h1 : 0 ≤ a) (h2 : a ≤ 9223372036854775807) :
    Calls Tryd.prog 39 #[.int .i64 a] w fun e w' => e = .returned (.int .i64 a) ∧ w' = w := by
  have hw : IntKind.i64.wrap (-a) = -a := by simp only [IntKind.wrap_i64]; omega
  have hm : max a (-a) = a := by omega
  go_enter Tryd.func39, Tryd.ntmps39
  go_wp2_with fail
  all_goals (go_ret)
  exact ⟨rfl, rfl⟩
theorem ssize_any (a : Int) (w : World) (h1 : -9223372036854775807 ≤ a) (h2 : a ≤ 9223372036854775807) :
    Calls Tryd.prog 39 #[.int .i64 a] w fun e w' => e = .returned (.int .i64 (a.natAbs : Nat)) ∧ w' = w := by
  by_cases h : a < 0
  · have := ssize_neg a w h1 h
    rw [show -a = (a.natAbs : Nat) by omega] at this
    exact this
  · refine (ssize_pos a w (by omega) h2).mono ?_
    rintro e w' ⟨rfl, rfl⟩
    exact ⟨by rw [show ((a.natAbs : Nat) : Int) = a by omega], rfl⟩
set_option maxRecDepth 100000 in
theorem inr_yes (n m : Int) (w : World) (h0 : -9223372036854775807 ≤ m) (h0' : m ≤ 9223372036854775807) (h1 : -m ≤ n) (h2 : n ≤ m) :
    Calls Tryd.prog 33 #[.int .i64 n, .int .i64 m] w fun e w' => e = .returned (.bool true) ∧ w' = w := by
  have hw : IntKind.i64.wrap (-m) = -m := by simp only [IntKind.wrap_i64]; omega
  have t1 : decide (-m ≤ n) = true := decide_eq_true h1
  have t2 : decide (n ≤ m) = true := decide_eq_true h2
  go_enter Tryd.func33, Tryd.ntmps33
  go_wp2_with fail
  all_goals (go_ret)
  exact ⟨rfl, rfl⟩
/-- an instant of at most so many days -/
theorem isinst_yes (t : Int) (w : World) (h1 : -300000000000000 ≤ t) (h2 : t ≤ 300000000000000) : Calls Tryd.prog 31 #[.int .i64 t] w fun e w' => e = .returned (.bool true) ∧ ∃ n, w' = w.drewN n := by
  go_enter Tryd.func31, Tryd.ntmps31
  go_wp2_with (first
    | (go_at_call 8; refine (down_day _ _ (by omega) (by omega)).mono ?_; rintro e w' ⟨rfl, n, rfl⟩)
    | (go_at_call 13; refine (is_yes _ _ (by omega) (by omega)).mono ?_; rintro e w' ⟨rfl, rfl⟩))
  go_ret
  exact ⟨rfl, _, rfl⟩
theorem div64_any (P : Nat) (h : P < 86400000000000 * 18446744073709551616) (w : World) : Calls Tryd.prog 40 #[.int .u64 ((P / 18446744073709551616 : Nat) : Int), .int .u64 ((P % 18446744073709551616 : Nat) : Int), .int .u64 86400000000000] w fun e w' => e = .returned (.tuple #[.int .u64 ((P / 86400000000000 : Nat) : Int), .int .u64 ((P % 86400000000000 : Nat) : Int)]) ∧ ∃ n, w' = w.drewN n := by
  have hl : P % 18446744073709551616 < 18446744073709551616 := Nat.mod_lt _ (by decide)
  by_cases h0 : P / 18446744073709551616 = 0
  · have e1 : P % 18446744073709551616 = P := by omega
    rw [h0, e1]
    exact div64_small P (by omega) w
  · have := div64_big (P / 18446744073709551616) (P % 18446744073709551616) (by omega) (by omega) hl w
    rw [show P / 18446744073709551616 * 18446744073709551616 + P % 18446744073709551616 = P by omega] at this
    exact this
theorem grown_pl (m : Int) (P q r : Nat) (hm : m = (P : Int)) (hq : q = P / 86400000000000) (hr : r = P % 86400000000000) : m / 86400000000000 = q ∧ m % 86400000000000 = r := by omega
theorem grown_mi0 (m : Int) (P q r : Nat) (hm : m = -(P : Int)) (hq : q = P / 86400000000000) (hr : r = P % 86400000000000) (h0 : r = 0) : m / 86400000000000 = -(q : Int) ∧ m % 86400000000000 = 0 := by omega
theorem grown_mi1 (m : Int) (P q r : Nat) (hm : m = -(P : Int)) (hq : q = P / 86400000000000) (hr : r = P % 86400000000000) (h0 : 0 < r) : m / 86400000000000 = -(q : Int) - 1 ∧ m % 86400000000000 = -(r : Int) + 86400000000000 := by omega
set_option maxRecDepth 100000 in
set_option maxHeartbeats 1000000 in
theorem grown_any (rate i : Int) (w : World) (h1 : 0 ≤ rate) (h2 : rate ≤ 4000000000000000) (h3 : -300000000000000 ≤ i) (h4 : i ≤ 300000000000000) :
    Calls Tryd.prog 35 #[.int .i64 rate, .int .i64 i] w fun e w' => e = .returned (.tuple #[.int .i64 (rate * i / 86400000000000), .int .i64 (rate * i % 86400000000000)]) ∧ ∃ n, w' = w.drewN n := by
  obtain ⟨P, hP⟩ : ∃ P, P = rate.natAbs * i.natAbs := ⟨_, rfl⟩
  have hPl : P ≤ 4000000000000000 * 300000000000000 := by rw [hP]; exact Nat.mul_le_mul (by omega) (by omega)
  have hPm : P = (rate * i).natAbs := by rw [hP, Int.natAbs_mul]
  obtain ⟨q, hq⟩ : ∃ q, q = P / 86400000000000 := ⟨_, rfl⟩
  obtain ⟨r, hr⟩ : ∃ r, r = P % 86400000000000 := ⟨_, rfl⟩
  have ql : q ≤ 13888888888888889 := by omega
  have rl : r < 86400000000000 := by omega
  have c1 : ∀ w, Calls Tryd.prog 38 #[.int .u64 ((rate.natAbs : Nat) : Int), .int .u64 ((i.natAbs : Nat) : Int)] w fun e w' => e = .returned (.tuple #[.int .u64 ((P / 18446744073709551616 : Nat) : Int), .int .u64 ((P % 18446744073709551616 : Nat) : Int)]) ∧ w' = w := fun w => by
    have := bits_Mul64 rate.natAbs i.natAbs (by omega) (by omega) w
    rw [← hP] at this
    exact this
  have c2 : ∀ w, Calls Tryd.prog 40 #[.int .u64 ((P / 18446744073709551616 : Nat) : Int), .int .u64 ((P % 18446744073709551616 : Nat) : Int), .int .u64 86400000000000] w fun e w' => e = .returned (.tuple #[.int .u64 (q : Int), .int .u64 (r : Int)]) ∧ ∃ n, w' = w.drewN n := fun w => by
    have := div64_any P (by omega) w
    rw [← hq, ← hr] at this
    exact this
  have s1 : ∀ w, Calls Tryd.prog 39 #[.int .i64 rate] w fun e w' => e = .returned (.int .i64 (rate.natAbs : Nat)) ∧ w' = w := fun w => ssize_any rate w (by omega) (by omega)
  have s2 : ∀ w, Calls Tryd.prog 39 #[.int .i64 i] w fun e w' => e = .returned (.int .i64 (i.natAbs : Nat)) ∧ w' = w := fun w => ssize_any i w (by omega) (by omega)
  have t1 : decide (rate < 0) = false := decide_eq_false (by omega)
  obtain ⟨a, ha⟩ : ∃ a, a = rate.natAbs := ⟨_, rfl⟩
  obtain ⟨b, hb⟩ : ∃ b, b = i.natAbs := ⟨_, rfl⟩
  have al : a ≤ 4000000000000000 := by omega
  have bl : b ≤ 300000000000000 := by omega
  rw [← ha] at s1 c1
  rw [← hb] at s2 c1
  obtain ⟨H, hH⟩ : ∃ H, H = P / 18446744073709551616 := ⟨_, rfl⟩
  obtain ⟨L, hL⟩ : ∃ L, L = P % 18446744073709551616 := ⟨_, rfl⟩
  rw [← hH, ← hL] at c1 c2
  have Hl : H < 18446744073709551616 := by omega
  have Ll : L < 18446744073709551616 := by omega
  have go : ∀ m : Int, m = rate * i → Calls Tryd.prog 35 #[.int .i64 rate, .int .i64 i] w fun e w' => e = .returned (.tuple #[.int .i64 (m / 86400000000000), .int .i64 (m % 86400000000000)]) ∧ ∃ n, w' = w.drewN n := by
    intro m hm
    by_cases hi : i < 0
    · have mP : m = -(P : Int) := by
        have : rate * i ≤ 0 := Int.mul_nonpos_of_nonneg_of_nonpos h1 (by omega)
        omega
      have t2 : decide (i < 0) = true := decide_eq_true hi
      by_cases h0 : r = 0
      · obtain ⟨e1, e2⟩ := grown_mi0 m P q r mP hq hr h0
        rw [e1, e2]
        have z : (r : Int) = 0 := by omega
        rw [z] at c2
        clear hP hPm hPl hq hr ha hb hH hL hm mP e1 e2 h0 z rl
        go_enter Tryd.func35, Tryd.ntmps35
        go_wp2_with (first
          | (go_at_call 39; first | (refine (s1 _).mono ?_; rintro e w' ⟨rfl, rfl⟩) | (refine (s2 _).mono ?_; rintro e w' ⟨rfl, rfl⟩))
          | (go_at_call 38; refine (c1 _).mono ?_; rintro e w' ⟨rfl, rfl⟩)
          | (go_at_call 40; refine (c2 _).mono ?_; rintro e w' ⟨rfl, nd, rfl⟩))
        go_ret2
        exact ⟨rfl, _, rfl⟩
      · obtain ⟨e1, e2⟩ := grown_mi1 m P q r mP hq hr (by omega)
        rw [e1, e2]
        have t3 : decide (-(r : Int) < 0) = true := decide_eq_true (by omega)
        clear hP hPm hPl hq hr ha hb hH hL hm mP e1 e2
        go_enter Tryd.func35, Tryd.ntmps35
        go_wp2_with (first
          | (go_at_call 39; first | (refine (s1 _).mono ?_; rintro e w' ⟨rfl, rfl⟩) | (refine (s2 _).mono ?_; rintro e w' ⟨rfl, rfl⟩))
          | (go_at_call 38; refine (c1 _).mono ?_; rintro e w' ⟨rfl, rfl⟩)
          | (go_at_call 40; refine (c2 _).mono ?_; rintro e w' ⟨rfl, nd, rfl⟩))
        go_ret2
        exact ⟨rfl, _, rfl⟩
    · have mP : m = (P : Int) := by
        have : 0 ≤ rate * i := Int.mul_nonneg h1 (by omega)
        omega
      have t2 : decide (i < 0) = false := decide_eq_false hi
      obtain ⟨e1, e2⟩ := grown_pl m P q r mP hq hr
      rw [e1, e2]
      clear hP hPm hPl hq hr ha hb hH hL hm mP e1 e2
      go_enter Tryd.func35, Tryd.ntmps35
      go_wp2_with (first
        | (go_at_call 39; first | (refine (s1 _).mono ?_; rintro e w' ⟨rfl, rfl⟩) | (refine (s2 _).mono ?_; rintro e w' ⟨rfl, rfl⟩))
        | (go_at_call 38; refine (c1 _).mono ?_; rintro e w' ⟨rfl, rfl⟩)
        | (go_at_call 40; refine (c2 _).mono ?_; rintro e w' ⟨rfl, nd, rfl⟩))
      go_ret2
      exact ⟨rfl, _, rfl⟩
  exact go _ rfl
end Go.Proofs.YtfjpfllamalfeaaDoor

/- The angle of a term, in radians: bounds; a sum of numbers not below nought. -/
namespace Go.Proofs.YtfjpfllamalfeaaDoor
open Go Ieee
set_option linter.unusedVariables false
variable {A B x y b t : Nat}
theorem signed_nn {s : Bool} {m k : Nat} (h : s = false ∨ m = 0) : 0 ≤ signed s m k := by
  unfold signed
  rw [Nat.shiftLeft_eq]
  rcases h with h | h
  · subst h
    generalize m * 2 ^ k = a
    simp
  · subst h; cases s <;> simp
theorem sum_nn (s u : Bool) (m n p q : Nat) (hb : b ≤ 2 ^ 52) (ht : t ≤ 1900) (h : m * 2 ^ p + n * 2 ^ q ≤ b * 2 ^ t) (hs : s = false ∨ m = 0) (hu : u = false ∨ n = 0) : ∃ d r, Datum.sum (.number s m ((p : Int) - 1074)) (.number u n ((q : Int) - 1074)) = some d ∧ Ieee.double.write d = r ∧ Lb (b * 2 ^ t) r ∧ Nn r := by
  have hmin : min ((p : Int) - 1074) ((q : Int) - 1074) = ((min p q : Nat) : Int) - (1074 : Nat) := by omega
  refine ⟨_, _, rfl, rfl, ?_⟩
  rw [hmin]
  have e1 : ((p : Int) - 1074 - (((min p q : Nat) : Int) - (1074 : Nat))).toNat = p - min p q := by omega
  have e2 : ((q : Int) - 1074 - (((min p q : Nat) : Int) - (1074 : Nat))).toNat = q - min p q := by omega
  rw [e1, e2]
  have t0 : 0 ≤ signed s m (p - min p q) + signed u n (q - min p q) := Int.add_nonneg (signed_nn hs) (signed_nn hu)
  have ab : (signed s m (p - min p q) + signed u n (q - min p q)).natAbs ≤ m * 2 ^ (p - min p q) + n * 2 ^ (q - min p q) := by
    unfold signed
    rw [Nat.shiftLeft_eq, Nat.shiftLeft_eq]
    generalize m * 2 ^ (p - min p q) = a
    generalize n * 2 ^ (q - min p q) = c
    cases s <;> cases u <;> simp <;> omega
  generalize (signed s m (p - min p q) + signed u n (q - min p q)) = T at ab t0
  have hv : T.natAbs * 2 ^ (min p q + 1074) ≤ b * 2 ^ t * 2 ^ 1074 := by
    calc T.natAbs * 2 ^ (min p q + 1074) ≤ (m * 2 ^ (p - min p q) + n * 2 ^ (q - min p q)) * 2 ^ (min p q + 1074) := Nat.mul_le_mul_right _ ab
      _ = (m * 2 ^ p + n * 2 ^ q) * 2 ^ 1074 := by
        rw [Nat.pow_add, ← Nat.mul_assoc, Nat.add_mul, Nat.mul_assoc m, ← Nat.pow_add, Nat.mul_assoc n, ← Nat.pow_add]
        congr 3 <;> congr 1 <;> omega
      _ ≤ b * 2 ^ t * 2 ^ 1074 := Nat.mul_le_mul_right _ h
  obtain ⟨m', p', e3, l3, z3⟩ := near_le (if T = 0 then s && u else decide (T < 0)) T.natAbs (min p q) 1074 b t hb ht hv
  refine ⟨⟨_, m', p', e3, l3⟩, _, m', _, e3, ?_⟩
  by_cases hT : T = 0
  · exact .inr (z3 (by omega))
  · left
    rw [if_neg hT]
    exact decide_eq_false (by omega)
theorem add_nn (hx : Lb A x) (hy : Lb B y) (nx : Nn x) (ny : Nn y) (hb : b ≤ 2 ^ 52) (ht : t ≤ 1900) (h : A + B ≤ b * 2 ^ t) : ∃ r, floatBits .add .f64 x y = some r ∧ Lb (b * 2 ^ t) r ∧ Nn r := by
  obtain ⟨s, m, p, e1, l1⟩ := hx
  obtain ⟨u, n, q, e2, l2⟩ := hy
  obtain ⟨s', m', p', f1, g1⟩ := nx
  obtain ⟨u', n', q', f2, g2⟩ := ny
  rw [e1] at f1
  rw [e2] at f2
  cases f1
  cases f2
  obtain ⟨d, r, f1, f2, f3, f4⟩ := sum_nn s u m n p q hb ht (by omega) g1 g2
  refine ⟨r, ?_, f3, f4⟩
  show Ieee.double.add x y = _
  unfold Format.add
  rw [e1, e2, f1, ← f2]
  rfl
theorem mul_swap (n p q : Nat) : n * p * (1 * q) ≤ n * q * p := by rw [Nat.one_mul, Nat.mul_assoc, Nat.mul_assoc, Nat.mul_comm p]; exact Nat.le_refl _
/-- the steps to the angle in radians -/
theorem partA_any (m r : Int) (m0 : 0 ≤ m) (m1 : m < 1000000000) (r0 : 0 ≤ r) (r1 : r < 86400000000000) : ∃ u a b c x, fQ (floatOfInt .f64 r) fUnit = some u ∧ fA (floatOfInt .f64 m) u = some a ∧ fQ a fTurn = some b ∧ fM b fTwo = some c ∧ fM c fPi = some x ∧ partA m r = some x ∧ Lb (65 * 2 ^ 1071) x ∧ Nn x := by
  obtain ⟨lr, nr⟩ := int_lb1 r 86400000000000 (by decide) (by omega)
  obtain ⟨lm, nm⟩ := int_lb1 m 1000000000 (by decide) (by omega)
  have kU : Gb (86400000000000 * 2 ^ 1074) fUnit := gb_of (by decide +kernel)
  have nU : Nn fUnit := nn_of (by decide +kernel)
  have kT : Gb (1000000000 * 2 ^ 1074) fTurn := gb_of (by decide +kernel)
  have nT : Nn fTurn := nn_of (by decide +kernel)
  have k2 : Lb (2 * 2 ^ 1074) fTwo := lb_of (by decide +kernel)
  have n2 : Nn fTwo := nn_of (by decide +kernel)
  have kP : Lb (13 * 2 ^ 1072) fPi := lb_of (by decide +kernel)
  have nP : Nn fPi := nn_of (by decide +kernel)
  obtain ⟨u, gu, lu, nu⟩ := quo_lb (b := 9) (t := 1071) lr kU (by decide) (by decide) (by decide +kernel)
  obtain ⟨a, ga, la, na⟩ := add_nn (b := 1000000002) (t := 1074) lm lu (nm m0) (nu (nr r0) nU) (by decide) (by decide) (by decide +kernel)
  obtain ⟨b, gb, lb, nb⟩ := quo_lb (b := 73729) (t := 1058) la kT (by decide) (by decide) (by decide +kernel)
  obtain ⟨c, gc, lc, nc⟩ := mul_lb (b := 73729) (t := 1059) lb k2 (by decide) (by decide) (by decide +kernel)
  obtain ⟨x, gx, lx, nx⟩ := mul_lb (b := 65) (t := 1071) lc kP (by decide) (by decide) (by decide +kernel)
  refine ⟨u, a, b, c, x, gu, ga, gb, gc, gx, ?_, lx, nx (nc (nb na nT) n2) nP⟩
  unfold partA
  rw [show fQ (floatOfInt .f64 r) fUnit = _ from gu, Option.bind_some, show fA (floatOfInt .f64 m) u = _ from ga, Option.bind_some, show fQ a fTurn = _ from gb, Option.bind_some, show fM b fTwo = _ from gc, Option.bind_some]
  exact gx
end Go.Proofs.YtfjpfllamalfeaaDoor

/- series.Part: the value of a term at an instant. -/
namespace Go.Proofs.YtfjpfllamalfeaaDoor
open Go.RowKit
set_option linter.unusedVariables false
set_option linter.unusedSimpArgs false
/-- a term of a sum whose sines can be reckoned -/
structure TermOk (t : TermR) : Prop where
  a : t.amp.natAbs ≤ 33554432
  p0 : 0 ≤ t.ph
  p1 : t.ph < 1000000000
  r0 : 0 ≤ t.rate
  r1 : t.rate ≤ 4000000000000000
abbrev termC (t : TermR) : Array Value := #[.int .i64 t.amp, .int .i64 t.ph, .int .i64 t.rate]
set_option maxHeartbeats 1000000 in
set_option maxRecDepth 100000 in
theorem part_any (t : TermR) (i : Int) (ok : TermOk t) (i0 : -300000000000000 ≤ i) (i1 : i ≤ 300000000000000) (w : World) (hT : TrigT w) : ∃ r, partF t i = some r ∧ Lb (t.amp.natAbs * 2 ^ 1098) r ∧ Calls Tryd.prog 36 #[.agg (termC t), .int .i64 i] w fun e w' => e = .returned (.float .f64 r) ∧ Below w.heap.size w w' := by
  have HB := Lib.hid (below_alloc2 w (Obj.cells (termC t) 53) (Obj.cells (termC t) 53))
  have q0 : -13888888888888890 ≤ t.rate * i / 86400000000000 ∧ t.rate * i / 86400000000000 ≤ 13888888888888890 := by
    have a : t.rate * i ≤ 4000000000000000 * 300000000000000 := by
      have := Int.mul_le_mul_of_nonneg_left i1 ok.r0
      have := Int.mul_le_mul_of_nonneg_right ok.r1 (show (0 : Int) ≤ 300000000000000 by decide)
      omega
    have b : -(4000000000000000 * 300000000000000) ≤ t.rate * i := by
      have := Int.mul_le_mul_of_nonneg_left i0 ok.r0
      have := Int.mul_le_mul_of_nonneg_right ok.r1 (show (0 : Int) ≤ 300000000000000 by decide)
      omega
    omega
  have r0 : 0 ≤ t.rate * i % 86400000000000 := Int.emod_nonneg _ (by decide)
  have r1 : t.rate * i % 86400000000000 < 86400000000000 := Int.emod_lt_of_pos _ (by decide)
  have G := Lib.hid (fun w => grown_any t.rate i w ok.r0 ok.r1 i0 i1)
  obtain ⟨q, hq⟩ : ∃ q, q = t.rate * i / 86400000000000 := ⟨_, rfl⟩
  obtain ⟨r, hr⟩ : ∃ r, r = t.rate * i % 86400000000000 := ⟨_, rfl⟩
  rw [← hq] at q0
  rw [← hr] at r0 r1
  have G' := Lib.hid (fun w => (hq ▸ hr ▸ G.out w : Calls Tryd.prog 35 #[.int .i64 t.rate, .int .i64 i] w fun e w' => e = .returned (.tuple #[.int .i64 q, .int .i64 r]) ∧ ∃ n, w' = w.drewN n))
  have p0 := ok.p0
  have p1 := ok.p1
  obtain ⟨m, hm⟩ : ∃ m, m = (t.ph + q) % 1000000000 := ⟨_, rfl⟩
  have M := Lib.hid (fun w => (hm ▸ mod_pos (t.ph + q) 1000000000 w (by omega) (by omega) (by decide) (by decide) : Calls Tryd.prog 21 #[.int .i64 (t.ph + q), .int .i64 1000000000] w fun e w' => e = .returned (.int .i64 m) ∧ ∃ n, w' = w.drewN n))
  have m0 : 0 ≤ m := by omega
  have m1 : m < 1000000000 := by omega
  obtain ⟨u, a, b, c, x, gu, ga, gb, gc, gx, gP, lx, nx⟩ := partA_any m r m0 m1 r0 r1
  obtain ⟨s, gs, ls, hs⟩ := sin_any lx nx w hT
  have hSin := Lib.hid (fun w (hT : TrigT w) => (sin_any lx nx w hT))
  obtain ⟨la, _⟩ := int_lb1 t.amp t.amp.natAbs (Nat.le_trans ok.a (by decide)) (Nat.le_refl _)
  have hM := mul_swap t.amp.natAbs (2 ^ 1074) (2 ^ 1098)
  obtain ⟨z, gz, lz, _⟩ := mul_lb (b := t.amp.natAbs) (t := 1098) la ls (Nat.le_trans ok.a (by decide)) (by decide) hM
  refine ⟨z, ?_, lz, ?_⟩
  · unfold partF
    rw [← hr, ← hq, ← hm, gP, Option.bind_some, gs, Option.bind_some]
    exact gz
  have HS := Lib.hid (fun w (hT : TrigT w) => (by
    obtain ⟨s', gs', _, hs'⟩ := sin_any lx nx w hT
    rw [gs] at gs'
    cases gs'
    exact hs' : Calls Tryd.prog 41 #[.float .f64 x] w fun e w' => e = .returned (.float .f64 s) ∧ w' = w))
  have HW := Lib.hid (Box.new w 53 (termC t))
  have HTT := Lib.hid (hT.next (Below.alloc (Below.refl _ w) (Nat.le_refl _) (Obj.cells (termC t) 53)))
  have HB1 := Lib.hid (Below.alloc (Below.refl w.heap.size w) (Nat.le_refl _) (Obj.cells (termC t) 53))
  clear hs hSin lz ls lx nx la gs gP hm hq hr G p0 p1 m0 m1 r0 r1 hT HB
  have f1 := run_fl .quo gu
  have f2 := run_fl .add ga
  have f3 := run_fl .quo gb
  have f4 := run_fl .mul gc
  have f5 := run_fl .mul gx
  have f6 := run_fl .mul gz
  have f7 := fun w => run_i2f (q := .i64) m (d := 3) (by rw [Tryd.underlying3]; rfl) w
  have f8 := fun w => run_i2f (q := .i64) r (d := 3) (by rw [Tryd.underlying3]; rfl) w
  have f9 := fun w => run_i2f (q := .i64) t.amp (d := 3) (by rw [Tryd.underlying3]; rfl) w
  clear gu ga gb gc gx gz
  have a0 := ok.p0
  have a1 := ok.p1
  go_enter Tryd.func36, Tryd.ntmps36
  go_upto_region 3 with first
    | (go_at_call 35; refine (G'.out _).mono ?_; rintro e w' ⟨rfl, n1, rfl⟩)
    | (go_at_call 21; refine (M.out _).mono ?_; rintro e w' ⟨rfl, n2, rfl⟩)
    | (simp only [f1, f2, f7, f8])
  have HX1 := Lib.hid (HW.out.below (below_drewN _ (n1 + n2)))
  have HT1 : Hid (TrigT ((w.alloc (Obj.cells (termC t) 53)).drewN (n1 + n2))) := HTT.out.next (below_drewN _ (n1 + n2))
  have HB2 : Hid (Below w.heap.size w ((w.alloc (Obj.cells (termC t) 53)).drewN (n1 + n2))) := below_drew HB1.out (n1 + n2)
  generalize (w.alloc (Obj.cells (termC t) 53)).drewN (n1 + n2) = W0 at *
  generalize hg : w.heap.size = g at *
  have HG := Lib.hid hg
  clear hg
  have z0 : ∀ w, Below W0.heap.size W0 w → w.cell? ⟨g, 0, none⟩ = some (.int .i64 t.amp) := fun w hb => (HX1.out.below hb).cell 0
  refine flow_begin (tellOf [(7, det (.float .f64 s))]) (by kernel_rfl) (by kernel_rfl) ?_
  repeat (first | (refine flow_val (v := ?_) (by rfl) (by rfl) (fun w hb => ?_) ?_; rotate_left; (· ((go_simp) <;> ((repeat' apply And.intro) <;> with_reducible rfl))); try simp only [Act.put, List.setIfInBounds_toArray, List.set_cons_zero, List.set_cons_succ, Nat.reduceAdd]) | (refine flow_skip (by rfl) (by rfl) ?_; try simp only [Act.put, List.setIfInBounds_toArray, List.set_cons_zero, List.set_cons_succ, Nat.reduceAdd]))
  refine flow_call (f := ?_) (args := ?_) [] (by kernel_rfl) (by rfl) (by rfl) (fun w hb => ?_) (fun w hb hu => ?_) ?_; rotate_left 2; (· ((go_simp) <;> ((repeat' apply And.intro) <;> with_reducible rfl)))
  · exact (HS.out w (HT1.out.next hb)).mono fun e w' ⟨a, b⟩ => ⟨a, b ▸ Below.refl _ _⟩
  try simp only [Act.put, List.setIfInBounds_toArray, List.set_cons_zero, List.set_cons_succ, Nat.reduceAdd]
  repeat (first | (refine flow_val (v := ?_) (by rfl) (by rfl) (fun w hb => ?_) ?_; rotate_left; (· ((go_simp) <;> ((repeat' apply And.intro) <;> with_reducible rfl))); try simp only [Act.put, List.setIfInBounds_toArray, List.set_cons_zero, List.set_cons_succ, Nat.reduceAdd]) | (refine flow_skip (by rfl) (by rfl) ?_; try simp only [Act.put, List.setIfInBounds_toArray, List.set_cons_zero, List.set_cons_succ, Nat.reduceAdd]))
  refine flow_nil fun w1 hb1 _ => ?_
  have HB3 := Lib.hid (HB2.out.trans (hb1.mono (by have := HX1.out.lt; omega)))
  clear hb1 z0
  go_wp2_with fail
  go_ret
  exact ⟨rfl, by rw [HG.out]; exact HB3.out⟩
end Go.Proofs.YtfjpfllamalfeaaDoor

/- series.value: the sum of the terms of a sum. -/
namespace Go.Proofs.YtfjpfllamalfeaaDoor
open Go.RowKit
set_option linter.unusedVariables false
set_option linter.unusedSimpArgs false
abbrev termL (t : TermR) : List Value := [.int .i64 t.amp, .int .i64 t.ph, .int .i64 t.rate]
theorem termL_len (t : TermR) : (termL t).length = 3 := rfl
abbrev term0 : TermR := ⟨0, 0, 0⟩
/-- the terms of a sum in memory, at the beginning of a block -/
structure TmIn (w : World) (b : Nat) (l : List TermR) : Prop where
  lt : b < w.heap.size
  cs : ∀ j v, (l.flatMap termL)[j]? = some v → w.cell? ⟨b, 0 + j, none⟩ = some v
theorem TmIn.next {w w' : World} {b : Nat} {l : List TermR} (h : TmIn w b l) (hb : Below w.heap.size w w') : TmIn w' b l :=
  ⟨Nat.lt_of_lt_of_le h.lt hb.size, fun j v hv => (hb.cell (p := ⟨b, 0 + j, none⟩) h.lt).trans (h.cs j v hv)⟩
theorem TmIn.cells {w : World} {b : Nat} {l : List TermR} (h : TmIn w b l) (k : Nat) (hk : k < l.length) : w.cell? ⟨b, k * 3, none⟩ = some (.int .i64 (l.getD k term0).amp) ∧ w.cell? ⟨b, k * 3 + 1, none⟩ = some (.int .i64 (l.getD k term0).ph) ∧ w.cell? ⟨b, k * 3 + 2, none⟩ = some (.int .i64 (l.getD k term0).rate) := by
  have c0 := flat_cell termL_len term0 h.cs k 0 hk (by omega) _ rfl
  have c1 := flat_cell termL_len term0 h.cs k 1 hk (by omega) _ rfl
  have c2 := flat_cell termL_len term0 h.cs k 2 hk (by omega) _ rfl
  rw [Nat.zero_add, Nat.add_zero] at c0
  rw [Nat.zero_add] at c1 c2
  exact ⟨c0, c1, c2⟩
def ampS (l : List TermR) : Nat := (l.map fun t => t.amp.natAbs).sum
structure SumOk (s : SumR) : Prop where
  m0 : -1000000000 ≤ s.mean
  m1 : s.mean ≤ 1000000000
  r0 : 0 ≤ s.rest
  r1 : s.rest ≤ 100000000
  q0 : 0 ≤ s.mrate
  q1 : s.mrate ≤ 4000000000000000
  n0 : 1 ≤ s.ts.length
  n1 : s.ts.length ≤ 40
  ok : ∀ t ∈ s.ts, TermOk t
  am : ampS s.ts ≤ 33554432
abbrev SumR.cells (s : SumR) (b c : Nat) : Array Value := #[.int .i64 s.mean, .int .i64 s.mrate, .slice (some ⟨b, 0, none⟩) s.ts.length c, .int .i64 s.rest]
theorem sum_any (i : Int) (i0 : -300000000000000 ≤ i) (i1 : i ≤ 300000000000000) (w : World) (hT : TrigT w) : ∀ (l : List TermR) (a v : Nat), (∀ t ∈ l, TermOk t) → Lb (a * 2 ^ 1098) v → a + ampS l ≤ 33554432 → ∃ V, sumF i l v = some V ∧ Lb ((a + ampS l) * 2 ^ 1098) V := by
  intro l
  induction l with
  | nil => intro a v _ h _; exact ⟨v, rfl, h⟩
  | cons t r ih =>
    intro a v ok h ha
    have e : ampS (t :: r) = t.amp.natAbs + ampS r := by unfold ampS; simp
    rw [e] at ha ⊢
    obtain ⟨p, gp, lp, _⟩ := part_any t i (ok t (by simp)) i0 i1 w hT
    obtain ⟨v', gv, lv⟩ := add_lb (b := a + t.amp.natAbs) (t := 1098) h lp (Nat.le_trans (show _ ≤ 33554432 by omega) (by decide)) (by decide) (Nat.le_of_eq (Nat.add_mul _ _ _).symm)
    obtain ⟨V, g, lV⟩ := ih (a + t.amp.natAbs) v' (fun x hx => ok x (by simp [hx])) lv (by omega)
    refine ⟨V, ?_, by rw [← Nat.add_assoc]; exact lV⟩
    unfold sumF
    rw [gp, Option.bind_some, show fA v p = _ from gv, Option.bind_some, g]
theorem sum_step {i : Int} {l : List TermR} {k : Nat} {v V : Nat} (hk : k < l.length) (h : sumF i (l.drop k) v = some V) : ∃ p v', partF (l.getD k term0) i = some p ∧ floatBits .add .f64 v p = some v' ∧ sumF i (l.drop (k + 1)) v' = some V := by
  rw [List.drop_eq_getElem_cons hk] at h
  unfold sumF at h
  have e : l.getD k term0 = l[k] := by simp [List.getD, List.getElem?_eq_getElem hk]
  rw [e]
  cases hp : partF l[k] i with
  | none => rw [hp] at h; cases h
  | some p =>
    rw [hp, Option.bind_some] at h
    cases hv : fA v p with
    | none => rw [hv] at h; cases h
    | some v' => rw [hv, Option.bind_some] at h; exact ⟨p, v', rfl, hv, h⟩
set_option maxHeartbeats 1000000 in
set_option maxRecDepth 100000 in
theorem value_any (s : SumR) (i : Int) (ok : SumOk s) (i0 : -300000000000000 ≤ i) (i1 : i ≤ 300000000000000) (b c : Nat) (hc : s.ts.length ≤ c) (w : World) (hT : TrigT w) (hM : TmIn w b s.ts) : ∃ x y, valueF s i = some (x, y) ∧ (-1125903006842624 ≤ x ∧ x ≤ 1125903006842624) ∧ (-1125903006842624 ≤ y ∧ y ≤ 1125903006842624) ∧ Calls Tryd.prog 34 #[.agg (s.cells b c), .int .i64 i] w fun e w' => e = .returned (.agg #[.int .i64 x, .int .i64 y]) ∧ Below w.heap.size w w' := by
  obtain ⟨V, gV, lV⟩ := sum_any i i0 i1 w hT s.ts 0 0 ok.ok (lb_of (by decide +kernel)) (by have := ok.am; omega)
  have lV' : Lb (1 * 2 ^ 1123) V := lV.mono (Nat.le_trans (Nat.mul_le_mul_right _ (show 0 + ampS s.ts ≤ 33554432 by have := ok.am; omega)) (by decide +kernel))
  obtain ⟨lo, hi, ga, bl, bh, _⟩ := around_any lV' w
  have m0 := ok.m0
  have m1 := ok.m1
  have r0 := ok.r0
  have r1 := ok.r1
  have n0 := ok.n0
  have n1 := ok.n1
  refine ⟨s.mean + lo - s.rest, s.mean + hi + s.rest, ?_, by omega, by omega, ?_⟩
  · unfold valueF
    rw [gV, Option.bind_some, ga, Option.bind_some]
  have HA := Lib.hid (fun w => (by
    obtain ⟨lo', hi', ga', _, _, h⟩ := around_any lV' w
    rw [ga] at ga'
    cases ga'
    exact h : Calls Tryd.prog 37 #[.float .f64 V] w fun e w' => e = .returned (.agg #[.int .i64 lo, .int .i64 hi]) ∧ Below w.heap.size w w'))
  have HP := Lib.hid (fun (t : TermR) (ht : t ∈ s.ts) (p : Nat) (hp : partF t i = some p) w (hT : TrigT w) => (by
    obtain ⟨p', gp, _, h⟩ := part_any t i (ok.ok t ht) i0 i1 w hT
    rw [hp] at gp
    cases gp
    exact h : Calls Tryd.prog 36 #[.agg (termC t), .int .i64 i] w fun e w' => e = .returned (.float .f64 p) ∧ Below w.heap.size w w'))
  have HT := Lib.hid hT
  have HM := Lib.hid hM
  have HV := Lib.hid gV
  clear lV lV' ga gV hT hM
  have t1 : decide ((0 : Int) < (s.ts.length : Int)) = true := decide_eq_true (by omega)
  have t1' : decide (0 < s.ts.length) = true := decide_eq_true (by omega)
  go_enter Tryd.func34, Tryd.ntmps34
  go_wp2_with fail
  clear t1 t1'
  have HX0 := Lib.hid (((Box.new w 47 (s.cells b c)).alloc (Obj.cells #[.int .i64 0, .int .i64 0] 27)).alloc (Obj.cells #[.int .i64 s.mean, .int .i64 s.mean] 27))
  have HR0 := Lib.hid ((Box.new (w.alloc (Obj.cells (s.cells b c) 47)) 27 #[.int .i64 0, .int .i64 0]).alloc (Obj.cells #[.int .i64 s.mean, .int .i64 s.mean] 27))
  have HO0 := Lib.hid (Box.new ((w.alloc (Obj.cells (s.cells b c) 47)).alloc (Obj.cells #[.int .i64 0, .int .i64 0] 27)) 27 #[.int .i64 s.mean, .int .i64 s.mean])
  have HB0 := Lib.hid (below_alloc3 w (Obj.cells (s.cells b c) 47) (Obj.cells #[.int .i64 0, .int .i64 0] 27) (Obj.cells #[.int .i64 s.mean, .int .i64 s.mean] 27))
  simp only [World.size_alloc] at HR0 HO0
  have HT0 := Lib.hid (HT.out.next HB0.out)
  have HM0 := Lib.hid (HM.out.next HB0.out)
  generalize ((w.alloc (Obj.cells (s.cells b c) 47)).alloc (Obj.cells #[.int .i64 0, .int .i64 0] 27)).alloc (Obj.cells #[.int .i64 s.mean, .int .i64 s.mean] 27) = W0 at *
  generalize hg : w.heap.size = g at *
  have HG := Lib.hid hg
  clear hg HT HM
  go_loopw [6, 22] (fun v iv wr => ∃ k u : Nat, k ≤ s.ts.length ∧ iv = .int .i64 (k : Int) ∧ v = .float .f64 u ∧ Hid (sumF i (s.ts.drop k) u = some V) ∧ Hid (Below W0.heap.size W0 wr)) (fun _ iv _ => s.ts.length - (intOf iv).toNat)
  case atStart => exact ⟨0, 0, by omega, rfl, rfl, HV, Below.refl _ _⟩
  case round =>
    obtain ⟨k, u, hk, rfl, rfl, HS, HBr⟩ := hrel
    by_cases hlt : k < s.ts.length
    · obtain ⟨p, v', gp, gv, HS'⟩ := sum_step hlt HS.out
      have HS1 := Lib.hid HS'
      have HMr := HM0.out.next HBr.out
      have HTr := HT0.out.next HBr.out
      obtain ⟨c0, c1, c2⟩ := HMr.cells k hlt
      have HCl := Lib.hid (HP.out (s.ts.getD k term0) (getD_mem _ _ _ hlt) p gp)
      have hbl := HMr.lt
      have fa := run_fl .add gv
      have HTn := Lib.hid (HTr.next (below_alloc1 wr (Obj.cells (termC (s.ts.getD k term0)) 53)))
      have HBn := Lib.hid (below_then HBr.out (below_alloc1 wr (Obj.cells (termC (s.ts.getD k term0)) 53)))
      clear HMr HTr gp gv HS'
      generalize s.ts.getD k term0 = y at *
      go_wp2_with first
        | (go_at_call 36; refine (HCl.out _ HTn.out).mono ?_; rintro e w' ⟨rfl, hb'⟩)
        | (simp only [fa])
      go_roundw
      case rel => exact ⟨k + 1, v', by omega, by go_num, rfl, HS1, below_then HBn.out hb'⟩
      case measure => simp [intOf]; omega
    · obtain rfl : k = s.ts.length := by omega
      have hV : V = u := by
        have := HS.out
        rw [List.drop_length] at this
        exact (Option.some.inj this).symm
      have HX1 := Lib.hid (HX0.out.below HBr.out)
      have HR1 := Lib.hid (HR0.out.below HBr.out)
      have HO1 := Lib.hid (HO0.out.below HBr.out)
      have HB1 := Lib.hid (HB0.out.trans (HBr.out.mono (by have := HX0.out.lt; omega)))
      rw [hV] at HA
      clear HS HBr HX0 HR0 HO0 HB0 HM0 HT0 HP HV hV
      have b1 := HX1.out.lt
      have b2 := HR1.out.lt
      have b3 := HO1.out.lt
      go_upto_region 10 with (go_at_call 37; refine (HA.out _).mono ?_; rintro e w2 ⟨rfl, hb2⟩)
      have hb3 := below_then hb2 (below_alloc1 w2 (Obj.cells #[.int .i64 lo, .int .i64 hi] 27))
      have HX2 := Lib.hid (HX1.out.below hb3)
      have HR2 := Lib.hid (HR1.out.below hb3)
      have HO2 := Lib.hid (HO1.out.below hb3)
      have HA2 := Lib.hid (Box.new w2 27 #[.int .i64 lo, .int .i64 hi])
      have HB2 := Lib.hid (HB1.out.trans (hb3.mono (by omega)))
      have h2 := hb2.size
      clear hb2 hb3 HX1 HR1 HO1 HB1 HA
      generalize w2.alloc (Obj.cells #[.int .i64 lo, .int .i64 hi] 27) = W2 at *
      generalize hga : w2.heap.size = ga at *
      clear hga
      have x0 : W2.cell? ⟨g, 0, none⟩ = some (.int .i64 s.mean) := HX2.out.cell 0
      have x3 : W2.cell? ⟨g, 3, none⟩ = some (.int .i64 s.rest) := HX2.out.cell 3
      have z0 : W2.cell? ⟨ga, 0, none⟩ = some (.int .i64 lo) := HA2.out.cell 0
      have z1 : W2.cell? ⟨ga, 1, none⟩ = some (.int .i64 hi) := HA2.out.cell 1
      have q0 : W2.frozen? ⟨g + 1 + 1, 0, none⟩ = false := HO2.out.free 0
      have q1 : W2.frozen? ⟨g + 1 + 1, 1, none⟩ = false := HO2.out.free 1
      have y0 : W2.cell? ⟨g + 1 + 1, 0, none⟩ = some (.int .i64 s.mean) := HO2.out.cell 0
      have y1 : W2.cell? ⟨g + 1 + 1, 1, none⟩ = some (.int .i64 s.mean) := HO2.out.cell 1
      go_upto_region 11 with fail
      clear x0 x3 z0 z1 q0 q1 y0 y1 HA2
      have HX3 := Lib.hid ((HX2.out.far (p := ⟨g + 1 + 1, 0, none⟩) (by show g ≠ g + 1 + 1; omega) (.int .i64 (s.mean + lo))).far (p := ⟨g + 1 + 1, 1, none⟩) (by show g ≠ g + 1 + 1; omega) (.int .i64 (s.mean + hi)))
      have HR3 := Lib.hid ((HR2.out.far (p := ⟨g + 1 + 1, 0, none⟩) (by show g + 1 ≠ g + 1 + 1; omega) (.int .i64 (s.mean + lo))).far (p := ⟨g + 1 + 1, 1, none⟩) (by show g + 1 ≠ g + 1 + 1; omega) (.int .i64 (s.mean + hi)))
      have HO3 := Lib.hid ((HO2.out.set_ 0 (.int .i64 (s.mean + lo))).set_ 1 (.int .i64 (s.mean + hi)))
      have HB3 := Lib.hid ((HB2.out.setCell (p := ⟨g + 1 + 1, 0, none⟩) (by show g ≤ g + 1 + 1; omega) (.int .i64 (s.mean + lo))).setCell (p := ⟨g + 1 + 1, 1, none⟩) (by show g ≤ g + 1 + 1; omega) (.int .i64 (s.mean + hi)))
      clear HX2 HR2 HO2 HB2
      generalize (W2.setCell ⟨g + 1 + 1, 0, none⟩ (.int .i64 (s.mean + lo))).setCell ⟨g + 1 + 1, 1, none⟩ (.int .i64 (s.mean + hi)) = W3 at *
      have x3 : W3.cell? ⟨g, 3, none⟩ = some (.int .i64 s.rest) := HX3.out.cell 3
      have y0 : W3.cell? ⟨g + 1 + 1, 0, none⟩ = some (.int .i64 (s.mean + lo)) := HO3.out.cell 0
      have y1 : W3.cell? ⟨g + 1 + 1, 1, none⟩ = some (.int .i64 (s.mean + hi)) := HO3.out.cell 1
      have q0 : W3.frozen? ⟨g + 1, 0, none⟩ = false := HR3.out.free 0
      have q1 : W3.frozen? ⟨g + 1, 1, none⟩ = false := HR3.out.free 1
      have u0 : W3.cell? ⟨g + 1, 0, none⟩ = some (.int .i64 0) := HR3.out.cell 0
      have u1 : W3.cell? ⟨g + 1, 1, none⟩ = some (.int .i64 0) := HR3.out.cell 1
      go_wp2_with fail
      have HR4 := Lib.hid ((HR3.out.set_ 0 (.int .i64 (s.mean + lo - s.rest))).set_ 1 (.int .i64 (s.mean + hi + s.rest)))
      have HB4 := Lib.hid ((HB3.out.setCell (p := ⟨g + 1, 0, none⟩) (by show g ≤ g + 1; omega) (.int .i64 (s.mean + lo - s.rest))).setCell (p := ⟨g + 1, 1, none⟩) (by show g ≤ g + 1; omega) (.int .i64 (s.mean + hi + s.rest)))
      clear HR3 HB3 HX3 HO3 x3 y0 y1 q0 q1 u0 u1
      generalize (W3.setCell ⟨g + 1, 0, none⟩ (.int .i64 (s.mean + lo - s.rest))).setCell ⟨g + 1, 1, none⟩ (.int .i64 (s.mean + hi + s.rest)) = W4 at *
      have v0 : W4.cell? ⟨g + 1, 0, none⟩ = some (.int .i64 (s.mean + lo - s.rest)) := HR4.out.cell 0
      have v1 : W4.cell? ⟨g + 1, 1, none⟩ = some (.int .i64 (s.mean + hi + s.rest)) := HR4.out.cell 1
      refine bodyPost_ret (v := .agg #[.int .i64 (s.mean + lo - s.rest), .int .i64 (s.mean + hi + s.rest)]) (by simp [results, Tryd.results34, go_sem, v0, v1]) rfl ⟨rfl, ?_⟩
      rw [HG.out]
      exact HB4.out
end Go.Proofs.YtfjpfllamalfeaaDoor

/- trig.Norm, Minus, Less; series.Check. -/
namespace Go.Proofs.YtfjpfllamalfeaaDoor
open Go.RowKit
set_option linter.unusedVariables false
set_option linter.unusedSimpArgs false
abbrev spanC (x : Int × Int) : Array Value := #[.int .i64 x.1, .int .i64 x.2]
set_option maxRecDepth 100000 in
theorem norm_any (a b : Int) (w : World) (h1 : -400000000000000000 ≤ a) (h2 : a ≤ 400000000000000000) (h3 : -400000000000000000 ≤ b) (h4 : b ≤ 400000000000000000) : Calls Tryd.prog 28 #[.agg #[.int .i64 a, .int .i64 b]] w fun e w' => e = .returned (.agg (spanC (normI a b))) ∧ Below w.heap.size w w' := by
  have HM := Lib.hid (fun w => mod_pos a 1000000000 w (by omega) (by omega) (by decide) (by decide))
  have m0 : 0 ≤ a % 1000000000 := by omega
  have m1 : a % 1000000000 < 1000000000 := by omega
  have HB := Lib.hid (below_alloc2 w (Obj.cells #[.int .i64 a, .int .i64 b] 27) (Obj.cells #[.int .i64 0, .int .i64 0] 27))
  have HX := Lib.hid ((Box.new w 27 #[.int .i64 a, .int .i64 b]).alloc (Obj.cells #[.int .i64 0, .int .i64 0] 27))
  have HR := Lib.hid (Box.new (w.alloc (Obj.cells #[.int .i64 a, .int .i64 b] 27)) 27 #[.int .i64 0, .int .i64 0])
  simp only [World.size_alloc] at HR
  unfold normI spanC
  dsimp only
  generalize a % 1000000000 = m at *
  go_enter Tryd.func28, Tryd.ntmps28
  go_upto_region 2 with (go_at_call 21; refine (HM.out _).mono ?_; rintro e w' ⟨rfl, n1, rfl⟩)
  have HX1 := Lib.hid (HX.out.below (below_drewN _ n1))
  have HR1 := Lib.hid (HR.out.below (below_drewN _ n1))
  have HB1 := Lib.hid (below_drew HB.out n1)
  clear HX HR HB
  generalize hW : ((w.alloc (Obj.cells #[.int .i64 a, .int .i64 b] 27)).alloc (Obj.cells #[.int .i64 0, .int .i64 0] 27)).drewN n1 = W1 at *
  clear hW
  generalize hg : w.heap.size = g at *
  have HG := Lib.hid hg
  clear hg
  have x0 : W1.cell? ⟨g, 0, none⟩ = some (.int .i64 a) := HX1.out.cell 0
  have x1 : W1.cell? ⟨g, 1, none⟩ = some (.int .i64 b) := HX1.out.cell 1
  have q0 : W1.frozen? ⟨g + 1, 0, none⟩ = false := HR1.out.free 0
  have q1 : W1.frozen? ⟨g + 1, 1, none⟩ = false := HR1.out.free 1
  have u0 : W1.cell? ⟨g + 1, 0, none⟩ = some (.int .i64 0) := HR1.out.cell 0
  have u1 : W1.cell? ⟨g + 1, 1, none⟩ = some (.int .i64 0) := HR1.out.cell 1
  go_wp2_with fail
  have HR4 := Lib.hid ((HR1.out.set_ 0 (.int .i64 m)).set_ 1 (.int .i64 (m + b - a)))
  have HB4 := Lib.hid ((HB1.out.setCell (p := ⟨g + 1, 0, none⟩) (by show g ≤ g + 1; omega) (.int .i64 m)).setCell (p := ⟨g + 1, 1, none⟩) (by show g ≤ g + 1; omega) (.int .i64 (m + b - a)))
  clear HR1 HB1 HX1 x0 x1 q0 q1 u0 u1
  generalize (W1.setCell ⟨g + 1, 0, none⟩ (.int .i64 m)).setCell ⟨g + 1, 1, none⟩ (.int .i64 (m + b - a)) = W4 at *
  have v0 : W4.cell? ⟨g + 1, 0, none⟩ = some (.int .i64 m) := HR4.out.cell 0
  have v1 : W4.cell? ⟨g + 1, 1, none⟩ = some (.int .i64 (m + b - a)) := HR4.out.cell 1
  refine bodyPost_ret (v := .agg #[.int .i64 m, .int .i64 (m + b - a)]) (by simp [results, Tryd.results28, go_sem, v0, v1]) rfl ⟨rfl, ?_⟩
  rw [HG.out]
  exact HB4.out
set_option maxRecDepth 100000 in
theorem minus_any (a b c d : Int) (w : World) (h1 : -100000000000000000 ≤ a) (h2 : a ≤ 100000000000000000) (h3 : -100000000000000000 ≤ b) (h4 : b ≤ 100000000000000000) (h5 : -100000000000000000 ≤ c) (h6 : c ≤ 100000000000000000) (h7 : -100000000000000000 ≤ d) (h8 : d ≤ 100000000000000000) : Calls Tryd.prog 29 #[.agg #[.int .i64 a, .int .i64 b], .agg #[.int .i64 c, .int .i64 d]] w fun e w' => e = .returned (.agg #[.int .i64 (a - d), .int .i64 (b - c)]) ∧ Below w.heap.size w w' := by
  have HB := Lib.hid (below_alloc3 w (Obj.cells #[.int .i64 a, .int .i64 b] 27) (Obj.cells #[.int .i64 c, .int .i64 d] 27) (Obj.cells #[.int .i64 0, .int .i64 0] 27))
  have HX := Lib.hid (((Box.new w 27 #[.int .i64 a, .int .i64 b]).alloc (Obj.cells #[.int .i64 c, .int .i64 d] 27)).alloc (Obj.cells #[.int .i64 0, .int .i64 0] 27))
  have HY := Lib.hid ((Box.new (w.alloc (Obj.cells #[.int .i64 a, .int .i64 b] 27)) 27 #[.int .i64 c, .int .i64 d]).alloc (Obj.cells #[.int .i64 0, .int .i64 0] 27))
  have HR := Lib.hid (Box.new ((w.alloc (Obj.cells #[.int .i64 a, .int .i64 b] 27)).alloc (Obj.cells #[.int .i64 c, .int .i64 d] 27)) 27 #[.int .i64 0, .int .i64 0])
  simp only [World.size_alloc] at HR HY
  go_enter Tryd.func29, Tryd.ntmps29
  go_upto_region 1 with fail
  generalize ((w.alloc (Obj.cells #[.int .i64 a, .int .i64 b] 27)).alloc (Obj.cells #[.int .i64 c, .int .i64 d] 27)).alloc (Obj.cells #[.int .i64 0, .int .i64 0] 27) = W1 at *
  generalize hg : w.heap.size = g at *
  have HG := Lib.hid hg
  clear hg
  have x0 : W1.cell? ⟨g, 0, none⟩ = some (.int .i64 a) := HX.out.cell 0
  have x1 : W1.cell? ⟨g, 1, none⟩ = some (.int .i64 b) := HX.out.cell 1
  have y0 : W1.cell? ⟨g + 1, 0, none⟩ = some (.int .i64 c) := HY.out.cell 0
  have y1 : W1.cell? ⟨g + 1, 1, none⟩ = some (.int .i64 d) := HY.out.cell 1
  have q0 : W1.frozen? ⟨g + 1 + 1, 0, none⟩ = false := HR.out.free 0
  have q1 : W1.frozen? ⟨g + 1 + 1, 1, none⟩ = false := HR.out.free 1
  have u0 : W1.cell? ⟨g + 1 + 1, 0, none⟩ = some (.int .i64 0) := HR.out.cell 0
  have u1 : W1.cell? ⟨g + 1 + 1, 1, none⟩ = some (.int .i64 0) := HR.out.cell 1
  go_wp2_with fail
  have HR4 := Lib.hid ((HR.out.set_ 0 (.int .i64 (a - d))).set_ 1 (.int .i64 (b - c)))
  have HB4 := Lib.hid ((HB.out.setCell (p := ⟨g + 1 + 1, 0, none⟩) (by show g ≤ g + 1 + 1; omega) (.int .i64 (a - d))).setCell (p := ⟨g + 1 + 1, 1, none⟩) (by show g ≤ g + 1 + 1; omega) (.int .i64 (b - c)))
  clear HR HB HX HY x0 x1 y0 y1 q0 q1 u0 u1
  generalize (W1.setCell ⟨g + 1 + 1, 0, none⟩ (.int .i64 (a - d))).setCell ⟨g + 1 + 1, 1, none⟩ (.int .i64 (b - c)) = W4 at *
  have v0 : W4.cell? ⟨g + 1 + 1, 0, none⟩ = some (.int .i64 (a - d)) := HR4.out.cell 0
  have v1 : W4.cell? ⟨g + 1 + 1, 1, none⟩ = some (.int .i64 (b - c)) := HR4.out.cell 1
  refine bodyPost_ret (v := .agg #[.int .i64 (a - d), .int .i64 (b - c)]) (by simp [results, Tryd.results29, go_sem, v0, v1]) rfl ⟨rfl, ?_⟩
  rw [HG.out]
  exact HB4.out
set_option maxRecDepth 100000 in
theorem less_any (a b c d : Int) (w : World) (h1 : -100000000000000000 ≤ a) (h2 : a ≤ 100000000000000000) (h3 : -100000000000000000 ≤ b) (h4 : b ≤ 100000000000000000) (h5 : -100000000000000000 ≤ c) (h6 : c ≤ 100000000000000000) (h7 : -100000000000000000 ≤ d) (h8 : d ≤ 100000000000000000) : Calls Tryd.prog 20 #[.agg #[.int .i64 a, .int .i64 b], .agg #[.int .i64 c, .int .i64 d]] w fun e w' => e = .returned (.agg (spanC (normI (a - d) (b - c)))) ∧ Below w.heap.size w w' := by
  have HB := Lib.hid (below_alloc3 w (Obj.cells #[.int .i64 a, .int .i64 b] 27) (Obj.cells #[.int .i64 c, .int .i64 d] 27) (Obj.cells #[.int .i64 0, .int .i64 0] 27))
  have HX := Lib.hid (((Box.new w 27 #[.int .i64 a, .int .i64 b]).alloc (Obj.cells #[.int .i64 c, .int .i64 d] 27)).alloc (Obj.cells #[.int .i64 0, .int .i64 0] 27))
  have HY := Lib.hid ((Box.new (w.alloc (Obj.cells #[.int .i64 a, .int .i64 b] 27)) 27 #[.int .i64 c, .int .i64 d]).alloc (Obj.cells #[.int .i64 0, .int .i64 0] 27))
  have HR := Lib.hid (Box.new ((w.alloc (Obj.cells #[.int .i64 a, .int .i64 b] 27)).alloc (Obj.cells #[.int .i64 c, .int .i64 d] 27)) 27 #[.int .i64 0, .int .i64 0])
  simp only [World.size_alloc] at HR HY
  have HC1 := Lib.hid (fun w => minus_any a b c d w h1 h2 h3 h4 h5 h6 h7 h8)
  have HC2 := Lib.hid (fun w => norm_any (a - d) (b - c) w (by omega) (by omega) (by omega) (by omega))
  generalize normI (a - d) (b - c) = z at *
  clear h1 h2 h3 h4 h5 h6 h7 h8
  go_enter Tryd.func20, Tryd.ntmps20
  go_upto_region 1 with fail
  generalize ((w.alloc (Obj.cells #[.int .i64 a, .int .i64 b] 27)).alloc (Obj.cells #[.int .i64 c, .int .i64 d] 27)).alloc (Obj.cells #[.int .i64 0, .int .i64 0] 27) = W1 at *
  generalize hg : w.heap.size = g at *
  have HG := Lib.hid hg
  clear hg
  have x0 : W1.cell? ⟨g, 0, none⟩ = some (.int .i64 a) := HX.out.cell 0
  have x1 : W1.cell? ⟨g, 1, none⟩ = some (.int .i64 b) := HX.out.cell 1
  have y0 : W1.cell? ⟨g + 1, 0, none⟩ = some (.int .i64 c) := HY.out.cell 0
  have y1 : W1.cell? ⟨g + 1, 1, none⟩ = some (.int .i64 d) := HY.out.cell 1
  have bl := HR.out.lt
  have lift : ∀ w2 w3, Below W1.heap.size W1 w2 → Below w2.heap.size w2 w3 → Box w3 (g + 1 + 1) 27 #[.int .i64 0, .int .i64 0] ∧ Below g w w3 := fun w2 w3 b2 b3 => ⟨HR.out.below (below_then b2 b3), HB.out.trans ((below_then b2 b3).mono (by omega))⟩
  have HL := Lib.hid lift
  clear lift HR HB HX HY bl
  go_wp2_with first
    | (go_at_call 29; refine (HC1.out _).mono ?_; rintro e w2 ⟨rfl, hb2⟩)
    | (go_at_call 28; refine (HC2.out _).mono ?_; rintro e w3 ⟨rfl, hb3⟩; obtain ⟨HR, HB⟩ := HL.out _ _ hb2 hb3; have q0 : w3.frozen? ⟨g + 1 + 1, 0, none⟩ = false := HR.free 0; have q1 : w3.frozen? ⟨g + 1 + 1, 1, none⟩ = false := HR.free 1; have u0 : w3.cell? ⟨g + 1 + 1, 0, none⟩ = some (.int .i64 0) := HR.cell 0; have u1 : w3.cell? ⟨g + 1 + 1, 1, none⟩ = some (.int .i64 0) := HR.cell 1; replace HR := Lib.hid HR; replace HB := Lib.hid HB; clear hb2 hb3 HL)
  have HR4 := Lib.hid ((HR.out.set_ 0 (.int .i64 z.1)).set_ 1 (.int .i64 z.2))
  have HB4 := Lib.hid ((HB.out.setCell (p := ⟨g + 1 + 1, 0, none⟩) (by show g ≤ g + 1 + 1; omega) (.int .i64 z.1)).setCell (p := ⟨g + 1 + 1, 1, none⟩) (by show g ≤ g + 1 + 1; omega) (.int .i64 z.2))
  clear HR HB q0 q1 u0 u1
  generalize (w3.setCell ⟨g + 1 + 1, 0, none⟩ (.int .i64 z.1)).setCell ⟨g + 1 + 1, 1, none⟩ (.int .i64 z.2) = W4 at *
  have v0 : W4.cell? ⟨g + 1 + 1, 0, none⟩ = some (.int .i64 z.1) := HR4.out.cell 0
  have v1 : W4.cell? ⟨g + 1 + 1, 1, none⟩ = some (.int .i64 z.2) := HR4.out.cell 1
  refine bodyPost_ret (v := .agg #[.int .i64 z.1, .int .i64 z.2]) (by simp [results, Tryd.results20, go_sem, v0, v1]) rfl ⟨rfl, ?_⟩
  rw [HG.out]
  exact HB4.out
end Go.Proofs.YtfjpfllamalfeaaDoor

/- series.Check of a sum that is right. -/
namespace Go.Proofs.YtfjpfllamalfeaaDoor
open Go.RowKit
set_option linter.unusedVariables false
set_option linter.unusedSimpArgs false
set_option maxHeartbeats 1000000 in
set_option maxRecDepth 100000 in
theorem scheck_any (s : SumR) (ok : SumOk s) (b c : Nat) (hc : s.ts.length ≤ c) (w : World) (hM : TmIn w b s.ts) : Calls Tryd.prog 30 #[.agg (s.cells b c)] w fun e w' => e = .returned (.int .i64 0) ∧ Below w.heap.size w w' := by
  have n0 := ok.n0
  have n1 := ok.n1
  have HI1 := Lib.hid (fun w => inr_yes s.mean 1000000000 w (by decide) (by decide) ok.m0 ok.m1)
  have HI2 := Lib.hid (fun w => inr_yes s.mrate 4000000000000000 w (by decide) (by decide) (by have := ok.q0; omega) ok.q1)
  have r0 : decide (s.rest < 0) = false := decide_eq_false (by have := ok.r0; omega)
  have r1 : decide (100000000 < s.rest) = false := decide_eq_false (by have := ok.r1; omega)
  have t1 : decide ((40 : Int) < (s.ts.length : Int)) = false := decide_eq_false (by omega)
  have t1' : decide (40 < s.ts.length) = false := decide_eq_false (by omega)
  have HM := Lib.hid hM
  have HK := Lib.hid ok.ok
  have HB := Lib.hid (below_alloc1 w (Obj.cells (s.cells b c) 47))
  clear hM ok
  go_enter Tryd.func30, Tryd.ntmps30
  go_wp2_with (go_at_call 33; first | (with_reducible refine (HI1.out _).mono ?_; rintro e w' ⟨rfl, rfl⟩) | (with_reducible refine (HI2.out _).mono ?_; rintro e w' ⟨rfl, rfl⟩))
  clear t1 t1' r0 r1 HI1 HI2
  have HM0 := Lib.hid (HM.out.next HB.out)
  generalize w.alloc (Obj.cells (s.cells b c) 47) = W0 at *
  go_loopw [32] (fun iv wr => ∃ k : Nat, k ≤ s.ts.length ∧ iv = .int .i64 (k : Int) ∧ Hid (Below W0.heap.size W0 wr)) (fun iv _ => s.ts.length - (intOf iv).toNat)
  case atStart => exact ⟨0, by omega, rfl, Below.refl _ _⟩
  case round =>
    obtain ⟨k, hk, rfl, HBr⟩ := hrel
    by_cases hlt : k < s.ts.length
    · have HMr := HM0.out.next HBr.out
      obtain ⟨c0, c1, c2⟩ := HMr.cells k hlt
      have okt := HK.out _ (getD_mem term0 _ _ hlt)
      have hbl := HMr.lt
      have HBn := Lib.hid (below_then HBr.out (below_alloc1 wr (Obj.cells (termC (s.ts.getD k term0)) 53)))
      clear HMr
      generalize s.ts.getD k term0 = y at *
      have HI1 := Lib.hid (fun w => inr_yes y.amp 1000000000 w (by decide) (by decide) (by have := okt.a; omega) (by have := okt.a; omega))
      have HI2 := Lib.hid (fun w => inr_yes y.rate 4000000000000000 w (by decide) (by decide) (by have := okt.r0; omega) okt.r1)
      have p0 : decide (y.ph < 0) = false := decide_eq_false (by have := okt.p0; omega)
      have p1 : decide (1000000000 ≤ y.ph) = false := decide_eq_false (by have := okt.p1; omega)
      clear okt
      go_wp2_with (go_at_call 33; first | (with_reducible refine (HI1.out _).mono ?_; rintro e w' ⟨rfl, rfl⟩) | (with_reducible refine (HI2.out _).mono ?_; rintro e w' ⟨rfl, rfl⟩))
      go_roundw
      case rel => exact ⟨k + 1, by omega, by go_num, HBn⟩
      case measure => simp [intOf]; omega
    · obtain rfl : k = s.ts.length := by omega
      go_wp2_with fail
      go_ret
      exact ⟨rfl, below_then HB.out HBr.out⟩
end Go.Proofs.YtfjpfllamalfeaaDoor

/- series.angle, Angle: the whole sum at an instant. -/
namespace Go.Proofs.YtfjpfllamalfeaaDoor
open Go.RowKit
set_option linter.unusedVariables false
set_option linter.unusedSimpArgs false
set_option maxHeartbeats 2000000 in
set_option maxRecDepth 100000 in
theorem angle_any (s : SumR) (i : Int) (ok : SumOk s) (i0 : -300000000000000 ≤ i) (i1 : i ≤ 300000000000000) (b c : Nat) (hc : s.ts.length ≤ c) (w : World) (hT : TrigT w) (hM : TmIn w b s.ts) : ∃ z, angleF s i = some z ∧ (0 ≤ z.1 ∧ z.1 < 1000000000) ∧ (-10000000000000000 ≤ z.2 ∧ z.2 ≤ 10000000000000000) ∧ Calls Tryd.prog 32 #[.agg (s.cells b c), .int .i64 i] w fun e w' => e = .returned (.agg (spanC z)) ∧ Below w.heap.size w w' := by
  obtain ⟨x, y, gv, bx, by_, _⟩ := value_any s i ok i0 i1 b c hc w hT hM
  have HA := Lib.hid (fun w (hT : TrigT w) (hM : TmIn w b s.ts) => (by
    obtain ⟨x', y', gv', _, _, h⟩ := value_any s i ok i0 i1 b c hc w hT hM
    rw [gv] at gv'
    cases gv'
    exact h : Calls Tryd.prog 34 #[.agg (s.cells b c), .int .i64 i] w fun e w' => e = .returned (.agg #[.int .i64 x, .int .i64 y]) ∧ Below w.heap.size w w'))
  have HGr := Lib.hid (fun w => grown_any s.mrate i w ok.q0 ok.q1 i0 i1)
  have q0 : -13888888888888890 ≤ s.mrate * i / 86400000000000 ∧ s.mrate * i / 86400000000000 ≤ 13888888888888890 := by
    have a : s.mrate * i ≤ 4000000000000000 * 300000000000000 := by
      have := Int.mul_le_mul_of_nonneg_left i1 ok.q0
      have := Int.mul_le_mul_of_nonneg_right ok.q1 (show (0 : Int) ≤ 300000000000000 by decide)
      omega
    have b : -(4000000000000000 * 300000000000000) ≤ s.mrate * i := by
      have := Int.mul_le_mul_of_nonneg_left i0 ok.q0
      have := Int.mul_le_mul_of_nonneg_right ok.q1 (show (0 : Int) ≤ 300000000000000 by decide)
      omega
    omega
  have HMo := Lib.hid (fun w => mod_pos (s.mrate * i / 86400000000000) 1000000000 w (by omega) (by omega) (by decide) (by decide))
  have Q0 : 0 ≤ s.mrate * i / 86400000000000 % 1000000000 := Int.emod_nonneg _ (by decide)
  have Q1 : s.mrate * i / 86400000000000 % 1000000000 < 1000000000 := Int.emod_lt_of_pos _ (by decide)
  have R0 : 0 ≤ s.mrate * i % 86400000000000 := Int.emod_nonneg _ (by decide)
  unfold angleF
  rw [gv, Option.bind_some]
  dsimp only
  clear gv
  generalize s.mrate * i / 86400000000000 % 1000000000 = Q at *
  generalize s.mrate * i / 86400000000000 = q at *
  generalize s.mrate * i % 86400000000000 = R at *
  have HN := Lib.hid (fun w => norm_any (x + Q) ((if 0 < R then y + 1 else y) + Q) w (by omega) (by omega) (by split <;> omega) (by split <;> omega))
  have Z1 : 0 ≤ (normI (x + Q) ((if 0 < R then y + 1 else y) + Q)).1 ∧ (normI (x + Q) ((if 0 < R then y + 1 else y) + Q)).1 < 1000000000 := by
    unfold normI
    dsimp only
    omega
  have Z2 : -10000000000000000 ≤ (normI (x + Q) ((if 0 < R then y + 1 else y) + Q)).2 ∧ (normI (x + Q) ((if 0 < R then y + 1 else y) + Q)).2 ≤ 10000000000000000 := by
    unfold normI
    dsimp only
    split <;> omega
  refine ⟨_, rfl, Z1, Z2, ?_⟩
  clear Z1 Z2
  generalize normI (x + Q) ((if 0 < R then y + 1 else y) + Q) = Z at *
  have HT := Lib.hid hT
  have HM := Lib.hid hM
  have HB := Lib.hid (below_alloc2 w (Obj.cells (s.cells b c) 47) (Obj.cells #[.int .i64 0, .int .i64 0] 27))
  have HX := Lib.hid ((Box.new w 47 (s.cells b c)).alloc (Obj.cells #[.int .i64 0, .int .i64 0] 27))
  have HR := Lib.hid (Box.new (w.alloc (Obj.cells (s.cells b c) 47)) 27 #[.int .i64 0, .int .i64 0])
  simp only [World.size_alloc] at HR
  clear hT hM ok
  go_enter Tryd.func32, Tryd.ntmps32
  go_upto_region 1 with fail
  have HT1 := Lib.hid (HT.out.next HB.out)
  have HM1 := Lib.hid (HM.out.next HB.out)
  clear HT HM
  generalize (w.alloc (Obj.cells (s.cells b c) 47)).alloc (Obj.cells #[.int .i64 0, .int .i64 0] 27) = W1 at *
  generalize hg : w.heap.size = g at *
  have HG := Lib.hid hg
  clear hg
  have x0 : W1.cell? ⟨g, 0, none⟩ = some (.int .i64 s.mean) := HX.out.cell 0
  have x1 : W1.cell? ⟨g, 1, none⟩ = some (.int .i64 s.mrate) := HX.out.cell 1
  have x2 : W1.cell? ⟨g, 2, none⟩ = some (.slice (some ⟨b, 0, none⟩) s.ts.length c) := HX.out.cell 2
  have x3 : W1.cell? ⟨g, 3, none⟩ = some (.int .i64 s.rest) := HX.out.cell 3
  go_upto_region 2 with (go_at_call 34; refine (HA.out _ HT1.out HM1.out).mono ?_; rintro e w2 ⟨rfl, hb2⟩)
  have hb3 := below_then hb2 (below_alloc1 w2 (Obj.cells #[.int .i64 x, .int .i64 y] 27))
  have HX2 := Lib.hid (HX.out.below hb3)
  have HR2 := Lib.hid (HR.out.below hb3)
  have HA2 := Lib.hid (Box.new w2 27 #[.int .i64 x, .int .i64 y])
  have h2 := hb2.size
  have l0 := HR.out.lt
  have HB2 := Lib.hid (HB.out.trans (hb3.mono (by omega)))
  clear hb2 hb3 HX HR HB HA HT1 HM1 x0 x1 x2 x3
  generalize w2.alloc (Obj.cells #[.int .i64 x, .int .i64 y] 27) = W2 at *
  generalize hga : w2.heap.size = ga at *
  clear hga
  have hne : g + 1 < ga := by omega
  have HNE := Lib.hid hne
  have x1 : W2.cell? ⟨g, 1, none⟩ = some (.int .i64 s.mrate) := HX2.out.cell 1
  have z0 : W2.cell? ⟨ga, 0, none⟩ = some (.int .i64 x) := HA2.out.cell 0
  have z1 : W2.cell? ⟨ga, 1, none⟩ = some (.int .i64 y) := HA2.out.cell 1
  have q0' : W2.frozen? ⟨ga, 1, none⟩ = false := HA2.out.free 1
  by_cases hR : 0 < R
  · have tR : decide (0 < R) = true := decide_eq_true hR
    rw [if_pos hR] at HN
    go_upto_region 6 with first
      | (go_at_call 35; refine (HGr.out _).mono ?_; rintro e w' ⟨rfl, n1, rfl⟩)
      | (go_at_call 21; refine (HMo.out _).mono ?_; rintro e w' ⟨rfl, n2, rfl⟩)
    have HX3 := Lib.hid (HX2.out)
    have HR3 := Lib.hid (((HR2.out.drewN n1).far (p := ⟨ga, 1, none⟩) (by show g + 1 ≠ ga; omega) (.int .i64 (y + 1))).drewN n2)
    have HA3 := Lib.hid (((HA2.out.drewN n1).set_ 1 (.int .i64 (y + 1))).drewN n2)
    have HB3 := Lib.hid (below_drew ((below_drew HB2.out n1).setCell (p := ⟨ga, 1, none⟩) (by show g ≤ ga; omega) (.int .i64 (y + 1))) n2)
    clear HX2 HR2 HA2 HB2 x1 z0 z1 q0' tR
    generalize ((W2.drewN n1).setCell ⟨ga, 1, none⟩ (.int .i64 (y + 1))).drewN n2 = W3 at *
    have z0 : W3.cell? ⟨ga, 0, none⟩ = some (.int .i64 x) := HA3.out.cell 0
    have z1 : W3.cell? ⟨ga, 1, none⟩ = some (.int .i64 (y + 1)) := HA3.out.cell 1
    have l3 := HR3.out.lt
    have lift : ∀ w4, Below W3.heap.size W3 w4 → Box w4 (g + 1) 27 #[.int .i64 0, .int .i64 0] ∧ Below g w w4 := fun w4 b4 => ⟨HR3.out.below b4, HB3.out.trans (b4.mono (by omega))⟩
    have HL := Lib.hid lift
    clear lift HR3 HB3 HA3 l3
    go_wp2_with (go_at_call 28; refine (HN.out _).mono ?_; rintro e w3 ⟨rfl, hb3⟩; obtain ⟨HR, HB⟩ := HL.out _ hb3; have q0 : w3.frozen? ⟨g + 1, 0, none⟩ = false := HR.free 0; have q1 : w3.frozen? ⟨g + 1, 1, none⟩ = false := HR.free 1; have u0 : w3.cell? ⟨g + 1, 0, none⟩ = some (.int .i64 0) := HR.cell 0; have u1 : w3.cell? ⟨g + 1, 1, none⟩ = some (.int .i64 0) := HR.cell 1; replace HR := Lib.hid HR; replace HB := Lib.hid HB; clear hb3 HL)
    have HR4 := Lib.hid ((HR.out.set_ 0 (.int .i64 Z.1)).set_ 1 (.int .i64 Z.2))
    have HB4 := Lib.hid ((HB.out.setCell (p := ⟨g + 1, 0, none⟩) (by show g ≤ g + 1; omega) (.int .i64 Z.1)).setCell (p := ⟨g + 1, 1, none⟩) (by show g ≤ g + 1; omega) (.int .i64 Z.2))
    clear HR HB q0 q1 u0 u1
    generalize (w3.setCell ⟨g + 1, 0, none⟩ (.int .i64 Z.1)).setCell ⟨g + 1, 1, none⟩ (.int .i64 Z.2) = W4 at *
    have v0 : W4.cell? ⟨g + 1, 0, none⟩ = some (.int .i64 Z.1) := HR4.out.cell 0
    have v1 : W4.cell? ⟨g + 1, 1, none⟩ = some (.int .i64 Z.2) := HR4.out.cell 1
    refine bodyPost_ret (v := .agg #[.int .i64 Z.1, .int .i64 Z.2]) (by simp [results, Tryd.results32, go_sem, v0, v1]) rfl ⟨rfl, ?_⟩
    rw [HG.out]
    exact HB4.out
  · have tR : decide (0 < R) = false := decide_eq_false hR
    rw [if_neg hR] at HN
    go_upto_region 6 with first
      | (go_at_call 35; refine (HGr.out _).mono ?_; rintro e w' ⟨rfl, n1, rfl⟩)
      | (go_at_call 21; refine (HMo.out _).mono ?_; rintro e w' ⟨rfl, n2, rfl⟩)
    have HR3 := Lib.hid (HR2.out.drewN (n1 + n2))
    have HA3 := Lib.hid (HA2.out.drewN (n1 + n2))
    have HB3 := Lib.hid (below_drew HB2.out (n1 + n2))
    clear HX2 HR2 HA2 HB2 x1 z0 z1 q0' tR
    generalize W2.drewN (n1 + n2) = W3 at *
    have z0 : W3.cell? ⟨ga, 0, none⟩ = some (.int .i64 x) := HA3.out.cell 0
    have z1 : W3.cell? ⟨ga, 1, none⟩ = some (.int .i64 y) := HA3.out.cell 1
    have l3 := HR3.out.lt
    have lift : ∀ w4, Below W3.heap.size W3 w4 → Box w4 (g + 1) 27 #[.int .i64 0, .int .i64 0] ∧ Below g w w4 := fun w4 b4 => ⟨HR3.out.below b4, HB3.out.trans (b4.mono (by omega))⟩
    have HL := Lib.hid lift
    clear lift HR3 HB3 HA3 l3
    go_wp2_with (go_at_call 28; refine (HN.out _).mono ?_; rintro e w3 ⟨rfl, hb3⟩; obtain ⟨HR, HB⟩ := HL.out _ hb3; have q0 : w3.frozen? ⟨g + 1, 0, none⟩ = false := HR.free 0; have q1 : w3.frozen? ⟨g + 1, 1, none⟩ = false := HR.free 1; have u0 : w3.cell? ⟨g + 1, 0, none⟩ = some (.int .i64 0) := HR.cell 0; have u1 : w3.cell? ⟨g + 1, 1, none⟩ = some (.int .i64 0) := HR.cell 1; replace HR := Lib.hid HR; replace HB := Lib.hid HB; clear hb3 HL)
    have HR4 := Lib.hid ((HR.out.set_ 0 (.int .i64 Z.1)).set_ 1 (.int .i64 Z.2))
    have HB4 := Lib.hid ((HB.out.setCell (p := ⟨g + 1, 0, none⟩) (by show g ≤ g + 1; omega) (.int .i64 Z.1)).setCell (p := ⟨g + 1, 1, none⟩) (by show g ≤ g + 1; omega) (.int .i64 Z.2))
    clear HR HB q0 q1 u0 u1
    generalize (w3.setCell ⟨g + 1, 0, none⟩ (.int .i64 Z.1)).setCell ⟨g + 1, 1, none⟩ (.int .i64 Z.2) = W4 at *
    have v0 : W4.cell? ⟨g + 1, 0, none⟩ = some (.int .i64 Z.1) := HR4.out.cell 0
    have v1 : W4.cell? ⟨g + 1, 1, none⟩ = some (.int .i64 Z.2) := HR4.out.cell 1
    refine bodyPost_ret (v := .agg #[.int .i64 Z.1, .int .i64 Z.2]) (by simp [results, Tryd.results32, go_sem, v0, v1]) rfl ⟨rfl, ?_⟩
    rw [HG.out]
    exact HB4.out
end Go.Proofs.YtfjpfllamalfeaaDoor

/- series.Angle. -/
namespace Go.Proofs.YtfjpfllamalfeaaDoor
open Go.RowKit
set_option linter.unusedVariables false
set_option linter.unusedSimpArgs false
/-- an angle of a sum that is right -/
structure AngOk (z : Int × Int) : Prop where
  a0 : 0 ≤ z.1
  a1 : z.1 < 1000000000
  b0 : -10000000000000000 ≤ z.2
  b1 : z.2 ≤ 10000000000000000
abbrev spanE (z : Int × Int) : Value := .tuple #[.agg (spanC z), .int .i64 0]
set_option maxHeartbeats 2000000 in
set_option maxRecDepth 100000 in
theorem Angle_any (s : SumR) (i : Int) (ok : SumOk s) (i0 : -300000000000000 ≤ i) (i1 : i ≤ 300000000000000) (b c : Nat) (hc : s.ts.length ≤ c) (w : World) (hT : TrigT w) (hM : TmIn w b s.ts) : ∃ z, angleF s i = some z ∧ AngOk z ∧ Calls Tryd.prog 25 #[.agg (s.cells b c), .int .i64 i] w fun e w' => e = .returned (spanE z) ∧ Below w.heap.size w w' := by
  obtain ⟨z, gz, b1, b2, _⟩ := angle_any s i ok i0 i1 b c hc w hT hM
  refine ⟨z, gz, ⟨b1.1, b1.2, b2.1, b2.2⟩, ?_⟩
  have HA := Lib.hid (fun w (hT : TrigT w) (hM : TmIn w b s.ts) => (by
    obtain ⟨z', gz', _, _, h⟩ := angle_any s i ok i0 i1 b c hc w hT hM
    rw [gz] at gz'
    cases gz'
    exact h : Calls Tryd.prog 32 #[.agg (s.cells b c), .int .i64 i] w fun e w' => e = .returned (.agg (spanC z)) ∧ Below w.heap.size w w'))
  have HC := Lib.hid (fun w (hM : TmIn w b s.ts) => scheck_any s ok b c hc w hM)
  have HI := Lib.hid (fun w => isinst_yes i w i0 i1)
  have HT := Lib.hid hT
  have HM := Lib.hid hM
  have HB := Lib.hid (below_alloc2 w (Obj.cells (s.cells b c) 47) (Obj.cells #[.int .i64 0, .int .i64 0] 27))
  have HX := Lib.hid ((Box.new w 47 (s.cells b c)).alloc (Obj.cells #[.int .i64 0, .int .i64 0] 27))
  have HR := Lib.hid (Box.new (w.alloc (Obj.cells (s.cells b c) 47)) 27 #[.int .i64 0, .int .i64 0])
  simp only [World.size_alloc] at HR
  clear hT hM ok gz b1 b2
  go_enter Tryd.func25, Tryd.ntmps25
  go_upto_region 1 with fail
  have HT1 := Lib.hid (HT.out.next HB.out)
  have HM1 := Lib.hid (HM.out.next HB.out)
  clear HT HM
  generalize (w.alloc (Obj.cells (s.cells b c) 47)).alloc (Obj.cells #[.int .i64 0, .int .i64 0] 27) = W1 at *
  generalize hg : w.heap.size = g at *
  have HG := Lib.hid hg
  clear hg
  have x0 : W1.cell? ⟨g, 0, none⟩ = some (.int .i64 s.mean) := HX.out.cell 0
  have x1 : W1.cell? ⟨g, 1, none⟩ = some (.int .i64 s.mrate) := HX.out.cell 1
  have x2 : W1.cell? ⟨g, 2, none⟩ = some (.slice (some ⟨b, 0, none⟩) s.ts.length c) := HX.out.cell 2
  have x3 : W1.cell? ⟨g, 3, none⟩ = some (.int .i64 s.rest) := HX.out.cell 3
  go_upto_region 2 with (go_at_call 30; refine (HC.out _ HM1.out).mono ?_; rintro e w2 ⟨rfl, hb2⟩)
  have HX2 := Lib.hid (HX.out.below hb2)
  have HR2 := Lib.hid (HR.out.below hb2)
  have HT2 := Lib.hid (HT1.out.next hb2)
  have HM2 := Lib.hid (HM1.out.next hb2)
  have l0 := HR.out.lt
  have HB2 := Lib.hid (HB.out.trans (hb2.mono (by omega)))
  clear hb2 HX HR HB HT1 HM1 x0 x1 x2 x3 l0 HC
  go_upto_region 6 with (go_at_call 31; refine (HI.out _).mono ?_; rintro e w' ⟨rfl, n1, rfl⟩)
  have HX3 := Lib.hid (HX2.out.drewN n1)
  have HR3 := Lib.hid (HR2.out.drewN n1)
  have HT3 : Hid (TrigT (w2.drewN n1)) := HT2.out.next (below_drewN _ n1)
  have HM3 : Hid (TmIn (w2.drewN n1) b s.ts) := HM2.out.next (below_drewN _ n1)
  have HB3 := Lib.hid (below_drew HB2.out n1)
  clear HX2 HR2 HT2 HM2 HB2
  generalize w2.drewN n1 = W3 at *
  have x0 : W3.cell? ⟨g, 0, none⟩ = some (.int .i64 s.mean) := HX3.out.cell 0
  have x1 : W3.cell? ⟨g, 1, none⟩ = some (.int .i64 s.mrate) := HX3.out.cell 1
  have x2 : W3.cell? ⟨g, 2, none⟩ = some (.slice (some ⟨b, 0, none⟩) s.ts.length c) := HX3.out.cell 2
  have x3 : W3.cell? ⟨g, 3, none⟩ = some (.int .i64 s.rest) := HX3.out.cell 3
  have l3 := HR3.out.lt
  have lift : ∀ w4, Below W3.heap.size W3 w4 → Box w4 (g + 1) 27 #[.int .i64 0, .int .i64 0] ∧ Below g w w4 := fun w4 b4 => ⟨HR3.out.below b4, HB3.out.trans (b4.mono (by omega))⟩
  have HL := Lib.hid lift
  clear lift HR3 HB3 HX3 l3
  go_wp2_with (go_at_call 32; refine (HA.out _ HT3.out HM3.out).mono ?_; rintro e w3 ⟨rfl, hb3⟩; obtain ⟨HR, HB⟩ := HL.out _ hb3; have q0 : w3.frozen? ⟨g + 1, 0, none⟩ = false := HR.free 0; have q1 : w3.frozen? ⟨g + 1, 1, none⟩ = false := HR.free 1; have u0 : w3.cell? ⟨g + 1, 0, none⟩ = some (.int .i64 0) := HR.cell 0; have u1 : w3.cell? ⟨g + 1, 1, none⟩ = some (.int .i64 0) := HR.cell 1; replace HR := Lib.hid HR; replace HB := Lib.hid HB; clear hb3 HL x0 x1 x2 x3)
  have HR4 := Lib.hid ((HR.out.set_ 0 (.int .i64 z.1)).set_ 1 (.int .i64 z.2))
  have HB4 := Lib.hid ((HB.out.setCell (p := ⟨g + 1, 0, none⟩) (by show g ≤ g + 1; omega) (.int .i64 z.1)).setCell (p := ⟨g + 1, 1, none⟩) (by show g ≤ g + 1; omega) (.int .i64 z.2))
  clear HR HB q0 q1 u0 u1
  generalize (w3.setCell ⟨g + 1, 0, none⟩ (.int .i64 z.1)).setCell ⟨g + 1, 1, none⟩ (.int .i64 z.2) = W4 at *
  have v0 : W4.cell? ⟨g + 1, 0, none⟩ = some (.int .i64 z.1) := HR4.out.cell 0
  have v1 : W4.cell? ⟨g + 1, 1, none⟩ = some (.int .i64 z.2) := HR4.out.cell 1
  refine bodyPost_ret (v := spanE z) (by simp [results, Tryd.results25, go_sem, v0, v1]) rfl ⟨rfl, ?_⟩
  rw [HG.out]
  exact HB4.out
end Go.Proofs.YtfjpfllamalfeaaDoor

/- The sums of sun and moon in memory. -/
namespace Go.Proofs.YtfjpfllamalfeaaDoor
open Go.RowKit
set_option linter.unusedVariables false
set_option linter.unusedSimpArgs false
theorem tmin_new {w : World} {l : List TermR} {g : Nat} {cs : Array Value} (h : Box w g 53 cs) (e : cs = (l.flatMap termL).toArray) : TmIn w g l :=
  ⟨h.lt, fun j v hv => by rw [h.cell, e, Nat.zero_add]; simpa using hv⟩
set_option maxRecDepth 100000 in
theorem moonsum_any (w : World) : Calls Tryd.prog 26 #[] w fun e w' => ∃ b, e = .returned (.agg (moonS.cells b 6)) ∧ TmIn w' b moonS.ts ∧ Below w.heap.size w w' := by
  go_enter Tryd.func26, Tryd.ntmps26
  go_wp2_with fail
  refine bodyPost_ret (v := .agg (moonS.cells (w.heap.size + 1) 6)) (by simp [results, Tryd.results26, go_sem, SumR.cells, moonS]) rfl ⟨_, rfl, ?_, below_alloc2 _ _ _⟩
  refine tmin_new (cs := (moonS.ts.flatMap termL).toArray) ?_ rfl
  have := Box.new (w.alloc (Obj.cells (moonS.cells (w.heap.size + 1) 6) 47)) 53 (moonS.ts.flatMap termL).toArray
  simp only [World.size_alloc] at this
  exact this
set_option maxRecDepth 100000 in
theorem sunsum_any (w : World) : Calls Tryd.prog 27 #[] w fun e w' => ∃ b, e = .returned (.agg (sunS.cells b 2)) ∧ TmIn w' b sunS.ts ∧ Below w.heap.size w w' := by
  go_enter Tryd.func27, Tryd.ntmps27
  go_wp2_with fail
  refine bodyPost_ret (v := .agg (sunS.cells (w.heap.size + 1) 2)) (by simp [results, Tryd.results27, go_sem, SumR.cells, sunS]) rfl ⟨_, rfl, ?_, below_alloc2 _ _ _⟩
  refine tmin_new (cs := (sunS.ts.flatMap termL).toArray) ?_ rfl
  have := Box.new (w.alloc (Obj.cells (sunS.cells (w.heap.size + 1) 2) 47)) 53 (sunS.ts.flatMap termL).toArray
  simp only [World.size_alloc] at this
  exact this
theorem moon_ok : SumOk moonS where
  m0 := by decide
  m1 := by decide
  r0 := by decide
  r1 := by decide
  q0 := by decide
  q1 := by decide
  n0 := by decide
  n1 := by decide
  ok := by
    intro t ht
    simp only [moonS, List.mem_cons, List.not_mem_nil, or_false] at ht
    rcases ht with rfl | rfl | rfl | rfl | rfl | rfl <;> exact ⟨by decide, by decide, by decide, by decide, by decide⟩
  am := by decide
theorem sun_ok : SumOk sunS where
  m0 := by decide
  m1 := by decide
  r0 := by decide
  r1 := by decide
  q0 := by decide
  q1 := by decide
  n0 := by decide
  n1 := by decide
  ok := by
    intro t ht
    simp only [sunS, List.mem_cons, List.not_mem_nil, or_false] at ht
    rcases ht with rfl | rfl <;> exact ⟨by decide, by decide, by decide, by decide, by decide⟩
  am := by decide
set_option maxHeartbeats 1000000 in
set_option maxRecDepth 100000 in
theorem moonlon_any (i : Int) (i0 : -300000000000000 ≤ i) (i1 : i ≤ 300000000000000) (w : World) (hT : TrigT w) : ∃ z, angleF moonS i = some z ∧ AngOk z ∧ ∀ w, TrigT w → Calls Tryd.prog 18 #[.int .i64 i] w fun e w' => e = .returned (spanE z) ∧ Below w.heap.size w w' := by
  have hw : ∃ (w : World) (b : Nat), TrigT w ∧ TmIn w b moonS.ts := by
    refine ⟨w.alloc (.cells (moonS.ts.flatMap termL).toArray 53), _, hT.next (below_alloc1 _ _), tmin_new (Box.new w 53 _) rfl⟩
  obtain ⟨w0, b0, hT0, hM0⟩ := hw
  obtain ⟨z, gz, oz, HC0⟩ := Angle_any moonS i moon_ok i0 i1 b0 6 (by decide) w0 hT0 hM0
  refine ⟨z, gz, oz, ?_⟩
  have HA := Lib.hid (fun b w (hT : TrigT w) (hM : TmIn w b moonS.ts) => (by
    obtain ⟨z', gz', _, h⟩ := Angle_any moonS i moon_ok i0 i1 b 6 (by decide) w hT hM
    rw [gz] at gz'
    cases gz'
    exact h : Calls Tryd.prog 25 #[.agg (moonS.cells b 6), .int .i64 i] w fun e w' => e = .returned (spanE z) ∧ Below w.heap.size w w'))
  clear gz oz hT
  clear HC0 hT0 hM0
  clear w0 w b0
  intro w hT
  have HT := Lib.hid hT
  have HB := Lib.hid (below_alloc1 w (Obj.cells #[.int .i64 0, .int .i64 0] 27))
  have HR := Lib.hid (Box.new w 27 #[.int .i64 0, .int .i64 0])
  clear hT
  have HS := Lib.hid (fun w => moonsum_any w)
  go_enter Tryd.func18, Tryd.ntmps18
  go_upto_region 1 with fail
  have HT1 := Lib.hid (HT.out.next HB.out)
  clear HT
  generalize w.alloc (Obj.cells #[.int .i64 0, .int .i64 0] 27) = W1 at *
  generalize hg : w.heap.size = g at *
  have HG := Lib.hid hg
  clear hg
  have l3 := HR.out.lt
  have lift : ∀ w3 w4, Below W1.heap.size W1 w3 → Below w3.heap.size w3 w4 → Box w4 g 27 #[.int .i64 0, .int .i64 0] ∧ Below g w w4 := fun w3 w4 b3 b4 => ⟨HR.out.below (below_then b3 b4), HB.out.trans ((below_then b3 b4).mono (by omega))⟩
  have HL := Lib.hid lift
  clear lift HR HB l3
  go_wp2_with first
    | (go_at_call 26; refine (HS.out _).mono ?_; rintro e w2 ⟨b, rfl, hM, hb2⟩; have HT2 := Lib.hid (HT1.out.next hb2); replace hM := Lib.hid hM; replace hb2 := Lib.hid hb2)
    | (go_at_call 25; refine (HA.out _ _ HT2.out hM.out).mono ?_; rintro e w3 ⟨rfl, hb3⟩; obtain ⟨HR, HB⟩ := HL.out _ _ hb2.out hb3; have q0 : w3.frozen? ⟨g, 0, none⟩ = false := HR.free 0; have q1 : w3.frozen? ⟨g, 1, none⟩ = false := HR.free 1; have u0 : w3.cell? ⟨g, 0, none⟩ = some (.int .i64 0) := HR.cell 0; have u1 : w3.cell? ⟨g, 1, none⟩ = some (.int .i64 0) := HR.cell 1; replace HR := Lib.hid HR; replace HB := Lib.hid HB; clear hb3 HL)
  have HR4 := Lib.hid ((HR.out.set_ 0 (.int .i64 z.1)).set_ 1 (.int .i64 z.2))
  have HB4 := Lib.hid ((HB.out.setCell (p := ⟨g, 0, none⟩) (by show g ≤ g; omega) (.int .i64 z.1)).setCell (p := ⟨g, 1, none⟩) (by show g ≤ g; omega) (.int .i64 z.2))
  clear HR HB q0 q1 u0 u1
  generalize (w3.setCell ⟨g, 0, none⟩ (.int .i64 z.1)).setCell ⟨g, 1, none⟩ (.int .i64 z.2) = W4 at *
  have v0 : W4.cell? ⟨g, 0, none⟩ = some (.int .i64 z.1) := HR4.out.cell 0
  have v1 : W4.cell? ⟨g, 1, none⟩ = some (.int .i64 z.2) := HR4.out.cell 1
  refine bodyPost_ret (v := spanE z) (by simp [results, Tryd.results18, go_sem, v0, v1]) rfl ⟨rfl, ?_⟩
  rw [HG.out]
  exact HB4.out
set_option maxHeartbeats 1000000 in
set_option maxRecDepth 100000 in
theorem sunlon_any (i : Int) (i0 : -300000000000000 ≤ i) (i1 : i ≤ 300000000000000) (w : World) (hT : TrigT w) : ∃ z, angleF sunS i = some z ∧ AngOk z ∧ ∀ w, TrigT w → Calls Tryd.prog 19 #[.int .i64 i] w fun e w' => e = .returned (spanE z) ∧ Below w.heap.size w w' := by
  have hw : ∃ (w : World) (b : Nat), TrigT w ∧ TmIn w b sunS.ts := by
    refine ⟨w.alloc (.cells (sunS.ts.flatMap termL).toArray 53), _, hT.next (below_alloc1 _ _), tmin_new (Box.new w 53 _) rfl⟩
  obtain ⟨w0, b0, hT0, hM0⟩ := hw
  obtain ⟨z, gz, oz, HC0⟩ := Angle_any sunS i sun_ok i0 i1 b0 2 (by decide) w0 hT0 hM0
  refine ⟨z, gz, oz, ?_⟩
  have HA := Lib.hid (fun b w (hT : TrigT w) (hM : TmIn w b sunS.ts) => (by
    obtain ⟨z', gz', _, h⟩ := Angle_any sunS i sun_ok i0 i1 b 2 (by decide) w hT hM
    rw [gz] at gz'
    cases gz'
    exact h : Calls Tryd.prog 25 #[.agg (sunS.cells b 2), .int .i64 i] w fun e w' => e = .returned (spanE z) ∧ Below w.heap.size w w'))
  clear gz oz hT
  clear HC0 hT0 hM0
  clear w0 w b0
  intro w hT
  have HT := Lib.hid hT
  have HB := Lib.hid (below_alloc1 w (Obj.cells #[.int .i64 0, .int .i64 0] 27))
  have HR := Lib.hid (Box.new w 27 #[.int .i64 0, .int .i64 0])
  clear hT
  have HS := Lib.hid (fun w => sunsum_any w)
  go_enter Tryd.func19, Tryd.ntmps19
  go_upto_region 1 with fail
  have HT1 := Lib.hid (HT.out.next HB.out)
  clear HT
  generalize w.alloc (Obj.cells #[.int .i64 0, .int .i64 0] 27) = W1 at *
  generalize hg : w.heap.size = g at *
  have HG := Lib.hid hg
  clear hg
  have l3 := HR.out.lt
  have lift : ∀ w3 w4, Below W1.heap.size W1 w3 → Below w3.heap.size w3 w4 → Box w4 g 27 #[.int .i64 0, .int .i64 0] ∧ Below g w w4 := fun w3 w4 b3 b4 => ⟨HR.out.below (below_then b3 b4), HB.out.trans ((below_then b3 b4).mono (by omega))⟩
  have HL := Lib.hid lift
  clear lift HR HB l3
  go_wp2_with first
    | (go_at_call 27; refine (HS.out _).mono ?_; rintro e w2 ⟨b, rfl, hM, hb2⟩; have HT2 := Lib.hid (HT1.out.next hb2); replace hM := Lib.hid hM; replace hb2 := Lib.hid hb2)
    | (go_at_call 25; refine (HA.out _ _ HT2.out hM.out).mono ?_; rintro e w3 ⟨rfl, hb3⟩; obtain ⟨HR, HB⟩ := HL.out _ _ hb2.out hb3; have q0 : w3.frozen? ⟨g, 0, none⟩ = false := HR.free 0; have q1 : w3.frozen? ⟨g, 1, none⟩ = false := HR.free 1; have u0 : w3.cell? ⟨g, 0, none⟩ = some (.int .i64 0) := HR.cell 0; have u1 : w3.cell? ⟨g, 1, none⟩ = some (.int .i64 0) := HR.cell 1; replace HR := Lib.hid HR; replace HB := Lib.hid HB; clear hb3 HL)
  have HR4 := Lib.hid ((HR.out.set_ 0 (.int .i64 z.1)).set_ 1 (.int .i64 z.2))
  have HB4 := Lib.hid ((HB.out.setCell (p := ⟨g, 0, none⟩) (by show g ≤ g; omega) (.int .i64 z.1)).setCell (p := ⟨g, 1, none⟩) (by show g ≤ g; omega) (.int .i64 z.2))
  clear HR HB q0 q1 u0 u1
  generalize (w3.setCell ⟨g, 0, none⟩ (.int .i64 z.1)).setCell ⟨g, 1, none⟩ (.int .i64 z.2) = W4 at *
  have v0 : W4.cell? ⟨g, 0, none⟩ = some (.int .i64 z.1) := HR4.out.cell 0
  have v1 : W4.cell? ⟨g, 1, none⟩ = some (.int .i64 z.2) := HR4.out.cell 1
  refine bodyPost_ret (v := spanE z) (by simp [results, Tryd.results19, go_sem, v0, v1]) rfl ⟨rfl, ?_⟩
  rw [HG.out]
  exact HB4.out
end Go.Proofs.YtfjpfllamalfeaaDoor

/- moon.Elongation. -/
namespace Go.Proofs.YtfjpfllamalfeaaDoor
open Go.RowKit
set_option linter.unusedVariables false
set_option linter.unusedSimpArgs false
set_option maxHeartbeats 1000000 in
set_option maxRecDepth 100000 in
theorem elong_any (i : Int) (i0 : -300000000000000 ≤ i) (i1 : i ≤ 300000000000000) (w : World) (hT : TrigT w) : ∃ z, elongF i = some z ∧ (0 ≤ z.1 ∧ z.1 < 1000000000) ∧ (-40000000000000000 ≤ z.2 ∧ z.2 ≤ 40000000000000000) ∧ ∀ w, TrigT w → Calls Tryd.prog 15 #[.int .i64 i] w fun e w' => e = .returned (spanE z) ∧ Below w.heap.size w w' := by
  obtain ⟨x, gx, ox, HX⟩ := moonlon_any i i0 i1 w hT
  obtain ⟨y, gy, oy, HY⟩ := sunlon_any i i0 i1 w hT
  have x0 := ox.a0
  have x1 := ox.a1
  have x2 := ox.b0
  have x3 := ox.b1
  have y0 := oy.a0
  have y1 := oy.a1
  have y2 := oy.b0
  have y3 := oy.b1
  unfold elongF
  rw [gx, Option.bind_some, gy, Option.bind_some]
  have Z1 : 0 ≤ (normI (x.1 - y.2) (x.2 - y.1)).1 ∧ (normI (x.1 - y.2) (x.2 - y.1)).1 < 1000000000 := by
    unfold normI
    dsimp only
    omega
  have Z2 : -40000000000000000 ≤ (normI (x.1 - y.2) (x.2 - y.1)).2 ∧ (normI (x.1 - y.2) (x.2 - y.1)).2 ≤ 40000000000000000 := by
    unfold normI
    dsimp only
    omega
  have HLs := Lib.hid (fun w => less_any x.1 x.2 y.1 y.2 w (by omega) (by omega) (by omega) (by omega) (by omega) (by omega) (by omega) (by omega))
  refine ⟨_, rfl, Z1, Z2, ?_⟩
  clear Z1 Z2
  generalize normI (x.1 - y.2) (x.2 - y.1) = z at *
  have HX := Lib.hid HX
  have HY := Lib.hid HY
  clear gx gy ox oy x0 x1 x2 x3 y0 y1 y2 y3 hT w
  intro w hT
  have HT := Lib.hid hT
  have HB := Lib.hid (below_alloc1 w (Obj.cells #[.int .i64 0, .int .i64 0] 27))
  have HR := Lib.hid (Box.new w 27 #[.int .i64 0, .int .i64 0])
  clear hT
  go_enter Tryd.func15, Tryd.ntmps15
  go_upto_region 1 with fail
  have HT1 := Lib.hid (HT.out.next HB.out)
  clear HT
  generalize w.alloc (Obj.cells #[.int .i64 0, .int .i64 0] 27) = W1 at *
  generalize hg : w.heap.size = g at *
  have HG := Lib.hid hg
  clear hg
  have l3 := HR.out.lt
  go_upto_region 4 with (go_at_call 18; refine (HX.out _ HT1.out).mono ?_; rintro e w2 ⟨rfl, hb2⟩)
  have l2 := hb2.size
  have HR2 := Lib.hid ((HR.out.below hb2).alloc (Obj.cells #[.int .i64 x.1, .int .i64 x.2] 27))
  have HX2 := Lib.hid (Box.new w2 27 #[.int .i64 x.1, .int .i64 x.2])
  have HT2 := Lib.hid ((HT1.out.next hb2).next (below_alloc1 w2 (Obj.cells #[.int .i64 x.1, .int .i64 x.2] 27)))
  have HB2 := Lib.hid (HB.out.trans ((below_then hb2 (below_alloc1 w2 (Obj.cells #[.int .i64 x.1, .int .i64 x.2] 27))).mono (by omega)))
  clear hb2 HR HB HT1 HX
  generalize w2.alloc (Obj.cells #[.int .i64 x.1, .int .i64 x.2] 27) = W2 at *
  generalize hga : w2.heap.size = ga at *
  clear hga
  go_upto_region 5 with (go_at_call 19; refine (HY.out _ HT2.out).mono ?_; rintro e w3 ⟨rfl, hb3⟩)
  have l2' := hb3.size
  have lx := HX2.out.lt
  have HR3 := Lib.hid ((HR2.out.below hb3).alloc (Obj.cells #[.int .i64 y.1, .int .i64 y.2] 27))
  have HX3 := Lib.hid ((HX2.out.below hb3).alloc (Obj.cells #[.int .i64 y.1, .int .i64 y.2] 27))
  have HY3 := Lib.hid (Box.new w3 27 #[.int .i64 y.1, .int .i64 y.2])
  have HB3 := Lib.hid (HB2.out.trans ((below_then hb3 (below_alloc1 w3 (Obj.cells #[.int .i64 y.1, .int .i64 y.2] 27))).mono (by omega)))
  clear hb3 HR2 HB2 HX2 HT2 HY
  generalize w3.alloc (Obj.cells #[.int .i64 y.1, .int .i64 y.2] 27) = W3 at *
  generalize hgb : w3.heap.size = gb at *
  clear hgb
  have x0 : W3.cell? ⟨ga, 0, none⟩ = some (.int .i64 x.1) := HX3.out.cell 0
  have x1 : W3.cell? ⟨ga, 1, none⟩ = some (.int .i64 x.2) := HX3.out.cell 1
  have y0 : W3.cell? ⟨gb, 0, none⟩ = some (.int .i64 y.1) := HY3.out.cell 0
  have y1 : W3.cell? ⟨gb, 1, none⟩ = some (.int .i64 y.2) := HY3.out.cell 1
  have l4 := HR3.out.lt
  have lift : ∀ w4, Below W3.heap.size W3 w4 → Box w4 g 27 #[.int .i64 0, .int .i64 0] ∧ Below g w w4 := fun w4 b4 => ⟨HR3.out.below b4, HB3.out.trans (b4.mono (by omega))⟩
  have HL := Lib.hid lift
  clear lift HR3 HB3 HX3 HY3
  clear l2 l2' l3 l4 lx
  go_wp2_with (go_at_call 20; refine (HLs.out _).mono ?_; rintro e w4 ⟨rfl, hb4⟩; obtain ⟨HR, HB⟩ := HL.out _ hb4; have q0 : w4.frozen? ⟨g, 0, none⟩ = false := HR.free 0; have q1 : w4.frozen? ⟨g, 1, none⟩ = false := HR.free 1; have u0 : w4.cell? ⟨g, 0, none⟩ = some (.int .i64 0) := HR.cell 0; have u1 : w4.cell? ⟨g, 1, none⟩ = some (.int .i64 0) := HR.cell 1; replace HR := Lib.hid HR; replace HB := Lib.hid HB; clear hb4 HL x0 x1 y0 y1)
  have HR4 := Lib.hid ((HR.out.set_ 0 (.int .i64 z.1)).set_ 1 (.int .i64 z.2))
  have HB4 := Lib.hid ((HB.out.setCell (p := ⟨g, 0, none⟩) (by show g ≤ g; omega) (.int .i64 z.1)).setCell (p := ⟨g, 1, none⟩) (by show g ≤ g; omega) (.int .i64 z.2))
  clear HR HB q0 q1 u0 u1
  generalize (w4.setCell ⟨g, 0, none⟩ (.int .i64 z.1)).setCell ⟨g, 1, none⟩ (.int .i64 z.2) = W4 at *
  have v0 : W4.cell? ⟨g, 0, none⟩ = some (.int .i64 z.1) := HR4.out.cell 0
  have v1 : W4.cell? ⟨g, 1, none⟩ = some (.int .i64 z.2) := HR4.out.cell 1
  refine bodyPost_ret (v := spanE z) (by simp [results, Tryd.results15, go_sem, v0, v1]) rfl ⟨rfl, ?_⟩
  rw [HG.out]
  exact HB4.out
end Go.Proofs.YtfjpfllamalfeaaDoor

/- series.Side: on which side of a target an interval of angles lies. -/
namespace Go.Proofs.YtfjpfllamalfeaaDoor
open Go.RowKit
set_option linter.unusedVariables false
set_option linter.unusedSimpArgs false
set_option maxHeartbeats 1000000 in
set_option maxRecDepth 100000 in
theorem side_any (a b t : Int) (w : World) (a0 : 0 ≤ a) (a1 : a < 1000000000) (b0 : -40000000000000000 ≤ b) (b1 : b ≤ 40000000000000000) (t0 : 0 ≤ t) (t1 : t ≤ 1000000000) : Calls Tryd.prog 16 #[.agg #[.int .i64 a, .int .i64 b], .int .i64 t] w fun e w' => e = .returned (.int .i64 (sideI a b t)) ∧ Below w.heap.size w w' := by
  have HM := Lib.hid (fun w => mod_pos (a - t) 1000000000 w (by omega) (by omega) (by decide) (by decide))
  have m0 : 0 ≤ (a - t) % 1000000000 := Int.emod_nonneg _ (by decide)
  have m1 : (a - t) % 1000000000 < 1000000000 := Int.emod_lt_of_pos _ (by decide)
  have HB := Lib.hid (below_alloc1 w (Obj.cells #[.int .i64 a, .int .i64 b] 27))
  unfold sideI
  generalize (a - t) % 1000000000 = m at *
  have wb : IntKind.i64.wrap (b - a) = b - a := by simp only [IntKind.wrap_i64]; omega
  have wm : IntKind.i64.wrap (m + (b - a)) = m + (b - a) := by simp only [IntKind.wrap_i64]; omega
  obtain ⟨d, hd⟩ : ∃ d, d = b - a := ⟨_, rfl⟩
  have d0 : -40000001000000000 ≤ d ∧ d ≤ 40000000000000000 := by omega
  rw [← hd] at wb wm ⊢
  have wb' := wb
  have wc : IntKind.i64.wrap (b - a) = d := by rw [hd] at wm ⊢; simp only [IntKind.wrap_i64]; omega
  obtain ⟨r, hr⟩ : ∃ r : Int, r = if m = 0 ∨ 1000000000 ≤ m + d then (0 : Int) else if m ≤ 500000000 ∧ 500000000 ≤ m + d then 2 else if m < 500000000 then 1 else -1 := ⟨_, rfl⟩
  rw [← hr]
  by_cases hA : m = 0
  · have hv : r = 0 := by rw [hr]; (repeat' split) <;> omega
    rw [hv]
    clear hv hr
    have tA : (m == 0) = true := by rw [hA]; rfl
    clear hA hd
    go_enter Tryd.func16, Tryd.ntmps16
    go_wp2_with (go_at_call 21; refine (HM.out _).mono ?_; rintro e w' ⟨rfl, n1, rfl⟩)
    go_ret
    exact ⟨rfl, below_drew HB.out n1⟩
  by_cases hB : 1000000000 ≤ m + d
  · have hv : r = 0 := by rw [hr]; (repeat' split) <;> omega
    rw [hv]
    clear hv hr
    have tA : (m == 0) = false := by exact beq_eq_false_iff_ne.2 hA
    have tB : decide (1000000000 ≤ m + d) = true := decide_eq_true hB
    clear hA hB hd
    go_enter Tryd.func16, Tryd.ntmps16
    go_wp2_with (go_at_call 21; refine (HM.out _).mono ?_; rintro e w' ⟨rfl, n1, rfl⟩)
    go_ret
    exact ⟨rfl, below_drew HB.out n1⟩
  by_cases hC : m ≤ 500000000
  · by_cases hD : 500000000 ≤ m + d
    · have hv : r = 2 := by rw [hr]; (repeat' split) <;> omega
      rw [hv]
      clear hv hr
      have tA : (m == 0) = false := by exact beq_eq_false_iff_ne.2 hA
      have tB : decide (1000000000 ≤ m + d) = false := decide_eq_false hB
      have tC : decide (m ≤ 500000000) = true := decide_eq_true hC
      have tD : decide (500000000 ≤ m + d) = true := decide_eq_true hD
      clear hA hB hC hD hd
      go_enter Tryd.func16, Tryd.ntmps16
      go_wp2_with (go_at_call 21; refine (HM.out _).mono ?_; rintro e w' ⟨rfl, n1, rfl⟩)
      go_ret
      exact ⟨rfl, below_drew HB.out n1⟩
    by_cases hE : m < 500000000
    · have hv : r = 1 := by rw [hr]; (repeat' split) <;> omega
      rw [hv]
      clear hv hr
      have tA : (m == 0) = false := by exact beq_eq_false_iff_ne.2 hA
      have tB : decide (1000000000 ≤ m + d) = false := decide_eq_false hB
      have tC : decide (m ≤ 500000000) = true := decide_eq_true hC
      have tD : decide (500000000 ≤ m + d) = false := decide_eq_false hD
      have tE : decide (m < 500000000) = true := decide_eq_true hE
      clear hA hB hC hD hE hd
      go_enter Tryd.func16, Tryd.ntmps16
      go_wp2_with (go_at_call 21; refine (HM.out _).mono ?_; rintro e w' ⟨rfl, n1, rfl⟩)
      go_ret
      exact ⟨rfl, below_drew HB.out n1⟩
    · have hv : r = -1 := by rw [hr]; (repeat' split) <;> omega
      rw [hv]
      clear hv hr
      have tA : (m == 0) = false := by exact beq_eq_false_iff_ne.2 hA
      have tB : decide (1000000000 ≤ m + d) = false := decide_eq_false hB
      have tC : decide (m ≤ 500000000) = true := decide_eq_true hC
      have tD : decide (500000000 ≤ m + d) = false := decide_eq_false hD
      have tE : decide (m < 500000000) = false := decide_eq_false hE
      clear hA hB hC hD hE hd
      go_enter Tryd.func16, Tryd.ntmps16
      go_wp2_with (go_at_call 21; refine (HM.out _).mono ?_; rintro e w' ⟨rfl, n1, rfl⟩)
      go_ret
      exact ⟨rfl, below_drew HB.out n1⟩
  have hE : ¬ (m < 500000000) := by omega
  · have hv : r = -1 := by rw [hr]; (repeat' split) <;> omega
    rw [hv]
    clear hv hr
    have tA : (m == 0) = false := by exact beq_eq_false_iff_ne.2 hA
    have tB : decide (1000000000 ≤ m + d) = false := decide_eq_false hB
    have tC : decide (m ≤ 500000000) = false := decide_eq_false hC
    have tE : decide (m < 500000000) = false := decide_eq_false hE
    clear hA hB hC hE hd
    go_enter Tryd.func16, Tryd.ntmps16
    go_wp2_with (go_at_call 21; refine (HM.out _).mono ?_; rintro e w' ⟨rfl, n1, rfl⟩)
    go_ret
    exact ⟨rfl, below_drew HB.out n1⟩
end Go.Proofs.YtfjpfllamalfeaaDoor

/- phase.find$1: the side of the elongation at an instant. -/
namespace Go.Proofs.YtfjpfllamalfeaaDoor
open Go.RowKit
set_option linter.unusedVariables false
set_option linter.unusedSimpArgs false
set_option maxHeartbeats 1000000 in
set_option maxRecDepth 100000 in
theorem findside_any (q i : Int) (q0 : 0 ≤ q) (q1 : q ≤ 3) (i0 : -300000000000000 ≤ i) (i1 : i ≤ 300000000000000) (gq : Nat) (w : World) (hT : TrigT w) (hq : w.cell? ⟨gq, 0, none⟩ = some (.int .i64 q)) : Calls Tryd.prog 14 (#[.int .i64 i] ++ #[.pointer (some ⟨gq, 0, none⟩)]) w fun e w' => e = .returned (.int .i64 (sideF q i)) ∧ Below w.heap.size w w' := by
  obtain ⟨z, gz, z1, z2, hc⟩ := elong_any i i0 i1 w hT
  have HE := Lib.hid hc
  have HS := Lib.hid (fun w => side_any z.1 z.2 (q * 250000000) w z1.1 z1.2 z2.1 z2.2 (by omega) (by omega))
  unfold sideF
  rw [gz]
  dsimp only
  generalize sideI z.1 z.2 (q * 250000000) = r at *
  have HT := Lib.hid hT
  have hgl : gq < w.heap.size := block_lt_of_cell hq
  have HQ := Lib.hid hq
  have e1 : IntKind.i64.wrap (q * 1000000000) = q * 1000000000 := by simp only [IntKind.wrap_i64]; omega
  have e2 : (q * 1000000000).tdiv 4 = q * 250000000 := by rw [Int.tdiv_eq_ediv_of_nonneg (by omega)]; omega
  have e3 : q * 1000000000 / 4 = q * 250000000 := by omega
  clear hT hc hq gz z1 z2
  go_enter Tryd.func14, Tryd.ntmps14
  go_upto_region 2 with (go_at_call 15; refine (HE.out _ HT.out).mono ?_; rintro e w2 ⟨rfl, hb2⟩)
  have hb3 := below_then hb2 (below_alloc1 w2 (Obj.cells #[.int .i64 z.1, .int .i64 z.2] 27))
  have hq2 : (w2.alloc (Obj.cells #[.int .i64 z.1, .int .i64 z.2] 27)).cell? ⟨gq, 0, none⟩ = some (.int .i64 q) := (hb3.cell (p := ⟨gq, 0, none⟩) hgl).trans HQ.out
  have HB3 := Lib.hid hb3
  have HZ := Lib.hid (Box.new w2 27 #[.int .i64 z.1, .int .i64 z.2])
  clear hb2 hb3
  generalize w2.alloc (Obj.cells #[.int .i64 z.1, .int .i64 z.2] 27) = W2 at *
  generalize w2.heap.size = ga at *
  have x0 : W2.cell? ⟨ga, 0, none⟩ = some (.int .i64 z.1) := HZ.out.cell 0
  have x1 : W2.cell? ⟨ga, 1, none⟩ = some (.int .i64 z.2) := HZ.out.cell 1
  go_wp2_with (go_at_call 16; refine (HS.out _).mono ?_; rintro e w3 ⟨rfl, hb3⟩)
  go_ret
  exact ⟨rfl, below_then HB3.out hb3⟩
end Go.Proofs.YtfjpfllamalfeaaDoor

/- series.last, Narrow$1, Narrow$2. -/
namespace Go.Proofs.YtfjpfllamalfeaaDoor
open Go.RowKit
set_option linter.unusedVariables false
set_option linter.unusedSimpArgs false
theorem last_end (p : Int → Bool) (n : Nat) (lo hi : Int) (h : hi - lo ≤ 1) : lastF p n lo hi = lo := by
  cases n with
  | zero => rfl
  | succ n => unfold lastF; rw [if_pos h]
theorem last_yes (p : Int → Bool) (n : Nat) (lo hi : Int) (h : ¬ hi - lo ≤ 1) (hp : p (lo + (hi - lo) / 2) = true) : lastF p (n + 1) lo hi = lastF p n (lo + (hi - lo) / 2) hi := by
  rw [lastF, if_neg h, if_pos hp]
theorem last_no (p : Int → Bool) (n : Nat) (lo hi : Int) (h : ¬ hi - lo ≤ 1) (hp : p (lo + (hi - lo) / 2) = false) : lastF p (n + 1) lo hi = lastF p n lo (lo + (hi - lo) / 2) := by
  rw [lastF, if_neg h, if_neg (by rw [hp]; decide)]
theorem pow_half (n : Nat) : ((2 ^ (n + 1) : Nat) : Int) = 2 * ((2 ^ n : Nat) : Int) := by
  rw [Nat.pow_succ]; omega
set_option maxHeartbeats 1000000 in
set_option maxRecDepth 100000 in
theorem slast_any (g : Nat) (cb : Array Value) (p : Int → Bool) (S : World → Prop) (lo0 hi0 : Int) (w : World) (hS : S w) (hl : lo0 ≤ hi0) (hn : -400000000000000 ≤ lo0) (hx : hi0 ≤ 400000000000000) (hw : hi0 - lo0 ≤ ((2 ^ 40 : Nat) : Int)) (eg : ∀ args w, (callFunc g args).run Tryd.prog w = .ok (.enter g args) w)
    (hf : ∀ W x, S W → lo0 ≤ x → x ≤ hi0 → Calls Tryd.prog g (#[.int .i64 x] ++ cb) W fun e w' => e = .returned (.bool (p x)) ∧ S w') :
    Calls Tryd.prog 22 #[.int .i64 lo0, .int .i64 hi0, .func (.func g) #[] cb] w fun e w' => e = .returned (.int .i64 (lastF p 40 lo0 hi0)) ∧ S w' := by
  have HF := Lib.hid hf
  have HS := Lib.hid hS
  have HW := Lib.hid hw
  obtain ⟨R, hR⟩ : ∃ R, R = lastF p 40 lo0 hi0 := ⟨_, rfl⟩
  rw [← hR]
  have HR := Lib.hid hR.symm
  clear hf hS hR hw
  go_enter Tryd.func22, Tryd.ntmps22
  go_wp2_with fail
  go_loopg [0, 1] 40 (fun kx s0 s1 wr => ∃ (lo hi : Int), s0 = .int .i64 lo ∧ s1 = .int .i64 hi ∧ lo0 ≤ lo ∧ lo ≤ hi ∧ hi ≤ hi0 ∧ Hid (hi - lo ≤ ((2 ^ kx : Nat) : Int)) ∧ Hid (lastF p kx lo hi = R) ∧ Hid (S wr))
  case atStart => exact ⟨lo0, hi0, rfl, rfl, Int.le_refl _, hl, Int.le_refl _, HW, HR, HS⟩
  case round =>
    obtain ⟨lo, hi, rfl, rfl, h1, h2, h3, HP, HL, HSr⟩ := hrel
    by_cases hlt : 1 < hi - lo
    · have hk : ∃ k, gk = k + 1 := by
        cases gk with
        | zero => have := HP.out; rw [show ((2 ^ 0 : Nat) : Int) = 1 from rfl] at this; omega
        | succ k => exact ⟨k, rfl⟩
      obtain ⟨k, rfl⟩ := hk
      have hpw := HP.out
      rw [pow_half] at hpw
      have HP1 : Hid (hi - (lo + (hi - lo) / 2) ≤ ((2 ^ k : Nat) : Int)) := by unfold Hid; omega
      have HP2 : Hid (lo + (hi - lo) / 2 - lo ≤ ((2 ^ k : Nat) : Int)) := by unfold Hid; omega
      clear hpw
      have hc := HF.out _ (lo + (hi - lo) / 2) HSr.out (by omega) (by omega)
      have hlt' : decide (1 < hi - lo) = true := decide_eq_true hlt
      cases hp : p (lo + (hi - lo) / 2) <;> rw [hp] at hc
      · have HL1 := Lib.hid ((last_no p k lo hi (by omega) hp).symm.trans HL.out)
        clear hp HL HP
        go_wp2_with (go_at_fn g; refine hc.mono ?_; rintro e w' ⟨rfl, hs'⟩)
        go_roundg k
        case measure => omega
        case rel => exact ⟨lo, lo + (hi - lo) / 2, rfl, rfl, by omega, by omega, by omega, HP2, HL1, hs'⟩
      · have HL1 := Lib.hid ((last_yes p k lo hi (by omega) hp).symm.trans HL.out)
        clear hp HL HP
        go_wp2_with (go_at_fn g; refine hc.mono ?_; rintro e w' ⟨rfl, hs'⟩)
        go_roundg k
        case measure => omega
        case rel => exact ⟨lo + (hi - lo) / 2, hi, rfl, rfl, by omega, by omega, by omega, HP1, HL1, hs'⟩
    · have HLE := Lib.hid ((last_end p gk lo hi (by omega)).symm.trans HL.out)
      have hlt' : decide (1 < hi - lo) = false := decide_eq_false hlt
      go_wp2_with fail
      go_ret
      exact ⟨by rw [← HLE.out]; rfl, HSr.out⟩
end Go.Proofs.YtfjpfllamalfeaaDoor

/- series.Narrow$1, Narrow$2, Narrow, at the side of the elongation. -/
namespace Go.Proofs.YtfjpfllamalfeaaDoor
open Go.RowKit
set_option linter.unusedVariables false
set_option linter.unusedSimpArgs false
abbrev sideV (gq : Nat) : Value := .func (.func 14) #[] #[.pointer (some ⟨gq, 0, none⟩)]
/-- the closure of the side, and the quarter that it has captured, in memory -/
structure SideIn (w : World) (gs gq : Nat) (q : Int) : Prop where
  T : TrigT w
  s : w.cell? ⟨gs, 0, none⟩ = some (sideV gq)
  q : w.cell? ⟨gq, 0, none⟩ = some (.int .i64 q)
theorem SideIn.next {w w' : World} {gs gq : Nat} {q : Int} (h : SideIn w gs gq q) (hb : Below w.heap.size w w') : SideIn w' gs gq q :=
  ⟨h.T.next hb, (hb.cell (p := ⟨gs, 0, none⟩) (block_lt_of_cell h.s)).trans h.s, (hb.cell (p := ⟨gq, 0, none⟩) (block_lt_of_cell h.q)).trans h.q⟩
set_option maxRecDepth 100000 in
theorem nar1_any (q i : Int) (q0 : 0 ≤ q) (q1 : q ≤ 3) (i0 : -300000000000000 ≤ i) (i1 : i ≤ 300000000000000) (gs gq : Nat) (w : World) (h : SideIn w gs gq q) : Calls Tryd.prog 23 (#[.int .i64 i] ++ #[.pointer (some ⟨gs, 0, none⟩)]) w fun e w' => e = .returned (.bool (sideF q i == -1)) ∧ Below w.heap.size w w' := by
  have hc := findside_any q i q0 q1 i0 i1 gq w h.T h.q
  have hs := h.s
  generalize sideF q i = r at *
  go_enter Tryd.func23, Tryd.ntmps23
  go_wp2_with fail
  refine hc.mono ?_
  rintro e w' ⟨rfl, hs'⟩
  go_wp2_with fail
  go_ret
  exact ⟨rfl, hs'⟩
set_option maxRecDepth 100000 in
theorem nar2_any (q i : Int) (q0 : 0 ≤ q) (q1 : q ≤ 3) (i0 : -300000000000000 ≤ i) (i1 : i ≤ 300000000000000) (gs gq : Nat) (w : World) (h : SideIn w gs gq q) : Calls Tryd.prog 24 (#[.int .i64 i] ++ #[.pointer (some ⟨gs, 0, none⟩)]) w fun e w' => e = .returned (.bool (sideF q (-i) == 1)) ∧ Below w.heap.size w w' := by
  have hc := findside_any q (-i) q0 q1 (by omega) (by omega) gq w h.T h.q
  have hs := h.s
  generalize sideF q (-i) = r at *
  go_enter Tryd.func24, Tryd.ntmps24
  go_wp2_with fail
  refine hc.mono ?_
  rintro e w' ⟨rfl, hs'⟩
  go_wp2_with fail
  go_ret
  exact ⟨rfl, hs'⟩
theorem nar_end (sd : Int → Int) (k : Int) (n : Nat) (lo hi : Int) (h : hi - lo ≤ k) : narF sd k n lo hi = (lo, hi) := by
  cases n with
  | zero => rfl
  | succ n => unfold narF; rw [if_pos h]
theorem nar_low (sd : Int → Int) (k : Int) (n : Nat) (lo hi : Int) (h : ¬ hi - lo ≤ k) (hp : sd (lo + (hi - lo) / 2) = -1) : narF sd k (n + 1) lo hi = narF sd k n (lo + (hi - lo) / 2) hi := by
  rw [narF, if_neg h, if_pos hp]
theorem nar_high (sd : Int → Int) (k : Int) (n : Nat) (lo hi : Int) (h : ¬ hi - lo ≤ k) (hp : sd (lo + (hi - lo) / 2) = 1) : narF sd k (n + 1) lo hi = narF sd k n lo (lo + (hi - lo) / 2) := by
  rw [narF, if_neg h, if_neg (by rw [hp]; decide), if_pos hp]
theorem nar_last (sd : Int → Int) (k : Int) (n : Nat) (lo hi : Int) (h : ¬ hi - lo ≤ k) (hp : sd (lo + (hi - lo) / 2) ≠ -1) (hq : sd (lo + (hi - lo) / 2) ≠ 1) : narF sd k (n + 1) lo hi = (lastF (fun x => sd x == -1) 40 lo (lo + (hi - lo) / 2), -lastF (fun x => sd (-x) == 1) 40 (-hi) (-(lo + (hi - lo) / 2))) := by
  rw [narF, if_neg h, if_neg hp, if_neg hq]
/-- what Narrow gives: the interval, and a word whether it is narrow -/
def NarQ (R : Int × Int) (w : World) (e : Ending) (w' : World) : Prop := ∃ bb : Bool, e = .returned (.tuple #[.agg (spanC R), .bool bb]) ∧ Below w.heap.size w w'
set_option maxHeartbeats 2000000 in
set_option maxRecDepth 100000 in
theorem narrow_any (q lo0 hi0 : Int) (q0 : 0 ≤ q) (q1 : q ≤ 3) (l0 : -300000000000000 ≤ lo0) (lh : lo0 ≤ hi0) (h0 : hi0 ≤ 300000000000000) (hw : hi0 - lo0 ≤ 1000000000000) (gq : Nat) (w : World) (hT : TrigT w) (hq : w.cell? ⟨gq, 0, none⟩ = some (.int .i64 q)) :
    Calls Tryd.prog 17 #[.agg #[.int .i64 lo0, .int .i64 hi0], .int .i64 600000, sideV gq] w (NarQ (narF (sideF q) 600000 40 lo0 hi0) w) := by
  obtain ⟨R, hR⟩ : ∃ R, R = narF (sideF q) 600000 40 lo0 hi0 := ⟨_, rfl⟩
  rw [← hR]
  have HR := Lib.hid hR.symm
  have HT := Lib.hid hT
  have HQ := Lib.hid hq
  have HB := Lib.hid (below_alloc3 w (Obj.cells #[.int .i64 lo0, .int .i64 hi0] 27) (Obj.cells #[sideV gq] 39) (Obj.cells #[.int .i64 0, .int .i64 0] 27))
  have HX := Lib.hid (((Box.new w 27 #[.int .i64 lo0, .int .i64 hi0]).alloc (Obj.cells #[sideV gq] 39)).alloc (Obj.cells #[.int .i64 0, .int .i64 0] 27))
  have HV := Lib.hid ((Box.new (w.alloc (Obj.cells #[.int .i64 lo0, .int .i64 hi0] 27)) 39 #[sideV gq]).alloc (Obj.cells #[.int .i64 0, .int .i64 0] 27))
  have HZ := Lib.hid (Box.new ((w.alloc (Obj.cells #[.int .i64 lo0, .int .i64 hi0] 27)).alloc (Obj.cells #[sideV gq] 39)) 27 #[.int .i64 0, .int .i64 0])
  simp only [World.size_alloc] at HZ HV
  clear hR hT hq
  go_enter Tryd.func17, Tryd.ntmps17
  go_upto_region 1 with fail
  have HT1 := Lib.hid (HT.out.next HB.out)
  have HQ1 := Lib.hid ((HB.out.cell (p := ⟨gq, 0, none⟩) (block_lt_of_cell HQ.out)).trans HQ.out)
  clear HT HQ
  generalize ((w.alloc (Obj.cells #[.int .i64 lo0, .int .i64 hi0] 27)).alloc (Obj.cells #[sideV gq] 39)).alloc (Obj.cells #[.int .i64 0, .int .i64 0] 27) = W1 at *
  generalize hg : w.heap.size = g at *
  have HG := Lib.hid hg
  clear hg
  have x0 : W1.cell? ⟨g, 0, none⟩ = some (.int .i64 lo0) := HX.out.cell 0
  have x1 : W1.cell? ⟨g, 1, none⟩ = some (.int .i64 hi0) := HX.out.cell 1
  go_quiet (fail)
  go_wp2_with fail
  have HS2 : Hid (SideIn (W1.drewN nq) (g + 1) gq q) := ⟨HT1.out.next (below_drewN _ nq), HV.out.cell 0, HQ1.out⟩
  have HZ2 := Lib.hid (HZ.out.drewN nq)
  have HB2 := Lib.hid (below_drew HB.out nq)
  clear HT1 HQ1 HB HX HZ HV x0 x1
  generalize W1.drewN nq = W2 at *
  have HW : Hid (hi0 - lo0 ≤ ((2 ^ 40 : Nat) : Int)) := by
    unfold Hid
    rw [show ((2 ^ 40 : Nat) : Int) = 1099511627776 from rfl]
    omega
  go_loopg [8, 9] 40 (fun kx s0 s1 wr => ∃ (lo hi : Int), s0 = .int .i64 lo ∧ s1 = .int .i64 hi ∧ lo0 ≤ lo ∧ lo ≤ hi ∧ hi ≤ hi0 ∧ Hid (hi - lo ≤ ((2 ^ kx : Nat) : Int)) ∧ Hid (narF (sideF q) 600000 kx lo hi = R) ∧ Hid (SideIn wr (g + 1) gq q) ∧ Hid (Box wr (g + 1 + 1) 27 #[.int .i64 0, .int .i64 0]) ∧ Hid (Below g w wr))
  case atStart => exact ⟨lo0, hi0, rfl, rfl, Int.le_refl _, lh, Int.le_refl _, HW, HR, HS2, HZ2, HB2⟩
  case round =>
    obtain ⟨lo, hi, rfl, rfl, h1, h2, h3, HP, HL, HSr, HZr, HBr⟩ := hrel
    clear HR HS2 HZ2 HB2
    by_cases hlt : 600000 < hi - lo
    · have hk : ∃ k, gk = k + 1 := by
        cases gk with
        | zero => have := HP.out; rw [show ((2 ^ 0 : Nat) : Int) = 1 from rfl] at this; omega
        | succ k => exact ⟨k, rfl⟩
      obtain ⟨k, rfl⟩ := hk
      have hpw := HP.out
      rw [pow_half] at hpw
      have HP1 : Hid (hi - (lo + (hi - lo) / 2) ≤ ((2 ^ k : Nat) : Int)) := by unfold Hid; omega
      have HP2 : Hid (lo + (hi - lo) / 2 - lo ≤ ((2 ^ k : Nat) : Int)) := by unfold Hid; omega
      clear hpw
      have hsv := HSr.out.s
      have hc := findside_any q (lo + (hi - lo) / 2) q0 q1 (by omega) (by omega) gq wr HSr.out.T HSr.out.q
      have hlt' : decide (600000 < hi - lo) = true := decide_eq_true hlt
      have lz := HZr.out.lt
      by_cases hp : sideF q (lo + (hi - lo) / 2) = -1
      · rw [hp] at hc
        have HL1 := Lib.hid ((nar_low (sideF q) 600000 k lo hi (by omega) hp).symm.trans HL.out)
        clear hp HL HP
        go_wp2_with (go_at_fn 14; refine hc.mono ?_; rintro e w' ⟨rfl, hs'⟩)
        refine hc.mono ?_
        rintro e w' ⟨rfl, hs'⟩
        go_wp2_with fail
        go_roundg k
        case measure => omega
        case rel => exact ⟨lo + (hi - lo) / 2, hi, rfl, rfl, by omega, by omega, by omega, HP1, HL1, HSr.out.next hs', HZr.out.below hs', HBr.out.trans (hs'.mono (by omega))⟩
      · by_cases hq : sideF q (lo + (hi - lo) / 2) = 1
        · rw [hq] at hc
          have HL1 := Lib.hid ((nar_high (sideF q) 600000 k lo hi (by omega) hq).symm.trans HL.out)
          clear hq hp HL HP
          go_wp2_with fail
          refine hc.mono ?_
          rintro e w' ⟨rfl, hs'⟩
          go_wp2_with fail
          go_roundg k
          case measure => omega
          case rel => exact ⟨lo, lo + (hi - lo) / 2, rfl, rfl, by omega, by omega, by omega, HP2, HL1, HSr.out.next hs', HZr.out.below hs', HBr.out.trans (hs'.mono (by omega))⟩
        · have HL1 := Lib.hid ((nar_last (sideF q) 600000 k lo hi (by omega) hp hq).symm.trans HL.out)
          have tp : (sideF q (lo + (hi - lo) / 2) == -1) = false := beq_eq_false_iff_ne.2 hp
          have tq : (sideF q (lo + (hi - lo) / 2) == 1) = false := beq_eq_false_iff_ne.2 hq
          clear hp hq HL HP HP1 HP2
          go_wp2_with fail
          refine hc.mono ?_
          rintro e w' ⟨rfl, hs'⟩
          go_upto_region 5 with fail
          have HS3 := Lib.hid (HSr.out.next hs')
          have HZ3 := Lib.hid (HZr.out.below hs')
          have HB3 := Lib.hid (HBr.out.trans (hs'.mono (by omega)))
          have lz3 := HZ3.out.lt
          clear hs' HSr HZr HBr hsv tp tq lz
          have m1 : lo ≤ lo + (hi - lo) / 2 := by omega
          have m2 : lo + (hi - lo) / 2 ≤ hi := by omega
          generalize lo + (hi - lo) / 2 = M at *
          have hpow : ((2 ^ 40 : Nat) : Int) = 1099511627776 := rfl
          have HLa := Lib.hid (slast_any 23 #[.pointer (some ⟨g + 1, 0, none⟩)] (fun x => sideF q x == -1) (fun W => Below w'.heap.size w' W) lo M w' (Below.refl _ _) m1 (by omega) (by omega) (by rw [hpow]; omega) (fun _ _ => rfl) (fun W x hW a b => (nar1_any q x q0 q1 (by omega) (by omega) (g + 1) gq W (HS3.out.next hW)).mono fun e w2 h => ⟨h.1, below_then hW h.2⟩))
          have HLb := Lib.hid (fun w3 (hb : Below w'.heap.size w' w3) => slast_any 24 #[.pointer (some ⟨g + 1, 0, none⟩)] (fun x => sideF q (-x) == 1) (fun W => Below w'.heap.size w' W) (-hi) (-M) w3 hb (by omega) (by omega) (by omega) (by rw [hpow]; omega) (fun _ _ => rfl) (fun W x hW a b => (nar2_any q x q0 q1 (by omega) (by omega) (g + 1) gq W (HS3.out.next hW)).mono fun e w2 h => ⟨h.1, below_then hW h.2⟩))
          have la := last_in (fun x => sideF q x == -1) 40 lo M m1
          have lb := last_in (fun x => sideF q (-x) == 1) 40 (-hi) (-M) (by omega)
          generalize lastF (fun x => sideF q x == -1) 40 lo M = A at *
          generalize lastF (fun x => sideF q (-x) == 1) 40 (-hi) (-M) = B at *
          go_upto_region 6 with (go_at_call 22; refine HLa.out.mono ?_; rintro e w3 ⟨rfl, hb3⟩)
          have hb3' := Lib.hid hb3
          clear hb3
          go_upto_region 7 with (go_at_call 22; refine (HLb.out _ hb3'.out).mono ?_; rintro e w4 ⟨rfl, hb4⟩)
          have HZ9 := Lib.hid (HZ3.out.below hb4)
          have HB9 := Lib.hid (HB3.out.trans (hb4.mono (by omega)))
          have HLE := HL1
          clear HZ3 HB3 HS3 hb4 hb3' HLa HLb lz3 HL1
          have y0 : w4.cell? ⟨g + 1 + 1, 0, none⟩ = some (.int .i64 0) := HZ9.out.cell 0
          have y1 : w4.cell? ⟨g + 1 + 1, 1, none⟩ = some (.int .i64 0) := HZ9.out.cell 1
          have y2 : w4.frozen? ⟨g + 1 + 1, 0, none⟩ = false := HZ9.out.free 0
          have y3 : w4.frozen? ⟨g + 1 + 1, 1, none⟩ = false := HZ9.out.free 1
          go_wp2_with fail
          generalize decide (-B - A ≤ 600000) = bb at *
          have HR4 := Lib.hid ((HZ9.out.set_ 0 (.int .i64 A)).set_ 1 (.int .i64 (-B)))
          have HB4 := Lib.hid ((HB9.out.setCell (p := ⟨g + 1 + 1, 0, none⟩) (by show g ≤ g + 1 + 1; omega) (.int .i64 A)).setCell (p := ⟨g + 1 + 1, 1, none⟩) (by show g ≤ g + 1 + 1; omega) (.int .i64 (-B)))
          clear y0 y1 y2 y3 HZ9 HB9
          generalize (w4.setCell ⟨g + 1 + 1, 0, none⟩ (.int .i64 A)).setCell ⟨g + 1 + 1, 1, none⟩ (.int .i64 (-B)) = W4 at *
          have v0 : W4.cell? ⟨g + 1 + 1, 0, none⟩ = some (.int .i64 A) := HR4.out.cell 0
          have v1 : W4.cell? ⟨g + 1 + 1, 1, none⟩ = some (.int .i64 (-B)) := HR4.out.cell 1
          refine bodyPost_ret (v := .tuple #[.agg #[.int .i64 A, .int .i64 (-B)], .bool bb]) (by simp [results, Tryd.results17, go_sem, v0, v1]) rfl ⟨bb, ?_, ?_⟩
          · rw [← HLE.out]
          · rw [HG.out]; exact HB4.out
    · have HLE := Lib.hid ((nar_end (sideF q) 600000 gk lo hi (by omega)).symm.trans HL.out)
      have hlt' : decide (600000 < hi - lo) = false := decide_eq_false hlt
      have HZ9 := HZr
      have HB9 := HBr
      have y0 : wr.cell? ⟨g + 1 + 1, 0, none⟩ = some (.int .i64 0) := HZ9.out.cell 0
      have y1 : wr.cell? ⟨g + 1 + 1, 1, none⟩ = some (.int .i64 0) := HZ9.out.cell 1
      have y2 : wr.frozen? ⟨g + 1 + 1, 0, none⟩ = false := HZ9.out.free 0
      have y3 : wr.frozen? ⟨g + 1 + 1, 1, none⟩ = false := HZ9.out.free 1
      go_wp2_with fail
      have HR4 := Lib.hid ((HZ9.out.set_ 0 (.int .i64 lo)).set_ 1 (.int .i64 hi))
      have HB4 := Lib.hid ((HB9.out.setCell (p := ⟨g + 1 + 1, 0, none⟩) (by show g ≤ g + 1 + 1; omega) (.int .i64 lo)).setCell (p := ⟨g + 1 + 1, 1, none⟩) (by show g ≤ g + 1 + 1; omega) (.int .i64 hi))
      clear y0 y1 y2 y3 HZ9 HB9
      generalize (wr.setCell ⟨g + 1 + 1, 0, none⟩ (.int .i64 lo)).setCell ⟨g + 1 + 1, 1, none⟩ (.int .i64 hi) = W4 at *
      have v0 : W4.cell? ⟨g + 1 + 1, 0, none⟩ = some (.int .i64 lo) := HR4.out.cell 0
      have v1 : W4.cell? ⟨g + 1 + 1, 1, none⟩ = some (.int .i64 hi) := HR4.out.cell 1
      refine bodyPost_ret (v := .tuple #[.agg #[.int .i64 lo, .int .i64 hi], .bool true]) (by simp [results, Tryd.results17, go_sem, v0, v1]) rfl ⟨true, ?_, ?_⟩
      · rw [← HLE.out]
      · rw [HG.out]; exact HB4.out
end Go.Proofs.YtfjpfllamalfeaaDoor

/- phase.find, phase.Find. -/
namespace Go.Proofs.YtfjpfllamalfeaaDoor
open Go.RowKit
set_option linter.unusedVariables false
set_option linter.unusedSimpArgs false
set_option maxHeartbeats 2000000 in
set_option maxRecDepth 100000 in
theorem find_any (k q : Int) (k0 : -100000 ≤ k) (k1 : k ≤ 100000) (q0 : 0 ≤ q) (q1 : q ≤ 3) (w : World) (hT : TrigT w) : Calls Tryd.prog 11 #[.int .i64 k, .int .i64 q] w fun e w' => e = .returned (.agg (spanC (findF k q))) ∧ Below w.heap.size w w' := by
  have hin := find_in k q
  have HN := Lib.hid (fun gq w hT hq => narrow_any q (midI k q - 172800000) (midI k q + 172800000) q0 q1 (by unfold midI; omega) (by omega) (by unfold midI; omega) (by omega) gq w hT hq)
  have HF : Hid (narF (sideF q) 600000 40 (midI k q - 172800000) (midI k q + 172800000) = findF k q) := rfl
  rw [HF.out] at HN
  have hm : 977949455 + 2551442878 * k + 637860719 * q = midI k q := rfl
  have mb : -300000000000000 ≤ midI k q ∧ midI k q ≤ 300000000000000 := by unfold midI; omega
  generalize findF k q = R at *
  clear HF hin
  have HT := Lib.hid hT
  have HB := Lib.hid (below_alloc2 w (Obj.cells #[.int .i64 q] 3) (Obj.cells #[.int .i64 0, .int .i64 0] 27))
  have HX := Lib.hid ((Box.new w 3 #[.int .i64 q]).alloc (Obj.cells #[.int .i64 0, .int .i64 0] 27))
  have HZ := Lib.hid (Box.new (w.alloc (Obj.cells #[.int .i64 q] 3)) 27 #[.int .i64 0, .int .i64 0])
  simp only [World.size_alloc] at HZ
  clear hT
  go_enter Tryd.func11, Tryd.ntmps11
  go_upto_region 3 with fail
  generalize midI k q = M at *
  clear hm
  have HT1 := Lib.hid (HT.out.next HB.out)
  clear HT
  generalize (w.alloc (Obj.cells #[.int .i64 q] 3)).alloc (Obj.cells #[.int .i64 0, .int .i64 0] 27) = W1 at *
  generalize hg : w.heap.size = g at *
  have HG := Lib.hid hg
  clear hg
  have HC := Lib.hid (HN.out g W1 HT1.out (HX.out.cell 0))
  clear HN
  have lz := HZ.out.lt
  go_upto_region 4 with (go_at_call 17; refine HC.out.mono ?_; rintro e w2 ⟨bb, rfl, hb2⟩)
  have l2 := hb2.size
  have HZ2 := Lib.hid ((HZ.out.below hb2).alloc (Obj.cells #[.int .i64 R.1, .int .i64 R.2] 27))
  have HR2 := Lib.hid (Box.new w2 27 #[.int .i64 R.1, .int .i64 R.2])
  have HB2 := Lib.hid (HB.out.trans ((below_then hb2 (below_alloc1 w2 (Obj.cells #[.int .i64 R.1, .int .i64 R.2] 27))).mono (by omega)))
  clear hb2 HX HZ HB HT1 HC
  generalize w2.alloc (Obj.cells #[.int .i64 R.1, .int .i64 R.2] 27) = W2 at *
  generalize w2.heap.size = ga at *
  have x0 : W2.cell? ⟨ga, 0, none⟩ = some (.int .i64 R.1) := HR2.out.cell 0
  have x1 : W2.cell? ⟨ga, 1, none⟩ = some (.int .i64 R.2) := HR2.out.cell 1
  have y0 : W2.cell? ⟨g + 1, 0, none⟩ = some (.int .i64 0) := HZ2.out.cell 0
  have y1 : W2.cell? ⟨g + 1, 1, none⟩ = some (.int .i64 0) := HZ2.out.cell 1
  have y2 : W2.frozen? ⟨g + 1, 0, none⟩ = false := HZ2.out.free 0
  have y3 : W2.frozen? ⟨g + 1, 1, none⟩ = false := HZ2.out.free 1
  go_wp2_with fail
  have HR4 := Lib.hid ((HZ2.out.set_ 0 (.int .i64 R.1)).set_ 1 (.int .i64 R.2))
  have HB4 := Lib.hid ((HB2.out.setCell (p := ⟨g + 1, 0, none⟩) (by show g ≤ g + 1; omega) (.int .i64 R.1)).setCell (p := ⟨g + 1, 1, none⟩) (by show g ≤ g + 1; omega) (.int .i64 R.2))
  clear y0 y1 y2 y3 HZ2 HB2 x0 x1 HR2
  generalize (W2.setCell ⟨g + 1, 0, none⟩ (.int .i64 R.1)).setCell ⟨g + 1, 1, none⟩ (.int .i64 R.2) = W4 at *
  have v0 : W4.cell? ⟨g + 1, 0, none⟩ = some (.int .i64 R.1) := HR4.out.cell 0
  have v1 : W4.cell? ⟨g + 1, 1, none⟩ = some (.int .i64 R.2) := HR4.out.cell 1
  refine bodyPost_ret (v := .agg #[.int .i64 R.1, .int .i64 R.2]) (by simp [results, Tryd.results11, go_sem, v0, v1]) rfl ⟨rfl, ?_⟩
  rw [HG.out]; exact HB4.out
set_option maxRecDepth 100000 in
theorem pinr_yes (k : Int) (k0 : -100000 ≤ k) (k1 : k ≤ 100000) (w : World) : Calls Tryd.prog 10 #[.int .i64 k] w fun e w' => e = .returned (.bool true) ∧ w' = w := by
  have t1 : decide (-100000 ≤ k) = true := decide_eq_true k0
  have t2 : decide (k ≤ 100000) = true := decide_eq_true k1
  go_enter Tryd.func10, Tryd.ntmps10
  go_wp2_with fail
  all_goals (go_ret)
  exact ⟨rfl, rfl⟩
set_option maxHeartbeats 1000000 in
set_option maxRecDepth 100000 in
theorem Find_any (k q : Int) (k0 : -100000 ≤ k) (k1 : k ≤ 100000) (q0 : 0 ≤ q) (q1 : q ≤ 3) (w : World) (hT : TrigT w) : Calls Tryd.prog 6 #[.int .i64 k, .int .i64 q] w fun e w' => e = .returned (spanE (findF k q)) ∧ Below w.heap.size w w' := by
  have HF := Lib.hid (fun w hT => find_any k q k0 k1 q0 q1 w hT)
  have HI := Lib.hid (fun w => pinr_yes k k0 k1 w)
  generalize findF k q = R at *
  have t1 : decide (q < 0) = false := decide_eq_false (by omega)
  have t2 : decide (3 < q) = false := decide_eq_false (by omega)
  have HT := Lib.hid hT
  have HB := Lib.hid (below_alloc1 w (Obj.cells #[.int .i64 0, .int .i64 0] 27))
  have HZ := Lib.hid (Box.new w 27 #[.int .i64 0, .int .i64 0])
  clear hT
  go_enter Tryd.func6, Tryd.ntmps6
  go_upto_region 5 with (go_at_call 10; refine (HI.out _).mono ?_; rintro e w' ⟨rfl, rfl⟩)
  have HT1 := Lib.hid (HT.out.next HB.out)
  clear HT
  generalize w.alloc (Obj.cells #[.int .i64 0, .int .i64 0] 27) = W1 at *
  generalize hg : w.heap.size = g at *
  have HG := Lib.hid hg
  clear hg
  have lz := HZ.out.lt
  have lift : ∀ w4, Below W1.heap.size W1 w4 → Box w4 g 27 #[.int .i64 0, .int .i64 0] ∧ Below g w w4 := fun w4 b4 => ⟨HZ.out.below b4, HB.out.trans (b4.mono (by omega))⟩
  have HL := Lib.hid lift
  clear lift HZ HB lz
  go_wp2_with (go_at_call 11; refine (HF.out _ HT1.out).mono ?_; rintro e w4 ⟨rfl, hb4⟩; obtain ⟨HR, HB⟩ := HL.out _ hb4; have q0 : w4.frozen? ⟨g, 0, none⟩ = false := HR.free 0; have q1 : w4.frozen? ⟨g, 1, none⟩ = false := HR.free 1; have u0 : w4.cell? ⟨g, 0, none⟩ = some (.int .i64 0) := HR.cell 0; have u1 : w4.cell? ⟨g, 1, none⟩ = some (.int .i64 0) := HR.cell 1; replace HR := Lib.hid HR; replace HB := Lib.hid HB; clear hb4 HL)
  have HR4 := Lib.hid ((HR.out.set_ 0 (.int .i64 R.1)).set_ 1 (.int .i64 R.2))
  have HB4 := Lib.hid ((HB.out.setCell (p := ⟨g, 0, none⟩) (by show g ≤ g; omega) (.int .i64 R.1)).setCell (p := ⟨g, 1, none⟩) (by show g ≤ g; omega) (.int .i64 R.2))
  clear HR HB q0 q1 u0 u1
  generalize (w4.setCell ⟨g, 0, none⟩ (.int .i64 R.1)).setCell ⟨g, 1, none⟩ (.int .i64 R.2) = W4 at *
  have v0 : W4.cell? ⟨g, 0, none⟩ = some (.int .i64 R.1) := HR4.out.cell 0
  have v1 : W4.cell? ⟨g, 1, none⟩ = some (.int .i64 R.2) := HR4.out.cell 1
  refine bodyPost_ret (v := spanE R) (by simp [results, Tryd.results6, go_sem, v0, v1]) rfl ⟨rfl, ?_⟩
  rw [HG.out]; exact HB4.out
end Go.Proofs.YtfjpfllamalfeaaDoor

/- facts.Moon: the phase of a day. -/
namespace Go.Proofs.YtfjpfllamalfeaaDoor
open Go.RowKit
set_option linter.unusedVariables false
set_option linter.unusedSimpArgs false
theorem moonK_go (day k : Int) (n : Nat) (h : moonQ day k 4 0 = 0) : moonK day (n + 1) k = moonK day n (k + 1) := by rw [moonK, if_pos h]
theorem moonK_stop (day k : Int) (n : Nat) (h : moonQ day k 4 0 ≠ 0) : moonK day (n + 1) k = moonQ day k 4 0 := by rw [moonK, if_neg h]
theorem moonQ_go (day k q : Int) (n : Nat) (h : inDay day k q = false) : moonQ day k (n + 1) q = moonQ day k n (q + 1) := by rw [moonQ, if_neg (by rw [h]; decide)]
theorem moonQ_stop (day k q : Int) (n : Nat) (h : inDay day k q = true) : moonQ day k (n + 1) q = q + 1 := by rw [moonQ, if_pos h]
set_option maxHeartbeats 2000000 in
set_option maxRecDepth 100000 in
theorem fmoon_any (day : Int) (d0 : -2900000 ≤ day) (d1 : day ≤ 2900000) (w : World) (hT : TrigT w) : Calls Tryd.prog 4 #[.int .i64 day] w fun e w' => e = .returned (.tuple #[.int .i64 (moonF day), .int .i64 0]) ∧ Below w.heap.size w w' := by
  have HD := Lib.hid (fun w => down_pos (day * 86400000 - 977949455) 2551442878 w (by omega) (by omega) (by decide) (by decide))
  have nb : -100000 < moonN day - 1 ∧ moonN day + 1 < 100000 := by unfold moonN; omega
  have HR0 : Hid (moonK day 3 (moonN day - 1) = moonF day) := rfl
  have HDD : Hid (∀ x w, -300000000000000 ≤ x → x ≤ 300000000000000 → Calls Tryd.prog 8 #[.int .i64 x, .int .i64 86400000] w fun e w' => e = .returned (.int .i64 (x / 86400000)) ∧ ∃ n, w' = w.drewN n) := fun x w a b => down_pos x 86400000 w (by omega) (by omega) (by decide) (by decide)
  generalize moonF day = R at *
  have HN : Hid ((day * 86400000 - 977949455) / 2551442878 = moonN day) := rfl
  rw [HN.out] at HD
  generalize moonN day = N at *
  have HT := Lib.hid hT
  have t1 : decide (day < -2900000) = false := decide_eq_false (by omega)
  have t2 : decide (2900000 < day) = false := decide_eq_false (by omega)
  clear hT
  go_enter Tryd.func4, Tryd.ntmps4
  go_wp2_with (go_at_call 8; refine (HD.out _).mono ?_; rintro e w' ⟨rfl, n1, rfl⟩)
  have HT1 : Hid (TrigT (w.drewN n1)) := HT.out.next (below_drewN _ n1)
  have HB1 := Lib.hid (below_drewN w n1)
  clear t1 t2 HT
  generalize w.drewN n1 = W1 at *
  go_loopw [5] (fun s wr => ∃ (gk : Nat) (kk : Int), gk ≤ 3 ∧ s = .int .i64 kk ∧ kk = N + 2 - (gk : Int) ∧ Hid (moonK day gk kk = R) ∧ Hid (Below W1.heap.size W1 wr)) (fun s _ => (N + 2 - intOf s).toNat)
  case atStart => exact ⟨3, N - 1, by omega, rfl, by omega, HR0, Below.refl _ _⟩
  case round =>
    obtain ⟨gk, kk, hg, rfl, hk, HK, HBr⟩ := hrel
    cases gk with
    | zero =>
      have HL := HK.out
      have hR : R = 0 := HL.symm
      have tk : decide (kk ≤ N + 1) = false := decide_eq_false (by omega)
      go_wp2_with fail
      go_ret2
      exact ⟨by rw [hR]; rfl, HB1.out.trans (HBr.out.mono HB1.out.size)⟩
    | succ gk =>
      have tk : decide (kk ≤ N + 1) = true := decide_eq_true (by omega)
      obtain ⟨P, hP⟩ : ∃ P, P = moonQ day kk 4 0 := ⟨_, rfl⟩
      have HPQ := Lib.hid hP.symm
      have HGo : Hid (P = 0 → moonK day gk (kk + 1) = R) := fun h => (moonK_go day kk gk (hP.symm.trans h)).symm.trans HK.out
      have HSt : Hid (P ≠ 0 → R = P) := fun h => by
        have := (moonK_stop day kk gk (fun e => h (hP.trans e))).symm.trans HK.out
        rw [← this, hP]
      clear hP HK
      have HKK := Lib.hid hk
      have kb : N - 1 ≤ kk ∧ kk ≤ N + 1 := by omega
      clear hk
      rename World => w9
      go_wp2_with fail
      go_loopw [27] (fun s wr => ∃ (gj : Nat) (q : Int), gj ≤ 4 ∧ s = .int .i64 q ∧ q = 4 - (gj : Int) ∧ Hid (moonQ day kk gj q = P) ∧ Hid (Below W1.heap.size W1 wr)) (fun s _ => (4 - intOf s).toNat)
      case atStart => exact ⟨4, 0, by omega, rfl, by omega, HPQ, HBr⟩
      case round =>
        obtain ⟨gj, q, hj, rfl, hq, HQ, HBq⟩ := hrel
        cases gj with
        | zero =>
          have HP0 : Hid (P = 0) := HQ.out.symm
          have HG := Lib.hid (HGo.out HP0.out)
          clear HGo HSt HQ HPQ
          have tq : decide (q < 4) = false := decide_eq_false (by omega)
          clear hq
          go_wp2_with fail
          go_roundw
          case rel => exact ⟨gk, kk + 1, by omega, by go_num, by have := HKK.out; omega, HG, HBq⟩
          case measure => simp [intOf]; omega
        | succ gj =>
          have tq : decide (q < 4) = true := decide_eq_true (by omega)
          have hF := find_in kk q
          have HC := Lib.hid (fun w hT => Find_any kk q (by omega) (by omega) (by omega) (by omega) w hT)
          have HTr := Lib.hid (HT1.out.next HBq.out)
          have HQg : Hid (inDay day kk q = false → moonQ day kk gj (q + 1) = P) := fun h => (moonQ_go day kk q gj h).symm.trans HQ.out
          have HQs : Hid (inDay day kk q = true → P = q + 1) := fun h => HQ.out.symm.trans (moonQ_stop day kk q gj h)
          have fb : (-300000000000000 ≤ (findF kk q).1 ∧ (findF kk q).1 ≤ 300000000000000) ∧ (-300000000000000 ≤ (findF kk q).2 ∧ (findF kk q).2 ≤ 300000000000000) := by unfold midI at hF; omega
          have HI : Hid (inDay day kk q = (decide ((findF kk q).1 / 86400000 = day) && decide ((findF kk q).2 / 86400000 = day))) := rfl
          rw [HI.out] at HQg HQs
          have HQQ := Lib.hid hq
          have qb : 0 ≤ q ∧ q ≤ 3 := by omega
          clear HI hF HQ hq
          generalize findF kk q = Z at *
          obtain ⟨⟨f1, f2⟩, f3, f4⟩ := fb
          have HD1 := Lib.hid (fun w => HDD.out Z.1 w f1 f2)
          have HD2 := Lib.hid (fun w => HDD.out Z.2 w f3 f4)
          generalize Z.1 / 86400000 = za at *
          generalize Z.2 / 86400000 = zb at *
          go_upto_region 11 with (go_at_call 6; refine (HC.out _ HTr.out).mono ?_; rintro e w5 ⟨rfl, hb5⟩)
          have HZ := Lib.hid (Box.new w5 27 #[.int .i64 Z.1, .int .i64 Z.2])
          have HB5 := Lib.hid (below_then HBq.out (below_then hb5 (below_alloc1 w5 (Obj.cells #[.int .i64 Z.1, .int .i64 Z.2] 27))))
          clear hb5 HTr HBq HC
          generalize w5.alloc (Obj.cells #[.int .i64 Z.1, .int .i64 Z.2] 27) = W5 at *
          generalize w5.heap.size = ga at *
          have x0 : W5.cell? ⟨ga, 0, none⟩ = some (.int .i64 Z.1) := HZ.out.cell 0
          have x1 : ∀ n, (W5.drewN n).cell? ⟨ga, 1, none⟩ = some (.int .i64 Z.2) := fun n => (HZ.out.drewN n).cell 1
          by_cases ea : za = day
          · have ta : (za == day) = true := by rw [ea]; exact beq_self_eq_true _
            by_cases eb : zb = day
            · have tb : (zb == day) = true := by rw [eb]; exact beq_self_eq_true _
              have HP1 := Lib.hid (HQs.out (by rw [decide_eq_true ea, decide_eq_true eb]; rfl))
              have HRP := Lib.hid (HSt.out (by rw [HP1.out]; omega))
              clear ea eb HQg HQs HGo HSt HPQ
              go_wp2_with (go_at_call 8; first | (with_reducible refine (HD1.out _).mono ?_; rintro e w' ⟨rfl, n2, rfl⟩) | (with_reducible refine (HD2.out _).mono ?_; rintro e w' ⟨rfl, n3, rfl⟩))
              go_ret2
              exact ⟨by rw [HRP.out, HP1.out]; rfl, below_drew (HB1.out.trans (HB5.out.mono HB1.out.size)) _⟩
            · have tb : (zb == day) = false := beq_eq_false_iff_ne.2 eb
              have HP1 := Lib.hid (HQg.out (by rw [decide_eq_false eb, Bool.and_false]))
              clear ea eb HQg HQs
              go_wp2_with (go_at_call 8; first | (with_reducible refine (HD1.out _).mono ?_; rintro e w' ⟨rfl, n2, rfl⟩) | (with_reducible refine (HD2.out _).mono ?_; rintro e w' ⟨rfl, n3, rfl⟩))
              go_roundw
              case rel => exact ⟨gj, q + 1, by omega, by go_num, by have := HQQ.out; omega, HP1, below_drew HB5.out _⟩
              case measure => simp [intOf]; omega
          · have ta : (za == day) = false := beq_eq_false_iff_ne.2 ea
            have HP1 := Lib.hid (HQg.out (by rw [decide_eq_false ea, Bool.false_and]))
            clear ea HQg HQs
            go_wp2_with (go_at_call 8; first | (with_reducible refine (HD1.out _).mono ?_; rintro e w' ⟨rfl, n2, rfl⟩) | (with_reducible refine (HD2.out _).mono ?_; rintro e w' ⟨rfl, n3, rfl⟩))
            go_roundw
            case rel => exact ⟨gj, q + 1, by omega, by go_num, by have := HQQ.out; omega, HP1, below_drew HB5.out _⟩
            case measure => simp [intOf]; omega
end Go.Proofs.YtfjpfllamalfeaaDoor

/- The tables of the sine, from a row's list. -/
namespace Go.Proofs.YtfjpfllamalfeaaDoor
open Go.RowKit Go.Lib
set_option linter.unusedVariables false
theorem trod_flt {H : Type} {enc : TypeId × Value → H} {P : Program} {w : World} {base : Nat} {sp : Nat → Bool} {held : Bool} {fuel : Nat} {t : TypeId} {cs : List Value} {x : DataW H × List MemPlace} (ht : P.underlying t = some (.float .f64)) (h : DataW.trod enc P w base sp held fuel t cs = some x) : ∃ b : Nat, cs = [.float .f64 b] ∧ x = (.lit (.float .f64 b), []) := by
  cases fuel with
  | zero => simp [DataW.trod] at h
  | succ n =>
    unfold DataW.trod at h
    rw [ht] at h
    split at h <;> simp_all
def fltData {H : Type} (zs : List Nat) : DataW H := .agg (zs.map fun z => .lit (.float .f64 z))
/-- an array of floats that reads as the table holds the table's floats -/
theorem cells_of_flts {H : Type} {enc : TypeId × Value → H} {P : Program} {w : World} {base : Nat} {sp : Nat → Bool} {held : Bool} {fuel : Nat} {t e : TypeId} {n : Nat} {cs : List Value} {zs : List Nat} {p : List MemPlace}
    (ht : P.underlying t = some (.array n e)) (he : P.underlying e = some (.float .f64)) (hce : P.cellsOf e = 1) (hct : P.cellsOf t = n)
    (h : DataW.trod enc P w base sp held fuel t cs = some (fltData zs, p)) : cs = zs.map fun z => Value.float .f64 z := by
  cases fuel with
  | zero => simp [DataW.trod] at h
  | succ fuel =>
    simp only [DataW.trod, ht, hce, hct, Nat.mul_one] at h
    split at h
    · rename_i hl
      obtain ⟨xs, hm, hx⟩ := Option.map_eq_some_iff.1 h
      have hxs : xs.map (·.1) = zs.map fun z => (DataW.lit (.float .f64 z) : DataW H) := by
        have := congrArg Prod.fst hx
        simpa [fltData] using this
      have hxl : xs.length = n := by simpa using mapM_length hm
      have hzl : zs.length = n := by
        have := congrArg List.length hxs
        simp at this
        omega
      apply List.ext_getElem?
      intro i
      by_cases hi : i < n
      · obtain ⟨b, hb, hf⟩ := mapM_at hm i i (by simp [hi])
        obtain ⟨z, hc, rfl⟩ := trod_flt he hf
        have h1 : cs[i]? = some (.float .f64 z) := by
          have := congrArg (·[0]?) hc
          simpa [List.getElem?_take, List.getElem?_drop] using this
        have h2 : (xs.map (·.1))[i]? = some (DataW.lit (.float .f64 z) : DataW H) := by simp [hb]
        rw [hxs] at h2
        simp only [List.getElem?_map, Option.map_eq_some_iff, DataW.lit.injEq, Lit.float.injEq] at h2
        obtain ⟨z', hz', _, rfl⟩ := h2
        simp [h1, hz']
      · rw [List.getElem?_eq_none (by omega), List.getElem?_eq_none (by simp; omega)]
    · cases h
def sinZ : List Nat := [sinK0, sinK1, sinK2, sinK3, sinK4, sinK5]
def cosZ : List Nat := [cosK0, cosK1, cosK2, cosK3, cosK4, cosK5]
theorem sin_datum : (Rows.laid_math_sin : DataW Unit) = fltData sinZ := by kernel_rfl
theorem cos_datum : (Rows.laid_math_cos : DataW Unit) = fltData cosZ := by kernel_rfl
theorem gSin : Tryd.prog.globalNamed "math._sin" = some 4 := by kernel_rfl
theorem gCos : Tryd.prog.globalNamed "math._cos" = some 3 := by kernel_rfl
theorem gSinType : (Tryd.prog.globals[4]?).map (·.type) = some 73 := by kernel_rfl
theorem gCosType : (Tryd.prog.globals[3]?).map (·.type) = some 73 := by kernel_rfl
theorem sin_of {W : World} {rest : List (String × DataW Unit)} (h : laidMet Tryd.prog (("math._sin", Rows.laid_math_sin) :: rest) W) : ∀ k : Nat, W.cell? ⟨4, k, none⟩ = (sinZ.map fun z => Value.float .f64 z)[k]? := by
  rw [sin_datum] at h
  obtain ⟨ps, ⟨g', t', cs, fuel, p, q, hg', ht', hvar, hd, _, _⟩, _⟩ := h
  obtain rfl := Option.some.inj (gSin.symm.trans hg')
  obtain rfl := Option.some.inj (gSinType.symm.trans ht')
  have hcs := cells_of_flts Tryd.underlying73 Tryd.underlying56 (by kernel_rfl) (by kernel_rfl) hd
  intro k
  have := World.var?_cell gSin hvar k
  rw [this, ← hcs]
  simp
theorem cos_of {W : World} {rest : List (String × DataW Unit)} (h : laidMet Tryd.prog (("math._cos", Rows.laid_math_cos) :: rest) W) : ∀ k : Nat, W.cell? ⟨3, k, none⟩ = (cosZ.map fun z => Value.float .f64 z)[k]? := by
  rw [cos_datum] at h
  obtain ⟨ps, ⟨g', t', cs, fuel, p, q, hg', ht', hvar, hd, _, _⟩, _⟩ := h
  obtain rfl := Option.some.inj (gCos.symm.trans hg')
  obtain rfl := Option.some.inj (gCosType.symm.trans ht')
  have hcs := cells_of_flts Tryd.underlying73 Tryd.underlying56 (by kernel_rfl) (by kernel_rfl) hd
  intro k
  have := World.var?_cell gCos hvar k
  rw [this, ← hcs]
  simp
theorem trig_of {W : World} {rest : List (String × DataW Unit)} (h : laidMet Tryd.prog (("math._sin", Rows.laid_math_sin) :: ("math._cos", Rows.laid_math_cos) :: rest) W) : TrigT W where
  s0 := sin_of h 0
  c0 := cos_of h.tail 0
  s1 := sin_of h 1
  c1 := cos_of h.tail 1
  s2 := sin_of h 2
  c2 := cos_of h.tail 2
  s3 := sin_of h 3
  c3 := cos_of h.tail 3
  s4 := sin_of h 4
  c4 := cos_of h.tail 4
  s5 := sin_of h 5
  c5 := cos_of h.tail 5
end Go.Proofs.YtfjpfllamalfeaaDoor

/- The new moon of lunation 0: its interval, reckoned by the kernel. -/
namespace Go.Proofs.YtfjpfllamalfeaaDoor
theorem side_977949455 : sideF 0 977949455 = (-1) := by decide +kernel
theorem side_1064349455 : sideF 0 1064349455 = 1 := by decide +kernel
theorem side_1021149455 : sideF 0 1021149455 = 1 := by decide +kernel
theorem side_999549455 : sideF 0 999549455 = 1 := by decide +kernel
theorem side_988749455 : sideF 0 988749455 = (-1) := by decide +kernel
theorem side_994149455 : sideF 0 994149455 = 1 := by decide +kernel
theorem side_991449455 : sideF 0 991449455 = (-1) := by decide +kernel
theorem side_992799455 : sideF 0 992799455 = 1 := by decide +kernel
theorem side_992124455 : sideF 0 992124455 = (-1) := by decide +kernel
theorem side_992461955 : sideF 0 992461955 = 1 := by decide +kernel
theorem find_first : findF 0 0 = (992124455, 992461955) := by
  show narF (sideF 0) 600000 40 (805149455) (1150749455) = _
  rw [nar_low (sideF 0) 600000 39 805149455 1150749455 (by decide) (by rw [show (805149455 : Int) + (1150749455 - 805149455) / 2 = 977949455 from rfl]; exact side_977949455), show (805149455 : Int) + (1150749455 - 805149455) / 2 = 977949455 from rfl]
  rw [nar_high (sideF 0) 600000 38 977949455 1150749455 (by decide) (by rw [show (977949455 : Int) + (1150749455 - 977949455) / 2 = 1064349455 from rfl]; exact side_1064349455), show (977949455 : Int) + (1150749455 - 977949455) / 2 = 1064349455 from rfl]
  rw [nar_high (sideF 0) 600000 37 977949455 1064349455 (by decide) (by rw [show (977949455 : Int) + (1064349455 - 977949455) / 2 = 1021149455 from rfl]; exact side_1021149455), show (977949455 : Int) + (1064349455 - 977949455) / 2 = 1021149455 from rfl]
  rw [nar_high (sideF 0) 600000 36 977949455 1021149455 (by decide) (by rw [show (977949455 : Int) + (1021149455 - 977949455) / 2 = 999549455 from rfl]; exact side_999549455), show (977949455 : Int) + (1021149455 - 977949455) / 2 = 999549455 from rfl]
  rw [nar_low (sideF 0) 600000 35 977949455 999549455 (by decide) (by rw [show (977949455 : Int) + (999549455 - 977949455) / 2 = 988749455 from rfl]; exact side_988749455), show (977949455 : Int) + (999549455 - 977949455) / 2 = 988749455 from rfl]
  rw [nar_high (sideF 0) 600000 34 988749455 999549455 (by decide) (by rw [show (988749455 : Int) + (999549455 - 988749455) / 2 = 994149455 from rfl]; exact side_994149455), show (988749455 : Int) + (999549455 - 988749455) / 2 = 994149455 from rfl]
  rw [nar_low (sideF 0) 600000 33 988749455 994149455 (by decide) (by rw [show (988749455 : Int) + (994149455 - 988749455) / 2 = 991449455 from rfl]; exact side_991449455), show (988749455 : Int) + (994149455 - 988749455) / 2 = 991449455 from rfl]
  rw [nar_high (sideF 0) 600000 32 991449455 994149455 (by decide) (by rw [show (991449455 : Int) + (994149455 - 991449455) / 2 = 992799455 from rfl]; exact side_992799455), show (991449455 : Int) + (994149455 - 991449455) / 2 = 992799455 from rfl]
  rw [nar_low (sideF 0) 600000 31 991449455 992799455 (by decide) (by rw [show (991449455 : Int) + (992799455 - 991449455) / 2 = 992124455 from rfl]; exact side_992124455), show (991449455 : Int) + (992799455 - 991449455) / 2 = 992124455 from rfl]
  rw [nar_high (sideF 0) 600000 30 992124455 992799455 (by decide) (by rw [show (992124455 : Int) + (992799455 - 992124455) / 2 = 992461955 from rfl]; exact side_992461955), show (992124455 : Int) + (992799455 - 992124455) / 2 = 992461955 from rfl]
  exact nar_end _ _ _ _ _ (by decide)
end Go.Proofs.YtfjpfllamalfeaaDoor
