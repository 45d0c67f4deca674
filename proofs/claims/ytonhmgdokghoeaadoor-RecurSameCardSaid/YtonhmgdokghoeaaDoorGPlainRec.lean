/- PlainRec -/
import Derived.Test.YtonhmgdokghoeaaDoorGRec1
/- The plain law of recurrences: the days of a range. -/
namespace Go.Proofs.YtonhmgdokghoeaaDoor
open Go.RowKit
set_option linter.unusedVariables false

/-- fits, as a function of two moments -/
def fitB (r : Rc) (f m : Mm) : Bool :=
  decide ((m.un r.un - f.un r.un).tmod r.ev = 0) && lisB r.mo [(m.k : Int) + 1] && lisB r.wd [(m.day - 1) % 7] && lisB r.md [m.d, m.d - len (feb m.y) m.k - 1] &&
  (decide (0 < r.wd.length + r.md.length) ||
    (if r.un = 2 then decide ((m.day - 1) % 7 = (f.day - 1) % 7)
     else if r.un = 3 then decide (m.d = f.d)
     else if r.un = 4 then decide (m.d = f.d) && (decide (0 < r.mo.length) || decide (m.k = f.k))
     else true))

/-- the loop of days: n days from lo on, c fitting days seen, K the count (0: none), from on the days are taken -/
def daysL (fit : Int → Bool) (K from_ : Int) : Nat → Int → Int → List Int
  | 0, _, _ => []
  | n + 1, day, c =>
    if fit day then
      if 0 < K ∧ K < c + 1 then []
      else (if from_ ≤ day then [day] else []) ++ daysL fit K from_ n (day + 1) (c + 1)
    else daysL fit K from_ n (day + 1) c

theorem daysL_len (fit : Int → Bool) (K from_ : Int) (hK : 0 < K) : ∀ (n : Nat) (day c : Int), 0 ≤ c → c ≤ K → ((daysL fit K from_ n day c).length : Int) ≤ K - c
  | 0, _, c, _, h => by simp [daysL]; omega
  | n + 1, day, c, h0, h => by
    unfold daysL
    split
    · split
      · simp; omega
      · have := daysL_len fit K from_ hK n (day + 1) (c + 1) (by omega) (by omega)
        rw [List.length_append]
        split <;> simp <;> omega
    · exact daysL_len fit K from_ hK n (day + 1) c h0 h
/-- days that lie all before the range give nothing -/
theorem daysL_before (fit : Int → Bool) (K from_ : Int) : ∀ (n : Nat) (day c : Int), day + (n : Int) ≤ from_ → daysL fit K from_ n day c = []
  | 0, _, _, _ => rfl
  | n + 1, day, c, h => by
    unfold daysL
    split
    · split
      · rfl
      · rw [if_neg (by omega), daysL_before fit K from_ n (day + 1) (c + 1) (by omega)]; rfl
    · exact daysL_before fit K from_ n (day + 1) c (by omega)
/-- from earlier on, or from the day itself on: no difference where the day is not before either -/
theorem daysL_from (fit : Int → Bool) (K a b : Int) : ∀ (n : Nat) (day c : Int), a ≤ day → b ≤ day → daysL fit K a n day c = daysL fit K b n day c
  | 0, _, _, _, _ => rfl
  | n + 1, day, c, ha, hb => by
    unfold daysL
    rw [daysL_from fit K a b n (day + 1) (c + 1) (by omega) (by omega), daysL_from fit K a b n (day + 1) c (by omega) (by omega), if_pos ha, if_pos hb]
/-- with a count: the days from a up to mid and those behind mid are the days from a on -/
theorem daysL_parts (fit : Int → Bool) (K a b : Int) (hab : a ≤ b) : ∀ (n1 n2 : Nat) (day c : Int), (day + (n1 : Int) = b ∨ (b ≤ day ∧ n1 = 0)) →
    daysL fit K a n1 day c ++ daysL fit K b (n1 + n2) day c = daysL fit K a (n1 + n2) day c
  | 0, n2, day, c, h => by
    have hb : b ≤ day := by omega
    rw [show daysL fit K a 0 day c = [] from rfl, List.nil_append]
    exact daysL_from fit K b a _ day c hb (by omega)
  | n1 + 1, n2, day, c, h => by
    have hd : ¬ b ≤ day := by omega
    rw [show n1 + 1 + n2 = (n1 + n2) + 1 from by omega]
    unfold daysL
    have h1 := daysL_parts fit K a b hab n1 n2 (day + 1) (c + 1) (by omega)
    have h2 := daysL_parts fit K a b hab n1 n2 (day + 1) c (by omega)
    split
    · split
      · rfl
      · rw [List.nil_append, List.append_assoc, h1]
    · exact h2
end Go.Proofs.YtonhmgdokghoeaaDoor
