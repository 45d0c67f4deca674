/- PlainNum -/
/- Plain arithmetic of divisors and congruences, no program in sight. -/
namespace Go.Proofs.YtoemghiejfkpbaaGreatDoor
set_option linter.unusedVariables false
def Common (g h a m : Int) : Prop := ∀ c : Int, (c ∣ g ∧ c ∣ h) ↔ (c ∣ a ∧ c ∣ m)
structure EuInv (a m x y g h : Int) : Prop where
 g0 : 0 ≤ g
 h0 : 0 ≤ h
 gm : g ≤ m
 hm : h ≤ m
 dx : m ∣ a * x - g
 dy : m ∣ a * y - h
 com : Common g h a m
 sgn : (0 ≤ x ∧ y ≤ 0 ∧ x * h - y * g = m) ∨ (x ≤ 0 ∧ 0 ≤ y ∧ y * g - x * h = m)
 x1 : -m ≤ x
 x2 : x ≤ m
 y1 : -m ≤ y
 y2 : y ≤ m
end Go.Proofs.YtoemghiejfkpbaaGreatDoor
