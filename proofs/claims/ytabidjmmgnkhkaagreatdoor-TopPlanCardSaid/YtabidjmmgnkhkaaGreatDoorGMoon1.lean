/- Moon1, Moon2, Moon3, Moon4 -/
import Derived.Deep.RegionHeld3
import Derived.Deep.DeepCutAuto
import Derived.Test.YtabidjmmgnkhkaaGreatDoorGSearch1
import Derived.Test.YtabidjmmgnkhkaaGreatDoorGPlainFrac
import Derived.Test.YtabidjmmgnkhkaaGreatDoorGName1
/- Contracts of package lunisolar: increasing, parts, avoided. -/
namespace Go.Proofs.YtabidjmmgnkhkaaGreatDoor
open Go.RowKit
set_option linter.unusedVariables false
structure Mo where
 nm : ByteArray
 ep : Int
 sn : Int
 sd : Int
 mn : Int
 md : Int
 ln : Int
 ld : Int
 cy : Int
 lp : List Int
 av : List Int
 A1 : Option Addr
 c1 : Nat
 A2 : Option Addr
 c2 : Nat
abbrev Mo.cells (m : Mo) : Array Value := #[.string m.nm, .int .i64 m.ep, .int .i64 m.sn, .int .i64 m.sd, .int .i64 m.mn, .int .i64 m.md, .int .i64 m.ln, .int .i64 m.ld, .int .i64 m.cy, .slice m.A1 m.lp.length m.c1, .slice m.A2 m.av.length m.c2]
def MIn (w : World) (m : Mo) : Prop := Row w w.heap.size m.A1 (ints m.lp) ∧ Row w w.heap.size m.A2 (ints m.av)
theorem MIn.next {w w' : World} {m : Mo} (h : MIn w m) (hb : Below w.heap.size w w') : MIn w' m := ⟨h.1.next hb, h.2.next hb⟩
structure MFit (m : Mo) : Prop where
 nm : m.nm.size ≤ maxLen
 lp : m.lp.length ≤ maxLen
 av : m.av.length ≤ maxLen
def Mo.parts (m : Mo) : Int := partsL 1 [m.sd, m.md, m.ld]
end Go.Proofs.YtabidjmmgnkhkaaGreatDoor
/- Contracts of package lunisolar: before, months, begin. -/
namespace Go.Proofs.YtabidjmmgnkhkaaGreatDoor
open Go.RowKit
set_option linter.unusedVariables false
end Go.Proofs.YtabidjmmgnkhkaaGreatDoor
/- Contract of lunisolar.begin. -/
namespace Go.Proofs.YtabidjmmgnkhkaaGreatDoor
open Go.RowKit
set_option linter.unusedVariables false
structure MOk (m : Mo) : Prop where
 nm : NameOk m.nm
 e1 : -4000000 ≤ m.ep
 e2 : m.ep ≤ 4000000
 f1 : FOk m.sn m.sd
 f2 : FOk m.mn m.md
 f3 : FOk m.ln m.ld
 s1 : 0 ≤ m.sn
 s2 : m.sn < m.sd
 m1 : 29 * m.md ≤ m.mn
 m2 : m.mn ≤ 30 * m.md
 l1 : 0 < m.ln
 l2 : m.ln ≤ m.ld
 pt : m.parts ≠ 0
 c1 : 1 ≤ m.cy
 c2 : m.cy ≤ 100
 lp : Inc m.lp 1 m.cy
 al : m.av.length ≤ 3
 av : Inc m.av 0 6
def Mo.S (m : Mo) : Int := m.sn * (m.parts / m.sd)
def Mo.M (m : Mo) : Int := m.mn * (m.parts / m.md)
def Mo.L (m : Mo) : Int := m.ln * (m.parts / m.ld)
theorem MOk.parts {m : Mo} (h : MOk m) : 1 ≤ m.parts ∧ m.parts ≤ 1000000 ∧ m.sd ∣ m.parts ∧ m.md ∣ m.parts ∧ m.ld ∣ m.parts := by
 have := partsL_facts [m.sd, m.md, m.ld] 1 (by omega) (by omega) (by simp [h.f1.1, h.f2.1, h.f3.1]) h.pt
 refine ⟨this.1, this.2.1, this.2.2.2 m.sd (by simp), this.2.2.2 m.md (by simp), this.2.2.2 m.ld (by simp)⟩
theorem MOk.SML {m : Mo} (h : MOk m) : 0 ≤ m.S ∧ m.S < m.parts ∧ 29 * m.parts ≤ m.M ∧ m.M ≤ 30 * m.parts ∧ 0 < m.L ∧ m.L ≤ m.parts := by
 obtain ⟨p1, p2, p3, p4, p5⟩ := h.parts
 obtain ⟨_, _, _, _, _, a6, a7⟩ := part_facts m.sn m.sd m.parts h.f1.1 p3 p1
 obtain ⟨_, _, b3, b4, _, _, _⟩ := part_facts m.mn m.md m.parts h.f2.1 p4 p1
 obtain ⟨_, _, _, c4, c5, _, _⟩ := part_facts m.ln m.ld m.parts h.f3.1 p5 p1
 refine ⟨a6 h.s1, a7 h.s2, b3 29 h.m1, b4 30 h.m2, c5 h.l1, ?_⟩
 have := c4 1 (by have := h.l2; omega)
 unfold Mo.L; omega
theorem mul_in (K M a b : Int) (hK1 : -a ≤ K) (hK2 : K ≤ a) (hM1 : 0 ≤ M) (hM2 : M ≤ b) (ha : 0 ≤ a) : -(a * b) ≤ K * M ∧ K * M ≤ a * b := by
 have h1 : K * M ≤ a * M := Int.mul_le_mul_of_nonneg_right hK2 hM1
 have h2 : a * M ≤ a * b := Int.mul_le_mul_of_nonneg_left hM2 ha
 have h3 : -a * M ≤ K * M := Int.mul_le_mul_of_nonneg_right hK1 hM1
 rw [Int.neg_mul] at h3
 omega
theorem MOk.at {m : Mo} (h : MOk m) (K : Int) (h1 : -4000000 ≤ K) (h2 : K ≤ 4000000) :
  -8600000000000000 ≤ K * m.mn ∧ K * m.mn ≤ 8600000000000000 ∧ K * m.mn * (m.parts / m.md) = K * m.M ∧ -120000000000000 ≤ K * m.M ∧ K * m.M ≤ 120000000000000 ∧ 1 ≤ m.parts / m.sd ∧ m.parts / m.sd ≤ 1000000 ∧ 1 ≤ m.parts / m.md ∧ m.parts / m.md ≤ 1000000 ∧ 1 ≤ m.parts / m.ld ∧ m.parts / m.ld ≤ 1000000 := by
 obtain ⟨p1, p2, p3, p4, p5⟩ := h.parts
 obtain ⟨s1, s2, s3, s4, s5, s6⟩ := h.SML
 obtain ⟨a1, a2, _⟩ := part_facts m.sn m.sd m.parts h.f1.1 p3 p1
 obtain ⟨b1, b2, _⟩ := part_facts m.mn m.md m.parts h.f2.1 p4 p1
 obtain ⟨c1, c2, _⟩ := part_facts m.ln m.ld m.parts h.f3.1 p5 p1
 have k1 := mul_in K m.mn 4000000 2147483647 h1 h2 (by have := h.m1; have := h.f2.1; omega) h.f2.2.2.2.1 (by omega)
 have k2 := mul_in K m.M 4000000 30000000 h1 h2 (by omega) (by omega) (by omega)
 refine ⟨by omega, by omega, Int.mul_assoc _ _ _, by omega, by omega, a1, by omega, b1, by omega, c1, by omega⟩
end Go.Proofs.YtabidjmmgnkhkaaGreatDoor
/- Contracts: frac.Check at every fraction, lunisolar.Check. -/
namespace Go.Proofs.YtabidjmmgnkhkaaGreatDoor
open Go.RowKit
set_option linter.unusedVariables false
end Go.Proofs.YtabidjmmgnkhkaaGreatDoor
