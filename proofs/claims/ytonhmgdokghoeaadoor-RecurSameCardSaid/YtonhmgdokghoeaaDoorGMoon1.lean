/- Moon1, Moon2, Moon3, Moon4 -/
import Derived.Deep.RegionHeld3
import Derived.Deep.DeepCutAuto
import Derived.Test.YtonhmgdokghoeaaDoorGSearch1
import Derived.Test.YtonhmgdokghoeaaDoorGPlainMoon
import Derived.Test.YtonhmgdokghoeaaDoorGPlainFrac
import Derived.Test.YtonhmgdokghoeaaDoorGName1
/- Contracts of package lunisolar: increasing, parts, avoided. -/
namespace Go.Proofs.YtonhmgdokghoeaaDoor
open Go.RowKit
set_option linter.unusedVariables false



/-- a moon's rule: its numbers, its lists and where they lie -/
structure Mo where
  nm : ByteArray
  ep : Int
  sn : Int
  sd : Int
  mn : Int
  md : Int
  ln : Int
  ld : Int
  cy : Int
  lp : List Int
  av : List Int
  A1 : Option Addr
  c1 : Nat
  A2 : Option Addr
  c2 : Nat
/-- its cells -/
abbrev Mo.cells (m : Mo) : Array Value := #[.string m.nm, .int .i64 m.ep, .int .i64 m.sn, .int .i64 m.sd, .int .i64 m.mn, .int .i64 m.md, .int .i64 m.ln, .int .i64 m.ld, .int .i64 m.cy, .slice m.A1 m.lp.length m.c1, .slice m.A2 m.av.length m.c2]
abbrev Mo.val (m : Mo) : Value := .agg m.cells
/-- its lists lie in memory -/
def MIn (w : World) (m : Mo) : Prop := Row w w.heap.size m.A1 (ints m.lp) ∧ Row w w.heap.size m.A2 (ints m.av)
theorem MIn.next {w w' : World} {m : Mo} (h : MIn w m) (hb : Below w.heap.size w w') : MIn w' m := ⟨h.1.next hb, h.2.next hb⟩
/-- what memory bears -/
structure MFit (m : Mo) : Prop where
  nm : m.nm.size ≤ maxLen
  lp : m.lp.length ≤ maxLen
  av : m.av.length ≤ maxLen
/-- the parts of a day -/
def Mo.parts (m : Mo) : Int := partsL 1 [m.sd, m.md, m.ld]

theorem avB_iff (av : List Int) (d : Int) (j : Nat) (hj : j < av.length) (h : (d - 1) % 7 = av.getD j 0) : avB av d = true := by
  unfold avB
  exact decide_eq_true (by rw [h]; exact List.getD_eq_getElem?_getD ▸ (by simp [List.getElem?_eq_getElem hj]))
theorem avB_no (av : List Int) (d : Int) (h : ∀ j, j < av.length → (d - 1) % 7 ≠ av.getD j 0) : avB av d = false := by
  unfold avB
  refine decide_eq_false fun hm => ?_
  obtain ⟨i, hi, e⟩ := List.getElem_of_mem hm
  exact h i hi (by rw [← e]; simp [List.getD, List.getElem?_eq_getElem hi])

end Go.Proofs.YtonhmgdokghoeaaDoor

/- Contracts of package lunisolar: before, months, begin. -/
namespace Go.Proofs.YtonhmgdokghoeaaDoor
open Go.RowKit
set_option linter.unusedVariables false

/-- a contract that holds behind W0, said of worlds that meet S -/
theorem calls_S {f : FuncId} {args : Array Value} {v : Value} {W0 : World} {S : World → Prop} (HS : ∀ w', Below W0.heap.size W0 w' → S w') (HB : ∀ w', S w' → Below W0.heap.size W0 w')
    (hc : ∀ W, Below W0.heap.size W0 W → Calls Tryd.prog f args W fun e w' => e = .returned v ∧ Below W.heap.size W w') (W : World) (h : S W) : Calls Tryd.prog f args W fun e w' => e = .returned v ∧ S w' :=
  (hc W (HB W h)).mono fun _ _ ⟨he, hb⟩ => ⟨he, HS _ (below_then (HB W h) hb)⟩

/-- the number of months before a year -/
def Mo.bf (m : Mo) (y : Int) : Int := Bf m.cy m.lp y

/-- the number of months of a year -/
def Mo.mon (m : Mo) (y : Int) : Int := m.bf (y + 1) - m.bf y

end Go.Proofs.YtonhmgdokghoeaaDoor

/- Contract of lunisolar.begin. -/
namespace Go.Proofs.YtonhmgdokghoeaaDoor
open Go.RowKit
set_option linter.unusedVariables false

/-- a valid rule -/
structure MOk (m : Mo) : Prop where
  nm : NameOk m.nm
  e1 : -4000000 ≤ m.ep
  e2 : m.ep ≤ 4000000
  f1 : FOk m.sn m.sd
  f2 : FOk m.mn m.md
  f3 : FOk m.ln m.ld
  s1 : 0 ≤ m.sn
  s2 : m.sn < m.sd
  m1 : 29 * m.md ≤ m.mn
  m2 : m.mn ≤ 30 * m.md
  l1 : 0 < m.ln
  l2 : m.ln ≤ m.ld
  pt : m.parts ≠ 0
  c1 : 1 ≤ m.cy
  c2 : m.cy ≤ 100
  lp : Inc m.lp 1 m.cy
  al : m.av.length ≤ 3
  av : Inc m.av 0 6

/-- the start, the length of a month and the late time, in parts -/
def Mo.S (m : Mo) : Int := m.sn * (m.parts / m.sd)
def Mo.M (m : Mo) : Int := m.mn * (m.parts / m.md)
def Mo.L (m : Mo) : Int := m.ln * (m.parts / m.ld)
theorem MOk.parts {m : Mo} (h : MOk m) : 1 ≤ m.parts ∧ m.parts ≤ 1000000 ∧ m.sd ∣ m.parts ∧ m.md ∣ m.parts ∧ m.ld ∣ m.parts := by
  have := partsL_facts [m.sd, m.md, m.ld] 1 (by omega) (by omega) (by simp [h.f1.1, h.f2.1, h.f3.1]) h.pt
  refine ⟨this.1, this.2.1, this.2.2.2 m.sd (by simp), this.2.2.2 m.md (by simp), this.2.2.2 m.ld (by simp)⟩
theorem MOk.SML {m : Mo} (h : MOk m) : 0 ≤ m.S ∧ m.S < m.parts ∧ 29 * m.parts ≤ m.M ∧ m.M ≤ 30 * m.parts ∧ 0 < m.L ∧ m.L ≤ m.parts := by
  obtain ⟨p1, p2, p3, p4, p5⟩ := h.parts
  obtain ⟨_, _, _, _, _, a6, a7⟩ := part_facts m.sn m.sd m.parts h.f1.1 p3 p1
  obtain ⟨_, _, b3, b4, _, _, _⟩ := part_facts m.mn m.md m.parts h.f2.1 p4 p1
  obtain ⟨_, _, _, c4, c5, _, _⟩ := part_facts m.ln m.ld m.parts h.f3.1 p5 p1
  refine ⟨a6 h.s1, a7 h.s2, b3 29 h.m1, b4 30 h.m2, c5 h.l1, ?_⟩
  have := c4 1 (by have := h.l2; omega)
  unfold Mo.L; omega
/-- a month's day, before it is put off -/
def Mo.raw (m : Mo) (k : Int) : Int := rawD m.ep m.parts m.S m.M m.L k
def Mo.beg1 (m : Mo) (y k : Int) : Int := if k = 1 then post m.av (m.raw (m.bf y + k - 1)) else m.raw (m.bf y + k - 1)
/-- the day on which a month begins -/
def Mo.beg (m : Mo) (y k : Int) : Int := if m.mon y < k then m.beg1 (y + 1) 1 else m.beg1 y k
theorem MOk.mon {m : Mo} (h : MOk m) (y : Int) : 12 ≤ m.mon y ∧ m.mon y ≤ 13 := Bf_step h.lp h.c1 y
theorem MOk.bf {m : Mo} (h : MOk m) (y : Int) (h1 : -20000 ≤ y) (h2 : y ≤ 20000) : -3000000 ≤ m.bf y ∧ m.bf y ≤ 3000000 := by
  have := Bf_bound h.lp h.c1 h.c2 y h1 h2
  exact ⟨this.1, this.2.1⟩
theorem MOk.raw {m : Mo} (h : MOk m) (k : Int) : 29 ≤ m.raw (k + 1) - m.raw k ∧ m.raw (k + 1) - m.raw k ≤ 30 := by
  obtain ⟨p1, p2, _⟩ := h.parts
  obtain ⟨s1, s2, s3, s4, s5, s6⟩ := h.SML
  exact rawD_step m.ep m.parts m.S m.M m.L k (by omega) s5 s6 s3 s4
theorem mul_in (K M a b : Int) (hK1 : -a ≤ K) (hK2 : K ≤ a) (hM1 : 0 ≤ M) (hM2 : M ≤ b) (ha : 0 ≤ a) : -(a * b) ≤ K * M ∧ K * M ≤ a * b := by
  have h1 : K * M ≤ a * M := Int.mul_le_mul_of_nonneg_right hK2 hM1
  have h2 : a * M ≤ a * b := Int.mul_le_mul_of_nonneg_left hM2 ha
  have h3 : -a * M ≤ K * M := Int.mul_le_mul_of_nonneg_right hK1 hM1
  rw [Int.neg_mul] at h3
  omega
/-- what the code reckons, and its bounds -/
theorem MOk.at {m : Mo} (h : MOk m) (K : Int) (h1 : -4000000 ≤ K) (h2 : K ≤ 4000000) :
    -8600000000000000 ≤ K * m.mn ∧ K * m.mn ≤ 8600000000000000 ∧ K * m.mn * (m.parts / m.md) = K * m.M ∧ -120000000000000 ≤ K * m.M ∧ K * m.M ≤ 120000000000000 ∧ 1 ≤ m.parts / m.sd ∧ m.parts / m.sd ≤ 1000000 ∧ 1 ≤ m.parts / m.md ∧ m.parts / m.md ≤ 1000000 ∧ 1 ≤ m.parts / m.ld ∧ m.parts / m.ld ≤ 1000000 := by
  obtain ⟨p1, p2, p3, p4, p5⟩ := h.parts
  obtain ⟨s1, s2, s3, s4, s5, s6⟩ := h.SML
  obtain ⟨a1, a2, _⟩ := part_facts m.sn m.sd m.parts h.f1.1 p3 p1
  obtain ⟨b1, b2, _⟩ := part_facts m.mn m.md m.parts h.f2.1 p4 p1
  obtain ⟨c1, c2, _⟩ := part_facts m.ln m.ld m.parts h.f3.1 p5 p1
  have k1 := mul_in K m.mn 4000000 2147483647 h1 h2 (by have := h.m1; have := h.f2.1; omega) h.f2.2.2.2.1 (by omega)
  have k2 := mul_in K m.M 4000000 30000000 h1 h2 (by omega) (by omega) (by omega)
  refine ⟨by omega, by omega, Int.mul_assoc _ _ _, by omega, by omega, a1, by omega, b1, by omega, c1, by omega⟩

end Go.Proofs.YtonhmgdokghoeaaDoor

/- Contracts: frac.Check at every fraction, lunisolar.Check. -/
namespace Go.Proofs.YtonhmgdokghoeaaDoor
open Go.RowKit
set_option linter.unusedVariables false

theorem Errs.by_ {Q P : Prop} {w w' : World} {E : Int} (hE : E ≠ 0) (hP : Q → P) (hn : ¬ P) (hb : Below w.heap.size w w') : Errs Q w (.returned (.int .i64 E)) w' := Errs.no hE (fun h => hn (hP h)) hb

theorem is_asks (d : Int) (w : World) : Calls Tryd.prog 16 #[.int .i64 d] w (Asks (-4000000 ≤ d ∧ d ≤ 4000000) w) := by
  by_cases h : -4000000 ≤ d ∧ d ≤ 4000000
  · exact (is_yes d w h.1 h.2).mono fun e w' ⟨he, hw⟩ => by subst he; subst hw; exact Asks.yes h
  · exact (is_no d w (by omega)).mono fun e w' ⟨he, hw⟩ => by subst he; subst hw; exact Asks.no h

end Go.Proofs.YtonhmgdokghoeaaDoor
