/- Moon1 -/
import Derived.Test.YtbmbphikjainiaaGreatDoorGSearch1
import Derived.Test.YtbmbphikjainiaaGreatDoorGPlainMoon
import Derived.Test.YtbmbphikjainiaaGreatDoorGFrac1
import Derived.Test.YtbmbphikjainiaaGreatDoorGName1
/- Contracts of package lunisolar: increasing, parts, avoided. -/
namespace Go.Proofs.YtbmbphikjainiaaGreatDoor
open Go.RowKit
set_option linter.unusedVariables false



/-- a moon's rule: its numbers, its lists and where they lie -/
structure Mo where
  nm : ByteArray
  ep : Int
  sn : Int
  sd : Int
  mn : Int
  md : Int
  ln : Int
  ld : Int
  cy : Int
  lp : List Int
  av : List Int
  A1 : Option Addr
  c1 : Nat
  A2 : Option Addr
  c2 : Nat
/-- its cells -/
abbrev Mo.cells (m : Mo) : Array Value := #[.string m.nm, .int .i64 m.ep, .int .i64 m.sn, .int .i64 m.sd, .int .i64 m.mn, .int .i64 m.md, .int .i64 m.ln, .int .i64 m.ld, .int .i64 m.cy, .slice m.A1 m.lp.length m.c1, .slice m.A2 m.av.length m.c2]
abbrev Mo.val (m : Mo) : Value := .agg m.cells
/-- its lists lie in memory -/
def MIn (w : World) (m : Mo) : Prop := Row w w.heap.size m.A1 (ints m.lp) ∧ Row w w.heap.size m.A2 (ints m.av)
theorem MIn.next {w w' : World} {m : Mo} (h : MIn w m) (hb : Below w.heap.size w w') : MIn w' m := ⟨h.1.next hb, h.2.next hb⟩
/-- what memory bears -/
structure MFit (m : Mo) : Prop where
  nm : m.nm.size ≤ maxLen
  lp : m.lp.length ≤ maxLen
  av : m.av.length ≤ maxLen
/-- the parts of a day -/
def Mo.parts (m : Mo) : Int := partsL 1 [m.sd, m.md, m.ld]

theorem avB_iff (av : List Int) (d : Int) (j : Nat) (hj : j < av.length) (h : (d - 1) % 7 = av.getD j 0) : avB av d = true := by
  unfold avB
  exact decide_eq_true (by rw [h]; exact List.getD_eq_getElem?_getD ▸ (by simp [List.getElem?_eq_getElem hj]))
theorem avB_no (av : List Int) (d : Int) (h : ∀ j, j < av.length → (d - 1) % 7 ≠ av.getD j 0) : avB av d = false := by
  unfold avB
  refine decide_eq_false fun hm => ?_
  obtain ⟨i, hi, e⟩ := List.getElem_of_mem hm
  exact h i hi (by rw [← e]; simp [List.getD, List.getElem?_eq_getElem hi])

end Go.Proofs.YtbmbphikjainiaaGreatDoor
