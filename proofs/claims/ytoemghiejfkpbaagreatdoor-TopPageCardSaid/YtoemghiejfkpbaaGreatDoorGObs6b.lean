/- Obs6b -/
import Derived.Test.YtoemghiejfkpbaaGreatDoorGFlow
import Derived.Test.YtoemghiejfkpbaaGreatDoorGPlainFrac
/- An append to a row of the call's own, as the one writer of a region. -/
namespace Go.Proofs.YtoemghiejfkpbaaGreatDoor
open Go.RowKit Go.Lib
set_option linter.unusedVariables false
structure OnlyAt (B n : Nat) (w w' : World) : Prop where
 be : Below B w w'
 sz : w.heap.size ≤ w'.heap.size
 bl : ∀ b, b < w.heap.size → w'.heap[b]? = w.heap[b]? ∨ ∃ cs x, w.heap[b]? = some (.cells cs 3 (0, 0)) ∧ w'.heap[b]? = some (.cells (cs.setIfInBounds n x) 3 (0, 0)) ∧ n < cs.size
section
variable {B n : Nat} {w w' : World}
theorem OnlyAt.own (h : OnlyAt B n w w') {base m : Nat} {v : Value} {xs : List Value} (ho : w.ownsRow base 3 1 v m xs) (hm : m ≤ n) : w'.ownsRow base 3 1 v m xs := by
 refine ⟨ho.1, ?_⟩
 rcases ho.2 with hn | ⟨g, cap, cur, hv, hbb, hg, h1, h2, h3, h4⟩
 ·exact .inl hn
 ·have hlt : g < w.heap.size := by
   rcases Nat.lt_or_ge g w.heap.size with h' | h'
   ·exact h'
   ·simp [Array.getElem?_eq_none h'] at hg
  rcases h.bl g hlt with e | ⟨cs', x, e1, e2, e3⟩
  ·exact .inr ⟨g, cap, cur, hv, hbb, e.trans hg, h1, h2, h3, h4⟩
  ·have := hg.symm.trans e1
   simp at this
   subst this
   refine .inr ⟨g, cap, cur.setIfInBounds n x, hv, hbb, e2, h1, h2, by simpa using h3, ?_⟩
   rw [← h4]
   simp only [Array.toList_setIfInBounds, Nat.mul_one]
   rw [List.take_set_of_le hm]
end
section
variable {P : Program} {ops : Array Oper} {S : Nat → Option (World → World → Prop)} {w0 : World} {R : Nat → Option Told} {E : Act → World → Prop} {o : Oper} {rest : List Oper} {k : Nat} {a : Act} {L : List Fact}
end
end Go.Proofs.YtoemghiejfkpbaaGreatDoor
