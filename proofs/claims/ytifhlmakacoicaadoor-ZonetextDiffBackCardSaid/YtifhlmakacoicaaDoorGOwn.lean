/- Own -/
import Derived.Test.YtifhlmakacoicaaDoorGBase
/- Rows of the call's own, kept where other blocks change. -/
namespace Go.Proofs.YtifhlmakacoicaaDoor
open Go.RowKit
set_option linter.unusedVariables false

section
variable {w w' : World} {base : Nat} {e : TypeId} {s : Nat} {v : Value} {n : Nat} {xs : List Value}
theorem own_heap (h : w.ownsRow base e s v n xs) (hh : ∀ b, v.ownBlock = some b → w'.heap[b]? = w.heap[b]?) : w'.ownsRow base e s v n xs := by
  refine ⟨h.1, ?_⟩
  rcases h.2 with hn | ⟨g, cap, cur, hv, hbb, hg, rest⟩
  · exact .inl hn
  · exact .inr ⟨g, cap, cur, hv, hbb, (hh g (by rw [hv]; rfl)).trans hg, rest⟩
theorem own_lt (h : w.ownsRow base e s v n xs) (b : Nat) (hb : v.ownBlock = some b) : base ≤ b ∧ b < w.heap.size := h.lt b hb
theorem own_next (h : w.ownsRow base e s v n xs) (hb : Below w.heap.size w w') : w'.ownsRow base e s v n xs := own_heap h fun b hv => hb.block b (own_lt h b hv).2
theorem own_set (h : w.ownsRow base e s v n xs) (p : Addr) (x : Value) (hp : p.block < base) : (w.setCell p x).ownsRow base e s v n xs := own_heap h fun b hv => Below.heap_setCell w p x b (by have := (own_lt h b hv).1; omega)
theorem own_lower {base' : Nat} (h : w.ownsRow base e s v n xs) (hb : base' ≤ base) : w.ownsRow base' e s v n xs := by
  refine ⟨h.1, ?_⟩
  rcases h.2 with hn | ⟨g, cap, cur, hv, hbb, rest⟩
  · exact .inl hn
  · exact .inr ⟨g, cap, cur, hv, by omega, rest⟩
/-- what a grown row's value is like -/
theorem own_form (h : w.ownsRow base e s v n xs) : ∃ A c, v = .slice A n c ∧ n ≤ c ∧ c ≤ maxLen := by
  rcases h.2 with ⟨rfl, rfl⟩ | ⟨g, cap, cur, hv, hbb, hg, h1, h2, _⟩
  · exact ⟨none, 0, rfl, by omega, by unfold maxLen; omega⟩
  · exact ⟨_, cap, hv, h1, h2⟩
end
/-- a block that is none of the row that grew -/
theorem Box.grown {w w' : World} {g : Nat} {t : TypeId} {cs : Array Value} {row : Option Nat} (h : Box w g t cs) (hg : w.grownBy w' row) (hne : some g ≠ row) : Box w' g t cs := (hg.block g h.lt hne).trans h
end Go.Proofs.YtifhlmakacoicaaDoor
