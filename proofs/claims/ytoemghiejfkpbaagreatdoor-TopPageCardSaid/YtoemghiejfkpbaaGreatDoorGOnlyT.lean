/- OnlyT -/
import Derived.Test.YtoemghiejfkpbaaGreatDoorGMem
/- What a step keeps of the memory: only some blocks may change. -/
namespace Go.Proofs.YtoemghiejfkpbaaGreatDoor
open Go.RowKit
set_option linter.unusedVariables false
structure Only (p : Nat → Prop) (w w' : World) : Prop where
 os : w'.os = w.os
 tape : w'.tape = w.tape
 output : w'.output = w.output
 size : w.heap.size ≤ w'.heap.size
 block : ∀ k, k < w.heap.size → ¬ p k → w'.heap[k]? = w.heap[k]?
theorem Only.trans {p : Nat → Prop} {a b c : World} (h : Only p a b) (k : Only p b c) : Only p a c :=
 ⟨k.os.trans h.os, k.tape.trans h.tape, k.output.trans h.output, Nat.le_trans h.size k.size, fun i hi hp => (k.block i (Nat.lt_of_lt_of_le hi h.size) hp).trans (h.block i hi hp)⟩
theorem only_grown {p : Nat → Prop} {w w' : World} {row : Option Nat} (h : w.grownBy w' row) (hp : ∀ k, row = some k → p k) : Only p w w' :=
 ⟨h.os, h.tape, h.output, h.size, fun k hk hn => h.block k hk (fun e => hn (hp k e.symm))⟩
theorem only_below {p : Nat → Prop} {w w' : World} (h : Below w.heap.size w w') : Only p w w' := ⟨h.os, h.tape, h.output, h.size, fun k hk _ => h.block k hk⟩
theorem only_set {p : Nat → Prop} (w : World) (g i : Nat) (v : Value) (hp : p g) : Only p w (w.setCell ⟨g, i, none⟩ v) :=
 ⟨rfl, rfl, rfl, by simp, fun k hk hn => Below.heap_setCell _ _ _ k (fun e => hn (by have : k = g := e; rw [this]; exact hp))⟩
theorem only_setnew {p : Nat → Prop} {w w1 : World} (h : Only p w w1) (g i : Nat) (v : Value) (hg : w.heap.size ≤ g) : Only p w (w1.setCell ⟨g, i, none⟩ v) :=
 ⟨h.os, h.tape, h.output, by simpa using h.size, fun k hk hn => (Below.heap_setCell _ _ _ k (show k ≠ g by omega)).trans (h.block k hk hn)⟩
theorem Only.more {p q : Nat → Prop} {w w' : World} (h : Only p w w') (hpq : ∀ k, k < w.heap.size → p k → q k) : Only q w w' := ⟨h.os, h.tape, h.output, h.size, fun k hk hn => h.block k hk fun hp => hn (hpq k hk hp)⟩
theorem Only.box {p : Nat → Prop} {w w' : World} (h : Only p w w') {b : Nat} {t : TypeId} {cs : Array Value} (hx : Box w b t cs) (hn : ¬ p b) : Box w' b t cs := (h.block b hx.lt hn).trans hx
end Go.Proofs.YtoemghiejfkpbaaGreatDoor
