/- The state of observed.Of's loops. -/
import Derived.Test.YtfindembancjdaaPlainObs
import Derived.Test.YtfindembancjdaaObs3
import Derived.Test.YtfindembancjdaaOwn
namespace Go.Proofs.Ytfindembancjdaa
open Go.RowKit
set_option linter.unusedVariables false

/-- what lies in memory while Of works -/
structure OfSt (m : Mo) (w : World) (g gt : Nat) (first : Int) (wr : World) (ms ss : List Int) (v u : Value) : Prop where
  bx : Box wr g 36 m.cells
  bz : Box wr (g + 1) 67 #[.string ⟨#[]⟩, .int .i64 0, .slice none 0 0, .slice none 0 0]
  bt : Box wr gt 67 #[.string m.nm, .int .i64 first, v, u]
  o1 : wr.ownsRow (gt + 1) 3 1 v ms.length (ints ms)
  o2 : wr.ownsRow (gt + 1) 3 1 u ss.length (ints ss)
  ap : ∀ b, v.ownBlock = some b → u.ownBlock ≠ some b
  lt : g + 1 < gt
  gw : w.heap.size = g
  be : Below w.heap.size w wr
section
variable {m : Mo} {w wr w' : World} {g gt : Nat} {first : Int} {ms ss : List Int} {v u : Value}
theorem OfSt.next (h : OfSt m w g gt first wr ms ss v u) (hb : Below wr.heap.size wr w') : OfSt m w g gt first w' ms ss v u :=
  ⟨h.bx.below hb, h.bz.below hb, h.bt.below hb, own_next h.o1 hb, own_next h.o2 hb, h.ap, h.lt, h.gw, below_then h.be hb⟩
theorem OfSt.app1 (h : OfSt m w g gt first wr ms ss v u) (x : Int) {gg cap : Nat} (hown : w'.ownsRow (gt + 1) 3 1 (.slice (some ⟨gg, 0, none⟩) (ms.length + 1) cap) (ms.length + 1) (ints ms ++ [.int .i64 x]))
    (hg : (wr.alloc (.cells #[.int .i64 x] 3)).grownBy w' v.ownBlock) (hat : v.ownBlock = some gg ∨ gg = wr.heap.size + 1) :
    OfSt m w g gt first (w'.setCell ⟨gt, 2, none⟩ (.slice (some ⟨gg, 0, none⟩) (ms.length + 1) cap)) (ms ++ [x]) ss (.slice (some ⟨gg, 0, none⟩) (ms.length + 1) cap) u := by
  have hgt := h.bt.lt
  have hlt := h.lt
  have hne : ∀ b, b ≤ gt → some b ≠ v.ownBlock := fun b hb e => by have := (own_lt h.o1 b e.symm).1; omega
  have hgg : gt + 1 ≤ gg := by
    rcases hat with e | e
    · exact (own_lt h.o1 gg e).1
    · omega
  refine ⟨((h.bx.alloc _).grown hg (hne g (by omega))).far (p := ⟨gt, 2, none⟩) (show g ≠ gt by omega) _, ((h.bz.alloc _).grown hg (hne (g + 1) (by omega))).far (p := ⟨gt, 2, none⟩) (show g + 1 ≠ gt by omega) _, ((h.bt.alloc _).grown hg (hne gt (by omega))).set_ 2 _, ?_, ?_, ?_, hlt, h.gw, ?_⟩
  · rw [ints_snoc, List.length_append]
    exact own_set hown _ _ (by show gt < gt + 1; omega)
  · refine own_set (own_heap h.o2 fun b hb => ?_) _ _ (by show gt < gt + 1; omega)
    have hbl := own_lt h.o2 b hb
    have hnv : some b ≠ v.ownBlock := fun e => h.ap b e.symm hb
    rw [hg.block b (by simp; omega) hnv]
    exact Below.heap_alloc wr _ b hbl.2
  · intro b hb hu
    have hb' : gg = b := by simpa [Value.ownBlock] using hb
    subst hb'
    rcases hat with e | e
    · exact h.ap gg e hu
    · have := (own_lt h.o2 gg hu).2; omega
  · have hz := h.be.size
    refine Below.setCell ((h.be.alloc hz _).grown hg (by simp; omega) (fun k hk => ?_)) (p := ⟨gt, 2, none⟩) (by show w.heap.size ≤ gt; have := h.gw; omega) _
    have := (own_lt h.o1 k hk).1
    have := h.gw
    omega
theorem OfSt.app2 (h : OfSt m w g gt first wr ms ss v u) (x : Int) {gg cap : Nat} (hown : w'.ownsRow (gt + 1) 3 1 (.slice (some ⟨gg, 0, none⟩) (ss.length + 1) cap) (ss.length + 1) (ints ss ++ [.int .i64 x]))
    (hg : (wr.alloc (.cells #[.int .i64 x] 3)).grownBy w' u.ownBlock) (hat : u.ownBlock = some gg ∨ gg = wr.heap.size + 1) :
    OfSt m w g gt first (w'.setCell ⟨gt, 3, none⟩ (.slice (some ⟨gg, 0, none⟩) (ss.length + 1) cap)) ms (ss ++ [x]) v (.slice (some ⟨gg, 0, none⟩) (ss.length + 1) cap) := by
  have hgt := h.bt.lt
  have hlt := h.lt
  have hne : ∀ b, b ≤ gt → some b ≠ u.ownBlock := fun b hb e => by have := (own_lt h.o2 b e.symm).1; omega
  have hgg : gt + 1 ≤ gg := by
    rcases hat with e | e
    · exact (own_lt h.o2 gg e).1
    · omega
  refine ⟨((h.bx.alloc _).grown hg (hne g (by omega))).far (p := ⟨gt, 3, none⟩) (show g ≠ gt by omega) _, ((h.bz.alloc _).grown hg (hne (g + 1) (by omega))).far (p := ⟨gt, 3, none⟩) (show g + 1 ≠ gt by omega) _, ((h.bt.alloc _).grown hg (hne gt (by omega))).set_ 3 _, ?_, ?_, ?_, hlt, h.gw, ?_⟩
  · refine own_set (own_heap h.o1 fun b hb => ?_) _ _ (by show gt < gt + 1; omega)
    have hbl := own_lt h.o1 b hb
    have hnv : some b ≠ u.ownBlock := fun e => h.ap b hb e.symm
    rw [hg.block b (by simp; omega) hnv]
    exact Below.heap_alloc wr _ b hbl.2
  · rw [ints_snoc, List.length_append]
    exact own_set hown _ _ (by show gt < gt + 1; omega)
  · intro b hb hu
    have hb' : gg = b := by simpa [Value.ownBlock] using hu
    subst hb'
    rcases hat with e | e
    · exact h.ap gg hb e
    · have := (own_lt h.o1 gg hb).2; omega
  · have hz := h.be.size
    refine Below.setCell ((h.be.alloc hz _).grown hg (by simp; omega) (fun k hk => ?_)) (p := ⟨gt, 3, none⟩) (by show w.heap.size ≤ gt; have := h.gw; omega) _
    have := (own_lt h.o2 k hk).1
    have := h.gw
    omega
end
end Go.Proofs.Ytfindembancjdaa
