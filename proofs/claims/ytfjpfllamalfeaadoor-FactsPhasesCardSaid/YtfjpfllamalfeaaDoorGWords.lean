/- Words -/
import Derived.Laws.OwnMore
import Derived.Deep.AppendLies
import Derived.Maps.AppendAt
import Derived.Test.YtfjpfllamalfeaaDoorGLaid
/- Words for memory that is read: a row of cells behind a slice; a block known whole. -/
namespace Go.Proofs.YtfjpfllamalfeaaDoor
open Go.RowKit
set_option linter.unusedVariables false

/-- the cells cs lie from the slice's address A on, below block B -/
def Row (w : World) (B : Nat) (A : Option Addr) (cs : List Value) : Prop :=
  cs = [] ∨ ∃ b o, A = some ⟨b, o, none⟩ ∧ b < B ∧ ∀ j v, cs[j]? = some v → w.cell? ⟨b, o + j, none⟩ = some v
section
variable {w w' : World} {B B' : Nat} {A : Option Addr} {cs : List Value}
theorem Row.below (h : Row w B A cs) (hb : Below B w w') : Row w' B A cs := by
  rcases h with h | ⟨b, o, e, hB, hc⟩
  · exact .inl h
  · exact .inr ⟨b, o, e, hB, fun j v hv => (hb.cell (p := ⟨b, o + j, none⟩) hB).trans (hc j v hv)⟩
theorem Row.more (h : Row w B A cs) (hB : B ≤ B') : Row w B' A cs := by
  rcases h with h | ⟨b, o, e, hb, hc⟩
  · exact .inl h
  · exact .inr ⟨b, o, e, by omega, hc⟩
theorem Row.next (h : Row w w.heap.size A cs) (hb : Below w.heap.size w w') : Row w' w'.heap.size A cs := (h.below hb).more hb.size
theorem Row.alloc (h : Row w w.heap.size A cs) (o : Obj) : Row (w.alloc o) (w.alloc o).heap.size A cs := h.next (below_alloc1 w o)
theorem Row.drewN (h : Row w B A cs) (n : Nat) : Row (w.drewN n) B A cs := h
/-- a row that is not empty has an address -/
theorem Row.open_ (h : Row w B A cs) (hn : cs ≠ []) : ∃ b o, A = some ⟨b, o, none⟩ ∧ b < B ∧ ∀ j v, cs[j]? = some v → w.cell? ⟨b, o + j, none⟩ = some v := by
  rcases h with h | h
  · exact absurd h hn
  · exact h
end

/-- the cells of a list of integers -/
def ints (xs : List Int) : List Value := xs.map (Value.int .i64)
theorem ints_length (xs : List Int) : (ints xs).length = xs.length := by simp [ints]
theorem ints_get (xs : List Int) (i : Nat) (h : i < xs.length) : (ints xs)[i]? = some (.int .i64 (xs.getD i 0)) := by
  simp [ints, List.getD, List.getElem?_eq_getElem h]
theorem ints_ne (xs : List Int) (h : 0 < xs.length) : ints xs ≠ [] := by
  intro e
  have h1 : (ints xs).length = 0 := by rw [e]; rfl
  rw [ints_length] at h1
  omega
theorem ints_cell {w : World} {b o : Nat} {xs : List Int} (h : ∀ j v, (ints xs)[j]? = some v → w.cell? ⟨b, o + j, none⟩ = some v) (i : Nat) (hi : i < xs.length) :
    w.cell? ⟨b, o + i, none⟩ = some (.int .i64 (xs.getD i 0)) := h i _ (ints_get xs i hi)
theorem ints_snoc (xs : List Int) (x : Int) : ints (xs ++ [x]) = ints xs ++ [.int .i64 x] := by simp [ints]

/-- block g is just these cells -/
def Box (w : World) (g : Nat) (t : TypeId) (cs : Array Value) : Prop := w.heap[g]? = some (.cells cs t (0, 0))
section
variable {w w' : World} {g : Nat} {t : TypeId} {cs : Array Value}
theorem Box.lt (h : Box w g t cs) : g < w.heap.size := by
  rcases Nat.lt_or_ge g w.heap.size with hlt | hge
  · exact hlt
  · unfold Box at h; rw [Array.getElem?_eq_none hge] at h; cases h
theorem Box.cell (h : Box w g t cs) (i : Nat) : w.cell? ⟨g, i, none⟩ = cs[i]? := cell_of_row w g i cs t (0, 0) h
theorem Box.free (h : Box w g t cs) (i : Nat) : w.frozen? ⟨g, i, none⟩ = false := frozen_of_row w g i cs t h
theorem Box.new (w : World) (t : TypeId) (cs : Array Value) : Box (w.alloc (.cells cs t)) w.heap.size t cs := heap_alloc_new w _
theorem Box.drewN (h : Box w g t cs) (n : Nat) : Box (w.drewN n) g t cs := h
theorem Box.alloc (h : Box w g t cs) (o : Obj) : Box (w.alloc o) g t cs := (Below.heap_alloc w o g h.lt).trans h
theorem Box.below (h : Box w g t cs) (hb : Below w.heap.size w w') : Box w' g t cs := (hb.block g h.lt).trans h
theorem Box.belowB {B : Nat} (h : Box w g t cs) (hb : Below B w w') (hg : g < B) : Box w' g t cs := (hb.block g hg).trans h
theorem Box.set_ (h : Box w g t cs) (i : Nat) (u : Value) : Box (w.setCell ⟨g, i, none⟩ u) g t (cs.setIfInBounds i u) := by
  unfold Box at h ⊢
  simp [World.setCell, Array.getElem?_modify, h]
theorem Box.far (h : Box w g t cs) {p : Addr} (hp : g ≠ p.block) (u : Value) : Box (w.setCell p u) g t cs := (Below.heap_setCell w p u g hp).trans h
end

theorem Row.of_box {w : World} {g : Nat} {t : TypeId} {cs : Array Value} (h : Box w g t cs) : Row w w.heap.size (some ⟨g, 0, none⟩) cs.toList :=
  .inr ⟨g, 0, rfl, h.lt, fun j v hv => by rw [Nat.zero_add, h.cell j]; simpa using hv⟩
theorem below_next {a w1 w2 : World} {X : Obj} (h : Below a.heap.size a w1) (hb : Below (w1.alloc X).heap.size (w1.alloc X) w2) : Below a.heap.size a w2 :=
  (h.alloc h.size X).trans (hb.mono ((h.alloc h.size X).size))
theorem below_then {a w1 w2 : World} (h : Below a.heap.size a w1) (hb : Below w1.heap.size w1 w2) : Below a.heap.size a w2 := h.trans (hb.mono h.size)

theorem own_base {w : World} {base : Nat} {e : TypeId} {size n : Nat} {v : Value} {xs : List Value} (h : w.ownsRow base e size v n xs) (k : Nat) (hk : v.ownBlock = some k) : base ≤ k := by
  rcases h.2 with ⟨rfl, _⟩ | ⟨g, cap, cur, rfl, hb, _⟩
  · simp [Value.ownBlock] at hk
  · simp [Value.ownBlock] at hk
    omega

/-- an owned row of one-cell elements, read as a row -/
theorem Row.of_own {w : World} {base : Nat} {e : TypeId} {A : Option Addr} {n c : Nat} {xs : List Value} (h : w.ownsRow base e 1 (.slice A n c) n xs) : Row w w.heap.size A xs := by
  by_cases hn : 0 < n
  · obtain ⟨g, cap, hv, _, hlt⟩ := h.form hn
    have hA : A = some ⟨g, 0, none⟩ := by injection hv
    subst hA
    refine .inr ⟨g, 0, rfl, hlt, fun j v hv => ?_⟩
    have := h.cells (g := g) rfl j v hv
    rw [Nat.zero_add]
    unfold Addr.add at this
    split at this
    · rename_i hj; subst hj; exact this
    · simpa using this
  · have h0 : n = 0 := by omega
    subst h0
    have := h.1
    exact .inl (List.eq_nil_of_length_eq_zero (by simpa using this))
end Go.Proofs.YtfjpfllamalfeaaDoor
