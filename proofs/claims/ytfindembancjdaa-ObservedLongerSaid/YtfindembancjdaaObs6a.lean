/- What observed.Extend says, and what its region keeps. -/
import Derived.Test.YtfindembancjdaaObsLaw
import Derived.Test.YtfindembancjdaaSlice1
namespace Go.Proofs.Ytfindembancjdaa
open Go.RowKit
set_option linter.unusedVariables false

theorem below_bet {a w1 w2 : World} {B : Nat} (h : Below B a w1) (hB : B ≤ w1.heap.size) (hb : Below w1.heap.size w1 w2) : Below B a w2 := h.trans (hb.mono hB)
theorem below_al {a w1 : World} {B : Nat} (h : Below B a w1) (hB : B ≤ w1.heap.size) (o : Obj) : Below B a (w1.alloc o) := h.alloc hB o

theorem box_drew {w : World} {g : Nat} {t : TypeId} {cs : Array Value} (h : Box w g t cs) : Box w.drew g t cs := h
theorem bx_new {X : World} {n : Nat} {t : TypeId} {cs : Array Value} (h : X.heap.size = n) : Box (X.alloc (.cells cs t)) n t cs := h ▸ Box.new X t cs
theorem bx_news {w : World} {n : Nat} {t : TypeId} {x : Value} (h : Box w n t #[x]) : ∀ j u, [x][j]? = some u → w.cell? ((⟨n, 0, none⟩ : Addr).add j) = some u := World.news_of_block (cs := #[x]) h
/-- what the region of Extend keeps -/
structure Kept (B : Nat) (W1 W : World) : Prop where
  be : Below B W1 W
  sz : B ≤ W.heap.size
theorem Kept.alloc {B : Nat} {W1 W : World} (h : Kept B W1 W) (o : Obj) : Kept B W1 (W.alloc o) := ⟨h.be.alloc h.sz o, by have := h.sz; simp; omega⟩
theorem Kept.next {B : Nat} {W1 W W' : World} (h : Kept B W1 W) (hb : Below W.heap.size W W') : Kept B W1 W' := ⟨h.be.trans (hb.mono h.sz), Nat.le_trans h.sz hb.size⟩
theorem Kept.grown {B : Nat} {W1 W W' : World} {row : Option Nat} (h : Kept B W1 W) (hg : W.grownBy W' row) (hr : ∀ k, row = some k → B ≤ k) : Kept B W1 W' := ⟨h.be.grown hg h.sz hr, Nat.le_trans h.sz hg.size⟩
theorem Kept.set_ {B : Nat} {W1 W : World} (h : Kept B W1 W) (p : Addr) (v : Value) (hp : B ≤ p.block) : Kept B W1 (W.setCell p v) := ⟨h.be.setCell hp v, by have := h.sz; simp; omega⟩

theorem own_ne_box {w : World} {base : Nat} {e : TypeId} {s : Nat} {v : Value} {n : Nat} {xs : List Value} {g : Nat} {ty : TypeId} {cs : Array Value} (h : w.ownsRow base e s v n xs) (hb : Box w g ty cs) (hne : e ≠ ty) (b : Nat) (hv : v.ownBlock = some b) : b ≠ g := by
  intro e'
  subst e'
  rcases h.2 with ⟨rfl, _⟩ | ⟨g', cap, cur, rfl, _, hg, _⟩
  · simp [Value.ownBlock] at hv
  · have : g' = b := by simpa [Value.ownBlock] using hv
    subst this
    unfold Box at hb
    rw [hg] at hb
    simp at hb
    exact hne hb.2
theorem own_set4 {w : World} {base : Nat} {e : TypeId} {s : Nat} {v : Value} {n : Nat} {xs : List Value} {g : Nat} {ty : TypeId} {cs : Array Value} (h : w.ownsRow base e s v n xs) (hb : Box w g ty cs) (hne : e ≠ ty) (v0 v1 v2 v3 : Value) :
    ((((w.setCell ⟨g, 0, none⟩ v0).setCell ⟨g, 1, none⟩ v1).setCell ⟨g, 2, none⟩ v2).setCell ⟨g, 3, none⟩ v3).ownsRow base e s v n xs := own_heap h fun b hv => by
  have hn := own_ne_box h hb hne b hv
  rw [Below.heap_setCell _ _ _ b hn, Below.heap_setCell _ _ _ b hn, Below.heap_setCell _ _ _ b hn, Below.heap_setCell _ _ _ b hn]

theorem Box.grown_own {w w' : World} {g : Nat} {ty : TypeId} {cs : Array Value} {base : Nat} {e : TypeId} {s : Nat} {v : Value} {n : Nat} {xs : List Value} (h : Box w g ty cs) (ho : w.ownsRow base e s v n xs) (hne : e ≠ ty) (hg : w.grownBy w' v.ownBlock) : Box w' g ty cs :=
  h.grown hg (fun e' => own_ne_box ho h hne g e'.symm rfl)

/-- what Extend says: a table with one year more -/
def IsExt (t : Tab) (l : List Int) (w : World) (e : Ending) (w' : World) : Prop :=
  ∃ u : Tab, e = .returned (.tuple #[u.val, .int .i64 0]) ∧ u.nm = t.nm ∧ u.first = t.first ∧ u.ms = t.ms ++ [(l.length : Int)] ∧ u.ss = t.ss ++ l ∧ TIn w' u ∧ (∀ a, u.A1 = some a → w.heap.size ≤ a.block) ∧ (∀ a, u.A2 = some a → w.heap.size ≤ a.block) ∧ Below w.heap.size w w'

end Go.Proofs.Ytfindembancjdaa
