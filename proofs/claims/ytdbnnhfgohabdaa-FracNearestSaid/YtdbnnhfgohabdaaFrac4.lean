/- Words for boxed fractions; the contract of the laws' own small. -/
import Derived.Test.YtdbnnhfgohabdaaFrac3
import Derived.Test.YtdbnnhfgohabdaaWords
import Derived.Test.YtdbnnhfgohabdaaLine1
namespace Go.Proofs.Ytdbnnhfgohabdaa
open Go.RowKit
set_option linter.unusedVariables false

theorem FIn.ok {n d : Int} {a b : Nat} (h : FIn n d a b) (ha : a ≤ 2147483647) (hb : b ≤ 2147483647) : FOk n d := by
  obtain ⟨h1, h2, h3, h4⟩ := h
  exact ⟨by omega, by omega, by omega, by omega, h4⟩

/-- block g is a fraction's box -/
def IsF (W : World) (g : Nat) (n d : Int) : Prop := W.heap[g]? = some (.cells #[.int .i64 n, .int .i64 d] 44 (0, 0))
section
variable {W w1 w2 : World} {g : Nat} {n d : Int} {X : Obj}
theorem IsF.lt (h : IsF W g n d) : g < W.heap.size := by
  rcases Nat.lt_or_ge g W.heap.size with hlt | hge
  · exact hlt
  · unfold IsF at h; rw [Array.getElem?_eq_none hge] at h; cases h
theorem IsF.c0 (h : IsF W g n d) : W.cell? ⟨g, 0, none⟩ = some (.int .i64 n) := cell_of_row W g 0 _ _ _ h
theorem IsF.c1 (h : IsF W g n d) : W.cell? ⟨g, 1, none⟩ = some (.int .i64 d) := cell_of_row W g 1 _ _ _ h
theorem IsF.below (h : IsF W g n d) (hb : Below W.heap.size W w1) : IsF w1 g n d := (hb.block g h.lt).trans h
theorem IsF.alloc (h : IsF W g n d) (X : Obj) : IsF (W.alloc X) g n d := (Below.heap_alloc W X g h.lt).trans h
theorem IsF.next (h : IsF w1 g n d) (hb : Below (w1.alloc X).heap.size (w1.alloc X) w2) : IsF w2 g n d := (h.alloc X).below hb
theorem IsF.new (hb : Below (w1.alloc (.cells #[.int .i64 n, .int .i64 d] 44)).heap.size (w1.alloc (.cells #[.int .i64 n, .int .i64 d] 44)) w2) : IsF w2 w1.heap.size n d :=
  IsF.below (W := w1.alloc (.cells #[.int .i64 n, .int .i64 d] 44)) (heap_alloc_new _ _) hb
end

/-- What small says. -/
def IsSmall (w : World) (e : Ending) (w' : World) : Prop := ∃ n d : Int, e = .returned (.agg #[.int .i64 n, .int .i64 d]) ∧ FIn n d 500 60 ∧ Below w.heap.size w w'

set_option maxHeartbeats 1000000 in
set_option maxRecDepth 100000 in
theorem small_any (a b : Int) (w : World) : Calls Try.prog 30 #[.int .i64 a, .int .i64 b] w (IsSmall w) := by
  have ha1 : -500 ≤ -500 + a % 1001 := by omega
  have ha2 : -500 + a % 1001 ≤ 500 := by omega
  have hm1 : 1 ≤ 1 + b % 60 := by omega
  have hm2 : 1 + b % 60 ≤ 60 := by omega
  go_enter Try.func30, Try.ntmps30
  go_wp2_with (go_at_call 18; refine (cut_any _ _ _ _ (by omega) (by omega) (by omega) (by omega)).mono ?_; rintro e w' ⟨rfl, rfl⟩)
  generalize -500 + a % 1001 = n at *
  generalize 1 + b % 60 = d at *
  have hf : FIn (fN n d) (fD n d) 500 60 := FIn.of n d 500 60 (by omega) (by omega) (by omega)
  have f1 := hf.n1
  have f2 := hf.d1
  have f3 := hf.pos
  refine (of_fits n d _ (by omega) (by omega) (by omega) (by omega) (by omega) (by omega) (by omega)).mono ?_
  rintro e w1 ⟨rfl, hb1⟩
  have hz : w.heap.size < w1.heap.size := by have := hb1.size; simp at this; omega
  have hF : IsF w1 w.heap.size 0 0 := IsF.new hb1
  have c0 := hF.c0
  have c1 := hF.c1
  have fz : ∀ j, w1.frozen? ⟨w.heap.size, j, none⟩ = false := fun j => frozen_of_row _ _ _ _ _ hF
  have hB : Below w.heap.size w w1 := below_next (Below.refl _ _) hb1
  clear hb1
  go_wp2_with fail
  refine bodyPost_ret (v := .agg #[.int .i64 (fN n d), .int .i64 (fD n d)]) (by simp [results, Try.results30, go_sem, c0, c1, hz]) rfl ⟨_, _, rfl, hf, ?_⟩
  exact ((hB.setCell (p := ⟨w.heap.size, 0, none⟩) (Nat.le_refl _) _).setCell (p := ⟨w.heap.size, 1, none⟩) (Nat.le_refl _) _).alloc (by simp [World.setCell]; omega) _
end Go.Proofs.Ytdbnnhfgohabdaa
