/- Contract of frac.Near, both cases; the closure of FracNearest. -/
import Derived.Test.YtdbnnhfgohabdaaNear3
namespace Go.Proofs.Ytdbnnhfgohabdaa
open Go.RowKit
set_option linter.unusedVariables false

theorem near_any (N m d : Int) (w : World) (h : FIn N m 100000 10000) (hd : 1 ≤ d) (hd' : d ≤ 100) :
    Calls Try.prog 45 #[.agg #[.int .i64 N, .int .i64 m], .int .i64 d] w fun e w' => ∃ yN yD, e = .returned (.tuple #[.agg #[.int .i64 yN, .int .i64 yD], .int .i64 0]) ∧ IsNear N m d yN yD ∧ Below w.heap.size w w' := by
  have ok := h.ok (by omega) (by omega)
  have h1 := h.n1
  have h2 := h.d1
  have h3 := h.pos
  rcases Int.lt_or_le d m with hm | hm
  · exact near_far N m d w ok (by omega) (by omega) hd hd' hm
  · refine (near_self N m d w ok hd (by omega) hm).mono ?_
    rintro e w' ⟨rfl, hb⟩
    refine ⟨N, m, rfl, ⟨h3, hm, h.low, by omega, fun z v hv _ => ?_⟩, hb⟩
    rw [Int.sub_self]
    simp
    exact Int.mul_nonneg (by omega) (by omega)

theorem near_75 (yN yD : Int) (h : IsNear 7 5 2 yN yD) : yN = 3 ∧ yD = 2 := by
  have h1 := h.pos
  have h2 := h.small
  have h3 := h.near 3 2 (by omega) (by omega)
  rcases (show yD = 1 ∨ yD = 2 by omega) with e | e <;> subst e <;> omega

theorem IsNear.fin {N m d yN yD : Int} (h : IsNear N m d yN yD) (hd : d ≤ 100) : FIn yN yD 110000 100 :=
  ⟨h.size, by have := h.small; have := h.pos; omega, h.pos, h.low⟩

/-- the distance: the absolute value of the difference -/
def dN (n d N m : Int) : Int := ((fN (n * m - N * d) (d * m)).natAbs : Int)
def dD (n d N m : Int) : Int := fD (n * m - N * d) (d * m)

theorem dist_in {n d N m : Int} (h : FIn n d 110010 100) (h' : FIn N m 100000 10000) : FIn (fN (n * m - N * d) (d * m)) (fD (n * m - N * d) (d * m)) 1110100000 1000000 := by
  have := h.sub h'
  exact this

set_option maxHeartbeats 1000000 in
set_option maxRecDepth 100000 in
theorem dist_any (n d N m : Int) (g : Nat) (w : World) (h : FIn n d 110010 100) (h' : FIn N m 100000 10000) (hx : IsF w g N m) :
    Calls Try.prog 47 #[.agg #[.int .i64 n, .int .i64 d], .pointer (some ⟨g, 0, none⟩)] w fun e w' => e = .returned (.agg #[.int .i64 (dN n d N m), .int .i64 (dD n d N m)]) ∧ Below w.heap.size w w' := by
  have hf := dist_in h h'
  have f1 := hf.n1
  have f2 := hf.d1
  have Hs := Lib.hid (fun w => fsub_yes n d N m w (h.ok (by omega) (by omega)) (h'.ok (by omega) (by omega)) (by omega) (by omega))
  unfold dN dD
  clear hf f2
  generalize fN (n * m - N * d) (d * m) = A at *
  generalize fD (n * m - N * d) (d * m) = B at *
  have x0 := hx.c0
  have x1 := hx.c1
  have hl := hx.lt
  go_enter Try.func47, Try.ntmps47
  go_wp2_with fail
  refine (Hs.out _).mono ?_
  rintro e w1 ⟨rfl, hb1⟩
  have hB := below_then (below_alloc2 _ _ _) hb1
  have hr : IsF w1 (w.heap.size + 1) 0 0 := IsF.below (show IsF ((w.alloc _).alloc _) (w.heap.size + 1) 0 0 from heap_alloc2_new _ _ _) hb1
  have r0 := hr.c0
  have r1 := hr.c1
  have hrl := hr.lt
  have rf := fun i => Box.free (show Box w1 (w.heap.size + 1) _ _ from hr) i
  clear hb1 x0 x1 Hs
  go_wp2_with fail
  · rename_i hA
    rw [show (A.natAbs : Int) = -A from by omega]
    refine bodyPost_ret (v := .agg #[.int .i64 (-A), .int .i64 B]) (by simp [results, Try.results47, go_sem, r0, r1, hrl]) rfl ⟨rfl, ?_⟩
    exact ((hB.setCell (p := ⟨w.heap.size + 1, 0, none⟩) (show w.heap.size ≤ w.heap.size + 1 by omega) _).setCell (p := ⟨w.heap.size + 1, 1, none⟩) (show w.heap.size ≤ w.heap.size + 1 by omega) _).alloc (by simp [World.setCell]; omega) _
  · rename_i hA
    rw [show (A.natAbs : Int) = A from by omega]
    refine bodyPost_ret (v := .agg #[.int .i64 A, .int .i64 B]) (by simp [results, Try.results47, go_sem, r0, r1, hrl]) rfl ⟨rfl, ?_⟩
    exact ((hB.setCell (p := ⟨w.heap.size + 1, 0, none⟩) (show w.heap.size ≤ w.heap.size + 1 by omega) _).setCell (p := ⟨w.heap.size + 1, 1, none⟩) (show w.heap.size ≤ w.heap.size + 1 by omega) _).alloc (by simp [World.setCell]; omega) _

theorem dist_ok {n d N m : Int} (h : FIn n d 110010 100) (h' : FIn N m 100000 10000) : FOk (dN n d N m) (dD n d N m) := by
  have hf := dist_in h h'
  have := hf.n1; have := hf.d1; have := hf.pos
  refine ⟨this, ?_, ?_, ?_, ?_⟩
  · unfold dD; omega
  · unfold dN; omega
  · unfold dN; omega
  · unfold dN dD
    have hl := hf.low
    unfold Int.gcd at hl ⊢
    rw [Int.natAbs_natCast]
    exact hl

theorem dist_cmp {N m d yN yD zN zD : Int} (h : IsNear N m d yN yD) (hd : d ≤ 100) (hz : FIn zN zD 110010 100) (hzd : zD ≤ d) (h' : FIn N m 100000 10000) :
    dN yN yD N m * dD zN zD N m ≤ dN zN zD N m * dD yN yD N m := by
  have hy := h.pos
  have hv := hz.pos
  have hm := h'.pos
  have k1 : yD * m ≠ 0 := mul2_ne _ _ hy hm
  have k2 : zD * m ≠ 0 := mul2_ne _ _ hv hm
  obtain ⟨a1, _, _, _, a5⟩ := fD_pos (yN * m - N * yD) (yD * m) k1
  obtain ⟨b1, _, _, _, b5⟩ := fD_pos (zN * m - N * zD) (zD * m) k2
  exact dist_le _ _ _ _ _ _ yD zD m hy hv hm a5 b5 a1 b1 (h.near zN zD hv hzd)
end Go.Proofs.Ytdbnnhfgohabdaa
