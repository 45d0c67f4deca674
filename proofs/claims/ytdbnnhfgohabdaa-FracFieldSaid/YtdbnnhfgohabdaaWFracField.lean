/- The walk of FracField: it returns true at every input; it writes nothing that was there. -/
import Derived.Test.YtdbnnhfgohabdaaFrac4
namespace Go.Proofs.Ytdbnnhfgohabdaa.fracField
open Go.RowKit
set_option linter.unusedVariables false

set_option maxHeartbeats 4000000 in
set_option maxRecDepth 100000 in
theorem walk (a0 : Int) (w0 : (Lit.int .i64 a0).wf = true) (a1 : Int) (w1 : (Lit.int .i64 a1).wf = true) (a2 : Int) (w2 : (Lit.int .i64 a2).wf = true) (a3 : Int) (w3 : (Lit.int .i64 a3).wf = true) (a4 : Int) (w4 : (Lit.int .i64 a4).wf = true) (a5 : Int) (w5 : (Lit.int .i64 a5).wf = true) (w : World) :
    Calls Try.prog 8 #[.int .i64 a0, .int .i64 a1, .int .i64 a2, .int .i64 a3, .int .i64 a4, .int .i64 a5] w fun e w' => e = .returned (.bool true) ∧ Below w.heap.size w w' := by
  clear w0 w1 w2 w3 w4 w5
  have hh : FOk 1 2 := ⟨by omega, by omega, by omega, by omega, by decide⟩
  have e1 : fN (1 * 2 + 1 * 2) (2 * 2) = 1 := by decide
  have e2 : fD (1 * 2 + 1 * 2) (2 * 2) = 1 := by decide
  have H0 := Lib.hid (fun w => fadd_yes 1 2 1 2 w hh hh (by decide) (by decide))
  rw [e1, e2] at H0
  clear hh e1 e2
  go_enter Try.func8, Try.ntmps8
  go_wp2_with fail
  refine (H0.out _).mono ?_
  rintro e w1 ⟨rfl, hb1⟩
  have hB := below_next (Below.refl _ _) hb1
  clear hb1 H0
  go_wp2_with fail
  refine (small_any _ _ _).mono ?_
  rintro e w2 ⟨xn, xd, rfl, hx, hb2⟩
  replace hB := below_next hB hb2
  clear hb2
  go_wp2_with fail
  refine (small_any _ _ _).mono ?_
  rintro e w3 ⟨yn, yd, rfl, hy, hb3⟩
  replace hB := below_then hB hb3
  clear hb3
  go_wp2_with fail
  refine (small_any _ _ _).mono ?_
  rintro e w4 ⟨zn, zd, rfl, hz, hb4⟩
  replace hB := below_then hB hb4
  clear hb4
  have dist := field_distrib xn xd yn yd zn zd hx.pos hy.pos hz.pos
  have back := field_back xn xd yn yd hx.pos hy.pos hx.low
  have fxy := hx.add hy
  have fxz := hx.mul hz
  have fyz := hy.mul hz
  have fl := fxy.mul hz
  have fr := fxz.add fyz
  have fb := fxy.sub hy
  have ox := hx.ok (by omega) (by omega)
  have oy := hy.ok (by omega) (by omega)
  have oz := hz.ok (by omega) (by omega)
  have oxy := fxy.ok (by omega) (by omega)
  have oxz := fxz.ok (by omega) (by omega)
  have oyz := fyz.ok (by omega) (by omega)
  have e1 : yn * xd + xn * yd = xn * yd + yn * xd := Int.add_comm _ _
  have e2 : yd * xd = xd * yd := Int.mul_comm _ _
  have Hxy := Lib.hid (fun w => fadd_yes xn xd yn yd w ox oy (by have := fxy.n1; omega) (by have := fxy.d1; omega))
  have Hyx := fun w => fadd_yes yn yd xn xd w oy ox (by rw [e1, e2]; have := fxy.n1; omega) (by rw [e1, e2]; have := fxy.d1; omega)
  rw [e1, e2] at Hyx
  replace Hyx := Lib.hid Hyx
  have Hl := Lib.hid (fun w => fmul_yes _ _ zn zd w oxy oz (by have := fl.n1; omega) (by have := fl.d1; omega))
  have Hxz := Lib.hid (fun w => fmul_yes xn xd zn zd w ox oz (by have := fxz.n1; omega) (by have := fxz.d1; omega))
  have Hyz := Lib.hid (fun w => fmul_yes yn yd zn zd w oy oz (by have := fyz.n1; omega) (by have := fyz.d1; omega))
  have Hr := fun w => fadd_yes _ _ _ _ w oxz oyz (by have := fr.n1; omega) (by have := fr.d1; omega)
  rw [← dist.1, ← dist.2] at Hr
  replace Hr := Lib.hid Hr
  have Hb := fun w => fsub_yes _ _ yn yd w oxy oy (by have := fb.n1; omega) (by have := fb.d1; omega)
  rw [back.1, back.2] at Hb
  replace Hb := Lib.hid Hb
  have Hq : Hid (zn ≠ 0 → ∀ w, _) := fun h0 => by
    have fq := fxz.div hz h0
    have q := fun w => fdiv_yes _ _ zn zd w oxz oz h0 (by have := fq.n1; omega) (by have := fq.d1; omega)
    rw [(field_quot xn xd zn zd hx.pos hz.pos h0 hx.low).1, (field_quot xn xd zn zd hx.pos hz.pos h0 hx.low).2] at q
    exact q
  clear dist back fxy fxz fyz fl fr fb ox oy oz oxy oxz oyz e1 e2 hx hy hz
  generalize fN (fN (xn * yd + yn * xd) (xd * yd) * zn) (fD (xn * yd + yn * xd) (xd * yd) * zd) = nl at *
  generalize fD (fN (xn * yd + yn * xd) (xd * yd) * zn) (fD (xn * yd + yn * xd) (xd * yd) * zd) = dl at *
  generalize fN (xn * yd + yn * xd) (xd * yd) = n1 at *
  generalize fD (xn * yd + yn * xd) (xd * yd) = d1 at *
  generalize fN (xn * zn) (xd * zd) = n3 at *
  generalize fD (xn * zn) (xd * zd) = d3 at *
  generalize fN (yn * zn) (yd * zd) = n4 at *
  generalize fD (yn * zn) (yd * zd) = d4 at *
  go_wp2_with fail
  refine (Hxy.out _).mono ?_
  rintro e w5 ⟨rfl, hb5⟩
  have bx : IsF w5 w4.heap.size xn xd := IsF.below (((show IsF (w4.alloc _) w4.heap.size xn xd from heap_alloc_new _ _).alloc _).alloc _) hb5
  have by' : IsF w5 (w4.heap.size + 1) yn yd := IsF.below ((show IsF ((w4.alloc _).alloc _) (w4.heap.size + 1) yn yd from heap_alloc2_new _ _ _).alloc _) hb5
  have bz : IsF w5 (w4.heap.size + 1 + 1) zn zd := IsF.below (show IsF (((w4.alloc _).alloc _).alloc _) (w4.heap.size + 1 + 1) zn zd from heap_alloc3_new _ _ _ _) hb5
  replace hB := below_then (((hB.alloc hB.size _).alloc (hB.alloc hB.size _).size _).alloc ((hB.alloc hB.size _).alloc (hB.alloc hB.size _).size _).size _) hb5
  clear hb5
  generalize w4.heap.size + 1 + 1 = gz at *
  generalize w4.heap.size + 1 = gy at *
  generalize w4.heap.size = gx at *
  have bx0 := bx.c0
  have bx1 := bx.c1
  have bxl := bx.lt
  have by'0 := by'.c0
  have by'1 := by'.c1
  have by'l := by'.lt
  go_wp2_with fail
  refine (Hyx.out _).mono ?_
  rintro e w6 ⟨rfl, hb6⟩
  clear bx0 bx1 bxl by'0 by'1 by'l
  have bxy := IsF.new hb6
  replace bx := bx.next hb6
  replace by' := by'.next hb6
  replace bz := bz.next hb6
  replace hB := below_next hB hb6
  clear hb6
  generalize w5.heap.size = g5 at *
  have bxy0 := bxy.c0
  have bxy1 := bxy.c1
  have bxyl := bxy.lt
  have bz0 := bz.c0
  have bz1 := bz.c1
  have bzl := bz.lt
  go_wp2_with fail
  refine (Hl.out _).mono ?_
  rintro e w7 ⟨rfl, hb7⟩
  clear bxy0 bxy1 bxyl bz0 bz1 bzl
  have byx := IsF.new hb7
  replace bx := bx.next hb7
  replace by' := by'.next hb7
  replace bz := bz.next hb7
  replace bxy := bxy.next hb7
  replace hB := below_next hB hb7
  clear hb7
  generalize w6.heap.size = g6 at *
  have bx0 := bx.c0
  have bx1 := bx.c1
  have bxl := bx.lt
  have bz0 := bz.c0
  have bz1 := bz.c1
  have bzl := bz.lt
  go_wp2_with fail
  refine (Hxz.out _).mono ?_
  rintro e w8 ⟨rfl, hb8⟩
  clear bx0 bx1 bxl bz0 bz1 bzl
  have bl := IsF.new hb8
  replace bx := bx.next hb8
  replace by' := by'.next hb8
  replace bz := bz.next hb8
  replace bxy := bxy.next hb8
  replace byx := byx.next hb8
  replace hB := below_next hB hb8
  clear hb8
  generalize w7.heap.size = g7 at *
  have by'0 := by'.c0
  have by'1 := by'.c1
  have by'l := by'.lt
  have bz0 := bz.c0
  have bz1 := bz.c1
  have bzl := bz.lt
  go_wp2_with fail
  refine (Hyz.out _).mono ?_
  rintro e w9 ⟨rfl, hb9⟩
  clear by'0 by'1 by'l bz0 bz1 bzl
  have bxz := IsF.new hb9
  replace bx := bx.next hb9
  replace by' := by'.next hb9
  replace bz := bz.next hb9
  replace bxy := bxy.next hb9
  replace byx := byx.next hb9
  replace bl := bl.next hb9
  replace hB := below_next hB hb9
  clear hb9
  generalize w8.heap.size = g8 at *
  have bxz0 := bxz.c0
  have bxz1 := bxz.c1
  have bxzl := bxz.lt
  go_wp2_with fail
  refine (Hr.out _).mono ?_
  rintro e w10 ⟨rfl, hb10⟩
  clear bxz0 bxz1 bxzl
  have byz := IsF.new hb10
  replace bx := bx.next hb10
  replace by' := by'.next hb10
  replace bz := bz.next hb10
  replace bxy := bxy.next hb10
  replace byx := byx.next hb10
  replace bl := bl.next hb10
  replace bxz := bxz.next hb10
  replace hB := below_next hB hb10
  clear hb10
  generalize w9.heap.size = g9 at *
  have bxy0 := bxy.c0
  have bxy1 := bxy.c1
  have bxyl := bxy.lt
  have byx0 := byx.c0
  have byx1 := byx.c1
  have byxl := byx.lt
  have bl0 := bl.c0
  have bl1 := bl.c1
  have bll := bl.lt
  have by'0 := by'.c0
  have by'1 := by'.c1
  have by'l := by'.lt
  go_wp2_with fail
  refine (Hb.out _).mono ?_
  rintro e w11 ⟨rfl, hb11⟩
  clear bxy0 bxy1 bxyl byx0 byx1 byxl bl0 bl1 bll by'0 by'1 by'l
  replace bx := bx.next hb11
  replace by' := by'.next hb11
  replace bz := bz.next hb11
  replace bxy := bxy.next hb11
  replace byx := byx.next hb11
  replace bl := bl.next hb11
  replace bxz := bxz.next hb11
  replace byz := byz.next hb11
  replace hB := below_next hB hb11
  clear hb11
  have bx0 := bx.c0
  have bx1 := bx.c1
  have bxl := bx.lt
  have bz0 := bz.c0
  have bz1 := bz.c1
  have bzl := bz.lt
  have bxz0 := bxz.c0
  have bxz1 := bxz.c1
  have bxzl := bxz.lt
  by_cases h0 : zn = 0
  · have t0 : (zn == 0) = true := beq_iff_eq.2 h0
    clear h0
    go_wp2_with fail
    go_ret
    exact ⟨rfl, hB.alloc hB.size _⟩
  · have t0 : (zn == 0) = false := beq_eq_false_iff_ne.2 h0
    go_wp2_with fail
    refine (Hq.out h0 _).mono ?_
    rintro e w12 ⟨rfl, hb12⟩
    clear bx0 bx1 bxl bz0 bz1 bzl bxz0 bxz1 bxzl
    replace bx := bx.next hb12
    replace hB := below_next hB hb12
    have bx0 := bx.c0
    have bx1 := bx.c1
    have bxl := bx.lt
    clear hb12 h0
    go_wp2_with fail
    go_ret
    exact ⟨rfl, hB.alloc hB.size _⟩
end Go.Proofs.Ytdbnnhfgohabdaa.fracField
