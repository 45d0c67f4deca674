/- The walk of FracNearest: it returns true at every input; it writes nothing that was there. -/
import Derived.Test.YtdbnnhfgohabdaaNear4
import Derived.Deep.RegionHeld3
import Derived.Deep.RegionWith
import Derived.Deep.DeepCutAuto
import Derived.Deep.DrawnRows
namespace Go.Proofs.Ytdbnnhfgohabdaa.fracNearest
open Go.RowKit
set_option linter.unusedVariables false
attribute [local go_sem ↓] Go.wp_at_zero Go.wp_at_succ

set_option maxHeartbeats 40000000 in
set_option maxRecDepth 100000 in
theorem walk (a0 : Int) (w0 : (Lit.int .i64 a0).wf = true) (a1 : Int) (w1 : (Lit.int .i64 a1).wf = true) (a2 : Int) (w2 : (Lit.int .i64 a2).wf = true) (a3 : Int) (w3 : (Lit.int .i64 a3).wf = true) (a4 : Int) (w4 : (Lit.int .i64 a4).wf = true) (w : World) :
    Calls Try.prog 14 #[.int .i64 a0, .int .i64 a1, .int .i64 a2, .int .i64 a3, .int .i64 a4] w fun e w' => e = .returned (.bool true) ∧ Below w.heap.size w w' := by
  clear w0 w1 w2 w3 w4
  have H0 := Lib.hid (fun w => near_any 7 5 2 w ⟨by decide, by decide, by omega, by decide⟩ (by omega) (by omega))
  have ca := Lib.hid (fun w => cut_any a0 (-100000) 200001 w (by omega) (by omega) (by omega) (by omega))
  have cb := Lib.hid (fun w => cut_any a1 1 10000 w (by omega) (by omega) (by omega) (by omega))
  have cd := Lib.hid (fun w => cut_any a2 1 100 w (by omega) (by omega) (by omega) (by omega))
  have h1 : -100000 ≤ -100000 + a0 % 200001 ∧ -100000 + a0 % 200001 ≤ 100000 := by omega
  have h2 : 1 ≤ 1 + a1 % 10000 ∧ 1 + a1 % 10000 ≤ 10000 := by omega
  have h3 : 1 ≤ 1 + a2 % 100 ∧ 1 + a2 % 100 ≤ 100 := by omega
  generalize -100000 + a0 % 200001 = n at *
  generalize 1 + a1 % 10000 = m at *
  generalize 1 + a2 % 100 = d at *
  have cp := Lib.hid (fun w => cut_any a3 (-10) 21 w (by omega) (by omega) (by omega) (by omega))
  have cq := Lib.hid (fun w => cut_any a4 1 d w (by omega) (by omega) (by omega) (by omega))
  have h4 : -10 ≤ -10 + a3 % 21 ∧ -10 + a3 % 21 ≤ 10 := by omega
  have h5 : 1 ≤ 1 + a4 % d ∧ 1 + a4 % d ≤ d := by
    have b1 := Int.emod_nonneg a4 (show d ≠ 0 by omega)
    have b2 := Int.emod_lt_of_pos a4 (show 0 < d by omega)
    omega
  generalize -10 + a3 % 21 = r at *
  generalize 1 + a4 % d = v at *
  have fx := FIn.of n m 100000 10000 (by omega) (by omega) (by omega)
  have Hx := Lib.hid (fun w => of_fits n m w (by omega) (by omega) (by omega) (by omega) (by omega) (by have := fx.n1; omega) (by have := fx.d1; omega))
  generalize fN n m = xn at *
  generalize fD n m = xd at *
  have Hn := Lib.hid (fun w => near_any xn xd d w fx (by omega) (by omega))
  go_enter Try.func14, Try.ntmps14
  go_wp2_with fail
  refine (H0.out _).mono ?_
  rintro e w1 ⟨y1, y2, rfl, hy, hb1⟩
  obtain ⟨rfl, rfl⟩ := near_75 _ _ hy
  clear hy H0
  have hB := hb1
  clear hb1
  go_wp2_with fail
  refine (ca.out _).mono ?_
  rintro e w' ⟨rfl, rfl⟩
  go_wp2_with fail
  refine (cb.out _).mono ?_
  rintro e w' ⟨rfl, rfl⟩
  go_wp2_with fail
  refine (Hx.out _).mono ?_
  rintro e w2 ⟨rfl, hb2⟩
  replace hB := below_next hB hb2
  clear hb2 Hx ca cb
  go_wp2_with fail
  refine (cd.out _).mono ?_
  rintro e w' ⟨rfl, rfl⟩
  go_wp2_with fail
  refine (Hn.out _).mono ?_
  rintro e w3 ⟨yn, yd, rfl, hy, hb3⟩
  have bx : IsF w3 w2.heap.size xn xd := IsF.new hb3
  replace hB := below_next hB hb3
  clear hb3 Hn cd
  have fy := hy.fin (by omega)
  have yn1 := fy.n1
  have y1 := hy.small
  have t1 : decide (d < yd) = false := decide_eq_false (by omega)
  go_wp2_with fail
  have bY : IsF (w3.alloc (Obj.cells #[.int .i64 yn, .int .i64 yd] 44)) w3.heap.size yn yd := heap_alloc_new _ _
  have bX := bx.alloc (Obj.cells #[.int .i64 yn, .int .i64 yd] 44)
  replace hB := hB.alloc hB.size (Obj.cells #[.int .i64 yn, .int .i64 yd] 44)
  clear bx t1
  generalize w3.alloc (Obj.cells #[.int .i64 yn, .int .i64 yd] 44) = W at *
  generalize w2.heap.size = gx at *
  generalize w3.heap.size = gy at *
  have fz := FIn.of (r + yn) v 110010 100 (by omega) (by omega) (by omega)
  have fz2 : fD (r + yn) v ≤ d := by have := (fD_pos (r + yn) v (by omega)).2.1; have := fz.pos; omega
  have Hz := Lib.hid (fun w => of_fits (r + yn) v w (by omega) (by omega) (by omega) (by omega) (by omega) (by have := fz.n1; omega) (by have := fz.d1; omega))
  generalize fN (r + yn) v = zn at *
  generalize fD (r + yn) v = zd at *
  have hw : IntKind.i64.wrap (r + yn) = r + yn := IntWalk.i64_in _ (by omega)
  have hly := bY.lt
  have hlx := bX.lt
  have BY := Lib.hid bY
  have BX := Lib.hid bX
  have HB := Lib.hid hB
  have c0 := bY.c0
  have c0n := World.new_ne W ⟨gy, 0, none⟩ c0
  have hne : gy ≠ W.heap.size := by omega
  have hne' : gx ≠ W.heap.size := by omega
  clear yn1 bY bX hB
  go_upto_region 9 with fail
  go_cut [17, 18] (fun s17 s18 wx => ∃ g : Nat, s17 = .pointer (some ⟨g, 0, none⟩) ∧ s18 = .int .i64 0 ∧ IsF wx g zn zd ∧ IsF wx gy yn yd ∧ IsF wx gx xn xd ∧ Below w.heap.size w wx)
  case first =>
    go_region_held3 (fun w' => w'.cell? ⟨gy, 0, none⟩ = some (.int .i64 yn)) (first | exact c0 | exact IsF.c0 b4 | exact (IsF.alloc b4 _).c0 | exact (Box.far (t := 44) (cs := #[.int .i64 yn, .int .i64 yd]) (Box.far b4 hne _) hne _).cell 0 | go_keep) (first
      | (go_at_call 46; refine (Hz.out _).mono ?_; rintro e w4 ⟨rfl, hb4⟩; have b4 : IsF w4 gy yn yd := (hb4.block gy (by first | exact hly | (simp; omega))).trans (by first | exact BY.out | exact IsF.alloc BY.out _); have b5 : IsF w4 gx xn xd := (hb4.block gx (by first | exact hlx | (simp; omega))).trans (by first | exact BX.out | exact IsF.alloc BX.out _); have HB4 : Hid (Below w.heap.size w w4) := (by first | exact below_then HB.out hb4 | exact below_then (below_drew HB.out _) hb4 | exact below_next HB.out hb4 | exact below_next (below_drew HB.out _) hb4 | exact below_then (below_drew (HB.out.alloc HB.out.size _) _) hb4); try (have q0 : IsF w4 W.heap.size 0 0 := (hb4.block W.heap.size (by simp)).trans (heap_alloc_new W _); have q1 := q0.c0; have q2 := q0.c1; have q3 := q0.lt; have q4 := fun i => Box.free (show Box w4 _ _ _ from q0) i))
      | (go_at_call 18; refine (cp.out _).mono ?_; rintro e w' ⟨rfl, rfl⟩)
      | (go_at_call 18; refine (cq.out _).mono ?_; rintro e w' ⟨rfl, rfl⟩))
    all_goals (go_wp2_with fail; go_meet)
    all_goals first
      | exact ⟨_, rfl, rfl, heap_alloc_new _ _, b4.alloc _, b5.alloc _, HB4.out.alloc HB4.out.size _⟩
      | exact ⟨_, rfl, rfl, Box.set_ (Box.set_ q0 0 _) 1 _, Box.far (Box.far b4 hne _) hne _, Box.far (Box.far b5 hne' _) hne' _, (HB4.out.setCell (p := ⟨W.heap.size, 0, none⟩) HB.out.size _).setCell (p := ⟨W.heap.size, 1, none⟩) HB.out.size _⟩
  case rest =>
    obtain ⟨gz, rfl, rfl, bz, by_, bx_, hB_⟩ := hcut
    clear c0 c0n hne hne' hw Hz cp cq hly hlx BY BX HB
    have BX := Lib.hid bx_
    have BY := Lib.hid by_
    have BZ := Lib.hid bz
    have HB := Lib.hid hB_
    have hlx := bx_.lt
    have hly := by_.lt
    have hlz := bz.lt
    have y0 := by_.c0
    have y1 := by_.c1
    have z0 := bz.c0
    have z1 := bz.c1
    clear bx_ by_ bz hB_
    have fy' : FIn yn yd 110010 100 := ⟨by have := fy.n1; omega, fy.d1, fy.pos, fy.low⟩
    have HdY := Lib.hid (fun w hx => dist_any yn yd xn xd gx w fy' fx hx)
    have HdZ := Lib.hid (fun w hx => dist_any zn zd xn xd gx w fz fx hx)
    have HC := Lib.hid (fun w => cmp_le (dN yn yd xn xd) (dD yn yd xn xd) (dN zn zd xn xd) (dD zn zd xn xd) w (dist_ok fy' fx) (dist_ok fz fx) (dist_cmp hy (by omega) fz fz2 fx))
    have HN := Lib.hid (fun w => near_self yn yd d w (fy.ok (by omega) (by omega)) (by omega) (by omega) hy.small)
    clear fy' fy fz fz2 hy fx
    generalize dN yn yd xn xd = A1 at *
    generalize dD yn yd xn xd = A2 at *
    generalize dN zn zd xn xd = A3 at *
    generalize dD zn zd xn xd = A4 at *
    go_upto_region 11 with fail
    go_cut [16, 20] (fun s16 s20 wx => ∃ c : Int, c ≤ 0 ∧ s16 = .int .i64 0 ∧ s20 = .int .i64 c ∧ IsF wx gy yn yd ∧ Below w.heap.size w wx)
    case first =>
      go_region_held3 (fun w' => w'.cell? ⟨gy, 0, none⟩ = some (.int .i64 yn) ∧ w'.cell? ⟨gy, 1, none⟩ = some (.int .i64 yd) ∧ w'.cell? ⟨gz, 0, none⟩ = some (.int .i64 zn) ∧ w'.cell? ⟨gz, 1, none⟩ = some (.int .i64 zd))
        (first | exact ⟨y0, y1, z0, z1⟩ | exact ⟨v1.c0, v1.c1, v2.c0, v2.c1⟩ | go_keep)
        (first
        | (go_at_call 48; refine (HC.out _).mono ?_; rintro e w6 ⟨cc, hcc, rfl, hb6⟩; have v1' : IsF w6 gy yn yd := v1.below hb6; have v2' : IsF w6 gz zn zd := v2.below hb6; have VB' := Lib.hid (below_then VB.out hb6); clear v1 v2 VB; have v1 := v1'; have v2 := v2'; have VB := VB')
        | (go_at_call 47; ((with_reducible refine (HdY.out _ ?_).mono ?_)); (first | exact v3 | exact BX.out); rintro e w5 ⟨rfl, hb5⟩; have u1 : IsF w5 gy yn yd := (by first | exact (hb5.block gy v1.lt).trans v1 | exact (hb5.block gy hly).trans BY.out); have u2 : IsF w5 gz zn zd := (by first | exact (hb5.block gz v2.lt).trans v2 | exact (hb5.block gz hlz).trans BZ.out); have u3 : IsF w5 gx xn xd := (by first | exact (hb5.block gx v3.lt).trans v3 | exact (hb5.block gx hlx).trans BX.out); have UB : Hid (Below w.heap.size w w5) := (by first | exact below_then VB.out hb5 | exact below_then HB.out hb5 | exact below_then (below_drew VB.out _) hb5 | exact below_then (below_drew HB.out _) hb5); (try clear v1 v2 v3 VB); have v1 := u1; have v2 := u2; have v3 := u3; have VB := UB; clear u1 u2 u3 UB)
        | (go_at_call 47; ((with_reducible refine (HdZ.out _ ?_).mono ?_)); (first | exact v3 | exact BX.out); rintro e w5 ⟨rfl, hb5⟩; have u1 : IsF w5 gy yn yd := (by first | exact (hb5.block gy v1.lt).trans v1 | exact (hb5.block gy hly).trans BY.out); have u2 : IsF w5 gz zn zd := (by first | exact (hb5.block gz v2.lt).trans v2 | exact (hb5.block gz hlz).trans BZ.out); have u3 : IsF w5 gx xn xd := (by first | exact (hb5.block gx v3.lt).trans v3 | exact (hb5.block gx hlx).trans BX.out); have UB : Hid (Below w.heap.size w w5) := (by first | exact below_then VB.out hb5 | exact below_then HB.out hb5 | exact below_then (below_drew VB.out _) hb5 | exact below_then (below_drew HB.out _) hb5); (try clear v1 v2 v3 VB); have v1 := u1; have v2 := u2; have v3 := u3; have VB := UB; clear u1 u2 u3 UB))
      all_goals (go_wp2_with fail; go_meet)
      all_goals exact ⟨cc, hcc, rfl, rfl, v1, VB.out⟩
    case rest =>
      obtain ⟨cc, hcc, rfl, rfl, by_, hB_⟩ := hcut
      have y0' := by_.c0
      have y1' := by_.c1
      have hly' := by_.lt
      have t1 : decide (0 < cc) = false := decide_eq_false (by omega)
      go_wp2_with fail
      refine (HN.out _).mono ?_
      rintro e w7 ⟨rfl, hb7⟩
      have b7 := by_.below hb7
      have e0 := b7.c0
      have e1 := b7.c1
      have e2 := b7.lt
      go_wp2_with fail
      go_ret
      exact ⟨by simp, (below_then hB_ hb7).alloc (below_then hB_ hb7).size _⟩
end Go.Proofs.Ytdbnnhfgohabdaa.fracNearest
