/- WArithNext -/
import Derived.Test.YtbmbphikjainiaaGreatDoorGCat1
import Derived.Test.YtbmbphikjainiaaGreatDoorGBack1
/- The walk of ArithNext: it returns true at every input; it writes nothing that was there. -/
namespace Go.Proofs.YtbmbphikjainiaaGreatDoor.arithNext
open Go Go.RowKit
set_option linter.unusedVariables false

set_option maxRecDepth 100000 in
set_option maxHeartbeats 4000000 in
theorem core (k day0 : Int) (w : World) (hk1 : -9223372036854775808 ≤ k) (hk2 : k ≤ 9223372036854775807) (hv : Env w) :
    Calls Tryz.prog 4 #[.int .i64 k, .int .i64 day0] w fun e w' => e = .returned (.bool true) ∧ Below w.heap.size w w' := by
  have HK := Lib.hid (fun W (h : Env W) => known_any W h)
  have HN := Lib.hid (fun W (h : Env W) => name_any k W hk1 hk2 h.h)
  have HC := Lib.hid (fun W (h : Env W) => Calendar_any (rowK k) (rowK_in k) W h)
  have HCut := Lib.hid (fun W => cut_any day0 (-500000) 1500000 W (by omega) (by omega) (by omega) (by omega))
  have b1 := Int.emod_nonneg day0 (show (1500000 : Int) ≠ 0 by omega)
  have b2 := Int.emod_lt_of_pos day0 (show (0 : Int) < 1500000 by omega)
  obtain ⟨day, hday⟩ : ∃ day, day = -500000 + day0 % 1500000 := ⟨_, rfl⟩
  rw [← hday] at HCut
  have hd1 : -500000 ≤ day := by omega
  have hd2 : day < 1000000 := by omega
  have HV := Lib.hid hv
  have HRK := Lib.hid (rowK_in k)
  clear b1 b2 hday hk1 hk2 hv
  unfold CalQ at HC
  generalize rowK k = r at *
  generalize str r.nm = nm at *
  go_enter Tryz.func4, Tryz.ntmps4
  go_wp2_with fail
  refine (HK.out _ HV.out).mono ?_
  rintro e w1 ⟨rfl, hb1⟩
  have HB1 := Lib.hid hb1
  have HV1 := Lib.hid (HV.out.next hb1)
  clear hb1 HV HK
  go_wp2_with fail
  refine (HN.out _ HV1.out).mono ?_
  rintro e w2 ⟨rfl, hb2⟩
  have HB2 := Lib.hid (below_then HB1.out hb2)
  have HV2 := Lib.hid (HV1.out.next hb2)
  clear hb2 HV1 HN HB1
  go_wp2_with fail
  refine (HC.out _ HV2.out).mono ?_
  rintro e w3 ⟨c, rfl, hof, hcv, _, _, hb3⟩
  have HB3 := Lib.hid (below_then HB2.out hb3)
  have HCv := Lib.hid hcv
  have HFar := Lib.hid (far_row HRK.out hcv.ok hof)
  clear hb3 HV2 HC HB2 hof hcv HRK
  go_wp2_with (go_at_call 25; refine (HCut.out _).mono ?_; rintro e w' ⟨rfl, rfl⟩)
  have HB4 := Lib.hid (HB3.out.alloc HB3.out.size (Obj.cells c.cells 35))
  have HC4 := Lib.hid (HCv.out.next (below_alloc1 w3 (Obj.cells c.cells 35)))
  have HX4 := Lib.hid (Box.new w3 35 c.cells)
  clear HB3 HCv HCut
  generalize w3.alloc (Obj.cells c.cells 35) = w4 at *
  generalize w3.heap.size = gc at *
  have OK := Lib.hid HC4.out.ok
  refine (FromDay_any c day w4 HC4.out).mono ?_
  rintro e w5 ⟨hb5, hc⟩
  have HB5 := Lib.hid (below_then HB4.out hb5)
  have HC5 := Lib.hid (HC4.out.next hb5)
  have HX5 := Lib.hid (HX4.out.below hb5)
  clear hb5 HB4 HC4 HX4
  rcases hc with ⟨y, m, d, h1, h2, h3, rfl⟩ | ⟨h1, rfl⟩
  case inr =>
    clear h1
    go_wp2_with fail
    have HB6 := Lib.hid (HB5.out.alloc HB5.out.size (Obj.cells (dateC 0 0 0) 41))
    go_ret
    exact ⟨rfl, HB6.out⟩
  have HO := Lib.hid h3
  have hm1 := h3.m1
  have hn2 := OK.out.mo.n2
  have hdd := h3.d0
  have hdL := h3.d1
  have hml := Cal.mlen_in OK.out y m hm1
  have HRng : Hid (c.ny (-10000) ≤ day + 1 ∧ day + 1 < c.ny 10001) := by
    have a := (h3.year OK.out).1
    have b := Cal.ny_le OK.out h1
    have := HFar.out
    unfold Hid
    omega
  clear h3 HFar
  go_upto_region 8 with fail
  have HB6 := Lib.hid (HB5.out.alloc HB5.out.size (Obj.cells (dateC y ((m : Int) + 1) (d + 1)) 41))
  have HC6 := Lib.hid (HC5.out.next (below_alloc1 w5 (Obj.cells (dateC y ((m : Int) + 1) (d + 1)) 41)))
  have HX6 := Lib.hid (HX5.out.alloc (Obj.cells (dateC y ((m : Int) + 1) (d + 1)) 41))
  have HD6 := Lib.hid (Box.new w5 41 (dateC y ((m : Int) + 1) (d + 1)))
  clear HB5 HC5 HX5
  generalize w5.alloc (Obj.cells (dateC y ((m : Int) + 1) (d + 1)) 41) = w6 at *
  generalize w5.heap.size = gd at *
  obtain ⟨x0, x1, x2, x3, x4⟩ := ccells HX6.out
  go_wp2_with fail
  refine (FromDay_any c (day + 1) w6 HC6.out).mono ?_
  rintro e w7 ⟨hb7, hc⟩
  have HB7 := Lib.hid (below_then HB6.out hb7)
  have HC7 := Lib.hid (HC6.out.next hb7)
  have HX7 := Lib.hid (HX6.out.below hb7)
  have HD7 := Lib.hid (HD6.out.below hb7)
  clear hb7 x0 x1 x2 x3 x4 HB6 HC6 HX6 HD6
  rcases hc with ⟨y', m', d', g1, g2, g3, rfl⟩ | ⟨g1, rfl⟩
  case inr => exact absurd ⟨by omega, by omega, HRng.out.1, HRng.out.2⟩ g1
  have HO' := Lib.hid g3
  have hm1' := g3.m1
  clear g3 HRng
  go_upto_region 11 with fail
  have HB8 := Lib.hid (HB7.out.alloc HB7.out.size (Obj.cells (dateC y' ((m' : Int) + 1) (d' + 1)) 41))
  have HC8 := Lib.hid (HC7.out.next (below_alloc1 w7 (Obj.cells (dateC y' ((m' : Int) + 1) (d' + 1)) 41)))
  have HX8 := Lib.hid (HX7.out.alloc (Obj.cells (dateC y' ((m' : Int) + 1) (d' + 1)) 41))
  have HD8 := Lib.hid (HD7.out.alloc (Obj.cells (dateC y' ((m' : Int) + 1) (d' + 1)) 41))
  have HE8 := Lib.hid (Box.new w7 41 (dateC y' ((m' : Int) + 1) (d' + 1)))
  clear HB7 HC7 HX7 HD7
  generalize w7.alloc (Obj.cells (dateC y' ((m' : Int) + 1) (d' + 1)) 41) = w8 at *
  generalize w7.heap.size = ge at *
  obtain ⟨x0, x1, x2, x3, x4⟩ := ccells HX8.out
  have y0 : w8.cell? ⟨gd, 0, none⟩ = some (.int .i64 y) := HD8.out.cell 0
  have y1 : w8.cell? ⟨gd, 1, none⟩ = some (.int .i64 ((m : Int) + 1)) := HD8.out.cell 1
  go_wp2_with fail
  refine (Month_yes c y m hm1 w8 HC8.out h1 h2).mono ?_
  rintro e w9 ⟨rfl, hb9⟩
  have HB9 := Lib.hid (below_then HB8.out hb9)
  have HC9 := Lib.hid (HC8.out.next hb9)
  have HX9 := Lib.hid (HX8.out.below hb9)
  have HD9 := Lib.hid (HD8.out.below hb9)
  have HE9 := Lib.hid (HE8.out.below hb9)
  clear hb9 x0 x1 x2 x3 x4 y0 y1 HB8 HC8 HX8 HD8 HE8
  obtain ⟨L, hL⟩ : ∃ L, L = c.mlen y m := ⟨_, rfl⟩
  rw [← hL] at hdL hml
  rw [← hL]
  have HLL := Lib.hid hL
  clear hL
  have y0 : w9.cell? ⟨gd, 0, none⟩ = some (.int .i64 y) := HD9.out.cell 0
  have y1 : w9.cell? ⟨gd, 1, none⟩ = some (.int .i64 ((m : Int) + 1)) := HD9.out.cell 1
  have y2 : w9.cell? ⟨gd, 2, none⟩ = some (.int .i64 (d + 1)) := HD9.out.cell 2
  have z0 : w9.cell? ⟨ge, 0, none⟩ = some (.int .i64 y') := HE9.out.cell 0
  have z1 : w9.cell? ⟨ge, 1, none⟩ = some (.int .i64 ((m' : Int) + 1)) := HE9.out.cell 1
  have z2 : w9.cell? ⟨ge, 2, none⟩ = some (.int .i64 (d' + 1)) := HE9.out.cell 2
  by_cases hlt : d + 1 < L
  · have t1 : decide (d + 1 < L) = true := decide_eq_true hlt
    obtain ⟨rfl, rfl, rfl⟩ := HO'.out.unique OK.out (HO.out.succ OK.out (by rw [← HLL.out]; exact hlt))
    clear hlt
    go_wp2_with fail
    go_ret
    exact ⟨rfl, HB9.out⟩
  have t1 : decide (d + 1 < L) = false := decide_eq_false hlt
  obtain ⟨y2', m2', hN⟩ := NextM.ex OK.out y m
  have hO2 := hN.on OK.out HO.out (by rw [← HLL.out]; omega)
  obtain ⟨rfl, rfl, rfl⟩ := HO'.out.unique OK.out hO2
  obtain ⟨hN1, hN2, hN3⟩ := hN
  have HMo := Lib.hid (fun j (hj : j < c.mo.length) w (h : CalV w c) => Month_yes c y j hj w h h1 h2)
  clear hlt hO2 hN2
  rcases hN3 with ⟨rfl, hlt, hem⟩ | ⟨rfl, hem, _⟩
  · have HEm := Lib.hid hem
    clear hem
    have t2 : decide (((m' : Int) + 1) ≤ ((m : Int) + 1)) = false := decide_eq_false (by omega)
    have t2' : decide (m' ≤ m) = false := decide_eq_false (by omega)
    have hlt' := hlt
    clear hlt
    go_upto_region 17 with fail
    clear y0 y1 y2 z0 z1 z2 t1
    go_loopw [4, 12, 13, 14] (fun _ mm _ _ wr => ∃ j : Nat, m < j ∧ j ≤ m' ∧ mm = .int .i64 ((j : Int) + 1) ∧ Hid (Below w9.heap.size w9 wr)) (fun _ mm _ _ _ => m' + 1 - (intOf mm).toNat)
    case atStart => exact ⟨m + 1, by omega, by omega, by simp, Below.refl _ _⟩
    case round =>
      obtain ⟨j, hj1, hj2, rfl, hbr⟩ := hrel
      have HXr := Lib.hid (HX9.out.below hbr.out)
      have HDr := Lib.hid (HD9.out.below hbr.out)
      have HEr := Lib.hid (HE9.out.below hbr.out)
      obtain ⟨x0, x1, x2, x3, x4⟩ := ccells HXr.out
      have y0 : wr.cell? ⟨gd, 0, none⟩ = some (.int .i64 y') := HDr.out.cell 0
      have y1 : wr.cell? ⟨gd, 1, none⟩ = some (.int .i64 ((m : Int) + 1)) := HDr.out.cell 1
      have z0 : wr.cell? ⟨ge, 0, none⟩ = some (.int .i64 y') := HEr.out.cell 0
      have z1 : wr.cell? ⟨ge, 1, none⟩ = some (.int .i64 ((m' : Int) + 1)) := HEr.out.cell 1
      by_cases hlt2 : j < m'
      · have t3 : decide (((j : Int) + 1) ≤ (c.mo.length : Int)) = true := decide_eq_true (by omega)
        have t4 : decide (((j : Int) + 1) < ((m' : Int) + 1)) = true := decide_eq_true (by omega)
        have HM1 := Lib.hid (HMo.out j (by omega))
        have hz : c.mlen y' j = 0 := HEm.out j hj1 hlt2
        rw [hz] at HM1
        clear hz
        go_wp2_with fail
        refine (HM1.out wr (HC9.out.next hbr.out)).mono ?_
        rintro e w7 ⟨rfl, hb7⟩
        have hbs := Lib.hid (below_then hbr.out hb7)
        clear hb7 x0 x1 x2 x3 x4 y0 y1 z0 z1 HXr HDr HEr hbr HM1
        go_wp2_with fail
        go_roundw
        case rel => exact ⟨j + 1, by omega, by omega, by go_num, hbs⟩
        case measure => simp [intOf]; omega
      · obtain rfl : m' = j := by omega
        have HBf := Lib.hid (below_then HB9.out hbr.out)
        have t3 : decide (((m' : Int) + 1) ≤ (c.mo.length : Int)) = true := decide_eq_true (by omega)
        go_wp2_with fail
        go_ret
        exact ⟨rfl, HBf.out⟩
  · have HEm := Lib.hid hem
    clear hem
    have t2 : (y + 1 == y) = false := by rw [beq_eq_false_iff_ne]; omega
    have t3 : (y + 1 != y) = true := by rw [bne_iff_ne]; omega
    go_upto_region 17 with fail
    clear y0 y1 y2 z0 z1 z2 t1 t2 t3
    go_loopw [4, 12, 13, 14] (fun _ mm _ _ wr => ∃ j : Nat, m < j ∧ j ≤ c.mo.length ∧ mm = .int .i64 ((j : Int) + 1) ∧ Hid (Below w9.heap.size w9 wr)) (fun _ mm _ _ _ => c.mo.length + 1 - (intOf mm).toNat)
    case atStart => exact ⟨m + 1, by omega, by omega, by simp, Below.refl _ _⟩
    case round =>
      obtain ⟨j, hj1, hj2, rfl, hbr⟩ := hrel
      have HXr := Lib.hid (HX9.out.below hbr.out)
      have HDr := Lib.hid (HD9.out.below hbr.out)
      have HEr := Lib.hid (HE9.out.below hbr.out)
      obtain ⟨x0, x1, x2, x3, x4⟩ := ccells HXr.out
      have y0 : wr.cell? ⟨gd, 0, none⟩ = some (.int .i64 y) := HDr.out.cell 0
      have y1 : wr.cell? ⟨gd, 1, none⟩ = some (.int .i64 ((m : Int) + 1)) := HDr.out.cell 1
      have z0 : wr.cell? ⟨ge, 0, none⟩ = some (.int .i64 (y + 1)) := HEr.out.cell 0
      have z1 : wr.cell? ⟨ge, 1, none⟩ = some (.int .i64 ((m' : Int) + 1)) := HEr.out.cell 1
      by_cases hlt2 : j < c.mo.length
      · have t3 : decide (((j : Int) + 1) ≤ (c.mo.length : Int)) = true := decide_eq_true (by omega)
        have t4 : decide (y < y + 1) = true := decide_eq_true (by omega)
        have HM1 := Lib.hid (HMo.out j (by omega))
        have hz : c.mlen y j = 0 := HEm.out j hj1 hlt2
        rw [hz] at HM1
        clear hz
        go_wp2_with fail
        refine (HM1.out wr (HC9.out.next hbr.out)).mono ?_
        rintro e w7 ⟨rfl, hb7⟩
        have hbs := Lib.hid (below_then hbr.out hb7)
        clear hb7 x0 x1 x2 x3 x4 y0 y1 z0 z1 HXr HDr HEr hbr HM1
        go_wp2_with fail
        go_roundw
        case rel => exact ⟨j + 1, by omega, by omega, by go_num, hbs⟩
        case measure => simp [intOf]; omega
      · obtain rfl : j = c.mo.length := by omega
        have HBf := Lib.hid (below_then HB9.out hbr.out)
        have t3 : decide (((c.mo.length : Int) + 1) ≤ (c.mo.length : Int)) = false := decide_eq_false (by omega)
        go_wp2_with fail
        go_ret
        exact ⟨rfl, HBf.out⟩

theorem walk (a0 : Int) (w0 : (Lit.int .i64 a0).wf = true) (a1 : Int) (w1 : (Lit.int .i64 a1).wf = true) (W : World) (hL : laidMet Tryz.prog Rows.arithNextRow.laid W) (hsh : W.ShapedOpen Tryz.prog) :
    Calls Tryz.prog 4 #[.int .i64 a0, .int .i64 a1] W fun e w' => e = .returned (.bool true) ∧ Below W.heap.size W w' :=
  core a0 a1 W (bounds_i64 w0).1 (bounds_i64 w0).2 ⟨sgs_of hL.tail.tail.tail.tail.tail.tail.tail, lvs_of hL.tail.tail.tail.tail.tail.tail, Shp.of hsh⟩
end Go.Proofs.YtbmbphikjainiaaGreatDoor.arithNext
