/- WArithBack -/
import Derived.Test.YtbmbphikjainiaaGreatDoorGCat1
import Derived.Test.YtbmbphikjainiaaGreatDoorGBack1
/- The walk of ArithBack: it returns true at every input; it writes nothing that was there. -/
namespace Go.Proofs.YtbmbphikjainiaaGreatDoor.arithBack
open Go Go.RowKit
set_option linter.unusedVariables false

set_option maxRecDepth 100000 in
set_option maxHeartbeats 4000000 in
theorem core (k day0 : Int) (w : World) (hk1 : -9223372036854775808 ≤ k) (hk2 : k ≤ 9223372036854775807) (hv : Env w) :
    Calls Tryz.prog 6 #[.int .i64 k, .int .i64 day0] w fun e w' => e = .returned (.bool true) ∧ Below w.heap.size w w' := by
  have HK := Lib.hid (fun W (h : Env W) => known_any W h)
  have HN := Lib.hid (fun W (h : Env W) => name_any k W hk1 hk2 h.h)
  have HC := Lib.hid (fun W (h : Env W) => Calendar_any (rowK k) (rowK_in k) W h)
  have HCut := Lib.hid (fun W => cut_any day0 (-1500000) 2900000 W (by omega) (by omega) (by omega) (by omega))
  have b1 := Int.emod_nonneg day0 (show (2900000 : Int) ≠ 0 by omega)
  have b2 := Int.emod_lt_of_pos day0 (show (0 : Int) < 2900000 by omega)
  obtain ⟨day, hday⟩ : ∃ day, day = -1500000 + day0 % 2900000 := ⟨_, rfl⟩
  rw [← hday] at HCut
  have hd1 : -1500000 ≤ day := by omega
  have hd2 : day < 1400000 := by omega
  have HV := Lib.hid hv
  clear b1 b2 hday hk1 hk2 hv
  unfold CalQ at HC
  generalize rowK k = r at *
  generalize str r.nm = nm at *
  go_enter Tryz.func6, Tryz.ntmps6
  go_wp2_with fail
  refine (HK.out _ HV.out).mono ?_
  rintro e w1 ⟨rfl, hb1⟩
  have HB1 := Lib.hid hb1
  have HV1 := Lib.hid (HV.out.next hb1)
  clear hb1 HV HK
  go_wp2_with fail
  refine (HN.out _ HV1.out).mono ?_
  rintro e w2 ⟨rfl, hb2⟩
  have HB2 := Lib.hid (below_then HB1.out hb2)
  have HV2 := Lib.hid (HV1.out.next hb2)
  clear hb2 HV1 HN HB1
  go_wp2_with fail
  refine (HC.out _ HV2.out).mono ?_
  rintro e w3 ⟨c, rfl, hof, hcv, _, _, hb3⟩
  have HB3 := Lib.hid (below_then HB2.out hb3)
  have HOf := Lib.hid hof
  have HCv := Lib.hid hcv
  clear hb3 HV2 HC HB2 hof hcv
  go_wp2_with (go_at_call 25; refine (HCut.out _).mono ?_; rintro e w' ⟨rfl, rfl⟩)
  have HB4 := Lib.hid (HB3.out.alloc HB3.out.size (Obj.cells c.cells 35))
  have HC4 := Lib.hid (HCv.out.next (below_alloc1 w3 (Obj.cells c.cells 35)))
  have HX4 := Lib.hid (Box.new w3 35 c.cells)
  clear HB3 HCv HCut
  generalize w3.alloc (Obj.cells c.cells 35) = w4 at *
  generalize w3.heap.size = gc at *
  refine (FromDay_any c day w4 HC4.out).mono ?_
  rintro e w5 ⟨hb5, hc⟩
  have HB5 := Lib.hid (below_then HB4.out hb5)
  have HC5 := Lib.hid (HC4.out.next hb5)
  have HX5 := Lib.hid (HX4.out.below hb5)
  clear hb5 HB4 HC4 HX4
  rcases hc with ⟨y, m, d, h1, h2, h3, rfl⟩ | ⟨h1, rfl⟩
  case inr =>
    clear h1
    go_wp2_with fail
    have HB6 := Lib.hid (HB5.out.alloc HB5.out.size (Obj.cells (dateC 0 0 0) 41))
    go_ret
    exact ⟨rfl, HB6.out⟩
  have HH := Lib.hid (show -10000 ≤ y ∧ y ≤ 10000 ∧ IsOn c y m d day from ⟨h1, h2, h3⟩)
  clear h1 h2 h3
  go_upto_region 8 with fail
  have HB6 := Lib.hid (HB5.out.alloc HB5.out.size (Obj.cells (dateC y ((m : Int) + 1) (d + 1)) 41))
  have HC6 := Lib.hid (HC5.out.next (below_alloc1 w5 (Obj.cells (dateC y ((m : Int) + 1) (d + 1)) 41)))
  have HX6 := Lib.hid (HX5.out.alloc (Obj.cells (dateC y ((m : Int) + 1) (d + 1)) 41))
  have HD6 := Lib.hid (Box.new w5 41 (dateC y ((m : Int) + 1) (d + 1)))
  clear HB5 HC5 HX5
  generalize w5.alloc (Obj.cells (dateC y ((m : Int) + 1) (d + 1)) 41) = w6 at *
  generalize w5.heap.size = gd at *
  obtain ⟨x0, x1, x2, x3, x4⟩ := ccells HX6.out
  have y0 : w6.cell? ⟨gd, 0, none⟩ = some (.int .i64 y) := HD6.out.cell 0
  have y1 : w6.cell? ⟨gd, 1, none⟩ = some (.int .i64 ((m : Int) + 1)) := HD6.out.cell 1
  have y2 : w6.cell? ⟨gd, 2, none⟩ = some (.int .i64 (d + 1)) := HD6.out.cell 2
  go_wp2_with fail
  refine (ToDay_any c y ((m : Int) + 1) (d + 1) w6 HC6.out).mono ?_
  rintro e w7 ⟨hb7, hc⟩
  have HB7 := Lib.hid (below_then HB6.out hb7)
  have hE : e = .returned (.tuple #[.int .i64 day, .int .i64 0]) := by
    rcases hc with ⟨m0, n, hm0, _, _, ho, rfl⟩ | ⟨hno, _⟩
    · have e1 : d + 1 - 1 = d := by omega
      obtain rfl : m = m0 := by omega
      rw [e1] at ho
      have : n = day := by rw [ho.on, HH.out.2.2.on]
      rw [this]
      unfold dayR
      rw [if_pos (by omega)]
    · exact absurd (hno m day rfl HH.out.1 HH.out.2.1 (by rw [show d + 1 - 1 = d from by omega]; exact HH.out.2.2)) id
  subst hE
  clear hc hb7 x0 x1 x2 x3 x4 y0 y1 y2 HX6 HD6 HC6 HB6
  go_wp2_with fail
  go_ret
  exact ⟨rfl, HB7.out⟩

theorem walk (a0 : Int) (w0 : (Lit.int .i64 a0).wf = true) (a1 : Int) (w1 : (Lit.int .i64 a1).wf = true) (W : World) (hL : laidMet Tryz.prog Rows.arithBackRow.laid W) (hsh : W.ShapedOpen Tryz.prog) :
    Calls Tryz.prog 6 #[.int .i64 a0, .int .i64 a1] W fun e w' => e = .returned (.bool true) ∧ Below W.heap.size W w' := by
  have h := core a0 a1 W (bounds_i64 w0).1 (bounds_i64 w0).2 ⟨sgs_of hL.tail.tail.tail.tail.tail.tail.tail, lvs_of hL.tail.tail.tail.tail.tail.tail, Shp.of hsh⟩
  exact h
end Go.Proofs.YtbmbphikjainiaaGreatDoor.arithBack
