/- WArithYears -/
import Derived.Test.YtbmbphikjainiaaGreatDoorGCat1
import Derived.Test.YtbmbphikjainiaaGreatDoorGBack1
/- The walk of ArithYears: it returns true at every input; it writes nothing that was there. -/
namespace Go.Proofs.YtbmbphikjainiaaGreatDoor.arithYears
open Go Go.RowKit
set_option linter.unusedVariables false

set_option maxRecDepth 100000 in
set_option maxHeartbeats 4000000 in
theorem core (k year0 : Int) (w : World) (hk1 : -9223372036854775808 ≤ k) (hk2 : k ≤ 9223372036854775807) (hv : Env w) :
    Calls Tryz.prog 7 #[.int .i64 k, .int .i64 year0] w fun e w' => e = .returned (.bool true) ∧ Below w.heap.size w w' := by
  have HK := Lib.hid (fun W (h : Env W) => known_any W h)
  have HN := Lib.hid (fun W (h : Env W) => name_any k W hk1 hk2 h.h)
  have HC := Lib.hid (fun W (h : Env W) => Calendar_any (rowK k) (rowK_in k) W h)
  have HCut := Lib.hid (fun W => cut_any year0 (-3000) 6000 W (by omega) (by omega) (by omega) (by omega))
  have b1 := Int.emod_nonneg year0 (show (6000 : Int) ≠ 0 by omega)
  have b2 := Int.emod_lt_of_pos year0 (show (0 : Int) < 6000 by omega)
  obtain ⟨y, hy⟩ : ∃ y, y = -3000 + year0 % 6000 := ⟨_, rfl⟩
  rw [← hy] at HCut
  have hy1 : -3000 ≤ y := by omega
  have hy2 : y < 3000 := by omega
  have HV := Lib.hid hv
  clear b1 b2 hy hk1 hk2 hv
  unfold CalQ at HC
  generalize rowK k = r at *
  generalize str r.nm = nm at *
  go_enter Tryz.func7, Tryz.ntmps7
  go_wp2_with fail
  refine (HK.out _ HV.out).mono ?_
  rintro e w1 ⟨rfl, hb1⟩
  have HB1 := Lib.hid hb1
  have HV1 := Lib.hid (HV.out.next hb1)
  clear hb1 HV HK
  go_wp2_with fail
  refine (HN.out _ HV1.out).mono ?_
  rintro e w2 ⟨rfl, hb2⟩
  have HB2 := Lib.hid (below_then HB1.out hb2)
  have HV2 := Lib.hid (HV1.out.next hb2)
  clear hb2 HV1 HN HB1
  go_wp2_with fail
  refine (HC.out _ HV2.out).mono ?_
  rintro e w3 ⟨c, rfl, hof, hcv, _, _, hb3⟩
  have HB3 := Lib.hid (below_then HB2.out hb3)
  have HCv := Lib.hid hcv
  clear hb3 HV2 HC HB2 hof hcv
  go_wp2_with (go_at_call 25; refine (HCut.out _).mono ?_; rintro e w' ⟨rfl, rfl⟩)
  have HB4 := Lib.hid (HB3.out.alloc HB3.out.size (Obj.cells c.cells 35))
  have HC4 := Lib.hid (HCv.out.next (below_alloc1 w3 (Obj.cells c.cells 35)))
  have HX4 := Lib.hid (Box.new w3 35 c.cells)
  clear HB3 HCv HCut
  generalize w3.alloc (Obj.cells c.cells 35) = w4 at *
  generalize w3.heap.size = gc at *
  have ok := HC4.out.ok
  have hn2 := ok.mo.n2
  have nb1 := Cal.ny_in ok y (by omega) (by omega)
  have HMl := Lib.hid (fun j hj => Cal.mlen_in ok y j hj)
  have HPb := Lib.hid (fun j (hj : j ≤ c.mo.length) => Cal.pre_mono ok y j 0 (by omega))
  have HP0 := Lib.hid (c.pre_zero y)
  have HPs := Lib.hid (fun j (hj : j < c.mo.length) => c.pre_succ y j hj)
  have HEnd : Hid (c.ny (y + 1) = c.ny y + c.pre y c.mo.length) := by unfold Hid; rw [c.pre_all, Cal.ny_step ok]
  clear ok
  refine (NewYear_any c y w4 HC4.out (by omega) (by omega)).mono ?_
  rintro e w5 ⟨he, hb5⟩
  have HB5 := Lib.hid (below_then HB4.out hb5)
  have HC5 := Lib.hid (HC4.out.next hb5)
  have HX5 := Lib.hid (HX4.out.below hb5)
  clear hb5 HB4 HC4 HX4
  rcases he with rfl | rfl
  case inr =>
    obtain ⟨x0, x1, x2, x3, x4⟩ := ccells HX5.out
    go_wp2_with fail
    refine (NewYear_any c (y + 1) w5 HC5.out (by omega) (by omega)).mono ?_
    rintro e w6 ⟨he, hb6⟩
    have HB6 := Lib.hid (below_then HB5.out hb6)
    clear hb6 HB5 x0 x1 x2 x3 x4
    rcases he with rfl | rfl
    · go_wp2_with fail
      go_ret
      exact ⟨rfl, HB6.out⟩
    · go_wp2_with fail
      go_ret
      exact ⟨rfl, HB6.out⟩
  generalize c.ny y = N at *
  obtain ⟨x0, x1, x2, x3, x4⟩ := ccells HX5.out
  go_wp2_with fail
  refine (NewYear_any c (y + 1) w5 HC5.out (by omega) (by omega)).mono ?_
  rintro e w6 ⟨he, hb6⟩
  have HB6 := Lib.hid (below_then HB5.out hb6)
  have HC6 := Lib.hid (HC5.out.next hb6)
  have HX6 := Lib.hid (HX5.out.below hb6)
  clear hb6 HB5 HC5 HX5 x0 x1 x2 x3 x4
  rcases he with rfl | rfl
  case inr =>
    go_wp2_with fail
    go_ret
    exact ⟨rfl, HB6.out⟩
  obtain ⟨M, hM⟩ : ∃ M, M = c.ny (y + 1) := ⟨_, rfl⟩
  rw [← hM]
  rw [← hM] at HEnd
  clear hM
  obtain ⟨x0, x1, x2, x3, x4⟩ := ccells HX6.out
  go_wp2_with fail
  clear x0 x1 x2 x3 x4
  have hN0 : N = N + c.pre y 0 := by rw [HP0.out]; omega
  go_loopw [7, 11, 12, 13, 52] (fun a _ _ _ i wr => ∃ j : Nat, j ≤ c.mo.length ∧ i = .int .i64 (j : Int) ∧ a = .int .i64 (N + c.pre y j) ∧ Hid (Below w6.heap.size w6 wr)) (fun _ _ _ _ i _ => c.mo.length - (intOf i).toNat)
  case atStart => exact ⟨0, by omega, rfl, by rw [← hN0], Below.refl _ _⟩
  case round =>
    clear hN0
    obtain ⟨j, hj, rfl, rfl, hbr⟩ := hrel
    have hpb := HPb.out j (by omega)
    rw [HP0.out] at hpb
    rw [Nat.zero_add] at hpb
    have HXr := Lib.hid (HX6.out.below hbr.out)
    obtain ⟨x0, x1, x2, x3, x4⟩ := ccells HXr.out
    by_cases hlt : j < c.mo.length
    · have t1 : decide ((j : Int) < (c.mo.length : Int)) = true := decide_eq_true (by omega)
      have hml := HMl.out j hlt
      have HMo := Lib.hid (fun w (h : CalV w c) => Month_yes c y j hlt w h (by omega) (by omega))
      have HPm := Lib.hid (HPs.out j hlt)
      generalize c.mlen y j = L at *
      generalize hDD : N + c.pre y j = D at *
      have HDD := Lib.hid hDD
      have hD1 : -1000000000 ≤ D ∧ D ≤ 1000000000 := by omega
      clear hDD hpb
      go_wp2_with fail
      refine (HMo.out wr (HC6.out.next hbr.out)).mono ?_
      rintro e w7 ⟨rfl, hb7⟩
      have hbs := Lib.hid (below_then hbr.out hb7)
      clear hb7 x0 x1 x2 x3 x4 HXr hbr HMo
      go_wp2_with fail
      go_roundw
      case rel => exact ⟨j + 1, by omega, by go_num, by rw [HPm.out]; congr 1; have := HDD.out; omega, hbs⟩
      case measure => simp [intOf]; omega
    · obtain rfl : j = c.mo.length := by omega
      have t1 : decide ((c.mo.length : Int) < (c.mo.length : Int)) = false := decide_eq_false (by omega)
      have HBf := Lib.hid (below_then HB6.out hbr.out)
      have t2 : (N + c.pre y c.mo.length == M) = true := by rw [beq_iff_eq]; exact HEnd.out.symm
      clear hpb
      go_wp2_with fail
      go_ret
      exact ⟨rfl, HBf.out⟩

theorem walk (a0 : Int) (w0 : (Lit.int .i64 a0).wf = true) (a1 : Int) (w1 : (Lit.int .i64 a1).wf = true) (W : World) (hL : laidMet Tryz.prog Rows.arithYearsRow.laid W) (hsh : W.ShapedOpen Tryz.prog) :
    Calls Tryz.prog 7 #[.int .i64 a0, .int .i64 a1] W fun e w' => e = .returned (.bool true) ∧ Below W.heap.size W w' :=
  core a0 a1 W (bounds_i64 w0).1 (bounds_i64 w0).2 ⟨sgs_of hL.tail.tail.tail.tail.tail.tail.tail, lvs_of hL.tail.tail.tail.tail.tail.tail, Shp.of hsh⟩
end Go.Proofs.YtbmbphikjainiaaGreatDoor.arithYears
