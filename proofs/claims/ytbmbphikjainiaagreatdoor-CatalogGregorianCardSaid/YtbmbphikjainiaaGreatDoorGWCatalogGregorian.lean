/- WCatalogGregorian -/
import Derived.Test.YtbmbphikjainiaaGreatDoorGCat1
import Derived.Test.YtbmbphikjainiaaGreatDoorGPlainGreg
import Derived.Test.YtbmbphikjainiaaGreatDoorGLine1
import Derived.Test.YtbmbphikjainiaaGreatDoorGBack1
/- The walk of CatalogGregorian: it returns true at every input; it writes nothing that was there. -/
namespace Go.Proofs.YtbmbphikjainiaaGreatDoor.catalogGregorian
open Go Go.RowKit
set_option linter.unusedVariables false

theorem cr0_nm : str cr0.nm = ⟨#[103, 114, 101, 103, 111, 114, 105, 97, 110]⟩ := rfl
theorem greg_date (day : Int) (y : Int) (k : Nat) (d : Int) (hv : valid y k d) (he : dayOf y k d = day) (h1 : -3600000 ≤ day) (h2 : day ≤ 3600000) (w : World) (hE : Env w) :
    Calls Tryz.prog 28 #[.string ⟨#[103, 114, 101, 103, 111, 114, 105, 97, 110]⟩, .int .i64 day] w fun e w' => e = .returned (.tuple #[.agg (dateC y ((k : Int) + 1) d), .int .i64 0]) ∧ Below w.heap.size w w' := by
  have h := Date_any cr0 cr0_in day w hE
  rw [cr0_nm] at h
  refine h.mono ?_
  rintro e w' ⟨c, hof, ok, hb, hc⟩
  have hon := greg_on hof ok y k d hv
  rw [he] at hon
  have hin := year_in y k d hv (by omega) (by omega)
  rcases hc with ⟨y', m', d', _, _, h3, rfl⟩ | ⟨hno, _⟩
  · obtain ⟨rfl, rfl, rfl⟩ := h3.unique ok hon
    exact ⟨by rw [show d - 1 + 1 = d from by omega], hb⟩
  · have a := (hon.year ok).1
    have b := (hon.year ok).2
    have q1 := Cal.ny_le ok hin.1
    have q2 := Cal.ny_le ok (show y + 1 ≤ 10001 by omega)
    exact absurd ⟨by omega, by omega, by omega, by omega⟩ hno

set_option maxRecDepth 100000 in
set_option maxHeartbeats 4000000 in
theorem core (day0 : Int) (w : World) (hv : Env w) :
    Calls Tryz.prog 5 #[.int .i64 day0] w fun e w' => e = .returned (.bool true) ∧ Below w.heap.size w w' := by
  have HK := Lib.hid (fun W (h : Env W) => known_any W h)
  have HCut := Lib.hid (fun W => cut_any day0 (-3600000) 7200000 W (by omega) (by omega) (by omega) (by omega))
  have b1 := Int.emod_nonneg day0 (show (7200000 : Int) ≠ 0 by omega)
  have b2 := Int.emod_lt_of_pos day0 (show (0 : Int) < 7200000 by omega)
  obtain ⟨day, hday⟩ : ∃ day, day = -3600000 + day0 % 7200000 := ⟨_, rfl⟩
  rw [← hday] at HCut
  have hd1 : -3600000 ≤ day := by omega
  have hd2 : day < 3600000 := by omega
  have HV := Lib.hid hv
  clear b1 b2 hday hv
  go_enter Tryz.func5, Tryz.ntmps5
  go_wp2_with fail
  refine (HK.out _ HV.out).mono ?_
  rintro e w1 ⟨rfl, hb1⟩
  have HB1 := Lib.hid hb1
  have HV1 := Lib.hid (HV.out.next hb1)
  clear hb1 HV HK
  go_wp2_with (go_at_call 25; refine (HCut.out _).mono ?_; rintro e w' ⟨rfl, rfl⟩)
  refine (date_any day w1 (by omega) (by omega)).mono ?_
  rintro e w2 ⟨y, k, d, rfl, hva, hda, hb2⟩
  have HB2 := Lib.hid (below_then HB1.out hb2)
  have HV2 := Lib.hid (HV1.out.next hb2)
  have HG := Lib.hid (fun w (h : Env w) => greg_date day y k d hva hda (by omega) (by omega) w h)
  clear hva hda hb2 HV1 HB1
  go_wp2_with fail
  have HB3 := Lib.hid (HB2.out.alloc HB2.out.size (Obj.cells (dateC y ((k : Int) + 1) d) 41))
  have HV3 := Lib.hid (HV2.out.next (below_alloc1 w2 (Obj.cells (dateC y ((k : Int) + 1) d) 41)))
  have HD3 := Lib.hid (Box.new w2 41 (dateC y ((k : Int) + 1) d))
  clear HB2 HV2
  generalize w2.alloc (Obj.cells (dateC y ((k : Int) + 1) d) 41) = w3 at *
  generalize w2.heap.size = gd at *
  refine (HG.out w3 HV3.out).mono ?_
  rintro e w4 ⟨rfl, hb4⟩
  have HB4 := Lib.hid (below_then HB3.out hb4)
  have HD4 := Lib.hid (HD3.out.below hb4)
  clear hb4 HB3 HD3 HV3 HG
  have y0 : w4.cell? ⟨gd, 0, none⟩ = some (.int .i64 y) := HD4.out.cell 0
  have y1 : w4.cell? ⟨gd, 1, none⟩ = some (.int .i64 ((k : Int) + 1)) := HD4.out.cell 1
  have y2 : w4.cell? ⟨gd, 2, none⟩ = some (.int .i64 d) := HD4.out.cell 2
  have hl := HD4.out.lt
  have HB5 := Lib.hid (HB4.out.alloc HB4.out.size (Obj.cells (dateC y ((k : Int) + 1) d) 41))
  go_wp2_with fail
  go_ret
  exact ⟨rfl, HB5.out⟩

theorem walk (a0 : Int) (w0 : (Lit.int .i64 a0).wf = true) (W : World) (hL : laidMet Tryz.prog Rows.catalogGregorianRow.laid W) (hsh : W.ShapedOpen Tryz.prog) :
    Calls Tryz.prog 5 #[.int .i64 a0] W fun e w' => e = .returned (.bool true) ∧ Below W.heap.size W w' :=
  core a0 W ⟨sgs_of hL.tail.tail.tail.tail.tail.tail.tail, lvs_of hL.tail.tail.tail.tail.tail.tail, Shp.of hsh⟩
end Go.Proofs.YtbmbphikjainiaaGreatDoor.catalogGregorian
