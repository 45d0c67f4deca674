/- Contracts of package zone: One where there is none, Offset. -/
import Derived.Test.YtdbnnhfgohabdaaZone3
namespace Go.Proofs.Ytdbnnhfgohabdaa
open Go.RowKit
set_option linter.unusedVariables false

set_option maxHeartbeats 1000000 in
set_option maxRecDepth 100000 in
theorem zone_gap (nm : ByteArray) (first : Int) (A : Option Addr) (c : Nat) (chs : List Chg) (day ms : Int) (w : World) (hz : ZIn w nm A chs) (hok : ZoneOk nm first chs) (d1 : -4000000 ≤ day) (d2 : day ≤ 4000000) (m1 : 0 ≤ ms) (m2 : ms < 86400000)
    (hL : instL (day * 86400000 + ms) first chs (chs.length + 1) = []) :
    Calls Try.prog 38 #[.agg #[.string nm, .int .i64 first, .slice A chs.length c], .int .i64 day, .int .i64 ms] w fun e w' => e = .returned (.tuple #[.int .i64 0, .int .i64 15]) ∧ Below w.heap.size w w' := by
  have HI := Lib.hid (fun w hz => zinst_yes nm first A c chs day ms w hz hok d1 d2 m1 m2)
  rw [hL] at HI
  clear hL hok
  go_enter Try.func38, Try.ntmps38
  go_wp2_with fail
  refine (HI.out _ (hz.alloc _)).mono ?_
  rintro e w1 ⟨P, cp, rfl, _, hb1⟩
  have hB := below_next (Below.refl _ _) hb1
  clear hb1 HI
  go_wp2_with fail
  go_ret2
  exact ⟨rfl, hB⟩

/-- What Offset says at a valid zone and instant. -/
def IsOff3 (n : Int) (w : World) (e : Ending) (w' : World) : Prop := ∃ l : ByteArray, e = .returned (.tuple #[.int .i64 n, .string l, .int .i64 0]) ∧ Below w.heap.size w w'
set_option maxHeartbeats 1000000 in
set_option maxRecDepth 100000 in
theorem zoneOffset_yes (nm : ByteArray) (first : Int) (A : Option Addr) (c : Nat) (chs : List Chg) (t : Int) (w : World) (hz : ZIn w nm A chs) (hok : ZoneOk nm first chs) (ht : InstOk t) :
    Calls Try.prog 40 #[.agg #[.string nm, .int .i64 first, .slice A chs.length c], .int .i64 t] w (IsOff3 (offAt first chs t) w) := by
  have Hc := Lib.hid (fun w hz => zcheckI_yes nm first A c chs t w hz hok ht)
  have Ho := Lib.hid (fun w hz => zoffset_any nm first A c chs t w hz)
  generalize offAt first chs t = n at *
  clear hok ht
  go_enter Try.func40, Try.ntmps40
  go_wp2_with fail
  refine (Hc.out _ (hz.alloc _)).mono ?_
  rintro e w1 ⟨rfl, hb1⟩
  have hB := below_next (Below.refl _ _) hb1
  have hx := (Box.new w 57 #[.string nm, .int .i64 first, .slice A chs.length c]).below hb1
  replace hz := (hz.alloc _).next hb1
  clear hb1
  have x0 : w1.cell? ⟨w.heap.size, 0, none⟩ = some (.string nm) := hx.cell 0
  have x1 : w1.cell? ⟨w.heap.size, 1, none⟩ = some (.int .i64 first) := hx.cell 1
  have x2 : w1.cell? ⟨w.heap.size, 2, none⟩ = some (.slice A chs.length c) := hx.cell 2
  go_wp2_with fail
  refine (Ho.out _ hz).mono ?_
  rintro e w2 ⟨l, rfl, hb2⟩
  replace hB := below_then hB hb2
  clear hb2 x0 x1 x2 hx
  go_wp2_with fail
  go_ret3
  exact ⟨l, rfl, hB⟩
end Go.Proofs.Ytdbnnhfgohabdaa
