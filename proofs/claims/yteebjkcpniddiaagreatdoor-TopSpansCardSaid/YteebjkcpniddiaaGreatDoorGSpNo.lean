/- SpNo -/
import Derived.Test.YteebjkcpniddiaaGreatDoorGSp1
/- Contract of span.Add at a duration that is too long. -/
namespace Go.Proofs.YteebjkcpniddiaaGreatDoor
open Go Go.RowKit
set_option linter.unusedVariables false

set_option maxHeartbeats 1000000 in
set_option maxRecDepth 100000 in
theorem Add_no (nm : List UInt8) (a y m d s : Int) (w : World) (hl : ¬ LenOk y m d s) : Calls Tryz.prog 18 #[.string (str nm), .int .i64 a, .agg (lenC y m d s)] w fun e w' => ∃ o F, e = .returned (.tuple #[.int .i64 o, .int .i64 F]) ∧ F ≠ 0 ∧ Below w.heap.size w w' := by
  have HB := Lib.hid (below_alloc1 w (Obj.cells (lenC y m d s) 23))
  have HX := Lib.hid (Box.new w 23 (lenC y m d s))
  have HCk : Hid (∀ W, Calls Tryz.prog 52 #[.agg (lenC y m d s)] W fun e w' => e = .returned (.int .i64 3) ∧ Below W.heap.size W w') := fun W => (spCheck_any y m d s W).mono fun e w' ⟨E, he, hE, hor, hb⟩ => by
    rcases hor with rfl | rfl
    · exact absurd (hE.1 rfl) hl
    · exact ⟨he, hb⟩
  clear hl
  generalize str nm = sn at *
  go_enter Tryz.func18, Tryz.ntmps18
  go_upto_region 1 with fail
  generalize w.alloc (Obj.cells (lenC y m d s) 23) = W0 at *
  generalize hg : w.heap.size = g at *
  have HG := Lib.hid hg
  clear hg
  obtain ⟨x0, x1, x2, x3⟩ := lcells HX.out
  go_wp2_with fail
  refine Calls.mono (HCk.out _) ?_
  rintro e w1 ⟨rfl, hb1⟩
  have HB1 : Hid (Below g w w1) := HB.out.trans (hb1.mono (by have := HX.out.lt; omega))
  clear hb1 HX HB HCk x0 x1 x2 x3
  go_wp2_with fail
  go_ret2
  exact ⟨0, 3, rfl, by decide, by rw [HG.out]; exact HB1.out⟩
end Go.Proofs.YteebjkcpniddiaaGreatDoor
