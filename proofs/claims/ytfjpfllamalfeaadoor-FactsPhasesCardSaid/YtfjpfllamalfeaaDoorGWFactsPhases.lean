/- WFactsPhases -/
import Derived.Test.YtfjpfllamalfeaaDoorGFpA
/- FactsPhases: the law returns true. -/
namespace Go.Proofs.YtfjpfllamalfeaaDoor.factsPhases
open Go.RowKit
set_option linter.unusedVariables false
set_option linter.unusedSimpArgs false
theorem moon_11 : moonF 11 = 1 := by
  have hd : inDay 11 0 0 = true := by
    unfold inDay
    rw [find_first]
    decide
  have hn : moonN 11 = -1 := by unfold moonN; decide
  unfold moonF
  rw [hn]
  exact moonK_yes (by decide) (by decide) hd 3 _ (by decide) (by decide)
set_option maxHeartbeats 2000000 in
set_option maxRecDepth 100000 in
theorem core (a0 a1 : Int) (w : World) (hT : TrigT w) :
    Calls Tryd.prog 3 #[.int .i64 a0, .int .i64 a1] w fun e w' => e = .returned (.bool true) ∧ Below w.heap.size w w' := by
  have HM11 := Lib.hid (fun w hT => (moon_11 ▸ fmoon_any 11 (by decide) (by decide) w hT : Calls Tryd.prog 4 #[.int .i64 11] w fun e w' => e = .returned (.tuple #[.int .i64 1, .int .i64 0]) ∧ Below w.heap.size w w'))
  have HC1 := Lib.hid (fun w => cut_any a0 (-20000) 40000 w (by decide) (by decide) (by decide) (by decide))
  have HC2 := Lib.hid (fun w => cut_any a1 0 4 w (by decide) (by decide) (by decide) (by decide))
  have k0 : -20000 ≤ -20000 + a0 % 40000 := by omega
  have k1 : -20000 + a0 % 40000 < 20000 := by omega
  have q0 : 0 ≤ 0 + a1 % 4 := by omega
  have q1 : 0 + a1 % 4 ≤ 3 := by omega
  generalize -20000 + a0 % 40000 = k at *
  generalize 0 + a1 % 4 = q at *
  have HF := Lib.hid (fun w hT => Find_any k q (by omega) (by omega) q0 q1 w hT)
  have hin := find_in k q
  have hlaw := moon_law (k := k) q0 q1
  have zb : (-60000000000000 ≤ (findF k q).1 ∧ (findF k q).1 ≤ 60000000000000) ∧ (-60000000000000 ≤ (findF k q).2 ∧ (findF k q).2 ≤ 60000000000000) := by unfold midI at hin; omega
  generalize findF k q = Z at *
  clear hin
  obtain ⟨⟨z1, z2⟩, z3, z4⟩ := zb
  have HS1 := Lib.hid (fun w => split_yes Z.1 w (by omega) (by omega))
  have HS2 := Lib.hid (fun w => split_yes Z.2 w (by omega) (by omega))
  have HMd := Lib.hid (fun w hT => fmoon_any (Z.1 / 86400000) (by omega) (by omega) w hT)
  have db : -700000 ≤ Z.1 / 86400000 ∧ Z.1 / 86400000 ≤ 700000 := by omega
  generalize moonF (Z.1 / 86400000) = m at *
  generalize Z.1 / 86400000 = d at *
  generalize Z.2 / 86400000 = d2 at *
  generalize Z.1 % 86400000 = r1 at *
  generalize Z.2 % 86400000 = r2 at *
  have HL := Lib.hid hlaw
  have HT := Lib.hid hT
  clear hT hlaw
  go_enter Tryd.func3, Tryd.ntmps3
  go_upto_region 4 with (go_at_call 4; refine (HM11.out _ HT.out).mono ?_; rintro e w1 ⟨rfl, hb1⟩)
  have HT1 := Lib.hid (HT.out.next hb1)
  have HB1 := Lib.hid hb1
  clear hb1 HM11 HT
  go_upto_region 8 with first
    | (go_at_call 5; first | (with_reducible refine (HC1.out _).mono ?_; rintro e w' ⟨rfl, rfl⟩) | (with_reducible refine (HC2.out _).mono ?_; rintro e w' ⟨rfl, rfl⟩))
    | (go_at_call 6; refine (HF.out _ HT1.out).mono ?_; rintro e w2 ⟨rfl, hb2⟩)
  have hb3 := below_then hb2 (below_alloc1 w2 (Obj.cells #[.int .i64 Z.1, .int .i64 Z.2] 27))
  have HT3 := Lib.hid (HT1.out.next hb3)
  have HB3 := Lib.hid (HB1.out.trans (hb3.mono HB1.out.size))
  have HZ := Lib.hid (Box.new w2 27 #[.int .i64 Z.1, .int .i64 Z.2])
  clear hb2 hb3 HT1 HB1 HC1 HC2 HF
  generalize w2.alloc (Obj.cells #[.int .i64 Z.1, .int .i64 Z.2] 27) = W3 at *
  generalize w2.heap.size = ga at *
  have x0 : W3.cell? ⟨ga, 0, none⟩ = some (.int .i64 Z.1) := HZ.out.cell 0
  have x1 : ∀ n, (W3.drewN n).cell? ⟨ga, 1, none⟩ = some (.int .i64 Z.2) := fun n => (HZ.out.drewN n).cell 1
  go_upto_region 10 with (go_at_call 7; first | (with_reducible refine (HS1.out _).mono ?_; rintro e w' ⟨rfl, n2, rfl⟩) | (with_reducible refine (HS2.out _).mono ?_; rintro e w' ⟨rfl, n3, rfl⟩))
  have HT4 : Hid (TrigT (W3.drewN (n2 + n3))) := HT3.out.next (below_drewN _ _)
  have HB4 := Lib.hid (below_drew HB3.out (n2 + n3))
  clear HT3 HB3 HZ x0 x1 HS1 HS2
  generalize W3.drewN (n2 + n3) = W4 at *
  by_cases hm : m = q + 1
  · have tm : (m == q + 1) = true := by rw [hm]; exact beq_self_eq_true _
    clear hm HL
    go_wp2_with (go_at_call 4; refine (HMd.out _ HT4.out).mono ?_; rintro e w5 ⟨rfl, hb5⟩)
    go_ret
    exact ⟨rfl, HB4.out.trans (hb5.mono HB4.out.size)⟩
  · have tm : (m == q + 1) = false := beq_eq_false_iff_ne.2 hm
    have hd : d2 ≠ d := HL.out.resolve_left hm
    have td : (d2 != d) = true := by rw [bne_iff_ne]; exact hd
    clear hm HL
    go_wp2_with (go_at_call 4; refine (HMd.out _ HT4.out).mono ?_; rintro e w5 ⟨rfl, hb5⟩)
    go_ret
    exact ⟨rfl, HB4.out.trans (hb5.mono HB4.out.size)⟩
theorem walk (a0 : Int) (w0 : (Lit.int .i64 a0).wf = true) (a1 : Int) (w1 : (Lit.int .i64 a1).wf = true) (W : World) (hL : laidMet Tryd.prog Rows.factsPhasesRow.laid W) (hsh : W.ShapedOpen Tryd.prog) :
    Calls Tryd.prog 3 #[.int .i64 a0, .int .i64 a1] W fun e w' => e = .returned (.bool true) ∧ Below W.heap.size W w' := by
  exact core a0 a1 W (trig_of hL)
end Go.Proofs.YtfjpfllamalfeaaDoor.factsPhases
