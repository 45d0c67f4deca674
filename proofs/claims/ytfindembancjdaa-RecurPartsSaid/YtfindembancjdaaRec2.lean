/- Contracts of package recur: Check, checkRange. -/
import Derived.Test.YtfindembancjdaaRec1
import Derived.Test.YtfindembancjdaaMoon4
namespace Go.Proofs.Ytfindembancjdaa
open Go.RowKit
set_option linter.unusedVariables false

/-- a recurrence: its numbers, its lists and where they lie -/
structure Rc where
  un : Int
  ev : Int
  fr : Int
  co : Int
  ut : Int
  wd : List Int
  md : List Int
  mo : List Int
  A1 : Option Addr
  c1 : Nat
  A2 : Option Addr
  c2 : Nat
  A3 : Option Addr
  c3 : Nat
abbrev Rc.cells (r : Rc) : Array Value := #[.int .i64 r.un, .int .i64 r.ev, .int .i64 r.fr, .int .i64 r.co, .int .i64 r.ut, .slice r.A1 r.wd.length r.c1, .slice r.A2 r.md.length r.c2, .slice r.A3 r.mo.length r.c3]
abbrev Rc.val (r : Rc) : Value := .agg r.cells
structure RcIn (w : World) (r : Rc) : Prop where
  r1 : Row w w.heap.size r.A1 (ints r.wd)
  r2 : Row w w.heap.size r.A2 (ints r.md)
  r3 : Row w w.heap.size r.A3 (ints r.mo)
theorem RcIn.next {w w' : World} {r : Rc} (h : RcIn w r) (hb : Below w.heap.size w w') : RcIn w' r := ⟨h.r1.next hb, h.r2.next hb, h.r3.next hb⟩
structure RcFit (r : Rc) : Prop where
  l1 : r.wd.length ≤ r.c1
  m1 : r.c1 ≤ maxLen
  l2 : r.md.length ≤ r.c2
  m2 : r.c2 ≤ maxLen
  l3 : r.mo.length ≤ r.c3
  m3 : r.c3 ≤ maxLen
theorem rcells {W : World} {g : Nat} {r : Rc} (h : Box W g 24 r.cells) : W.cell? ⟨g, 0, none⟩ = some (.int .i64 r.un) ∧ W.cell? ⟨g, 1, none⟩ = some (.int .i64 r.ev) ∧ W.cell? ⟨g, 2, none⟩ = some (.int .i64 r.fr) ∧ W.cell? ⟨g, 3, none⟩ = some (.int .i64 r.co) ∧ W.cell? ⟨g, 4, none⟩ = some (.int .i64 r.ut) ∧ W.cell? ⟨g, 5, none⟩ = some (.slice r.A1 r.wd.length r.c1) ∧ W.cell? ⟨g, 6, none⟩ = some (.slice r.A2 r.md.length r.c2) ∧ W.cell? ⟨g, 7, none⟩ = some (.slice r.A3 r.mo.length r.c3) :=
  ⟨h.cell 0, h.cell 1, h.cell 2, h.cell 3, h.cell 4, h.cell 5, h.cell 6, h.cell 7⟩
/-- a valid recurrence -/
structure RcOk (r : Rc) : Prop where
  u1 : 1 ≤ r.un
  u2 : r.un ≤ 4
  e1 : 1 ≤ r.ev
  e2 : r.ev ≤ 1000
  f1 : -4000000 ≤ r.fr ∧ r.fr ≤ 4000000
  t1 : -4000000 ≤ r.ut ∧ r.ut ≤ 4000000
  o1 : r.fr ≤ r.ut
  c1 : 0 ≤ r.co
  c2 : r.co ≤ 1000
  wd : ListOk r.wd 0 6 true
  md : ListOk r.md (-31) 31 false
  mo : ListOk r.mo 1 12 true

set_option maxHeartbeats 4000000 in
set_option maxRecDepth 100000 in
theorem rcheck_any (r : Rc) (w : World) (hr : RcIn w r) (hf : RcFit r) : Calls Try.prog 12 #[r.val] w (Errs (RcOk r) w) := by
  have HX := Lib.hid (Box.new w 24 r.cells)
  have HB := Lib.hid (below_alloc1 w (Obj.cells r.cells 24))
  have HR := Lib.hid (hr.next HB.out)
  have HF := Lib.hid hf
  clear hr hf
  go_enter Try.func12, Try.ntmps12
  by_cases a1 : r.un < 1
  · have t1 : decide (r.un < 1) = true := decide_eq_true a1
    go_wp2_with fail
    go_ret
    exact Errs.by_ (Q := RcOk r) (by omega) (·.u1) (by omega) HB.out
  have t1 : decide (r.un < 1) = false := decide_eq_false a1
  by_cases a2 : 4 < r.un
  · have t2 : decide (4 < r.un) = true := decide_eq_true a2
    go_wp2_with fail
    go_ret
    exact Errs.by_ (Q := RcOk r) (by omega) (·.u2) (by omega) HB.out
  have t2 : decide (4 < r.un) = false := decide_eq_false a2
  by_cases a3 : r.ev < 1
  · have t3 : decide (r.ev < 1) = true := decide_eq_true a3
    go_wp2_with fail
    go_ret
    exact Errs.by_ (Q := RcOk r) (by omega) (·.e1) (by omega) HB.out
  have t3 : decide (r.ev < 1) = false := decide_eq_false a3
  by_cases a4 : 1000 < r.ev
  · have t4 : decide (1000 < r.ev) = true := decide_eq_true a4
    go_wp2_with fail
    go_ret
    exact Errs.by_ (Q := RcOk r) (by omega) (·.e2) (by omega) HB.out
  have t4 : decide (1000 < r.ev) = false := decide_eq_false a4
  by_cases a5 : -4000000 ≤ r.fr ∧ r.fr ≤ 4000000
  case neg =>
    have a5' : r.fr < -4000000 ∨ 4000000 < r.fr := by omega
    have HN : Hid (¬ RcOk r) := fun h => a5 h.f1
    clear a5
    go_wp2_with (go_at_call 38; refine (is_no _ _ a5').mono ?_; rintro e w' ⟨rfl, rfl⟩)
    go_ret
    exact Errs.no (by omega) HN.out HB.out
  have HIf := Lib.hid (fun w => is_yes r.fr w a5.1 a5.2)
  by_cases a6 : -4000000 ≤ r.ut ∧ r.ut ≤ 4000000
  case neg =>
    have a6' : r.ut < -4000000 ∨ 4000000 < r.ut := by omega
    have HN : Hid (¬ RcOk r) := fun h => a6 h.t1
    have A5 := Lib.hid a5
    clear a6 a5
    go_wp2_with (first
      | (go_at_call 38; ((with_reducible refine (HIf.out _).mono ?_)); rintro e w' ⟨rfl, rfl⟩)
      | (go_at_call 38; ((with_reducible refine (is_no r.ut _ a6').mono ?_)); rintro e w' ⟨rfl, rfl⟩))
    go_ret
    exact Errs.no (by omega) HN.out HB.out
  have HIu := Lib.hid (fun w => is_yes r.ut w a6.1 a6.2)
  have A5 := Lib.hid a5
  have A6 := Lib.hid a6
  clear a5 a6
  by_cases a7 : r.ut < r.fr
  · have t7 : decide (r.ut < r.fr) = true := decide_eq_true a7
    go_wp2_with (first
      | (go_at_call 38; ((with_reducible refine (HIf.out _).mono ?_)); rintro e w' ⟨rfl, rfl⟩)
      | (go_at_call 38; ((with_reducible refine (HIu.out _).mono ?_)); rintro e w' ⟨rfl, rfl⟩))
    go_ret
    exact Errs.by_ (Q := RcOk r) (by omega) (·.o1) (by omega) HB.out
  have t7 : decide (r.ut < r.fr) = false := decide_eq_false a7
  by_cases a8 : r.co < 0
  · have t8 : decide (r.co < 0) = true := decide_eq_true a8
    go_wp2_with (first
      | (go_at_call 38; ((with_reducible refine (HIf.out _).mono ?_)); rintro e w' ⟨rfl, rfl⟩)
      | (go_at_call 38; ((with_reducible refine (HIu.out _).mono ?_)); rintro e w' ⟨rfl, rfl⟩))
    go_ret
    exact Errs.by_ (Q := RcOk r) (by omega) (·.c1) (by omega) HB.out
  have t8 : decide (r.co < 0) = false := decide_eq_false a8
  by_cases a9 : 1000 < r.co
  · have t9 : decide (1000 < r.co) = true := decide_eq_true a9
    go_wp2_with (first
      | (go_at_call 38; ((with_reducible refine (HIf.out _).mono ?_)); rintro e w' ⟨rfl, rfl⟩)
      | (go_at_call 38; ((with_reducible refine (HIu.out _).mono ?_)); rintro e w' ⟨rfl, rfl⟩))
    go_ret
    exact Errs.by_ (Q := RcOk r) (by omega) (·.c2) (by omega) HB.out
  have t9 : decide (1000 < r.co) = false := decide_eq_false a9
  go_wp2_with (first
    | (go_at_call 38; ((with_reducible refine (HIf.out _).mono ?_)); rintro e w' ⟨rfl, rfl⟩)
    | (go_at_call 38; ((with_reducible refine (HIu.out _).mono ?_)); rintro e w' ⟨rfl, rfl⟩))
  clear t1 t2 t3 t4 t7 t8 t9 HIf HIu
  generalize w.alloc (Obj.cells r.cells 24) = W0 at *
  obtain ⟨g, hg⟩ : ∃ g, g = w.heap.size := ⟨_, rfl⟩
  rw [← hg] at HX
  rw [← hg]
  clear hg
  refine (list_any r.A1 r.c1 r.wd 0 6 true _ HR.out.r1 HF.out.l1 HF.out.m1).mono ?_
  rintro e w1 ⟨E1, rfl, hE1, hb1⟩
  have HE1 := Lib.hid hE1
  clear hE1
  replace HX := Lib.hid (HX.out.below hb1)
  replace HB := Lib.hid (below_then HB.out hb1)
  replace HR := Lib.hid (HR.out.next hb1)
  clear hb1
  by_cases e1 : E1 = 0
  case neg =>
    have t1 : (E1 != 0) = true := by rw [bne_iff_ne]; exact e1
    go_wp2_with fail
    go_ret
    exact Errs.by_ (Q := RcOk r) e1 (·.wd) (fun h => e1 (HE1.out.2 h)) HB.out
  subst e1
  have HW := Lib.hid (HE1.out.1 rfl)
  clear HE1
  obtain ⟨x0, x1, x2, x3, x4, x5, x6, x7⟩ := rcells HX.out
  go_wp2_with fail
  refine (list_any r.A2 r.c2 r.md (-31) 31 false _ HR.out.r2 HF.out.l2 HF.out.m2).mono ?_
  rintro e w2 ⟨E1, rfl, hE1, hb1⟩
  have HE1 := Lib.hid hE1
  clear hE1 x0 x1 x2 x3 x4 x5 x6 x7
  replace HX := Lib.hid (HX.out.below hb1)
  replace HB := Lib.hid (below_then HB.out hb1)
  replace HR := Lib.hid (HR.out.next hb1)
  clear hb1
  by_cases e1 : E1 = 0
  case neg =>
    have t1 : (E1 != 0) = true := by rw [bne_iff_ne]; exact e1
    go_wp2_with fail
    go_ret
    exact Errs.by_ (Q := RcOk r) e1 (·.md) (fun h => e1 (HE1.out.2 h)) HB.out
  subst e1
  have HM := Lib.hid (HE1.out.1 rfl)
  clear HE1
  obtain ⟨x0, x1, x2, x3, x4, x5, x6, x7⟩ := rcells HX.out
  go_wp2_with fail
  refine (list_any r.A3 r.c3 r.mo 1 12 true _ HR.out.r3 HF.out.l3 HF.out.m3).mono ?_
  rintro e w3 ⟨E1, rfl, hE1, hb1⟩
  have HE1 := Lib.hid hE1
  clear hE1 x0 x1 x2 x3 x4 x5 x6 x7
  go_wp2_with fail
  go_ret
  refine ⟨E1, rfl, ⟨fun h0 => ?_, fun h => HE1.out.2 h.mo⟩, below_then HB.out hb1⟩
  exact ⟨by omega, by omega, by omega, by omega, A5.out, A6.out, by omega, by omega, by omega, HW.out, HM.out, HE1.out.1 h0⟩
end Go.Proofs.Ytfindembancjdaa
