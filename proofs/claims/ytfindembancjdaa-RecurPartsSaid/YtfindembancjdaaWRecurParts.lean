/- The walk of RecurParts: it returns true at every input; it writes nothing that was there. -/
import Derived.Test.YtfindembancjdaaRec8
namespace Go.Proofs.Ytfindembancjdaa.recurParts
open Go.RowKit
set_option linter.unusedVariables false

set_option maxHeartbeats 4000000 in
set_option maxRecDepth 100000 in
theorem core (r : Rc) (x y : Int) (w : World) (hr : RcIn w r) (hf : RcFit r) :
    Calls Try.prog 3 #[r.val, .int .i64 x, .int .i64 y] w fun e w' => e = .returned (.bool true) ∧ Below w.heap.size w w' := by
  have HB := Lib.hid (below_alloc2 w (Obj.cells r.cells 24) (Obj.cells daily.cells 24))
  have HX := Lib.hid ((Box.new w 24 r.cells).alloc (Obj.cells daily.cells 24))
  have HR := Lib.hid (hr.next HB.out)
  have HF := Lib.hid hf
  have HD : Hid (∀ W, Calls Try.prog 11 #[.agg #[.int .i64 1, .int .i64 3, .int .i64 1, .int .i64 0, .int .i64 9, .slice none 0 0, .slice none 0 0, .slice none 0 0], .int .i64 1, .int .i64 30] W fun e w' => ∃ v, e = .returned (.tuple #[v, .int .i64 0]) ∧ w'.ownsRow W.heap.size 3 1 v 3 (ints [1, 4, 7]) ∧ Below W.heap.size W w') := fun W => by
    have := Days_yes daily 1 30 W (daily_in W) daily_fit daily_ok (by omega) (by omega) (by omega) (by simp [daily]) (by omega)
    rw [daily_days] at this
    exact this
  have HC1 := Lib.hid (fun w => cut_any x 0 300 w (by omega) (by omega) (by omega) (by omega))
  have HC2 := Lib.hid (fun w => cut_any y 1 300 w (by omega) (by omega) (by omega) (by omega))
  have ha1 : 0 ≤ 0 + x % 300 := by omega
  have ha2 : 0 + x % 300 < 300 := by omega
  have hb1 : 1 ≤ 1 + y % 300 := by omega
  have hb2 : 1 + y % 300 ≤ 300 := by omega
  generalize 0 + x % 300 = a at *
  generalize 1 + y % 300 = b at *
  clear hr hf
  go_enter Try.func3, Try.ntmps3
  go_wp2_with fail
  refine (HD.out _).mono ?_
  rintro e w1 ⟨v1, rfl, hown1, hb1'⟩
  clear HD
  obtain ⟨A1, c1, rfl, hc1, hc1'⟩ := own_form hown1
  obtain ⟨bb, oo, rfl, hbb, hcs⟩ := (Row.of_own hown1).open_ (by simp [ints])
  have y2 : w1.cell? ⟨bb, oo + 2, none⟩ = some (.int .i64 7) := hcs 2 _ rfl
  replace HX := Lib.hid (HX.out.below hb1')
  replace HB := Lib.hid (below_then HB.out hb1')
  replace HR := Lib.hid (HR.out.next hb1')
  clear hb1' hown1 hcs
  obtain ⟨x0, x1, x2, x3, x4, x5, x6, x7⟩ := rcells HX.out
  go_wp2_with fail
  refine (rcheck_any r _ HR.out HF.out).mono ?_
  rintro e w2 ⟨E, rfl, hE, hb2'⟩
  replace HX := Lib.hid (HX.out.below hb2')
  replace HB := Lib.hid (below_then HB.out hb2')
  replace HR := Lib.hid (HR.out.next hb2')
  clear x0 x1 x2 x3 x4 x5 x6 x7 y2 hb2'
  obtain ⟨x0, x1, x2, x3, x4, x5, x6, x7⟩ := rcells HX.out
  by_cases e1 : E = 0
  case neg =>
    have t1 : (E != 0) = true := by rw [bne_iff_ne]; exact e1
    clear hE
    go_wp2_with fail
    go_ret
    exact ⟨rfl, HB.out⟩
  have OK := Lib.hid (hE.1 e1)
  subst e1
  clear hE
  by_cases e2 : 3900000 < r.fr
  · have t1 : decide (3900000 < r.fr) = true := decide_eq_true e2
    go_wp2_with fail
    go_ret
    exact ⟨rfl, HB.out⟩
  have t1 : decide (3900000 < r.fr) = false := decide_eq_false e2
  have f1 := OK.out.f1.1
  have f2 := OK.out.f1.2
  go_wp2_with (first
    | (go_at_call 13; ((with_reducible refine (HC1.out _).mono ?_)); rintro e w' ⟨rfl, rfl⟩)
    | (go_at_call 13; ((with_reducible refine (HC2.out _).mono ?_)); rintro e w' ⟨rfl, rfl⟩))
  clear HC1 HC2 t1
  obtain ⟨an, rfl⟩ := Int.eq_ofNat_of_zero_le ha1
  obtain ⟨bn, rfl⟩ := Int.eq_ofNat_of_zero_le (show 0 ≤ b by omega)
  have HP := Lib.hid (days_parts r OK.out an bn)
  have HL1 := Lib.hid (days_len r OK.out r.fr (r.fr + an) (by omega))
  have HL2 := Lib.hid (days_len r OK.out (r.fr + an + 1) (r.fr + an + bn) (by omega))
  have HL3 := Lib.hid (days_len r OK.out r.fr (r.fr + an + bn) (by omega))
  have HN3 := Lib.hid (days_count r OK.out r.fr (r.fr + an + bn))
  have D1 := Lib.hid (fun W h => Days_yes r r.fr (r.fr + an) W h HF.out OK.out (by omega) (by omega) (by omega) (by omega) (by omega))
  have D2 := Lib.hid (fun W h => Days_yes r (r.fr + an + 1) (r.fr + an + bn) W h HF.out OK.out (by omega) (by omega) (by omega) (by omega) (by omega))
  have D3 := Lib.hid (fun W h => Days_yes r r.fr (r.fr + an + bn) W h HF.out OK.out (by omega) (by omega) (by omega) (by omega) (by omega))
  generalize r.days r.fr (r.fr + an) = l1 at *
  generalize r.days (r.fr + an + 1) (r.fr + an + bn) = l2 at *
  generalize r.days r.fr (r.fr + an + bn) = l3 at *
  refine (D1.out _ HR.out).mono ?_
  rintro e w3 ⟨v3, rfl, own3, hb3⟩
  have hz3 := hb3.size
  have hB2 := HB.out.size
  have hxl2 := HX.out.lt
  replace HX := Lib.hid (HX.out.below hb3)
  replace HB := Lib.hid (below_then HB.out hb3)
  replace HR := Lib.hid (HR.out.next hb3)
  clear x0 x1 x2 x3 x4 x5 x6 x7 hb3
  obtain ⟨x0, x1, x2, x3, x4, x5, x6, x7⟩ := rcells HX.out
  go_wp2_with fail
  refine (D2.out _ HR.out).mono ?_
  rintro e w4 ⟨v4, rfl, own4, hb4⟩
  have hz4 := hb4.size
  have O3 := Lib.hid (own_next own3 hb4)
  have hl3 := fun b hb => (own_lt own3 b hb).2
  have HL3' := Lib.hid hl3
  replace HX := Lib.hid (HX.out.below hb4)
  replace HB := Lib.hid (below_then HB.out hb4)
  replace HR := Lib.hid (HR.out.next hb4)
  clear x0 x1 x2 x3 x4 x5 x6 x7 hb4 own3 hl3
  obtain ⟨x0, x1, x2, x3, x4, x5, x6, x7⟩ := rcells HX.out
  go_wp2_with fail
  refine (D3.out _ HR.out).mono ?_
  rintro e w5 ⟨v5, rfl, own5, hb5⟩
  have hz5 := hb5.size
  replace O3 := Lib.hid (own_next O3.out hb5)
  obtain ⟨A4, c4, rfl, hc4, hc4'⟩ := own_form own4
  obtain ⟨A5, c5, rfl, hc5, hc5'⟩ := own_form own5
  have R4 := (Row.of_own own4).next hb5
  replace HX := Lib.hid (HX.out.below hb5)
  replace HB := Lib.hid (below_then HB.out hb5)
  replace HR := Lib.hid (HR.out.next hb5)
  clear x0 x1 x2 x3 x4 x5 x6 x7 hb5 own4
  obtain ⟨v6, w6, hrun, own6, hgr⟩ := append_ints (c2 := c4) 22 O3.out R4 (by have := HL1.out; omega) (by have := HL2.out; omega) (by omega)
  have O5 := Lib.hid (own_heap own5 (w' := w6) fun b hb => hgr.block b (own_lt own5 b hb).2 (fun e => by have := HL3'.out b e.symm; have := (own_lt own5 b hb).1; omega))
  have hB6 : Below w.heap.size w w6 := HB.out.grown hgr HB.out.size (fun k hk => by have := (own_lt O3.out k hk).1; omega)
  have hX6 : Box w6 w.heap.size 24 r.cells := HX.out.grown hgr (fun e => by have := (own_lt O3.out _ e.symm).1; have := HX.out.lt; omega)
  rw [HP.out] at own6
  obtain ⟨A6, c6, rfl, hc6, hc6'⟩ := own_form own6
  have R6 := Lib.hid (Row.of_own own6)
  clear hgr own5 R4 O3 own6
  have HF6 := Lib.hid (few_ints A6 c6 l3 w6 R6.out (by have := HL3.out; omega))
  have z3 : w5.cell? ⟨w.heap.size, 3, none⟩ = some (.int .i64 r.co) := HX.out.cell 3
  have HX6 := Lib.hid hX6
  have hrun' := Lib.hid hrun
  clear hX6 hrun
  go_wp2_with (at_builtin; refine wpList_append_any rfl _ _ _ _ rfl _ _ _ rfl rfl hrun'.out ?_)
  refine HF6.out.mono ?_
  rintro e w7 ⟨v7, rfl, own7, hb7⟩
  obtain ⟨A7, c7, rfl, hc7, hc7'⟩ := own_form own7
  have R7 := Lib.hid (Row.of_own own7)
  replace O5 := Lib.hid (own_next O5.out hb7)
  replace HB := Lib.hid (below_then hB6 hb7)
  replace HX := Lib.hid (HX6.out.below hb7)
  clear own7 hb7 HX6 z3 hrun' HF6 R6 hB6
  have HF7 := Lib.hid (few_ints A5 c5 l3 w7 (Row.of_own O5.out) (by have := HL3.out; omega))
  go_wp2_with fail
  refine HF7.out.mono ?_
  rintro e w8 ⟨v8, rfl, own8, hb8⟩
  obtain ⟨A8, c8, rfl, hc8, hc8'⟩ := own_form own8
  have R8 := Lib.hid (Row.of_own own8)
  replace R7 := Lib.hid (R7.out.next hb8)
  replace HB := Lib.hid (below_then HB.out hb8)
  replace HX := Lib.hid (HX.out.below hb8)
  clear own8 hb8 HF7 O5
  go_wp2_with fail
  refine (equal_ints A7 A8 c7 c8 l3 _ R7.out R8.out (by have := HL3.out; unfold maxLen; omega)).mono ?_
  rintro e w9 ⟨rfl, hb9⟩
  replace HB := Lib.hid (below_then HB.out hb9)
  have z3 : w9.cell? ⟨w.heap.size, 3, none⟩ = some (.int .i64 r.co) := (HX.out.below hb9).cell 3
  clear hb9 R7 R8
  by_cases h0 : r.co = 0
  · have t0 : (r.co == 0) = true := by simpa using h0
    clear h0
    go_wp2_with fail
    go_ret
    exact ⟨rfl, HB.out⟩
  · have t0 : (r.co == 0) = false := by simpa using h0
    have t2 : decide ((l3.length : Int) ≤ r.co) = true := decide_eq_true (HN3.out h0)
    clear h0
    go_wp2_with fail
    go_ret
    exact ⟨rfl, HB.out⟩

set_option maxRecDepth 100000 in
theorem walk {H : Type} {enc : TypeId × Value → H} {base : Nat} {W : World} (v0 : Value) (d0 : DataW H) (p0 : List MemPlace) (hv : Value.okWide Try.prog W .any base 24 v0)
    (h0 : DataW.Trod enc Try.prog W 0 (fun _ => true) true 24 v0 d0 p0) (a1 : Int) (w1 : (Lit.int .i64 a1).wf = true) (a2 : Int) (w2 : (Lit.int .i64 a2).wf = true) :
    Calls Try.prog 3 #[v0, .int .i64 a1, .int .i64 a2] W fun e W' => e = .returned (.bool true) ∧ Below W.heap.size W W' := by
  obtain ⟨r, rfl, hr, hf⟩ := recur_open hv h0
  exact core r a1 a2 W hr hf
end Go.Proofs.Ytfindembancjdaa.recurParts
