/- WRecurSame -/
import Derived.Test.YtonhmgdokghoeaaDoorGRnPl2
import Derived.Test.YtonhmgdokghoeaaDoorGRn1
import Derived.Test.YtonhmgdokghoeaaDoorGSlice1
/- The walk of RecurSame: it returns true at every input; it writes nothing that was there. -/
namespace Go.Proofs.YtonhmgdokghoeaaDoor.recurSame
open Go Go.RowKit
attribute [local go_sem] Oper.semAt_some
set_option linter.unusedVariables false

set_option maxRecDepth 100000 in
set_option maxHeartbeats 8000000 in
theorem core (r : Rc) (a b : Int) (w : World) (hr : RcIn w r) (hf : RcFit r) (hp : Pow w) (hu : Uns w) :
    Calls Tryd.prog 3 #[r.val, .int .i64 a, .int .i64 b] w fun e w' => e = .returned (.bool true) ∧ Below w.heap.size w w' := by
  have HB := Lib.hid (below_alloc2 w (Obj.cells r.cells 24) (Obj.cells #[.int .i64 1, .int .i64 1, .int .i64 1, .int .i64 0, .int .i64 9, .slice none 0 0, .slice none 0 0, .slice none 0 0] 24))
  have HX := Lib.hid ((Box.new w 24 r.cells).alloc (Obj.cells #[.int .i64 1, .int .i64 1, .int .i64 1, .int .i64 0, .int .i64 9, .slice none 0 0, .slice none 0 0, .slice none 0 0] 24))
  have hY := Box.new (w.alloc (Obj.cells r.cells 24)) 24 #[.int .i64 1, .int .i64 1, .int .i64 1, .int .i64 0, .int .i64 9, .slice none 0 0, .slice none 0 0, .slice none 0 0]
  rw [World.size_alloc] at hY
  have HY := Lib.hid hY
  have HD9 : Hid (∀ W, Calls Tryd.prog 4 #[.agg #[.int .i64 1, .int .i64 1, .int .i64 1, .int .i64 0, .int .i64 9, .slice none 0 0, .slice none 0 0, .slice none 0 0], .int .i64 1, .int .i64 3] W (DaysV day9 1 3 W)) := fun W => (Days_all day9 1 3 W (day9_in W) day9_fit day9_ok).mono fun e w' h => DaysQ.flat h
  have H9 := Lib.hid day9_days
  have HNm := Lib.hid (fun (W : World) (r : Rc) (h1 : RcIn W r) (h2 : RcFit r) => normal_any r W h1 h2)
  have HPr := Lib.hid (fun (W : World) (h : Below w.heap.size w W) (r : Rc) (h1 : RcIn W r) (h2 : RcFit r) (h3 : RcOk r) => rprint2_any r W h1 h2 h3 (hp.next h) (hu.next h))
  have HDy := Lib.hid (fun (W : World) (r : Rc) (h1 : RcIn W r) (h2 : RcFit r) (h3 : RcOk r) => (Days_all r a b W h1 h2 h3).mono fun e w' h => DaysQ.flat h)
  have HR := Lib.hid (fun W (h : Below w.heap.size w W) => hr.next h)
  have HF := Lib.hid hf
  unfold DaysV at HD9 HDy
  unfold NmQ at HNm
  unfold RPrQ at HPr
  clear hr hf hp hu hY
  go_enter Tryd.func3, Tryd.ntmps3
  go_upto_region 2 with fail
  generalize (w.alloc (Obj.cells r.cells 24)).alloc (Obj.cells #[.int .i64 1, .int .i64 1, .int .i64 1, .int .i64 0, .int .i64 9, .slice none 0 0, .slice none 0 0, .slice none 0 0] 24) = W1 at *
  obtain ⟨g, hg⟩ : ∃ g, g = w.heap.size := ⟨_, rfl⟩
  rw [← hg] at HX HY ⊢
  clear hg
  obtain ⟨x0, x1, x2, x3, x4, x5, x6, x7⟩ := rcells (r := day9) HY.out
  have y0 : W1.cell? ⟨g + 1, 0, none⟩ = some (.int .i64 1) := x0
  have y1 : W1.cell? ⟨g + 1, 1, none⟩ = some (.int .i64 1) := x1
  have y2 : W1.cell? ⟨g + 1, 2, none⟩ = some (.int .i64 1) := x2
  have y3 : W1.cell? ⟨g + 1, 3, none⟩ = some (.int .i64 0) := x3
  have y4 : W1.cell? ⟨g + 1, 4, none⟩ = some (.int .i64 9) := x4
  have y5 : W1.cell? ⟨g + 1, 5, none⟩ = some (.slice none 0 0) := x5
  have y6 : W1.cell? ⟨g + 1, 6, none⟩ = some (.slice none 0 0) := x6
  have y7 : W1.cell? ⟨g + 1, 7, none⟩ = some (.slice none 0 0) := x7
  clear x0 x1 x2 x3 x4 x5 x6 x7
  go_wp2_with fail
  refine (HD9.out W1).mono ?_
  rintro e w2 ⟨hb2, A9, c9, he, _⟩
  rw [H9.out, show crE day9.fr 1 3 = 0 by decide] at he
  subst he
  have HB2 := Lib.hid (below_then HB.out hb2)
  have HX2 := Lib.hid (HX.out.below hb2)
  clear hb2 y0 y1 y2 y3 y4 y5 y6 y7 HD9 H9 HB HX HY
  obtain ⟨x0, x1, x2, x3, x4, x5, x6, x7⟩ := rcells HX2.out
  go_wp2_with fail
  refine (HNm.out w2 r (HR.out w2 HB2.out) HF.out).mono ?_
  rintro e w3 ⟨hb3, h⟩
  have HB3 := Lib.hid (below_then HB2.out hb3)
  have HX3 := Lib.hid (HX2.out.below hb3)
  clear hb3 x0 x1 x2 x3 x4 x5 x6 x7 HB2 HX2
  rcases h with ⟨hok, n, hnorm, hin, hfit, rfl⟩ | ⟨_, E, hE, rfl⟩
  case inr =>
    have t1 : (E != 0) = true := by rw [bne_iff_ne]; exact hE
    have HB4 := Lib.hid (below_then HB3.out (below_alloc1 w3 (Obj.cells zeroRc 24)))
    clear hE
    go_wp2_with fail
    go_ret
    exact ⟨rfl, HB4.out⟩
  have HOk := Lib.hid hok
  have HNo := Lib.hid hnorm
  have HnF := Lib.hid hfit
  have HnOk := Lib.hid (norm_ok hok (mmAt_spec hok.f1.1 hok.f1.2).2 hnorm)
  have HnDays := Lib.hid (norm_days (a := a) (b := b) hok hnorm)
  have HnFr := Lib.hid hnorm.fr
  have hb4 := below_alloc1 w3 (Obj.cells n.cells 24)
  have HnIn := Lib.hid (fun W (h : Below w3.heap.size w3 W) => hin.next h)
  have HB4 := Lib.hid (below_then HB3.out hb4)
  have HBn4 := Lib.hid hb4
  have HX4 := Lib.hid (HX3.out.below hb4)
  have HN4 := Lib.hid (Box.new w3 24 n.cells)
  clear hok hnorm hfit hin hb4 HB3 HX3
  obtain ⟨x0, x1, x2, x3, x4, x5, x6, x7⟩ := rcells HN4.out
  go_wp2_with fail
  clear x0 x1 x2 x3 x4 x5 x6 x7
  generalize hg3 : w3.heap.size = g3 at *
  generalize w3.alloc (Obj.cells n.cells 24) = w4 at *
  refine (HNm.out w4 n (HnIn.out w4 HBn4.out) HnF.out).mono ?_
  rintro e w5 ⟨hb5, h⟩
  rcases h with ⟨_, n', hnorm', hin', hfit', rfl⟩ | ⟨hno, _⟩
  case inr => exact absurd HnOk.out hno
  rw [HnFr.out] at hnorm'
  have HSame := Lib.hid (norm_norm HOk.out HNo.out hnorm')
  have HnOk' := Lib.hid (norm_ok HnOk.out (mmAt_spec HOk.out.f1.1 HOk.out.f1.2).2 hnorm')
  have HTx := Lib.hid (rcP_same HSame.out 3)
  have HnF' := Lib.hid hfit'
  have HnIn' := Lib.hid (fun W (h : Below w5.heap.size w5 W) => hin'.next h)
  have hb6 := below_alloc1 w5 (Obj.cells n'.cells 24)
  have HB6 := Lib.hid (below_then HB4.out (below_then hb5 hb6))
  have HBn6 := Lib.hid (HBn4.out.trans ((below_then hb5 hb6).mono (by have := HBn4.out.size; omega)))
  have HBm6 := Lib.hid hb6
  have HX6 := Lib.hid (HX4.out.below (below_then hb5 hb6))
  have HN6 := Lib.hid (HN4.out.below (below_then hb5 hb6))
  have HM6 := Lib.hid (Box.new w5 24 n'.cells)
  clear hnorm' hin' hfit' hb5 hb6 HB4 HX4 HN4 HBn4 HSame HNo
  obtain ⟨x0, x1, x2, x3, x4, x5, x6, x7⟩ := rcells HN6.out
  go_wp2_with fail
  clear x0 x1 x2 x3 x4 x5 x6 x7
  generalize hg5 : w5.heap.size = g5 at *
  generalize w5.alloc (Obj.cells n'.cells 24) = w6 at *
  refine (HPr.out w6 HB6.out n (HnIn.out w6 HBn6.out) HnF.out HnOk.out).mono ?_
  rintro e w7 ⟨hb7, rfl⟩
  have HB7 := Lib.hid (below_then HB6.out hb7)
  have HBn7 := Lib.hid (HBn6.out.trans (hb7.mono (by have := HBn6.out.size; omega)))
  have HBm7 := Lib.hid (HBm6.out.trans (hb7.mono (by have := HBm6.out.size; omega)))
  have HX7 := Lib.hid (HX6.out.below hb7)
  have HN7 := Lib.hid (HN6.out.below hb7)
  have HM7 := Lib.hid (HM6.out.below hb7)
  clear hb7 HB6 HBn6 HBm6 HX6 HN6 HM6
  obtain ⟨x0, x1, x2, x3, x4, x5, x6, x7⟩ := rcells HM7.out
  go_wp2_with fail
  clear x0 x1 x2 x3 x4 x5 x6 x7
  refine (HPr.out w7 HB7.out n' (HnIn'.out w7 HBm7.out) HnF'.out HnOk'.out).mono ?_
  rintro e w8 ⟨hb8, rfl⟩
  rw [HTx.out]
  generalize rcP n 3 = T at *
  have HB8 := Lib.hid (below_then HB7.out hb8)
  have HBn8 := Lib.hid (HBn7.out.trans (hb8.mono (by have := HBn7.out.size; omega)))
  have HX8 := Lib.hid (HX7.out.below hb8)
  have HN8 := Lib.hid (HN7.out.below hb8)
  clear hb8 HB7 HBn7 HBm7 HX7 HN7 HM7 HTx HPr HNm
  have t1 : (T.toList != T.toList) = false := by simp
  have t2 : (T.toList == T.toList) = true := by simp
  obtain ⟨x0, x1, x2, x3, x4, x5, x6, x7⟩ := rcells HX8.out
  go_wp2_with fail
  clear x0 x1 x2 x3 x4 x5 x6 x7 t1 t2
  refine (HDy.out w8 r (HR.out w8 HB8.out) HF.out HOk.out).mono ?_
  rintro e w9 ⟨hb9, Aa, ca, he, hra⟩
  have HDl := Lib.hid (dL_len HOk.out a b)
  have HDn := Lib.hid (HDy.out)
  obtain ⟨L, hL⟩ : ∃ L, L = dL r a b := ⟨_, rfl⟩
  obtain ⟨E, hE⟩ : ∃ E, E = crE r.fr a b := ⟨_, rfl⟩
  rw [← hL, ← hE] at he
  rw [← hL] at hra HDl
  subst he
  have HLe := Lib.hid hL
  have HEe := Lib.hid hE
  have HRa := Lib.hid hra
  have HB9 := Lib.hid (below_then HB8.out hb9)
  have HBn9 := Lib.hid (HBn8.out.trans (hb9.mono (by have := HBn8.out.size; omega)))
  have HN9 := Lib.hid (HN8.out.below hb9)
  clear hb9 hra hL hE HB8 HBn8 HX8 HN8 HR HDy
  obtain ⟨x0, x1, x2, x3, x4, x5, x6, x7⟩ := rcells HN9.out
  go_wp2_with fail
  clear x0 x1 x2 x3 x4 x5 x6 x7
  refine (HDn.out w9 n (HnIn.out w9 HBn9.out) HnF.out HnOk.out).mono ?_
  rintro e w10 ⟨hb10, Ab, cb, he, hrb⟩
  rw [HnDays.out, HnFr.out, ← HLe.out, ← HEe.out] at he
  rw [HnDays.out, ← HLe.out] at hrb
  subst he
  have HRa10 := Lib.hid (HRa.out.next hb10)
  have HRb10 := Lib.hid hrb
  have HB10 := Lib.hid (below_then HB9.out hb10)
  have hlen : L.length ≤ 1000000 := by have := HDl.out; omega
  have HF1 := Lib.hid (few_ints Aa ca L w10 HRa10.out hlen)
  have tE : (E == E) = true := by simp
  clear hb10 hrb HDn HB9 HBn9 HN9 HRa
  go_wp2_with fail
  refine HF1.out.mono ?_
  rintro e w11 ⟨v1, rfl, ho1, hb11⟩
  obtain ⟨A1, c1, rfl, _, _⟩ := own_form ho1
  have HR1 := Lib.hid (Row.of_own ho1)
  have HRb11 := Lib.hid (HRb10.out.next hb11)
  have HB11 := Lib.hid (below_then HB10.out hb11)
  have HF2 := Lib.hid (few_ints Ab cb L w11 HRb11.out hlen)
  clear ho1 hb11 HF1 HRa10 HRb10 HB10
  go_wp2_with fail
  refine HF2.out.mono ?_
  rintro e w12 ⟨v2, rfl, ho2, hb12⟩
  obtain ⟨A2, c2, rfl, _, _⟩ := own_form ho2
  have HR12 := Lib.hid (HR1.out.next hb12)
  have HS12 := Lib.hid (Row.of_own ho2)
  have HB12 := Lib.hid (below_then HB11.out hb12)
  have HEq := Lib.hid (equal_ints A1 A2 c1 c2 L w12 HR12.out HS12.out (by unfold maxLen; omega))
  clear ho2 hb12 HF2 HR1 HRb11 HB11
  go_wp2_with fail
  refine HEq.out.mono ?_
  rintro e w13 ⟨rfl, hb13⟩
  have HB13 := Lib.hid (below_then HB12.out hb13)
  clear hb13 HEq
  go_wp2_with fail
  go_ret
  exact ⟨rfl, HB13.out⟩

set_option maxRecDepth 100000 in
theorem walk {H : Type} {enc : TypeId × Value → H} {base : Nat} {W : World} (v0 : Value) (d0 : DataW H) (p0 : List MemPlace) (hv0 : Value.okWide Tryd.prog W .any base 24 v0) (h0 : DataW.Trod enc Tryd.prog W 0 (fun _ => true) true 24 v0 d0 p0)
    (a1 : Int) (w1 : (Lit.int .i64 a1).wf = true) (a2 : Int) (w2 : (Lit.int .i64 a2).wf = true)
    (hL : laidMet Tryd.prog Rows.recurSameRow.laid W) (hsh : W.ShapedOpen Tryd.prog) :
    Calls Tryd.prog 3 #[v0, .int .i64 a1, .int .i64 a2] W fun e w' => e = .returned (.bool true) ∧ Below W.heap.size W w' := by
  obtain ⟨r, rfl, hr, hf⟩ := recur_open hv0 h0
  exact core r a1 a2 W hr hf (pow_of hL.tail.tail) (uns_of hL.tail.tail.tail)
end Go.Proofs.YtonhmgdokghoeaaDoor.recurSame
