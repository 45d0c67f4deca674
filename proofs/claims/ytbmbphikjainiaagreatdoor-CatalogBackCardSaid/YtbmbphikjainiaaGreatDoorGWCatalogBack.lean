/- WCatalogBack -/
import Derived.Test.YtbmbphikjainiaaGreatDoorGCat1
import Derived.Test.YtbmbphikjainiaaGreatDoorGFlow
import Derived.Test.YtbmbphikjainiaaGreatDoorGCatOk
/- The walk of CatalogBack: it returns true at every input; it writes nothing that was there. -/
namespace Go.Proofs.YtbmbphikjainiaaGreatDoor.catalogBack
open Go Go.RowKit
set_option linter.unusedVariables false

set_option maxRecDepth 100000 in
set_option maxHeartbeats 4000000 in
theorem core (k day0 : Int) (w : World) (hk1 : -9223372036854775808 ≤ k) (hk2 : k ≤ 9223372036854775807) (hv : Env w) (hp : Pow w) :
    Calls Tryz.prog 9 #[.int .i64 k, .int .i64 day0] w fun e w' => e = .returned (.bool true) ∧ Below w.heap.size w w' := by
  have HK := Lib.hid (fun W (h : Env W) => known_any W h)
  have HN := Lib.hid (fun W (h : Env W) => name_any k W hk1 hk2 h.h)
  have HTx := Lib.hid (fun W (h : Env W) (hp : Pow W) => Text_any (rowK k) (rowK_in k) W h hp)
  have HPr := Lib.hid (fun W (h : Env W) => parse_printn (rowK k).t (row_ok _ (rowK_in k)).1 (row_ok _ (rowK_in k)).2.1 W h.s h.l h.h)
  have HCut := Lib.hid (fun W => cut_any day0 (-1000000) 2000000 W (by omega) (by omega) (by omega) (by omega))
  have b1 := Int.emod_nonneg day0 (show (2000000 : Int) ≠ 0 by omega)
  have b2 := Int.emod_lt_of_pos day0 (show (0 : Int) < 2000000 by omega)
  obtain ⟨day, hday⟩ : ∃ day, day = -1000000 + day0 % 2000000 := ⟨_, rfl⟩
  rw [← hday] at HCut
  have hd1 : -1000000 ≤ day := by omega
  have hd2 : day < 1000000 := by omega
  have HDt := Lib.hid (fun W (h : Env W) => Date_any (rowK k) (rowK_in k) day W h)
  have HDy := Lib.hid (fun y m d W (h : Env W) => Day_any (rowK k) (rowK_in k) y m d W h)
  have HOk := Lib.hid (row_ok (rowK k) (rowK_in k)).1
  have HNm := Lib.hid (row_ok (rowK k) (rowK_in k)).2.2
  have HV := Lib.hid hv
  have HPw := Lib.hid hp
  clear b1 b2 hday hk1 hk2 hv hp
  unfold PrsN at HPr
  unfold DateQ at HDt
  unfold DayQ at HDy
  generalize rowK k = r at *
  obtain ⟨nm, hnm⟩ : ∃ nm, nm = str r.nm := ⟨_, rfl⟩
  obtain ⟨S, hS⟩ : ∃ S, S = str (printR r.t) := ⟨_, rfl⟩
  rw [← hnm] at HN HTx HDt HDy HNm
  rw [← hS] at HTx HPr
  have HSe := Lib.hid hS
  clear hnm hS
  go_enter Tryz.func9, Tryz.ntmps9
  go_wp2_with fail
  refine (HK.out _ HV.out).mono ?_
  rintro e w1 ⟨rfl, hb1⟩
  have HB1 := Lib.hid hb1
  clear hb1 HK
  go_wp2_with fail
  refine (HN.out _ (HV.out.next HB1.out)).mono ?_
  rintro e w2 ⟨rfl, hb2⟩
  have HB2 := Lib.hid (below_then HB1.out hb2)
  clear hb2 HB1
  go_wp2_with fail
  refine (HTx.out _ (HV.out.next HB2.out) (HPw.out.next HB2.out)).mono ?_
  rintro e w3 ⟨rfl, hb3⟩
  have HB3 := Lib.hid (below_then HB2.out hb3)
  clear hb3 HTx HB2
  go_wp2_with fail
  refine (HPr.out _ (HV.out.next HB3.out)).mono ?_
  rintro e w4 ⟨u, rfl, hra, hnw, hft, hb4⟩
  have HB4 := Lib.hid (below_then HB3.out hb4)
  obtain ⟨oku, hpr⟩ := read_ok HOk.out hra
  have HUN : Hid (u.nm = nm) := by
    unfold Hid
    rw [← HNm.out, hra.nm]; exact str_own' r.t.nm
  have HB5 := Lib.hid (HB4.out.alloc HB4.out.size (Obj.cells u.cells 27))
  have HX5 := Lib.hid (Box.new w4 27 u.cells)
  have HP := Lib.hid (rprint_yes u (w4.alloc (Obj.cells u.cells 27)) (hnw.in_.next (below_alloc1 _ _)) hft oku (HV.out.s.next HB5.out) (HV.out.l.next HB5.out) (HPw.out.next HB5.out))
  unfold PriQ at HP
  rw [hpr, ← HSe.out] at HP
  clear hb4 hra hnw hft oku hpr HB4 HPr HB3
  go_wp2_with fail
  generalize w4.alloc (Obj.cells u.cells 27) = w5 at *
  generalize w4.heap.size = gu at *
  refine HP.out.mono ?_
  rintro e w6 ⟨rfl, hb6⟩
  have HB6 := Lib.hid (below_then HB5.out hb6)
  have HX6 := Lib.hid (HX5.out.below hb6)
  clear hb6 HB5 HP HX5
  go_upto_region 10 with fail
  have x0 : ∀ W, Below w6.heap.size w6 W → W.cell? ⟨gu, 0, none⟩ = some (.string nm) := fun W hb => by have h : W.cell? ⟨gu, 0, none⟩ = some (.string u.nm) := (HX6.out.below hb).cell 0; rw [HUN.out] at h; exact h
  have t1 : (S.toList != S.toList) = false := by simp
  have t2 : (nm.toList != nm.toList) = false := by simp
  refine flow_begin (tellOf [(7, det (.string nm))]) (by kernel_rfl) (by kernel_rfl) ?_
  repeat (first | (refine flow_val (v := ?_) (by rfl) (by rfl) (fun w hb => ?_) ?_; rotate_left; (· ((go_simp) <;> ((repeat' apply And.intro) <;> with_reducible rfl))); try simp only [Act.put, List.setIfInBounds_toArray, List.set_cons_zero, List.set_cons_succ, Nat.reduceAdd]) | (refine flow_skip (by rfl) (by rfl) ?_; try simp only [Act.put, List.setIfInBounds_toArray, List.set_cons_zero, List.set_cons_succ, Nat.reduceAdd]))
  refine flow_call (f := ?_) (args := ?_) [] (by kernel_rfl) (by rfl) (by rfl) (fun w hb => ?_) (fun w hb hu => ?_) ?_; rotate_left 2; (· ((go_simp) <;> ((repeat' apply And.intro) <;> with_reducible rfl)))
  · exact HN.out w (HV.out.next (below_then HB6.out hb))
  try simp only [Act.put, List.setIfInBounds_toArray, List.set_cons_zero, List.set_cons_succ, Nat.reduceAdd]
  repeat (first | (refine flow_val (v := ?_) (by rfl) (by rfl) (fun w hb => ?_) ?_; rotate_left; (· ((go_simp) <;> ((repeat' apply And.intro) <;> with_reducible rfl))); try simp only [Act.put, List.setIfInBounds_toArray, List.set_cons_zero, List.set_cons_succ, Nat.reduceAdd]) | (refine flow_skip (by rfl) (by rfl) ?_; try simp only [Act.put, List.setIfInBounds_toArray, List.set_cons_zero, List.set_cons_succ, Nat.reduceAdd]))
  refine flow_nil fun w7 hb7 _ => ?_
  have HB7 := Lib.hid (below_then HB6.out hb7)
  clear hb7 HB6 HX6 x0 HUN t1 t2
  go_wp2_with (go_at_call 25; refine (HCut.out _).mono ?_; rintro e w' ⟨rfl, rfl⟩)
  refine (HN.out _ (HV.out.next HB7.out)).mono ?_
  rintro e w8 ⟨rfl, hb8⟩
  have HB8 := Lib.hid (below_then HB7.out hb8)
  clear hb8 HB7
  go_wp2_with fail
  refine (HDt.out _ (HV.out.next HB8.out)).mono ?_
  rintro e w9 ⟨c, hof, ok, hb9, hc⟩
  have HB9 := Lib.hid (below_then HB8.out hb9)
  clear hb9 HB8 HDt
  rcases hc with ⟨y, m, d, h1, h2, h3, rfl⟩ | ⟨h1, rfl⟩
  case inr =>
    clear h1 hof ok
    go_wp2_with fail
    have HB10 := Lib.hid (HB9.out.alloc HB9.out.size (Obj.cells (dateC 0 0 0) 41))
    go_ret
    exact ⟨rfl, HB10.out⟩
  have HDz : Hid (∀ w, Env w → Calls Tryz.prog 33 #[.string nm, .agg (dateC y ((m : Int) + 1) (d + 1))] w fun e w' => e = .returned (.tuple #[.int .i64 day, .int .i64 0]) ∧ Below w.heap.size w w') := fun w hE => by
    refine (HDy.out y ((m : Int) + 1) (d + 1) w hE).mono ?_
    rintro e w' ⟨c', hof', ok', hb, hc⟩
    have same : ∀ y' m' d' n, IsOn c y' m' d' n ↔ IsOn c' y' m' d' n := fun y' m' d' n => CalOf.on hof hof' y' m' d' n
    rcases hc with ⟨m0, n, hm0, _, _, ho, rfl⟩ | ⟨hno, _⟩
    · have e1 : d + 1 - 1 = d := by omega
      obtain rfl : m = m0 := by omega
      rw [e1] at ho
      have ho' := (same _ _ _ _).2 ho
      have : n = day := by rw [ho'.on, h3.on]
      subst this
      exact ⟨by rw [show dayR n = .tuple #[.int .i64 n, .int .i64 0] from if_pos ⟨by omega, by omega⟩], hb⟩
    · exact absurd (hno m day rfl h1 h2 (by rw [show d + 1 - 1 = d from by omega]; exact (same _ _ _ _).1 h3)) id
  clear hof ok h3 HDy
  go_upto_region 16 with fail
  have HB10 := Lib.hid (HB9.out.alloc HB9.out.size (Obj.cells (dateC y ((m : Int) + 1) (d + 1)) 41))
  have HD10 := Lib.hid (Box.new w9 41 (dateC y ((m : Int) + 1) (d + 1)))
  clear HB9
  generalize w9.alloc (Obj.cells (dateC y ((m : Int) + 1) (d + 1)) 41) = w10 at *
  generalize w9.heap.size = gd at *
  have y0 : ∀ W, Below w10.heap.size w10 W → W.cell? ⟨gd, 0, none⟩ = some (.int .i64 y) := fun W hb => (HD10.out.below hb).cell 0
  have y1 : ∀ W, Below w10.heap.size w10 W → W.cell? ⟨gd, 1, none⟩ = some (.int .i64 ((m : Int) + 1)) := fun W hb => (HD10.out.below hb).cell 1
  have y2 : ∀ W, Below w10.heap.size w10 W → W.cell? ⟨gd, 2, none⟩ = some (.int .i64 (d + 1)) := fun W hb => (HD10.out.below hb).cell 2
  refine flow_begin (tellOf [(1, det (.string nm)), (3, det (.tuple #[.int .i64 day, .int .i64 0]))]) (by kernel_rfl) (by kernel_rfl) ?_
  repeat (first | (refine flow_val (v := ?_) (by rfl) (by rfl) (fun w hb => ?_) ?_; rotate_left; (· ((go_simp) <;> ((repeat' apply And.intro) <;> with_reducible rfl))); try simp only [Act.put, List.setIfInBounds_toArray, List.set_cons_zero, List.set_cons_succ, Nat.reduceAdd]) | (refine flow_skip (by rfl) (by rfl) ?_; try simp only [Act.put, List.setIfInBounds_toArray, List.set_cons_zero, List.set_cons_succ, Nat.reduceAdd]))
  refine flow_call (f := ?_) (args := ?_) [] (by kernel_rfl) (by rfl) (by rfl) (fun w hb => ?_) (fun w hb hu => ?_) ?_; rotate_left 2; (· ((go_simp) <;> ((repeat' apply And.intro) <;> with_reducible rfl)))
  · exact HN.out w (HV.out.next (below_then HB10.out hb))
  try simp only [Act.put, List.setIfInBounds_toArray, List.set_cons_zero, List.set_cons_succ, Nat.reduceAdd]
  repeat (first | (refine flow_val (v := ?_) (by rfl) (by rfl) (fun w hb => ?_) ?_; rotate_left; (· ((go_simp) <;> ((repeat' apply And.intro) <;> with_reducible rfl))); try simp only [Act.put, List.setIfInBounds_toArray, List.set_cons_zero, List.set_cons_succ, Nat.reduceAdd]) | (refine flow_skip (by rfl) (by rfl) ?_; try simp only [Act.put, List.setIfInBounds_toArray, List.set_cons_zero, List.set_cons_succ, Nat.reduceAdd]))
  refine flow_call (f := ?_) (args := ?_) [] (by kernel_rfl) (by rfl) (by rfl) (fun w hb => ?_) (fun w hb hu => ?_) ?_; rotate_left 2; (· ((go_simp) <;> ((repeat' apply And.intro) <;> with_reducible rfl)))
  · exact HDz.out w (HV.out.next (below_then HB10.out hb))
  try simp only [Act.put, List.setIfInBounds_toArray, List.set_cons_zero, List.set_cons_succ, Nat.reduceAdd]
  repeat (first | (refine flow_val (v := ?_) (by rfl) (by rfl) (fun w hb => ?_) ?_; rotate_left; (· ((go_simp) <;> ((repeat' apply And.intro) <;> with_reducible rfl))); try simp only [Act.put, List.setIfInBounds_toArray, List.set_cons_zero, List.set_cons_succ, Nat.reduceAdd]) | (refine flow_skip (by rfl) (by rfl) ?_; try simp only [Act.put, List.setIfInBounds_toArray, List.set_cons_zero, List.set_cons_succ, Nat.reduceAdd]))
  refine flow_nil fun w11 hb11 _ => ?_
  have HB11 := Lib.hid (below_then HB10.out hb11)
  clear hb11 HB10 HD10 y0 y1 y2
  go_wp2_with fail
  go_ret
  exact ⟨rfl, HB11.out⟩

theorem walk (a0 : Int) (w0 : (Lit.int .i64 a0).wf = true) (a1 : Int) (w1 : (Lit.int .i64 a1).wf = true) (W : World) (hL : laidMet Tryz.prog Rows.catalogBackRow.laid W) (hsh : W.ShapedOpen Tryz.prog) :
    Calls Tryz.prog 9 #[.int .i64 a0, .int .i64 a1] W fun e w' => e = .returned (.bool true) ∧ Below W.heap.size W w' :=
  core a0 a1 W (bounds_i64 w0).1 (bounds_i64 w0).2 ⟨sgs_of hL.tail.tail.tail.tail.tail.tail.tail, lvs_of hL.tail.tail.tail.tail.tail.tail, Shp.of hsh⟩ (pow_of hL.tail.tail)
end Go.Proofs.YtbmbphikjainiaaGreatDoor.catalogBack
