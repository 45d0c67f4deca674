/- Contract of recur.fits. -/
import Derived.Test.YtfindembancjdaaPlainRec
import Derived.Test.YtfindembancjdaaFlow2
namespace Go.Proofs.Ytfindembancjdaa
open Go.RowKit
set_option linter.unusedVariables false

set_option maxHeartbeats 4000000 in
set_option maxRecDepth 100000 in
theorem fits_any (r : Rc) (f m : Mm) (w : World) (hr : RcIn w r) (ok : RcOk r) (okf : MmOk f) (okm : MmOk m) : Calls Try.prog 77 #[r.val, f.val, m.val] w fun e w' => e = .returned (.bool (fitB r f m)) ∧ Below w.heap.size w w' := by
  have HB := Lib.hid (below_alloc3 w (Obj.cells r.cells 24) (Obj.cells f.cells 134) (Obj.cells m.cells 134))
  have HX1 := Lib.hid (((Box.new w 24 r.cells).alloc (Obj.cells f.cells 134)).alloc (Obj.cells m.cells 134))
  have HX2 := Lib.hid ((Box.new (w.alloc (Obj.cells r.cells 24)) 134 f.cells).alloc (Obj.cells m.cells 134))
  have HX3 := Lib.hid (Box.new ((w.alloc (Obj.cells r.cells 24)).alloc (Obj.cells f.cells 134)) 134 m.cells)
  have HR := Lib.hid (hr.next HB.out)
  clear hr
  obtain ⟨B, hB⟩ : ∃ B, B = fitB r f m := ⟨_, rfl⟩
  rw [← hB]
  have HD := Lib.hid hB
  clear hB
  unfold fitB at HD
  go_enter Try.func77, Try.ntmps77
  go_upto_region 2 with fail
  simp only [World.size_alloc] at HX2 HX3
  generalize ((w.alloc (Obj.cells r.cells 24)).alloc (Obj.cells f.cells 134)).alloc (Obj.cells m.cells 134) = W0 at *
  have X1 := fun W (hb : Below W0.heap.size W0 W) => HX1.out.below hb
  have X2 := fun W (hb : Below W0.heap.size W0 W) => HX2.out.below hb
  have X3 := fun W (hb : Below W0.heap.size W0 W) => HX3.out.below hb
  have HRR : Hid (∀ W, Below W0.heap.size W0 W → RcIn W r) := fun W hb => HR.out.next hb
  have x10 := fun W hb => (X1 W hb).cell 0
  have x11 := fun W hb => (X1 W hb).cell 1
  have x12 := fun W hb => (X1 W hb).cell 2
  have x13 := fun W hb => (X1 W hb).cell 3
  have x14 := fun W hb => (X1 W hb).cell 4
  have x15 := fun W hb => (X1 W hb).cell 5
  have x16 := fun W hb => (X1 W hb).cell 6
  have x17 := fun W hb => (X1 W hb).cell 7
  have x20 := fun W hb => (X2 W hb).cell 0
  have x21 := fun W hb => (X2 W hb).cell 1
  have x22 := fun W hb => (X2 W hb).cell 2
  have x23 := fun W hb => (X2 W hb).cell 3
  have x24 := fun W hb => (X2 W hb).cell 4
  have x25 := fun W hb => (X2 W hb).cell 5
  have x30 := fun W hb => (X3 W hb).cell 0
  have x31 := fun W hb => (X3 W hb).cell 1
  have x32 := fun W hb => (X3 W hb).cell 2
  have x33 := fun W hb => (X3 W hb).cell 3
  have x34 := fun W hb => (X3 W hb).cell 4
  have x35 := fun W hb => (X3 W hb).cell 5
  simp at x10 x11 x12 x13 x14 x15 x16 x17 x20 x21 x22 x23 x24 x25 x30 x31 x32 x33 x34 x35
  clear X1 X2 X3 HX1 HX2 HX3 HR
  have HU1 : Hid (∀ W, Calls Try.prog 100 #[m.val, .int .i64 r.un] W fun e w' => e = .returned (.int .i64 (m.un r.un)) ∧ Below W.heap.size W w') := fun W => unit_any m r.un okm W
  have HU2 : Hid (∀ W, Calls Try.prog 100 #[f.val, .int .i64 r.un] W fun e w' => e = .returned (.int .i64 (f.un r.un)) ∧ Below W.heap.size W w') := fun W => unit_any f r.un okf W
  obtain ⟨u1, u2⟩ := okm.un_in r.un
  obtain ⟨u3, u4⟩ := okf.un_in r.un
  have e1 := ok.e1
  have e2 := ok.e2
  generalize m.un r.un = U1 at *
  generalize f.un r.un = U2 at *
  have k1 : IntKind.i64.wrap (U1 - U2) = U1 - U2 := intFits _ (by omega) (by omega)
  have k2 : ¬ r.ev = 0 := by omega
  clear u1 u2 u3 u4
  refine with_lex (by kernel_rfl) fun HLX => ?_
  have HC3 : Hid (∀ W g, Below W0.heap.size W0 W → Box W g 3 #[.int .i64 ((m.k : Int) + 1)] → Calls Try.prog 101 #[.slice r.A3 r.mo.length r.c3, .slice (some ⟨g, 0, none⟩) 1 1] W fun e w' => e = .returned (.bool (lisB r.mo [(m.k : Int) + 1])) ∧ Below W.heap.size W w') := fun W g hb hx =>
    listed_any r.A3 (some ⟨g, 0, none⟩) r.c3 1 r.mo [(m.k : Int) + 1] W (HRR.out W hb).r3 (Row.of_box hx) (by have := ok.mo.1; unfold maxLen; omega) (by unfold maxLen; simp)
  have HC1 : Hid (∀ W g, Below W0.heap.size W0 W → Box W g 3 #[.int .i64 ((m.day - 1) % 7)] → Calls Try.prog 101 #[.slice r.A1 r.wd.length r.c1, .slice (some ⟨g, 0, none⟩) 1 1] W fun e w' => e = .returned (.bool (lisB r.wd [(m.day - 1) % 7])) ∧ Below W.heap.size W w') := fun W g hb hx =>
    listed_any r.A1 (some ⟨g, 0, none⟩) r.c1 1 r.wd [(m.day - 1) % 7] W (HRR.out W hb).r1 (Row.of_box hx) (by have := ok.wd.1; unfold maxLen; omega) (by unfold maxLen; simp)
  have HC2 : Hid (∀ W g, Below W0.heap.size W0 W → Box W g 3 #[.int .i64 m.d, .int .i64 (m.d - len (feb m.y) m.k - 1)] → Calls Try.prog 101 #[.slice r.A2 r.md.length r.c2, .slice (some ⟨g, 0, none⟩) 2 2] W fun e w' => e = .returned (.bool (lisB r.md [m.d, m.d - len (feb m.y) m.k - 1])) ∧ Below W.heap.size W w') := fun W g hb hx =>
    listed_any r.A2 (some ⟨g, 0, none⟩) r.c2 2 r.md [m.d, m.d - len (feb m.y) m.k - 1] W (HRR.out W hb).r2 (Row.of_box hx) (by have := ok.md.1; unfold maxLen; omega) (by unfold maxLen; simp)
  by_cases c1 : (U1 - U2).tmod r.ev = 0
  case neg =>
    have t1 : ((U1 - U2).tmod r.ev != 0) = true := by rw [bne_iff_ne]; exact c1
    refine flow_begin (tellOf [(3, det (.int .i64 U1)), (7, det (.int .i64 U2))]) (by kernel_rfl) HLX.out ?_
    repeat (first | (refine flow_val (v := ?_) (by rfl) (by rfl) (fun w hb => ?_) ?_; rotate_left; (· ((go_simp) <;> ((repeat' apply And.intro) <;> with_reducible rfl))); try simp only [Act.put, List.setIfInBounds_toArray, List.set_cons_zero, List.set_cons_succ, Nat.reduceAdd]) | (refine flow_skip (by rfl) (by rfl) ?_; try simp only [Act.put, List.setIfInBounds_toArray, List.set_cons_zero, List.set_cons_succ, Nat.reduceAdd]))
    refine flow_call (f := ?_) (args := ?_) [] (by kernel_rfl) (by rfl) (by rfl) (fun w hb => ?_) (fun w hb hu => ?_) ?_; rotate_left 2; (· ((go_simp) <;> ((repeat' apply And.intro) <;> with_reducible rfl)))
    · exact HU1.out w
    try simp only [Act.put, List.setIfInBounds_toArray, List.set_cons_zero, List.set_cons_succ, Nat.reduceAdd]
    repeat (first | (refine flow_val (v := ?_) (by rfl) (by rfl) (fun w hb => ?_) ?_; rotate_left; (· ((go_simp) <;> ((repeat' apply And.intro) <;> with_reducible rfl))); try simp only [Act.put, List.setIfInBounds_toArray, List.set_cons_zero, List.set_cons_succ, Nat.reduceAdd]) | (refine flow_skip (by rfl) (by rfl) ?_; try simp only [Act.put, List.setIfInBounds_toArray, List.set_cons_zero, List.set_cons_succ, Nat.reduceAdd]))
    refine flow_call (f := ?_) (args := ?_) [] (by kernel_rfl) (by rfl) (by rfl) (fun w hb => ?_) (fun w hb hu => ?_) ?_; rotate_left 2; (· ((go_simp) <;> ((repeat' apply And.intro) <;> with_reducible rfl)))
    · exact HU2.out w
    try simp only [Act.put, List.setIfInBounds_toArray, List.set_cons_zero, List.set_cons_succ, Nat.reduceAdd]
    repeat (first | (refine flow_val (v := ?_) (by rfl) (by rfl) (fun w hb => ?_) ?_; rotate_left; (· ((go_simp) <;> ((repeat' apply And.intro) <;> with_reducible rfl))); try simp only [Act.put, List.setIfInBounds_toArray, List.set_cons_zero, List.set_cons_succ, Nat.reduceAdd]) | (refine flow_skip (by rfl) (by rfl) ?_; try simp only [Act.put, List.setIfInBounds_toArray, List.set_cons_zero, List.set_cons_succ, Nat.reduceAdd]))
    refine flow_nil fun w1 hb1 _ => ?_
    have HB1 := Lib.hid (below_then HB.out hb1)
    go_wp2_with fail
    go_ret
    exact ⟨by rw [HD.out]; simp [c1], HB1.out⟩
  have t1 : ((U1 - U2).tmod r.ev != 0) = false := by rw [c1]; rfl
  generalize lisB r.mo [(m.k : Int) + 1] = B3 at *
  generalize lisB r.wd [(m.day - 1) % 7] = B1 at *
  generalize lisB r.md [m.d, m.d - len (feb m.y) m.k - 1] = B2 at *
  cases B3 with
  | false =>
    refine flow_begin (tellOf [(3, det (.int .i64 U1)), (7, det (.int .i64 U2)), (20, det (.bool false))]) (by kernel_rfl) HLX.out ?_
    repeat (first | (refine flow_val (v := ?_) (by rfl) (by rfl) (fun w hb => ?_) ?_; rotate_left; (· ((go_simp) <;> ((repeat' apply And.intro) <;> with_reducible rfl))); try simp only [Act.put, List.setIfInBounds_toArray, List.set_cons_zero, List.set_cons_succ, Nat.reduceAdd]) | (refine flow_skip (by rfl) (by rfl) ?_; try simp only [Act.put, List.setIfInBounds_toArray, List.set_cons_zero, List.set_cons_succ, Nat.reduceAdd]))
    refine flow_call (f := ?_) (args := ?_) [] (by kernel_rfl) (by rfl) (by rfl) (fun w hb => ?_) (fun w hb hu => ?_) ?_; rotate_left 2; (· ((go_simp) <;> ((repeat' apply And.intro) <;> with_reducible rfl)))
    · exact HU1.out w
    try simp only [Act.put, List.setIfInBounds_toArray, List.set_cons_zero, List.set_cons_succ, Nat.reduceAdd]
    repeat (first | (refine flow_val (v := ?_) (by rfl) (by rfl) (fun w hb => ?_) ?_; rotate_left; (· ((go_simp) <;> ((repeat' apply And.intro) <;> with_reducible rfl))); try simp only [Act.put, List.setIfInBounds_toArray, List.set_cons_zero, List.set_cons_succ, Nat.reduceAdd]) | (refine flow_skip (by rfl) (by rfl) ?_; try simp only [Act.put, List.setIfInBounds_toArray, List.set_cons_zero, List.set_cons_succ, Nat.reduceAdd]))
    refine flow_call (f := ?_) (args := ?_) [] (by kernel_rfl) (by rfl) (by rfl) (fun w hb => ?_) (fun w hb hu => ?_) ?_; rotate_left 2; (· ((go_simp) <;> ((repeat' apply And.intro) <;> with_reducible rfl)))
    · exact HU2.out w
    try simp only [Act.put, List.setIfInBounds_toArray, List.set_cons_zero, List.set_cons_succ, Nat.reduceAdd]
    repeat (first | (refine flow_val (v := ?_) (by rfl) (by rfl) (fun w hb => ?_) ?_; rotate_left; (· ((go_simp) <;> ((repeat' apply And.intro) <;> with_reducible rfl))); try simp only [Act.put, List.setIfInBounds_toArray, List.set_cons_zero, List.set_cons_succ, Nat.reduceAdd]) | (refine flow_skip (by rfl) (by rfl) ?_; try simp only [Act.put, List.setIfInBounds_toArray, List.set_cons_zero, List.set_cons_succ, Nat.reduceAdd]))
    refine flow_lits (n := ?_) (c := ?_) (t := ?_) (cs := ?_) (by rfl) (by rfl) (fun w hb => ?_) (fun g19 => ?_); rotate_left 4; (· ((go_simp) <;> ((repeat' apply And.intro) <;> with_reducible rfl))); try simp only [Act.put, List.setIfInBounds_toArray, List.set_cons_zero, List.set_cons_succ, Nat.reduceAdd]
    repeat (first | (refine flow_val (v := ?_) (by rfl) (by rfl) (fun w hb => ?_) ?_; rotate_left; (· ((go_simp) <;> ((repeat' apply And.intro) <;> with_reducible rfl))); try simp only [Act.put, List.setIfInBounds_toArray, List.set_cons_zero, List.set_cons_succ, Nat.reduceAdd]) | (refine flow_skip (by rfl) (by rfl) ?_; try simp only [Act.put, List.setIfInBounds_toArray, List.set_cons_zero, List.set_cons_succ, Nat.reduceAdd]))
    refine flow_call (f := ?_) (args := ?_) [19] (by kernel_rfl) (by rfl) (by rfl) (fun w hb => ?_) (fun w hb hu => ?_) ?_; rotate_left 2; (· ((go_simp) <;> ((repeat' apply And.intro) <;> with_reducible rfl)))
    · exact HC3.out w g19 hb (usef_head hu)
    try simp only [Act.put, List.setIfInBounds_toArray, List.set_cons_zero, List.set_cons_succ, Nat.reduceAdd]
    repeat (first | (refine flow_val (v := ?_) (by rfl) (by rfl) (fun w hb => ?_) ?_; rotate_left; (· ((go_simp) <;> ((repeat' apply And.intro) <;> with_reducible rfl))); try simp only [Act.put, List.setIfInBounds_toArray, List.set_cons_zero, List.set_cons_succ, Nat.reduceAdd]) | (refine flow_skip (by rfl) (by rfl) ?_; try simp only [Act.put, List.setIfInBounds_toArray, List.set_cons_zero, List.set_cons_succ, Nat.reduceAdd]))
    refine flow_nil fun w1 hb1 _ => ?_
    have HB1 := Lib.hid (below_then HB.out hb1)
    go_wp2_with fail
    go_ret
    exact ⟨by rw [HD.out]; simp [c1], HB1.out⟩
  | true =>
  cases B1 with
  | false =>
    refine flow_begin (tellOf [(3, det (.int .i64 U1)), (7, det (.int .i64 U2)), (20, det (.bool true)), (29, det (.bool false))]) (by kernel_rfl) HLX.out ?_
    repeat (first | (refine flow_val (v := ?_) (by rfl) (by rfl) (fun w hb => ?_) ?_; rotate_left; (· ((go_simp) <;> ((repeat' apply And.intro) <;> with_reducible rfl))); try simp only [Act.put, List.setIfInBounds_toArray, List.set_cons_zero, List.set_cons_succ, Nat.reduceAdd]) | (refine flow_skip (by rfl) (by rfl) ?_; try simp only [Act.put, List.setIfInBounds_toArray, List.set_cons_zero, List.set_cons_succ, Nat.reduceAdd]))
    refine flow_call (f := ?_) (args := ?_) [] (by kernel_rfl) (by rfl) (by rfl) (fun w hb => ?_) (fun w hb hu => ?_) ?_; rotate_left 2; (· ((go_simp) <;> ((repeat' apply And.intro) <;> with_reducible rfl)))
    · exact HU1.out w
    try simp only [Act.put, List.setIfInBounds_toArray, List.set_cons_zero, List.set_cons_succ, Nat.reduceAdd]
    repeat (first | (refine flow_val (v := ?_) (by rfl) (by rfl) (fun w hb => ?_) ?_; rotate_left; (· ((go_simp) <;> ((repeat' apply And.intro) <;> with_reducible rfl))); try simp only [Act.put, List.setIfInBounds_toArray, List.set_cons_zero, List.set_cons_succ, Nat.reduceAdd]) | (refine flow_skip (by rfl) (by rfl) ?_; try simp only [Act.put, List.setIfInBounds_toArray, List.set_cons_zero, List.set_cons_succ, Nat.reduceAdd]))
    refine flow_call (f := ?_) (args := ?_) [] (by kernel_rfl) (by rfl) (by rfl) (fun w hb => ?_) (fun w hb hu => ?_) ?_; rotate_left 2; (· ((go_simp) <;> ((repeat' apply And.intro) <;> with_reducible rfl)))
    · exact HU2.out w
    try simp only [Act.put, List.setIfInBounds_toArray, List.set_cons_zero, List.set_cons_succ, Nat.reduceAdd]
    repeat (first | (refine flow_val (v := ?_) (by rfl) (by rfl) (fun w hb => ?_) ?_; rotate_left; (· ((go_simp) <;> ((repeat' apply And.intro) <;> with_reducible rfl))); try simp only [Act.put, List.setIfInBounds_toArray, List.set_cons_zero, List.set_cons_succ, Nat.reduceAdd]) | (refine flow_skip (by rfl) (by rfl) ?_; try simp only [Act.put, List.setIfInBounds_toArray, List.set_cons_zero, List.set_cons_succ, Nat.reduceAdd]))
    refine flow_lits (n := ?_) (c := ?_) (t := ?_) (cs := ?_) (by rfl) (by rfl) (fun w hb => ?_) (fun g19 => ?_); rotate_left 4; (· ((go_simp) <;> ((repeat' apply And.intro) <;> with_reducible rfl))); try simp only [Act.put, List.setIfInBounds_toArray, List.set_cons_zero, List.set_cons_succ, Nat.reduceAdd]
    repeat (first | (refine flow_val (v := ?_) (by rfl) (by rfl) (fun w hb => ?_) ?_; rotate_left; (· ((go_simp) <;> ((repeat' apply And.intro) <;> with_reducible rfl))); try simp only [Act.put, List.setIfInBounds_toArray, List.set_cons_zero, List.set_cons_succ, Nat.reduceAdd]) | (refine flow_skip (by rfl) (by rfl) ?_; try simp only [Act.put, List.setIfInBounds_toArray, List.set_cons_zero, List.set_cons_succ, Nat.reduceAdd]))
    refine flow_call (f := ?_) (args := ?_) [19] (by kernel_rfl) (by rfl) (by rfl) (fun w hb => ?_) (fun w hb hu => ?_) ?_; rotate_left 2; (· ((go_simp) <;> ((repeat' apply And.intro) <;> with_reducible rfl)))
    · exact HC3.out w g19 hb (usef_head hu)
    try simp only [Act.put, List.setIfInBounds_toArray, List.set_cons_zero, List.set_cons_succ, Nat.reduceAdd]
    repeat (first | (refine flow_val (v := ?_) (by rfl) (by rfl) (fun w hb => ?_) ?_; rotate_left; (· ((go_simp) <;> ((repeat' apply And.intro) <;> with_reducible rfl))); try simp only [Act.put, List.setIfInBounds_toArray, List.set_cons_zero, List.set_cons_succ, Nat.reduceAdd]) | (refine flow_skip (by rfl) (by rfl) ?_; try simp only [Act.put, List.setIfInBounds_toArray, List.set_cons_zero, List.set_cons_succ, Nat.reduceAdd]))
    refine flow_lits (n := ?_) (c := ?_) (t := ?_) (cs := ?_) (by rfl) (by rfl) (fun w hb => ?_) (fun g28 => ?_); rotate_left 4; (· ((go_simp) <;> ((repeat' apply And.intro) <;> with_reducible rfl))); try simp only [Act.put, List.setIfInBounds_toArray, List.set_cons_zero, List.set_cons_succ, Nat.reduceAdd]
    repeat (first | (refine flow_val (v := ?_) (by rfl) (by rfl) (fun w hb => ?_) ?_; rotate_left; (· ((go_simp) <;> ((repeat' apply And.intro) <;> with_reducible rfl))); try simp only [Act.put, List.setIfInBounds_toArray, List.set_cons_zero, List.set_cons_succ, Nat.reduceAdd]) | (refine flow_skip (by rfl) (by rfl) ?_; try simp only [Act.put, List.setIfInBounds_toArray, List.set_cons_zero, List.set_cons_succ, Nat.reduceAdd]))
    refine flow_call (f := ?_) (args := ?_) [28] (by kernel_rfl) (by rfl) (by rfl) (fun w hb => ?_) (fun w hb hu => ?_) ?_; rotate_left 2; (· ((go_simp) <;> ((repeat' apply And.intro) <;> with_reducible rfl)))
    · exact HC1.out w g28 hb (usef_head hu)
    try simp only [Act.put, List.setIfInBounds_toArray, List.set_cons_zero, List.set_cons_succ, Nat.reduceAdd]
    repeat (first | (refine flow_val (v := ?_) (by rfl) (by rfl) (fun w hb => ?_) ?_; rotate_left; (· ((go_simp) <;> ((repeat' apply And.intro) <;> with_reducible rfl))); try simp only [Act.put, List.setIfInBounds_toArray, List.set_cons_zero, List.set_cons_succ, Nat.reduceAdd]) | (refine flow_skip (by rfl) (by rfl) ?_; try simp only [Act.put, List.setIfInBounds_toArray, List.set_cons_zero, List.set_cons_succ, Nat.reduceAdd]))
    refine flow_nil fun w1 hb1 _ => ?_
    have HB1 := Lib.hid (below_then HB.out hb1)
    go_wp2_with fail
    go_ret
    exact ⟨by rw [HD.out]; simp [c1], HB1.out⟩
  | true =>
  have v1 := okm.v.2.1
  have v2 := okm.v.2.2
  have v3 : len (feb m.y) m.k ≤ 31 := len_le _ (by unfold feb; split <;> omega) _
  have l1 := ok.wd.1
  have l2 := ok.md.1
  have l3 := ok.mo.1
  have HV : Hid ((m.k : Int) + 1 = (f.k : Int) + 1 ↔ m.k = f.k) := by unfold Hid; omega
  have HC0 := Lib.hid c1
  clear ok okf okm HRR e1 e2 c1
  have k3 : IntKind.i64.wrap (m.d - len (feb m.y) m.k) = m.d - len (feb m.y) m.k := intFits _ (by omega) (by omega)
  have k4 : IntKind.i64.wrap (m.d - len (feb m.y) m.k - 1) = m.d - len (feb m.y) m.k - 1 := intFits _ (by omega) (by omega)
  cases B2 with
  | false =>
    refine flow_begin (tellOf [(3, det (.int .i64 U1)), (7, det (.int .i64 U2)), (20, det (.bool true)), (29, det (.bool true)), (42, det (.bool false))]) (by kernel_rfl) HLX.out ?_
    repeat (first | (refine flow_val (v := ?_) (by rfl) (by rfl) (fun w hb => ?_) ?_; rotate_left; (· ((go_simp) <;> ((repeat' apply And.intro) <;> with_reducible rfl))); try simp only [Act.put, List.setIfInBounds_toArray, List.set_cons_zero, List.set_cons_succ, Nat.reduceAdd]) | (refine flow_skip (by rfl) (by rfl) ?_; try simp only [Act.put, List.setIfInBounds_toArray, List.set_cons_zero, List.set_cons_succ, Nat.reduceAdd]))
    refine flow_call (f := ?_) (args := ?_) [] (by kernel_rfl) (by rfl) (by rfl) (fun w hb => ?_) (fun w hb hu => ?_) ?_; rotate_left 2; (· ((go_simp) <;> ((repeat' apply And.intro) <;> with_reducible rfl)))
    · exact HU1.out w
    try simp only [Act.put, List.setIfInBounds_toArray, List.set_cons_zero, List.set_cons_succ, Nat.reduceAdd]
    repeat (first | (refine flow_val (v := ?_) (by rfl) (by rfl) (fun w hb => ?_) ?_; rotate_left; (· ((go_simp) <;> ((repeat' apply And.intro) <;> with_reducible rfl))); try simp only [Act.put, List.setIfInBounds_toArray, List.set_cons_zero, List.set_cons_succ, Nat.reduceAdd]) | (refine flow_skip (by rfl) (by rfl) ?_; try simp only [Act.put, List.setIfInBounds_toArray, List.set_cons_zero, List.set_cons_succ, Nat.reduceAdd]))
    refine flow_call (f := ?_) (args := ?_) [] (by kernel_rfl) (by rfl) (by rfl) (fun w hb => ?_) (fun w hb hu => ?_) ?_; rotate_left 2; (· ((go_simp) <;> ((repeat' apply And.intro) <;> with_reducible rfl)))
    · exact HU2.out w
    try simp only [Act.put, List.setIfInBounds_toArray, List.set_cons_zero, List.set_cons_succ, Nat.reduceAdd]
    repeat (first | (refine flow_val (v := ?_) (by rfl) (by rfl) (fun w hb => ?_) ?_; rotate_left; (· ((go_simp) <;> ((repeat' apply And.intro) <;> with_reducible rfl))); try simp only [Act.put, List.setIfInBounds_toArray, List.set_cons_zero, List.set_cons_succ, Nat.reduceAdd]) | (refine flow_skip (by rfl) (by rfl) ?_; try simp only [Act.put, List.setIfInBounds_toArray, List.set_cons_zero, List.set_cons_succ, Nat.reduceAdd]))
    refine flow_lits (n := ?_) (c := ?_) (t := ?_) (cs := ?_) (by rfl) (by rfl) (fun w hb => ?_) (fun g19 => ?_); rotate_left 4; (· ((go_simp) <;> ((repeat' apply And.intro) <;> with_reducible rfl))); try simp only [Act.put, List.setIfInBounds_toArray, List.set_cons_zero, List.set_cons_succ, Nat.reduceAdd]
    repeat (first | (refine flow_val (v := ?_) (by rfl) (by rfl) (fun w hb => ?_) ?_; rotate_left; (· ((go_simp) <;> ((repeat' apply And.intro) <;> with_reducible rfl))); try simp only [Act.put, List.setIfInBounds_toArray, List.set_cons_zero, List.set_cons_succ, Nat.reduceAdd]) | (refine flow_skip (by rfl) (by rfl) ?_; try simp only [Act.put, List.setIfInBounds_toArray, List.set_cons_zero, List.set_cons_succ, Nat.reduceAdd]))
    refine flow_call (f := ?_) (args := ?_) [19] (by kernel_rfl) (by rfl) (by rfl) (fun w hb => ?_) (fun w hb hu => ?_) ?_; rotate_left 2; (· ((go_simp) <;> ((repeat' apply And.intro) <;> with_reducible rfl)))
    · exact HC3.out w g19 hb (usef_head hu)
    try simp only [Act.put, List.setIfInBounds_toArray, List.set_cons_zero, List.set_cons_succ, Nat.reduceAdd]
    repeat (first | (refine flow_val (v := ?_) (by rfl) (by rfl) (fun w hb => ?_) ?_; rotate_left; (· ((go_simp) <;> ((repeat' apply And.intro) <;> with_reducible rfl))); try simp only [Act.put, List.setIfInBounds_toArray, List.set_cons_zero, List.set_cons_succ, Nat.reduceAdd]) | (refine flow_skip (by rfl) (by rfl) ?_; try simp only [Act.put, List.setIfInBounds_toArray, List.set_cons_zero, List.set_cons_succ, Nat.reduceAdd]))
    refine flow_lits (n := ?_) (c := ?_) (t := ?_) (cs := ?_) (by rfl) (by rfl) (fun w hb => ?_) (fun g28 => ?_); rotate_left 4; (· ((go_simp) <;> ((repeat' apply And.intro) <;> with_reducible rfl))); try simp only [Act.put, List.setIfInBounds_toArray, List.set_cons_zero, List.set_cons_succ, Nat.reduceAdd]
    repeat (first | (refine flow_val (v := ?_) (by rfl) (by rfl) (fun w hb => ?_) ?_; rotate_left; (· ((go_simp) <;> ((repeat' apply And.intro) <;> with_reducible rfl))); try simp only [Act.put, List.setIfInBounds_toArray, List.set_cons_zero, List.set_cons_succ, Nat.reduceAdd]) | (refine flow_skip (by rfl) (by rfl) ?_; try simp only [Act.put, List.setIfInBounds_toArray, List.set_cons_zero, List.set_cons_succ, Nat.reduceAdd]))
    refine flow_call (f := ?_) (args := ?_) [28] (by kernel_rfl) (by rfl) (by rfl) (fun w hb => ?_) (fun w hb hu => ?_) ?_; rotate_left 2; (· ((go_simp) <;> ((repeat' apply And.intro) <;> with_reducible rfl)))
    · exact HC1.out w g28 hb (usef_head hu)
    try simp only [Act.put, List.setIfInBounds_toArray, List.set_cons_zero, List.set_cons_succ, Nat.reduceAdd]
    repeat (first | (refine flow_val (v := ?_) (by rfl) (by rfl) (fun w hb => ?_) ?_; rotate_left; (· ((go_simp) <;> ((repeat' apply And.intro) <;> with_reducible rfl))); try simp only [Act.put, List.setIfInBounds_toArray, List.set_cons_zero, List.set_cons_succ, Nat.reduceAdd]) | (refine flow_skip (by rfl) (by rfl) ?_; try simp only [Act.put, List.setIfInBounds_toArray, List.set_cons_zero, List.set_cons_succ, Nat.reduceAdd]))
    refine flow_lits (n := ?_) (c := ?_) (t := ?_) (cs := ?_) (by rfl) (by rfl) (fun w hb => ?_) (fun g41 => ?_); rotate_left 4; (· ((go_simp) <;> ((repeat' apply And.intro) <;> with_reducible rfl))); try simp only [Act.put, List.setIfInBounds_toArray, List.set_cons_zero, List.set_cons_succ, Nat.reduceAdd]
    repeat (first | (refine flow_val (v := ?_) (by rfl) (by rfl) (fun w hb => ?_) ?_; rotate_left; (· ((go_simp) <;> ((repeat' apply And.intro) <;> with_reducible rfl))); try simp only [Act.put, List.setIfInBounds_toArray, List.set_cons_zero, List.set_cons_succ, Nat.reduceAdd]) | (refine flow_skip (by rfl) (by rfl) ?_; try simp only [Act.put, List.setIfInBounds_toArray, List.set_cons_zero, List.set_cons_succ, Nat.reduceAdd]))
    refine flow_call (f := ?_) (args := ?_) [41] (by kernel_rfl) (by rfl) (by rfl) (fun w hb => ?_) (fun w hb hu => ?_) ?_; rotate_left 2; (· ((go_simp) <;> ((repeat' apply And.intro) <;> with_reducible rfl)))
    · exact HC2.out w g41 hb (usef_head hu)
    try simp only [Act.put, List.setIfInBounds_toArray, List.set_cons_zero, List.set_cons_succ, Nat.reduceAdd]
    repeat (first | (refine flow_val (v := ?_) (by rfl) (by rfl) (fun w hb => ?_) ?_; rotate_left; (· ((go_simp) <;> ((repeat' apply And.intro) <;> with_reducible rfl))); try simp only [Act.put, List.setIfInBounds_toArray, List.set_cons_zero, List.set_cons_succ, Nat.reduceAdd]) | (refine flow_skip (by rfl) (by rfl) ?_; try simp only [Act.put, List.setIfInBounds_toArray, List.set_cons_zero, List.set_cons_succ, Nat.reduceAdd]))
    refine flow_nil fun w1 hb1 _ => ?_
    have HB1 := Lib.hid (below_then HB.out hb1)
    go_wp2_with fail
    go_ret
    exact ⟨by rw [HD.out]; simp, HB1.out⟩
  | true =>
    refine flow_begin (tellOf [(3, det (.int .i64 U1)), (7, det (.int .i64 U2)), (20, det (.bool true)), (29, det (.bool true)), (42, det (.bool true))]) (by kernel_rfl) HLX.out ?_
    repeat (first | (refine flow_val (v := ?_) (by rfl) (by rfl) (fun w hb => ?_) ?_; rotate_left; (· ((go_simp) <;> ((repeat' apply And.intro) <;> with_reducible rfl))); try simp only [Act.put, List.setIfInBounds_toArray, List.set_cons_zero, List.set_cons_succ, Nat.reduceAdd]) | (refine flow_skip (by rfl) (by rfl) ?_; try simp only [Act.put, List.setIfInBounds_toArray, List.set_cons_zero, List.set_cons_succ, Nat.reduceAdd]))
    refine flow_call (f := ?_) (args := ?_) [] (by kernel_rfl) (by rfl) (by rfl) (fun w hb => ?_) (fun w hb hu => ?_) ?_; rotate_left 2; (· ((go_simp) <;> ((repeat' apply And.intro) <;> with_reducible rfl)))
    · exact HU1.out w
    try simp only [Act.put, List.setIfInBounds_toArray, List.set_cons_zero, List.set_cons_succ, Nat.reduceAdd]
    repeat (first | (refine flow_val (v := ?_) (by rfl) (by rfl) (fun w hb => ?_) ?_; rotate_left; (· ((go_simp) <;> ((repeat' apply And.intro) <;> with_reducible rfl))); try simp only [Act.put, List.setIfInBounds_toArray, List.set_cons_zero, List.set_cons_succ, Nat.reduceAdd]) | (refine flow_skip (by rfl) (by rfl) ?_; try simp only [Act.put, List.setIfInBounds_toArray, List.set_cons_zero, List.set_cons_succ, Nat.reduceAdd]))
    refine flow_call (f := ?_) (args := ?_) [] (by kernel_rfl) (by rfl) (by rfl) (fun w hb => ?_) (fun w hb hu => ?_) ?_; rotate_left 2; (· ((go_simp) <;> ((repeat' apply And.intro) <;> with_reducible rfl)))
    · exact HU2.out w
    try simp only [Act.put, List.setIfInBounds_toArray, List.set_cons_zero, List.set_cons_succ, Nat.reduceAdd]
    repeat (first | (refine flow_val (v := ?_) (by rfl) (by rfl) (fun w hb => ?_) ?_; rotate_left; (· ((go_simp) <;> ((repeat' apply And.intro) <;> with_reducible rfl))); try simp only [Act.put, List.setIfInBounds_toArray, List.set_cons_zero, List.set_cons_succ, Nat.reduceAdd]) | (refine flow_skip (by rfl) (by rfl) ?_; try simp only [Act.put, List.setIfInBounds_toArray, List.set_cons_zero, List.set_cons_succ, Nat.reduceAdd]))
    refine flow_lits (n := ?_) (c := ?_) (t := ?_) (cs := ?_) (by rfl) (by rfl) (fun w hb => ?_) (fun g19 => ?_); rotate_left 4; (· ((go_simp) <;> ((repeat' apply And.intro) <;> with_reducible rfl))); try simp only [Act.put, List.setIfInBounds_toArray, List.set_cons_zero, List.set_cons_succ, Nat.reduceAdd]
    repeat (first | (refine flow_val (v := ?_) (by rfl) (by rfl) (fun w hb => ?_) ?_; rotate_left; (· ((go_simp) <;> ((repeat' apply And.intro) <;> with_reducible rfl))); try simp only [Act.put, List.setIfInBounds_toArray, List.set_cons_zero, List.set_cons_succ, Nat.reduceAdd]) | (refine flow_skip (by rfl) (by rfl) ?_; try simp only [Act.put, List.setIfInBounds_toArray, List.set_cons_zero, List.set_cons_succ, Nat.reduceAdd]))
    refine flow_call (f := ?_) (args := ?_) [19] (by kernel_rfl) (by rfl) (by rfl) (fun w hb => ?_) (fun w hb hu => ?_) ?_; rotate_left 2; (· ((go_simp) <;> ((repeat' apply And.intro) <;> with_reducible rfl)))
    · exact HC3.out w g19 hb (usef_head hu)
    try simp only [Act.put, List.setIfInBounds_toArray, List.set_cons_zero, List.set_cons_succ, Nat.reduceAdd]
    repeat (first | (refine flow_val (v := ?_) (by rfl) (by rfl) (fun w hb => ?_) ?_; rotate_left; (· ((go_simp) <;> ((repeat' apply And.intro) <;> with_reducible rfl))); try simp only [Act.put, List.setIfInBounds_toArray, List.set_cons_zero, List.set_cons_succ, Nat.reduceAdd]) | (refine flow_skip (by rfl) (by rfl) ?_; try simp only [Act.put, List.setIfInBounds_toArray, List.set_cons_zero, List.set_cons_succ, Nat.reduceAdd]))
    refine flow_lits (n := ?_) (c := ?_) (t := ?_) (cs := ?_) (by rfl) (by rfl) (fun w hb => ?_) (fun g28 => ?_); rotate_left 4; (· ((go_simp) <;> ((repeat' apply And.intro) <;> with_reducible rfl))); try simp only [Act.put, List.setIfInBounds_toArray, List.set_cons_zero, List.set_cons_succ, Nat.reduceAdd]
    repeat (first | (refine flow_val (v := ?_) (by rfl) (by rfl) (fun w hb => ?_) ?_; rotate_left; (· ((go_simp) <;> ((repeat' apply And.intro) <;> with_reducible rfl))); try simp only [Act.put, List.setIfInBounds_toArray, List.set_cons_zero, List.set_cons_succ, Nat.reduceAdd]) | (refine flow_skip (by rfl) (by rfl) ?_; try simp only [Act.put, List.setIfInBounds_toArray, List.set_cons_zero, List.set_cons_succ, Nat.reduceAdd]))
    refine flow_call (f := ?_) (args := ?_) [28] (by kernel_rfl) (by rfl) (by rfl) (fun w hb => ?_) (fun w hb hu => ?_) ?_; rotate_left 2; (· ((go_simp) <;> ((repeat' apply And.intro) <;> with_reducible rfl)))
    · exact HC1.out w g28 hb (usef_head hu)
    try simp only [Act.put, List.setIfInBounds_toArray, List.set_cons_zero, List.set_cons_succ, Nat.reduceAdd]
    repeat (first | (refine flow_val (v := ?_) (by rfl) (by rfl) (fun w hb => ?_) ?_; rotate_left; (· ((go_simp) <;> ((repeat' apply And.intro) <;> with_reducible rfl))); try simp only [Act.put, List.setIfInBounds_toArray, List.set_cons_zero, List.set_cons_succ, Nat.reduceAdd]) | (refine flow_skip (by rfl) (by rfl) ?_; try simp only [Act.put, List.setIfInBounds_toArray, List.set_cons_zero, List.set_cons_succ, Nat.reduceAdd]))
    refine flow_lits (n := ?_) (c := ?_) (t := ?_) (cs := ?_) (by rfl) (by rfl) (fun w hb => ?_) (fun g41 => ?_); rotate_left 4; (· ((go_simp) <;> ((repeat' apply And.intro) <;> with_reducible rfl))); try simp only [Act.put, List.setIfInBounds_toArray, List.set_cons_zero, List.set_cons_succ, Nat.reduceAdd]
    repeat (first | (refine flow_val (v := ?_) (by rfl) (by rfl) (fun w hb => ?_) ?_; rotate_left; (· ((go_simp) <;> ((repeat' apply And.intro) <;> with_reducible rfl))); try simp only [Act.put, List.setIfInBounds_toArray, List.set_cons_zero, List.set_cons_succ, Nat.reduceAdd]) | (refine flow_skip (by rfl) (by rfl) ?_; try simp only [Act.put, List.setIfInBounds_toArray, List.set_cons_zero, List.set_cons_succ, Nat.reduceAdd]))
    refine flow_call (f := ?_) (args := ?_) [41] (by kernel_rfl) (by rfl) (by rfl) (fun w hb => ?_) (fun w hb hu => ?_) ?_; rotate_left 2; (· ((go_simp) <;> ((repeat' apply And.intro) <;> with_reducible rfl)))
    · exact HC2.out w g41 hb (usef_head hu)
    try simp only [Act.put, List.setIfInBounds_toArray, List.set_cons_zero, List.set_cons_succ, Nat.reduceAdd]
    repeat (first | (refine flow_val (v := ?_) (by rfl) (by rfl) (fun w hb => ?_) ?_; rotate_left; (· ((go_simp) <;> ((repeat' apply And.intro) <;> with_reducible rfl))); try simp only [Act.put, List.setIfInBounds_toArray, List.set_cons_zero, List.set_cons_succ, Nat.reduceAdd]) | (refine flow_skip (by rfl) (by rfl) ?_; try simp only [Act.put, List.setIfInBounds_toArray, List.set_cons_zero, List.set_cons_succ, Nat.reduceAdd]))
    refine flow_nil fun w1 hb1 _ => ?_
    have HB1 := Lib.hid (below_then HB.out hb1)
    clear t1 k1 k2 k3 k4 HC1 HC2 HC3 HU1 HU2 HLX
    go_wp2_with fail
    all_goals go_ret
    all_goals refine ⟨?_, HB1.out⟩
    all_goals rw [HD.out]
    all_goals have hc := HC0.out
    all_goals have hv := HV.out
    all_goals clear HD HC0 HV hb1 HB1 HB x10 x11 x12 x13 x14 x15 x16 x17 x20 x21 x22 x23 x24 x25 x30 x31 x32 x33 x34 x35
    all_goals rcases Nat.lt_or_ge 0 (r.wd.length + r.md.length) with hz | hz
    all_goals first | (exfalso; omega) | (rw [decide_eq_true hz, decide_eq_true hc]) | (rw [decide_eq_false (by omega : ¬ 0 < r.wd.length + r.md.length), decide_eq_true hc])
    all_goals clear hz l1 l2 hc
    all_goals clear v1 v2 v3
    all_goals simp_all
    all_goals rw [Bool.eq_iff_iff, beq_iff_eq, decide_eq_true_iff]
    all_goals omega
end Go.Proofs.Ytfindembancjdaa
