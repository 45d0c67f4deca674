/- Rec6, Rec7, Rec8 -/
import Derived.Test.YtonhmgdokghoeaaDoorGPlainRec
import Derived.Test.YtonhmgdokghoeaaDoorGFlow
import Derived.Test.YtonhmgdokghoeaaDoorGName1
import Derived.Test.YtonhmgdokghoeaaDoorGSlice1
import Derived.Test.YtonhmgdokghoeaaDoorGListArg
/- Contract of recur.fits. -/
namespace Go.Proofs.YtonhmgdokghoeaaDoor
open Go.RowKit
set_option linter.unusedVariables false

set_option maxHeartbeats 4000000 in
set_option maxRecDepth 100000 in
theorem fits_any (r : Rc) (f m : Mm) (w : World) (hr : RcIn w r) (ok : RcOk r) (okf : MmOk f) (okm : MmOk m) : Calls Tryd.prog 18 #[r.val, f.val, m.val] w fun e w' => e = .returned (.bool (fitB r f m)) ∧ Below w.heap.size w w' := by
  have HB := Lib.hid (below_alloc3 w (Obj.cells r.cells 24) (Obj.cells f.cells 41) (Obj.cells m.cells 41))
  have HX1 := Lib.hid (((Box.new w 24 r.cells).alloc (Obj.cells f.cells 41)).alloc (Obj.cells m.cells 41))
  have HX2 := Lib.hid ((Box.new (w.alloc (Obj.cells r.cells 24)) 41 f.cells).alloc (Obj.cells m.cells 41))
  have HX3 := Lib.hid (Box.new ((w.alloc (Obj.cells r.cells 24)).alloc (Obj.cells f.cells 41)) 41 m.cells)
  have HR := Lib.hid (hr.next HB.out)
  clear hr
  obtain ⟨B, hB⟩ : ∃ B, B = fitB r f m := ⟨_, rfl⟩
  rw [← hB]
  have HD := Lib.hid hB
  clear hB
  unfold fitB at HD
  go_enter Tryd.func18, Tryd.ntmps18
  go_upto_region 2 with fail
  simp only [World.size_alloc] at HX2 HX3
  generalize ((w.alloc (Obj.cells r.cells 24)).alloc (Obj.cells f.cells 41)).alloc (Obj.cells m.cells 41) = W0 at *
  have X1 := fun W (hb : Below W0.heap.size W0 W) => HX1.out.below hb
  have X2 := fun W (hb : Below W0.heap.size W0 W) => HX2.out.below hb
  have X3 := fun W (hb : Below W0.heap.size W0 W) => HX3.out.below hb
  have HRR : Hid (∀ W, Below W0.heap.size W0 W → RcIn W r) := fun W hb => HR.out.next hb
  have x10 := fun W hb => (X1 W hb).cell 0
  have x11 := fun W hb => (X1 W hb).cell 1
  have x12 := fun W hb => (X1 W hb).cell 2
  have x13 := fun W hb => (X1 W hb).cell 3
  have x14 := fun W hb => (X1 W hb).cell 4
  have x15 := fun W hb => (X1 W hb).cell 5
  have x16 := fun W hb => (X1 W hb).cell 6
  have x17 := fun W hb => (X1 W hb).cell 7
  have x20 := fun W hb => (X2 W hb).cell 0
  have x21 := fun W hb => (X2 W hb).cell 1
  have x22 := fun W hb => (X2 W hb).cell 2
  have x23 := fun W hb => (X2 W hb).cell 3
  have x24 := fun W hb => (X2 W hb).cell 4
  have x25 := fun W hb => (X2 W hb).cell 5
  have x30 := fun W hb => (X3 W hb).cell 0
  have x31 := fun W hb => (X3 W hb).cell 1
  have x32 := fun W hb => (X3 W hb).cell 2
  have x33 := fun W hb => (X3 W hb).cell 3
  have x34 := fun W hb => (X3 W hb).cell 4
  have x35 := fun W hb => (X3 W hb).cell 5
  simp at x10 x11 x12 x13 x14 x15 x16 x17 x20 x21 x22 x23 x24 x25 x30 x31 x32 x33 x34 x35
  clear X1 X2 X3 HX1 HX2 HX3 HR
  have HU1 : Hid (∀ W, Calls Tryd.prog 29 #[m.val, .int .i64 r.un] W fun e w' => e = .returned (.int .i64 (m.un r.un)) ∧ Below W.heap.size W w') := fun W => unit_any m r.un okm W
  have HU2 : Hid (∀ W, Calls Tryd.prog 29 #[f.val, .int .i64 r.un] W fun e w' => e = .returned (.int .i64 (f.un r.un)) ∧ Below W.heap.size W w') := fun W => unit_any f r.un okf W
  obtain ⟨u1, u2⟩ := okm.un_in r.un
  obtain ⟨u3, u4⟩ := okf.un_in r.un
  have e1 := ok.e1
  have e2 := ok.e2
  generalize m.un r.un = U1 at *
  generalize f.un r.un = U2 at *
  have k1 : IntKind.i64.wrap (U1 - U2) = U1 - U2 := intFits _ (by omega) (by omega)
  have k2 : ¬ r.ev = 0 := by omega
  clear u1 u2 u3 u4
  refine with_lex (by kernel_rfl) fun HLX => ?_
  have HC3 : Hid (∀ W g, Below W0.heap.size W0 W → Box W g 3 #[.int .i64 ((m.k : Int) + 1)] → Calls Tryd.prog 13 #[.slice r.A3 r.mo.length r.c3, .slice (some ⟨g, 0, none⟩) 1 1] W fun e w' => e = .returned (.bool (lisB r.mo [(m.k : Int) + 1])) ∧ Below W.heap.size W w') := fun W g hb hx =>
    listed_any r.A3 (some ⟨g, 0, none⟩) r.c3 1 r.mo [(m.k : Int) + 1] W (HRR.out W hb).r3 (Row.of_box hx) (by have := ok.mo.1; unfold maxLen; omega) (by unfold maxLen; simp)
  have HC1 : Hid (∀ W g, Below W0.heap.size W0 W → Box W g 3 #[.int .i64 ((m.day - 1) % 7)] → Calls Tryd.prog 13 #[.slice r.A1 r.wd.length r.c1, .slice (some ⟨g, 0, none⟩) 1 1] W fun e w' => e = .returned (.bool (lisB r.wd [(m.day - 1) % 7])) ∧ Below W.heap.size W w') := fun W g hb hx =>
    listed_any r.A1 (some ⟨g, 0, none⟩) r.c1 1 r.wd [(m.day - 1) % 7] W (HRR.out W hb).r1 (Row.of_box hx) (by have := ok.wd.1; unfold maxLen; omega) (by unfold maxLen; simp)
  have HC2 : Hid (∀ W g, Below W0.heap.size W0 W → Box W g 3 #[.int .i64 m.d, .int .i64 (m.d - len (feb m.y) m.k - 1)] → Calls Tryd.prog 13 #[.slice r.A2 r.md.length r.c2, .slice (some ⟨g, 0, none⟩) 2 2] W fun e w' => e = .returned (.bool (lisB r.md [m.d, m.d - len (feb m.y) m.k - 1])) ∧ Below W.heap.size W w') := fun W g hb hx =>
    listed_any r.A2 (some ⟨g, 0, none⟩) r.c2 2 r.md [m.d, m.d - len (feb m.y) m.k - 1] W (HRR.out W hb).r2 (Row.of_box hx) (by have := ok.md.1; unfold maxLen; omega) (by unfold maxLen; simp)
  by_cases c1 : (U1 - U2).tmod r.ev = 0
  case neg =>
    have t1 : ((U1 - U2).tmod r.ev != 0) = true := by rw [bne_iff_ne]; exact c1
    refine flow_begin (tellOf [(3, det (.int .i64 U1)), (7, det (.int .i64 U2))]) (by kernel_rfl) HLX.out ?_
    repeat (first | (refine flow_val (v := ?_) (by rfl) (by rfl) (fun w hb => ?_) ?_; rotate_left; (· ((go_simp) <;> ((repeat' apply And.intro) <;> with_reducible rfl))); try simp only [Act.put, List.setIfInBounds_toArray, List.set_cons_zero, List.set_cons_succ, Nat.reduceAdd]) | (refine flow_skip (by rfl) (by rfl) ?_; try simp only [Act.put, List.setIfInBounds_toArray, List.set_cons_zero, List.set_cons_succ, Nat.reduceAdd]))
    refine flow_call (f := ?_) (args := ?_) [] (by kernel_rfl) (by rfl) (by rfl) (fun w hb => ?_) (fun w hb hu => ?_) ?_; rotate_left 2; (· ((go_simp) <;> ((repeat' apply And.intro) <;> with_reducible rfl)))
    · exact HU1.out w
    try simp only [Act.put, List.setIfInBounds_toArray, List.set_cons_zero, List.set_cons_succ, Nat.reduceAdd]
    repeat (first | (refine flow_val (v := ?_) (by rfl) (by rfl) (fun w hb => ?_) ?_; rotate_left; (· ((go_simp) <;> ((repeat' apply And.intro) <;> with_reducible rfl))); try simp only [Act.put, List.setIfInBounds_toArray, List.set_cons_zero, List.set_cons_succ, Nat.reduceAdd]) | (refine flow_skip (by rfl) (by rfl) ?_; try simp only [Act.put, List.setIfInBounds_toArray, List.set_cons_zero, List.set_cons_succ, Nat.reduceAdd]))
    refine flow_call (f := ?_) (args := ?_) [] (by kernel_rfl) (by rfl) (by rfl) (fun w hb => ?_) (fun w hb hu => ?_) ?_; rotate_left 2; (· ((go_simp) <;> ((repeat' apply And.intro) <;> with_reducible rfl)))
    · exact HU2.out w
    try simp only [Act.put, List.setIfInBounds_toArray, List.set_cons_zero, List.set_cons_succ, Nat.reduceAdd]
    repeat (first | (refine flow_val (v := ?_) (by rfl) (by rfl) (fun w hb => ?_) ?_; rotate_left; (· ((go_simp) <;> ((repeat' apply And.intro) <;> with_reducible rfl))); try simp only [Act.put, List.setIfInBounds_toArray, List.set_cons_zero, List.set_cons_succ, Nat.reduceAdd]) | (refine flow_skip (by rfl) (by rfl) ?_; try simp only [Act.put, List.setIfInBounds_toArray, List.set_cons_zero, List.set_cons_succ, Nat.reduceAdd]))
    refine flow_nil fun w1 hb1 _ => ?_
    have HB1 := Lib.hid (below_then HB.out hb1)
    go_wp2_with fail
    go_ret
    exact ⟨by rw [HD.out]; simp [c1], HB1.out⟩
  have t1 : ((U1 - U2).tmod r.ev != 0) = false := by rw [c1]; rfl
  generalize lisB r.mo [(m.k : Int) + 1] = B3 at *
  generalize lisB r.wd [(m.day - 1) % 7] = B1 at *
  generalize lisB r.md [m.d, m.d - len (feb m.y) m.k - 1] = B2 at *
  cases B3 with
  | false =>
    refine flow_begin (tellOf [(3, det (.int .i64 U1)), (7, det (.int .i64 U2)), (20, det (.bool false))]) (by kernel_rfl) HLX.out ?_
    repeat (first | (refine flow_val (v := ?_) (by rfl) (by rfl) (fun w hb => ?_) ?_; rotate_left; (· ((go_simp) <;> ((repeat' apply And.intro) <;> with_reducible rfl))); try simp only [Act.put, List.setIfInBounds_toArray, List.set_cons_zero, List.set_cons_succ, Nat.reduceAdd]) | (refine flow_skip (by rfl) (by rfl) ?_; try simp only [Act.put, List.setIfInBounds_toArray, List.set_cons_zero, List.set_cons_succ, Nat.reduceAdd]))
    refine flow_call (f := ?_) (args := ?_) [] (by kernel_rfl) (by rfl) (by rfl) (fun w hb => ?_) (fun w hb hu => ?_) ?_; rotate_left 2; (· ((go_simp) <;> ((repeat' apply And.intro) <;> with_reducible rfl)))
    · exact HU1.out w
    try simp only [Act.put, List.setIfInBounds_toArray, List.set_cons_zero, List.set_cons_succ, Nat.reduceAdd]
    repeat (first | (refine flow_val (v := ?_) (by rfl) (by rfl) (fun w hb => ?_) ?_; rotate_left; (· ((go_simp) <;> ((repeat' apply And.intro) <;> with_reducible rfl))); try simp only [Act.put, List.setIfInBounds_toArray, List.set_cons_zero, List.set_cons_succ, Nat.reduceAdd]) | (refine flow_skip (by rfl) (by rfl) ?_; try simp only [Act.put, List.setIfInBounds_toArray, List.set_cons_zero, List.set_cons_succ, Nat.reduceAdd]))
    refine flow_call (f := ?_) (args := ?_) [] (by kernel_rfl) (by rfl) (by rfl) (fun w hb => ?_) (fun w hb hu => ?_) ?_; rotate_left 2; (· ((go_simp) <;> ((repeat' apply And.intro) <;> with_reducible rfl)))
    · exact HU2.out w
    try simp only [Act.put, List.setIfInBounds_toArray, List.set_cons_zero, List.set_cons_succ, Nat.reduceAdd]
    repeat (first | (refine flow_val (v := ?_) (by rfl) (by rfl) (fun w hb => ?_) ?_; rotate_left; (· ((go_simp) <;> ((repeat' apply And.intro) <;> with_reducible rfl))); try simp only [Act.put, List.setIfInBounds_toArray, List.set_cons_zero, List.set_cons_succ, Nat.reduceAdd]) | (refine flow_skip (by rfl) (by rfl) ?_; try simp only [Act.put, List.setIfInBounds_toArray, List.set_cons_zero, List.set_cons_succ, Nat.reduceAdd]))
    refine flow_lits (n := ?_) (c := ?_) (t := ?_) (cs := ?_) (by rfl) (by rfl) (fun w hb => ?_) (fun g19 hg19 => ?_); rotate_left 4; (· ((go_simp) <;> ((repeat' apply And.intro) <;> with_reducible rfl))); try simp only [Act.put, List.setIfInBounds_toArray, List.set_cons_zero, List.set_cons_succ, Nat.reduceAdd]
    repeat (first | (refine flow_val (v := ?_) (by rfl) (by rfl) (fun w hb => ?_) ?_; rotate_left; (· ((go_simp) <;> ((repeat' apply And.intro) <;> with_reducible rfl))); try simp only [Act.put, List.setIfInBounds_toArray, List.set_cons_zero, List.set_cons_succ, Nat.reduceAdd]) | (refine flow_skip (by rfl) (by rfl) ?_; try simp only [Act.put, List.setIfInBounds_toArray, List.set_cons_zero, List.set_cons_succ, Nat.reduceAdd]))
    refine flow_call (f := ?_) (args := ?_) [19] (by kernel_rfl) (by rfl) (by rfl) (fun w hb => ?_) (fun w hb hu => ?_) ?_; rotate_left 2; (· ((go_simp) <;> ((repeat' apply And.intro) <;> with_reducible rfl)))
    · exact HC3.out w g19 hb (usef_head hu)
    try simp only [Act.put, List.setIfInBounds_toArray, List.set_cons_zero, List.set_cons_succ, Nat.reduceAdd]
    repeat (first | (refine flow_val (v := ?_) (by rfl) (by rfl) (fun w hb => ?_) ?_; rotate_left; (· ((go_simp) <;> ((repeat' apply And.intro) <;> with_reducible rfl))); try simp only [Act.put, List.setIfInBounds_toArray, List.set_cons_zero, List.set_cons_succ, Nat.reduceAdd]) | (refine flow_skip (by rfl) (by rfl) ?_; try simp only [Act.put, List.setIfInBounds_toArray, List.set_cons_zero, List.set_cons_succ, Nat.reduceAdd]))
    refine flow_nil fun w1 hb1 _ => ?_
    have HB1 := Lib.hid (below_then HB.out hb1)
    go_wp2_with fail
    go_ret
    exact ⟨by rw [HD.out]; simp [c1], HB1.out⟩
  | true =>
  cases B1 with
  | false =>
    refine flow_begin (tellOf [(3, det (.int .i64 U1)), (7, det (.int .i64 U2)), (20, det (.bool true)), (29, det (.bool false))]) (by kernel_rfl) HLX.out ?_
    repeat (first | (refine flow_val (v := ?_) (by rfl) (by rfl) (fun w hb => ?_) ?_; rotate_left; (· ((go_simp) <;> ((repeat' apply And.intro) <;> with_reducible rfl))); try simp only [Act.put, List.setIfInBounds_toArray, List.set_cons_zero, List.set_cons_succ, Nat.reduceAdd]) | (refine flow_skip (by rfl) (by rfl) ?_; try simp only [Act.put, List.setIfInBounds_toArray, List.set_cons_zero, List.set_cons_succ, Nat.reduceAdd]))
    refine flow_call (f := ?_) (args := ?_) [] (by kernel_rfl) (by rfl) (by rfl) (fun w hb => ?_) (fun w hb hu => ?_) ?_; rotate_left 2; (· ((go_simp) <;> ((repeat' apply And.intro) <;> with_reducible rfl)))
    · exact HU1.out w
    try simp only [Act.put, List.setIfInBounds_toArray, List.set_cons_zero, List.set_cons_succ, Nat.reduceAdd]
    repeat (first | (refine flow_val (v := ?_) (by rfl) (by rfl) (fun w hb => ?_) ?_; rotate_left; (· ((go_simp) <;> ((repeat' apply And.intro) <;> with_reducible rfl))); try simp only [Act.put, List.setIfInBounds_toArray, List.set_cons_zero, List.set_cons_succ, Nat.reduceAdd]) | (refine flow_skip (by rfl) (by rfl) ?_; try simp only [Act.put, List.setIfInBounds_toArray, List.set_cons_zero, List.set_cons_succ, Nat.reduceAdd]))
    refine flow_call (f := ?_) (args := ?_) [] (by kernel_rfl) (by rfl) (by rfl) (fun w hb => ?_) (fun w hb hu => ?_) ?_; rotate_left 2; (· ((go_simp) <;> ((repeat' apply And.intro) <;> with_reducible rfl)))
    · exact HU2.out w
    try simp only [Act.put, List.setIfInBounds_toArray, List.set_cons_zero, List.set_cons_succ, Nat.reduceAdd]
    repeat (first | (refine flow_val (v := ?_) (by rfl) (by rfl) (fun w hb => ?_) ?_; rotate_left; (· ((go_simp) <;> ((repeat' apply And.intro) <;> with_reducible rfl))); try simp only [Act.put, List.setIfInBounds_toArray, List.set_cons_zero, List.set_cons_succ, Nat.reduceAdd]) | (refine flow_skip (by rfl) (by rfl) ?_; try simp only [Act.put, List.setIfInBounds_toArray, List.set_cons_zero, List.set_cons_succ, Nat.reduceAdd]))
    refine flow_lits (n := ?_) (c := ?_) (t := ?_) (cs := ?_) (by rfl) (by rfl) (fun w hb => ?_) (fun g19 hg19 => ?_); rotate_left 4; (· ((go_simp) <;> ((repeat' apply And.intro) <;> with_reducible rfl))); try simp only [Act.put, List.setIfInBounds_toArray, List.set_cons_zero, List.set_cons_succ, Nat.reduceAdd]
    repeat (first | (refine flow_val (v := ?_) (by rfl) (by rfl) (fun w hb => ?_) ?_; rotate_left; (· ((go_simp) <;> ((repeat' apply And.intro) <;> with_reducible rfl))); try simp only [Act.put, List.setIfInBounds_toArray, List.set_cons_zero, List.set_cons_succ, Nat.reduceAdd]) | (refine flow_skip (by rfl) (by rfl) ?_; try simp only [Act.put, List.setIfInBounds_toArray, List.set_cons_zero, List.set_cons_succ, Nat.reduceAdd]))
    refine flow_call (f := ?_) (args := ?_) [19] (by kernel_rfl) (by rfl) (by rfl) (fun w hb => ?_) (fun w hb hu => ?_) ?_; rotate_left 2; (· ((go_simp) <;> ((repeat' apply And.intro) <;> with_reducible rfl)))
    · exact HC3.out w g19 hb (usef_head hu)
    try simp only [Act.put, List.setIfInBounds_toArray, List.set_cons_zero, List.set_cons_succ, Nat.reduceAdd]
    repeat (first | (refine flow_val (v := ?_) (by rfl) (by rfl) (fun w hb => ?_) ?_; rotate_left; (· ((go_simp) <;> ((repeat' apply And.intro) <;> with_reducible rfl))); try simp only [Act.put, List.setIfInBounds_toArray, List.set_cons_zero, List.set_cons_succ, Nat.reduceAdd]) | (refine flow_skip (by rfl) (by rfl) ?_; try simp only [Act.put, List.setIfInBounds_toArray, List.set_cons_zero, List.set_cons_succ, Nat.reduceAdd]))
    refine flow_lits (n := ?_) (c := ?_) (t := ?_) (cs := ?_) (by rfl) (by rfl) (fun w hb => ?_) (fun g28 hg28 => ?_); rotate_left 4; (· ((go_simp) <;> ((repeat' apply And.intro) <;> with_reducible rfl))); try simp only [Act.put, List.setIfInBounds_toArray, List.set_cons_zero, List.set_cons_succ, Nat.reduceAdd]
    repeat (first | (refine flow_val (v := ?_) (by rfl) (by rfl) (fun w hb => ?_) ?_; rotate_left; (· ((go_simp) <;> ((repeat' apply And.intro) <;> with_reducible rfl))); try simp only [Act.put, List.setIfInBounds_toArray, List.set_cons_zero, List.set_cons_succ, Nat.reduceAdd]) | (refine flow_skip (by rfl) (by rfl) ?_; try simp only [Act.put, List.setIfInBounds_toArray, List.set_cons_zero, List.set_cons_succ, Nat.reduceAdd]))
    refine flow_call (f := ?_) (args := ?_) [28] (by kernel_rfl) (by rfl) (by rfl) (fun w hb => ?_) (fun w hb hu => ?_) ?_; rotate_left 2; (· ((go_simp) <;> ((repeat' apply And.intro) <;> with_reducible rfl)))
    · exact HC1.out w g28 hb (usef_head hu)
    try simp only [Act.put, List.setIfInBounds_toArray, List.set_cons_zero, List.set_cons_succ, Nat.reduceAdd]
    repeat (first | (refine flow_val (v := ?_) (by rfl) (by rfl) (fun w hb => ?_) ?_; rotate_left; (· ((go_simp) <;> ((repeat' apply And.intro) <;> with_reducible rfl))); try simp only [Act.put, List.setIfInBounds_toArray, List.set_cons_zero, List.set_cons_succ, Nat.reduceAdd]) | (refine flow_skip (by rfl) (by rfl) ?_; try simp only [Act.put, List.setIfInBounds_toArray, List.set_cons_zero, List.set_cons_succ, Nat.reduceAdd]))
    refine flow_nil fun w1 hb1 _ => ?_
    have HB1 := Lib.hid (below_then HB.out hb1)
    go_wp2_with fail
    go_ret
    exact ⟨by rw [HD.out]; simp [c1], HB1.out⟩
  | true =>
  have v1 := okm.v.2.1
  have v2 := okm.v.2.2
  have v3 : len (feb m.y) m.k ≤ 31 := len_le _ (by unfold feb; split <;> omega) _
  have l1 := ok.wd.1
  have l2 := ok.md.1
  have l3 := ok.mo.1
  have HV : Hid ((m.k : Int) + 1 = (f.k : Int) + 1 ↔ m.k = f.k) := by unfold Hid; omega
  have HC0 := Lib.hid c1
  clear ok okf okm HRR e1 e2 c1
  have k3 : IntKind.i64.wrap (m.d - len (feb m.y) m.k) = m.d - len (feb m.y) m.k := intFits _ (by omega) (by omega)
  have k4 : IntKind.i64.wrap (m.d - len (feb m.y) m.k - 1) = m.d - len (feb m.y) m.k - 1 := intFits _ (by omega) (by omega)
  cases B2 with
  | false =>
    refine flow_begin (tellOf [(3, det (.int .i64 U1)), (7, det (.int .i64 U2)), (20, det (.bool true)), (29, det (.bool true)), (42, det (.bool false))]) (by kernel_rfl) HLX.out ?_
    repeat (first | (refine flow_val (v := ?_) (by rfl) (by rfl) (fun w hb => ?_) ?_; rotate_left; (· ((go_simp) <;> ((repeat' apply And.intro) <;> with_reducible rfl))); try simp only [Act.put, List.setIfInBounds_toArray, List.set_cons_zero, List.set_cons_succ, Nat.reduceAdd]) | (refine flow_skip (by rfl) (by rfl) ?_; try simp only [Act.put, List.setIfInBounds_toArray, List.set_cons_zero, List.set_cons_succ, Nat.reduceAdd]))
    refine flow_call (f := ?_) (args := ?_) [] (by kernel_rfl) (by rfl) (by rfl) (fun w hb => ?_) (fun w hb hu => ?_) ?_; rotate_left 2; (· ((go_simp) <;> ((repeat' apply And.intro) <;> with_reducible rfl)))
    · exact HU1.out w
    try simp only [Act.put, List.setIfInBounds_toArray, List.set_cons_zero, List.set_cons_succ, Nat.reduceAdd]
    repeat (first | (refine flow_val (v := ?_) (by rfl) (by rfl) (fun w hb => ?_) ?_; rotate_left; (· ((go_simp) <;> ((repeat' apply And.intro) <;> with_reducible rfl))); try simp only [Act.put, List.setIfInBounds_toArray, List.set_cons_zero, List.set_cons_succ, Nat.reduceAdd]) | (refine flow_skip (by rfl) (by rfl) ?_; try simp only [Act.put, List.setIfInBounds_toArray, List.set_cons_zero, List.set_cons_succ, Nat.reduceAdd]))
    refine flow_call (f := ?_) (args := ?_) [] (by kernel_rfl) (by rfl) (by rfl) (fun w hb => ?_) (fun w hb hu => ?_) ?_; rotate_left 2; (· ((go_simp) <;> ((repeat' apply And.intro) <;> with_reducible rfl)))
    · exact HU2.out w
    try simp only [Act.put, List.setIfInBounds_toArray, List.set_cons_zero, List.set_cons_succ, Nat.reduceAdd]
    repeat (first | (refine flow_val (v := ?_) (by rfl) (by rfl) (fun w hb => ?_) ?_; rotate_left; (· ((go_simp) <;> ((repeat' apply And.intro) <;> with_reducible rfl))); try simp only [Act.put, List.setIfInBounds_toArray, List.set_cons_zero, List.set_cons_succ, Nat.reduceAdd]) | (refine flow_skip (by rfl) (by rfl) ?_; try simp only [Act.put, List.setIfInBounds_toArray, List.set_cons_zero, List.set_cons_succ, Nat.reduceAdd]))
    refine flow_lits (n := ?_) (c := ?_) (t := ?_) (cs := ?_) (by rfl) (by rfl) (fun w hb => ?_) (fun g19 hg19 => ?_); rotate_left 4; (· ((go_simp) <;> ((repeat' apply And.intro) <;> with_reducible rfl))); try simp only [Act.put, List.setIfInBounds_toArray, List.set_cons_zero, List.set_cons_succ, Nat.reduceAdd]
    repeat (first | (refine flow_val (v := ?_) (by rfl) (by rfl) (fun w hb => ?_) ?_; rotate_left; (· ((go_simp) <;> ((repeat' apply And.intro) <;> with_reducible rfl))); try simp only [Act.put, List.setIfInBounds_toArray, List.set_cons_zero, List.set_cons_succ, Nat.reduceAdd]) | (refine flow_skip (by rfl) (by rfl) ?_; try simp only [Act.put, List.setIfInBounds_toArray, List.set_cons_zero, List.set_cons_succ, Nat.reduceAdd]))
    refine flow_call (f := ?_) (args := ?_) [19] (by kernel_rfl) (by rfl) (by rfl) (fun w hb => ?_) (fun w hb hu => ?_) ?_; rotate_left 2; (· ((go_simp) <;> ((repeat' apply And.intro) <;> with_reducible rfl)))
    · exact HC3.out w g19 hb (usef_head hu)
    try simp only [Act.put, List.setIfInBounds_toArray, List.set_cons_zero, List.set_cons_succ, Nat.reduceAdd]
    repeat (first | (refine flow_val (v := ?_) (by rfl) (by rfl) (fun w hb => ?_) ?_; rotate_left; (· ((go_simp) <;> ((repeat' apply And.intro) <;> with_reducible rfl))); try simp only [Act.put, List.setIfInBounds_toArray, List.set_cons_zero, List.set_cons_succ, Nat.reduceAdd]) | (refine flow_skip (by rfl) (by rfl) ?_; try simp only [Act.put, List.setIfInBounds_toArray, List.set_cons_zero, List.set_cons_succ, Nat.reduceAdd]))
    refine flow_lits (n := ?_) (c := ?_) (t := ?_) (cs := ?_) (by rfl) (by rfl) (fun w hb => ?_) (fun g28 hg28 => ?_); rotate_left 4; (· ((go_simp) <;> ((repeat' apply And.intro) <;> with_reducible rfl))); try simp only [Act.put, List.setIfInBounds_toArray, List.set_cons_zero, List.set_cons_succ, Nat.reduceAdd]
    repeat (first | (refine flow_val (v := ?_) (by rfl) (by rfl) (fun w hb => ?_) ?_; rotate_left; (· ((go_simp) <;> ((repeat' apply And.intro) <;> with_reducible rfl))); try simp only [Act.put, List.setIfInBounds_toArray, List.set_cons_zero, List.set_cons_succ, Nat.reduceAdd]) | (refine flow_skip (by rfl) (by rfl) ?_; try simp only [Act.put, List.setIfInBounds_toArray, List.set_cons_zero, List.set_cons_succ, Nat.reduceAdd]))
    refine flow_call (f := ?_) (args := ?_) [28] (by kernel_rfl) (by rfl) (by rfl) (fun w hb => ?_) (fun w hb hu => ?_) ?_; rotate_left 2; (· ((go_simp) <;> ((repeat' apply And.intro) <;> with_reducible rfl)))
    · exact HC1.out w g28 hb (usef_head hu)
    try simp only [Act.put, List.setIfInBounds_toArray, List.set_cons_zero, List.set_cons_succ, Nat.reduceAdd]
    repeat (first | (refine flow_val (v := ?_) (by rfl) (by rfl) (fun w hb => ?_) ?_; rotate_left; (· ((go_simp) <;> ((repeat' apply And.intro) <;> with_reducible rfl))); try simp only [Act.put, List.setIfInBounds_toArray, List.set_cons_zero, List.set_cons_succ, Nat.reduceAdd]) | (refine flow_skip (by rfl) (by rfl) ?_; try simp only [Act.put, List.setIfInBounds_toArray, List.set_cons_zero, List.set_cons_succ, Nat.reduceAdd]))
    refine flow_lits (n := ?_) (c := ?_) (t := ?_) (cs := ?_) (by rfl) (by rfl) (fun w hb => ?_) (fun g41 hg41 => ?_); rotate_left 4; (· ((go_simp) <;> ((repeat' apply And.intro) <;> with_reducible rfl))); try simp only [Act.put, List.setIfInBounds_toArray, List.set_cons_zero, List.set_cons_succ, Nat.reduceAdd]
    repeat (first | (refine flow_val (v := ?_) (by rfl) (by rfl) (fun w hb => ?_) ?_; rotate_left; (· ((go_simp) <;> ((repeat' apply And.intro) <;> with_reducible rfl))); try simp only [Act.put, List.setIfInBounds_toArray, List.set_cons_zero, List.set_cons_succ, Nat.reduceAdd]) | (refine flow_skip (by rfl) (by rfl) ?_; try simp only [Act.put, List.setIfInBounds_toArray, List.set_cons_zero, List.set_cons_succ, Nat.reduceAdd]))
    refine flow_call (f := ?_) (args := ?_) [41] (by kernel_rfl) (by rfl) (by rfl) (fun w hb => ?_) (fun w hb hu => ?_) ?_; rotate_left 2; (· ((go_simp) <;> ((repeat' apply And.intro) <;> with_reducible rfl)))
    · exact HC2.out w g41 hb (usef_head hu)
    try simp only [Act.put, List.setIfInBounds_toArray, List.set_cons_zero, List.set_cons_succ, Nat.reduceAdd]
    repeat (first | (refine flow_val (v := ?_) (by rfl) (by rfl) (fun w hb => ?_) ?_; rotate_left; (· ((go_simp) <;> ((repeat' apply And.intro) <;> with_reducible rfl))); try simp only [Act.put, List.setIfInBounds_toArray, List.set_cons_zero, List.set_cons_succ, Nat.reduceAdd]) | (refine flow_skip (by rfl) (by rfl) ?_; try simp only [Act.put, List.setIfInBounds_toArray, List.set_cons_zero, List.set_cons_succ, Nat.reduceAdd]))
    refine flow_nil fun w1 hb1 _ => ?_
    have HB1 := Lib.hid (below_then HB.out hb1)
    go_wp2_with fail
    go_ret
    exact ⟨by rw [HD.out]; simp, HB1.out⟩
  | true =>
    refine flow_begin (tellOf [(3, det (.int .i64 U1)), (7, det (.int .i64 U2)), (20, det (.bool true)), (29, det (.bool true)), (42, det (.bool true))]) (by kernel_rfl) HLX.out ?_
    repeat (first | (refine flow_val (v := ?_) (by rfl) (by rfl) (fun w hb => ?_) ?_; rotate_left; (· ((go_simp) <;> ((repeat' apply And.intro) <;> with_reducible rfl))); try simp only [Act.put, List.setIfInBounds_toArray, List.set_cons_zero, List.set_cons_succ, Nat.reduceAdd]) | (refine flow_skip (by rfl) (by rfl) ?_; try simp only [Act.put, List.setIfInBounds_toArray, List.set_cons_zero, List.set_cons_succ, Nat.reduceAdd]))
    refine flow_call (f := ?_) (args := ?_) [] (by kernel_rfl) (by rfl) (by rfl) (fun w hb => ?_) (fun w hb hu => ?_) ?_; rotate_left 2; (· ((go_simp) <;> ((repeat' apply And.intro) <;> with_reducible rfl)))
    · exact HU1.out w
    try simp only [Act.put, List.setIfInBounds_toArray, List.set_cons_zero, List.set_cons_succ, Nat.reduceAdd]
    repeat (first | (refine flow_val (v := ?_) (by rfl) (by rfl) (fun w hb => ?_) ?_; rotate_left; (· ((go_simp) <;> ((repeat' apply And.intro) <;> with_reducible rfl))); try simp only [Act.put, List.setIfInBounds_toArray, List.set_cons_zero, List.set_cons_succ, Nat.reduceAdd]) | (refine flow_skip (by rfl) (by rfl) ?_; try simp only [Act.put, List.setIfInBounds_toArray, List.set_cons_zero, List.set_cons_succ, Nat.reduceAdd]))
    refine flow_call (f := ?_) (args := ?_) [] (by kernel_rfl) (by rfl) (by rfl) (fun w hb => ?_) (fun w hb hu => ?_) ?_; rotate_left 2; (· ((go_simp) <;> ((repeat' apply And.intro) <;> with_reducible rfl)))
    · exact HU2.out w
    try simp only [Act.put, List.setIfInBounds_toArray, List.set_cons_zero, List.set_cons_succ, Nat.reduceAdd]
    repeat (first | (refine flow_val (v := ?_) (by rfl) (by rfl) (fun w hb => ?_) ?_; rotate_left; (· ((go_simp) <;> ((repeat' apply And.intro) <;> with_reducible rfl))); try simp only [Act.put, List.setIfInBounds_toArray, List.set_cons_zero, List.set_cons_succ, Nat.reduceAdd]) | (refine flow_skip (by rfl) (by rfl) ?_; try simp only [Act.put, List.setIfInBounds_toArray, List.set_cons_zero, List.set_cons_succ, Nat.reduceAdd]))
    refine flow_lits (n := ?_) (c := ?_) (t := ?_) (cs := ?_) (by rfl) (by rfl) (fun w hb => ?_) (fun g19 hg19 => ?_); rotate_left 4; (· ((go_simp) <;> ((repeat' apply And.intro) <;> with_reducible rfl))); try simp only [Act.put, List.setIfInBounds_toArray, List.set_cons_zero, List.set_cons_succ, Nat.reduceAdd]
    repeat (first | (refine flow_val (v := ?_) (by rfl) (by rfl) (fun w hb => ?_) ?_; rotate_left; (· ((go_simp) <;> ((repeat' apply And.intro) <;> with_reducible rfl))); try simp only [Act.put, List.setIfInBounds_toArray, List.set_cons_zero, List.set_cons_succ, Nat.reduceAdd]) | (refine flow_skip (by rfl) (by rfl) ?_; try simp only [Act.put, List.setIfInBounds_toArray, List.set_cons_zero, List.set_cons_succ, Nat.reduceAdd]))
    refine flow_call (f := ?_) (args := ?_) [19] (by kernel_rfl) (by rfl) (by rfl) (fun w hb => ?_) (fun w hb hu => ?_) ?_; rotate_left 2; (· ((go_simp) <;> ((repeat' apply And.intro) <;> with_reducible rfl)))
    · exact HC3.out w g19 hb (usef_head hu)
    try simp only [Act.put, List.setIfInBounds_toArray, List.set_cons_zero, List.set_cons_succ, Nat.reduceAdd]
    repeat (first | (refine flow_val (v := ?_) (by rfl) (by rfl) (fun w hb => ?_) ?_; rotate_left; (· ((go_simp) <;> ((repeat' apply And.intro) <;> with_reducible rfl))); try simp only [Act.put, List.setIfInBounds_toArray, List.set_cons_zero, List.set_cons_succ, Nat.reduceAdd]) | (refine flow_skip (by rfl) (by rfl) ?_; try simp only [Act.put, List.setIfInBounds_toArray, List.set_cons_zero, List.set_cons_succ, Nat.reduceAdd]))
    refine flow_lits (n := ?_) (c := ?_) (t := ?_) (cs := ?_) (by rfl) (by rfl) (fun w hb => ?_) (fun g28 hg28 => ?_); rotate_left 4; (· ((go_simp) <;> ((repeat' apply And.intro) <;> with_reducible rfl))); try simp only [Act.put, List.setIfInBounds_toArray, List.set_cons_zero, List.set_cons_succ, Nat.reduceAdd]
    repeat (first | (refine flow_val (v := ?_) (by rfl) (by rfl) (fun w hb => ?_) ?_; rotate_left; (· ((go_simp) <;> ((repeat' apply And.intro) <;> with_reducible rfl))); try simp only [Act.put, List.setIfInBounds_toArray, List.set_cons_zero, List.set_cons_succ, Nat.reduceAdd]) | (refine flow_skip (by rfl) (by rfl) ?_; try simp only [Act.put, List.setIfInBounds_toArray, List.set_cons_zero, List.set_cons_succ, Nat.reduceAdd]))
    refine flow_call (f := ?_) (args := ?_) [28] (by kernel_rfl) (by rfl) (by rfl) (fun w hb => ?_) (fun w hb hu => ?_) ?_; rotate_left 2; (· ((go_simp) <;> ((repeat' apply And.intro) <;> with_reducible rfl)))
    · exact HC1.out w g28 hb (usef_head hu)
    try simp only [Act.put, List.setIfInBounds_toArray, List.set_cons_zero, List.set_cons_succ, Nat.reduceAdd]
    repeat (first | (refine flow_val (v := ?_) (by rfl) (by rfl) (fun w hb => ?_) ?_; rotate_left; (· ((go_simp) <;> ((repeat' apply And.intro) <;> with_reducible rfl))); try simp only [Act.put, List.setIfInBounds_toArray, List.set_cons_zero, List.set_cons_succ, Nat.reduceAdd]) | (refine flow_skip (by rfl) (by rfl) ?_; try simp only [Act.put, List.setIfInBounds_toArray, List.set_cons_zero, List.set_cons_succ, Nat.reduceAdd]))
    refine flow_lits (n := ?_) (c := ?_) (t := ?_) (cs := ?_) (by rfl) (by rfl) (fun w hb => ?_) (fun g41 hg41 => ?_); rotate_left 4; (· ((go_simp) <;> ((repeat' apply And.intro) <;> with_reducible rfl))); try simp only [Act.put, List.setIfInBounds_toArray, List.set_cons_zero, List.set_cons_succ, Nat.reduceAdd]
    repeat (first | (refine flow_val (v := ?_) (by rfl) (by rfl) (fun w hb => ?_) ?_; rotate_left; (· ((go_simp) <;> ((repeat' apply And.intro) <;> with_reducible rfl))); try simp only [Act.put, List.setIfInBounds_toArray, List.set_cons_zero, List.set_cons_succ, Nat.reduceAdd]) | (refine flow_skip (by rfl) (by rfl) ?_; try simp only [Act.put, List.setIfInBounds_toArray, List.set_cons_zero, List.set_cons_succ, Nat.reduceAdd]))
    refine flow_call (f := ?_) (args := ?_) [41] (by kernel_rfl) (by rfl) (by rfl) (fun w hb => ?_) (fun w hb hu => ?_) ?_; rotate_left 2; (· ((go_simp) <;> ((repeat' apply And.intro) <;> with_reducible rfl)))
    · exact HC2.out w g41 hb (usef_head hu)
    try simp only [Act.put, List.setIfInBounds_toArray, List.set_cons_zero, List.set_cons_succ, Nat.reduceAdd]
    repeat (first | (refine flow_val (v := ?_) (by rfl) (by rfl) (fun w hb => ?_) ?_; rotate_left; (· ((go_simp) <;> ((repeat' apply And.intro) <;> with_reducible rfl))); try simp only [Act.put, List.setIfInBounds_toArray, List.set_cons_zero, List.set_cons_succ, Nat.reduceAdd]) | (refine flow_skip (by rfl) (by rfl) ?_; try simp only [Act.put, List.setIfInBounds_toArray, List.set_cons_zero, List.set_cons_succ, Nat.reduceAdd]))
    refine flow_nil fun w1 hb1 _ => ?_
    have HB1 := Lib.hid (below_then HB.out hb1)
    clear t1 k1 k2 k3 k4 HC1 HC2 HC3 HU1 HU2 HLX
    go_wp2_with fail
    all_goals go_ret
    all_goals refine ⟨?_, HB1.out⟩
    all_goals rw [HD.out]
    all_goals have hc := HC0.out
    all_goals have hv := HV.out
    all_goals clear HD HC0 HV hb1 HB1 HB x10 x11 x12 x13 x14 x15 x16 x17 x20 x21 x22 x23 x24 x25 x30 x31 x32 x33 x34 x35
    all_goals rcases Nat.lt_or_ge 0 (r.wd.length + r.md.length) with hz | hz
    all_goals first | (exfalso; omega) | (rw [decide_eq_true hz, decide_eq_true hc]) | (rw [decide_eq_false (by omega : ¬ 0 < r.wd.length + r.md.length), decide_eq_true hc])
    all_goals clear hz l1 l2 hc
    all_goals clear v1 v2 v3
    all_goals simp_all
    all_goals rw [Bool.eq_iff_iff, beq_iff_eq, decide_eq_true_iff]
    all_goals omega
end Go.Proofs.YtonhmgdokghoeaaDoor

/- Contract of recur.days. -/
namespace Go.Proofs.YtonhmgdokghoeaaDoor
open Go.RowKit
set_option linter.unusedVariables false

/-- the moment of a day -/
noncomputable def mmAt (day : Int) : Mm := if h : -4000000 ≤ day ∧ day ≤ 4000000 then (mm_of day h.1 h.2).choose else ⟨0, 0, 0, 0⟩
theorem mmAt_spec {day : Int} (h1 : -4000000 ≤ day) (h2 : day ≤ 4000000) : (mmAt day).day = day ∧ MmOk (mmAt day) := by
  unfold mmAt
  rw [dif_pos ⟨h1, h2⟩]
  exact (mm_of day h1 h2).choose_spec
noncomputable def Rc.fit (r : Rc) (day : Int) : Bool := fitB r (mmAt r.fr) (mmAt day)
def Rc.low (r : Rc) (a : Int) : Int := if r.co = 0 then max r.fr a else r.fr
def Rc.num (r : Rc) (a b : Int) : Nat := (min b r.ut + 1 - r.low a).toNat
/-- the days of a recurrence in a range -/
noncomputable def Rc.days (r : Rc) (a b : Int) : List Int := daysL r.fit r.co a (r.num a b) (r.low a) 0

theorem fits_day (r : Rc) (day : Int) (w : World) (hr : RcIn w r) (ok : RcOk r) (h1 : -4000000 ≤ day) (h2 : day ≤ 4000000) :
    Calls Tryd.prog 18 #[r.val, (mmAt r.fr).val, (mmAt day).val] w fun e w' => e = .returned (.bool (r.fit day)) ∧ Below w.heap.size w w' :=
  fits_any r _ _ w hr ok (mmAt_spec ok.f1.1 ok.f1.2).2 (mmAt_spec h1 h2).2
theorem at_day (day : Int) (w : World) (h1 : -4000000 ≤ day) (h2 : day ≤ 4000000) : Calls Tryd.prog 12 #[.int .i64 day] w fun e w' => e = .returned (mmAt day).val ∧ Below w.heap.size w w' := by
  have := at_any _ (mmAt_spec h1 h2).2 w
  rwa [(mmAt_spec h1 h2).1] at this

theorem one_int (x : Int) : ∀ u ∈ [Value.int .i64 x], u.oneCell' = true := fun u hu => by simp at hu; subst hu; rfl

set_option maxHeartbeats 2000000 in
set_option maxRecDepth 100000 in
theorem days_any (r : Rc) (a b : Int) (w : World) (hr : RcIn w r) (ok : RcOk r) (ha1 : -4000000 ≤ a) (hb1 : b ≤ 4000000) (hab : a ≤ b) (hbf : b ≤ r.fr + 40000) :
    Calls Tryd.prog 11 #[r.val, .int .i64 a, .int .i64 b] w fun e w' => ∃ v, e = .returned v ∧ w'.ownsRow w.heap.size 3 1 v (r.days a b).length (ints (r.days a b)) ∧ Below w.heap.size w w' := by
  obtain ⟨i0, hi0, hz0, hz1, hz2⟩ := info_parts infoInt2
  have HB := Lib.hid (below_alloc1 w (Obj.cells r.cells 24))
  have HX := Lib.hid (Box.new w 24 r.cells)
  have HR := Lib.hid (hr.next HB.out)
  have f1 := ok.f1.1
  have f2 := ok.f1.2
  have c1 := ok.c1
  have c2 := ok.c2
  have u1 := ok.t1.1
  have u2 := ok.t1.2
  have HOK := Lib.hid ok
  clear hr ok
  obtain ⟨L, hL⟩ : ∃ L, L = r.days a b := ⟨_, rfl⟩
  rw [← hL]
  have HL := Lib.hid hL
  clear hL
  unfold Rc.days at HL
  have HAt := Lib.hid (fun W => at_day r.fr W f1 f2)
  go_enter Tryd.func11, Tryd.ntmps11
  go_wp2_with fail
  refine (HAt.out _).mono ?_
  rintro e w1 ⟨rfl, hb⟩
  have hx := (HX.out.below hb).alloc (Obj.cells (mmAt r.fr).cells 41)
  have hm := Box.new w1 41 (mmAt r.fr).cells
  replace HB := Lib.hid (below_then (below_then HB.out hb) (below_alloc1 w1 (Obj.cells (mmAt r.fr).cells 41)))
  replace HR := Lib.hid ((HR.out.next hb).next (below_alloc1 w1 (Obj.cells (mmAt r.fr).cells 41)))
  clear HX hb HAt
  obtain ⟨x0, x1, x2, x3, x4, x5, x6, x7⟩ := rcells hx
  -- THE LOOP
  have HX1 := Lib.hid hx
  have HM1 := Lib.hid hm
  have hg1 := hx.lt
  have hg2 := hm.lt
  obtain ⟨low, hlo⟩ : ∃ low, low = r.low a := ⟨_, rfl⟩
  obtain ⟨n, hn⟩ : ∃ n, n = r.num a b := ⟨_, rfl⟩
  rw [← hlo, ← hn] at HL
  unfold Rc.num at hn
  rw [← hlo] at hn
  unfold Rc.low at hlo
  have hlo1 : r.fr ≤ low := by rw [hlo]; split <;> omega
  have hlo2 : r.co = 0 → low = max r.fr a := fun h => by rw [hlo, if_pos h]
  have hlo3 : ¬ r.co = 0 → low = r.fr := fun h => by rw [hlo, if_neg h]
  clear hlo hx hm
  have hnn : n ≤ 40001 := by omega
  have HN : Hid (n = (min b r.ut + 1 - low).toNat) := hn
  clear hn
  by_cases hco : r.co = 0
  · have t0 : (r.co == 0) = true := by simpa using hco
    have hlo4 := hlo2 hco
    have HCO := Lib.hid hco
    clear hco hlo2 hlo3
    go_wp2_with fail
    · have HST : Hid (low = a) := by unfold Hid; omega
      clear hlo4
      generalize w1.alloc (Obj.cells (mmAt r.fr).cells 41) = W1 at *
      generalize w1.heap.size = g7 at *
      clear x0 x1 x2 x3 x4 x5 x6 x7
      go_loopw [8, 10, 11] (fun v c d wr => ∃ (k : Nat) (C : Int) (acc : List Int), k ≤ n ∧ 0 ≤ C ∧ C ≤ k ∧ d = .int .i64 (low + k) ∧ c = .int .i64 C ∧ wr.ownsRow W1.heap.size 3 1 v acc.length (ints acc) ∧ Hid (acc ++ daysL r.fit r.co a (n - k) (low + k) C = L) ∧ acc.length ≤ k ∧ Below W1.heap.size W1 wr) (fun _ _ d _ => n - (intOf d - low).toNat)
      case atStart => exact ⟨0, 0, [], by omega, by omega, by omega, by rw [HST.out]; simp, rfl, World.ownsRow_nil _ _ _ _, (by unfold Hid; rw [HL.out]; simp), by simp, Below.refl _ _⟩
      case round =>
        clear HST
        obtain ⟨k, C, acc, hk, hC0, hC1, rfl, rfl, hown, hacc, hal, hbr⟩ := hrel
        have X1 := HX1.out.below hbr
        have X2 := HM1.out.below hbr
        have HRr := Lib.hid (HR.out.next hbr)
        obtain ⟨M, hM⟩ : ∃ M, (if r.ut < b then r.ut else b) = M := ⟨_, rfl⟩
        have hM2 : M = min b r.ut := by rw [← hM]; split <;> omega
        have x4 : wr.cell? ⟨w.heap.size, 4, none⟩ = some (.int .i64 r.ut) := X1.cell 4
        by_cases hkn : k < n
        · have d1 : low + (k : Int) ≤ M := by have := HN.out; omega
          have t1 : decide (low + (k : Int) ≤ M) = true := decide_eq_true d1
          have d2 : -4000000 ≤ low + (k : Int) := by omega
          have d3 : low + (k : Int) ≤ 4000000 := by omega
          have hacc' := hacc.out
          rw [show n - k = (n - (k + 1)) + 1 from by omega] at hacc'
          unfold daysL at hacc'
          have HF := Lib.hid (fun W hb => fits_day r (low + (k : Int)) W (HRr.out.next hb) HOK.out d2 d3)
          have HA := Lib.hid (fun W => at_day (low + (k : Int)) W d2 d3)
          have e1 : IntKind.i64.wrap (low + (k : Int) + 1) = low + (k : Int) + 1 := intFits _ (by omega) (by omega)
          have e2 : IntKind.i64.wrap (C + 1) = C + 1 := intFits _ (by omega) (by omega)
          have HDK : Hid (low + ((k + 1 : Nat) : Int) = low + (k : Int) + 1) := by unfold Hid; omega
          rw [← HDK.out] at hacc'
          have HACC := Lib.hid hacc'
          clear hacc hacc' HM1 HX1
          go_upto_region 10 with fail
          clear hM t1 hM2 d1 x4
          have c0 := fun W (hb : Below wr.heap.size wr W) => rcells (X1.below hb)
          have m0 := fun W (hb : Below wr.heap.size wr W) => (X2.below hb).cell 0
          have m1 := fun W (hb : Below wr.heap.size wr W) => (X2.below hb).cell 1
          have m2 := fun W (hb : Below wr.heap.size wr W) => (X2.below hb).cell 2
          have m3 := fun W (hb : Below wr.heap.size wr W) => (X2.below hb).cell 3
          have m4 := fun W (hb : Below wr.heap.size wr W) => (X2.below hb).cell 4
          have m5 := fun W (hb : Below wr.heap.size wr W) => (X2.below hb).cell 5
          simp only [List.getElem?_toArray, List.getElem?_cons_zero, List.getElem?_cons_succ] at m0 m1 m2 m3 m4 m5
          refine flow_begin (tellOf [(3, det (mmAt (low + (k : Int))).val), (4, det (.bool (r.fit (low + (k : Int)))))]) (by kernel_rfl) (by kernel_rfl) ?_
          repeat (first | (refine flow_val (v := ?_) (by rfl) (by rfl) (fun w hb => ?_) ?_; rotate_left; (· ((go_simp) <;> ((repeat' apply And.intro) <;> with_reducible rfl))); try simp only [Act.put, List.setIfInBounds_toArray, List.set_cons_zero, List.set_cons_succ, Nat.reduceAdd]) | (refine flow_skip (by rfl) (by rfl) ?_; try simp only [Act.put, List.setIfInBounds_toArray, List.set_cons_zero, List.set_cons_succ, Nat.reduceAdd]))
          refine flow_call (f := ?_) (args := ?_) [] (by kernel_rfl) (by rfl) (by rfl) (fun w hb => ?_) (fun w hb hu => ?_) ?_; rotate_left 2; (· ((go_simp) <;> ((repeat' apply And.intro) <;> with_reducible rfl)))
          · exact HA.out w
          try simp only [Act.put, List.setIfInBounds_toArray, List.set_cons_zero, List.set_cons_succ, Nat.reduceAdd]
          refine flow_call (f := ?_) (args := ?_) [] (by kernel_rfl) (by rfl) (by rfl) (fun w hb => ?_) (fun w hb hu => ?_) ?_; rotate_left 2; (· ((go_simp) <;> ((repeat' apply And.intro) <;> with_reducible rfl)))
          · exact HF.out w hb
          try simp only [Act.put, List.setIfInBounds_toArray, List.set_cons_zero, List.set_cons_succ, Nat.reduceAdd]
          repeat (first | (refine flow_val (v := ?_) (by rfl) (by rfl) (fun w hb => ?_) ?_; rotate_left; (· ((go_simp) <;> ((repeat' apply And.intro) <;> with_reducible rfl))); try simp only [Act.put, List.setIfInBounds_toArray, List.set_cons_zero, List.set_cons_succ, Nat.reduceAdd]) | (refine flow_skip (by rfl) (by rfl) ?_; try simp only [Act.put, List.setIfInBounds_toArray, List.set_cons_zero, List.set_cons_succ, Nat.reduceAdd]))
          refine flow_nil fun w2 hb2 _ => ?_
          clear m0 m1 m2 m3 m4 m5 c0 HA HF
          replace X1 := X1.below hb2
          replace X2 := X2.below hb2
          have x3 : w2.cell? ⟨w.heap.size, 3, none⟩ = some (.int .i64 r.co) := X1.cell 3
          replace hown := own_next hown hb2
          replace hbr := below_then hbr hb2
          have hzr := hbr.size
          clear hb2
          generalize r.fit (low + (k : Int)) = F at *
          cases F with
          | false =>
            rw [if_neg (by simp)] at HACC
            go_wp2_with fail
            go_roundw
            case rel => exact ⟨k + 1, C, acc, by omega, by omega, by omega, by rw [HDK.out], rfl, hown, HACC, by omega, hbr⟩
            case measure => (simp [intOf]) <;> omega
          | true =>
            rw [if_pos rfl] at HACC
            by_cases hbk : 0 < r.co ∧ r.co < C + 1
            · rw [if_pos hbk] at HACC
              obtain ⟨q1, q2⟩ := hbk
              have t2 : decide (0 < r.co) = true := decide_eq_true q1
              have t3 : decide (r.co < C + 1) = true := decide_eq_true q2
              have HQ : Hid (acc = L) := by have := HACC.out; unfold Hid; simpa using this
              obtain rfl := HQ.out
              clear HACC HQ
              go_wp2_with fail
              go_ret
              exact ⟨u8, rfl, own_lower hown (by have := HB.out.size; omega), below_then HB.out hbr⟩
            · rw [if_neg hbk] at HACC
              have HBK := Lib.hid hbk
              clear hbk
              by_cases q1 : 0 < r.co
              · have t2 : decide (0 < r.co) = true := decide_eq_true q1
                have t3 : decide (r.co < C + 1) = false := decide_eq_false (fun h => HBK.out ⟨q1, h⟩)
                by_cases q3 : a ≤ low + (k : Int)
                · rw [if_pos q3] at HACC
                  have t4 : decide (a ≤ low + (k : Int)) = true := decide_eq_true q3
                  go_wp2_with (at_builtin; refine wpList_append_own _ rfl (.tmp 52) (.tmp 54) 22 rfl W1.heap.size 3 i0 (.int .i64 0) 1 8 Tryd.underlying22 hi0 hz0 hz1 hz2 rfl (by decide) u8 acc.length _ rfl (hown.alloc _) ⟨w2.heap.size, 0, none⟩ 1 1 [.int .i64 (low + (k : Int))] rfl rfl (cell_one_new _ _ _) (one_int _) ?c3x1 ?c4x1 ?c5x1 ?_)
                  try (case c3x1 => first | omega | (simp only [maxLen]; omega) | (simp; omega))
                  try (case c4x1 => first | omega | (simp only [maxLen]; omega) | (simp; omega))
                  try (case c5x1 => first | omega | (simp only [maxLen]; omega) | (simp; omega))
                  intro v' w3 hown' hgrow _
                  have hb3 : Below W1.heap.size W1 w3 := (hbr.alloc hzr _).grown hgrow (by simp; omega) (own_base hown)
                  rw [← ints_snoc] at hown'
                  clear hown hgrow hbr
                  go_wp2_with fail
                  go_roundw
                  case rel => exact ⟨k + 1, C + 1, acc ++ [low + (k : Int)], by omega, by omega, by omega, by rw [HDK.out], rfl, by rw [List.length_append]; exact hown', (by have := HACC.out; rw [List.append_assoc]; exact this), by rw [List.length_append]; simp; omega, hb3⟩
                  case measure => (simp [intOf]) <;> omega
                · rw [if_neg q3, List.nil_append] at HACC
                  have t4 : decide (a ≤ low + (k : Int)) = false := decide_eq_false q3
                  go_wp2_with fail
                  all_goals go_roundw
                  all_goals first | exact ⟨k + 1, C + 1, acc, by omega, by omega, by omega, by rw [HDK.out], rfl, hown, HACC, by omega, hbr⟩ | ((simp [intOf]) <;> omega)
              · have t2 : decide (0 < r.co) = false := decide_eq_false q1
                by_cases q3 : a ≤ low + (k : Int)
                · rw [if_pos q3] at HACC
                  have t4 : decide (a ≤ low + (k : Int)) = true := decide_eq_true q3
                  go_wp2_with (at_builtin; refine wpList_append_own _ rfl (.tmp 52) (.tmp 54) 22 rfl W1.heap.size 3 i0 (.int .i64 0) 1 8 Tryd.underlying22 hi0 hz0 hz1 hz2 rfl (by decide) u8 acc.length _ rfl (hown.alloc _) ⟨w2.heap.size, 0, none⟩ 1 1 [.int .i64 (low + (k : Int))] rfl rfl (cell_one_new _ _ _) (one_int _) ?c3x2 ?c4x2 ?c5x2 ?_)
                  try (case c3x2 => first | omega | (simp only [maxLen]; omega) | (simp; omega))
                  try (case c4x2 => first | omega | (simp only [maxLen]; omega) | (simp; omega))
                  try (case c5x2 => first | omega | (simp only [maxLen]; omega) | (simp; omega))
                  intro v' w3 hown' hgrow _
                  have hb3 : Below W1.heap.size W1 w3 := (hbr.alloc hzr _).grown hgrow (by simp; omega) (own_base hown)
                  rw [← ints_snoc] at hown'
                  clear hown hgrow hbr
                  go_wp2_with fail
                  go_roundw
                  case rel => exact ⟨k + 1, C + 1, acc ++ [low + (k : Int)], by omega, by omega, by omega, by rw [HDK.out], rfl, by rw [List.length_append]; exact hown', (by have := HACC.out; rw [List.append_assoc]; exact this), by rw [List.length_append]; simp; omega, hb3⟩
                  case measure => (simp [intOf]) <;> omega
                · rw [if_neg q3, List.nil_append] at HACC
                  have t4 : decide (a ≤ low + (k : Int)) = false := decide_eq_false q3
                  go_wp2_with fail
                  all_goals go_roundw
                  all_goals first | exact ⟨k + 1, C + 1, acc, by omega, by omega, by omega, by rw [HDK.out], rfl, hown, HACC, by omega, hbr⟩ | ((simp [intOf]) <;> omega)
        · have t1 : decide (low + (k : Int) ≤ M) = false := decide_eq_false (by have := HN.out; omega)
          have HQ : Hid (acc = L) := by
            have := hacc.out
            rw [show n - k = 0 from by omega] at this
            unfold Hid
            simpa [daysL] using this
          obtain rfl := HQ.out
          clear hacc HQ hM2
          go_wp2_with fail
          go_ret
          exact ⟨u8, rfl, own_lower hown (by have := HB.out.size; omega), below_then HB.out hbr⟩
    · have HST : Hid (low = r.fr) := by unfold Hid; omega
      clear hlo4
      generalize w1.alloc (Obj.cells (mmAt r.fr).cells 41) = W1 at *
      generalize w1.heap.size = g7 at *
      clear x0 x1 x2 x3 x4 x5 x6 x7
      go_loopw [8, 10, 11] (fun v c d wr => ∃ (k : Nat) (C : Int) (acc : List Int), k ≤ n ∧ 0 ≤ C ∧ C ≤ k ∧ d = .int .i64 (low + k) ∧ c = .int .i64 C ∧ wr.ownsRow W1.heap.size 3 1 v acc.length (ints acc) ∧ Hid (acc ++ daysL r.fit r.co a (n - k) (low + k) C = L) ∧ acc.length ≤ k ∧ Below W1.heap.size W1 wr) (fun _ _ d _ => n - (intOf d - low).toNat)
      case atStart => exact ⟨0, 0, [], by omega, by omega, by omega, by rw [HST.out]; simp, rfl, World.ownsRow_nil _ _ _ _, (by unfold Hid; rw [HL.out]; simp), by simp, Below.refl _ _⟩
      case round =>
        clear HST
        obtain ⟨k, C, acc, hk, hC0, hC1, rfl, rfl, hown, hacc, hal, hbr⟩ := hrel
        have X1 := HX1.out.below hbr
        have X2 := HM1.out.below hbr
        have HRr := Lib.hid (HR.out.next hbr)
        obtain ⟨M, hM⟩ : ∃ M, (if r.ut < b then r.ut else b) = M := ⟨_, rfl⟩
        have hM2 : M = min b r.ut := by rw [← hM]; split <;> omega
        have x4 : wr.cell? ⟨w.heap.size, 4, none⟩ = some (.int .i64 r.ut) := X1.cell 4
        by_cases hkn : k < n
        · have d1 : low + (k : Int) ≤ M := by have := HN.out; omega
          have t1 : decide (low + (k : Int) ≤ M) = true := decide_eq_true d1
          have d2 : -4000000 ≤ low + (k : Int) := by omega
          have d3 : low + (k : Int) ≤ 4000000 := by omega
          have hacc' := hacc.out
          rw [show n - k = (n - (k + 1)) + 1 from by omega] at hacc'
          unfold daysL at hacc'
          have HF := Lib.hid (fun W hb => fits_day r (low + (k : Int)) W (HRr.out.next hb) HOK.out d2 d3)
          have HA := Lib.hid (fun W => at_day (low + (k : Int)) W d2 d3)
          have e1 : IntKind.i64.wrap (low + (k : Int) + 1) = low + (k : Int) + 1 := intFits _ (by omega) (by omega)
          have e2 : IntKind.i64.wrap (C + 1) = C + 1 := intFits _ (by omega) (by omega)
          have HDK : Hid (low + ((k + 1 : Nat) : Int) = low + (k : Int) + 1) := by unfold Hid; omega
          rw [← HDK.out] at hacc'
          have HACC := Lib.hid hacc'
          clear hacc hacc' HM1 HX1
          go_upto_region 10 with fail
          clear hM t1 hM2 d1 x4
          have c0 := fun W (hb : Below wr.heap.size wr W) => rcells (X1.below hb)
          have m0 := fun W (hb : Below wr.heap.size wr W) => (X2.below hb).cell 0
          have m1 := fun W (hb : Below wr.heap.size wr W) => (X2.below hb).cell 1
          have m2 := fun W (hb : Below wr.heap.size wr W) => (X2.below hb).cell 2
          have m3 := fun W (hb : Below wr.heap.size wr W) => (X2.below hb).cell 3
          have m4 := fun W (hb : Below wr.heap.size wr W) => (X2.below hb).cell 4
          have m5 := fun W (hb : Below wr.heap.size wr W) => (X2.below hb).cell 5
          simp only [List.getElem?_toArray, List.getElem?_cons_zero, List.getElem?_cons_succ] at m0 m1 m2 m3 m4 m5
          refine flow_begin (tellOf [(3, det (mmAt (low + (k : Int))).val), (4, det (.bool (r.fit (low + (k : Int)))))]) (by kernel_rfl) (by kernel_rfl) ?_
          repeat (first | (refine flow_val (v := ?_) (by rfl) (by rfl) (fun w hb => ?_) ?_; rotate_left; (· ((go_simp) <;> ((repeat' apply And.intro) <;> with_reducible rfl))); try simp only [Act.put, List.setIfInBounds_toArray, List.set_cons_zero, List.set_cons_succ, Nat.reduceAdd]) | (refine flow_skip (by rfl) (by rfl) ?_; try simp only [Act.put, List.setIfInBounds_toArray, List.set_cons_zero, List.set_cons_succ, Nat.reduceAdd]))
          refine flow_call (f := ?_) (args := ?_) [] (by kernel_rfl) (by rfl) (by rfl) (fun w hb => ?_) (fun w hb hu => ?_) ?_; rotate_left 2; (· ((go_simp) <;> ((repeat' apply And.intro) <;> with_reducible rfl)))
          · exact HA.out w
          try simp only [Act.put, List.setIfInBounds_toArray, List.set_cons_zero, List.set_cons_succ, Nat.reduceAdd]
          refine flow_call (f := ?_) (args := ?_) [] (by kernel_rfl) (by rfl) (by rfl) (fun w hb => ?_) (fun w hb hu => ?_) ?_; rotate_left 2; (· ((go_simp) <;> ((repeat' apply And.intro) <;> with_reducible rfl)))
          · exact HF.out w hb
          try simp only [Act.put, List.setIfInBounds_toArray, List.set_cons_zero, List.set_cons_succ, Nat.reduceAdd]
          repeat (first | (refine flow_val (v := ?_) (by rfl) (by rfl) (fun w hb => ?_) ?_; rotate_left; (· ((go_simp) <;> ((repeat' apply And.intro) <;> with_reducible rfl))); try simp only [Act.put, List.setIfInBounds_toArray, List.set_cons_zero, List.set_cons_succ, Nat.reduceAdd]) | (refine flow_skip (by rfl) (by rfl) ?_; try simp only [Act.put, List.setIfInBounds_toArray, List.set_cons_zero, List.set_cons_succ, Nat.reduceAdd]))
          refine flow_nil fun w2 hb2 _ => ?_
          clear m0 m1 m2 m3 m4 m5 c0 HA HF
          replace X1 := X1.below hb2
          replace X2 := X2.below hb2
          have x3 : w2.cell? ⟨w.heap.size, 3, none⟩ = some (.int .i64 r.co) := X1.cell 3
          replace hown := own_next hown hb2
          replace hbr := below_then hbr hb2
          have hzr := hbr.size
          clear hb2
          generalize r.fit (low + (k : Int)) = F at *
          cases F with
          | false =>
            rw [if_neg (by simp)] at HACC
            go_wp2_with fail
            go_roundw
            case rel => exact ⟨k + 1, C, acc, by omega, by omega, by omega, by rw [HDK.out], rfl, hown, HACC, by omega, hbr⟩
            case measure => (simp [intOf]) <;> omega
          | true =>
            rw [if_pos rfl] at HACC
            by_cases hbk : 0 < r.co ∧ r.co < C + 1
            · rw [if_pos hbk] at HACC
              obtain ⟨q1, q2⟩ := hbk
              have t2 : decide (0 < r.co) = true := decide_eq_true q1
              have t3 : decide (r.co < C + 1) = true := decide_eq_true q2
              have HQ : Hid (acc = L) := by have := HACC.out; unfold Hid; simpa using this
              obtain rfl := HQ.out
              clear HACC HQ
              go_wp2_with fail
              go_ret
              exact ⟨u8, rfl, own_lower hown (by have := HB.out.size; omega), below_then HB.out hbr⟩
            · rw [if_neg hbk] at HACC
              have HBK := Lib.hid hbk
              clear hbk
              by_cases q1 : 0 < r.co
              · have t2 : decide (0 < r.co) = true := decide_eq_true q1
                have t3 : decide (r.co < C + 1) = false := decide_eq_false (fun h => HBK.out ⟨q1, h⟩)
                by_cases q3 : a ≤ low + (k : Int)
                · rw [if_pos q3] at HACC
                  have t4 : decide (a ≤ low + (k : Int)) = true := decide_eq_true q3
                  go_wp2_with (at_builtin; refine wpList_append_own _ rfl (.tmp 52) (.tmp 54) 22 rfl W1.heap.size 3 i0 (.int .i64 0) 1 8 Tryd.underlying22 hi0 hz0 hz1 hz2 rfl (by decide) u8 acc.length _ rfl (hown.alloc _) ⟨w2.heap.size, 0, none⟩ 1 1 [.int .i64 (low + (k : Int))] rfl rfl (cell_one_new _ _ _) (one_int _) ?c3x3 ?c4x3 ?c5x3 ?_)
                  try (case c3x3 => first | omega | (simp only [maxLen]; omega) | (simp; omega))
                  try (case c4x3 => first | omega | (simp only [maxLen]; omega) | (simp; omega))
                  try (case c5x3 => first | omega | (simp only [maxLen]; omega) | (simp; omega))
                  intro v' w3 hown' hgrow _
                  have hb3 : Below W1.heap.size W1 w3 := (hbr.alloc hzr _).grown hgrow (by simp; omega) (own_base hown)
                  rw [← ints_snoc] at hown'
                  clear hown hgrow hbr
                  go_wp2_with fail
                  go_roundw
                  case rel => exact ⟨k + 1, C + 1, acc ++ [low + (k : Int)], by omega, by omega, by omega, by rw [HDK.out], rfl, by rw [List.length_append]; exact hown', (by have := HACC.out; rw [List.append_assoc]; exact this), by rw [List.length_append]; simp; omega, hb3⟩
                  case measure => (simp [intOf]) <;> omega
                · rw [if_neg q3, List.nil_append] at HACC
                  have t4 : decide (a ≤ low + (k : Int)) = false := decide_eq_false q3
                  go_wp2_with fail
                  all_goals go_roundw
                  all_goals first | exact ⟨k + 1, C + 1, acc, by omega, by omega, by omega, by rw [HDK.out], rfl, hown, HACC, by omega, hbr⟩ | ((simp [intOf]) <;> omega)
              · have t2 : decide (0 < r.co) = false := decide_eq_false q1
                by_cases q3 : a ≤ low + (k : Int)
                · rw [if_pos q3] at HACC
                  have t4 : decide (a ≤ low + (k : Int)) = true := decide_eq_true q3
                  go_wp2_with (at_builtin; refine wpList_append_own _ rfl (.tmp 52) (.tmp 54) 22 rfl W1.heap.size 3 i0 (.int .i64 0) 1 8 Tryd.underlying22 hi0 hz0 hz1 hz2 rfl (by decide) u8 acc.length _ rfl (hown.alloc _) ⟨w2.heap.size, 0, none⟩ 1 1 [.int .i64 (low + (k : Int))] rfl rfl (cell_one_new _ _ _) (one_int _) ?c3x4 ?c4x4 ?c5x4 ?_)
                  try (case c3x4 => first | omega | (simp only [maxLen]; omega) | (simp; omega))
                  try (case c4x4 => first | omega | (simp only [maxLen]; omega) | (simp; omega))
                  try (case c5x4 => first | omega | (simp only [maxLen]; omega) | (simp; omega))
                  intro v' w3 hown' hgrow _
                  have hb3 : Below W1.heap.size W1 w3 := (hbr.alloc hzr _).grown hgrow (by simp; omega) (own_base hown)
                  rw [← ints_snoc] at hown'
                  clear hown hgrow hbr
                  go_wp2_with fail
                  go_roundw
                  case rel => exact ⟨k + 1, C + 1, acc ++ [low + (k : Int)], by omega, by omega, by omega, by rw [HDK.out], rfl, by rw [List.length_append]; exact hown', (by have := HACC.out; rw [List.append_assoc]; exact this), by rw [List.length_append]; simp; omega, hb3⟩
                  case measure => (simp [intOf]) <;> omega
                · rw [if_neg q3, List.nil_append] at HACC
                  have t4 : decide (a ≤ low + (k : Int)) = false := decide_eq_false q3
                  go_wp2_with fail
                  all_goals go_roundw
                  all_goals first | exact ⟨k + 1, C + 1, acc, by omega, by omega, by omega, by rw [HDK.out], rfl, hown, HACC, by omega, hbr⟩ | ((simp [intOf]) <;> omega)
        · have t1 : decide (low + (k : Int) ≤ M) = false := decide_eq_false (by have := HN.out; omega)
          have HQ : Hid (acc = L) := by
            have := hacc.out
            rw [show n - k = 0 from by omega] at this
            unfold Hid
            simpa [daysL] using this
          obtain rfl := HQ.out
          clear hacc HQ hM2
          go_wp2_with fail
          go_ret
          exact ⟨u8, rfl, own_lower hown (by have := HB.out.size; omega), below_then HB.out hbr⟩
  · have t0 : (r.co == 0) = false := by simpa using hco
    have hlo4 := hlo3 hco
    have HCO := Lib.hid hco
    clear hco hlo2 hlo3
    go_wp2_with fail
    · have HST : Hid (low = r.fr) := hlo4
      clear hlo4
      generalize w1.alloc (Obj.cells (mmAt r.fr).cells 41) = W1 at *
      generalize w1.heap.size = g7 at *
      clear x0 x1 x2 x3 x4 x5 x6 x7
      go_loopw [8, 10, 11] (fun v c d wr => ∃ (k : Nat) (C : Int) (acc : List Int), k ≤ n ∧ 0 ≤ C ∧ C ≤ k ∧ d = .int .i64 (low + k) ∧ c = .int .i64 C ∧ wr.ownsRow W1.heap.size 3 1 v acc.length (ints acc) ∧ Hid (acc ++ daysL r.fit r.co a (n - k) (low + k) C = L) ∧ acc.length ≤ k ∧ Below W1.heap.size W1 wr) (fun _ _ d _ => n - (intOf d - low).toNat)
      case atStart => exact ⟨0, 0, [], by omega, by omega, by omega, by rw [HST.out]; simp, rfl, World.ownsRow_nil _ _ _ _, (by unfold Hid; rw [HL.out]; simp), by simp, Below.refl _ _⟩
      case round =>
        clear HST
        obtain ⟨k, C, acc, hk, hC0, hC1, rfl, rfl, hown, hacc, hal, hbr⟩ := hrel
        have X1 := HX1.out.below hbr
        have X2 := HM1.out.below hbr
        have HRr := Lib.hid (HR.out.next hbr)
        obtain ⟨M, hM⟩ : ∃ M, (if r.ut < b then r.ut else b) = M := ⟨_, rfl⟩
        have hM2 : M = min b r.ut := by rw [← hM]; split <;> omega
        have x4 : wr.cell? ⟨w.heap.size, 4, none⟩ = some (.int .i64 r.ut) := X1.cell 4
        by_cases hkn : k < n
        · have d1 : low + (k : Int) ≤ M := by have := HN.out; omega
          have t1 : decide (low + (k : Int) ≤ M) = true := decide_eq_true d1
          have d2 : -4000000 ≤ low + (k : Int) := by omega
          have d3 : low + (k : Int) ≤ 4000000 := by omega
          have hacc' := hacc.out
          rw [show n - k = (n - (k + 1)) + 1 from by omega] at hacc'
          unfold daysL at hacc'
          have HF := Lib.hid (fun W hb => fits_day r (low + (k : Int)) W (HRr.out.next hb) HOK.out d2 d3)
          have HA := Lib.hid (fun W => at_day (low + (k : Int)) W d2 d3)
          have e1 : IntKind.i64.wrap (low + (k : Int) + 1) = low + (k : Int) + 1 := intFits _ (by omega) (by omega)
          have e2 : IntKind.i64.wrap (C + 1) = C + 1 := intFits _ (by omega) (by omega)
          have HDK : Hid (low + ((k + 1 : Nat) : Int) = low + (k : Int) + 1) := by unfold Hid; omega
          rw [← HDK.out] at hacc'
          have HACC := Lib.hid hacc'
          clear hacc hacc' HM1 HX1
          go_upto_region 10 with fail
          clear hM t1 hM2 d1 x4
          have c0 := fun W (hb : Below wr.heap.size wr W) => rcells (X1.below hb)
          have m0 := fun W (hb : Below wr.heap.size wr W) => (X2.below hb).cell 0
          have m1 := fun W (hb : Below wr.heap.size wr W) => (X2.below hb).cell 1
          have m2 := fun W (hb : Below wr.heap.size wr W) => (X2.below hb).cell 2
          have m3 := fun W (hb : Below wr.heap.size wr W) => (X2.below hb).cell 3
          have m4 := fun W (hb : Below wr.heap.size wr W) => (X2.below hb).cell 4
          have m5 := fun W (hb : Below wr.heap.size wr W) => (X2.below hb).cell 5
          simp only [List.getElem?_toArray, List.getElem?_cons_zero, List.getElem?_cons_succ] at m0 m1 m2 m3 m4 m5
          refine flow_begin (tellOf [(3, det (mmAt (low + (k : Int))).val), (4, det (.bool (r.fit (low + (k : Int)))))]) (by kernel_rfl) (by kernel_rfl) ?_
          repeat (first | (refine flow_val (v := ?_) (by rfl) (by rfl) (fun w hb => ?_) ?_; rotate_left; (· ((go_simp) <;> ((repeat' apply And.intro) <;> with_reducible rfl))); try simp only [Act.put, List.setIfInBounds_toArray, List.set_cons_zero, List.set_cons_succ, Nat.reduceAdd]) | (refine flow_skip (by rfl) (by rfl) ?_; try simp only [Act.put, List.setIfInBounds_toArray, List.set_cons_zero, List.set_cons_succ, Nat.reduceAdd]))
          refine flow_call (f := ?_) (args := ?_) [] (by kernel_rfl) (by rfl) (by rfl) (fun w hb => ?_) (fun w hb hu => ?_) ?_; rotate_left 2; (· ((go_simp) <;> ((repeat' apply And.intro) <;> with_reducible rfl)))
          · exact HA.out w
          try simp only [Act.put, List.setIfInBounds_toArray, List.set_cons_zero, List.set_cons_succ, Nat.reduceAdd]
          refine flow_call (f := ?_) (args := ?_) [] (by kernel_rfl) (by rfl) (by rfl) (fun w hb => ?_) (fun w hb hu => ?_) ?_; rotate_left 2; (· ((go_simp) <;> ((repeat' apply And.intro) <;> with_reducible rfl)))
          · exact HF.out w hb
          try simp only [Act.put, List.setIfInBounds_toArray, List.set_cons_zero, List.set_cons_succ, Nat.reduceAdd]
          repeat (first | (refine flow_val (v := ?_) (by rfl) (by rfl) (fun w hb => ?_) ?_; rotate_left; (· ((go_simp) <;> ((repeat' apply And.intro) <;> with_reducible rfl))); try simp only [Act.put, List.setIfInBounds_toArray, List.set_cons_zero, List.set_cons_succ, Nat.reduceAdd]) | (refine flow_skip (by rfl) (by rfl) ?_; try simp only [Act.put, List.setIfInBounds_toArray, List.set_cons_zero, List.set_cons_succ, Nat.reduceAdd]))
          refine flow_nil fun w2 hb2 _ => ?_
          clear m0 m1 m2 m3 m4 m5 c0 HA HF
          replace X1 := X1.below hb2
          replace X2 := X2.below hb2
          have x3 : w2.cell? ⟨w.heap.size, 3, none⟩ = some (.int .i64 r.co) := X1.cell 3
          replace hown := own_next hown hb2
          replace hbr := below_then hbr hb2
          have hzr := hbr.size
          clear hb2
          generalize r.fit (low + (k : Int)) = F at *
          cases F with
          | false =>
            rw [if_neg (by simp)] at HACC
            go_wp2_with fail
            go_roundw
            case rel => exact ⟨k + 1, C, acc, by omega, by omega, by omega, by rw [HDK.out], rfl, hown, HACC, by omega, hbr⟩
            case measure => (simp [intOf]) <;> omega
          | true =>
            rw [if_pos rfl] at HACC
            by_cases hbk : 0 < r.co ∧ r.co < C + 1
            · rw [if_pos hbk] at HACC
              obtain ⟨q1, q2⟩ := hbk
              have t2 : decide (0 < r.co) = true := decide_eq_true q1
              have t3 : decide (r.co < C + 1) = true := decide_eq_true q2
              have HQ : Hid (acc = L) := by have := HACC.out; unfold Hid; simpa using this
              obtain rfl := HQ.out
              clear HACC HQ
              go_wp2_with fail
              go_ret
              exact ⟨u8, rfl, own_lower hown (by have := HB.out.size; omega), below_then HB.out hbr⟩
            · rw [if_neg hbk] at HACC
              have HBK := Lib.hid hbk
              clear hbk
              by_cases q1 : 0 < r.co
              · have t2 : decide (0 < r.co) = true := decide_eq_true q1
                have t3 : decide (r.co < C + 1) = false := decide_eq_false (fun h => HBK.out ⟨q1, h⟩)
                by_cases q3 : a ≤ low + (k : Int)
                · rw [if_pos q3] at HACC
                  have t4 : decide (a ≤ low + (k : Int)) = true := decide_eq_true q3
                  go_wp2_with (at_builtin; refine wpList_append_own _ rfl (.tmp 52) (.tmp 54) 22 rfl W1.heap.size 3 i0 (.int .i64 0) 1 8 Tryd.underlying22 hi0 hz0 hz1 hz2 rfl (by decide) u8 acc.length _ rfl (hown.alloc _) ⟨w2.heap.size, 0, none⟩ 1 1 [.int .i64 (low + (k : Int))] rfl rfl (cell_one_new _ _ _) (one_int _) ?c3x5 ?c4x5 ?c5x5 ?_)
                  try (case c3x5 => first | omega | (simp only [maxLen]; omega) | (simp; omega))
                  try (case c4x5 => first | omega | (simp only [maxLen]; omega) | (simp; omega))
                  try (case c5x5 => first | omega | (simp only [maxLen]; omega) | (simp; omega))
                  intro v' w3 hown' hgrow _
                  have hb3 : Below W1.heap.size W1 w3 := (hbr.alloc hzr _).grown hgrow (by simp; omega) (own_base hown)
                  rw [← ints_snoc] at hown'
                  clear hown hgrow hbr
                  go_wp2_with fail
                  go_roundw
                  case rel => exact ⟨k + 1, C + 1, acc ++ [low + (k : Int)], by omega, by omega, by omega, by rw [HDK.out], rfl, by rw [List.length_append]; exact hown', (by have := HACC.out; rw [List.append_assoc]; exact this), by rw [List.length_append]; simp; omega, hb3⟩
                  case measure => (simp [intOf]) <;> omega
                · rw [if_neg q3, List.nil_append] at HACC
                  have t4 : decide (a ≤ low + (k : Int)) = false := decide_eq_false q3
                  go_wp2_with fail
                  all_goals go_roundw
                  all_goals first | exact ⟨k + 1, C + 1, acc, by omega, by omega, by omega, by rw [HDK.out], rfl, hown, HACC, by omega, hbr⟩ | ((simp [intOf]) <;> omega)
              · have t2 : decide (0 < r.co) = false := decide_eq_false q1
                by_cases q3 : a ≤ low + (k : Int)
                · rw [if_pos q3] at HACC
                  have t4 : decide (a ≤ low + (k : Int)) = true := decide_eq_true q3
                  go_wp2_with (at_builtin; refine wpList_append_own _ rfl (.tmp 52) (.tmp 54) 22 rfl W1.heap.size 3 i0 (.int .i64 0) 1 8 Tryd.underlying22 hi0 hz0 hz1 hz2 rfl (by decide) u8 acc.length _ rfl (hown.alloc _) ⟨w2.heap.size, 0, none⟩ 1 1 [.int .i64 (low + (k : Int))] rfl rfl (cell_one_new _ _ _) (one_int _) ?c3x6 ?c4x6 ?c5x6 ?_)
                  try (case c3x6 => first | omega | (simp only [maxLen]; omega) | (simp; omega))
                  try (case c4x6 => first | omega | (simp only [maxLen]; omega) | (simp; omega))
                  try (case c5x6 => first | omega | (simp only [maxLen]; omega) | (simp; omega))
                  intro v' w3 hown' hgrow _
                  have hb3 : Below W1.heap.size W1 w3 := (hbr.alloc hzr _).grown hgrow (by simp; omega) (own_base hown)
                  rw [← ints_snoc] at hown'
                  clear hown hgrow hbr
                  go_wp2_with fail
                  go_roundw
                  case rel => exact ⟨k + 1, C + 1, acc ++ [low + (k : Int)], by omega, by omega, by omega, by rw [HDK.out], rfl, by rw [List.length_append]; exact hown', (by have := HACC.out; rw [List.append_assoc]; exact this), by rw [List.length_append]; simp; omega, hb3⟩
                  case measure => (simp [intOf]) <;> omega
                · rw [if_neg q3, List.nil_append] at HACC
                  have t4 : decide (a ≤ low + (k : Int)) = false := decide_eq_false q3
                  go_wp2_with fail
                  all_goals go_roundw
                  all_goals first | exact ⟨k + 1, C + 1, acc, by omega, by omega, by omega, by rw [HDK.out], rfl, hown, HACC, by omega, hbr⟩ | ((simp [intOf]) <;> omega)
        · have t1 : decide (low + (k : Int) ≤ M) = false := decide_eq_false (by have := HN.out; omega)
          have HQ : Hid (acc = L) := by
            have := hacc.out
            rw [show n - k = 0 from by omega] at this
            unfold Hid
            simpa [daysL] using this
          obtain rfl := HQ.out
          clear hacc HQ hM2
          go_wp2_with fail
          go_ret
          exact ⟨u8, rfl, own_lower hown (by have := HB.out.size; omega), below_then HB.out hbr⟩
end Go.Proofs.YtonhmgdokghoeaaDoor

/- Contract of recur.Days; the daily recurrence; a recurrence that came in as an argument. -/
namespace Go.Proofs.YtonhmgdokghoeaaDoor
open Go.RowKit Go.Joins Go.ChangeShapes Go.WideShapes Go.Deep
set_option linter.unusedVariables false

set_option maxHeartbeats 1000000 in
set_option maxRecDepth 100000 in
theorem Days_yes (r : Rc) (a b : Int) (w : World) (hr : RcIn w r) (hf : RcFit r) (ok : RcOk r) (h1 : -4000000 ≤ a) (h2 : b ≤ 4000000) (h3 : a ≤ b) (h4 : b ≤ r.fr + 40000) (h5 : b - a ≤ 3000) :
    Calls Tryd.prog 4 #[r.val, .int .i64 a, .int .i64 b] w fun e w' => ∃ v, e = .returned (.tuple #[v, .int .i64 0]) ∧ w'.ownsRow w.heap.size 3 1 v (r.days a b).length (ints (r.days a b)) ∧ Below w.heap.size w w' := by
  have HB := Lib.hid (below_alloc1 w (Obj.cells r.cells 24))
  have HX := Lib.hid (Box.new w 24 r.cells)
  have HR := Lib.hid (hr.next HB.out)
  have HF := Lib.hid hf
  have HO := Lib.hid ok
  clear hr hf ok
  obtain ⟨L, hL⟩ : ∃ L, L = r.days a b := ⟨_, rfl⟩
  rw [← hL]
  have HL := Lib.hid hL
  clear hL
  go_enter Tryd.func4, Tryd.ntmps4
  go_wp2_with fail
  generalize w.alloc (Obj.cells r.cells 24) = W0 at *
  obtain ⟨g, hg⟩ : ∃ g, g = w.heap.size := ⟨_, rfl⟩
  rw [← hg] at HX
  rw [← hg]
  have HG := Lib.hid hg
  clear hg
  refine (rcheck_any r _ HR.out HF.out).mono ?_
  rintro e w1 ⟨E1, rfl, hE1, hb1⟩
  obtain rfl : E1 = 0 := hE1.2 HO.out
  clear hE1
  replace HX := Lib.hid (HX.out.below hb1)
  replace HB := Lib.hid (below_then HB.out hb1)
  replace HR := Lib.hid (HR.out.next hb1)
  clear hb1
  obtain ⟨x0, x1, x2, x3, x4, x5, x6, x7⟩ := rcells HX.out
  go_wp2_with fail
  refine (crange_any r a b _ HO.out.f1.1 HO.out.f1.2).mono ?_
  rintro e w2 ⟨E1, rfl, hE1, hb1⟩
  obtain rfl : E1 = 0 := hE1.2 ⟨⟨by omega, by omega⟩, ⟨by omega, by omega⟩, h3, h4, h5⟩
  clear hE1 x0 x1 x2 x3 x4 x5 x6 x7
  replace HX := Lib.hid (HX.out.below hb1)
  replace HB := Lib.hid (below_then HB.out hb1)
  replace HR := Lib.hid (HR.out.next hb1)
  clear hb1
  obtain ⟨x0, x1, x2, x3, x4, x5, x6, x7⟩ := rcells HX.out
  go_wp2_with fail
  refine (days_any r a b _ HR.out HO.out h1 h2 h3 h4).mono ?_
  rintro e w3 ⟨v, rfl, hown, hb1⟩
  rw [← HL.out] at hown
  clear x0 x1 x2 x3 x4 x5 x6 x7
  go_wp2_with fail
  go_ret2
  exact ⟨v, rfl, own_lower hown HB.out.size, below_then HB.out hb1⟩

/-- every third day -/
def daily : Rc := ⟨1, 3, 1, 0, 9, [], [], [], none, 0, none, 0, none, 0⟩
theorem daily_in (w : World) : RcIn w daily := ⟨.inl rfl, .inl rfl, .inl rfl⟩
theorem daily_fit : RcFit daily := by constructor <;> (simp [daily, maxLen])
theorem listOk_nil (lo hi : Int) (z : Bool) : ListOk [] lo hi z := ⟨by simp, fun i h => by simp at h⟩
theorem daily_ok : RcOk daily := by
  constructor <;> first | exact listOk_nil _ _ _ | (simp [daily])
theorem daily_fits (day : Int) (h1 : -4000000 ≤ day) (h2 : day ≤ 4000000) : daily.fit day = decide ((day - 1).tmod 3 = 0) := by
  have e1 := (mmAt_spec h1 h2).1
  have e2 := (mmAt_spec (day := 1) (by omega) (by omega)).1
  unfold Rc.fit fitB
  rw [show daily.fr = 1 from rfl]
  simp [daily, lisB, Mm.un, e1, e2]
theorem daily_days : daily.days 1 30 = [1, 4, 7] := by
  have h1 : daily.num 1 30 = 9 := by decide
  have h2 : daily.low 1 = 1 := by decide
  unfold Rc.days
  rw [h1, h2, show daily.co = 0 from rfl]
  simp [daysL, daily_fits]

theorem days_len (r : Rc) (ok : RcOk r) (a b : Int) (h : b ≤ r.fr + 40000) : (r.days a b).length ≤ 40001 := by
  have : ∀ (fit : Int → Bool) (K f : Int) (n : Nat) (day c : Int), (daysL fit K f n day c).length ≤ n := by
    intro fit K f n
    induction n with
    | zero => intro _ _; simp [daysL]
    | succ n ih =>
      intro day c
      unfold daysL
      split
      · split
        · simp
        · rw [List.length_append]
          have := ih (day + 1) (c + 1)
          split <;> simp <;> omega
      · have := ih (day + 1) c; omega
  refine Nat.le_trans (this _ _ _ _ _ _) ?_
  unfold Rc.num Rc.low
  split <;> omega
theorem daysL_c0 (fit : Int → Bool) (f : Int) : ∀ (n : Nat) (day c d : Int), daysL fit 0 f n day c = daysL fit 0 f n day d
  | 0, _, _, _ => rfl
  | n + 1, day, c, d => by
    unfold daysL
    rw [if_neg (by omega : ¬ ((0 : Int) < 0 ∧ 0 < c + 1)), if_neg (by omega : ¬ ((0 : Int) < 0 ∧ 0 < d + 1)), daysL_c0 fit f n (day + 1) (c + 1) (d + 1), daysL_c0 fit f n (day + 1) c d]
theorem daysL_succ (fit : Int → Bool) (f : Int) (n : Nat) (day : Int) : daysL fit 0 f (n + 1) day 0 = (if fit day then (if f ≤ day then [day] else []) else []) ++ daysL fit 0 f n (day + 1) 0 := by
  conv => lhs; unfold daysL
  rw [if_neg (by omega : ¬ ((0 : Int) < 0 ∧ 0 < (0 : Int) + 1)), daysL_c0 fit f n (day + 1) (0 + 1) 0]
  split <;> simp
theorem daysL_split (fit : Int → Bool) (f : Int) : ∀ (n m : Nat) (day : Int), daysL fit 0 f (n + m) day 0 = daysL fit 0 f n day 0 ++ daysL fit 0 f m (day + n) 0
  | 0, m, day => by simp [daysL]
  | n + 1, m, day => by
    rw [show n + 1 + m = (n + m) + 1 from by omega, daysL_succ, daysL_succ, daysL_split fit f n m (day + 1), show day + 1 + (n : Int) = day + ((n + 1 : Nat) : Int) from by omega, List.append_assoc]
/-- the days of adjoining ranges -/
theorem days_parts (r : Rc) (ok : RcOk r) (a b : Nat) : r.days r.fr (r.fr + a) ++ r.days (r.fr + a + 1) (r.fr + a + b) = r.days r.fr (r.fr + a + b) := by
  have o1 := ok.o1
  have c1 := ok.c1
  by_cases h0 : r.co = 0
  · have l1 : r.low r.fr = r.fr := by unfold Rc.low; rw [if_pos h0]; omega
    have l2 : r.low (r.fr + a + 1) = r.fr + a + 1 := by unfold Rc.low; rw [if_pos h0]; omega
    have n1 : r.num r.fr (r.fr + a) = (min (r.fr + a) r.ut + 1 - r.fr).toNat := by unfold Rc.num; rw [l1]
    have n2 : r.num (r.fr + a + 1) (r.fr + a + b) = (min (r.fr + a + b) r.ut + 1 - (r.fr + a + 1)).toNat := by unfold Rc.num; rw [l2]
    have n3 : r.num r.fr (r.fr + a + b) = (min (r.fr + a + b) r.ut + 1 - r.fr).toNat := by unfold Rc.num; rw [l1]
    unfold Rc.days
    rw [l1, l2, n1, n2, n3, h0]
    by_cases hu : r.fr + a ≤ r.ut
    · rw [show (min (r.fr + a + b) r.ut + 1 - r.fr).toNat = (min (r.fr + a) r.ut + 1 - r.fr).toNat + (min (r.fr + a + b) r.ut + 1 - (r.fr + a + 1)).toNat from by omega, daysL_split, show r.fr + ((min (r.fr + (a : Int)) r.ut + 1 - r.fr).toNat : Int) = r.fr + a + 1 from by omega,
        daysL_from r.fit 0 (r.fr + a + 1) r.fr _ (r.fr + a + 1) 0 (by omega) (by omega)]
    · rw [show (min (r.fr + a + b) r.ut + 1 - r.fr).toNat = (min (r.fr + a) r.ut + 1 - r.fr).toNat from by omega, show (min (r.fr + a + b) r.ut + 1 - (r.fr + a + 1)).toNat = 0 from by omega]
      simp [daysL]
  · have l1 : ∀ x, r.low x = r.fr := fun x => by unfold Rc.low; rw [if_neg h0]
    have n1 : ∀ x y, r.num x y = (min y r.ut + 1 - r.fr).toNat := fun x y => by unfold Rc.num; rw [l1]
    unfold Rc.days
    rw [l1, l1, n1, n1, n1]
    by_cases hu : r.fr + a ≤ r.ut
    · have := daysL_parts r.fit r.co r.fr (r.fr + a + 1) (by omega) (a + 1) ((min (r.fr + a + b) r.ut + 1 - r.fr).toNat - (a + 1)) r.fr 0 (.inl (by omega))
      rw [show a + 1 + ((min (r.fr + a + b) r.ut + 1 - r.fr).toNat - (a + 1)) = (min (r.fr + a + b) r.ut + 1 - r.fr).toNat from by omega] at this
      rw [show (min (r.fr + a) r.ut + 1 - r.fr).toNat = a + 1 from by omega]
      exact this
    · rw [show (min (r.fr + a + b) r.ut + 1 - r.fr).toNat = (min (r.fr + a) r.ut + 1 - r.fr).toNat from by omega, daysL_before r.fit r.co (r.fr + a + 1) _ r.fr 0 (by omega), List.append_nil]
theorem days_count (r : Rc) (ok : RcOk r) (a b : Int) (h : r.co ≠ 0) : ((r.days a b).length : Int) ≤ r.co := by
  have := daysL_len r.fit r.co a (by have := ok.c1; omega) (r.num a b) (r.low a) 0 (by omega) ok.c1
  unfold Rc.days
  omega
section
variable {H : Type} {enc : TypeId × Value → H} {W : World}
set_option maxRecDepth 100000 in
theorem recur_open {base : Nat} {v : Value} {d : DataW H} {p : List MemPlace} (hv : Value.okWide Tryd.prog W .any base 24 v) (h : DataW.Trod enc Tryd.prog W 0 (fun _ => true) true 24 v d p) :
    ∃ r : Rc, v = r.val ∧ RcIn W r ∧ RcFit r := by
  have hC : Tryd.prog.cellsOf 24 = 8 := by kernel_rfl
  obtain ⟨cs, rfl, hsz⟩ := okWide_struct Tryd.underlying24 hv
  obtain ⟨l⟩ := cs
  match l, hsz.trans hC with
  | [c0, c1, c2, c3, c4, c5, c6, c7], _ =>
    obtain ⟨fuel, hf⟩ := h
    obtain ⟨xs, n, _, hx, _, hlen, hg⟩ := DataW.trod_struct Tryd.underlying24 hf
    have e0 : Tryd.prog.cellsOf 3 = 1 := by kernel_rfl
    have e3 : Tryd.prog.cellsOf 22 = 1 := by kernel_rfl
    match xs, hlen with
    | [x0, x1, x2, x3, x4, x5, x6, x7], _ =>
      have h0 := hg 0 _ rfl
      have h1 := hg 1 _ rfl
      have h2 := hg 2 _ rfl
      have h3 := hg 3 _ rfl
      have h4 := hg 4 _ rfl
      have h5 := hg 5 _ rfl
      have h6 := hg 6 _ rfl
      have h7 := hg 7 _ rfl
      simp [e0, e3, Value.cells] at h0 h1 h2 h3 h4 h5 h6 h7
      obtain ⟨un, k0, _, _⟩ := DataW.trod_int Tryd.underlying3 h0
      obtain ⟨ev, k1, _, _⟩ := DataW.trod_int Tryd.underlying3 h1
      obtain ⟨fr, k2, _, _⟩ := DataW.trod_int Tryd.underlying3 h2
      obtain ⟨co, k3, _, _⟩ := DataW.trod_int Tryd.underlying3 h3
      obtain ⟨ut, k4, _, _⟩ := DataW.trod_int Tryd.underlying3 h4
      obtain ⟨A1, l1, c1', rfl, a1, a2, a3, a4⟩ := ints_trod h5
      obtain ⟨A2, l2, c2', rfl, b1, b2, b3, b4⟩ := ints_trod h6
      obtain ⟨A3, l3, c3', rfl, d1, d2, d3, d4⟩ := ints_trod h7
      simp at k0 k1 k2 k3 k4
      subst k0 k1 k2 k3 k4
      exact ⟨⟨un, ev, fr, co, ut, l1, l2, l3, A1, c1', A2, c2', A3, c3'⟩, rfl, ⟨a3, b3, d3⟩, ⟨a1, a2, b1, b2, d1, d2⟩⟩
end
end Go.Proofs.YtonhmgdokghoeaaDoor
