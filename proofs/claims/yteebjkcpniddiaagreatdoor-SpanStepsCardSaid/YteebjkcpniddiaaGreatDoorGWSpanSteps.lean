/- WSpanSteps -/
import Derived.Test.YteebjkcpniddiaaGreatDoorGSp1
import Derived.Test.YteebjkcpniddiaaGreatDoorGLenEq
import Derived.Test.YteebjkcpniddiaaGreatDoorGEraPlain
import Derived.Test.YteebjkcpniddiaaGreatDoorGCat1
import Derived.Test.YteebjkcpniddiaaGreatDoorGBack1
/- The walk of SpanSteps: it returns true at every input; it writes nothing that was there. -/
namespace Go.Proofs.YteebjkcpniddiaaGreatDoor.spanSteps
open Go Go.RowKit
set_option linter.unusedVariables false

/-- days and milliseconds are added -/
theorem add_plain (r : CatRow) (hr : r ∈ catR) (a dd ms : Int) (w : World) (hv : Env w) (ha : -345600000000000 ≤ a) (ha2 : a < 345600000000000) (h1 : -3900000 ≤ a / 86400000 + dd) (h1' : a / 86400000 + dd ≤ 3900000) (h2 : -300000000000000 ≤ a + dd * 86400000 + ms) (h2' : a + dd * 86400000 + ms ≤ 300000000000000) (h3 : -100000 ≤ dd) (h3' : dd ≤ 100000) (h4 : -1000000000 ≤ ms) (h4' : ms ≤ 1000000000) :
    Calls Tryz.prog 18 #[.string (str r.nm), .int .i64 a, .agg (lenC 0 0 dd ms)] w fun e w' => e = .returned (.tuple #[.int .i64 (a + dd * 86400000 + ms), .int .i64 0]) ∧ Below w.heap.size w w' := by
  refine (Add_any r hr (calE r) (calE_of r) 0 0 0 a 0 0 dd ms w hv (by unfold InstOk; omega) (.inl ⟨rfl, rfl⟩) ⟨by omega, by omega, by omega, by omega⟩ (by omega)).mono ?_
  rintro e w' ⟨o, F, rfl, hP, hb⟩
  obtain ⟨rfl, rfl⟩ := hP.plain (by unfold DayOk; omega) (by unfold InstOk; omega)
  exact ⟨rfl, hb⟩

set_option maxRecDepth 100000 in
set_option maxHeartbeats 4000000 in
theorem core (k t0 p0 p1 p2 p3 q0 q1 q2 q3 : Int) (w : World) (hk1 : -9223372036854775808 ≤ k) (hk2 : k ≤ 9223372036854775807) (hv : Env w) (hp : Pow w) :
    Calls Tryz.prog 6 #[.int .i64 k, .int .i64 t0, .agg #[.int .i64 p0, .int .i64 p1, .int .i64 p2, .int .i64 p3], .agg #[.int .i64 q0, .int .i64 q1, .int .i64 q2, .int .i64 q3]] w fun e w' => e = .returned (.bool true) ∧ Below w.heap.size w w' := by
  have HN := Lib.hid (fun W (h : Env W) => name_any k W hk1 hk2 h.h)
  have HV := Lib.hid hv
  have HP := Lib.hid hp
  have HCt := Lib.hid (fun W => cut_any t0 (-8640000000000) 17280000000000 W (by omega) (by omega) (by omega) (by omega))
  have b1 := Int.emod_nonneg t0 (show (17280000000000 : Int) ≠ 0 by omega)
  have b2 := Int.emod_lt_of_pos t0 (show (0 : Int) < 17280000000000 by omega)
  obtain ⟨t, hte⟩ : ∃ t, t = -8640000000000 + t0 % 17280000000000 := ⟨_, rfl⟩
  rw [← hte] at HCt
  have ht1 : -8640000000000 ≤ t := by omega
  have ht2 : t < 8640000000000 := by omega
  clear b1 b2 hte
  have HC1 := Lib.hid (fun W => cut_any p2 (-5000) 10001 W (by omega) (by omega) (by omega) (by omega))
  have HC2 := Lib.hid (fun W => cut_any p3 (-86400000) 172800000 W (by omega) (by omega) (by omega) (by omega))
  have HC3 := Lib.hid (fun W => cut_any q2 (-5000) 10001 W (by omega) (by omega) (by omega) (by omega))
  have HC4 := Lib.hid (fun W => cut_any q3 (-86400000) 172800000 W (by omega) (by omega) (by omega) (by omega))
  have d1 := Int.emod_nonneg p2 (show (10001 : Int) ≠ 0 by omega)
  have d2 := Int.emod_lt_of_pos p2 (show (0 : Int) < 10001 by omega)
  have d3 := Int.emod_nonneg q2 (show (10001 : Int) ≠ 0 by omega)
  have d4 := Int.emod_lt_of_pos q2 (show (0 : Int) < 10001 by omega)
  have d5 := Int.emod_nonneg p3 (show (172800000 : Int) ≠ 0 by omega)
  have d6 := Int.emod_lt_of_pos p3 (show (0 : Int) < 172800000 by omega)
  have d7 := Int.emod_nonneg q3 (show (172800000 : Int) ≠ 0 by omega)
  have d8 := Int.emod_lt_of_pos q3 (show (0 : Int) < 172800000 by omega)
  obtain ⟨a, hae⟩ : ∃ a, a = -5000 + p2 % 10001 := ⟨_, rfl⟩
  obtain ⟨b, hbe⟩ : ∃ b, b = -86400000 + p3 % 172800000 := ⟨_, rfl⟩
  obtain ⟨c, hce⟩ : ∃ c, c = -5000 + q2 % 10001 := ⟨_, rfl⟩
  obtain ⟨d, hde⟩ : ∃ d, d = -86400000 + q3 % 172800000 := ⟨_, rfl⟩
  rw [← hae] at HC1
  rw [← hbe] at HC2
  rw [← hce] at HC3
  rw [← hde] at HC4
  have ha : -5000 ≤ a ∧ a ≤ 5000 := by omega
  have hb : -86400000 ≤ b ∧ b < 86400000 := by omega
  have hc : -5000 ≤ c ∧ c ≤ 5000 := by omega
  have hd : -86400000 ≤ d ∧ d < 86400000 := by omega
  clear d1 d2 d3 d4 d5 d6 d7 d8 hae hbe hce hde
  have e1 : IntKind.i64.wrap (a + c) = a + c := intFits _ (by omega) (by omega)
  have e2 : IntKind.i64.wrap (b + d) = b + d := intFits _ (by omega) (by omega)
  obtain ⟨u, hu⟩ : ∃ u, u = t + a * 86400000 + b := ⟨_, rfl⟩
  obtain ⟨v, hv2⟩ : ∃ v, v = u + c * 86400000 + d := ⟨_, rfl⟩
  have HA1 := Lib.hid (fun W (h : Env W) => add_plain (rowK k) (rowK_in k) t a b W h (by omega) (by omega) (by omega) (by omega) (by omega) (by omega) (by omega) (by omega) (by omega) (by omega))
  have HA2 := Lib.hid (fun W (h : Env W) => add_plain (rowK k) (rowK_in k) u c d W h (by omega) (by omega) (by omega) (by omega) (by omega) (by omega) (by omega) (by omega) (by omega) (by omega))
  have HA3 := Lib.hid (fun W (h : Env W) => add_plain (rowK k) (rowK_in k) t (a + c) (b + d) W h (by omega) (by omega) (by omega) (by omega) (by omega) (by omega) (by omega) (by omega) (by omega) (by omega))
  have e3 : t + (a + c) * 86400000 + (b + d) = v := by omega
  rw [← hu] at HA1
  rw [← hv2] at HA2
  rw [e3] at HA3
  have hL : LenOk 0 0 a b := ⟨by omega, by omega, by omega, by omega⟩
  have HT0 := Lib.hid (fun W (h : Pow W) => spText_any 0 0 0 0 W ⟨by omega, by omega, by omega, by omega⟩ h)
  rw [show spanT 0 0 0 0 = [48, 100] from by decide +kernel, show str [48, 100] = ⟨#[48, 100]⟩ from rfl] at HT0
  have HT1 := Lib.hid (fun W (h : Pow W) => spText_any 0 0 a b W hL h)
  have HRd := Lib.hid (fun W (hE : Env W) (h : Pow W) => read_any 0 0 a b W hL h hE.h)
  have HVn : Hid (∀ W, Below w.heap.size w W → Env W) := fun W hb => hv.next hb
  have HPn : Hid (∀ W, Below w.heap.size w W → Pow W) := fun W hb => hp.next hb
  clear hu hv2 e3 hL hv hp hk1 hk2 HV HP
  unfold lenC at HA1 HA2 HA3 HT0 HT1 HRd
  generalize rowK k = r at *
  generalize str r.nm = nm at *
  generalize spanT 0 0 a b = T at *
  have hB0 := Lib.hid (below_alloc2 w (Obj.cells #[.int .i64 p0, .int .i64 p1, .int .i64 p2, .int .i64 p3] 23) (Obj.cells #[.int .i64 q0, .int .i64 q1, .int .i64 q2, .int .i64 q3] 23))
  have hX0 := Lib.hid ((Box.new w 23 #[.int .i64 p0, .int .i64 p1, .int .i64 p2, .int .i64 p3]).alloc (Obj.cells #[.int .i64 q0, .int .i64 q1, .int .i64 q2, .int .i64 q3] 23))
  have hY0 := Lib.hid (Box.new (w.alloc (Obj.cells #[.int .i64 p0, .int .i64 p1, .int .i64 p2, .int .i64 p3] 23)) 23 #[.int .i64 q0, .int .i64 q1, .int .i64 q2, .int .i64 q3])
  simp only [World.size_alloc] at hY0
  have ds := len_same
  have dg := len_guard
  go_enter Tryz.func6, Tryz.ntmps6
  go_upto_region 1 with fail
  generalize (w.alloc (Obj.cells #[.int .i64 p0, .int .i64 p1, .int .i64 p2, .int .i64 p3] 23)).alloc (Obj.cells #[.int .i64 q0, .int .i64 q1, .int .i64 q2, .int .i64 q3] 23) = w0 at *
  generalize hg : w.heap.size = g at *
  have HG := Lib.hid hg
  clear hg
  go_wp2_with fail
  refine Calls.mono (HT0.out w0 (HPn.out _ hB0.out)) ?_
  rintro e w1 ⟨rfl, hb1⟩
  have HX := Lib.hid (hX0.out.below hb1)
  have HY := Lib.hid (hY0.out.below hb1)
  have HB : Hid (Below g w w1) := hB0.out.trans (hb1.mono (by have := hX0.out.lt; omega))
  clear hb1 hX0 hY0 hB0 HT0
  go_upto_region 5 with (go_at_call 16; refine Calls.mono (HCt.out _) ?_; rintro e w' ⟨rfl, rfl⟩)
  clear HCt
  have x2 := fun W (hb : Below w1.heap.size w1 W) => (lcells (HX.out.below hb)).2.2.1
  have x3 := fun W (hb : Below w1.heap.size w1 W) => (lcells (HX.out.below hb)).2.2.2
  refine flow_begin_tail 7 (tellOf [(2, det (.int .i64 a)), (5, det (.int .i64 b))]) (by kernel_rfl) (by kernel_rfl) ?_
  simp only [List.take_succ_cons, List.take_zero, List.drop_succ_cons, List.drop_zero]
  repeat (first | (refine flow_val (v := ?_) (by rfl) (by rfl) (fun w hb => ?_) ?_; rotate_left; (· ((go_simp) <;> ((repeat' apply And.intro) <;> with_reducible rfl))); try simp only [Act.put, List.setIfInBounds_toArray, List.set_cons_zero, List.set_cons_succ, Nat.reduceAdd]) | (refine flow_skip (by rfl) (by rfl) ?_; try simp only [Act.put, List.setIfInBounds_toArray, List.set_cons_zero, List.set_cons_succ, Nat.reduceAdd]))
  refine flow_call (f := ?_) (args := ?_) [] (by kernel_rfl) (by rfl) (by rfl) (fun w hb => ?_) (fun w hb hu => ?_) ?_; rotate_left 2; (· ((go_simp) <;> ((repeat' apply And.intro) <;> with_reducible rfl)))
  · refine Calls.mono (HC1.out w) ?_
    rintro e w' ⟨rfl, rfl⟩
    exact ⟨rfl, Below.refl _ _⟩
  try simp only [Act.put, List.setIfInBounds_toArray, List.set_cons_zero, List.set_cons_succ, Nat.reduceAdd]
  repeat (first | (refine flow_val (v := ?_) (by rfl) (by rfl) (fun w hb => ?_) ?_; rotate_left; (· ((go_simp) <;> ((repeat' apply And.intro) <;> with_reducible rfl))); try simp only [Act.put, List.setIfInBounds_toArray, List.set_cons_zero, List.set_cons_succ, Nat.reduceAdd]) | (refine flow_skip (by rfl) (by rfl) ?_; try simp only [Act.put, List.setIfInBounds_toArray, List.set_cons_zero, List.set_cons_succ, Nat.reduceAdd]))
  refine flow_call (f := ?_) (args := ?_) [] (by kernel_rfl) (by rfl) (by rfl) (fun w hb => ?_) (fun w hb hu => ?_) ?_; rotate_left 2; (· ((go_simp) <;> ((repeat' apply And.intro) <;> with_reducible rfl)))
  · refine Calls.mono (HC2.out w) ?_
    rintro e w' ⟨rfl, rfl⟩
    exact ⟨rfl, Below.refl _ _⟩
  try simp only [Act.put, List.setIfInBounds_toArray, List.set_cons_zero, List.set_cons_succ, Nat.reduceAdd]
  repeat (first | (refine flow_val (v := ?_) (by rfl) (by rfl) (fun w hb => ?_) ?_; rotate_left; (· ((go_simp) <;> ((repeat' apply And.intro) <;> with_reducible rfl))); try simp only [Act.put, List.setIfInBounds_toArray, List.set_cons_zero, List.set_cons_succ, Nat.reduceAdd]) | (refine flow_skip (by rfl) (by rfl) ?_; try simp only [Act.put, List.setIfInBounds_toArray, List.set_cons_zero, List.set_cons_succ, Nat.reduceAdd]))
  refine flow_nil fun w2 hb _ => ?_
  have HX' := Lib.hid (HX.out.below hb)
  have HY' := Lib.hid (HY.out.below hb)
  have HB' : Hid (Below g w w2) := HB.out.trans (hb.mono (by have := HX.out.lt; have := HY.out.lt; omega))
  clear hb x2 x3 HX HY HB HC1 HC2
  have rf : ∀ i, w2.frozen? ⟨g, i, none⟩ = false := fun i => HX'.out.free i
  have hl := HX'.out.lt
  obtain ⟨r0, r1, r2, r3⟩ := lcells HX'.out
  refine wpList_step fun K hK => ?_
  rw [if_pos (by rfl)]
  go_simp
  refine hK _ _ (wpList_nil ?_)
  clear hK K
  have HX : Hid (Box ((((w2.setCell ⟨g, 0, none⟩ (.int .i64 0)).setCell ⟨g, 1, none⟩ (.int .i64 0)).setCell ⟨g, 2, none⟩ (.int .i64 a)).setCell ⟨g, 3, none⟩ (.int .i64 b)) g 23 #[.int .i64 0, .int .i64 0, .int .i64 a, .int .i64 b]) := (((HX'.out.set_ 0 _).set_ 1 _).set_ 2 _).set_ 3 _
  have HY := Lib.hid ((((HY'.out.far (p := ⟨g, 0, none⟩) (show g + 1 ≠ g by omega) (.int .i64 0)).far (p := ⟨g, 1, none⟩) (show g + 1 ≠ g by omega) (.int .i64 0)).far (p := ⟨g, 2, none⟩) (show g + 1 ≠ g by omega) (.int .i64 a)).far (p := ⟨g, 3, none⟩) (show g + 1 ≠ g by omega) (.int .i64 b))
  have HB : Hid (Below g w ((((w2.setCell ⟨g, 0, none⟩ (.int .i64 0)).setCell ⟨g, 1, none⟩ (.int .i64 0)).setCell ⟨g, 2, none⟩ (.int .i64 a)).setCell ⟨g, 3, none⟩ (.int .i64 b))) := (((HB'.out.setCell (p := ⟨g, 0, none⟩) (show g ≤ g by omega) _).setCell (p := ⟨g, 1, none⟩) (show g ≤ g by omega) _).setCell (p := ⟨g, 2, none⟩) (show g ≤ g by omega) _).setCell (p := ⟨g, 3, none⟩) (show g ≤ g by omega) _
  clear HX' HY' HB' rf hl r0 r1 r2 r3
  generalize ((((w2.setCell ⟨g, 0, none⟩ (.int .i64 0)).setCell ⟨g, 1, none⟩ (.int .i64 0)).setCell ⟨g, 2, none⟩ (.int .i64 a)).setCell ⟨g, 3, none⟩ (.int .i64 b)) = w3 at *
  go_upto_region 6 with fail
  have x2 := fun W (hb : Below w3.heap.size w3 W) => (lcells (HY.out.below hb)).2.2.1
  have x3 := fun W (hb : Below w3.heap.size w3 W) => (lcells (HY.out.below hb)).2.2.2
  refine flow_begin_tail 7 (tellOf [(2, det (.int .i64 c)), (5, det (.int .i64 d))]) (by kernel_rfl) (by kernel_rfl) ?_
  simp only [List.take_succ_cons, List.take_zero, List.drop_succ_cons, List.drop_zero]
  repeat (first | (refine flow_val (v := ?_) (by rfl) (by rfl) (fun w hb => ?_) ?_; rotate_left; (· ((go_simp) <;> ((repeat' apply And.intro) <;> with_reducible rfl))); try simp only [Act.put, List.setIfInBounds_toArray, List.set_cons_zero, List.set_cons_succ, Nat.reduceAdd]) | (refine flow_skip (by rfl) (by rfl) ?_; try simp only [Act.put, List.setIfInBounds_toArray, List.set_cons_zero, List.set_cons_succ, Nat.reduceAdd]))
  refine flow_call (f := ?_) (args := ?_) [] (by kernel_rfl) (by rfl) (by rfl) (fun w hb => ?_) (fun w hb hu => ?_) ?_; rotate_left 2; (· ((go_simp) <;> ((repeat' apply And.intro) <;> with_reducible rfl)))
  · refine Calls.mono (HC3.out w) ?_
    rintro e w' ⟨rfl, rfl⟩
    exact ⟨rfl, Below.refl _ _⟩
  try simp only [Act.put, List.setIfInBounds_toArray, List.set_cons_zero, List.set_cons_succ, Nat.reduceAdd]
  repeat (first | (refine flow_val (v := ?_) (by rfl) (by rfl) (fun w hb => ?_) ?_; rotate_left; (· ((go_simp) <;> ((repeat' apply And.intro) <;> with_reducible rfl))); try simp only [Act.put, List.setIfInBounds_toArray, List.set_cons_zero, List.set_cons_succ, Nat.reduceAdd]) | (refine flow_skip (by rfl) (by rfl) ?_; try simp only [Act.put, List.setIfInBounds_toArray, List.set_cons_zero, List.set_cons_succ, Nat.reduceAdd]))
  refine flow_call (f := ?_) (args := ?_) [] (by kernel_rfl) (by rfl) (by rfl) (fun w hb => ?_) (fun w hb hu => ?_) ?_; rotate_left 2; (· ((go_simp) <;> ((repeat' apply And.intro) <;> with_reducible rfl)))
  · refine Calls.mono (HC4.out w) ?_
    rintro e w' ⟨rfl, rfl⟩
    exact ⟨rfl, Below.refl _ _⟩
  try simp only [Act.put, List.setIfInBounds_toArray, List.set_cons_zero, List.set_cons_succ, Nat.reduceAdd]
  repeat (first | (refine flow_val (v := ?_) (by rfl) (by rfl) (fun w hb => ?_) ?_; rotate_left; (· ((go_simp) <;> ((repeat' apply And.intro) <;> with_reducible rfl))); try simp only [Act.put, List.setIfInBounds_toArray, List.set_cons_zero, List.set_cons_succ, Nat.reduceAdd]) | (refine flow_skip (by rfl) (by rfl) ?_; try simp only [Act.put, List.setIfInBounds_toArray, List.set_cons_zero, List.set_cons_succ, Nat.reduceAdd]))
  refine flow_nil fun w4 hb _ => ?_
  have HY' := Lib.hid (HY.out.below hb)
  have HX' := Lib.hid (HX.out.below hb)
  have HB' : Hid (Below g w w4) := HB.out.trans (hb.mono (by have := HY.out.lt; have := HX.out.lt; omega))
  clear hb x2 x3 HY HX HB HC3 HC4
  have rf : ∀ i, w4.frozen? ⟨g + 1, i, none⟩ = false := fun i => HY'.out.free i
  have hl := HY'.out.lt
  obtain ⟨r0, r1, r2, r3⟩ := lcells HY'.out
  refine wpList_step fun K hK => ?_
  rw [if_pos (by rfl)]
  go_simp
  refine hK _ _ (wpList_nil ?_)
  clear hK K
  have HY : Hid (Box ((((w4.setCell ⟨g + 1, 0, none⟩ (.int .i64 0)).setCell ⟨g + 1, 1, none⟩ (.int .i64 0)).setCell ⟨g + 1, 2, none⟩ (.int .i64 c)).setCell ⟨g + 1, 3, none⟩ (.int .i64 d)) (g + 1) 23 #[.int .i64 0, .int .i64 0, .int .i64 c, .int .i64 d]) := (((HY'.out.set_ 0 _).set_ 1 _).set_ 2 _).set_ 3 _
  have HX := Lib.hid ((((HX'.out.far (p := ⟨g + 1, 0, none⟩) (show g ≠ g + 1 by omega) (.int .i64 0)).far (p := ⟨g + 1, 1, none⟩) (show g ≠ g + 1 by omega) (.int .i64 0)).far (p := ⟨g + 1, 2, none⟩) (show g ≠ g + 1 by omega) (.int .i64 c)).far (p := ⟨g + 1, 3, none⟩) (show g ≠ g + 1 by omega) (.int .i64 d))
  have HB : Hid (Below g w ((((w4.setCell ⟨g + 1, 0, none⟩ (.int .i64 0)).setCell ⟨g + 1, 1, none⟩ (.int .i64 0)).setCell ⟨g + 1, 2, none⟩ (.int .i64 c)).setCell ⟨g + 1, 3, none⟩ (.int .i64 d))) := (((HB'.out.setCell (p := ⟨g + 1, 0, none⟩) (show g ≤ g + 1 by omega) _).setCell (p := ⟨g + 1, 1, none⟩) (show g ≤ g + 1 by omega) _).setCell (p := ⟨g + 1, 2, none⟩) (show g ≤ g + 1 by omega) _).setCell (p := ⟨g + 1, 3, none⟩) (show g ≤ g + 1 by omega) _
  clear HY' HX' HB' rf hl r0 r1 r2 r3
  generalize ((((w4.setCell ⟨g + 1, 0, none⟩ (.int .i64 0)).setCell ⟨g + 1, 1, none⟩ (.int .i64 0)).setCell ⟨g + 1, 2, none⟩ (.int .i64 c)).setCell ⟨g + 1, 3, none⟩ (.int .i64 d)) = w5 at *
  go_upto_region 7 with fail
  have x0 := fun W (hb : Below w5.heap.size w5 W) => (lcells (HX.out.below hb)).1
  have x1 := fun W (hb : Below w5.heap.size w5 W) => (lcells (HX.out.below hb)).2.1
  have x2 := fun W (hb : Below w5.heap.size w5 W) => (lcells (HX.out.below hb)).2.2.1
  have x3 := fun W (hb : Below w5.heap.size w5 W) => (lcells (HX.out.below hb)).2.2.2
  have y0 := fun W (hb : Below w5.heap.size w5 W) => (lcells (HY.out.below hb)).1
  have y1 := fun W (hb : Below w5.heap.size w5 W) => (lcells (HY.out.below hb)).2.1
  have y2 := fun W (hb : Below w5.heap.size w5 W) => (lcells (HY.out.below hb)).2.2.1
  have y3 := fun W (hb : Below w5.heap.size w5 W) => (lcells (HY.out.below hb)).2.2.2
  refine flow_begin (tellOf [(1, det (.string nm)), (4, det (.tuple #[.int .i64 u, .int .i64 0]))]) (by kernel_rfl) (by kernel_rfl) ?_
  repeat (first | (refine flow_val (v := ?_) (by rfl) (by rfl) (fun w hb => ?_) ?_; rotate_left; (· ((go_simp) <;> ((repeat' apply And.intro) <;> with_reducible rfl))); try simp only [Act.put, List.setIfInBounds_toArray, List.set_cons_zero, List.set_cons_succ, Nat.reduceAdd]) | (refine flow_skip (by rfl) (by rfl) ?_; try simp only [Act.put, List.setIfInBounds_toArray, List.set_cons_zero, List.set_cons_succ, Nat.reduceAdd]))
  refine flow_call (f := ?_) (args := ?_) [] (by kernel_rfl) (by rfl) (by rfl) (fun w hb => ?_) (fun w hb hu => ?_) ?_; rotate_left 2; (· ((go_simp) <;> ((repeat' apply And.intro) <;> with_reducible rfl)))
  · exact HN.out w (HVn.out _ (HB.out.trans (hb.mono (by have := HX.out.lt; have := HY.out.lt; omega))))
  try simp only [Act.put, List.setIfInBounds_toArray, List.set_cons_zero, List.set_cons_succ, Nat.reduceAdd]
  repeat (first | (refine flow_val (v := ?_) (by rfl) (by rfl) (fun w hb => ?_) ?_; rotate_left; (· ((go_simp) <;> ((repeat' apply And.intro) <;> with_reducible rfl))); try simp only [Act.put, List.setIfInBounds_toArray, List.set_cons_zero, List.set_cons_succ, Nat.reduceAdd]) | (refine flow_skip (by rfl) (by rfl) ?_; try simp only [Act.put, List.setIfInBounds_toArray, List.set_cons_zero, List.set_cons_succ, Nat.reduceAdd]))
  refine flow_call (f := ?_) (args := ?_) [] (by kernel_rfl) (by rfl) (by rfl) (fun w hb => ?_) (fun w hb hu => ?_) ?_; rotate_left 2; (· ((go_simp) <;> ((repeat' apply And.intro) <;> with_reducible rfl)))
  · exact HA1.out w (HVn.out _ (HB.out.trans (hb.mono (by have := HX.out.lt; have := HY.out.lt; omega))))
  try simp only [Act.put, List.setIfInBounds_toArray, List.set_cons_zero, List.set_cons_succ, Nat.reduceAdd]
  repeat (first | (refine flow_val (v := ?_) (by rfl) (by rfl) (fun w hb => ?_) ?_; rotate_left; (· ((go_simp) <;> ((repeat' apply And.intro) <;> with_reducible rfl))); try simp only [Act.put, List.setIfInBounds_toArray, List.set_cons_zero, List.set_cons_succ, Nat.reduceAdd]) | (refine flow_skip (by rfl) (by rfl) ?_; try simp only [Act.put, List.setIfInBounds_toArray, List.set_cons_zero, List.set_cons_succ, Nat.reduceAdd]))
  refine flow_nil fun w6 hb _ => ?_
  have HB' : Hid (Below g w w6) := HB.out.trans (hb.mono (by have := HX.out.lt; have := HY.out.lt; omega))
  have HX' := Lib.hid (HX.out.below hb)
  have HY' := Lib.hid (HY.out.below hb)
  clear hb x0 x1 x2 x3 y0 y1 y2 y3 HB HX HY HA1
  have HB := HB'
  have HX := HX'
  have HY := HY'
  clear HB' HX' HY'
  go_upto_region 8 with fail
  have x0 := fun W (hb : Below w6.heap.size w6 W) => (lcells (HX.out.below hb)).1
  have x1 := fun W (hb : Below w6.heap.size w6 W) => (lcells (HX.out.below hb)).2.1
  have x2 := fun W (hb : Below w6.heap.size w6 W) => (lcells (HX.out.below hb)).2.2.1
  have x3 := fun W (hb : Below w6.heap.size w6 W) => (lcells (HX.out.below hb)).2.2.2
  have y0 := fun W (hb : Below w6.heap.size w6 W) => (lcells (HY.out.below hb)).1
  have y1 := fun W (hb : Below w6.heap.size w6 W) => (lcells (HY.out.below hb)).2.1
  have y2 := fun W (hb : Below w6.heap.size w6 W) => (lcells (HY.out.below hb)).2.2.1
  have y3 := fun W (hb : Below w6.heap.size w6 W) => (lcells (HY.out.below hb)).2.2.2
  refine flow_begin (tellOf [(1, det (.string nm)), (4, det (.tuple #[.int .i64 v, .int .i64 0]))]) (by kernel_rfl) (by kernel_rfl) ?_
  repeat (first | (refine flow_val (v := ?_) (by rfl) (by rfl) (fun w hb => ?_) ?_; rotate_left; (· ((go_simp) <;> ((repeat' apply And.intro) <;> with_reducible rfl))); try simp only [Act.put, List.setIfInBounds_toArray, List.set_cons_zero, List.set_cons_succ, Nat.reduceAdd]) | (refine flow_skip (by rfl) (by rfl) ?_; try simp only [Act.put, List.setIfInBounds_toArray, List.set_cons_zero, List.set_cons_succ, Nat.reduceAdd]))
  refine flow_call (f := ?_) (args := ?_) [] (by kernel_rfl) (by rfl) (by rfl) (fun w hb => ?_) (fun w hb hu => ?_) ?_; rotate_left 2; (· ((go_simp) <;> ((repeat' apply And.intro) <;> with_reducible rfl)))
  · exact HN.out w (HVn.out _ (HB.out.trans (hb.mono (by have := HX.out.lt; have := HY.out.lt; omega))))
  try simp only [Act.put, List.setIfInBounds_toArray, List.set_cons_zero, List.set_cons_succ, Nat.reduceAdd]
  repeat (first | (refine flow_val (v := ?_) (by rfl) (by rfl) (fun w hb => ?_) ?_; rotate_left; (· ((go_simp) <;> ((repeat' apply And.intro) <;> with_reducible rfl))); try simp only [Act.put, List.setIfInBounds_toArray, List.set_cons_zero, List.set_cons_succ, Nat.reduceAdd]) | (refine flow_skip (by rfl) (by rfl) ?_; try simp only [Act.put, List.setIfInBounds_toArray, List.set_cons_zero, List.set_cons_succ, Nat.reduceAdd]))
  refine flow_call (f := ?_) (args := ?_) [] (by kernel_rfl) (by rfl) (by rfl) (fun w hb => ?_) (fun w hb hu => ?_) ?_; rotate_left 2; (· ((go_simp) <;> ((repeat' apply And.intro) <;> with_reducible rfl)))
  · exact HA2.out w (HVn.out _ (HB.out.trans (hb.mono (by have := HX.out.lt; have := HY.out.lt; omega))))
  try simp only [Act.put, List.setIfInBounds_toArray, List.set_cons_zero, List.set_cons_succ, Nat.reduceAdd]
  repeat (first | (refine flow_val (v := ?_) (by rfl) (by rfl) (fun w hb => ?_) ?_; rotate_left; (· ((go_simp) <;> ((repeat' apply And.intro) <;> with_reducible rfl))); try simp only [Act.put, List.setIfInBounds_toArray, List.set_cons_zero, List.set_cons_succ, Nat.reduceAdd]) | (refine flow_skip (by rfl) (by rfl) ?_; try simp only [Act.put, List.setIfInBounds_toArray, List.set_cons_zero, List.set_cons_succ, Nat.reduceAdd]))
  refine flow_nil fun w7 hb _ => ?_
  have HB' : Hid (Below g w w7) := HB.out.trans (hb.mono (by have := HX.out.lt; have := HY.out.lt; omega))
  have HX' := Lib.hid (HX.out.below hb)
  have HY' := Lib.hid (HY.out.below hb)
  clear hb x0 x1 x2 x3 y0 y1 y2 y3 HB HX HY HA2
  have HB := HB'
  have HX := HX'
  have HY := HY'
  clear HB' HX' HY'
  go_upto_region 9 with fail
  have x0 := fun W (hb : Below w7.heap.size w7 W) => (lcells (HX.out.below hb)).1
  have x1 := fun W (hb : Below w7.heap.size w7 W) => (lcells (HX.out.below hb)).2.1
  have x2 := fun W (hb : Below w7.heap.size w7 W) => (lcells (HX.out.below hb)).2.2.1
  have x3 := fun W (hb : Below w7.heap.size w7 W) => (lcells (HX.out.below hb)).2.2.2
  have y0 := fun W (hb : Below w7.heap.size w7 W) => (lcells (HY.out.below hb)).1
  have y1 := fun W (hb : Below w7.heap.size w7 W) => (lcells (HY.out.below hb)).2.1
  have y2 := fun W (hb : Below w7.heap.size w7 W) => (lcells (HY.out.below hb)).2.2.1
  have y3 := fun W (hb : Below w7.heap.size w7 W) => (lcells (HY.out.below hb)).2.2.2
  refine flow_begin (tellOf [(1, det (.string nm)), (14, det (.tuple #[.int .i64 v, .int .i64 0]))]) (by kernel_rfl) (by kernel_rfl) ?_
  repeat (first | (refine flow_val (v := ?_) (by rfl) (by rfl) (fun w hb => ?_) ?_; rotate_left; (· ((go_simp) <;> ((repeat' apply And.intro) <;> with_reducible rfl))); try simp only [Act.put, List.setIfInBounds_toArray, List.set_cons_zero, List.set_cons_succ, Nat.reduceAdd]) | (refine flow_skip (by rfl) (by rfl) ?_; try simp only [Act.put, List.setIfInBounds_toArray, List.set_cons_zero, List.set_cons_succ, Nat.reduceAdd]))
  refine flow_call (f := ?_) (args := ?_) [] (by kernel_rfl) (by rfl) (by rfl) (fun w hb => ?_) (fun w hb hu => ?_) ?_; rotate_left 2; (· ((go_simp) <;> ((repeat' apply And.intro) <;> with_reducible rfl)))
  · exact HN.out w (HVn.out _ (HB.out.trans (hb.mono (by have := HX.out.lt; have := HY.out.lt; omega))))
  try simp only [Act.put, List.setIfInBounds_toArray, List.set_cons_zero, List.set_cons_succ, Nat.reduceAdd]
  repeat (first | (refine flow_val (v := ?_) (by rfl) (by rfl) (fun w hb => ?_) ?_; rotate_left; (· ((go_simp) <;> ((repeat' apply And.intro) <;> with_reducible rfl))); try simp only [Act.put, List.setIfInBounds_toArray, List.set_cons_zero, List.set_cons_succ, Nat.reduceAdd]) | (refine flow_skip (by rfl) (by rfl) ?_; try simp only [Act.put, List.setIfInBounds_toArray, List.set_cons_zero, List.set_cons_succ, Nat.reduceAdd]))
  refine flow_call (f := ?_) (args := ?_) [] (by kernel_rfl) (by rfl) (by rfl) (fun w hb => ?_) (fun w hb hu => ?_) ?_; rotate_left 2; (· ((go_simp) <;> ((repeat' apply And.intro) <;> with_reducible rfl)))
  · exact HA3.out w (HVn.out _ (HB.out.trans (hb.mono (by have := HX.out.lt; have := HY.out.lt; omega))))
  try simp only [Act.put, List.setIfInBounds_toArray, List.set_cons_zero, List.set_cons_succ, Nat.reduceAdd]
  repeat (first | (refine flow_val (v := ?_) (by rfl) (by rfl) (fun w hb => ?_) ?_; rotate_left; (· ((go_simp) <;> ((repeat' apply And.intro) <;> with_reducible rfl))); try simp only [Act.put, List.setIfInBounds_toArray, List.set_cons_zero, List.set_cons_succ, Nat.reduceAdd]) | (refine flow_skip (by rfl) (by rfl) ?_; try simp only [Act.put, List.setIfInBounds_toArray, List.set_cons_zero, List.set_cons_succ, Nat.reduceAdd]))
  refine flow_nil fun w8 hb _ => ?_
  have HB' : Hid (Below g w w8) := HB.out.trans (hb.mono (by have := HX.out.lt; have := HY.out.lt; omega))
  have HX' := Lib.hid (HX.out.below hb)
  have HY' := Lib.hid (HY.out.below hb)
  clear hb x0 x1 x2 x3 y0 y1 y2 y3 HB HX HY HA3
  have HB := HB'
  have HX := HX'
  have HY := HY'
  clear HB' HX' HY'
  go_upto_region 12 with fail
  obtain ⟨x0, x1, x2, x3⟩ := lcells HX.out
  go_wp2_with fail
  refine Calls.mono (HT1.out w8 (HPn.out _ HB.out)) ?_
  rintro e w9 ⟨rfl, hb9⟩
  have HX9 := Lib.hid (HX.out.below hb9)
  have HB9 : Hid (Below g w w9) := HB.out.trans (hb9.mono (by have := HX.out.lt; omega))
  clear hb9 x0 x1 x2 x3 HB HX HY HT1
  go_wp2_with fail
  refine Calls.mono (HRd.out w9 (HVn.out _ HB9.out) (HPn.out _ HB9.out)) ?_
  rintro e w10 ⟨rfl, hb10⟩
  have HX10 := Lib.hid (HX9.out.below hb10)
  have HB10 : Hid (Below g w w10) := HB9.out.trans (hb10.mono (by have := HX9.out.lt; omega))
  clear hb10 HX9 HB9 HRd HVn HPn
  go_upto_region 14 with fail
  have HX11 := Lib.hid (HX10.out.alloc (Obj.cells #[.int .i64 0, .int .i64 0, .int .i64 a, .int .i64 b] 23))
  have HZ11 := Lib.hid (Box.new w10 23 #[.int .i64 0, .int .i64 0, .int .i64 a, .int .i64 b])
  have HB11 : Hid (Below g w (w10.alloc (Obj.cells #[.int .i64 0, .int .i64 0, .int .i64 a, .int .i64 b] 23))) := HB10.out.alloc (by have := HX10.out.lt; omega) _
  clear HX10 HB10
  generalize w10.alloc (Obj.cells #[.int .i64 0, .int .i64 0, .int .i64 a, .int .i64 b] 23) = w11 at *
  generalize w10.heap.size = gz at *
  obtain ⟨x0, x1, x2, x3⟩ := lcells HX11.out
  obtain ⟨z0, z1, z2, z3⟩ := lcells HZ11.out
  have tl : lenB 0 0 a b 0 0 a b = true := lenB_yes ⟨rfl, rfl, rfl, rfl⟩
  go_wp2_with fail
  go_ret
  exact ⟨rfl, by rw [HG.out]; exact HB11.out⟩

set_option maxRecDepth 100000 in
theorem walk {H : Type} {enc : TypeId × Value → H} {base : Nat} {W : World} (a0 : Int) (w0 : (Lit.int .i64 a0).wf = true) (a1 : Int) (w1 : (Lit.int .i64 a1).wf = true) (v2 : Value) (d2 : DataW H) (p2 : List MemPlace) (hv2 : Value.okWide Tryz.prog W .any base 23 v2) (h2 : DataW.Trod enc Tryz.prog W 0 (fun _ => true) true 23 v2 d2 p2)
    (v3 : Value) (d3 : DataW H) (p3 : List MemPlace) (hv3 : Value.okWide Tryz.prog W .any base 23 v3) (h3 : DataW.Trod enc Tryz.prog W 0 (fun _ => true) true 23 v3 d3 p3) (hL : laidMet Tryz.prog Rows.spanStepsRow.laid W) (hsh : W.ShapedOpen Tryz.prog) :
    Calls Tryz.prog 6 #[.int .i64 a0, .int .i64 a1, v2, v3] W fun e W' => e = .returned (.bool true) ∧ Below W.heap.size W W' := by
  obtain ⟨x0, x1, x2, x3, rfl⟩ := len_open hv2 h2
  obtain ⟨y0, y1, y2, y3, rfl⟩ := len_open hv3 h3
  exact core a0 a1 x0 x1 x2 x3 y0 y1 y2 y3 W (bounds_i64 w0).1 (bounds_i64 w0).2 ⟨sgs_of hL.tail.tail.tail.tail.tail.tail.tail, lvs_of hL.tail.tail.tail.tail.tail.tail, Shp.of hsh⟩ (pow_of hL.tail.tail)
end Go.Proofs.YteebjkcpniddiaaGreatDoor.spanSteps
