/- WSpanBack -/
import Derived.Test.YteebjkcpniddiaaGreatDoorGSp1
import Derived.Test.YteebjkcpniddiaaGreatDoorGPlainDate
import Derived.Test.YteebjkcpniddiaaGreatDoorGLenEq
import Derived.Test.YteebjkcpniddiaaGreatDoorGCat1
import Derived.Test.YteebjkcpniddiaaGreatDoorGBack1
/- The walk of SpanBack: it returns true at every input; it writes nothing that was there. -/
namespace Go.Proofs.YteebjkcpniddiaaGreatDoor.spanBack
open Go Go.RowKit
set_option linter.unusedVariables false

theorem cr0_nm : str cr0.nm = ⟨#[103, 114, 101, 103, 111, 114, 105, 97, 110]⟩ := rfl
/-- what add says, once at least -/
theorem one_bet (w : World) (hE : Env w) : Calls Tryz.prog 15 #[.string ⟨#[103, 114, 101, 103, 111, 114, 105, 97, 110]⟩, .int .i64 86400000, .int .i64 172800005] w fun e w' => e = .returned (.tuple #[.agg (lenC 0 0 1 5), .int .i64 0]) ∧ Below w.heap.size w w' := by
  have h := Between_any cr0 cr0_in 86400000 172800005 w hE (by unfold InstOk; omega) (by unfold InstOk; omega) (by omega)
  rw [cr0_nm] at h
  refine Calls.mono h ?_
  rintro e w' ⟨hb, Y, M, D, S, E, rfl, hc⟩
  rcases hc with ⟨_, t, c, ht, hof, ok, hno⟩ | ⟨rfl, hY, _, _, hB⟩
  · exact absurd (bet_has hof ok ht) hno
  · obtain ⟨rfl, rfl, rfl, rfl⟩ := bet_const hY hB
    exact ⟨rfl, hb⟩
/-- what was left over is added back: the same instant -/
theorem add_back (r : CatRow) (hr : r ∈ catR) (a b Y : Int) (M : Nat) (D S : Int) (w : World) (hv : Env w) (ha : 0 ≤ a) (hab : a ≤ b) (hb : b ≤ 70000000000000) (hY : 0 ≤ Y) (hY2 : Y ≤ 10000) (hM : M ≤ 10000) (h : BetP r a b Y M D S) :
    (0 ≤ D ∧ 0 ≤ S ∧ S < 86400000) ∧ Calls Tryz.prog 18 #[.string (str r.nm), .int .i64 a, .agg (lenC Y (M : Int) D S)] w fun e w' => e = .returned (.tuple #[.int .i64 b, .int .i64 0]) ∧ Below w.heap.size w w' := by
  obtain ⟨c, y, m, d, at_, hof, ok, ho, hy1, hy2, hA, hle, rfl, rfl, _⟩ := h
  have hai : InstOk a := by unfold InstOk; omega
  have hbi : InstOk b := by unfold InstOk; omega
  have hat := hA.inst
  unfold InstOk at hat
  refine ⟨by omega, ?_⟩
  refine (Add_any r hr c hof y m d a Y M ((b - at_) / 86400000) ((b - at_) % 86400000) w hv hai (.inr ⟨ho, hy1, hy2⟩) ⟨by omega, by omega, by omega, by omega⟩ hY).mono ?_
  rintro e w' ⟨o, F, rfl, hP, hbw⟩
  obtain ⟨rfl, rfl⟩ := hA.back hai hbi hle hP
  exact ⟨rfl, hbw⟩

set_option maxRecDepth 100000 in
set_option maxHeartbeats 4000000 in
theorem core (k a0 b0 : Int) (w : World) (hk1 : -9223372036854775808 ≤ k) (hk2 : k ≤ 9223372036854775807) (hv : Env w) :
    Calls Tryz.prog 3 #[.int .i64 k, .int .i64 a0, .int .i64 b0] w fun e w' => e = .returned (.bool true) ∧ Below w.heap.size w w' := by
  have HN := Lib.hid (fun W (h : Env W) => name_any k W hk1 hk2 h.h)
  have HOne := Lib.hid (one_bet w hv)
  have HV := Lib.hid hv
  have HCa := Lib.hid (fun W => cut_any a0 0 60480000000000 W (by omega) (by omega) (by omega) (by omega))
  have HCb := Lib.hid (fun W => cut_any b0 0 259200000000 W (by omega) (by omega) (by omega) (by omega))
  have b1 := Int.emod_nonneg a0 (show (60480000000000 : Int) ≠ 0 by omega)
  have b2 := Int.emod_lt_of_pos a0 (show (0 : Int) < 60480000000000 by omega)
  have b3 := Int.emod_nonneg b0 (show (259200000000 : Int) ≠ 0 by omega)
  have b4 := Int.emod_lt_of_pos b0 (show (0 : Int) < 259200000000 by omega)
  obtain ⟨a, hae⟩ : ∃ a, a = 0 + a0 % 60480000000000 := ⟨_, rfl⟩
  obtain ⟨q, hqe⟩ : ∃ q, q = 0 + b0 % 259200000000 := ⟨_, rfl⟩
  rw [← hae] at HCa
  rw [← hqe] at HCb
  have ha0 : 0 ≤ a := by omega
  have ha1 : a < 60480000000000 := by omega
  have hq0 : 0 ≤ q := by omega
  have hq1 : q < 259200000000 := by omega
  have ew : IntKind.i64.wrap (a + q) = a + q := intFits _ (by omega) (by omega)
  have HBt := Lib.hid (fun W (h : Env W) => Between_any (rowK k) (rowK_in k) a (a + q) W h (by unfold InstOk; omega) (by unfold InstOk; omega) (by omega))
  have HAd := Lib.hid (fun Y (M : Nat) D S W (h : Env W) (hY : 0 ≤ Y) (hY2 : Y ≤ 10000) (hM : M ≤ 10000) (hB : BetP (rowK k) a (a + q) Y M D S) => add_back (rowK k) (rowK_in k) a (a + q) Y M D S W h ha0 (by omega) (by omega) hY hY2 hM hB)
  clear b1 b2 b3 b4 hae hqe hv hk1 hk2
  unfold BetQ at HBt
  unfold lenC at HBt HOne HAd
  generalize rowK k = r at *
  generalize str r.nm = nm at *
  have ds := len_same
  have dg := len_guard
  go_enter Tryz.func3, Tryz.ntmps3
  go_wp2_with fail
  refine Calls.mono HOne.out ?_
  rintro e w1 ⟨rfl, hb1⟩
  have HB1 := Lib.hid hb1
  have HV1 := Lib.hid (HV.out.next hb1)
  have HX1 := Lib.hid (Box.new w1 23 #[.int .i64 0, .int .i64 0, .int .i64 1, .int .i64 5])
  clear hb1 HV HOne
  go_upto_region 4 with fail
  have HB2 := Lib.hid (HB1.out.alloc HB1.out.size (Obj.cells #[.int .i64 0, .int .i64 0, .int .i64 1, .int .i64 5] 23))
  have HV2 := Lib.hid (HV1.out.next (below_alloc1 w1 (Obj.cells #[.int .i64 0, .int .i64 0, .int .i64 1, .int .i64 5] 23)))
  clear HB1 HV1 HX1 ds dg
  generalize w1.alloc (Obj.cells #[.int .i64 0, .int .i64 0, .int .i64 1, .int .i64 5] 23) = w2 at *
  go_upto_region 6 with (go_at_call 16; first
    | (refine Calls.mono (HCa.out _) ?_; rintro e w' ⟨rfl, rfl⟩; clear HCa)
    | (refine Calls.mono (HCb.out _) ?_; rintro e w' ⟨rfl, rfl⟩; clear HCb))
  go_wp2_with fail
  refine Calls.mono (HN.out w2 HV2.out) ?_
  rintro e w3 ⟨rfl, hb3⟩
  have HB3 := Lib.hid (below_then HB2.out hb3)
  have HV3 := Lib.hid (HV2.out.next hb3)
  clear hb3 HB2 HV2
  go_wp2_with fail
  refine Calls.mono (HBt.out w3 HV3.out) ?_
  rintro e w4 ⟨hb4, Y, M, D, S, E, rfl, hc⟩
  have HB4 := Lib.hid (below_then HB3.out hb4)
  have HV4 := Lib.hid (HV3.out.next hb4)
  clear hb4 HB3 HV3 HBt
  rcases hc with ⟨rfl, _⟩ | ⟨rfl, hY, hY2, hM, hB⟩
  · go_wp2_with fail
    have HB5 := Lib.hid (HB4.out.alloc HB4.out.size (Obj.cells #[.int .i64 Y, .int .i64 (M : Int), .int .i64 D, .int .i64 S] 23))
    go_ret
    exact ⟨rfl, HB5.out⟩
  obtain ⟨⟨hD, hS, hS2⟩, _⟩ := HAd.out Y M D S w4 HV4.out hY hY2 hM hB
  have HAdd := Lib.hid (fun W (h : Env W) => (HAd.out Y M D S W h hY hY2 hM hB).2)
  clear hB HAd
  go_upto_region 9 with fail
  have HB5 := Lib.hid (HB4.out.alloc HB4.out.size (Obj.cells #[.int .i64 Y, .int .i64 (M : Int), .int .i64 D, .int .i64 S] 23))
  have HV5 := Lib.hid (HV4.out.next (below_alloc1 w4 (Obj.cells #[.int .i64 Y, .int .i64 (M : Int), .int .i64 D, .int .i64 S] 23)))
  have HX5 := Lib.hid (Box.new w4 23 #[.int .i64 Y, .int .i64 (M : Int), .int .i64 D, .int .i64 S])
  clear HB4 HV4
  generalize w4.alloc (Obj.cells #[.int .i64 Y, .int .i64 (M : Int), .int .i64 D, .int .i64 S] 23) = w5 at *
  generalize w4.heap.size = gx at *
  have x0 := fun W (hb : Below w5.heap.size w5 W) => (lcells (HX5.out.below hb)).1
  have x1 := fun W (hb : Below w5.heap.size w5 W) => (lcells (HX5.out.below hb)).2.1
  have x2 := fun W (hb : Below w5.heap.size w5 W) => (lcells (HX5.out.below hb)).2.2.1
  have x3 := fun W (hb : Below w5.heap.size w5 W) => (lcells (HX5.out.below hb)).2.2.2
  refine flow_begin (tellOf [(1, det (.string nm)), (4, det (.tuple #[.int .i64 (a + q), .int .i64 0]))]) (by kernel_rfl) (by kernel_rfl) ?_
  repeat (first | (refine flow_val (v := ?_) (by rfl) (by rfl) (fun w hb => ?_) ?_; rotate_left; (· ((go_simp) <;> ((repeat' apply And.intro) <;> with_reducible rfl))); try simp only [Act.put, List.setIfInBounds_toArray, List.set_cons_zero, List.set_cons_succ, Nat.reduceAdd]) | (refine flow_skip (by rfl) (by rfl) ?_; try simp only [Act.put, List.setIfInBounds_toArray, List.set_cons_zero, List.set_cons_succ, Nat.reduceAdd]))
  refine flow_call (f := ?_) (args := ?_) [] (by kernel_rfl) (by rfl) (by rfl) (fun w hb => ?_) (fun w hb hu => ?_) ?_; rotate_left 2; (· ((go_simp) <;> ((repeat' apply And.intro) <;> with_reducible rfl)))
  · exact HN.out w (HV5.out.next hb)
  try simp only [Act.put, List.setIfInBounds_toArray, List.set_cons_zero, List.set_cons_succ, Nat.reduceAdd]
  repeat (first | (refine flow_val (v := ?_) (by rfl) (by rfl) (fun w hb => ?_) ?_; rotate_left; (· ((go_simp) <;> ((repeat' apply And.intro) <;> with_reducible rfl))); try simp only [Act.put, List.setIfInBounds_toArray, List.set_cons_zero, List.set_cons_succ, Nat.reduceAdd]) | (refine flow_skip (by rfl) (by rfl) ?_; try simp only [Act.put, List.setIfInBounds_toArray, List.set_cons_zero, List.set_cons_succ, Nat.reduceAdd]))
  refine flow_call (f := ?_) (args := ?_) [] (by kernel_rfl) (by rfl) (by rfl) (fun w hb => ?_) (fun w hb hu => ?_) ?_; rotate_left 2; (· ((go_simp) <;> ((repeat' apply And.intro) <;> with_reducible rfl)))
  · exact HAdd.out w (HV5.out.next hb)
  try simp only [Act.put, List.setIfInBounds_toArray, List.set_cons_zero, List.set_cons_succ, Nat.reduceAdd]
  repeat (first | (refine flow_val (v := ?_) (by rfl) (by rfl) (fun w hb => ?_) ?_; rotate_left; (· ((go_simp) <;> ((repeat' apply And.intro) <;> with_reducible rfl))); try simp only [Act.put, List.setIfInBounds_toArray, List.set_cons_zero, List.set_cons_succ, Nat.reduceAdd]) | (refine flow_skip (by rfl) (by rfl) ?_; try simp only [Act.put, List.setIfInBounds_toArray, List.set_cons_zero, List.set_cons_succ, Nat.reduceAdd]))
  refine flow_nil fun w6 hb6 _ => ?_
  have HB6 := Lib.hid (below_then HB5.out hb6)
  obtain ⟨z0, z1, z2, z3⟩ := lcells (HX5.out.below hb6)
  clear hb6 x0 x1 x2 x3 HB5 HV5 HX5 HAdd HN
  have tS : decide (S < 86400000) = true := decide_eq_true hS2
  obtain ⟨z, hz, hmin⟩ := min_four Y M D S hY (by omega) hD hS
  have tz : decide (0 ≤ z) = true := decide_eq_true hz
  go_wp2_with fail
  go_ret
  exact ⟨rfl, HB6.out⟩

theorem walk (a0 : Int) (w0 : (Lit.int .i64 a0).wf = true) (a1 : Int) (w1 : (Lit.int .i64 a1).wf = true) (a2 : Int) (w2 : (Lit.int .i64 a2).wf = true) (W : World) (hL : laidMet Tryz.prog Rows.spanBackRow.laid W) (hsh : W.ShapedOpen Tryz.prog) :
    Calls Tryz.prog 3 #[.int .i64 a0, .int .i64 a1, .int .i64 a2] W fun e w' => e = .returned (.bool true) ∧ Below W.heap.size W w' := by
  have h := core a0 a1 a2 W (bounds_i64 w0).1 (bounds_i64 w0).2 ⟨sgs_of hL.tail.tail.tail.tail.tail.tail.tail, lvs_of hL.tail.tail.tail.tail.tail.tail, Shp.of hsh⟩
  exact h
end Go.Proofs.YteebjkcpniddiaaGreatDoor.spanBack
