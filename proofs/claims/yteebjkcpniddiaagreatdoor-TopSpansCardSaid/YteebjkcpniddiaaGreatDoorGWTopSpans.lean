/- WTopSpans -/
import Derived.Test.YteebjkcpniddiaaGreatDoorGSp1
import Derived.Test.YteebjkcpniddiaaGreatDoorGSpNo
import Derived.Test.YteebjkcpniddiaaGreatDoorGTopCut
import Derived.Test.YteebjkcpniddiaaGreatDoorGBack1
/- The walk of TopSpans: it returns true at every input; it writes nothing that was there. -/
namespace Go.Proofs.YteebjkcpniddiaaGreatDoor.topSpans
open Go Go.RowKit
set_option linter.unusedVariables false

theorem cr1_in : cr1 ∈ catR := by simp [catR]
theorem cr1_nm : str cr1.nm = ⟨#[106, 117, 108, 105, 97, 110]⟩ := rfl
theorem one_add (w : World) (hE : Env w) : Calls Tryz.prog 18 #[.string ⟨#[106, 117, 108, 105, 97, 110]⟩, .int .i64 86400000, .agg #[.int .i64 0, .int .i64 0, .int .i64 2, .int .i64 0]] w fun e w' => e = .returned (.tuple #[.int .i64 259200000, .int .i64 0]) ∧ Below w.heap.size w w' := by
  have h := Add_any cr1 cr1_in (calE cr1) (calE_of cr1) 0 0 0 86400000 0 0 2 0 w hE (by unfold InstOk; omega) (.inl ⟨rfl, rfl⟩) ⟨by omega, by omega, by omega, by omega⟩ (by omega)
  rw [cr1_nm] at h
  refine Calls.mono h ?_
  rintro e w' ⟨o, F, rfl, hP, hb⟩
  obtain ⟨rfl, rfl⟩ := hP.plain (by unfold DayOk; omega) (by unfold InstOk; omega)
  exact ⟨rfl, hb⟩
/-- what Add says of one year more than Between -/
def MoreP (b o F : Int) : Prop := F ≠ 0 ∨ b < o
theorem bet_add (r : CatRow) (hr : r ∈ catR) (a b Y : Int) (M : Nat) (D S : Int) (ha : 0 ≤ a) (hab : a ≤ b) (hb : b ≤ 70000000000000) (hY : 0 ≤ Y) (hY2 : Y ≤ 10000) (hM : M ≤ 10000) (h : BetP r a b Y M D S) :
    LenOk Y (M : Int) D S ∧ (∀ w, Env w → Calls Tryz.prog 18 #[.string (str r.nm), .int .i64 a, .agg (lenC Y (M : Int) D S)] w fun e w' => e = .returned (.tuple #[.int .i64 b, .int .i64 0]) ∧ Below w.heap.size w w') ∧
    (∀ w, Env w → Calls Tryz.prog 18 #[.string (str r.nm), .int .i64 a, .agg (lenC (Y + 1) 0 0 0)] w fun e w' => ∃ o F, e = .returned (.tuple #[.int .i64 o, .int .i64 F]) ∧ MoreP b o F ∧ Below w.heap.size w w') := by
  obtain ⟨c, y, m, d, at_, hof, ok, ho, hy1, hy2, hA, hle, rfl, rfl, hmore⟩ := h
  have hai : InstOk a := by unfold InstOk; omega
  have hbi : InstOk b := by unfold InstOk; omega
  have hat := hA.inst
  unfold InstOk at hat
  have hl : LenOk Y (M : Int) ((b - at_) / 86400000) ((b - at_) % 86400000) := ⟨by omega, by omega, by omega, by omega⟩
  refine ⟨hl, fun w hv => ?_, fun w hv => ?_⟩
  · refine (Add_any r hr c hof y m d a Y M ((b - at_) / 86400000) ((b - at_) % 86400000) w hv hai (.inr ⟨ho, hy1, hy2⟩) hl hY).mono ?_
    rintro e w' ⟨o, F, rfl, hP, hbw⟩
    obtain ⟨rfl, rfl⟩ := hA.back hai hbi hle hP
    exact ⟨rfl, hbw⟩
  · by_cases hlt : Y < 10000
    · refine (Add_any r hr c hof y m d a (Y + 1) 0 0 0 w hv hai (.inr ⟨ho, hy1, hy2⟩) ⟨by omega, by omega, by omega, by omega⟩ (by omega)).mono ?_
      rintro e w' ⟨o, F, rfl, hP, hbw⟩
      obtain ⟨at2, F2, hP2, hor⟩ := hmore hlt
      obtain ⟨rfl, rfl⟩ := hP2.unique hP
      exact ⟨_, _, rfl, hor, hbw⟩
    · refine (Add_no r.nm a (Y + 1) 0 0 0 w (fun h => by have := h.1.2; omega)).mono ?_
      rintro e w' ⟨o, F, rfl, hF, hbw⟩
      exact ⟨_, _, rfl, .inl hF, hbw⟩

set_option maxRecDepth 100000 in
set_option maxHeartbeats 4000000 in
theorem core (k a0 b0 : Int) (w : World) (hk1 : -9223372036854775808 ≤ k) (hk2 : k ≤ 9223372036854775807) (hv : Env w) (hp : Pow w) :
    Calls Tryz.prog 7 #[.int .i64 k, .int .i64 a0, .int .i64 b0] w fun e w' => e = .returned (.bool true) ∧ Below w.heap.size w w' := by
  have HN := Lib.hid (fun W (h : Env W) => aname_any k W hk1 hk2 h.h)
  have HOne := Lib.hid (one_add w hv)
  have HV := Lib.hid hv
  have HPw := Lib.hid hp
  have HCa := Lib.hid (fun W => acut_any a0 0 51840000000000 W (by omega) (by omega) (by omega) (by omega))
  have HCb := Lib.hid (fun W => acut_any b0 0 345600000000 W (by omega) (by omega) (by omega) (by omega))
  have b1 := Int.emod_nonneg a0 (show (51840000000000 : Int) ≠ 0 by omega)
  have b2 := Int.emod_lt_of_pos a0 (show (0 : Int) < 51840000000000 by omega)
  have b3 := Int.emod_nonneg b0 (show (345600000000 : Int) ≠ 0 by omega)
  have b4 := Int.emod_lt_of_pos b0 (show (0 : Int) < 345600000000 by omega)
  obtain ⟨a, hae⟩ : ∃ a, a = 0 + a0 % 51840000000000 := ⟨_, rfl⟩
  obtain ⟨q, hqe⟩ : ∃ q, q = 0 + b0 % 345600000000 := ⟨_, rfl⟩
  rw [← hae] at HCa
  rw [← hqe] at HCb
  have ha0 : 0 ≤ a := by omega
  have ha1 : a < 51840000000000 := by omega
  have hq0 : 0 ≤ q := by omega
  have hq1 : q < 345600000000 := by omega
  have ew : IntKind.i64.wrap (a + q) = a + q := intFits _ (by omega) (by omega)
  have HBt := Lib.hid (fun W (h : Env W) => Between_any (rowK k) (rowK_in k) a (a + q) W h (by unfold InstOk; omega) (by unfold InstOk; omega) (by omega))
  have HAd := Lib.hid (fun Y (M : Nat) D S (hY : 0 ≤ Y) (hY2 : Y ≤ 10000) (hM : M ≤ 10000) (hB : BetP (rowK k) a (a + q) Y M D S) => bet_add (rowK k) (rowK_in k) a (a + q) Y M D S ha0 (by omega) (by omega) hY hY2 hM hB)
  have HTx := Lib.hid (fun (Y M D S : Int) W (hl : LenOk Y M D S) (h : Pow W) => spText_any Y M D S W hl h)
  have HRd := Lib.hid (fun (Y M D S : Int) W (hl : LenOk Y M D S) (hE : Env W) (h : Pow W) => read_any Y M D S W hl h hE.h)
  clear b1 b2 b3 b4 hae hqe hv hk1 hk2 hp
  unfold BetQ at HBt
  unfold lenC at HBt HAd HTx HRd
  generalize rowK k = r at *
  generalize str r.nm = nm at *
  go_enter Tryz.func7, Tryz.ntmps7
  go_wp2_with fail
  refine Calls.mono HOne.out ?_
  rintro e w1 ⟨rfl, hb1⟩
  have HB1 := Lib.hid hb1
  have HV1 := Lib.hid (HV.out.next hb1)
  have HP1 := Lib.hid (HPw.out.next hb1)
  clear hb1 HV HOne HPw
  go_upto_region 6 with (go_at_call 24; first
    | (refine Calls.mono (HCa.out _) ?_; rintro e w' ⟨rfl, rfl⟩; clear HCa)
    | (refine Calls.mono (HCb.out _) ?_; rintro e w' ⟨rfl, rfl⟩; clear HCb))
  go_wp2_with fail
  refine Calls.mono (HN.out w1 HV1.out) ?_
  rintro e w3 ⟨rfl, hb3⟩
  have HB3 := Lib.hid (below_then HB1.out hb3)
  have HV3 := Lib.hid (HV1.out.next hb3)
  have HP3 := Lib.hid (HP1.out.next hb3)
  clear hb3 HB1 HV1 HP1
  go_wp2_with fail
  refine Calls.mono (HBt.out w3 HV3.out) ?_
  rintro e w4 ⟨hb4, Y, M, D, S, E, rfl, hc⟩
  have HB4 := Lib.hid (below_then HB3.out hb4)
  have HV4 := Lib.hid (HV3.out.next hb4)
  have HP4 := Lib.hid (HP3.out.next hb4)
  clear hb4 HB3 HV3 HP3 HBt
  rcases hc with ⟨rfl, _⟩ | ⟨rfl, hY, hY2, hM, hB⟩
  · go_wp2_with fail
    have HB5 := Lib.hid (HB4.out.alloc HB4.out.size (Obj.cells #[.int .i64 Y, .int .i64 (M : Int), .int .i64 D, .int .i64 S] 23))
    go_ret
    exact ⟨rfl, HB5.out⟩
  obtain ⟨hl, hA1, hA2⟩ := HAd.out Y M D S hY hY2 hM hB
  have HA1 := Lib.hid hA1
  have HA2 := Lib.hid hA2
  have HTx1 := Lib.hid (fun W h => HTx.out Y M D S W hl h)
  have HRd1 := Lib.hid (fun W hE h => HRd.out Y M D S W hl hE h)
  clear hB HAd hA1 hA2 hl HTx HRd
  have eY : IntKind.i64.wrap (Y + 1) = Y + 1 := intFits _ (by omega) (by omega)
  generalize spanT Y (M : Int) D S = T at *
  go_upto_region 9 with fail
  have HB5 := Lib.hid (HB4.out.alloc HB4.out.size (Obj.cells #[.int .i64 Y, .int .i64 (M : Int), .int .i64 D, .int .i64 S] 23))
  have HV5 := Lib.hid (HV4.out.next (below_alloc1 w4 (Obj.cells #[.int .i64 Y, .int .i64 (M : Int), .int .i64 D, .int .i64 S] 23)))
  have HP5 := Lib.hid (HP4.out.next (below_alloc1 w4 (Obj.cells #[.int .i64 Y, .int .i64 (M : Int), .int .i64 D, .int .i64 S] 23)))
  have HX5 := Lib.hid (Box.new w4 23 #[.int .i64 Y, .int .i64 (M : Int), .int .i64 D, .int .i64 S])
  clear HB4 HV4 HP4
  generalize w4.alloc (Obj.cells #[.int .i64 Y, .int .i64 (M : Int), .int .i64 D, .int .i64 S] 23) = w5 at *
  generalize w4.heap.size = gx at *
  obtain ⟨x0, x1, x2, x3⟩ := lcells HX5.out
  go_wp2_with fail
  refine Calls.mono (HTx1.out w5 HP5.out) ?_
  rintro e w6 ⟨rfl, hb6⟩
  have HB6 := Lib.hid (below_then HB5.out hb6)
  have HV6 := Lib.hid (HV5.out.next hb6)
  have HP6 := Lib.hid (HP5.out.next hb6)
  have HX6 := Lib.hid (HX5.out.below hb6)
  clear hb6 HB5 HV5 HP5 HX5 HTx1 x0 x1 x2 x3
  go_wp2_with fail
  refine Calls.mono (HRd1.out w6 HV6.out HP6.out) ?_
  rintro e w7 ⟨rfl, hb7⟩
  have HB7 := Lib.hid (below_then HB6.out hb7)
  have HV7 := Lib.hid (HV6.out.next hb7)
  have HX7 := Lib.hid (HX6.out.below hb7)
  clear hb7 HB6 HV6 HP6 HX6 HRd1
  go_upto_region 15 with fail
  have hb8 := below_alloc1 w7 (Obj.cells #[.int .i64 Y, .int .i64 (M : Int), .int .i64 D, .int .i64 S] 23)
  have HB8 := Lib.hid (below_then HB7.out hb8)
  have HV8 := Lib.hid (HV7.out.next hb8)
  have HX8 := Lib.hid (HX7.out.below hb8)
  have HY8 := Lib.hid (Box.new w7 23 #[.int .i64 Y, .int .i64 (M : Int), .int .i64 D, .int .i64 S])
  clear HB7 HV7 HX7 hb8
  generalize w7.alloc (Obj.cells #[.int .i64 Y, .int .i64 (M : Int), .int .i64 D, .int .i64 S] 23) = w8 at *
  generalize w7.heap.size = gy at *
  have x0 := fun W (hb : Below w8.heap.size w8 W) => (lcells (HY8.out.below hb)).1
  have x1 := fun W (hb : Below w8.heap.size w8 W) => (lcells (HY8.out.below hb)).2.1
  have x2 := fun W (hb : Below w8.heap.size w8 W) => (lcells (HY8.out.below hb)).2.2.1
  have x3 := fun W (hb : Below w8.heap.size w8 W) => (lcells (HY8.out.below hb)).2.2.2
  refine flow_begin (tellOf [(1, det (.string nm)), (4, det (.tuple #[.int .i64 (a + q), .int .i64 0]))]) (by kernel_rfl) (by kernel_rfl) ?_
  repeat (first | (refine flow_val (v := ?_) (by rfl) (by rfl) (fun w hb => ?_) ?_; rotate_left; (· ((go_simp) <;> ((repeat' apply And.intro) <;> with_reducible rfl))); try simp only [Act.put, List.setIfInBounds_toArray, List.set_cons_zero, List.set_cons_succ, Nat.reduceAdd]) | (refine flow_skip (by rfl) (by rfl) ?_; try simp only [Act.put, List.setIfInBounds_toArray, List.set_cons_zero, List.set_cons_succ, Nat.reduceAdd]))
  refine flow_call (f := ?_) (args := ?_) [] (by kernel_rfl) (by rfl) (by rfl) (fun w hb => ?_) (fun w hb hu => ?_) ?_; rotate_left 2; (· ((go_simp) <;> ((repeat' apply And.intro) <;> with_reducible rfl)))
  · exact HN.out w (HV8.out.next hb)
  try simp only [Act.put, List.setIfInBounds_toArray, List.set_cons_zero, List.set_cons_succ, Nat.reduceAdd]
  repeat (first | (refine flow_val (v := ?_) (by rfl) (by rfl) (fun w hb => ?_) ?_; rotate_left; (· ((go_simp) <;> ((repeat' apply And.intro) <;> with_reducible rfl))); try simp only [Act.put, List.setIfInBounds_toArray, List.set_cons_zero, List.set_cons_succ, Nat.reduceAdd]) | (refine flow_skip (by rfl) (by rfl) ?_; try simp only [Act.put, List.setIfInBounds_toArray, List.set_cons_zero, List.set_cons_succ, Nat.reduceAdd]))
  refine flow_call (f := ?_) (args := ?_) [] (by kernel_rfl) (by rfl) (by rfl) (fun w hb => ?_) (fun w hb hu => ?_) ?_; rotate_left 2; (· ((go_simp) <;> ((repeat' apply And.intro) <;> with_reducible rfl)))
  · exact HA1.out w (HV8.out.next hb)
  try simp only [Act.put, List.setIfInBounds_toArray, List.set_cons_zero, List.set_cons_succ, Nat.reduceAdd]
  repeat (first | (refine flow_val (v := ?_) (by rfl) (by rfl) (fun w hb => ?_) ?_; rotate_left; (· ((go_simp) <;> ((repeat' apply And.intro) <;> with_reducible rfl))); try simp only [Act.put, List.setIfInBounds_toArray, List.set_cons_zero, List.set_cons_succ, Nat.reduceAdd]) | (refine flow_skip (by rfl) (by rfl) ?_; try simp only [Act.put, List.setIfInBounds_toArray, List.set_cons_zero, List.set_cons_succ, Nat.reduceAdd]))
  refine flow_nil fun w9 hb9 _ => ?_
  have HB9 := Lib.hid (below_then HB8.out hb9)
  have HV9 := Lib.hid (HV8.out.next hb9)
  have HX9 := Lib.hid (HX8.out.below hb9)
  clear hb9 x0 x1 x2 x3 HB8 HV8 HX8 HY8 HA1
  go_upto_region 18 with fail
  have y0 := fun W (hb : Below w9.heap.size w9 W) => (lcells (HX9.out.below hb)).1
  have HEx : Hid (∃ o F, MoreP (a + q) o F) := ⟨0, 1, .inl (by decide)⟩
  refine flow_begin (tellOf [(1, det (.string nm)), (7, pairT (fun o F => MoreP (a + q) o F))]) (by kernel_rfl) (by kernel_rfl) ?_
  repeat (first | (refine flow_val (v := ?_) (by rfl) (by rfl) (fun w hb => ?_) ?_; rotate_left; (· ((go_simp) <;> ((repeat' apply And.intro) <;> with_reducible rfl))); try simp only [Act.put, List.setIfInBounds_toArray, List.set_cons_zero, List.set_cons_succ, Nat.reduceAdd]) | (refine flow_skip (by rfl) (by rfl) ?_; try simp only [Act.put, List.setIfInBounds_toArray, List.set_cons_zero, List.set_cons_succ, Nat.reduceAdd]))
  refine flow_call (f := ?_) (args := ?_) [] (by kernel_rfl) (by rfl) (by rfl) (fun w hb => ?_) (fun w hb hu => ?_) ?_; rotate_left 2; (· ((go_simp) <;> ((repeat' apply And.intro) <;> with_reducible rfl)))
  · exact HN.out w (HV9.out.next hb)
  try simp only [Act.put, List.setIfInBounds_toArray, List.set_cons_zero, List.set_cons_succ, Nat.reduceAdd]
  repeat (first | (refine flow_val (v := ?_) (by rfl) (by rfl) (fun w hb => ?_) ?_; rotate_left; (· ((go_simp) <;> ((repeat' apply And.intro) <;> with_reducible rfl))); try simp only [Act.put, List.setIfInBounds_toArray, List.set_cons_zero, List.set_cons_succ, Nat.reduceAdd]) | (refine flow_skip (by rfl) (by rfl) ?_; try simp only [Act.put, List.setIfInBounds_toArray, List.set_cons_zero, List.set_cons_succ, Nat.reduceAdd]))
  refine flow_pair (f := ?_) (args := ?_) [] HEx.out (by kernel_rfl) (by rfl) (by rfl) (fun w hb => ?_) (fun w hb hu => ?_) (fun o F hp => ?_); rotate_left 2; (· ((go_simp) <;> ((repeat' apply And.intro) <;> with_reducible rfl)))
  · exact HA2.out w (HV9.out.next hb)
  try simp only [Act.put, List.setIfInBounds_toArray, List.set_cons_zero, List.set_cons_succ, Nat.reduceAdd]
  repeat (first | (refine flow_val (v := ?_) (by rfl) (by rfl) (fun w hb => ?_) ?_; rotate_left; (· ((go_simp) <;> ((repeat' apply And.intro) <;> with_reducible rfl))); try simp only [Act.put, List.setIfInBounds_toArray, List.set_cons_zero, List.set_cons_succ, Nat.reduceAdd]) | (refine flow_skip (by rfl) (by rfl) ?_; try simp only [Act.put, List.setIfInBounds_toArray, List.set_cons_zero, List.set_cons_succ, Nat.reduceAdd]))
  refine flow_nil fun w10 hb10 _ => ?_
  have HB10 := Lib.hid (below_then HB9.out hb10)
  clear hb10 y0 HB9 HV9 HX9 HA2 HN HEx
  by_cases hF : F = 0
  · subst hF
    have hlt : a + q < o := hp.resolve_left (fun h => h rfl)
    have t1 : decide (a + q < o) = true := decide_eq_true hlt
    clear hp hlt
    go_wp2_with fail
    go_ret
    exact ⟨rfl, HB10.out⟩
  · have t1 : (F != 0) = true := by rw [bne_iff_ne]; exact hF
    clear hp hF
    go_wp2_with fail
    go_ret
    exact ⟨rfl, HB10.out⟩

theorem walk (a0 : Int) (w0 : (Lit.int .i64 a0).wf = true) (a1 : Int) (w1 : (Lit.int .i64 a1).wf = true) (a2 : Int) (w2 : (Lit.int .i64 a2).wf = true) (W : World) (hL : laidMet Tryz.prog Rows.topSpansRow.laid W) (hsh : W.ShapedOpen Tryz.prog) :
    Calls Tryz.prog 7 #[.int .i64 a0, .int .i64 a1, .int .i64 a2] W fun e w' => e = .returned (.bool true) ∧ Below W.heap.size W w' := by
  have h := core a0 a1 a2 W (bounds_i64 w0).1 (bounds_i64 w0).2 ⟨sgs_of hL.tail.tail.tail.tail.tail.tail.tail, lvs_of hL.tail.tail.tail.tail.tail.tail, Shp.of hsh⟩ (pow_of hL.tail.tail)
  exact h
end Go.Proofs.YteebjkcpniddiaaGreatDoor.topSpans
