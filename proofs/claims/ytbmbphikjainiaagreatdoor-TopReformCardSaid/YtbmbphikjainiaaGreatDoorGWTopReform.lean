/- WTopReform -/
import Derived.Test.YtbmbphikjainiaaGreatDoorGRefPlain
import Derived.Test.YtbmbphikjainiaaGreatDoorGBack1
/- The walk of TopReform: it returns true at every input; it writes nothing that was there. -/
namespace Go.Proofs.YtbmbphikjainiaaGreatDoor.topReform
open Go Go.RowKit
set_option linter.unusedVariables false

theorem a_name : NameOk ⟨#[97]⟩ := nameB_ok _ (by decide +kernel)
set_option maxHeartbeats 4000000 in
set_option maxRecDepth 100000 in
/-- the part of a day, found from the first part on -/
theorem part_any (r : Rf) (g : Nat) (x : Int) (W : World) (hx : Box W g 68 r.cells) (hin : RfIn W r) (ok : RfOk r) (k : Nat) (hk : PartAt r.ps k x) :
    Calls Tryz.prog 39 #[.int .i64 x, .pointer (some ⟨g, 0, none⟩)] W fun e w' => e = .returned (.int .i64 (k : Int)) ∧ Below W.heap.size W w' := by
  have hn1 := ok.n1
  have hn2 := ok.n2
  obtain ⟨b, o, hA, hbl, hcs⟩ := Row.open_ hin (flat_ne ptF_len (by omega) r.ps (by omega))
  have HCS := Lib.hid (fun j (hj : j < r.ps.length) => by
    have h := flat_cell ptF_len pt0 hcs j 0 hj (by omega) _ rfl
    rwa [Nat.add_zero] at h)
  have x1 : W.cell? ⟨g, 1, none⟩ = some (.slice (some ⟨b, o, none⟩) r.ps.length r.c) := by rw [← hA]; exact hx.cell 1
  have HK := Lib.hid hk
  have hkl := hk.lt
  have HM := Lib.hid (fun j (h : j ≤ k) => by
    have h1 := ok.mono j (k - j) (by omega)
    rw [show j + (k - j) = k from by omega] at h1
    exact h1)
  clear hcs hin hx ok hk hA
  go_enter Tryz.func39, Tryz.ntmps39
  go_wp2_with fail
  go_loop [4] (fun i => ∃ j : Nat, j ≤ k ∧ i = .int .i64 (j : Int)) (fun i => k - (intOf i).toNat)
  case atStart => exact ⟨0, by omega, rfl⟩
  case round =>
    obtain ⟨j, hj, rfl⟩ := hrel
    by_cases hlast : j + 1 < r.ps.length
    · have t1 : decide ((j : Int) + 1 < (r.ps.length : Int)) = true := decide_eq_true (by omega)
      have hb2 : (j : Int) + 1 < (r.ps.length : Int) := by omega
      have c0 := HCS.out (j + 1) hlast
      by_cases hjk : j < k
      · have hle : (r.ps.getD (j + 1) pt0).fr ≤ x := by have := HM.out (j + 1) (by omega); have := HK.out.lo; omega
        obtain ⟨f, hf⟩ : ∃ f, f = (r.ps.getD (j + 1) pt0).fr := ⟨_, rfl⟩
        rw [← hf] at c0 hle
        have t2 : decide (f ≤ x) = true := decide_eq_true hle
        clear hf hle
        go_wp2_with fail
        go_round
        case rel => exact ⟨j + 1, by omega, by go_num⟩
        case measure => simp [intOf]; omega
      · obtain rfl : j = k := by omega
        have hgt := HK.out.hi (j + 1) (by omega) hlast
        obtain ⟨f, hf⟩ : ∃ f, f = (r.ps.getD (j + 1) pt0).fr := ⟨_, rfl⟩
        rw [← hf] at c0 hgt
        have t2 : decide (f ≤ x) = false := decide_eq_false (by omega)
        clear hf hgt
        go_wp2_with fail
        go_ret
        exact ⟨rfl, Below.refl _ _⟩
    · obtain rfl : j = k := by omega
      have t1 : decide ((j : Int) + 1 < (r.ps.length : Int)) = false := decide_eq_false (by omega)
      go_wp2_with fail
      go_ret
      exact ⟨rfl, Below.refl _ _⟩
theorem parts_up {r : Rf} {a1 a2 a3 : Int} {j1 j2 : Nat} {x1 x2 : Int} (h1 : Gd r.ps a1 a2 a3 j1 x1) (h2 : Gd r.ps a1 a2 a3 j2 x2) (h : x1 < x2) : j1 < j2 := by
  by_cases e : j1 = j2
  · subst e
    have := h1.unique h2
    omega
  · by_cases e2 : j1 < j2
    · exact e2
    · have a := h2.1.hi j1 (by omega) h1.1.lt
      have b := h1.1.lo
      omega

set_option maxHeartbeats 4000000 in
set_option maxRecDepth 100000 in
theorem core (r : Rf) (day0 : Int) (w : World) (hr : RfIn w r) (hf : RfFit r) (hv : Env w) :
    Calls Tryz.prog 12 #[r.val, .int .i64 day0] w fun e w' => e = .returned (.bool true) ∧ Below w.heap.size w w' := by
  have HX := Lib.hid (Box.new w 68 r.cells)
  have HB := Lib.hid (below_alloc1 w (Obj.cells r.cells 68))
  have HR := Lib.hid (hr.next HB.out)
  have HE := Lib.hid (hv.next HB.out)
  have HCut := Lib.hid (fun W => acut_any day0 (-400000) 1500000 W (by omega) (by omega) (by omega) (by omega))
  have b1 := Int.emod_nonneg day0 (show (1500000 : Int) ≠ 0 by omega)
  have b2 := Int.emod_lt_of_pos day0 (show (0 : Int) < 1500000 by omega)
  obtain ⟨day, hday⟩ : ∃ day, day = -400000 + day0 % 1500000 := ⟨_, rfl⟩
  rw [← hday] at HCut
  have hd1 : -400000 ≤ day := by omega
  have hd2 : day < 1100000 := by omega
  have HFd := Lib.hid (fun x W (h : RfIn W r) (hE : Env W) => rfromDay_any r x W h hf hE)
  have HDs := Lib.hid (fun a1 a2 a3 W (h : RfIn W r) (hE : Env W) => rdays_any r a1 a2 a3 W h hf hE)
  unfold RFDQ at HFd
  unfold RDaysQ at HDs
  clear b1 b2 hday hr hf hv
  go_enter Tryz.func12, Tryz.ntmps12
  have hsz0 : (w.alloc (Obj.cells r.cells 68)).heap.size = w.heap.size + 1 := World.size_alloc _ _
  go_wp2_with fail
  generalize w.alloc (Obj.cells r.cells 68) = W0 at *
  obtain ⟨g, hg⟩ : ∃ g, g = w.heap.size := ⟨_, rfl⟩
  rw [← hg] at HX hsz0
  rw [← hg]
  clear hg
  have HP1 := Lib.hid (Box.new W0 70 #[.int .i64 (-4000000), .string ⟨#[106, 117, 108, 105, 97, 110]⟩])
  rw [hsz0] at HP1
  have hba := Lib.hid (below_alloc1 W0 (Obj.cells #[.int .i64 (-4000000), .string ⟨#[106, 117, 108, 105, 97, 110]⟩] 70))
  have HX1 := Lib.hid (HX.out.below hba.out)
  have HB1 := Lib.hid (below_then HB.out hba.out)
  have HR1 := Lib.hid (HR.out.next hba.out)
  have HE1 := Lib.hid (HE.out.next hba.out)
  clear HX HB HR HE hba
  generalize W0.alloc (Obj.cells #[.int .i64 (-4000000), .string ⟨#[106, 117, 108, 105, 97, 110]⟩] 70) = W1 at *
  clear hsz0
  have HOne : Hid (Calls Tryz.prog 35 #[.agg #[.string ⟨#[97]⟩, .slice (some ⟨g + 1, 0, none⟩) 1 1], .int .i64 1] W1 fun e w' => e = .returned (.tuple #[.agg #[.int .i64 1, .int .i64 1, .int .i64 3], .int .i64 0]) ∧ Below W1.heap.size W1 w') := by
    have h := rfromDay_any (oneR ⟨#[97]⟩ (some ⟨g + 1, 0, none⟩)) 1 W1 (Row.of_box HP1.out) ⟨by show 1 ≤ maxLen; unfold maxLen; omega, Nat.le_refl _, by show 1 ≤ maxLen; unfold maxLen; omega⟩ HE1.out
    refine Calls.mono h ?_
    rintro e w' ⟨hb, b1, b2, b3, E, rfl, _, hd⟩
    obtain ⟨hp, _, m, em, q1, q2, ho⟩ := one_good (nm := ⟨#[97]⟩) (some ⟨g + 1, 0, none⟩)
    obtain rfl : m = 0 := by omega
    obtain ⟨rfl, rfl, rfl, rfl⟩ := hd (one_ok _ a_name) (by omega) (by omega) 0 1 0 (3 - 1) hp ho q1 q2
    exact ⟨rfl, hb⟩
  refine HOne.out.mono ?_
  rintro e w2 ⟨rfl, hb2⟩
  have HX2a := Lib.hid (HX1.out.below hb2)
  have HB2a := Lib.hid (below_then HB1.out hb2)
  have HR2a := Lib.hid (HR1.out.next hb2)
  have HE2a := Lib.hid (HE1.out.next hb2)
  clear hb2 HX1 HB1 HR1 HE1 HOne HP1
  go_upto_region 5 with (go_at_call 17; refine (HCut.out _).mono ?_; rintro e w' ⟨rfl, rfl⟩)
  have hbb := below_alloc1 w2 (Obj.cells #[.int .i64 1, .int .i64 1, .int .i64 3] 41)
  have HX2 := Lib.hid (HX2a.out.below hbb)
  have HB2 := Lib.hid (below_then HB2a.out hbb)
  have HR2 := Lib.hid (HR2a.out.next hbb)
  have HE2 := Lib.hid (HE2a.out.next hbb)
  clear hbb HX2a HB2a HR2a HE2a HCut
  generalize w2.alloc (Obj.cells #[.int .i64 1, .int .i64 1, .int .i64 3] 41) = w2 at *
  obtain ⟨x0, x1⟩ : w2.cell? ⟨g, 0, none⟩ = some (.string r.nm) ∧ w2.cell? ⟨g, 1, none⟩ = some (.slice r.A r.ps.length r.c) := ⟨HX2.out.cell 0, HX2.out.cell 1⟩
  go_wp2_with fail
  refine (HFd.out day w2 HR2.out HE2.out).mono ?_
  rintro e w3 ⟨hb3, a1, a2, a3, E, rfl, hyes, _⟩
  have HX3 := Lib.hid (HX2.out.below hb3)
  have HB3 := Lib.hid (below_then HB2.out hb3)
  have HR3 := Lib.hid (HR2.out.next hb3)
  have HE3 := Lib.hid (HE2.out.next hb3)
  clear hb3 HX2 HB2 HR2 HE2 x0 x1
  by_cases hE : E = 0
  case neg =>
    have t1 : (E != 0) = true := by rw [bne_iff_ne]; exact hE
    have HB4 := Lib.hid (HB3.out.alloc HB3.out.size (Obj.cells (dateC a1 a2 a3) 41))
    clear hyes
    go_wp2_with fail
    go_ret
    exact ⟨rfl, HB4.out⟩
  subst hE
  have HY := Lib.hid (hyes rfl)
  clear hyes
  go_upto_region 8 with fail
  have HX4 := Lib.hid (HX3.out.alloc (Obj.cells (dateC a1 a2 a3) 41))
  have HB4 := Lib.hid (HB3.out.alloc HB3.out.size (Obj.cells (dateC a1 a2 a3) 41))
  have HR4 := Lib.hid (HR3.out.next (below_alloc1 w3 (Obj.cells (dateC a1 a2 a3) 41)))
  have HE4 := Lib.hid (HE3.out.next (below_alloc1 w3 (Obj.cells (dateC a1 a2 a3) 41)))
  have HD4 := Lib.hid (Box.new w3 41 (dateC a1 a2 a3))
  clear HX3 HB3 HR3 HE3
  generalize w3.alloc (Obj.cells (dateC a1 a2 a3) 41) = w4 at *
  generalize w3.heap.size = gd at *
  obtain ⟨x0, x1⟩ : w4.cell? ⟨g, 0, none⟩ = some (.string r.nm) ∧ w4.cell? ⟨g, 1, none⟩ = some (.slice r.A r.ps.length r.c) := ⟨HX4.out.cell 0, HX4.out.cell 1⟩
  have y0 : w4.cell? ⟨gd, 0, none⟩ = some (.int .i64 a1) := HD4.out.cell 0
  have y1 : w4.cell? ⟨gd, 1, none⟩ = some (.int .i64 a2) := HD4.out.cell 1
  have y2 : w4.cell? ⟨gd, 2, none⟩ = some (.int .i64 a3) := HD4.out.cell 2
  go_wp2_with fail
  refine (HDs.out a1 a2 a3 w4 HR4.out HE4.out).mono ?_
  rintro e w5 ⟨hb5, hc⟩
  have HX5 := Lib.hid (HX4.out.below hb5)
  have HB5 := Lib.hid (below_then HB4.out hb5)
  have HR5 := Lib.hid (HR4.out.next hb5)
  have HE5 := Lib.hid (HE4.out.next hb5)
  have HD5 := Lib.hid (HD4.out.below hb5)
  clear hb5 HX4 HB4 HR4 HE4 HD4 x0 x1 y0 y1 y2
  obtain ⟨hok, _, k, y, m, d, hpart, hon, q1, q2, e1, e2, e3⟩ := HY.out
  rcases hc with ⟨hno, _⟩ | ⟨_, A, c, xs, hxl, hdl, hown, rfl⟩
  · exact absurd hok hno
  have HIn : Hid (day ∈ xs) := hdl.has k day hpart.lt ⟨hpart, ⟨by omega, by omega⟩, m, e2, by omega, by omega, by rw [e1, e3, show d + 1 - 1 = d from by omega]; exact hon⟩
  have HUp : Hid (∀ q, q + 1 < xs.length → ∃ k1 k2 : Nat, k1 < k2 ∧ k2 < r.ps.length ∧ PartAt r.ps k1 (xs.getD q 0) ∧ PartAt r.ps k2 (xs.getD (q + 1) 0)) := fun q hq => by
    obtain ⟨k1, hk1, hg1⟩ := hdl.all _ (mem_getD xs q (by omega))
    obtain ⟨k2, hk2, hg2⟩ := hdl.all _ (mem_getD xs (q + 1) hq)
    exact ⟨k1, k2, parts_up hg1 hg2 (getD_lt hdl.inc (by omega) hq), hk2, hg1.1, hg2.1⟩
  have HOk := Lib.hid hok
  have hn2 := hok.n2
  have hne : 0 < xs.length := List.length_pos_of_mem HIn.out
  have hrow := row_own hown
  have HCo := Lib.hid (fun W (hb : Below w5.heap.size w5 W) => contains_ints A c xs day W (hrow.next hb) (by unfold maxLen; omega))
  rw [decide_eq_true HIn.out] at HCo
  obtain ⟨b, o, hA, hbl, hcs⟩ := Row.open_ hrow (ints_ne xs hne)
  have HCS := Lib.hid (fun j hj => ints_cell hcs j hj)
  subst hA
  clear HY hok hpart hon q1 q2 e1 e2 e3 hdl hown hcs hrow
  go_wp2_with (go_at_call 38; refine (HCo.out _ (Below.refl _ _)).mono ?_; rintro e w' ⟨rfl, rfl⟩)
  clear HCo
  go_loopw [4, 11] (fun _ i wr => ∃ j : Nat, 1 ≤ j ∧ j ≤ xs.length ∧ i = .int .i64 (j : Int) ∧ Hid (Below w5.heap.size w5 wr)) (fun _ i _ => xs.length - (intOf i).toNat)
  case atStart => exact ⟨1, by omega, by omega, rfl, Below.refl _ _⟩
  case round =>
    obtain ⟨j, hj1, hj, rfl, hbr⟩ := hrel
    by_cases hlt : j < xs.length
    case neg =>
      obtain rfl : j = xs.length := by omega
      have t1 : decide ((xs.length : Int) < (xs.length : Int)) = false := decide_eq_false (by omega)
      have HBf := Lib.hid (below_then HB5.out hbr.out)
      clear hlt
      go_wp2_with fail
      go_ret
      exact ⟨rfl, HBf.out⟩
    have t1 : decide ((j : Int) < (xs.length : Int)) = true := decide_eq_true (by omega)
    obtain ⟨p, hp⟩ : ∃ p, j = p + 1 := ⟨j - 1, by omega⟩
    obtain ⟨k1, k2, hkk, hk2, hp1, hp2⟩ := HUp.out p (by omega)
    rw [← hp] at hp2
    have hpj : (p : Int) < (xs.length : Int) := by omega
    have hjj : (j : Int) < (xs.length : Int) := by omega
    have e1 : IntKind.i64.wrap ((j : Int) - 1) = (p : Int) := by rw [intFits _ (by omega) (by omega)]; omega
    have cj : ∀ W, Below wr.heap.size wr W → W.cell? ⟨b, o + j, none⟩ = some (.int .i64 (xs.getD j 0)) := fun W hb => ((below_then hbr.out hb).cell (p := ⟨b, o + j, none⟩) hbl).trans (HCS.out j hlt)
    have cp : ∀ W, Below wr.heap.size wr W → W.cell? ⟨b, o + p, none⟩ = some (.int .i64 (xs.getD p 0)) := fun W hb => ((below_then hbr.out hb).cell (p := ⟨b, o + p, none⟩) hbl).trans (HCS.out p (by omega))
    have HPt : Hid (∀ x k W, PartAt r.ps k x → Below wr.heap.size wr W → Calls Tryz.prog 39 #[.int .i64 x, .pointer (some ⟨g, 0, none⟩)] W fun e w' => e = .returned (.int .i64 (k : Int)) ∧ Below W.heap.size W w') := fun x k W hk hb => part_any r g x W (HX5.out.below (below_then hbr.out hb)) (HR5.out.next (below_then hbr.out hb)) HOk.out k hk
    have HP1 := Lib.hid (fun W hb => HPt.out _ k1 W hp1 hb)
    have HP2 := Lib.hid (fun W hb => HPt.out _ k2 W hp2 hb)
    have t2 : decide ((k2 : Int) ≤ (k1 : Int)) = false := decide_eq_false (by omega)
    have t2' : decide (k2 ≤ k1) = false := decide_eq_false (by omega)
    clear hp1 hp2 hp
    generalize xs.getD j 0 = xj at *
    generalize xs.getD p 0 = xp at *
    go_upto_region 15 with fail
    refine flow_begin (tellOf [(6, det (.int .i64 (k1 : Int))), (12, det (.int .i64 (k2 : Int)))]) (by kernel_rfl) (by kernel_rfl) ?_
    repeat (first | (refine flow_val (v := ?_) (by rfl) (by rfl) (fun w hb => ?_) ?_; rotate_left; (· ((go_simp) <;> ((repeat' apply And.intro) <;> with_reducible rfl))); try simp only [Act.put, List.setIfInBounds_toArray, List.set_cons_zero, List.set_cons_succ, Nat.reduceAdd]) | (refine flow_skip (by rfl) (by rfl) ?_; try simp only [Act.put, List.setIfInBounds_toArray, List.set_cons_zero, List.set_cons_succ, Nat.reduceAdd]))
    refine flow_call (f := ?_) (args := ?_) [] (by kernel_rfl) (by rfl) (by rfl) (fun w hb => ?_) (fun w hb hu => ?_) ?_; rotate_left 2; (· ((go_simp) <;> ((repeat' apply And.intro) <;> with_reducible rfl)))
    · exact HP1.out w hb
    try simp only [Act.put, List.setIfInBounds_toArray, List.set_cons_zero, List.set_cons_succ, Nat.reduceAdd]
    repeat (first | (refine flow_val (v := ?_) (by rfl) (by rfl) (fun w hb => ?_) ?_; rotate_left; (· ((go_simp) <;> ((repeat' apply And.intro) <;> with_reducible rfl))); try simp only [Act.put, List.setIfInBounds_toArray, List.set_cons_zero, List.set_cons_succ, Nat.reduceAdd]) | (refine flow_skip (by rfl) (by rfl) ?_; try simp only [Act.put, List.setIfInBounds_toArray, List.set_cons_zero, List.set_cons_succ, Nat.reduceAdd]))
    refine flow_call (f := ?_) (args := ?_) [] (by kernel_rfl) (by rfl) (by rfl) (fun w hb => ?_) (fun w hb hu => ?_) ?_; rotate_left 2; (· ((go_simp) <;> ((repeat' apply And.intro) <;> with_reducible rfl)))
    · exact HP2.out w hb
    try simp only [Act.put, List.setIfInBounds_toArray, List.set_cons_zero, List.set_cons_succ, Nat.reduceAdd]
    repeat (first | (refine flow_val (v := ?_) (by rfl) (by rfl) (fun w hb => ?_) ?_; rotate_left; (· ((go_simp) <;> ((repeat' apply And.intro) <;> with_reducible rfl))); try simp only [Act.put, List.setIfInBounds_toArray, List.set_cons_zero, List.set_cons_succ, Nat.reduceAdd]) | (refine flow_skip (by rfl) (by rfl) ?_; try simp only [Act.put, List.setIfInBounds_toArray, List.set_cons_zero, List.set_cons_succ, Nat.reduceAdd]))
    refine flow_nil fun w6 hb6 _ => ?_
    have hbs := Lib.hid (below_then hbr.out hb6)
    clear hb6 cj cp e1 HP1 HP2 HPt hbr
    go_wp2_with fail
    go_roundw
    case rel => exact ⟨j + 1, by omega, by omega, by go_num, hbs⟩
    case measure => simp [intOf]; omega

set_option maxRecDepth 100000 in
theorem walk {H : Type} {enc : TypeId × Value → H} {base : Nat} {W : World} (v0 : Value) (d0 : DataW H) (p0 : List MemPlace) (hv0 : Value.okWide Tryz.prog W .any base 68 v0) (h0 : DataW.Trod enc Tryz.prog W 0 (fun _ => true) true 68 v0 d0 p0) (a1 : Int) (w1 : (Lit.int .i64 a1).wf = true)
    (hL : laidMet Tryz.prog Rows.topReformRow.laid W) (hsh : W.ShapedOpen Tryz.prog) :
    Calls Tryz.prog 12 #[v0, .int .i64 a1] W fun e w' => e = .returned (.bool true) ∧ Below W.heap.size W w' := by
  obtain ⟨r, rfl, hz, hf⟩ := reform_open hv0 h0
  exact core r a1 W hz hf ⟨sgs_of hL.tail.tail.tail.tail.tail.tail.tail, lvs_of hL.tail.tail.tail.tail.tail.tail, Shp.of hsh⟩
end Go.Proofs.YtbmbphikjainiaaGreatDoor.topReform
