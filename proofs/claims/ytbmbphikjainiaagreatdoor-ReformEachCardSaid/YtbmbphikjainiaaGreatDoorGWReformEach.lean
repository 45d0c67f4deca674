/- WReformEach -/
import Derived.Test.YtbmbphikjainiaaGreatDoorGRefPlain
import Derived.Test.YtbmbphikjainiaaGreatDoorGRefArg
import Derived.Test.YtbmbphikjainiaaGreatDoorGBack1
/- The walk of ReformEach: it returns true at every input; it writes nothing that was there. -/
namespace Go.Proofs.YtbmbphikjainiaaGreatDoor.reformEach
open Go Go.RowKit
set_option linter.unusedVariables false

theorem one_name : NameOk ⟨#[111, 110, 101]⟩ := nameB_ok _ (by decide +kernel)
set_option maxHeartbeats 4000000 in
set_option maxRecDepth 100000 in
theorem core (r : Rf) (day0 : Int) (w : World) (hr : RfIn w r) (hf : RfFit r) (hv : Env w) :
    Calls Tryz.prog 10 #[r.val, .int .i64 day0] w fun e w' => e = .returned (.bool true) ∧ Below w.heap.size w w' := by
  have HX := Lib.hid (Box.new w 68 r.cells)
  have HB := Lib.hid (below_alloc1 w (Obj.cells r.cells 68))
  have HR := Lib.hid (hr.next HB.out)
  have HE := Lib.hid (hv.next HB.out)
  have HCut := Lib.hid (fun W => cut_any day0 (-1000000) 2000000 W (by omega) (by omega) (by omega) (by omega))
  have b1 := Int.emod_nonneg day0 (show (2000000 : Int) ≠ 0 by omega)
  have b2 := Int.emod_lt_of_pos day0 (show (0 : Int) < 2000000 by omega)
  obtain ⟨day, hday⟩ : ∃ day, day = -1000000 + day0 % 2000000 := ⟨_, rfl⟩
  rw [← hday] at HCut
  have hd1 : -1000000 ≤ day := by omega
  have hd2 : day < 1000000 := by omega
  have HFd := Lib.hid (fun x W (h : RfIn W r) (hE : Env W) => rfromDay_any r x W h hf hE)
  have HDs := Lib.hid (fun a1 a2 a3 W (h : RfIn W r) (hE : Env W) => rdays_any r a1 a2 a3 W h hf hE)
  unfold RFDQ at HFd
  unfold RDaysQ at HDs
  clear b1 b2 hday hr hf hv
  go_enter Tryz.func10, Tryz.ntmps10
  go_upto_region 2 with fail
  have hsz0 : (w.alloc (Obj.cells r.cells 68)).heap.size = w.heap.size + 1 := World.size_alloc _ _
  generalize w.alloc (Obj.cells r.cells 68) = W0 at *
  obtain ⟨g, hg⟩ : ∃ g, g = w.heap.size := ⟨_, rfl⟩
  rw [← hg] at HX hsz0
  rw [← hg]
  clear hg
  have HP1 := Lib.hid ((Box.new W0 70 #[.int .i64 (-4000000), .string ⟨#[106, 117, 108, 105, 97, 110]⟩]).alloc (Obj.cells #[.string ⟨#[111, 110, 101]⟩, .slice (some ⟨g + 1, 0, none⟩) 1 1] 68))
  have HO1 := Lib.hid (Box.new (W0.alloc (Obj.cells #[.int .i64 (-4000000), .string ⟨#[106, 117, 108, 105, 97, 110]⟩] 70)) 68 #[.string ⟨#[111, 110, 101]⟩, .slice (some ⟨g + 1, 0, none⟩) 1 1])
  rw [World.size_alloc, hsz0] at HO1
  rw [hsz0] at HP1
  have hba := Lib.hid (below_alloc2 W0 (Obj.cells #[.int .i64 (-4000000), .string ⟨#[106, 117, 108, 105, 97, 110]⟩] 70) (Obj.cells #[.string ⟨#[111, 110, 101]⟩, .slice (some ⟨g + 1, 0, none⟩) 1 1] 68))
  have HX1 := Lib.hid (HX.out.below hba.out)
  have HB1 := Lib.hid (below_then HB.out hba.out)
  have HR1 := Lib.hid (HR.out.next hba.out)
  have HE1 := Lib.hid (HE.out.next hba.out)
  clear HX HB HR HE hba
  generalize (W0.alloc (Obj.cells #[.int .i64 (-4000000), .string ⟨#[106, 117, 108, 105, 97, 110]⟩] 70)).alloc (Obj.cells #[.string ⟨#[111, 110, 101]⟩, .slice (some ⟨g + 1, 0, none⟩) 1 1] 68) = W1 at *
  clear hsz0
  have HOne : Hid (Calls Tryz.prog 34 #[.agg #[.string ⟨#[111, 110, 101]⟩, .slice (some ⟨g + 1, 0, none⟩) 1 1], .agg #[.int .i64 1, .int .i64 1, .int .i64 3]] W1 fun e w' => Below W1.heap.size W1 w' ∧ ∃ g' c, e = .returned (.tuple #[.slice (some ⟨g', 0, none⟩) 1 c, .int .i64 0]) ∧ w'.cell? ⟨g', 0, none⟩ = some (.int .i64 1)) := by
    have h := rdays_any (oneR ⟨#[111, 110, 101]⟩ (some ⟨g + 1, 0, none⟩)) 1 1 3 W1 (Row.of_box HP1.out) ⟨by show 3 ≤ maxLen; unfold maxLen; omega, Nat.le_refl _, by show 1 ≤ maxLen; unfold maxLen; omega⟩ HE1.out
    refine Calls.mono h ?_
    rintro e w' ⟨hb, hc⟩
    refine ⟨hb, ?_⟩
    rcases hc with ⟨hno, _⟩ | ⟨_, A, c, xs, _, hdl, hown, rfl⟩
    · exact absurd (one_ok _ one_name) hno
    · have hx := one_days hdl
      subst hx
      obtain ⟨g', cap, hv'⟩ := ownsRow_succ (k := 0) hown
      have hv2 : A = some ⟨g', 0, none⟩ ∧ c = cap := by simpa using hv'
      obtain ⟨rfl, rfl⟩ := hv2
      refine ⟨g', c, rfl, ?_⟩
      have hc := hown.cells (g := g') rfl 0 (.int .i64 1) rfl
      rw [addPlain] at hc
      exact hc
  obtain ⟨z0, z1⟩ : W1.cell? ⟨g + 1 + 1, 0, none⟩ = some (.string ⟨#[111, 110, 101]⟩) ∧ W1.cell? ⟨g + 1 + 1, 1, none⟩ = some (.slice (some ⟨g + 1, 0, none⟩) 1 1) := ⟨HO1.out.cell 0, HO1.out.cell 1⟩
  go_wp2_with fail
  refine HOne.out.mono ?_
  rintro e w2 ⟨hb2, gl, cl, rfl, hcl⟩
  have HX2 := Lib.hid (HX1.out.below hb2)
  have HB2 := Lib.hid (below_then HB1.out hb2)
  have HR2 := Lib.hid (HR1.out.next hb2)
  have HE2 := Lib.hid (HE1.out.next hb2)
  clear hb2 HX1 HB1 HR1 HE1 HOne z0 z1 HO1 HP1
  obtain ⟨x0, x1⟩ : w2.cell? ⟨g, 0, none⟩ = some (.string r.nm) ∧ w2.cell? ⟨g, 1, none⟩ = some (.slice r.A r.ps.length r.c) := ⟨HX2.out.cell 0, HX2.out.cell 1⟩
  go_wp2_with (go_at_call 25; refine (HCut.out _).mono ?_; rintro e w' ⟨rfl, rfl⟩)
  clear hcl HCut
  refine (HFd.out day w2 HR2.out HE2.out).mono ?_
  rintro e w3 ⟨hb3, a1, a2, a3, E, rfl, hyes, _⟩
  have HX3 := Lib.hid (HX2.out.below hb3)
  have HB3 := Lib.hid (below_then HB2.out hb3)
  have HR3 := Lib.hid (HR2.out.next hb3)
  have HE3 := Lib.hid (HE2.out.next hb3)
  clear hb3 HX2 HB2 HR2 HE2 x0 x1
  by_cases hE : E = 0
  case neg =>
    have t1 : (E != 0) = true := by rw [bne_iff_ne]; exact hE
    have HB4 := Lib.hid (HB3.out.alloc HB3.out.size (Obj.cells (dateC a1 a2 a3) 41))
    clear hyes
    go_wp2_with fail
    go_ret
    exact ⟨rfl, HB4.out⟩
  subst hE
  have HY := Lib.hid (hyes rfl)
  clear hyes
  go_upto_region 9 with fail
  have HX4 := Lib.hid (HX3.out.alloc (Obj.cells (dateC a1 a2 a3) 41))
  have HB4 := Lib.hid (HB3.out.alloc HB3.out.size (Obj.cells (dateC a1 a2 a3) 41))
  have HR4 := Lib.hid (HR3.out.next (below_alloc1 w3 (Obj.cells (dateC a1 a2 a3) 41)))
  have HE4 := Lib.hid (HE3.out.next (below_alloc1 w3 (Obj.cells (dateC a1 a2 a3) 41)))
  have HD4 := Lib.hid (Box.new w3 41 (dateC a1 a2 a3))
  clear HX3 HB3 HR3 HE3
  generalize w3.alloc (Obj.cells (dateC a1 a2 a3) 41) = w4 at *
  generalize w3.heap.size = gd at *
  obtain ⟨x0, x1⟩ : w4.cell? ⟨g, 0, none⟩ = some (.string r.nm) ∧ w4.cell? ⟨g, 1, none⟩ = some (.slice r.A r.ps.length r.c) := ⟨HX4.out.cell 0, HX4.out.cell 1⟩
  have y0 : w4.cell? ⟨gd, 0, none⟩ = some (.int .i64 a1) := HD4.out.cell 0
  have y1 : w4.cell? ⟨gd, 1, none⟩ = some (.int .i64 a2) := HD4.out.cell 1
  have y2 : w4.cell? ⟨gd, 2, none⟩ = some (.int .i64 a3) := HD4.out.cell 2
  go_wp2_with fail
  refine (HDs.out a1 a2 a3 w4 HR4.out HE4.out).mono ?_
  rintro e w5 ⟨hb5, hc⟩
  have HX5 := Lib.hid (HX4.out.below hb5)
  have HB5 := Lib.hid (below_then HB4.out hb5)
  have HR5 := Lib.hid (HR4.out.next hb5)
  have HE5 := Lib.hid (HE4.out.next hb5)
  have HD5 := Lib.hid (HD4.out.below hb5)
  clear hb5 HX4 HB4 HR4 HE4 HD4 x0 x1 y0 y1 y2
  obtain ⟨hok, _, k, y, m, d, hpart, hon, q1, q2, e1, e2, e3⟩ := HY.out
  rcases hc with ⟨hno, _⟩ | ⟨_, A, c, xs, hxl, hdl, hown, rfl⟩
  · exact absurd hok hno
  have HIn : Hid (day ∈ xs) := hdl.has k day hpart.lt ⟨hpart, ⟨by omega, by omega⟩, m, e2, by omega, by omega, by rw [e1, e3, show d + 1 - 1 = d from by omega]; exact hon⟩
  have HTo : Hid (∀ x, x ∈ xs → ∀ e, RFD r x e → e = .returned (.tuple #[.agg (dateC a1 a2 a3), .int .i64 0])) := fun x hx e he => hdl.from hok hx he
  have HInc := Lib.hid hdl.inc
  have hne : 0 < xs.length := List.length_pos_of_mem HIn.out
  obtain ⟨b, o, hA, hbl, hcs⟩ := Row.open_ (row_own hown) (ints_ne xs hne)
  have HCS := Lib.hid (fun j hj => ints_cell hcs j hj)
  subst hA
  clear HY hok hpart hon q1 q2 e1 e2 e3 hdl hown hcs
  go_wp2_with fail
  go_loopw [11, 12, 13, 14, 15, 56] (fun fv _ _ _ _ i wr => ∃ (j : Nat) (fd : Bool), j ≤ xs.length ∧ i = .int .i64 (j : Int) ∧ fv = .bool fd ∧ Hid (∀ q, q < j → xs.getD q 0 = day → fd = true) ∧ Hid (Below w5.heap.size w5 wr)) (fun _ _ _ _ _ i _ => xs.length - (intOf i).toNat)
  case atStart => exact ⟨0, false, by omega, rfl, rfl, fun q h => absurd h (Nat.not_lt_zero q), Below.refl _ _⟩
  case round =>
    obtain ⟨j, fd, hj, rfl, rfl, hfd, hbr⟩ := hrel
    by_cases hlt : j < xs.length
    case neg =>
      obtain rfl : j = xs.length := by omega
      have t1 : decide ((xs.length : Int) < (xs.length : Int)) = false := decide_eq_false (by omega)
      obtain ⟨q, hq, hqe⟩ := List.getElem_of_mem HIn.out
      have := hfd.out q hq (by simp [List.getD, List.getElem?_eq_getElem hq, hqe])
      subst this
      have HBf := Lib.hid (below_then HB5.out hbr.out)
      clear hlt hqe
      go_wp2_with fail
      go_ret
      exact ⟨rfl, HBf.out⟩
    have t1 : decide ((j : Int) < (xs.length : Int)) = true := decide_eq_true (by omega)
    have HXr := Lib.hid (HX5.out.below hbr.out)
    have HDr := Lib.hid (HD5.out.below hbr.out)
    have HRr := Lib.hid (HR5.out.next hbr.out)
    have HEr := Lib.hid (HE5.out.next hbr.out)
    have cx : wr.cell? ⟨b, o + j, none⟩ = some (.int .i64 (xs.getD j 0)) := (hbr.out.cell (p := ⟨b, o + j, none⟩) hbl).trans (HCS.out j hlt)
    have HMem := Lib.hid (mem_getD xs j hlt)
    have HFx : Hid ((∀ q, q < j + 1 → xs.getD q 0 = day → (fd || (xs.getD j 0 == day)) = true)) := fun q hq he => by
      by_cases h : q < j
      · rw [hfd.out q h he]; rfl
      · obtain rfl : q = j := by omega
        rw [he]; simp
    have HUp : Hid (∀ q, q < j → xs.getD q 0 < xs.getD j 0) := fun q hq => getD_lt HInc.out hq hlt
    obtain ⟨x, hx⟩ : ∃ x, x = xs.getD j 0 := ⟨_, rfl⟩
    rw [← hx] at cx HMem HFx HUp
    clear hx
    have HFD1 := Lib.hid (HFd.out x wr HRr.out HEr.out)
    obtain ⟨x0, x1⟩ : wr.cell? ⟨g, 0, none⟩ = some (.string r.nm) ∧ wr.cell? ⟨g, 1, none⟩ = some (.slice r.A r.ps.length r.c) := ⟨HXr.out.cell 0, HXr.out.cell 1⟩
    go_wp2_with fail
    refine HFD1.out.mono ?_
    rintro e w6 ⟨hb6, hfx⟩
    have he := HTo.out x HMem.out e hfx
    subst he
    have HBz := Lib.hid (below_then hbr.out hb6)
    have HD6 := Lib.hid (HDr.out.below hb6)
    clear hb6 hfx HFD1 x0 x1 cx HXr HDr HRr HEr hfd
    have HBz2 := Lib.hid (below_then HBz.out (below_alloc1 w6 (Obj.cells (dateC a1 a2 a3) 41)))
    have y0 : w6.cell? ⟨gd, 0, none⟩ = some (.int .i64 a1) := HD6.out.cell 0
    have y1 : w6.cell? ⟨gd, 1, none⟩ = some (.int .i64 a2) := HD6.out.cell 1
    have y2 : w6.cell? ⟨gd, 2, none⟩ = some (.int .i64 a3) := HD6.out.cell 2
    have yl := HD6.out.lt
    have hbl6 : b < w6.heap.size := Nat.lt_of_lt_of_le hbl HBz.out.size
    by_cases h0 : 0 < j
    · have t2 : decide ((0 : Int) < (j : Int)) = true := decide_eq_true (by omega)
      have t2' : decide (0 < j) = true := decide_eq_true h0
      obtain ⟨p, hp⟩ : ∃ p, p = j - 1 := ⟨_, rfl⟩
      have e1 : IntKind.i64.wrap ((j : Int) - 1) = (p : Int) := by rw [intFits _ (by omega) (by omega)]; omega
      have hp2 : (p : Int) < (xs.length : Int) := by omega
      have cp : w6.cell? ⟨b, o + p, none⟩ = some (.int .i64 (xs.getD p 0)) := (HBz.out.cell (p := ⟨b, o + p, none⟩) hbl).trans (HCS.out p (by omega))
      have hup := HUp.out p (by omega)
      obtain ⟨xp, hxp⟩ : ∃ xp, xp = xs.getD p 0 := ⟨_, rfl⟩
      rw [← hxp] at cp hup
      have t3 : decide (x ≤ xp) = false := decide_eq_false (by omega)
      clear hxp hp hup
      by_cases hxd : x = day
      · have t4 : (x == day) = true := by rw [beq_iff_eq]; exact hxd
        clear hxd
        cases fd
        · go_wp2_with fail
          go_roundw
          case rel => exact ⟨j + 1, true, by omega, by go_num, rfl, fun _ _ _ => rfl, HBz2⟩
          case measure => simp [intOf]; omega
        · go_wp2_with fail
          go_roundw
          case rel => exact ⟨j + 1, true, by omega, by go_num, rfl, fun _ _ _ => rfl, HBz2⟩
          case measure => simp [intOf]; omega
      · have t4 : (x == day) = false := by rw [beq_eq_false_iff_ne]; exact hxd
        have HF2 : Hid (∀ q, q < j + 1 → xs.getD q 0 = day → fd = true) := fun q hq he => by have h := HFx.out q hq he; rw [t4, Bool.or_false] at h; exact h
        clear hxd
        cases fd
        · go_wp2_with fail
          go_roundw
          case rel => exact ⟨j + 1, false, by omega, by go_num, rfl, HF2, HBz2⟩
          case measure => simp [intOf]; omega
        · go_wp2_with fail
          go_roundw
          case rel => exact ⟨j + 1, true, by omega, by go_num, rfl, fun _ _ _ => rfl, HBz2⟩
          case measure => simp [intOf]; omega
    · have t2 : decide ((0 : Int) < (j : Int)) = false := decide_eq_false (by omega)
      have t2' : decide (0 < j) = false := decide_eq_false h0
      by_cases hxd : x = day
      · have t4 : (x == day) = true := by rw [beq_iff_eq]; exact hxd
        clear hxd
        cases fd
        · go_wp2_with fail
          go_roundw
          case rel => exact ⟨j + 1, true, by omega, by go_num, rfl, fun _ _ _ => rfl, HBz2⟩
          case measure => simp [intOf]; omega
        · go_wp2_with fail
          go_roundw
          case rel => exact ⟨j + 1, true, by omega, by go_num, rfl, fun _ _ _ => rfl, HBz2⟩
          case measure => simp [intOf]; omega
      · have t4 : (x == day) = false := by rw [beq_eq_false_iff_ne]; exact hxd
        have HF2 : Hid (∀ q, q < j + 1 → xs.getD q 0 = day → fd = true) := fun q hq he => by have h := HFx.out q hq he; rw [t4, Bool.or_false] at h; exact h
        clear hxd
        cases fd
        · go_wp2_with fail
          go_roundw
          case rel => exact ⟨j + 1, false, by omega, by go_num, rfl, HF2, HBz2⟩
          case measure => simp [intOf]; omega
        · go_wp2_with fail
          go_roundw
          case rel => exact ⟨j + 1, true, by omega, by go_num, rfl, fun _ _ _ => rfl, HBz2⟩
          case measure => simp [intOf]; omega

set_option maxRecDepth 100000 in
theorem walk {H : Type} {enc : TypeId × Value → H} {base : Nat} {W : World} (v0 : Value) (d0 : DataW H) (p0 : List MemPlace) (hv0 : Value.okWide Tryz.prog W .any base 68 v0) (h0 : DataW.Trod enc Tryz.prog W 0 (fun _ => true) true 68 v0 d0 p0) (a1 : Int) (w1 : (Lit.int .i64 a1).wf = true)
    (hL : laidMet Tryz.prog Rows.reformEachRow.laid W) (hsh : W.ShapedOpen Tryz.prog) :
    Calls Tryz.prog 10 #[v0, .int .i64 a1] W fun e w' => e = .returned (.bool true) ∧ Below W.heap.size W w' := by
  obtain ⟨r, rfl, hz, hf⟩ := reform_open hv0 h0
  exact core r a1 W hz hf ⟨sgs_of hL.tail.tail.tail.tail.tail.tail.tail, lvs_of hL.tail.tail.tail.tail.tail.tail, Shp.of hsh⟩
end Go.Proofs.YtbmbphikjainiaaGreatDoor.reformEach
