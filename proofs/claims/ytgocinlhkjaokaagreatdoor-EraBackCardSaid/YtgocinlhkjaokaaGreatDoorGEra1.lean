/- Era1 -/
import Derived.Test.YtgocinlhkjaokaaGreatDoorGEraPlain
import Derived.Test.YtgocinlhkjaokaaGreatDoorGFlow
/- Contracts of era.Check and era.open. -/
namespace Go.Proofs.YtgocinlhkjaokaaGreatDoor
open Go Go.RowKit
set_option linter.unusedVariables false

set_option maxHeartbeats 4000000 in
set_option maxRecDepth 100000 in
theorem echeck_any (A : Option Addr) (c : Nat) (l : List Rn) (w : World) (hr : Row w w.heap.size A (l.flatMap rnF)) (hl : l.length ≤ maxLen) (hnm : ∀ x ∈ l, x.nm.size ≤ maxLen) : Calls Tryz.prog 17 #[.slice A l.length c] w (Errs (ErOk l) w) := by
  have hlm := hl
  unfold maxLen at hlm
  have HNm := Lib.hid hnm
  obtain ⟨Q, hQ⟩ : ∃ Q : Prop, Q = ErOk l := ⟨_, rfl⟩
  have QI : Hid (Q ↔ ErOk l) := by unfold Hid; rw [hQ]
  rw [← hQ]
  have HR := Lib.hid hr
  clear hr hQ hl hnm
  go_enter Tryz.func17, Tryz.ntmps17
  by_cases h1 : l.length < 1
  · have t1 : decide ((l.length : Int) < 1) = true := decide_eq_true (by omega)
    have HNo : Hid (¬ Q) := fun h => by have := (QI.out.1 h).n1; omega
    clear h1
    go_wp2_with fail
    go_ret
    exact Errs.no (by decide) HNo.out (Below.refl _ _)
  have t1 : decide ((l.length : Int) < 1) = false := decide_eq_false (by omega)
  by_cases h2 : 30 < l.length
  · have t2 : decide (30 < (l.length : Int)) = true := decide_eq_true (by omega)
    have HNo : Hid (¬ Q) := fun h => by have := (QI.out.1 h).n2; omega
    clear h1 h2
    go_wp2_with fail
    go_ret
    exact Errs.no (by decide) HNo.out (Below.refl _ _)
  have t2 : decide (30 < (l.length : Int)) = false := decide_eq_false (by omega)
  have hn1 : 1 ≤ l.length := by omega
  have hn2 : l.length ≤ 30 := by omega
  clear h1 h2
  obtain ⟨b, o, rfl, hbl, hcs⟩ := Row.open_ HR.out (flat_ne rnF_len (by omega) l (by omega))
  have HCS := Lib.hid hcs
  clear hcs HR
  go_wp2_with fail
  clear t1 t2
  go_loopw [3, 4, 15, 20, 25, 30] (fun _ _ i _ _ _ wr => ∃ j : Nat, j ≤ l.length ∧ i = .int .i64 (j : Int) ∧ Hid (∀ q, q < j → RnOk l q) ∧ Hid (Below w.heap.size w wr)) (fun _ _ i _ _ _ _ => l.length - (intOf i).toNat)
  case atStart => exact ⟨0, by omega, rfl, fun q h => absurd h (Nat.not_lt_zero q), Below.refl _ _⟩
  case round =>
    obtain ⟨j, hj, rfl, hall, hbr⟩ := hrel
    by_cases hlt : j < l.length
    case neg =>
      obtain rfl : j = l.length := by omega
      have t1 : decide ((l.length : Int) < (l.length : Int)) = false := decide_eq_false (by omega)
      have HY : Hid Q := QI.out.2 ⟨hn1, hn2, hall.out⟩
      clear hlt
      go_wp2_with fail
      go_ret
      exact Errs.ok HY.out hbr.out
    have t1 : decide ((j : Int) < (l.length : Int)) = true := decide_eq_true (by omega)
    have hcr : ∀ q v, (l.flatMap rnF)[q]? = some v → wr.cell? ⟨b, o + q, none⟩ = some v := fun q v hq => (hbr.out.cell (p := ⟨b, o + q, none⟩) hbl).trans (HCS.out q v hq)
    have c0 := flat_cell rnF_len rn0 hcr j 0 hlt (by omega) _ rfl
    have c1 := flat_cell rnF_len rn0 hcr j 1 hlt (by omega) _ rfl
    rw [Nat.add_zero] at c0
    clear hcr
    obtain ⟨z, hz⟩ : ∃ z, z = l.getD j rn0 := ⟨_, rfl⟩
    rw [← hz] at c0 c1
    have hzs : z.nm.size ≤ maxLen := HNm.out z (by rw [hz]; simp [List.getD, List.getElem?_eq_getElem hlt])
    have HZj := Lib.hid hz
    have HN := Lib.hid (fun W => isName_any z.nm W hzs)
    clear hz hzs
    have HI := Lib.hid (fun W => isDay_any z.fr W)
    have HB4 := Lib.hid (below_then hbr.out (below_alloc1 wr (Obj.cells #[.string z.nm, .int .i64 z.fr] 24)))
    have HP4 := Lib.hid (Box.new wr 24 #[.string z.nm, .int .i64 z.fr])
    go_upto_region 6 with fail
    clear c0 c1
    obtain ⟨w4, hw4⟩ : ∃ w4, w4 = wr.alloc (Obj.cells #[.string z.nm, .int .i64 z.fr] 24) := ⟨_, rfl⟩
    rw [← hw4] at HB4 HP4 ⊢
    clear hw4 hbr
    generalize wr.heap.size = gp at *
    have p0 : w4.cell? ⟨gp, 0, none⟩ = some (.string z.nm) := HP4.out.cell 0
    have p1 : w4.cell? ⟨gp, 1, none⟩ = some (.int .i64 z.fr) := HP4.out.cell 1
    go_wp2_with fail
    refine (HN.out _).mono ?_
    rintro e w' ⟨bb, rfl, hbb, rfl⟩
    clear HN
    cases bb
    case false =>
      have HNo : Hid (¬ Q) := fun h => by have := hbb.2 (by rw [HZj.out]; exact ((QI.out.1 h).each j hlt).nm); cases this
      clear hbb
      go_wp2_with fail
      go_ret
      exact Errs.no (by decide) HNo.out HB4.out
    have HNmj := Lib.hid (hbb.1 rfl)
    clear hbb
    by_cases hday : -4000000 ≤ z.fr ∧ z.fr ≤ 4000000
    case neg =>
      rw [decide_eq_false hday] at HI
      have HNo : Hid (¬ Q) := fun h => hday (by rw [HZj.out]; exact ((QI.out.1 h).each j hlt).is)
      clear hday
      go_wp2_with (go_at_call 10; refine (HI.out _).mono ?_; rintro e w' ⟨rfl, rfl⟩)
      go_ret
      exact Errs.no (by decide) HNo.out HB4.out
    rw [decide_eq_true hday] at HI
    have HDay := Lib.hid hday
    clear hday
    go_upto_region 10 with (go_at_call 10; refine (HI.out _).mono ?_; rintro e w' ⟨rfl, rfl⟩)
    clear p0 p1
    have p1 : ∀ W, Below w4.heap.size w4 W → W.cell? ⟨gp, 1, none⟩ = some (.int .i64 z.fr) := fun W hb => (HP4.out.below hb).cell 1
    refine with_lex (by kernel_rfl) fun HLX => ?_
    by_cases h0 : 0 < j
    · have t2 : decide ((0 : Int) < (j : Int)) = true := decide_eq_true (by omega)
      have t2' : decide (0 < j) = true := decide_eq_true h0
      obtain ⟨k, hk⟩ : ∃ k, k = j - 1 := ⟨_, rfl⟩
      have e1 : IntKind.i64.wrap ((j : Int) - 1) = (k : Int) := by rw [intFits _ (by omega) (by omega)]; omega
      have hk2 : (k : Int) < (l.length : Int) := by omega
      have ck : ∀ W, Below w4.heap.size w4 W → W.cell? ⟨b, o + k * 2 + 1, none⟩ = some (.int .i64 (l.getD k rn0).fr) := fun W hb => by
        have hcr : ∀ q v, (l.flatMap rnF)[q]? = some v → W.cell? ⟨b, o + q, none⟩ = some v := fun q v hq => ((below_then HB4.out hb).cell (p := ⟨b, o + q, none⟩) hbl).trans (HCS.out q v hq)
        exact flat_cell rnF_len rn0 hcr k 1 (by omega) (by omega) _ rfl
      obtain ⟨fk, hfk⟩ : ∃ fk, fk = (l.getD k rn0).fr := ⟨_, rfl⟩
      rw [← hfk] at ck
      have HFk : Hid (fk = (l.getD (j - 1) rn0).fr) := by unfold Hid; rw [hfk, hk]
      clear hfk hk
      by_cases hle : z.fr ≤ fk
      · have t3 : decide (z.fr ≤ fk) = true := decide_eq_true hle
        have HNo : Hid (¬ Q) := fun h => by
          have := ((QI.out.1 h).each j hlt).up h0
          rw [← HFk.out, ← HZj.out] at this
          omega
        clear hle
        refine flow_begin (tellOf []) (by kernel_rfl) HLX.out ?_
        repeat (first | (refine flow_val (v := ?_) (by rfl) (by rfl) (fun w hb => ?_) ?_; rotate_left; (· ((go_simp) <;> ((repeat' apply And.intro) <;> with_reducible rfl))); try simp only [Act.put, List.setIfInBounds_toArray, List.set_cons_zero, List.set_cons_succ, Nat.reduceAdd]) | (refine flow_skip (by rfl) (by rfl) ?_; try simp only [Act.put, List.setIfInBounds_toArray, List.set_cons_zero, List.set_cons_succ, Nat.reduceAdd]))
        refine flow_nil fun w5 hb5 _ => ?_
        have HB5 := Lib.hid (below_then HB4.out hb5)
        clear hb5 p1 ck e1
        go_wp2_with fail
        go_ret
        exact Errs.no (by decide) HNo.out HB5.out
      · have t3 : decide (z.fr ≤ fk) = false := decide_eq_false hle
        have HUp : Hid (0 < j → (l.getD (j - 1) rn0).fr < (l.getD j rn0).fr) := fun _ => by rw [← HFk.out, ← HZj.out]; omega
        clear hle
        refine flow_begin (tellOf []) (by kernel_rfl) HLX.out ?_
        repeat (first | (refine flow_val (v := ?_) (by rfl) (by rfl) (fun w hb => ?_) ?_; rotate_left; (· ((go_simp) <;> ((repeat' apply And.intro) <;> with_reducible rfl))); try simp only [Act.put, List.setIfInBounds_toArray, List.set_cons_zero, List.set_cons_succ, Nat.reduceAdd]) | (refine flow_skip (by rfl) (by rfl) ?_; try simp only [Act.put, List.setIfInBounds_toArray, List.set_cons_zero, List.set_cons_succ, Nat.reduceAdd]))
        refine flow_nil fun w5 hb5 _ => ?_
        clear p1 ck e1
        have HBz := Lib.hid (below_then HB4.out hb5)
        have HOn : Hid (RnOk l j) := ⟨by rw [← HZj.out]; exact HNmj.out, by rw [← HZj.out]; exact HDay.out, HUp.out⟩
        have HAl : Hid (∀ q, q < j + 1 → RnOk l q) := fun q hq => by
          by_cases h : q < j
          · exact hall.out q h
          · obtain rfl : q = j := by omega
            exact HOn.out
        clear hb5
        go_wp2_with fail
        go_roundw
        case rel => exact ⟨j + 1, by omega, by go_num, HAl, HBz⟩
        case measure => simp [intOf]; omega
    · have t2 : decide ((0 : Int) < (j : Int)) = false := decide_eq_false (by omega)
      have t2' : decide (0 < j) = false := decide_eq_false h0
      have HUp : Hid (0 < j → (l.getD (j - 1) rn0).fr < (l.getD j rn0).fr) := fun h => absurd h h0
      refine flow_begin (tellOf []) (by kernel_rfl) HLX.out ?_
      repeat (first | (refine flow_val (v := ?_) (by rfl) (by rfl) (fun w hb => ?_) ?_; rotate_left; (· ((go_simp) <;> ((repeat' apply And.intro) <;> with_reducible rfl))); try simp only [Act.put, List.setIfInBounds_toArray, List.set_cons_zero, List.set_cons_succ, Nat.reduceAdd]) | (refine flow_skip (by rfl) (by rfl) ?_; try simp only [Act.put, List.setIfInBounds_toArray, List.set_cons_zero, List.set_cons_succ, Nat.reduceAdd]))
      refine flow_nil fun w5 hb5 _ => ?_
      clear p1
      have HBz := Lib.hid (below_then HB4.out hb5)
      have HOn : Hid (RnOk l j) := ⟨by rw [← HZj.out]; exact HNmj.out, by rw [← HZj.out]; exact HDay.out, HUp.out⟩
      have HAl : Hid (∀ q, q < j + 1 → RnOk l q) := fun q hq => by
        by_cases h : q < j
        · exact hall.out q h
        · obtain rfl : q = j := by omega
          exact HOn.out
      clear hb5
      go_wp2_with fail
      go_roundw
      case rel => exact ⟨j + 1, by omega, by go_num, HAl, HBz⟩
      case measure => simp [intOf]; omega

set_option maxHeartbeats 4000000 in
set_option maxRecDepth 100000 in
theorem eopen_any (A : Option Addr) (cp : Nat) (l : List Rn) (r : CatRow) (hrow : r ∈ catR) (mode : Int) (hmode : mode = 1 ∨ mode = 2) (w : World) (hr : Row w w.heap.size A (l.flatMap rnF)) (hl : l.length ≤ maxLen) (hnm : ∀ x ∈ l, x.nm.size ≤ maxLen) (hv : Env w) :
    Calls Tryz.prog 9 #[.slice A l.length cp, .string (str r.nm), .int .i64 mode] w fun e w' => Below w.heap.size w w' ∧ ∃ (c : Cal) (E : Int), e = .returned (.tuple #[c.val, .int .i64 E]) ∧ (E = 0 ↔ ErOk l) ∧ (E = 0 → CalOf r c ∧ CalV w' c) := by
  have HB := Lib.hid (below_alloc1 w (Obj.cells zeroCal 40))
  have HX := Lib.hid (Box.new w 40 zeroCal)
  have HE := Lib.hid (hv.next HB.out)
  have HCk := Lib.hid (echeck_any A cp l _ (hr.next HB.out) hl hnm)
  have HT := Lib.hid (fun w (h : Env w) => Calendar_any r hrow w h)
  clear hv hr hl hnm hrow
  unfold CalQ at HT
  unfold Errs at HCk
  go_enter Tryz.func9, Tryz.ntmps9
  go_wp2_with fail
  generalize w.alloc (Obj.cells zeroCal 40) = W0 at *
  generalize hg : w.heap.size = g at *
  have HG := Lib.hid hg
  clear hg
  refine HCk.out.mono ?_
  rintro e w1 ⟨E, rfl, hE, hb1⟩
  have HX1 := Lib.hid (HX.out.below hb1)
  have HB1 : Hid (Below g w w1) := HB.out.trans (hb1.mono (by have := HX.out.lt; omega))
  have HE1 := Lib.hid (HE.out.next hb1)
  clear hb1 HX HB HE HCk
  by_cases hE0 : E = 0
  case neg =>
    have t1 : (E != 0) = true := by rw [bne_iff_ne]; exact hE0
    have HEE : Hid (E ≠ 0 ∧ (E = 0 ↔ ErOk l)) := ⟨hE0, hE⟩
    clear hE hE0
    have rf : ∀ i, w1.frozen? ⟨g, i, none⟩ = false := fun i => HX1.out.free i
    have r0 : w1.cell? ⟨g, 0, none⟩ = some (.string ⟨#[]⟩) := HX1.out.cell 0
    have r1 : w1.cell? ⟨g, 1, none⟩ = some (.int .i64 0) := HX1.out.cell 1
    have r2 : w1.cell? ⟨g, 2, none⟩ = some (.int .i64 0) := HX1.out.cell 2
    have r3 : w1.cell? ⟨g, 3, none⟩ = some (.slice none 0 0) := HX1.out.cell 3
    have r4 : w1.cell? ⟨g, 4, none⟩ = some (.slice none 0 0) := HX1.out.cell 4
    have hl1 := HX1.out.lt
    go_wp2_with fail
    refine bodyPost_ret (v := .tuple #[zCal.val, .int .i64 E]) (by simp [results, Tryz.results9, go_sem, r0, r1, r2, r3, r4]) rfl ?_
    refine ⟨?_, zCal, E, rfl, HEE.out.2, fun h => absurd h HEE.out.1⟩
    rw [HG.out]
    exact ((((HB1.out.setCell (p := ⟨g, 0, none⟩) (Nat.le_refl _) _).setCell (p := ⟨g, 1, none⟩) (Nat.le_refl _) _).setCell (p := ⟨g, 2, none⟩) (Nat.le_refl _) _).setCell (p := ⟨g, 3, none⟩) (Nat.le_refl _) _).setCell (p := ⟨g, 4, none⟩) (Nat.le_refl _) _
  subst hE0
  have HOk := Lib.hid (hE.1 rfl)
  clear hE
  go_wp2_with fail
  refine (HT.out _ HE1.out).mono ?_
  rintro e w2 ⟨c, rfl, hof, hcv, ha1, ha2, hb2⟩
  have hg1 := HX1.out.lt
  have HX2 := Lib.hid (HX1.out.below hb2)
  have HB2 : Hid (Below g w w2) := HB1.out.trans (hb2.mono (by omega))
  have HA1 : Hid (∀ a, c.A1 = some a → g < a.block) := fun a ha => by have := ha1 a ha; omega
  have HA2 : Hid (∀ a, c.A2 = some a → g < a.block) := fun a ha => by have := ha2 a ha; omega
  have HOf := Lib.hid hof
  have HCv := Lib.hid hcv
  clear hof hcv ha1 ha2 hb2 HX1 HB1 HE1 HT hg1
  have HX3 := Lib.hid (HX2.out.alloc (Obj.cells c.cells 40))
  have HY3 := Lib.hid (Box.new w2 40 c.cells)
  have hl2 := HX2.out.lt
  have HB3 : Hid (Below g w (w2.alloc (Obj.cells c.cells 40))) := HB2.out.alloc (by omega) _
  have HV3 := Lib.hid (HCv.out.next (below_alloc1 w2 (Obj.cells c.cells 40)))
  clear HX2 HB2 HCv
  have t5 : (mode != 1 && mode != 2) = false := by rcases hmode with rfl | rfl <;> rfl
  go_upto_region 7 with fail
  generalize w2.alloc (Obj.cells c.cells 40) = w3 at *
  generalize w2.heap.size = gc at *
  have rf : ∀ i, w3.frozen? ⟨g, i, none⟩ = false := fun i => HX3.out.free i
  have r0 : w3.cell? ⟨g, 0, none⟩ = some (.string ⟨#[]⟩) := HX3.out.cell 0
  have r1 : w3.cell? ⟨g, 1, none⟩ = some (.int .i64 0) := HX3.out.cell 1
  have r2 : w3.cell? ⟨g, 2, none⟩ = some (.int .i64 0) := HX3.out.cell 2
  have r3 : w3.cell? ⟨g, 3, none⟩ = some (.slice none 0 0) := HX3.out.cell 3
  have r4 : w3.cell? ⟨g, 4, none⟩ = some (.slice none 0 0) := HX3.out.cell 4
  have hl3 := HX3.out.lt
  obtain ⟨x0, x1, x2, x3, x4⟩ := ccells HY3.out
  have HFin : Hid (∀ W, W = ((((w3.setCell ⟨g, 0, none⟩ (.string c.nm)).setCell ⟨g, 1, none⟩ (.int .i64 c.ep)).setCell ⟨g, 2, none⟩ (.int .i64 c.cy)).setCell ⟨g, 3, none⟩ (.slice c.A1 c.mo.length c.c1)).setCell ⟨g, 4, none⟩ (.slice c.A2 c.lp.length c.c2) → Below w.heap.size w W ∧ ∃ (c' : Cal) (E : Int), Ending.returned (.tuple #[c.val, .int .i64 0]) = .returned (.tuple #[c'.val, .int .i64 E]) ∧ (E = 0 ↔ ErOk l) ∧ (E = 0 → CalOf r c' ∧ CalV W c')) := fun W hW => by
    subst hW
    refine ⟨?_, c, 0, rfl, ⟨fun _ => HOk.out, fun _ => rfl⟩, fun _ => ⟨HOf.out, ((((HV3.out.set_ g 0 _ HA1.out HA2.out).set_ g 1 _ HA1.out HA2.out).set_ g 2 _ HA1.out HA2.out).set_ g 3 _ HA1.out HA2.out).set_ g 4 _ HA1.out HA2.out⟩⟩
    rw [HG.out]
    exact ((((HB3.out.setCell (p := ⟨g, 0, none⟩) (Nat.le_refl _) _).setCell (p := ⟨g, 1, none⟩) (Nat.le_refl _) _).setCell (p := ⟨g, 2, none⟩) (Nat.le_refl _) _).setCell (p := ⟨g, 3, none⟩) (Nat.le_refl _) _).setCell (p := ⟨g, 4, none⟩) (Nat.le_refl _) _
  rcases hmode with rfl | rfl
  · go_wp2_with fail
    refine bodyPost_ret (v := .tuple #[c.val, .int .i64 0]) (by simp [results, Tryz.results9, go_sem, r0, r1, r2, r3, r4]) rfl ?_
    exact HFin.out _ rfl
  · go_wp2_with fail
    refine bodyPost_ret (v := .tuple #[c.val, .int .i64 0]) (by simp [results, Tryz.results9, go_sem, r0, r1, r2, r3, r4]) rfl ?_
    exact HFin.out _ rfl
end Go.Proofs.YtgocinlhkjaokaaGreatDoor
