/- Era2, Era3 -/
import Derived.Test.YtgocinlhkjaokaaGreatDoorGEraMid
import Derived.Test.YtgocinlhkjaokaaGreatDoorGFlow
import Derived.Test.YtgocinlhkjaokaaGreatDoorGMoon1
import Derived.Test.YtgocinlhkjaokaaGreatDoorGCal5
/- Contract of era.Say. -/
namespace Go.Proofs.YtgocinlhkjaokaaGreatDoor
open Go Go.RowKit
set_option linter.unusedVariables false

set_option maxHeartbeats 4000000 in
set_option maxRecDepth 100000 in
theorem say_any (A : Option Addr) (cp : Nat) (l : List Rn) (r : CatRow) (hrow : r ∈ catR) (mode day : Int) (hmode : mode = 1 ∨ mode = 2) (w : World) (hr : Row w w.heap.size A (l.flatMap rnF)) (hl : l.length ≤ maxLen) (hnm : ∀ x ∈ l, x.nm.size ≤ maxLen) (hv : Env w) :
    Calls Tryz.prog 4 #[.slice A l.length cp, .string (str r.nm), .int .i64 mode, .int .i64 day] w fun e w' => Below w.heap.size w w' ∧ ∃ nm n E, e = .returned (.tuple #[.string nm, .int .i64 n, .int .i64 E]) ∧ SayP l r mode day nm n E := by
  have HOp := Lib.hid (eopen_any A cp l r hrow mode hmode w hr hl hnm hv)
  have HRow := Lib.hid hr
  have HRr := Lib.hid hrow
  have HI := Lib.hid (fun W => isDay_any day W)
  have HMo := Lib.hid (fun W => more_any mode W hmode)
  have hmb := moreI_in mode
  unfold maxLen at hl
  clear hr hnm hv hrow
  go_enter Tryz.func4, Tryz.ntmps4
  go_wp2_with fail
  refine HOp.out.mono ?_
  rintro e w1 ⟨hb1, c, E, rfl, hE, hE2⟩
  have HB1 := Lib.hid hb1
  have HRow1 := Lib.hid (HRow.out.next hb1)
  clear hb1 HOp HRow
  by_cases hE0 : E = 0
  case neg =>
    have t1 : (E != 0) = true := by rw [bne_iff_ne]; exact hE0
    have HNo : Hid (SayP l r mode day ⟨#[]⟩ 0 E) := SayP.no hE0 fun h => absurd (hE.2 h) hE0
    have HB2 := Lib.hid (HB1.out.alloc HB1.out.size (Obj.cells c.cells 40))
    clear hE hE2 hE0
    go_wp2_with fail
    refine bodyPost_ret (results_tmp3 rfl _ _ _) rfl ?_
    exact ⟨HB2.out, _, _, _, rfl, HNo.out⟩
  subst hE0
  have HOk := Lib.hid (hE.1 rfl)
  obtain ⟨hof, hcv⟩ := hE2 rfl
  have HOf := Lib.hid hof
  have HCv := Lib.hid hcv
  clear hE hE2 hof hcv
  go_upto_region 4 with fail
  have HB2 := Lib.hid (HB1.out.alloc HB1.out.size (Obj.cells c.cells 40))
  have HX2 := Lib.hid (Box.new w1 40 c.cells)
  have HV2 := Lib.hid (HCv.out.next (below_alloc1 w1 (Obj.cells c.cells 40)))
  have HRow2 := Lib.hid (HRow1.out.next (below_alloc1 w1 (Obj.cells c.cells 40)))
  clear HB1 HCv HRow1
  generalize w1.alloc (Obj.cells c.cells 40) = w2 at *
  generalize w1.heap.size = gc at *
  by_cases hday : -4000000 ≤ day ∧ day ≤ 4000000
  case neg =>
    rw [decide_eq_false hday] at HI
    have HNo : Hid (SayP l r mode day ⟨#[]⟩ 0 3) := SayP.no (by decide) fun _ k n' m d h => hday h.is
    clear hday
    go_wp2_with (go_at_call 10; refine (HI.out _).mono ?_; rintro e w' ⟨rfl, rfl⟩)
    refine bodyPost_ret (results_tmp3 rfl _ _ _) rfl ?_
    exact ⟨HB2.out, _, _, _, rfl, HNo.out⟩
  rw [decide_eq_true hday] at HI
  obtain ⟨hd1, hd2⟩ := hday
  have hn1 := HOk.out.n1
  have hn2 := HOk.out.n2
  obtain ⟨b, o, rfl, hbl, hcs⟩ := Row.open_ HRow2.out (flat_ne rnF_len (by omega) l (by omega))
  have HCS := Lib.hid hcs
  clear hcs HRow2
  go_wp2_with (go_at_call 10; refine (HI.out _).mono ?_; rintro e w' ⟨rfl, rfl⟩)
  clear HI
  go_loopw [13, 14, 15, 33] (fun kv _ _ i wr => ∃ (j : Nat) (kk : Int), j ≤ l.length ∧ i = .int .i64 (j : Int) ∧ kv = .int .i64 kk ∧ Hid ((kk = -1 ∧ ∀ q, q < j → day < (l.getD q rn0).fr) ∨ ∃ k : Nat, kk = (k : Int) ∧ k < l.length ∧ (l.getD k rn0).fr ≤ day ∧ ∀ q, k < q → q < j → day < (l.getD q rn0).fr) ∧ -1 ≤ kk ∧ kk ≤ 30 ∧ Hid (Below w2.heap.size w2 wr)) (fun kv _ _ i _ => l.length - (intOf i).toNat)
  case atStart => exact ⟨0, -1, by omega, rfl, rfl, .inl ⟨rfl, fun q a => by omega⟩, by omega, by omega, Below.refl _ _⟩
  case round =>
    obtain ⟨j, kk, hj, rfl, rfl, hin, hk1, hk2, hbr⟩ := hrel
    have hcr : Hid (∀ q v, (l.flatMap rnF)[q]? = some v → wr.cell? ⟨b, o + q, none⟩ = some v) := fun q v hq => (hbr.out.cell (p := ⟨b, o + q, none⟩) hbl).trans (HCS.out q v hq)
    by_cases hlt : j < l.length
    · have t1 : decide ((j : Int) < (l.length : Int)) = true := decide_eq_true (by omega)
      have c0 := flat_cell rnF_len rn0 hcr.out j 0 hlt (by omega) _ rfl
      have c1 := flat_cell rnF_len rn0 hcr.out j 1 hlt (by omega) _ rfl
      rw [Nat.add_zero] at c0
      obtain ⟨z, hz⟩ : ∃ z, z = l.getD j rn0 := ⟨_, rfl⟩
      rw [← hz] at c0 c1
      have HZj := Lib.hid hz
      clear hz
      have HBz := Lib.hid (below_then hbr.out (below_alloc1 wr (Obj.cells #[.string z.nm, .int .i64 z.fr] 24)))
      by_cases hle : z.fr ≤ day
      · have t2 : decide (z.fr ≤ day) = true := decide_eq_true hle
        have HI2 : Hid (((j : Int) = -1 ∧ ∀ q, q < j + 1 → day < (l.getD q rn0).fr) ∨ ∃ k : Nat, (j : Int) = (k : Int) ∧ k < l.length ∧ (l.getD k rn0).fr ≤ day ∧ ∀ q, k < q → q < j + 1 → day < (l.getD q rn0).fr) := .inr ⟨j, rfl, hlt, by rw [← HZj.out]; exact hle, fun q a b => by omega⟩
        clear hle
        go_wp2_with fail
        go_roundw
        case rel => exact ⟨j + 1, (j : Int), by omega, by go_num, rfl, HI2, by omega, by omega, HBz⟩
        case measure => simp [intOf]; omega
      · have t2 : decide (z.fr ≤ day) = false := decide_eq_false hle
        have HI2 : Hid ((kk = -1 ∧ ∀ q, q < j + 1 → day < (l.getD q rn0).fr) ∨ ∃ k : Nat, kk = (k : Int) ∧ k < l.length ∧ (l.getD k rn0).fr ≤ day ∧ ∀ q, k < q → q < j + 1 → day < (l.getD q rn0).fr) := by
          have last : ∀ q, q = j → day < (l.getD q rn0).fr := fun q e => by rw [e, ← HZj.out]; omega
          rcases hin.out with ⟨e, h⟩ | ⟨k, e, a, b', h⟩
          · exact .inl ⟨e, fun q hq => if hqj : q < j then h q hqj else last q (by omega)⟩
          · exact .inr ⟨k, e, a, b', fun q h1 hq => if hqj : q < j then h q h1 hqj else last q (by omega)⟩
        clear hle
        go_wp2_with fail
        go_roundw
        case rel => exact ⟨j + 1, kk, by omega, by go_num, rfl, HI2, hk1, hk2, HBz⟩
        case measure => simp [intOf]; omega
    · obtain rfl : j = l.length := by omega
      have t1 : decide ((l.length : Int) < (l.length : Int)) = false := decide_eq_false (by omega)
      have HBr := Lib.hid (below_then HB2.out hbr.out)
      have HXr := Lib.hid (HX2.out.below hbr.out)
      have HVr := Lib.hid (HV2.out.next hbr.out)
      by_cases hneg : kk < 0
      · have t2 : decide (kk < 0) = true := decide_eq_true hneg
        have HNo : Hid (SayP l r mode day ⟨#[]⟩ 0 6) := SayP.no (by decide) fun _ k n' m d h => by
          rcases hin.out with ⟨_, hh⟩ | ⟨k', e, _⟩
          · have := hh k h.at_.lt; have := h.at_.lo; omega
          · omega
        clear hneg hin
        go_wp2_with fail
        refine bodyPost_ret (results_tmp3 rfl _ _ _) rfl ?_
        exact ⟨HBr.out, _, _, _, rfl, HNo.out⟩
      have t2 : decide (kk < 0) = false := decide_eq_false hneg
      obtain ⟨k, hkk, hkl, hlo, hhi⟩ : ∃ k : Nat, kk = (k : Int) ∧ k < l.length ∧ (l.getD k rn0).fr ≤ day ∧ ∀ q, k < q → q < l.length → day < (l.getD q rn0).fr := by
        rcases hin.out with ⟨e, _⟩ | h
        · omega
        · exact h
      subst hkk
      have HRa : Hid (ReignAt l k day) := ⟨hkl, hlo, hhi⟩
      clear hneg hin hk1 hk2 hlo hhi hlt
      obtain ⟨x0, x1, x2, x3, x4⟩ := ccells HXr.out
      go_wp2_with fail
      refine (FromDay_any c day wr HVr.out).mono ?_
      rintro e w3 ⟨hb3, hc⟩
      have HB3 := Lib.hid (below_then HBr.out hb3)
      have HX3 := Lib.hid (HXr.out.below hb3)
      have HV3 := Lib.hid (HVr.out.next hb3)
      have HW3 := Lib.hid (below_then hbr.out hb3)
      clear hb3 x0 x1 x2 x3 x4 HXr HVr HBr hbr hcr
      rcases hc with ⟨y, m, d, g1, g2, g3, rfl⟩ | ⟨g1, rfl⟩
      case inr =>
        have HNo : Hid (SayP l r mode day ⟨#[]⟩ 0 3) := SayP.no (by decide) fun _ k' n' m' d' h => by
          obtain ⟨y, fy, fm, fd, q1, q2, _, _, o1, _, _⟩ := h.ex
          have s := fd_in HV3.out.ok q1 q2 ((HOf.out.on (calE_of r) _ _ _ _).2 o1)
          exact g1 ⟨hd1, hd2, s.1, s.2⟩
        clear g1
        have HB4 := Lib.hid (HB3.out.alloc HB3.out.size (Obj.cells (dateC 0 0 0) 31))
        go_wp2_with fail
        refine bodyPost_ret (results_tmp3 rfl _ _ _) rfl ?_
        exact ⟨HB4.out, _, _, _, rfl, HNo.out⟩
      have HO := Lib.hid (show IsOn c y m d day ∧ -10000 ≤ y ∧ y ≤ 10000 from ⟨g3, g1, g2⟩)
      go_upto_region 18 with fail
      have hba := below_alloc1 w3 (Obj.cells (dateC y ((m : Int) + 1) (d + 1)) 31)
      have HB4 := Lib.hid (below_then HB3.out hba)
      have HX4 := Lib.hid (HX3.out.below hba)
      have HV4 := Lib.hid (HV3.out.next hba)
      have HW4 := Lib.hid (below_then HW3.out hba)
      have HD4 := Lib.hid (Box.new w3 31 (dateC y ((m : Int) + 1) (d + 1)))
      clear hba HB3 HX3 HV3 HW3 g3
      generalize w3.alloc (Obj.cells (dateC y ((m : Int) + 1) (d + 1)) 31) = w4 at *
      generalize w3.heap.size = gd at *
      have hcw : Hid (∀ W, Below w4.heap.size w4 W → ∀ q v, (l.flatMap rnF)[q]? = some v → W.cell? ⟨b, o + q, none⟩ = some v) := fun W hW q v hq => ((below_then HW4.out hW).cell (p := ⟨b, o + q, none⟩) hbl).trans (HCS.out q v hq)
      have hkl' : (k : Int) < (l.length : Int) := by omega
      obtain ⟨z, hz⟩ : ∃ z, z = l.getD k rn0 := ⟨_, rfl⟩
      have HZk := Lib.hid hz
      have kf : ∀ W, Below w4.heap.size w4 W → W.cell? ⟨b, o + k * 2 + 1, none⟩ = some (.int .i64 z.fr) := fun W hb => by rw [hz]; exact flat_cell rnF_len rn0 (hcw.out W hb) k 1 hkl (by omega) _ rfl
      have KN : Hid (∀ W, Below w4.heap.size w4 W → W.cell? ⟨b, o + k * 2, none⟩ = some (.string z.nm)) := fun W hb => by
        have h := flat_cell rnF_len rn0 (hcw.out W hb) k 0 hkl (by omega) _ rfl
        rw [Nat.add_zero] at h
        rw [hz]
        exact h
      have hzi := (HOk.out.each k hkl).is
      rw [← hz] at hzi
      clear hz hcw
      have z0 : ∀ w, Below w4.heap.size w4 w → w.cell? ⟨gc, 0, none⟩ = some (.string c.nm) := fun w hb => (HX4.out.below hb).cell 0
      have z1 : ∀ w, Below w4.heap.size w4 w → w.cell? ⟨gc, 1, none⟩ = some (.int .i64 c.ep) := fun w hb => (HX4.out.below hb).cell 1
      have z2 : ∀ w, Below w4.heap.size w4 w → w.cell? ⟨gc, 2, none⟩ = some (.int .i64 c.cy) := fun w hb => (HX4.out.below hb).cell 2
      have z3 : ∀ w, Below w4.heap.size w4 w → w.cell? ⟨gc, 3, none⟩ = some (.slice c.A1 c.mo.length c.c1) := fun w hb => (HX4.out.below hb).cell 3
      have z4 : ∀ w, Below w4.heap.size w4 w → w.cell? ⟨gc, 4, none⟩ = some (.slice c.A2 c.lp.length c.c2) := fun w hb => (HX4.out.below hb).cell 4
      obtain ⟨b1, b2, b3, EE, hFd, hP⟩ : ∃ b1 b2 b3 EE : Int, (∀ W, CalV W c → Calls Tryz.prog 11 #[c.val, .int .i64 z.fr] W fun e w' => e = .returned (.tuple #[.agg (dateC b1 b2 b3), .int .i64 EE]) ∧ Below W.heap.size W w') ∧
          ((EE = 0 ∧ -10000 ≤ b1 ∧ b1 ≤ 10000 ∧ ∃ (fm : Nat) (fd : Int), IsOn c b1 fm fd z.fr) ∨ (EE = 3 ∧ b1 = 0 ∧ ∀ (fy : Int) (fm : Nat) (fd : Int), -10000 ≤ fy → fy ≤ 10000 → IsOn c fy fm fd z.fr → False)) := by
        by_cases hF : ∃ (fy : Int) (fm : Nat) (fd : Int), -10000 ≤ fy ∧ fy ≤ 10000 ∧ IsOn c fy fm fd z.fr
        · obtain ⟨fy, fm, fd, q1, q2, q3⟩ := hF
          refine ⟨fy, (fm : Int) + 1, fd + 1, 0, fun W hV => ?_, .inl ⟨rfl, q1, q2, fm, fd, q3⟩⟩
          refine (FromDay_any c z.fr W hV).mono ?_
          rintro e w' ⟨hb, ⟨fy', fm', fd', _, _, q3', he⟩ | ⟨hno, _⟩⟩
          · obtain ⟨rfl, rfl, rfl⟩ := q3'.unique hV.ok q3
            exact ⟨he, hb⟩
          · have s := fd_in hV.ok q1 q2 q3
            exact absurd ⟨hzi.1, hzi.2, s.1, s.2⟩ hno
        · refine ⟨0, 0, 0, 3, fun W hV => ?_, .inr ⟨rfl, rfl, fun fy fm fd q1 q2 q3 => hF ⟨fy, fm, fd, q1, q2, q3⟩⟩⟩
          refine (FromDay_any c z.fr W hV).mono ?_
          rintro e w' ⟨hb, ⟨fy, fm, fd, q1, q2, q3, _⟩ | ⟨_, he⟩⟩
          · exact absurd ⟨fy, fm, fd, q1, q2, q3⟩ hF
          · exact ⟨he, hb⟩
      have HFd := Lib.hid hFd
      have HP := Lib.hid hP
      clear hFd hP
      refine flowW_begin (writeOf [(11, fun w w' => Only (fun k => w4.heap.size ≤ k) w w' ∧ ∀ q, BoxN w q 31 3 → BoxN w' q 31 3)]) (tellOf [(6, det (.tuple #[.agg (dateC b1 b2 b3), .int .i64 EE]))]) (by kernel_rfl) (by kernel_rfl) ?_ ?_
      · intro j T hT w1 w2 h12 hb
        obtain ⟨_, rfl⟩ := writeOf_one hT
        exact hb.trans (below_only _ h12.1 (fun k hk => by omega) hb.size)
      repeat (first | (refine flowW_val (v := ?_) (by rfl) (by rfl) (by rfl) (fun w hb => ?_) ?_; rotate_left; (· ((go_simp) <;> ((repeat' apply And.intro) <;> with_reducible rfl))); try simp only [Act.put, List.setIfInBounds_toArray, List.set_cons_zero, List.set_cons_succ, Nat.reduceAdd]) | (refine flowW_skip (by rfl) (by rfl) (by rfl) ?_; try simp only [Act.put, List.setIfInBounds_toArray, List.set_cons_zero, List.set_cons_succ, Nat.reduceAdd]))
      refine flowW_call (f := ?_) (args := ?_) [] (by kernel_rfl) (by rfl) (by rfl) (by rfl) (fun w hb => ?_) (fun w hb hu => ?_) ?_; rotate_left 2; (· ((go_simp) <;> ((repeat' apply And.intro) <;> with_reducible rfl)))
      · exact HFd.out w (HV4.out.next hb)
      try simp only [Act.put, List.setIfInBounds_toArray, List.set_cons_zero, List.set_cons_succ, Nat.reduceAdd]
      repeat (first | (refine flowW_val (v := ?_) (by rfl) (by rfl) (by rfl) (fun w hb => ?_) ?_; rotate_left; (· ((go_simp) <;> ((repeat' apply And.intro) <;> with_reducible rfl))); try simp only [Act.put, List.setIfInBounds_toArray, List.set_cons_zero, List.set_cons_succ, Nat.reduceAdd]) | (refine flowW_skip (by rfl) (by rfl) (by rfl) ?_; try simp only [Act.put, List.setIfInBounds_toArray, List.set_cons_zero, List.set_cons_succ, Nat.reduceAdd]))
      refine flowW_boxn (t := 31) (cs := dateC 0 0 0) (n := 3) (by rfl) (fun _ => keeps_one fun _ _ h hx => h.2 _ hx) (by rfl) (by rfl) (by rfl) (fun w hb => ?_) (fun ga hga => ?_); (· ((go_simp) <;> ((repeat' apply And.intro) <;> with_reducible rfl)))
      try simp only [Act.put, List.setIfInBounds_toArray, List.set_cons_zero, List.set_cons_succ, Nat.reduceAdd]
      refine flowW_store (F := fun w => Box w ga 31 (dateC b1 b2 b3)) [10] (by kernel_rfl) keeps_own (by rfl) (by rfl) (by rfl) (fun w w' hb h => h.below hb) (fun w hb hu => ?_) ?_
      · obtain ⟨cs, hcs, hbx⟩ := usef_head hu
        match cs, hcs, hbx with
        | ⟨[d0, d1, d2]⟩, _, hbx =>
          have q0 : w.cell? ⟨ga, 0, none⟩ = some d0 := hbx.cell 0
          have q1 : w.cell? ⟨ga, 1, none⟩ = some d1 := hbx.cell 1
          have q2 : w.cell? ⟨ga, 2, none⟩ = some d2 := hbx.cell 2
          have qf : ∀ i, w.frozen? ⟨ga, i, none⟩ = false := fun i => hbx.free i
          have ql := hbx.lt
          refine ⟨((w.setCell ⟨ga, 0, none⟩ (.int .i64 b1)).setCell ⟨ga, 1, none⟩ (.int .i64 b2)).setCell ⟨ga, 2, none⟩ (.int .i64 b3), by go_simp, ((hbx.set_ 0 (.int .i64 b1)).set_ 1 (.int .i64 b2)).set_ 2 (.int .i64 b3), ((only_set _ ga 0 _ hga).trans (only_set _ ga 1 _ hga)).trans (only_set _ ga 2 _ hga), fun q hq => ?_⟩
          by_cases hqg : q = ga
          · subst hqg
            exact ⟨_, rfl, ((hbx.set_ 0 (.int .i64 b1)).set_ 1 (.int .i64 b2)).set_ 2 (.int .i64 b3)⟩
          · obtain ⟨cs', e', hx'⟩ := hq
            exact ⟨cs', e', ((hx'.far (p := ⟨ga, 0, none⟩) hqg (.int .i64 b1)).far (p := ⟨ga, 1, none⟩) hqg (.int .i64 b2)).far (p := ⟨ga, 2, none⟩) hqg (.int .i64 b3)⟩
      repeat (first | (refine flowW_val (v := ?_) (by rfl) (by rfl) (by rfl) (fun w hb => ?_) ?_; rotate_left; (· ((go_simp) <;> ((repeat' apply And.intro) <;> with_reducible rfl))); try simp only [Act.put, List.setIfInBounds_toArray, List.set_cons_zero, List.set_cons_succ, Nat.reduceAdd]) | (refine flowW_skip (by rfl) (by rfl) (by rfl) ?_; try simp only [Act.put, List.setIfInBounds_toArray, List.set_cons_zero, List.set_cons_succ, Nat.reduceAdd]))
      refine flow_nil fun w5 hb5 hf => ?_
      have HA5 := Lib.hid hf.1
      have HB5 := Lib.hid (below_then HB4.out hb5)
      have HD5 := Lib.hid (HD4.out.below hb5)
      have KN5 : Hid (∀ W, Below w5.heap.size w5 W → W.cell? ⟨b, o + k * 2, none⟩ = some (.string z.nm)) := fun W hb => KN.out W (below_then hb5 hb)
      clear hf hb5 z0 z1 z2 z3 z4 kf HB4 HX4 HV4 HD4 HW4 KN HFd
      rcases HP.out with ⟨rfl, p1, p2, fm, fd, p3⟩ | ⟨rfl, rfl, p1⟩
      case inr =>
        have HNo : Hid (SayP l r mode day ⟨#[]⟩ 0 3) := SayP.no (by decide) fun _ k' n' m' d' h => by
          obtain ⟨y, fy, fm, fd, _, _, q1, q2, _, o2, _⟩ := h.ex
          obtain rfl := h.at_.unique HRa.out
          rw [← HZk.out] at o2
          exact p1 fy fm fd q1 q2 ((HOf.out.on (calE_of r) _ _ _ _).2 o2)
        clear p1 HP
        go_wp2_with fail
        refine bodyPost_ret (results_tmp3 rfl _ _ _) rfl ?_
        exact ⟨HB5.out, _, _, _, rfl, HNo.out⟩
      obtain ⟨mo, hmo⟩ : ∃ mo, mo = moreI mode := ⟨_, rfl⟩
      rw [← hmo] at HMo hmb
      have HReg : Hid (RegAt l r mode k (y - b1 + mo) m d day) := ⟨HRa.out, ⟨hd1, hd2⟩, y, b1, fm, fd, HO.out.2.1, HO.out.2.2, p1, p2, (HOf.out.on (calE_of r) _ _ _ _).1 HO.out.1, by rw [← HZk.out]; exact (HOf.out.on (calE_of r) _ _ _ _).1 p3, by rw [hmo]⟩
      have hyb := HO.out.2
      have HSay : Hid (SayP l r mode day z.nm (y - b1 + mo) 0) := ⟨fun _ => ⟨HOk.out, k, m, d, HReg.out, by rw [HZk.out]⟩, fun _ k' n' m' d' h => by
        obtain ⟨rfl, e2, _, _⟩ := h.unique HRr.out HReg.out
        exact ⟨rfl, by rw [HZk.out], e2.symm⟩⟩
      clear HP p3 HReg hmo
      go_upto_region 21 with fail
      have kn : ∀ W, Below w5.heap.size w5 W → W.cell? ⟨b, o + k * 2, none⟩ = some (.string z.nm) := KN5.out
      have v0 : ∀ W, Below w5.heap.size w5 W → W.cell? ⟨gd, 0, none⟩ = some (.int .i64 y) := fun W hb => (HD5.out.below hb).cell 0
      have u0 : ∀ W, Below w5.heap.size w5 W → W.cell? ⟨ga, 0, none⟩ = some (.int .i64 b1) := fun W hb => (HA5.out.below hb).cell 0
      have e1 : IntKind.i64.wrap (y - b1) = y - b1 := intFits _ (by omega) (by omega)
      have e2 : IntKind.i64.wrap (y - b1 + mo) = y - b1 + mo := intFits _ (by omega) (by omega)
      refine flow_begin (tellOf [(11, det (.int .i64 mo))]) (by kernel_rfl) (by kernel_rfl) ?_
      repeat (first | (refine flow_val (v := ?_) (by rfl) (by rfl) (fun w hb => ?_) ?_; rotate_left; (· ((go_simp) <;> ((repeat' apply And.intro) <;> with_reducible rfl))); try simp only [Act.put, List.setIfInBounds_toArray, List.set_cons_zero, List.set_cons_succ, Nat.reduceAdd]) | (refine flow_skip (by rfl) (by rfl) ?_; try simp only [Act.put, List.setIfInBounds_toArray, List.set_cons_zero, List.set_cons_succ, Nat.reduceAdd]))
      refine flow_call (f := ?_) (args := ?_) [] (by kernel_rfl) (by rfl) (by rfl) (fun w hb => ?_) (fun w hb hu => ?_) ?_; rotate_left 2; (· ((go_simp) <;> ((repeat' apply And.intro) <;> with_reducible rfl)))
      · exact HMo.out w
      try simp only [Act.put, List.setIfInBounds_toArray, List.set_cons_zero, List.set_cons_succ, Nat.reduceAdd]
      repeat (first | (refine flow_val (v := ?_) (by rfl) (by rfl) (fun w hb => ?_) ?_; rotate_left; (· ((go_simp) <;> ((repeat' apply And.intro) <;> with_reducible rfl))); try simp only [Act.put, List.setIfInBounds_toArray, List.set_cons_zero, List.set_cons_succ, Nat.reduceAdd]) | (refine flow_skip (by rfl) (by rfl) ?_; try simp only [Act.put, List.setIfInBounds_toArray, List.set_cons_zero, List.set_cons_succ, Nat.reduceAdd]))
      refine flow_nil fun w6 hb6 _ => ?_
      have HB6 := Lib.hid (below_then HB5.out hb6)
      clear hb6 kn v0 u0 e1 e2
      go_wp2_with fail
      refine bodyPost_ret (results_tmp3 rfl _ _ _) rfl ?_
      exact ⟨HB6.out, _, _, _, rfl, HSay.out⟩
end Go.Proofs.YtgocinlhkjaokaaGreatDoor

/- Contract of era.Find. -/
namespace Go.Proofs.YtgocinlhkjaokaaGreatDoor
open Go Go.RowKit
set_option linter.unusedVariables false

theorem bytes_beq (a b : ByteArray) : (a.toList == b.toList) = decide (a = b) := by
  rw [Bool.eq_iff_iff, beq_iff_eq, decide_eq_true_eq, Lib.toList_data, Lib.toList_data]
  constructor
  · intro h
    rw [← str_own' a, ← str_own' b, h]
  · rintro rfl; rfl
/-- all days of the first j reigns with this name and regnal date are in the list -/
def FindI (l : List Rn) (r : CatRow) (mode : Int) (nmq : ByteArray) (a1 a2 a3 : Int) (j : Nat) (xs : List Int) : Prop := ∀ (k m : Nat) (d day : Int), k < j → RegAt l r mode k a1 m d day → a2 = (m : Int) + 1 → a3 = d + 1 → (l.getD k rn0).nm = nmq → day ∈ xs
theorem FindI.skip {l : List Rn} {r : CatRow} {mode : Int} {nmq : ByteArray} {a1 a2 a3 : Int} {j : Nat} {xs : List Int} (h : FindI l r mode nmq a1 a2 a3 j xs) (hn : ∀ (m : Nat) (d day : Int), RegAt l r mode j a1 m d day → a2 = (m : Int) + 1 → a3 = d + 1 → (l.getD j rn0).nm = nmq → False) : FindI l r mode nmq a1 a2 a3 (j + 1) xs := fun k m d day hk hr e2 e3 en => by
  by_cases hkj : k < j
  · exact h k m d day hkj hr e2 e3 en
  · obtain rfl : k = j := by omega
    exact absurd (hn m d day hr e2 e3 en) id
theorem FindI.put {l : List Rn} {r : CatRow} {mode : Int} {nmq : ByteArray} {a1 a2 a3 : Int} {j : Nat} {xs : List Int} {v : Int} (h : FindI l r mode nmq a1 a2 a3 j xs) (hn : ∀ (m : Nat) (d day : Int), RegAt l r mode j a1 m d day → a2 = (m : Int) + 1 → a3 = d + 1 → (l.getD j rn0).nm = nmq → day = v) : FindI l r mode nmq a1 a2 a3 (j + 1) (xs ++ [v]) := fun k m d day hk hr e2 e3 en => by
  by_cases hkj : k < j
  · exact List.mem_append_left _ (h k m d day hkj hr e2 e3 en)
  · obtain rfl : k = j := by omega
    rw [hn m d day hr e2 e3 en]
    simp
/-- what Find says -/
def EFind (l : List Rn) (r : CatRow) (mode : Int) (nmq : ByteArray) (a1 a2 a3 : Int) (B : Nat) (w' : World) (e : Ending) : Prop :=
  (∃ E : Int, E ≠ 0 ∧ e = .returned (.tuple #[.slice none 0 0, .int .i64 E]) ∧ (ErOk l → E = 3 ∧ ¬ (-10000 ≤ a1 ∧ a1 ≤ 10000))) ∨
  (∃ (A : Option Addr) (c : Nat) (xs : List Int), xs.length ≤ 30 ∧ (ErOk l ∧ -10000 ≤ a1 ∧ a1 ≤ 10000) ∧ FindI l r mode nmq a1 a2 a3 l.length xs ∧ w'.ownsRow B 3 1 (.slice A xs.length c) xs.length (ints xs) ∧ e = .returned (.tuple #[.slice A xs.length c, .int .i64 0]))
/-- what ToDay says at one date, for the days that have it -/
def TdP (r : CatRow) (y a2 a3 : Int) (v E : Int) : Prop := ∀ (m : Nat) (n : Int), a2 = (m : Int) + 1 → -10000 ≤ y → y ≤ 10000 → IsOn (calE r) y m (a3 - 1) n → -4000000 ≤ n → n ≤ 4000000 → E = 0 ∧ v = n
theorem td_call {c : Cal} {r : CatRow} (hof : CalOf r c) (y a2 a3 : Int) (w : World) (hV : CalV w c) : Calls Tryz.prog 16 #[c.val, .agg (dateC y a2 a3)] w fun e w' => ∃ v E, e = .returned (.tuple #[.int .i64 v, .int .i64 E]) ∧ TdP r y a2 a3 v E ∧ Below w.heap.size w w' := by
  refine (ToDay_any c y a2 a3 w hV).mono ?_
  rintro e w' ⟨hb, hc⟩
  have tr : ∀ (m : Nat) n, IsOn (calE r) y m (a3 - 1) n → IsOn c y m (a3 - 1) n := fun m n h => (hof.on (calE_of r) _ _ _ _).2 h
  rcases hc with ⟨m0, n0, hm0, q1, q2, ho, rfl⟩ | ⟨hno, he⟩
  · by_cases hI : -4000000 ≤ n0 ∧ n0 ≤ 4000000
    · rw [show dayR n0 = .tuple #[.int .i64 n0, .int .i64 0] from if_pos hI]
      refine ⟨n0, 0, rfl, fun m n e1 _ _ h _ _ => ⟨rfl, ?_⟩, hb⟩
      obtain rfl : m0 = m := by omega
      have h' := tr m0 n h
      rw [ho.on, h'.on]
    · rw [show dayR n0 = .tuple #[.int .i64 0, .int .i64 3] from if_neg hI]
      refine ⟨0, 3, rfl, fun m n e1 _ _ h h1 h2 => ?_, hb⟩
      obtain rfl : m0 = m := by omega
      have h' := tr m0 n h
      have : n0 = n := by rw [ho.on, h'.on]
      omega
  · rcases he with rfl | rfl
    · exact ⟨0, 3, rfl, fun m n e1 q1 q2 h _ _ => absurd (hno m n e1 q1 q2 (tr m n h)) id, hb⟩
    · exact ⟨0, 1, rfl, fun m n e1 q1 q2 h _ _ => absurd (hno m n e1 q1 q2 (tr m n h)) id, hb⟩
theorem TdP.ex (r : CatRow) (y a2 a3 : Int) : ∃ v E, TdP r y a2 a3 v E := by
  by_cases h : ∃ (m : Nat) (n : Int), a2 = (m : Int) + 1 ∧ IsOn (calE r) y m (a3 - 1) n
  · obtain ⟨m, n, e, ho⟩ := h
    refine ⟨n, 0, fun m' n' e' _ _ ho' _ _ => ⟨rfl, ?_⟩⟩
    obtain rfl : m = m' := by omega
    rw [ho.on, ho'.on]
  · exact ⟨0, 1, fun m n e _ _ ho _ _ => absurd ⟨m, n, e, ho⟩ h⟩

set_option maxHeartbeats 4000000 in
set_option maxRecDepth 100000 in
theorem find_any (A : Option Addr) (cp : Nat) (l : List Rn) (r : CatRow) (hrow : r ∈ catR) (mode : Int) (hmode : mode = 1 ∨ mode = 2) (nmq : ByteArray) (a1 a2 a3 : Int) (w : World) (hr : Row w w.heap.size A (l.flatMap rnF)) (hl : l.length ≤ maxLen) (hnm : ∀ x ∈ l, x.nm.size ≤ maxLen) (hv : Env w) :
    Calls Tryz.prog 8 #[.slice A l.length cp, .string (str r.nm), .int .i64 mode, .string nmq, .agg (dateC a1 a2 a3)] w fun e w' => Below w.heap.size w w' ∧ EFind l r mode nmq a1 a2 a3 w.heap.size w' e := by
  have HB0 := Lib.hid (below_alloc1 w (Obj.cells (dateC a1 a2 a3) 31))
  have HD0 := Lib.hid (Box.new w 31 (dateC a1 a2 a3))
  have HOp := Lib.hid (eopen_any A cp l r hrow mode hmode (w.alloc (Obj.cells (dateC a1 a2 a3) 31)) (hr.next HB0.out) hl hnm (hv.next HB0.out))
  have HRow0 := Lib.hid (hr.next HB0.out)
  have HMo := Lib.hid (fun W => more_any mode W hmode)
  have hmb := moreI_in mode
  have HOKr := Lib.hid (calE_ok hrow)
  unfold maxLen at hl
  clear hr hnm hv hrow
  go_enter Tryz.func8, Tryz.ntmps8
  go_wp2_with fail
  generalize w.alloc (Obj.cells (dateC a1 a2 a3) 31) = w0 at *
  generalize hg : w.heap.size = g at *
  have HG := Lib.hid hg
  clear hg
  refine HOp.out.mono ?_
  rintro e w1 ⟨hb1, c, E, rfl, hE, hE2⟩
  have hg0 := HD0.out.lt
  have HB1 := Lib.hid (show Below g w w1 from HB0.out.trans (hb1.mono (by omega)))
  have HRow1 := Lib.hid (HRow0.out.next hb1)
  have HD1 := Lib.hid (HD0.out.below hb1)
  clear hb1 HOp HRow0 HB0 HD0 hg0
  have hg1 := HD1.out.lt
  by_cases hE0 : E = 0
  case neg =>
    have t1 : (E != 0) = true := by rw [bne_iff_ne]; exact hE0
    have HNo : Hid (∀ W, EFind l r mode nmq a1 a2 a3 w.heap.size W (.returned (.tuple #[.slice none 0 0, .int .i64 E]))) := fun W => .inl ⟨E, hE0, rfl, fun h => absurd (hE.2 h) hE0⟩
    have HB2 := Lib.hid (HB1.out.alloc (by omega) (Obj.cells c.cells 40))
    clear hE hE2 hE0
    go_wp2_with fail
    go_ret2
    exact ⟨by rw [HG.out]; exact HB2.out, HNo.out _⟩
  subst hE0
  have HOk := Lib.hid (hE.1 rfl)
  obtain ⟨hof, hcv⟩ := hE2 rfl
  have HOf := Lib.hid hof
  have HCv := Lib.hid hcv
  clear hE hE2 hof hcv
  go_upto_region 4 with fail
  have HB2 := Lib.hid (HB1.out.alloc (by omega) (Obj.cells c.cells 40))
  have HD2 := Lib.hid (HD1.out.alloc (Obj.cells c.cells 40))
  have HX2 := Lib.hid (Box.new w1 40 c.cells)
  have HV2 := Lib.hid (HCv.out.next (below_alloc1 w1 (Obj.cells c.cells 40)))
  have HRow2 := Lib.hid (HRow1.out.next (below_alloc1 w1 (Obj.cells c.cells 40)))
  clear HB1 HCv HRow1 HD1
  generalize w1.alloc (Obj.cells c.cells 40) = w2 at *
  generalize w1.heap.size = gc at *
  have y0 : w2.cell? ⟨g, 0, none⟩ = some (.int .i64 a1) := HD2.out.cell 0
  by_cases hy1 : a1 < -10000
  · have t1 : decide (a1 < -10000) = true := decide_eq_true hy1
    have HNo : Hid (∀ W, EFind l r mode nmq a1 a2 a3 w.heap.size W (.returned (.tuple #[.slice none 0 0, .int .i64 3]))) := fun W => .inl ⟨3, by decide, rfl, fun _ => ⟨rfl, fun h => by omega⟩⟩
    clear hy1
    go_wp2_with fail
    go_ret2
    exact ⟨by rw [HG.out]; exact HB2.out, HNo.out _⟩
  have t1 : decide (a1 < -10000) = false := decide_eq_false hy1
  by_cases hy2 : 10000 < a1
  · have t2 : decide (10000 < a1) = true := decide_eq_true hy2
    have HNo : Hid (∀ W, EFind l r mode nmq a1 a2 a3 w.heap.size W (.returned (.tuple #[.slice none 0 0, .int .i64 3]))) := fun W => .inl ⟨3, by decide, rfl, fun _ => ⟨rfl, fun h => by omega⟩⟩
    clear hy2 hy1
    go_wp2_with fail
    go_ret2
    exact ⟨by rw [HG.out]; exact HB2.out, HNo.out _⟩
  have t2 : decide (10000 < a1) = false := decide_eq_false hy2
  have hya : -10000 ≤ a1 := by omega
  have hyb : a1 ≤ 10000 := by omega
  have hn1 := HOk.out.n1
  have hn2 := HOk.out.n2
  obtain ⟨b, o, rfl, hbl, hcs⟩ := Row.open_ HRow2.out (flat_ne rnF_len (by omega) l (by omega))
  have HCS := Lib.hid hcs
  clear hcs HRow2
  go_wp2_with fail
  clear y0 t1 t2 hy1 hy2
  obtain ⟨LB, hLB⟩ : ∃ LB, LB = w2.heap.size := ⟨_, rfl⟩
  have HLB := Lib.hid hLB
  have hbLB : b < LB := by omega
  have hgLB : g < LB := by have := HD2.out.lt; omega
  clear hLB
  obtain ⟨i0, hi0, hz0, hz1, hz2⟩ := info_parts infoInt2
  go_loopw [14, 15, 16, 17, 18, 19, 40] (fun lv _ _ _ _ _ i wr => ∃ (j : Nat) (xs : List Int), j ≤ l.length ∧ i = .int .i64 (j : Int) ∧ xs.length ≤ j ∧ Hid (FindI l r mode nmq a1 a2 a3 j xs) ∧ Hid (wr.ownsRow LB 3 1 lv xs.length (ints xs)) ∧ Hid (Below LB w2 wr)) (fun _ _ _ _ _ _ i _ => l.length - (intOf i).toNat)
  case atStart => exact ⟨0, [], by omega, rfl, Nat.le_refl _, fun k m d day hk => absurd hk (Nat.not_lt_zero k), World.ownsRow_nil _ _ _ _, Below.refl _ _⟩
  case round =>
    obtain ⟨j, xs, hj, rfl, hxl, hfi, hlv, hbr⟩ := hrel
    have HBw : Hid (Below w2.heap.size w2 wr) := by have := hbr.out; rw [HLB.out] at this; exact this
    have HXr := Lib.hid (HX2.out.below HBw.out)
    have HDr := Lib.hid (HD2.out.below HBw.out)
    have HVr := Lib.hid (HV2.out.next HBw.out)
    have HBgr : Hid (Below g w wr) := HB2.out.trans (HBw.out.mono (by have := HD2.out.lt; omega))
    have hLr : LB ≤ wr.heap.size := by have := HBw.out.size; have := HLB.out; omega
    by_cases hlt : j < l.length
    case neg =>
      obtain rfl : j = l.length := by omega
      have t1 : decide ((l.length : Int) < (l.length : Int)) = false := decide_eq_false (by omega)
      obtain ⟨A, c', rfl, _, _⟩ := own_form hlv.out
      have HFin : Hid (EFind l r mode nmq a1 a2 a3 w.heap.size wr (.returned (.tuple #[.slice A xs.length c', .int .i64 0]))) := .inr ⟨A, c', xs, by omega, ⟨HOk.out, hya, hyb⟩, hfi.out, by rw [HG.out]; exact own_lower hlv.out (by omega), rfl⟩
      clear hlt
      go_wp2_with fail
      go_ret2
      exact ⟨by rw [HG.out]; exact HBgr.out, HFin.out⟩
    have t1 : decide ((j : Int) < (l.length : Int)) = true := decide_eq_true (by omega)
    have hcr : Hid (∀ W, Below wr.heap.size wr W → ∀ q v, (l.flatMap rnF)[q]? = some v → W.cell? ⟨b, o + q, none⟩ = some v) := fun W hW q v hq => ((below_then HBw.out hW).cell (p := ⟨b, o + q, none⟩) hbl).trans (HCS.out q v hq)
    have c0 := flat_cell rnF_len rn0 (hcr.out wr (Below.refl _ _)) j 0 hlt (by omega) _ rfl
    have c1 := flat_cell rnF_len rn0 (hcr.out wr (Below.refl _ _)) j 1 hlt (by omega) _ rfl
    rw [Nat.add_zero] at c0
    obtain ⟨z, hz⟩ : ∃ z, z = l.getD j rn0 := ⟨_, rfl⟩
    rw [← hz] at c0 c1
    have HZj := Lib.hid hz
    have hzi := (HOk.out.each j hlt).is
    rw [← hz] at hzi
    clear hz
    have hba := Lib.hid (below_alloc1 wr (Obj.cells #[.string z.nm, .int .i64 z.fr] 24))
    have HP4 := Lib.hid (Box.new wr 24 #[.string z.nm, .int .i64 z.fr])
    have HX4 := Lib.hid (HXr.out.below hba.out)
    have HD4 := Lib.hid (HDr.out.below hba.out)
    have HV4 := Lib.hid (HVr.out.next hba.out)
    have HL4 := Lib.hid (own_next hlv.out hba.out)
    go_upto_region 10 with fail
    clear c0 c1 hlv HXr HDr HVr
    obtain ⟨w4, hw4⟩ : ∃ w4, w4 = wr.alloc (Obj.cells #[.string z.nm, .int .i64 z.fr] 24) := ⟨_, rfl⟩
    rw [← hw4] at hba HP4 HX4 HD4 HV4 HL4 ⊢
    clear hw4
    obtain ⟨gp, hgp⟩ : ∃ gp, gp = wr.heap.size := ⟨_, rfl⟩
    rw [← hgp] at HP4
    rw [← hgp]
    clear hgp
    have p0 : w4.cell? ⟨gp, 0, none⟩ = some (.string z.nm) := HP4.out.cell 0
    have p1 : w4.cell? ⟨gp, 1, none⟩ = some (.int .i64 z.fr) := HP4.out.cell 1
    obtain ⟨x0, x1, x2, x3, x4⟩ := ccells HX4.out
    go_wp2_with fail
    refine (FromDay_any c z.fr w4 HV4.out).mono ?_
    rintro e w5 ⟨hb5, hc⟩
    have HP5 := Lib.hid (HP4.out.below hb5)
    have HX5 := Lib.hid (HX4.out.below hb5)
    have HD5 := Lib.hid (HD4.out.below hb5)
    have HV5 := Lib.hid (HV4.out.next hb5)
    have HL5 := Lib.hid (own_next HL4.out hb5)
    have HW5 := Lib.hid (below_then hba.out hb5)
    clear hb5 p0 p1 x0 x1 x2 x3 x4 HP4 HX4 HD4 HL4 hba
    rcases hc with ⟨fy, fm, fd, g1, g2, g3, rfl⟩ | ⟨g1, rfl⟩
    case inr =>
      have HF2 : Hid (FindI l r mode nmq a1 a2 a3 (j + 1) xs) := hfi.out.skip fun m d day h _ _ _ => by
        obtain ⟨y, fy, fm, fd, _, _, q1, q2, _, o2, _⟩ := h.ex
        rw [← HZj.out] at o2
        have s := fd_in HV5.out.ok q1 q2 ((HOf.out.on (calE_of r) _ _ _ _).2 o2)
        exact g1 ⟨hzi.1, hzi.2, s.1, s.2⟩
      clear g1
      have hba := below_alloc1 w5 (Obj.cells (dateC 0 0 0) 31)
      have HL6 := Lib.hid (own_next HL5.out hba)
      have HBr6 : Hid (Below LB w2 (w5.alloc (Obj.cells (dateC 0 0 0) 31))) := by have := below_then HBw.out (below_then HW5.out hba); rw [← HLB.out] at this; exact this
      clear hba
      go_wp2_with fail
      go_roundw
      case rel => exact ⟨j + 1, xs, by omega, by go_num, by omega, HF2, HL6, HBr6⟩
      case measure => simp [intOf]; omega
    have HFO := Lib.hid ((HOf.out.on (calE_of r) fy fm fd z.fr).1 g3)
    clear g3
    have hba := below_alloc1 w5 (Obj.cells (dateC fy ((fm : Int) + 1) (fd + 1)) 31)
    have HP6 := Lib.hid (HP5.out.below hba)
    have HX6 := Lib.hid (HX5.out.below hba)
    have HD6 := Lib.hid (HD5.out.below hba)
    have HV6 := Lib.hid (HV5.out.next hba)
    have HL6 := Lib.hid (own_next HL5.out hba)
    have HW6 := Lib.hid (below_then HW5.out hba)
    have HQ6 := Lib.hid (Box.new w5 31 (dateC fy ((fm : Int) + 1) (fd + 1)))
    clear hba
    have pz : w5.cell? ⟨gp, 0, none⟩ = some (.string z.nm) := HP5.out.cell 0
    have pl := HP5.out.lt
    by_cases hnq : z.nm = nmq
    case neg =>
      have t2 : (z.nm.toList == nmq.toList) = false := by rw [bytes_beq]; exact decide_eq_false hnq
      have HF2 : Hid (FindI l r mode nmq a1 a2 a3 (j + 1) xs) := hfi.out.skip fun m d day _ _ _ en => hnq (by rw [HZj.out]; exact en)
      have HBr6 : Hid (Below LB w2 (w5.alloc (Obj.cells (dateC fy ((fm : Int) + 1) (fd + 1)) 31))) := by have := below_then HBw.out HW6.out; rw [← HLB.out] at this; exact this
      clear hnq HP6 HX6 HD6 HV6 HW6 HQ6 HP5 HX5 HD5 HV5 HL5 HW5
      go_wp2_with fail
      go_roundw
      case rel => exact ⟨j + 1, xs, by omega, by go_num, by omega, HF2, HL6, HBr6⟩
      case measure => simp [intOf]; omega
    have t2 : (z.nm.toList == nmq.toList) = true := by rw [bytes_beq]; exact decide_eq_true hnq
    clear hnq
    go_upto_region 12 with fail
    clear pz pl t2 HP5 HX5 HD5 HV5 HL5 HW5
    generalize w5.alloc (Obj.cells (dateC fy ((fm : Int) + 1) (fd + 1)) 31) = w6 at *
    generalize w5.heap.size = gq at *
    obtain ⟨mo, hmo⟩ : ∃ mo, mo = moreI mode := ⟨_, rfl⟩
    rw [← hmo] at HMo hmb
    have HMOe := Lib.hid hmo
    clear hmo
    have z0 : ∀ w, Below w6.heap.size w6 w → w.cell? ⟨gc, 0, none⟩ = some (.string c.nm) := fun w hb => (HX6.out.below hb).cell 0
    have z1 : ∀ w, Below w6.heap.size w6 w → w.cell? ⟨gc, 1, none⟩ = some (.int .i64 c.ep) := fun w hb => (HX6.out.below hb).cell 1
    have z2 : ∀ w, Below w6.heap.size w6 w → w.cell? ⟨gc, 2, none⟩ = some (.int .i64 c.cy) := fun w hb => (HX6.out.below hb).cell 2
    have z3 : ∀ w, Below w6.heap.size w6 w → w.cell? ⟨gc, 3, none⟩ = some (.slice c.A1 c.mo.length c.c1) := fun w hb => (HX6.out.below hb).cell 3
    have z4 : ∀ w, Below w6.heap.size w6 w → w.cell? ⟨gc, 4, none⟩ = some (.slice c.A2 c.lp.length c.c2) := fun w hb => (HX6.out.below hb).cell 4
    have y0 : ∀ w, Below w6.heap.size w6 w → w.cell? ⟨g, 0, none⟩ = some (.int .i64 a1) := fun w hb => (HD6.out.below hb).cell 0
    have y1 : ∀ w, Below w6.heap.size w6 w → w.cell? ⟨g, 1, none⟩ = some (.int .i64 a2) := fun w hb => (HD6.out.below hb).cell 1
    have y2 : ∀ w, Below w6.heap.size w6 w → w.cell? ⟨g, 2, none⟩ = some (.int .i64 a3) := fun w hb => (HD6.out.below hb).cell 2
    have q0 : ∀ w, Below w6.heap.size w6 w → w.cell? ⟨gq, 0, none⟩ = some (.int .i64 fy) := fun w hb => (HQ6.out.below hb).cell 0
    have e1 : IntKind.i64.wrap (a1 + fy) = a1 + fy := intFits _ (by omega) (by omega)
    have e2 : IntKind.i64.wrap (a1 + fy - mo) = a1 + fy - mo := intFits _ (by omega) (by omega)
    refine flow_begin (tellOf [(7, det (.int .i64 mo)), (14, pairT (TdP r (a1 + fy - mo) a2 a3))]) (by kernel_rfl) (by kernel_rfl) ?_
    repeat (first | (refine flow_val (v := ?_) (by rfl) (by rfl) (fun w hb => ?_) ?_; rotate_left; (· ((go_simp) <;> ((repeat' apply And.intro) <;> with_reducible rfl))); try simp only [Act.put, List.setIfInBounds_toArray, List.set_cons_zero, List.set_cons_succ, Nat.reduceAdd]) | (refine flow_skip (by rfl) (by rfl) ?_; try simp only [Act.put, List.setIfInBounds_toArray, List.set_cons_zero, List.set_cons_succ, Nat.reduceAdd]))
    refine flow_call (f := ?_) (args := ?_) [] (by kernel_rfl) (by rfl) (by rfl) (fun w hb => ?_) (fun w hb hu => ?_) ?_; rotate_left 2; (· ((go_simp) <;> ((repeat' apply And.intro) <;> with_reducible rfl)))
    · exact HMo.out w
    try simp only [Act.put, List.setIfInBounds_toArray, List.set_cons_zero, List.set_cons_succ, Nat.reduceAdd]
    repeat (first | (refine flow_val (v := ?_) (by rfl) (by rfl) (fun w hb => ?_) ?_; rotate_left; (· ((go_simp) <;> ((repeat' apply And.intro) <;> with_reducible rfl))); try simp only [Act.put, List.setIfInBounds_toArray, List.set_cons_zero, List.set_cons_succ, Nat.reduceAdd]) | (refine flow_skip (by rfl) (by rfl) ?_; try simp only [Act.put, List.setIfInBounds_toArray, List.set_cons_zero, List.set_cons_succ, Nat.reduceAdd]))
    refine flow_pair (f := ?_) (args := ?_) [] (TdP.ex _ _ _ _) (by kernel_rfl) (by rfl) (by rfl) (fun w hb => ?_) (fun w hb hu => ?_) (fun v E hp => ?_); rotate_left 2; (· ((go_simp) <;> ((repeat' apply And.intro) <;> with_reducible rfl)))
    · exact td_call HOf.out _ _ _ w (HV6.out.next hb)
    try simp only [Act.put, List.setIfInBounds_toArray, List.set_cons_zero, List.set_cons_succ, Nat.reduceAdd]
    repeat (first | (refine flow_val (v := ?_) (by rfl) (by rfl) (fun w hb => ?_) ?_; rotate_left; (· ((go_simp) <;> ((repeat' apply And.intro) <;> with_reducible rfl))); try simp only [Act.put, List.setIfInBounds_toArray, List.set_cons_zero, List.set_cons_succ, Nat.reduceAdd]) | (refine flow_skip (by rfl) (by rfl) ?_; try simp only [Act.put, List.setIfInBounds_toArray, List.set_cons_zero, List.set_cons_succ, Nat.reduceAdd]))
    refine flow_nil fun w7 hb7 _ => ?_
    have HP7 := Lib.hid (HP6.out.below hb7)
    have HL7 := Lib.hid (own_next HL6.out hb7)
    have HW7 := Lib.hid (below_then HW6.out hb7)
    have HBr7 : Hid (Below LB w2 w7) := by have := below_then HBw.out HW7.out; rw [← HLB.out] at this; exact this
    have hL7 : LB ≤ w7.heap.size := by have := HW7.out.size; omega
    have HK : Hid (∀ (m : Nat) (d day : Int), RegAt l r mode j a1 m d day → a2 = (m : Int) + 1 → a3 = d + 1 → E = 0 ∧ day = v ∧ z.fr ≤ day ∧ ∀ q, j < q → q < l.length → day < (l.getD q rn0).fr) := fun m d day h em ed => by
      obtain ⟨y, fy', fm', fd', q1, q2, _, _, o1, o2, en⟩ := h.ex
      rw [← HZj.out] at o2
      obtain ⟨rfl, _, _⟩ := o2.unique HOKr.out HFO.out
      have hy : a1 + fy' - mo = y := by rw [HMOe.out]; omega
      have hh := hp m day em (by omega) (by omega) (by rw [hy, ed, show d + 1 - 1 = d from by omega]; exact o1) h.is.1 h.is.2
      exact ⟨hh.1, hh.2.symm, by rw [HZj.out]; exact h.at_.lo, h.at_.hi⟩
    clear hb7 hp z0 z1 z2 z3 z4 y0 y1 y2 q0 e1 e2 HP6 HX6 HD6 HV6 HL6 HW6 HQ6
    have p1 : w7.cell? ⟨gp, 1, none⟩ = some (.int .i64 z.fr) := HP7.out.cell 1
    obtain ⟨f, hf⟩ : ∃ f, f = z.fr := ⟨_, rfl⟩
    rw [← hf] at HK p1
    clear hf
    by_cases hE : E = 0
    case neg =>
      have t3 : (E == 0) = false := by rw [beq_eq_false_iff_ne]; exact hE
      have HF2 : Hid (FindI l r mode nmq a1 a2 a3 (j + 1) xs) := hfi.out.skip fun m d day h e2 e3 _ => hE (HK.out m d day h e2 e3).1
      clear hE
      go_wp2_with fail
      go_roundw
      case rel => exact ⟨j + 1, xs, by omega, by go_num, by omega, HF2, HL7, HBr7⟩
      case measure => simp [intOf]; omega
    subst hE
    by_cases hge : f ≤ v
    case neg =>
      have t3 : decide (f ≤ v) = false := decide_eq_false hge
      have HF2 : Hid (FindI l r mode nmq a1 a2 a3 (j + 1) xs) := hfi.out.skip fun m d day h e2 e3 _ => by
        obtain ⟨_, k1, k2, _⟩ := HK.out m d day h e2 e3
        omega
      clear hge
      go_wp2_with fail
      go_roundw
      case rel => exact ⟨j + 1, xs, by omega, by go_num, by omega, HF2, HL7, HBr7⟩
      case measure => simp [intOf]; omega
    have t3 : decide (f ≤ v) = true := decide_eq_true hge
    by_cases hlast : j + 1 = l.length
    · have t4 : ((j : Int) + 1 == (l.length : Int)) = true := by rw [beq_iff_eq]; omega
      clear hge hlast
      have HFp : Hid (FindI l r mode nmq a1 a2 a3 (j + 1) (xs ++ [v])) := hfi.out.put fun m d day h e2 e3 _ => (HK.out m d day h e2 e3).2.1
      go_wp2_with (at_builtin; refine wpList_append_own _ rfl (.tmp 103) (.tmp 105) 34 rfl LB 3 i0 (.int .i64 0) 1 8 Tryz.underlying34 hi0 hz0 hz1 hz2 rfl (by decide) u14 xs.length _ rfl (HL7.out.alloc _) ⟨w7.heap.size, 0, none⟩ 1 1 [.int .i64 v] rfl rfl (cell_one_new _ _ _) (oneI _) ?c3 ?c4 ?c5 ?_)
      try (case c3 => first | omega | (simp only [maxLen]; omega) | (simp; omega))
      try (case c4 => first | omega | (simp only [maxLen]; omega) | (simp; omega))
      try (case c5 => first | omega | (simp only [maxLen]; omega) | (simp; omega))
      intro v' w8 hown' hgrow _
      have hlb := own_base HL7.out
      have HO8 : Hid (w8.ownsRow LB 3 1 v' (xs ++ [v]).length (ints (xs ++ [v]))) := by unfold Hid; rw [ints_snoc, List.length_append]; exact hown'
      have HB8 : Hid (Below LB w2 w8) := (HBr7.out.alloc (by omega) _).grown hgrow (by simp; omega) (fun q hq => by have := hlb q hq; omega)
      clear hown' hgrow
      go_wp2_with fail
      go_roundw
      case rel => exact ⟨j + 1, xs ++ [v], by omega, by go_num, by simp; omega, HFp, HO8, HB8⟩
      case measure => simp [intOf]; omega
    have t4 : ((j : Int) + 1 == (l.length : Int)) = false := by rw [beq_eq_false_iff_ne]; omega
    have hq2 : (j : Int) + 1 < (l.length : Int) := by omega
    have cq : w7.cell? ⟨b, o + (j + 1) * 2 + 1, none⟩ = some (.int .i64 (l.getD (j + 1) rn0).fr) := flat_cell rnF_len rn0 (hcr.out w7 HW7.out) (j + 1) 1 (by omega) (by omega) _ rfl
    obtain ⟨fq, hfq⟩ : ∃ fq, fq = (l.getD (j + 1) rn0).fr := ⟨_, rfl⟩
    rw [← hfq] at cq
    have HFq := Lib.hid hfq
    clear hfq
    by_cases hnx : v < fq
    · have t5 : decide (v < fq) = true := decide_eq_true hnx
      clear hge hlast hnx
      have HFp : Hid (FindI l r mode nmq a1 a2 a3 (j + 1) (xs ++ [v])) := hfi.out.put fun m d day h e2 e3 _ => (HK.out m d day h e2 e3).2.1
      go_wp2_with (at_builtin; refine wpList_append_own _ rfl (.tmp 103) (.tmp 105) 34 rfl LB 3 i0 (.int .i64 0) 1 8 Tryz.underlying34 hi0 hz0 hz1 hz2 rfl (by decide) u14 xs.length _ rfl (HL7.out.alloc _) ⟨w7.heap.size, 0, none⟩ 1 1 [.int .i64 v] rfl rfl (cell_one_new _ _ _) (oneI _) ?c3 ?c4 ?c5 ?_)
      try (case c3 => first | omega | (simp only [maxLen]; omega) | (simp; omega))
      try (case c4 => first | omega | (simp only [maxLen]; omega) | (simp; omega))
      try (case c5 => first | omega | (simp only [maxLen]; omega) | (simp; omega))
      intro v' w8 hown' hgrow _
      have hlb := own_base HL7.out
      have HO8 : Hid (w8.ownsRow LB 3 1 v' (xs ++ [v]).length (ints (xs ++ [v]))) := by unfold Hid; rw [ints_snoc, List.length_append]; exact hown'
      have HB8 : Hid (Below LB w2 w8) := (HBr7.out.alloc (by omega) _).grown hgrow (by simp; omega) (fun q hq => by have := hlb q hq; omega)
      clear hown' hgrow
      go_wp2_with fail
      go_roundw
      case rel => exact ⟨j + 1, xs ++ [v], by omega, by go_num, by simp; omega, HFp, HO8, HB8⟩
      case measure => simp [intOf]; omega
    · have t5 : decide (v < fq) = false := decide_eq_false hnx
      have HF2 : Hid (FindI l r mode nmq a1 a2 a3 (j + 1) xs) := hfi.out.skip fun m d day h e2 e3 _ => by
        obtain ⟨_, k1, _, k3⟩ := HK.out m d day h e2 e3
        have := k3 (j + 1) (by omega) (by omega)
        have := HFq.out
        omega
      clear hge hlast hnx
      go_wp2_with fail
      go_roundw
      case rel => exact ⟨j + 1, xs, by omega, by go_num, by omega, HF2, HL7, HBr7⟩
      case measure => simp [intOf]; omega
end Go.Proofs.YtgocinlhkjaokaaGreatDoor
