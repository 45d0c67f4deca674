/- Contracts of package forecast: Check, isYear. -/
import Derived.Test.YtlihhlijombepaaDoorForeArg
import Derived.Test.YtlihhlijombepaaDoorZone1
namespace Go.Proofs.YtlihhlijombepaaDoor
open Go.RowKit
set_option linter.unusedVariables false

theorem isYear_yes (n : Int) (w : World) (h1 : -10000 ≤ n) (h2 : n ≤ 10000) :
    Calls Tryd.prog 66 #[.int .i64 n] w fun e w' => e = .returned (.bool true) ∧ w = w' := by
  go_enter Tryd.func66, Tryd.ntmps66
  go_wp2
  go_ret
  exact ⟨rfl, rfl⟩

set_option maxHeartbeats 4000000 in
set_option maxRecDepth 100000 in
theorem fcheck_any (A : Option Addr) (c : Nat) (rs : List ZR) (w : World) (hA : RIn w A rs) :
    Calls Tryd.prog 65 #[.slice A rs.length c] w (IsChk (ForeOk rs) w) := by
  have hl := hA.len
  unfold maxLen at hl
  have hfit := Lib.hid hA.fit
  replace hA := hA.row
  have HB := Lib.hid (Below.refl w.heap.size w)
  by_cases h1 : rs.length < 1
  · have t1 : decide (rs.length < 1) = true := decide_eq_true h1
    have t2 : decide ((rs.length : Int) < 1) = true := decide_eq_true (by omega)
    go_enter Tryd.func65, Tryd.ntmps65
    go_wp2_with fail
    go_ret
    exact IsChk.no (fun h => by have := h.1.1; omega) (by omega) HB.out
  by_cases h2 : 4 < rs.length
  · have t1 : decide ((rs.length : Int) < 1) = false := decide_eq_false (by omega)
    have t2 : decide ((4 : Int) < rs.length) = true := decide_eq_true (by omega)
    go_enter Tryd.func65, Tryd.ntmps65
    go_wp2_with fail
    go_ret
    exact IsChk.no (fun h => by have := h.1.2; omega) (by omega) HB.out
  have t1 : decide ((rs.length : Int) < 1) = false := decide_eq_false (by omega)
  have t2 : decide ((4 : Int) < rs.length) = false := decide_eq_false (by omega)
  obtain ⟨b, o, rfl, hb, hc⟩ := hA.open_ (flat_ne zrF_len (by omega) rs (by omega))
  have HC := Lib.hid hc
  clear hA hc
  go_enter Tryd.func65, Tryd.ntmps65
  go_wp2_with fail
  clear t1 t2
  go_loopw [3, 4, 15] (fun _ _ i wr => ∃ k : Nat, k ≤ rs.length ∧ i = .int .i64 k ∧ Hid (∀ j, j < k → ZROk rs j) ∧ Below w.heap.size w wr) (fun _ _ i _ => rs.length - (intOf i).toNat)
  case atStart => exact ⟨0, by omega, rfl, (fun j hj => by omega), Below.refl _ _⟩
  case round =>
    obtain ⟨k, hk, rfl, hall, hbr⟩ := hrel
    have hBw := Lib.hid hbr
    have hzr := hbr.size
    by_cases hlt : k < rs.length
    · have hc' : ∀ j v, (rs.flatMap zrF)[j]? = some v → wr.cell? ⟨b, o + j, none⟩ = some v := fun j v hv => (hbr.cell (p := ⟨b, o + j, none⟩) hb).trans (HC.out j v hv)
      obtain ⟨y0, y1, y2, y3, y4, y5⟩ := zr_cells hc' k hlt
      have hbl : b < wr.heap.size := by omega
      have hf : ZRFit (rs.getD k zr0) := hfit.out _ (getD_mem zr0 rs k hlt)
      have hdef : Hid (ZROk rs k ↔ ZRNum (rs.getD k zr0).m (rs.getD k zr0).wk (rs.getD k zr0).wd (rs.getD k zr0).ms ∧ OffOk (rs.getD k zr0).o ∧ LabelOk (rs.getD k zr0).l ∧ (0 < k → (rs.getD (k - 1) zr0).m < (rs.getD k zr0).m)) := Iff.rfl
      have hprev : 0 < k → wr.cell? ⟨b, o + (k - 1) * 6, none⟩ = some (.int .i64 (rs.getD (k - 1) zr0).m) := fun h => (zr_cells hc' (k - 1) (by omega)).1
      obtain ⟨f1, f2, f3, f4, f5, f6, f7, f8, f9, f10, f11⟩ := hf
      generalize (rs.getD (k - 1) zr0).m = pm at *
      generalize (rs.getD k zr0).m = cm at *
      generalize (rs.getD k zr0).wk = ck at *
      generalize (rs.getD k zr0).wd = cd at *
      generalize (rs.getD k zr0).ms = cs at *
      generalize (rs.getD k zr0).o = co at *
      generalize (rs.getD k zr0).l = cl at *
      have HD : Hid (¬ (ZRNum cm ck cd cs ∧ OffOk co ∧ LabelOk cl ∧ (0 < k → pm < cm)) → ¬ ForeOk rs) := fun hn hz' => hn (hdef.out.1 (hz'.2 k hlt))
      have HP := Lib.hid hprev
      clear hc' hprev
      have e1 : decide (cm < 1) = decide (cm < 1) := rfl
      clear e1
      by_cases i1 : cm < 1
      · have e1 : decide (cm < 1) = true := decide_eq_true i1
        go_wp2_with fail
        go_ret
        exact IsChk.no (HD.out (fun h => by have := h.1.m0; omega)) (by omega) ((hBw.out).alloc (hBw.out).size _)
      have e1 : decide (cm < 1) = false := decide_eq_false i1
      by_cases i2 : 12 < cm
      · have e2 : decide (12 < cm) = true := decide_eq_true i2
        go_wp2_with fail
        go_ret
        exact IsChk.no (HD.out (fun h => by have := h.1.m1; omega)) (by omega) ((hBw.out).alloc (hBw.out).size _)
      have e2 : decide (12 < cm) = false := decide_eq_false i2
      by_cases i3 : ck < 1
      · have e3 : decide (ck < 1) = true := decide_eq_true i3
        go_wp2_with fail
        go_ret
        exact IsChk.no (HD.out (fun h => by have := h.1.k0; omega)) (by omega) ((hBw.out).alloc (hBw.out).size _)
      have e3 : decide (ck < 1) = false := decide_eq_false i3
      by_cases i4 : 5 < ck
      · have e4 : decide (5 < ck) = true := decide_eq_true i4
        go_wp2_with fail
        go_ret
        exact IsChk.no (HD.out (fun h => by have := h.1.k1; omega)) (by omega) ((hBw.out).alloc (hBw.out).size _)
      have e4 : decide (5 < ck) = false := decide_eq_false i4
      by_cases i5 : cd < 0
      · have e5 : decide (cd < 0) = true := decide_eq_true i5
        go_wp2_with fail
        go_ret
        exact IsChk.no (HD.out (fun h => by have := h.1.d0; omega)) (by omega) ((hBw.out).alloc (hBw.out).size _)
      have e5 : decide (cd < 0) = false := decide_eq_false i5
      by_cases i6 : 6 < cd
      · have e6 : decide (6 < cd) = true := decide_eq_true i6
        go_wp2_with fail
        go_ret
        exact IsChk.no (HD.out (fun h => by have := h.1.d1; omega)) (by omega) ((hBw.out).alloc (hBw.out).size _)
      have e6 : decide (6 < cd) = false := decide_eq_false i6
      by_cases i7 : cs < 0
      · have e7 : decide (cs < 0) = true := decide_eq_true i7
        go_wp2_with fail
        go_ret
        exact IsChk.no (HD.out (fun h => by have := h.1.s0; omega)) (by omega) ((hBw.out).alloc (hBw.out).size _)
      have e7 : decide (cs < 0) = false := decide_eq_false i7
      by_cases i8 : 86400000 ≤ cs
      · have e8 : decide (86400000 ≤ cs) = true := decide_eq_true i8
        go_wp2_with fail
        go_ret
        exact IsChk.no (HD.out (fun h => by have := h.1.s1; omega)) (by omega) ((hBw.out).alloc (hBw.out).size _)
      have e8 : decide (86400000 ≤ cs) = false := decide_eq_false i8
      have HN : Hid (ZRNum cm ck cd cs) := ⟨by omega, by omega, by omega, by omega, by omega, by omega, by omega, by omega⟩
      by_cases i9 : OffOk co
      case neg =>
        go_wp2_with ((go_at_call 92; refine (isOffset_any co _).mono ?_; rintro e w' ⟨q, rfl, hq, rfl⟩; obtain rfl : q = false := (by cases q <;> simp_all); clear hq))
        go_ret
        exact IsChk.no (HD.out (fun h => i9 h.2.1)) (by omega) ((hBw.out).alloc (hBw.out).size _)
      by_cases i10 : LabelOk cl
      case neg =>
        go_wp2_with (first
          | (go_at_call 92; refine (isOffset_any co _).mono ?_; rintro e w' ⟨q, rfl, hq, rfl⟩; obtain rfl : q = true := hq.2 i9; clear hq)
          | (go_at_call 93; refine (isLabel_any cl _ f11).mono ?_; rintro e w' ⟨q, rfl, hq, rfl⟩; obtain rfl : q = false := (by cases q <;> simp_all); clear hq))
        go_ret
        exact IsChk.no (HD.out (fun h => i10 h.2.2.1)) (by omega) ((hBw.out).alloc (hBw.out).size _)
      by_cases k0 : k = 0
      · subst k0
        have t0 : decide ((0 : Int) < 0) = false := by decide
        rw [Nat.zero_mul, Nat.add_zero] at y0 y1 y2 y3 y4 y5
        go_wp2_with (first
          | (go_at_call 92; refine (isOffset_any co _).mono ?_; rintro e w' ⟨q, rfl, hq, rfl⟩; obtain rfl : q = true := hq.2 i9; clear hq)
          | (go_at_call 93; refine (isLabel_any cl _ f11).mono ?_; rintro e w' ⟨q, rfl, hq, rfl⟩; obtain rfl : q = true := hq.2 i10; clear hq))
        go_quiet (fail)
        go_wp2_with fail
        go_roundw
        case rel =>
          refine ⟨0 + 1, by omega, rfl, fun j hj => ?_, (by first | exact below_drew (hbr.alloc hzr _) _ | exact below_drew (below_drew (hbr.alloc hzr _) _) _)⟩
          obtain rfl : j = 0 := by omega
          exact hdef.out.2 ⟨HN.out, i9, i10, fun h => by omega⟩
        case measure => simp [intOf]; omega
      · obtain ⟨m, rfl⟩ : ∃ m, k = m + 1 := ⟨k - 1, by omega⟩
        have hp := HP.out (by omega)
        rw [Nat.add_sub_cancel] at hp
        have t0 : decide ((0 : Int) < ((m + 1 : Nat) : Int)) = true := decide_eq_true (by omega)
        have t0' : decide ((0 : Int) < (m : Int) + 1) = true := decide_eq_true (by omega)
        have hw0 : IntKind.i64.wrap (m : Int) = (m : Int) := IntWalk.i64_in _ (by omega)
        have m0 : (0 : Int) ≤ (m : Int) := by omega
        have m1 : (m : Int) < (rs.length : Int) := by omega
        by_cases hle : cm ≤ pm
        · have t2 : decide (cm ≤ pm) = true := decide_eq_true hle
          go_wp2_with (first
          | (go_at_call 92; refine (isOffset_any co _).mono ?_; rintro e w' ⟨q, rfl, hq, rfl⟩; obtain rfl : q = true := hq.2 i9; clear hq)
          | (go_at_call 93; refine (isLabel_any cl _ f11).mono ?_; rintro e w' ⟨q, rfl, hq, rfl⟩; obtain rfl : q = true := hq.2 i10; clear hq))
          go_quiet (fail)
          go_wp2_with fail
          go_ret
          exact IsChk.no (HD.out (fun h => by have := h.2.2.2 (by omega); omega)) (by omega) (by first | exact (below_drew ((hBw.out).alloc (hBw.out).size _) _) | exact (below_drew (below_drew ((hBw.out).alloc (hBw.out).size _) _) _))
        · have t2 : decide (cm ≤ pm) = false := decide_eq_false hle
          go_wp2_with (first
          | (go_at_call 92; refine (isOffset_any co _).mono ?_; rintro e w' ⟨q, rfl, hq, rfl⟩; obtain rfl : q = true := hq.2 i9; clear hq)
          | (go_at_call 93; refine (isLabel_any cl _ f11).mono ?_; rintro e w' ⟨q, rfl, hq, rfl⟩; obtain rfl : q = true := hq.2 i10; clear hq))
          go_quiet (fail)
          go_wp2_with fail
          go_roundw
          case rel =>
            refine ⟨m + 1 + 1, by omega, by go_num, fun j hj => ?_, (by first | exact below_drew (hbr.alloc hzr _) _ | exact below_drew (below_drew (hbr.alloc hzr _) _) _)⟩
            by_cases hjk : j < m + 1
            · exact hall.out j hjk
            · obtain rfl : j = m + 1 := by omega
              exact hdef.out.2 ⟨HN.out, i9, i10, fun _ => by omega⟩
          case measure => simp [intOf]; omega
    · go_wp2_with fail
      go_ret
      exact IsChk.yes ⟨⟨by omega, by omega⟩, fun i hi => hall.out i (by omega)⟩ hBw.out
end Go.Proofs.YtlihhlijombepaaDoor
