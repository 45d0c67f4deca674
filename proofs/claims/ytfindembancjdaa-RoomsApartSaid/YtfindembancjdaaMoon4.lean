/- Contracts: frac.Check at every fraction, lunisolar.Check. -/
import Derived.Test.YtfindembancjdaaMoon3
namespace Go.Proofs.Ytfindembancjdaa
open Go.RowKit
set_option linter.unusedVariables false

theorem Errs.by_ {Q P : Prop} {w w' : World} {E : Int} (hE : E ≠ 0) (hP : Q → P) (hn : ¬ P) (hb : Below w.heap.size w w') : Errs Q w (.returned (.int .i64 E)) w' := Errs.no hE (fun h => hn (hP h)) hb

set_option maxHeartbeats 1000000 in
set_option maxRecDepth 100000 in
theorem fcheck_any (n d : Int) (w : World) : Calls Try.prog 45 #[.agg #[.int .i64 n, .int .i64 d]] w (Errs (FOk n d) w) := by
  by_cases h : FOk n d
  · exact (fcheck_yes n d w h).mono fun e w' ⟨he, hb⟩ => by subst he; exact Errs.ok h hb
  have HN := Lib.hid h
  clear h
  by_cases c1 : d < 1
  · have t1 : decide (d < 1) = true := decide_eq_true c1
    go_enter Try.func45, Try.ntmps45
    go_wp2_with fail
    go_ret
    exact Errs.no (by omega) HN.out (below_alloc1 _ _)
  have t1 : decide (d < 1) = false := decide_eq_false c1
  by_cases c2 : 2147483647 < d
  · have t2 : decide (2147483647 < d) = true := decide_eq_true c2
    go_enter Try.func45, Try.ntmps45
    go_wp2_with fail
    go_ret
    exact Errs.no (by omega) HN.out (below_alloc1 _ _)
  have t2 : decide (2147483647 < d) = false := decide_eq_false c2
  by_cases c3 : n < -2147483647
  · have t3 : decide (n < -2147483647) = true := decide_eq_true c3
    go_enter Try.func45, Try.ntmps45
    go_wp2_with fail
    go_ret
    exact Errs.no (by omega) HN.out (below_alloc1 _ _)
  have t3 : decide (n < -2147483647) = false := decide_eq_false c3
  by_cases c4 : 2147483647 < n
  · have t4 : decide (2147483647 < n) = true := decide_eq_true c4
    go_enter Try.func45, Try.ntmps45
    go_wp2_with fail
    go_ret
    exact Errs.no (by omega) HN.out (below_alloc1 _ _)
  have t4 : decide (2147483647 < n) = false := decide_eq_false c4
  have hg : Int.gcd n d ≠ 1 := fun e => HN.out ⟨by omega, by omega, by omega, by omega, e⟩
  have t5 : (((Int.gcd n d : Nat) : Int) != 1) = true := by rw [bne_iff_ne]; omega
  have HG := Lib.hid (fun w => gcd_any n d w (by omega) (by omega) (by omega) (by omega))
  generalize Int.gcd n d = G at *
  go_enter Try.func45, Try.ntmps45
  go_wp2_with (go_at_call 84; refine (HG.out _).mono ?_; rintro e w' ⟨rfl, k, rfl⟩)
  go_ret
  exact Errs.no (by omega) HN.out (below_drew (below_alloc1 _ _) _)

theorem is_asks (d : Int) (w : World) : Calls Try.prog 38 #[.int .i64 d] w (Asks (-4000000 ≤ d ∧ d ≤ 4000000) w) := by
  by_cases h : -4000000 ≤ d ∧ d ≤ 4000000
  · exact (is_yes d w h.1 h.2).mono fun e w' ⟨he, hw⟩ => by subst he; subst hw; exact Asks.yes h
  · exact (is_no d w (by omega)).mono fun e w' ⟨he, hw⟩ => by subst he; subst hw; exact Asks.no h

set_option maxHeartbeats 4000000 in
set_option maxRecDepth 100000 in
theorem mcheck_any (m : Mo) (w : World) (hm : MIn w m) (hf : MFit m) : Calls Try.prog 17 #[m.val] w (Errs (MOk m) w) := by
  have hm' := hm.next (below_alloc1 w (Obj.cells m.cells 36))
  have hB := below_alloc1 w (Obj.cells m.cells 36)
  have hx := Box.new w 36 m.cells
  have HX := Lib.hid hx
  have HM := Lib.hid hm'
  have HB := Lib.hid hB
  obtain ⟨f1, f2, f3⟩ := hf
  go_enter Try.func17, Try.ntmps17
  clear hx hm hm' hB
  go_wp2_with fail
  generalize w.alloc (Obj.cells m.cells 36) = W0 at *
  obtain ⟨g, hg⟩ : ∃ g, g = w.heap.size := ⟨_, rfl⟩
  rw [← hg] at HX
  rw [← hg]
  have HG := Lib.hid hg
  clear hg
  refine (isName_any m.nm _ f1).mono ?_
  rintro e w' ⟨q, rfl, hq, rfl⟩
  obtain ⟨x0, x1, x2, x3, x4, x5, x6, x7, x8, x9, x10⟩ := mcells HX.out
  cases q
  · have hn : Hid (¬ MOk m) := fun h => by have := hq.2 h.nm; cases this
    clear hq
    go_wp2_with fail
    go_ret
    exact Errs.no (by omega) hn.out HB.out
  have hnm : Hid (NameOk m.nm) := hq.1 rfl
  clear hq
  go_wp2_with fail
  refine (is_asks m.ep _).mono ?_
  rintro e w' ⟨q, rfl, hq, rfl⟩
  cases q
  · have hn : Hid (¬ MOk m) := fun h => by have := hq.2 ⟨h.e1, h.e2⟩; cases this
    clear hq
    go_wp2_with fail
    go_ret
    exact Errs.no (by omega) hn.out HB.out
  have hep := Lib.hid (hq.1 rfl)
  clear hq
  go_wp2_with fail
  have HFr : Hid (MOk m → FOk m.sn m.sd ∧ FOk m.mn m.md ∧ FOk m.ln m.ld) := fun h => ⟨h.f1, h.f2, h.f3⟩
  clear x0 x1 x2 x3 x4 x5 x6 x7 x8 x9 x10
  go_loopw [4, 21] (fun _ i wr => ∃ k : Nat, k ≤ 3 ∧ i = .int .i64 (k : Int) ∧ Hid ((0 < k → FOk m.sn m.sd) ∧ (1 < k → FOk m.mn m.md) ∧ (2 < k → FOk m.ln m.ld)) ∧ Hid (Below W0.heap.size W0 wr)) (fun _ i _ => 3 - (intOf i).toNat)
  case atStart => exact ⟨0, by omega, rfl, ⟨fun h => by omega, fun h => by omega, fun h => by omega⟩, Below.refl _ _⟩
  case round =>
    obtain ⟨k, hk, rfl, hall, hb⟩ := hrel
    by_cases hk3 : k < 3
    · obtain ⟨n, d, hidx, hyes, hno⟩ : ∃ n d : Int, (∀ w, (Instr.index 98 (.agg #[.int .i64 m.sn, .int .i64 m.sd, .int .i64 m.mn, .int .i64 m.md, .int .i64 m.ln, .int .i64 m.ld]) (.int .i64 (k : Int))).run Try.prog w = .ok (.agg #[.int .i64 n, .int .i64 d]) w) ∧
          Hid (FOk n d → (0 < k + 1 → FOk m.sn m.sd) ∧ (1 < k + 1 → FOk m.mn m.md) ∧ (2 < k + 1 → FOk m.ln m.ld)) ∧ Hid (¬ FOk n d → ¬ MOk m) := by
        rcases (show k = 0 ∨ k = 1 ∨ k = 2 by omega) with rfl | rfl | rfl
        · exact ⟨m.sn, m.sd, fun _ => by kernel_rfl, fun h => ⟨fun _ => h, fun h => by omega, fun h => by omega⟩, fun h h' => h (HFr.out h').1⟩
        · exact ⟨m.mn, m.md, fun _ => by kernel_rfl, fun h => ⟨fun _ => hall.out.1 (by omega), fun _ => h, fun h => by omega⟩, fun h h' => h (HFr.out h').2.1⟩
        · exact ⟨m.ln, m.ld, fun _ => by kernel_rfl, fun h => ⟨fun _ => hall.out.1 (by omega), fun _ => hall.out.2.1 (by omega), fun _ => h⟩, fun h h' => h (HFr.out h').2.2⟩
      have HI := Lib.hid hidx
      have k3 : (k : Int) < 3 := by omega
      go_wp2_with fail
      refine (fcheck_any n d _).mono ?_
      rintro e w' ⟨E, rfl, hE, hb'⟩
      by_cases hE0 : E = 0
      · subst hE0
        have hok := Lib.hid (hE.1 rfl)
        clear hE hidx
        go_wp2_with fail
        go_roundw
        case rel => exact ⟨k + 1, by omega, by go_num, hyes.out hok.out, below_next hb.out hb'⟩
        case measure => simp [intOf]; omega
      · have hn := Lib.hid (hno.out (fun h => hE0 (hE.2 h)))
        have t1 : (E != 0) = true := by rw [bne_iff_ne]; exact hE0
        clear hE hidx
        go_wp2_with fail
        go_ret
        exact Errs.no (by omega) hn.out (below_then HB.out (below_next hb.out hb'))
    · obtain rfl : k = 3 := by omega
      have hF := Lib.hid (show FOk m.sn m.sd ∧ FOk m.mn m.md ∧ FOk m.ln m.ld from ⟨hall.out.1 (by omega), hall.out.2.1 (by omega), hall.out.2.2 (by omega)⟩)
      clear hall
      have hx := HX.out.below hb.out
      replace HM := Lib.hid (HM.out.next hb.out)
      replace HB := Lib.hid (below_then HB.out hb.out)
      replace HX := Lib.hid hx
      clear hx hb HFr
      obtain ⟨x0, x1, x2, x3, x4, x5, x6, x7, x8, x9, x10⟩ := mcells HX.out
      obtain ⟨d1, d2, d3, d4, d5, d6⟩ : (1 ≤ m.sd ∧ m.sd ≤ 2147483647 ∧ 1 ≤ m.md ∧ m.md ≤ 2147483647 ∧ 1 ≤ m.ld ∧ m.ld ≤ 2147483647) := ⟨hF.out.1.1, hF.out.1.2.1, hF.out.2.1.1, hF.out.2.1.2.1, hF.out.2.2.1, hF.out.2.2.2.1⟩
      by_cases c1 : m.sn < 0
      · have t1 : decide (m.sn < 0) = true := decide_eq_true c1
        go_wp2_with fail
        go_ret
        exact Errs.by_ (Q := MOk m) (by omega) (·.s1) (by omega) HB.out
      have t1 : decide (m.sn < 0) = false := decide_eq_false c1
      by_cases c2 : m.sd ≤ m.sn
      · have t2 : decide (m.sd ≤ m.sn) = true := decide_eq_true c2
        go_wp2_with fail
        go_ret
        exact Errs.by_ (Q := MOk m) (by omega) (·.s2) (by omega) HB.out
      have t2 : decide (m.sd ≤ m.sn) = false := decide_eq_false c2
      by_cases c3 : m.mn < 29 * m.md
      · have t3 : decide (m.mn < 29 * m.md) = true := decide_eq_true c3
        go_wp2_with fail
        go_ret
        exact Errs.by_ (Q := MOk m) (by omega) (·.m1) (by omega) HB.out
      have t3 : decide (m.mn < 29 * m.md) = false := decide_eq_false c3
      by_cases c4 : 30 * m.md < m.mn
      · have t4 : decide (30 * m.md < m.mn) = true := decide_eq_true c4
        go_wp2_with fail
        go_ret
        exact Errs.by_ (Q := MOk m) (by omega) (·.m2) (by omega) HB.out
      have t4 : decide (30 * m.md < m.mn) = false := decide_eq_false c4
      by_cases c5 : m.ln ≤ 0
      · have t5 : decide (m.ln ≤ 0) = true := decide_eq_true c5
        go_wp2_with fail
        go_ret
        exact Errs.by_ (Q := MOk m) (by omega) (·.l1) (by omega) HB.out
      have t5 : decide (m.ln ≤ 0) = false := decide_eq_false c5
      by_cases c6 : m.ld < m.ln
      · have t6 : decide (m.ld < m.ln) = true := decide_eq_true c6
        go_wp2_with fail
        go_ret
        exact Errs.by_ (Q := MOk m) (by omega) (·.l2) (by omega) HB.out
      have t6 : decide (m.ld < m.ln) = false := decide_eq_false c6
      go_wp2_with fail
      refine (parts_any m _ d1 d2 d3 d4 d5 d6).mono ?_
      rintro e w2 ⟨rfl, hb2⟩
      replace HM := Lib.hid (HM.out.next hb2)
      replace HB := Lib.hid (below_then HB.out hb2)
      replace HX := Lib.hid (HX.out.below hb2)
      clear hb2 x0 x1 x2 x3 x4 x5 x6 x7 x8 x9 x10 t1 t2 t3 t4 t5 t6
      have PT := Lib.hid (show MOk m → m.parts ≠ 0 from (·.pt))
      by_cases c7 : m.parts = 0
      · have t7 : (m.parts == 0) = true := by simpa using c7
        go_wp2_with fail
        go_ret
        exact Errs.by_ (by omega) PT.out (fun h => h c7) HB.out
      have t7 : (m.parts == 0) = false := by simpa using c7
      obtain ⟨x0, x1, x2, x3, x4, x5, x6, x7, x8, x9, x10⟩ := mcells HX.out
      by_cases c8 : m.cy < 1
      · have t8 : decide (m.cy < 1) = true := decide_eq_true c8
        go_wp2_with fail
        go_ret
        exact Errs.by_ (Q := MOk m) (by omega) (·.c1) (by omega) HB.out
      have t8 : decide (m.cy < 1) = false := decide_eq_false c8
      by_cases c9 : 100 < m.cy
      · have t9 : decide (100 < m.cy) = true := decide_eq_true c9
        go_wp2_with fail
        go_ret
        exact Errs.by_ (Q := MOk m) (by omega) (·.c2) (by omega) HB.out
      have t9 : decide (100 < m.cy) = false := decide_eq_false c9
      go_wp2_with fail
      refine (increasing_any m.A1 m.c1 m.lp 1 m.cy _ HM.out.1 f2).mono ?_
      rintro e w3 ⟨E, rfl, hE, hb3⟩
      replace HM := Lib.hid (HM.out.next hb3)
      replace HB := Lib.hid (below_then HB.out hb3)
      replace HX := Lib.hid (HX.out.below hb3)
      clear hb3 x0 x1 x2 x3 x4 x5 x6 x7 x8 x9 x10 t7 t8 t9
      by_cases hE0 : E = 0
      · subst hE0
        have hL := Lib.hid (hE.1 rfl)
        clear hE
        obtain ⟨x0, x1, x2, x3, x4, x5, x6, x7, x8, x9, x10⟩ := mcells HX.out
        by_cases c10 : 3 < m.av.length
        · have t10 : decide (3 < m.av.length) = true := decide_eq_true c10
          have t11 : decide ((3 : Int) < (m.av.length : Int)) = true := decide_eq_true (by omega)
          go_wp2_with fail
          go_ret
          exact Errs.by_ (Q := MOk m) (by omega) (·.al) (by omega) HB.out
        have t10 : decide (3 < m.av.length) = false := decide_eq_false c10
        have t11 : decide ((3 : Int) < (m.av.length : Int)) = false := decide_eq_false (by omega)
        go_wp2_with fail
        refine (increasing_any m.A2 m.c2 m.av 0 6 _ HM.out.2 f3).mono ?_
        rintro e w4 ⟨E, rfl, hE, hb4⟩
        have HE := Lib.hid hE
        clear hE
        go_wp2_with fail
        go_ret
        refine ⟨E, rfl, ⟨fun h0 => ?_, fun h => HE.out.2 h.av⟩, below_then HB.out hb4⟩
        exact ⟨hnm.out, hep.out.1, hep.out.2, hF.out.1, hF.out.2.1, hF.out.2.2, by omega, by omega, by omega, by omega, by omega, by omega, c7, by omega, by omega, hL.out, by omega, HE.out.1 h0⟩
      · have t1 : (E != 0) = true := by rw [bne_iff_ne]; exact hE0
        have HE := Lib.hid hE
        clear hE
        go_wp2_with fail
        go_ret
        exact Errs.by_ hE0 (·.lp) (fun h => hE0 (HE.out.2 h)) HB.out
end Go.Proofs.Ytfindembancjdaa
