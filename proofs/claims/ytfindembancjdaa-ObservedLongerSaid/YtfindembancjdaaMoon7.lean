/- Contract of lunisolar.FromDay. -/
import Derived.Test.YtfindembancjdaaMoon6
namespace Go.Proofs.Ytfindembancjdaa
open Go.RowKit
set_option linter.unusedVariables false

/-- the days that FromDay has dates for -/
def MDay (m : Mo) (day : Int) : Prop := MOk m ∧ IsD day ∧ m.beg (-9999) 1 ≤ day ∧ day < m.beg 10000 1
/-- what FromDay says -/
def IsMD (m : Mo) (day : Int) (w : World) (e : Ending) (w' : World) : Prop :=
  Below w.heap.size w w' ∧ ((∃ y k : Int, MOk m ∧ -10000 < y ∧ y < 10000 ∧ 1 ≤ k ∧ k ≤ m.mon y ∧ m.beg y k ≤ day ∧ day < m.beg y (k + 1) ∧ e = .returned (.tuple #[.agg #[.int .i64 y, .int .i64 k, .int .i64 (day - m.beg y k + 1)], .int .i64 0])) ∨
    (∃ E : Int, E ≠ 0 ∧ ¬ MDay m day ∧ e = .returned (.tuple #[.agg #[.int .i64 0, .int .i64 0, .int .i64 0], .int .i64 E])))

set_option maxHeartbeats 4000000 in
set_option maxRecDepth 100000 in
theorem FromDay_any (m : Mo) (day : Int) (w : World) (hm : MIn w m) (hf : MFit m) (hi1 : -9223372036854775808 ≤ day) (hi2 : day ≤ 9223372036854775807) :
    Calls Try.prog 20 #[m.val, .int .i64 day] w (IsMD m day w) := by
  have hW : ((w.alloc (Obj.cells m.cells 36)).alloc (Obj.cells #[.int .i64 day] 3)).heap.size = w.heap.size + 2 := by simp
  have hW' : (w.alloc (Obj.cells m.cells 36)).heap.size = w.heap.size + 1 := by simp
  have hm1 := ((hm.next (below_alloc1 w (Obj.cells m.cells 36))).next (below_alloc1 _ (Obj.cells #[.int .i64 day] 3))).next (below_alloc1 _ (Obj.cells #[.int .i64 0, .int .i64 0, .int .i64 0] 44))
  have hB1 := below_alloc3 w (Obj.cells m.cells 36) (Obj.cells #[.int .i64 day] 3) (Obj.cells #[.int .i64 0, .int .i64 0, .int .i64 0] 44)
  have hx1 := ((Box.new w 36 m.cells).alloc (Obj.cells #[.int .i64 day] 3)).alloc (Obj.cells #[.int .i64 0, .int .i64 0, .int .i64 0] 44)
  have hd1 := (Box.new (w.alloc (Obj.cells m.cells 36)) 3 #[.int .i64 day]).alloc (Obj.cells #[.int .i64 0, .int .i64 0, .int .i64 0] 44)
  have hr1 := Box.new ((w.alloc (Obj.cells m.cells 36)).alloc (Obj.cells #[.int .i64 day] 3)) 44 #[.int .i64 0, .int .i64 0, .int .i64 0]
  rw [hW'] at hd1
  rw [hW] at hr1
  clear hW hW'
  go_enter Try.func20, Try.ntmps20
  go_wp2_with fail
  generalize ((w.alloc (Obj.cells m.cells 36)).alloc (Obj.cells #[.int .i64 day] 3)).alloc (Obj.cells #[.int .i64 0, .int .i64 0, .int .i64 0] 44) = W0 at *
  obtain ⟨g, hg⟩ : ∃ g, g = w.heap.size := ⟨_, rfl⟩
  rw [← hg] at hx1 hd1 hr1
  rw [← hg]
  have hg2 : w.heap.size ≤ g + 1 + 1 := by omega
  clear hg
  refine (mcheck_any m _ hm1 hf).mono ?_
  rintro e W1 ⟨E, rfl, hE, hb⟩
  have HE := Lib.hid hE
  clear hE
  replace hm1 := hm1.next hb
  replace hB1 := Lib.hid (below_then hB1 hb)
  replace hx1 := hx1.below hb
  replace hd1 := hd1.below hb
  replace hr1 := hr1.below hb
  have HM0 := Lib.hid hm
  clear hb hm
  have y0 : W1.cell? ⟨g + 1, 0, none⟩ = some (.int .i64 day) := hd1.cell 0
  have r0 : W1.cell? ⟨g + 2, 0, none⟩ = some (.int .i64 0) := hr1.cell 0
  have r1 : W1.cell? ⟨g + 2, 1, none⟩ = some (.int .i64 0) := hr1.cell 1
  have r2 : W1.cell? ⟨g + 2, 2, none⟩ = some (.int .i64 0) := hr1.cell 2
  have rf : ∀ i, W1.frozen? ⟨g + 2, i, none⟩ = false := fun i => hr1.free i
  by_cases hE0 : E = 0
  case neg =>
    have t1 : (E != 0) = true := by rw [bne_iff_ne]; exact hE0
    go_wp2_with fail
    refine bodyPost_ret (v := .tuple #[.agg #[.int .i64 0, .int .i64 0, .int .i64 0], .int .i64 E]) (by simp [results, Try.results20, go_sem, r0, r1, r2]) rfl ?_
    exact ⟨((hB1.out.setCell hg2 _).setCell hg2 _).setCell hg2 _, .inr ⟨E, hE0, fun h => hE0 (HE.out.2 h.1), rfl⟩⟩
  subst hE0
  have OK := Lib.hid (HE.out.1 rfl)
  clear HE
  go_wp2_with fail
  refine (is_asks day _).mono ?_
  rintro e w' ⟨q, rfl, hq, rfl⟩
  cases q
  · have hn : Hid (¬ IsD day) := fun h => by have := hq.2 h; cases this
    clear hq
    go_wp2_with fail
    refine bodyPost_ret (v := .tuple #[.agg #[.int .i64 0, .int .i64 0, .int .i64 0], .int .i64 3]) (by simp [results, Try.results20, go_sem, r0, r1, r2]) rfl ?_
    exact ⟨((hB1.out.setCell hg2 _).setCell hg2 _).setCell hg2 _, .inr ⟨3, by omega, fun h => hn.out h.2.1, rfl⟩⟩
  have hD : IsD day := hq.1 rfl
  have HDy := Lib.hid hD
  obtain ⟨dd1, dd2⟩ := hD
  clear hq y0 r0 r1 r2 rf
  go_wp2_with fail
  replace hm1 := hm1.next (below_alloc1 W1 (Obj.cells #[.int .i64 (-10000)] 3))
  replace hB1 := Lib.hid (below_then hB1.out (below_alloc1 W1 (Obj.cells #[.int .i64 (-10000)] 3)))
  replace hx1 := hx1.alloc (Obj.cells #[.int .i64 (-10000)] 3)
  replace hd1 := hd1.alloc (Obj.cells #[.int .i64 (-10000)] 3)
  replace hr1 := hr1.alloc (Obj.cells #[.int .i64 (-10000)] 3)
  have hl1 := Box.new W1 3 #[.int .i64 (-10000)]
  generalize W1.alloc (Obj.cells #[.int .i64 (-10000)] 3) = W2 at *
  generalize W1.heap.size = gl at *
  have HSe : Hid (∀ W, (Below W2.heap.size W2 W ∧ W.cell? ⟨gl, 0, none⟩ = some (.int .i64 (-10000))) → Calls Try.prog 50 #[.int .i64 20002, .func (.func 51) #[] #[.pointer (some ⟨g, 0, none⟩), .pointer (some ⟨gl, 0, none⟩), .pointer (some ⟨g + 1, 0, none⟩)]] W
      (IsFirst 20002 (fun i => decide (day < m.beg (-10000 + (i : Int)) 1)) (fun W => Below W2.heap.size W2 W ∧ W.cell? ⟨gl, 0, none⟩ = some (.int .i64 (-10000))))) := fun W hW => by
    refine search_any 51 _ 20002 (fun i => decide (day < m.beg (-10000 + (i : Int)) 1)) _ W hW (by omega) (fun _ _ => rfl) (fun W' i hW' hi => ?_) (fun a b hab hb h => ?_)
    · refine (FromDay_one m g gl (g + 1) (-10000) day i W' (hx1.below hW'.1) (hl1.below hW'.1) (hd1.below hW'.1) (hm1.next hW'.1) OK.out (by omega) (by omega)).mono fun e w' ⟨he, hb⟩ => ⟨he, below_then hW'.1 hb, ?_⟩
      exact ((hl1.below hW'.1).below hb).cell 0
    · have h' : day < m.beg (-10000 + (a : Int)) 1 := of_decide_eq_true h
      have := OK.out.yearLt (-10000 + (a : Int)) (-10000 + (b : Int)) (by omega)
      exact decide_eq_true (by omega)
  have hS0 : Below W2.heap.size W2 W2.drew ∧ W2.drew.cell? ⟨gl, 0, none⟩ = some (.int .i64 (-10000)) := ⟨below_drew (Below.refl _ _) 1, hl1.cell 0⟩
  have HX := Lib.hid hx1
  have HDb := Lib.hid hd1
  have HR := Lib.hid hr1
  have HM := Lib.hid hm1
  clear hx1 hd1 hr1 hm1 hl1
  go_region_held3 (fun W => Below W2.heap.size W2 W ∧ W.cell? ⟨gl, 0, none⟩ = some (.int .i64 (-10000))) (assumption)
    (first | (go_at_call 50; ((with_reducible refine (HSe.out _ (by assumption)).mono ?_)); rintro e w2 ⟨k0, rfl, hk0, hp1, hp2, hs'⟩; have HP1 := Lib.hid hp1; have HP2 := Lib.hid hp2; clear hp1 hp2; have e5 : IntKind.i64.wrap (-10000 + (k0 : Int)) = -10000 + (k0 : Int) := intFits _ (by omega) (by omega); have e6 : IntKind.i64.wrap (-10000 + (k0 : Int) - 1) = -10000 + (k0 : Int) - 1 := intFits _ (by omega) (by omega)))
  clear hS0 HSe e5 e6
  have hb2 := hs'.1
  replace HX := Lib.hid (HX.out.below hb2)
  replace HDb := Lib.hid (HDb.out.below hb2)
  replace HR := Lib.hid (HR.out.below hb2)
  replace HM := Lib.hid (HM.out.next hb2)
  replace hB1 := Lib.hid (below_then hB1.out hb2)
  clear hb2 hs'
  have low : Hid (k0 ≤ 1 → day < m.beg (-9999) 1) := fun h => by
    have := of_decide_eq_true (HP2.out 1 h (by omega))
    rw [show (-10000 : Int) + ((1 : Nat) : Int) = -9999 from by omega] at this
    exact this
  have high : Hid (20001 ≤ k0 → m.beg 10000 1 ≤ day) := fun h => by
    have := of_decide_eq_false (HP1.out 20000 (by omega))
    rw [show (-10000 : Int) + ((20000 : Nat) : Int) = 10000 from by omega] at this
    omega
  have here1 : Hid (2 ≤ k0 → m.beg (-10000 + (k0 : Int) - 1) 1 ≤ day) := fun h => by
    have := of_decide_eq_false (HP1.out (k0 - 1) (by omega))
    rw [show (-10000 : Int) + ((k0 - 1 : Nat) : Int) = -10000 + (k0 : Int) - 1 from by omega] at this
    omega
  have here2 : Hid (k0 < 20002 → day < m.beg (-10000 + (k0 : Int) - 1 + 1) 1) := fun h => by
    have := of_decide_eq_true (HP2.out k0 (by omega) h)
    rw [show (-10000 : Int) + (k0 : Int) = -10000 + (k0 : Int) - 1 + 1 from by omega] at this
    exact this
  clear HP1 HP2
  obtain ⟨y, hy⟩ : ∃ y : Int, y = -10000 + (k0 : Int) - 1 := ⟨_, rfl⟩
  rw [← hy] at here1 here2
  rw [← hy]
  have y0 : w2.cell? ⟨g + 1, 0, none⟩ = some (.int .i64 day) := HDb.out.cell 0
  have r0 : w2.cell? ⟨g + 1 + 1, 0, none⟩ = some (.int .i64 0) := HR.out.cell 0
  have r1 : w2.cell? ⟨g + 1 + 1, 1, none⟩ = some (.int .i64 0) := HR.out.cell 1
  have r2 : w2.cell? ⟨g + 1 + 1, 2, none⟩ = some (.int .i64 0) := HR.out.cell 2
  have rf : ∀ i, w2.frozen? ⟨g + 1 + 1, i, none⟩ = false := fun i => HR.out.free i
  by_cases c1 : y ≤ -10000
  · have hlo := Lib.hid (low.out (by omega))
    have t1 : decide (y ≤ -10000) = true := decide_eq_true c1
    clear hy
    go_wp2_with fail
    refine bodyPost_ret (v := .tuple #[.agg #[.int .i64 0, .int .i64 0, .int .i64 0], .int .i64 3]) (by simp [results, Try.results20, go_sem, r0, r1, r2]) rfl ?_
    exact ⟨((hB1.out.setCell hg2 _).setCell hg2 _).setCell hg2 _, .inr ⟨3, by omega, fun h => by have := h.2.2.1; have := hlo.out; omega, rfl⟩⟩
  have t1 : decide (y ≤ -10000) = false := decide_eq_false c1
  by_cases c2 : 10000 ≤ y
  · have hlo := Lib.hid (high.out (by omega))
    have t2 : decide (10000 ≤ y) = true := decide_eq_true c2
    clear hy
    go_wp2_with fail
    refine bodyPost_ret (v := .tuple #[.agg #[.int .i64 0, .int .i64 0, .int .i64 0], .int .i64 3]) (by simp [results, Try.results20, go_sem, r0, r1, r2]) rfl ?_
    exact ⟨((hB1.out.setCell hg2 _).setCell hg2 _).setCell hg2 _, .inr ⟨3, by omega, fun h => by have := h.2.2.2; have := hlo.out; omega, rfl⟩⟩
  have t2 : decide (10000 ≤ y) = false := decide_eq_false c2
  have in1 := Lib.hid (here1.out (by omega))
  have in2 := Lib.hid (here2.out (by omega))
  clear low high here1 here2 hy hk0 r0 r1 r2 rf
  obtain ⟨x0, x1, x2, x3, x4, x5, x6, x7, x8, x9, x10⟩ := mcells HX.out
  go_wp2_with fail
  refine (months_any m y _ HM.out OK.out.c1 OK.out.c2 OK.out.lp (by omega) (by omega)).mono ?_
  rintro e W3 ⟨rfl, hb2⟩
  clear x0 x1 x2 x3 x4 x5 x6 x7 x8 x9 x10 y0 t1 t2
  replace HX := Lib.hid (HX.out.below hb2)
  replace HDb := Lib.hid (HDb.out.below hb2)
  replace HR := Lib.hid (HR.out.below hb2)
  replace HM := Lib.hid (HM.out.next hb2)
  replace hB1 := Lib.hid (below_then hB1.out hb2)
  clear hb2
  have hmo := OK.out.mon y
  have HL : Hid (m.beg y (m.mon y + 1) = m.beg (y + 1) 1) := OK.out.last y
  go_wp2_with fail
  go_loopw [9] (fun s wr => ∃ k : Int, 1 ≤ k ∧ k ≤ m.mon y ∧ s = .int .i64 k ∧ Hid (day < m.beg y (k + 1)) ∧ Hid (Below W3.heap.size W3 wr)) (fun s _ => (intOf s).toNat)
  case atStart => exact ⟨m.mon y, by omega, by omega, rfl, by show day < _; rw [HL.out]; exact in2.out, Below.refl _ _⟩
  case round =>
    obtain ⟨k, hk1, hk2, rfl, hkd, hb3⟩ := hrel
    have HX3 := Lib.hid (HX.out.below hb3.out)
    have HDb3 := Lib.hid (HDb.out.below hb3.out)
    have HR3 := Lib.hid (HR.out.below hb3.out)
    have HM3 := Lib.hid (HM.out.next hb3.out)
    have hB3 := Lib.hid (below_then hB1.out hb3.out)
    have HC : ∀ W, (Below wr.heap.size wr W ∧ W.cell? ⟨g + 1, 0, none⟩ = some (.int .i64 day) ∧ W.cell? ⟨g, 0, none⟩ = some (.string m.nm) ∧ W.cell? ⟨g, 1, none⟩ = some (.int .i64 m.ep) ∧ W.cell? ⟨g, 2, none⟩ = some (.int .i64 m.sn) ∧ W.cell? ⟨g, 3, none⟩ = some (.int .i64 m.sd) ∧ W.cell? ⟨g, 4, none⟩ = some (.int .i64 m.mn) ∧ W.cell? ⟨g, 5, none⟩ = some (.int .i64 m.md) ∧ W.cell? ⟨g, 6, none⟩ = some (.int .i64 m.ln) ∧ W.cell? ⟨g, 7, none⟩ = some (.int .i64 m.ld) ∧ W.cell? ⟨g, 8, none⟩ = some (.int .i64 m.cy) ∧ W.cell? ⟨g, 9, none⟩ = some (.slice m.A1 m.lp.length m.c1) ∧ W.cell? ⟨g, 10, none⟩ = some (.slice m.A2 m.av.length m.c2)) → Calls Try.prog 43 #[m.val, .int .i64 y, .int .i64 k] W fun e w' => e = .returned (.int .i64 (m.beg y k)) ∧ (Below wr.heap.size wr w' ∧ w'.cell? ⟨g + 1, 0, none⟩ = some (.int .i64 day) ∧ w'.cell? ⟨g, 0, none⟩ = some (.string m.nm) ∧ w'.cell? ⟨g, 1, none⟩ = some (.int .i64 m.ep) ∧ w'.cell? ⟨g, 2, none⟩ = some (.int .i64 m.sn) ∧ w'.cell? ⟨g, 3, none⟩ = some (.int .i64 m.sd) ∧ w'.cell? ⟨g, 4, none⟩ = some (.int .i64 m.mn) ∧ w'.cell? ⟨g, 5, none⟩ = some (.int .i64 m.md) ∧ w'.cell? ⟨g, 6, none⟩ = some (.int .i64 m.ln) ∧ w'.cell? ⟨g, 7, none⟩ = some (.int .i64 m.ld) ∧ w'.cell? ⟨g, 8, none⟩ = some (.int .i64 m.cy) ∧ w'.cell? ⟨g, 9, none⟩ = some (.slice m.A1 m.lp.length m.c1) ∧ w'.cell? ⟨g, 10, none⟩ = some (.slice m.A2 m.av.length m.c2)) :=
      calls_S (W0 := wr) (fun w' hb => ⟨hb, (HDb3.out.below hb).cell 0, mcells (HX3.out.below hb)⟩) (fun w' h => h.1) (fun W hb => begin_any m y k W (HM3.out.next hb) OK.out (by omega) (by omega) hk1 (by omega))
    have HC' := Lib.hid HC
    have hS0 : Below wr.heap.size wr wr.drew ∧ wr.drew.cell? ⟨g + 1, 0, none⟩ = some (.int .i64 day) ∧ wr.drew.cell? ⟨g, 0, none⟩ = some (.string m.nm) ∧ wr.drew.cell? ⟨g, 1, none⟩ = some (.int .i64 m.ep) ∧ wr.drew.cell? ⟨g, 2, none⟩ = some (.int .i64 m.sn) ∧ wr.drew.cell? ⟨g, 3, none⟩ = some (.int .i64 m.sd) ∧ wr.drew.cell? ⟨g, 4, none⟩ = some (.int .i64 m.mn) ∧ wr.drew.cell? ⟨g, 5, none⟩ = some (.int .i64 m.md) ∧ wr.drew.cell? ⟨g, 6, none⟩ = some (.int .i64 m.ln) ∧ wr.drew.cell? ⟨g, 7, none⟩ = some (.int .i64 m.ld) ∧ wr.drew.cell? ⟨g, 8, none⟩ = some (.int .i64 m.cy) ∧ wr.drew.cell? ⟨g, 9, none⟩ = some (.slice m.A1 m.lp.length m.c1) ∧ wr.drew.cell? ⟨g, 10, none⟩ = some (.slice m.A2 m.av.length m.c2) := ⟨below_drew (Below.refl _ _) 1, HDb3.out.cell 0, mcells HX3.out⟩
    clear HC
    by_cases hc : day < m.beg y k
    · have hk1' : 1 < k := by
        rcases Int.lt_or_le 1 k with h | h
        · exact h
        · have e : k = 1 := by omega
          have := in1.out
          rw [e] at hc
          omega
      have t1 : decide (day < m.beg y k) = true := decide_eq_true hc
      have hnew : Hid (day < m.beg y (k - 1 + 1)) := by rw [show k - 1 + 1 = k from by omega]; exact hc
      clear hc
      go_wp2_with fail
      go_region_held3 (fun W => Below wr.heap.size wr W ∧ W.cell? ⟨g + 1, 0, none⟩ = some (.int .i64 day) ∧ W.cell? ⟨g, 0, none⟩ = some (.string m.nm) ∧ W.cell? ⟨g, 1, none⟩ = some (.int .i64 m.ep) ∧ W.cell? ⟨g, 2, none⟩ = some (.int .i64 m.sn) ∧ W.cell? ⟨g, 3, none⟩ = some (.int .i64 m.sd) ∧ W.cell? ⟨g, 4, none⟩ = some (.int .i64 m.mn) ∧ W.cell? ⟨g, 5, none⟩ = some (.int .i64 m.md) ∧ W.cell? ⟨g, 6, none⟩ = some (.int .i64 m.ln) ∧ W.cell? ⟨g, 7, none⟩ = some (.int .i64 m.ld) ∧ W.cell? ⟨g, 8, none⟩ = some (.int .i64 m.cy) ∧ W.cell? ⟨g, 9, none⟩ = some (.slice m.A1 m.lp.length m.c1) ∧ W.cell? ⟨g, 10, none⟩ = some (.slice m.A2 m.av.length m.c2)) (assumption)
        (first | (go_at_call 43; ((with_reducible refine (HC'.out _ (by assumption)).mono ?_)); rintro e w4 ⟨rfl, hs'⟩))
      all_goals
        have hb5 := Lib.hid (below_then hb3.out hs'.1)
        clear hs' hS0
        go_wp2_with fail
        go_roundw
        case rel => exact ⟨k - 1, by omega, by omega, rfl, hnew, hb5⟩
        case measure => simp [intOf]; omega
    · have hc' := Lib.hid (show m.beg y k ≤ day by omega)
      have t1 : decide (day < m.beg y k) = false := decide_eq_false hc
      clear hc
      go_wp2_with fail
      go_region_held3 (fun W => Below wr.heap.size wr W ∧ W.cell? ⟨g + 1, 0, none⟩ = some (.int .i64 day) ∧ W.cell? ⟨g, 0, none⟩ = some (.string m.nm) ∧ W.cell? ⟨g, 1, none⟩ = some (.int .i64 m.ep) ∧ W.cell? ⟨g, 2, none⟩ = some (.int .i64 m.sn) ∧ W.cell? ⟨g, 3, none⟩ = some (.int .i64 m.sd) ∧ W.cell? ⟨g, 4, none⟩ = some (.int .i64 m.mn) ∧ W.cell? ⟨g, 5, none⟩ = some (.int .i64 m.md) ∧ W.cell? ⟨g, 6, none⟩ = some (.int .i64 m.ln) ∧ W.cell? ⟨g, 7, none⟩ = some (.int .i64 m.ld) ∧ W.cell? ⟨g, 8, none⟩ = some (.int .i64 m.cy) ∧ W.cell? ⟨g, 9, none⟩ = some (.slice m.A1 m.lp.length m.c1) ∧ W.cell? ⟨g, 10, none⟩ = some (.slice m.A2 m.av.length m.c2)) (assumption)
        (first | (go_at_call 43; ((with_reducible refine (HC'.out _ (by assumption)).mono ?_)); rintro e w4 ⟨rfl, hs'⟩))
      have hb4 := hs'.1
      have HX4 := Lib.hid (HX3.out.below hb4)
      have HDb4 := Lib.hid (HDb3.out.below hb4)
      have HR4 := Lib.hid (HR3.out.below hb4)
      have HM4 := Lib.hid (HM3.out.next hb4)
      have hB4 := Lib.hid (below_then hB3.out hb4)
      clear hb4 hs' hS0 HC' t1
      go_wp2_with fail
      have HC5 : Hid (Calls Try.prog 43 #[m.val, .int .i64 y, .int .i64 k] w4.drew fun e w' => e = .returned (.int .i64 (m.beg y k)) ∧ Box w' g 36 m.cells ∧ Box w' (g + 1) 3 #[.int .i64 day] ∧ Box w' (g + 1 + 1) 44 #[.int .i64 0, .int .i64 0, .int .i64 0] ∧ Below w.heap.size w w') :=
        (begin_any m y k w4.drew (show MIn w4 m from HM4.out) OK.out (by omega) (by omega) hk1 (by omega)).mono fun e w' ⟨he, hb⟩ =>
          ⟨he, Box.below (w := w4.drew) HX4.out hb, Box.below (w := w4.drew) HDb4.out hb, Box.below (w := w4.drew) HR4.out hb, below_then (below_drew hB4.out 1) hb⟩
      have HK : Hid (∀ w' v0 v1 v2, Box w' g 36 m.cells → Box w' (g + 1) 3 #[.int .i64 day] → (((w'.setCell ⟨g + 1 + 1, 0, none⟩ v0).setCell ⟨g + 1 + 1, 1, none⟩ v1).setCell ⟨g + 1 + 1, 2, none⟩ v2).cell? ⟨g + 1, 0, none⟩ = some (.int .i64 day) ∧ (((w'.setCell ⟨g+1+1,0,none⟩ v0).setCell ⟨g+1+1,1,none⟩ v1).setCell ⟨g+1+1,2,none⟩ v2).cell? ⟨g, 0, none⟩ = some (.string m.nm) ∧ (((w'.setCell ⟨g+1+1,0,none⟩ v0).setCell ⟨g+1+1,1,none⟩ v1).setCell ⟨g+1+1,2,none⟩ v2).cell? ⟨g, 1, none⟩ = some (.int .i64 m.ep) ∧ (((w'.setCell ⟨g+1+1,0,none⟩ v0).setCell ⟨g+1+1,1,none⟩ v1).setCell ⟨g+1+1,2,none⟩ v2).cell? ⟨g, 2, none⟩ = some (.int .i64 m.sn) ∧ (((w'.setCell ⟨g+1+1,0,none⟩ v0).setCell ⟨g+1+1,1,none⟩ v1).setCell ⟨g+1+1,2,none⟩ v2).cell? ⟨g, 3, none⟩ = some (.int .i64 m.sd) ∧ (((w'.setCell ⟨g+1+1,0,none⟩ v0).setCell ⟨g+1+1,1,none⟩ v1).setCell ⟨g+1+1,2,none⟩ v2).cell? ⟨g, 4, none⟩ = some (.int .i64 m.mn) ∧ (((w'.setCell ⟨g+1+1,0,none⟩ v0).setCell ⟨g+1+1,1,none⟩ v1).setCell ⟨g+1+1,2,none⟩ v2).cell? ⟨g, 5, none⟩ = some (.int .i64 m.md) ∧ (((w'.setCell ⟨g+1+1,0,none⟩ v0).setCell ⟨g+1+1,1,none⟩ v1).setCell ⟨g+1+1,2,none⟩ v2).cell? ⟨g, 6, none⟩ = some (.int .i64 m.ln) ∧ (((w'.setCell ⟨g+1+1,0,none⟩ v0).setCell ⟨g+1+1,1,none⟩ v1).setCell ⟨g+1+1,2,none⟩ v2).cell? ⟨g, 7, none⟩ = some (.int .i64 m.ld) ∧ (((w'.setCell ⟨g+1+1,0,none⟩ v0).setCell ⟨g+1+1,1,none⟩ v1).setCell ⟨g+1+1,2,none⟩ v2).cell? ⟨g, 8, none⟩ = some (.int .i64 m.cy) ∧ (((w'.setCell ⟨g+1+1,0,none⟩ v0).setCell ⟨g+1+1,1,none⟩ v1).setCell ⟨g+1+1,2,none⟩ v2).cell? ⟨g, 9, none⟩ = some (.slice m.A1 m.lp.length m.c1) ∧ (((w'.setCell ⟨g+1+1,0,none⟩ v0).setCell ⟨g+1+1,1,none⟩ v1).setCell ⟨g+1+1,2,none⟩ v2).cell? ⟨g, 10, none⟩ = some (.slice m.A2 m.av.length m.c2)) := fun w' v0 v1 v2 h1 h2 =>
        ⟨(((h2.far (p := ⟨g + 1 + 1, 0, none⟩) (show g + 1 ≠ g + 1 + 1 by omega) v0).far (p := ⟨g + 1 + 1, 1, none⟩) (show g + 1 ≠ g + 1 + 1 by omega) v1).far (p := ⟨g + 1 + 1, 2, none⟩) (show g + 1 ≠ g + 1 + 1 by omega) v2).cell 0,
         mcells (((h1.far (p := ⟨g + 1 + 1, 0, none⟩) (show g ≠ g + 1 + 1 by omega) v0).far (p := ⟨g + 1 + 1, 1, none⟩) (show g ≠ g + 1 + 1 by omega) v1).far (p := ⟨g + 1 + 1, 2, none⟩) (show g ≠ g + 1 + 1 by omega) v2)⟩
      have hS0 : w4.drew.cell? ⟨g + 1, 0, none⟩ = some (.int .i64 day) ∧ w4.drew.cell? ⟨g, 0, none⟩ = some (.string m.nm) ∧ w4.drew.cell? ⟨g, 1, none⟩ = some (.int .i64 m.ep) ∧ w4.drew.cell? ⟨g, 2, none⟩ = some (.int .i64 m.sn) ∧ w4.drew.cell? ⟨g, 3, none⟩ = some (.int .i64 m.sd) ∧ w4.drew.cell? ⟨g, 4, none⟩ = some (.int .i64 m.mn) ∧ w4.drew.cell? ⟨g, 5, none⟩ = some (.int .i64 m.md) ∧ w4.drew.cell? ⟨g, 6, none⟩ = some (.int .i64 m.ln) ∧ w4.drew.cell? ⟨g, 7, none⟩ = some (.int .i64 m.ld) ∧ w4.drew.cell? ⟨g, 8, none⟩ = some (.int .i64 m.cy) ∧ w4.drew.cell? ⟨g, 9, none⟩ = some (.slice m.A1 m.lp.length m.c1) ∧ w4.drew.cell? ⟨g, 10, none⟩ = some (.slice m.A2 m.av.length m.c2) := ⟨HDb4.out.cell 0, mcells HX4.out⟩
      have hbd := OK.out.beg_bound y k (by omega) (by omega) hk1 (by omega)
      have HKD : Hid (m.beg y k ≤ day ∧ day < m.beg y (k + 1)) := ⟨hc'.out, hkd.out⟩
      clear HX HDb HR HM hB1 HX3 HDb3 HR3 HM3 hB3 HX4 HDb4 HR4 HM4 hB4 hb3 hkd hc' in1 in2 HL
      obtain ⟨B, hB⟩ : ∃ B, B = m.beg y k := ⟨_, rfl⟩
      have HBB := Lib.hid hB
      rw [← hB] at HC5 hbd
      clear hB
      have e7 : IntKind.i64.wrap (day - B) = day - B := intFits _ (by omega) (by omega)
      have e8 : IntKind.i64.wrap (day - B + 1) = day - B + 1 := intFits _ (by omega) (by omega)
      go_region_held3 (fun W => W.cell? ⟨g + 1, 0, none⟩ = some (.int .i64 day) ∧ W.cell? ⟨g, 0, none⟩ = some (.string m.nm) ∧ W.cell? ⟨g, 1, none⟩ = some (.int .i64 m.ep) ∧ W.cell? ⟨g, 2, none⟩ = some (.int .i64 m.sn) ∧ W.cell? ⟨g, 3, none⟩ = some (.int .i64 m.sd) ∧ W.cell? ⟨g, 4, none⟩ = some (.int .i64 m.mn) ∧ W.cell? ⟨g, 5, none⟩ = some (.int .i64 m.md) ∧ W.cell? ⟨g, 6, none⟩ = some (.int .i64 m.ln) ∧ W.cell? ⟨g, 7, none⟩ = some (.int .i64 m.ld) ∧ W.cell? ⟨g, 8, none⟩ = some (.int .i64 m.cy) ∧ W.cell? ⟨g, 9, none⟩ = some (.slice m.A1 m.lp.length m.c1) ∧ W.cell? ⟨g, 10, none⟩ = some (.slice m.A2 m.av.length m.c2))
        (first | assumption | exact HK.out _ _ _ _ hbx hby)
        (first | (go_at_call 43; ((with_reducible refine HC5.out.mono ?_)); rintro e w5 ⟨rfl, hbx, hby, hbz, hbb⟩; have HBb := Lib.hid hbb; clear hbb; have HS5 : w5.cell? ⟨g + 1, 0, none⟩ = some (.int .i64 day) ∧ w5.cell? ⟨g, 0, none⟩ = some (.string m.nm) ∧ w5.cell? ⟨g, 1, none⟩ = some (.int .i64 m.ep) ∧ w5.cell? ⟨g, 2, none⟩ = some (.int .i64 m.sn) ∧ w5.cell? ⟨g, 3, none⟩ = some (.int .i64 m.sd) ∧ w5.cell? ⟨g, 4, none⟩ = some (.int .i64 m.mn) ∧ w5.cell? ⟨g, 5, none⟩ = some (.int .i64 m.md) ∧ w5.cell? ⟨g, 6, none⟩ = some (.int .i64 m.ln) ∧ w5.cell? ⟨g, 7, none⟩ = some (.int .i64 m.ld) ∧ w5.cell? ⟨g, 8, none⟩ = some (.int .i64 m.cy) ∧ w5.cell? ⟨g, 9, none⟩ = some (.slice m.A1 m.lp.length m.c1) ∧ w5.cell? ⟨g, 10, none⟩ = some (.slice m.A2 m.av.length m.c2) := ⟨hby.cell 0, mcells hbx⟩; have r0 : w5.cell? ⟨g + 1 + 1, 0, none⟩ = some (.int .i64 0) := hbz.cell 0; have r1 : w5.cell? ⟨g + 1 + 1, 1, none⟩ = some (.int .i64 0) := hbz.cell 1; have r2 : w5.cell? ⟨g + 1 + 1, 2, none⟩ = some (.int .i64 0) := hbz.cell 2; have rf : ∀ i, w5.frozen? ⟨g + 1 + 1, i, none⟩ = false := fun i => hbz.free i))
      all_goals go_wp2_with fail
      all_goals refine bodyPost_ret (v := .tuple #[.agg #[.int .i64 y, .int .i64 k, .int .i64 (day - B + 1)], .int .i64 0]) (by simp [results, Try.results20, go_sem, r0, r1, r2]) rfl ?_
      all_goals exact ⟨((HBb.out.setCell hg2 _).setCell hg2 _).setCell hg2 _, .inl ⟨y, k, OK.out, by omega, by omega, hk1, hk2, HKD.out.1, HKD.out.2, by rw [HBB.out]⟩⟩
end Go.Proofs.Ytfindembancjdaa
