/- Contracts of package lunisolar: isYear, check, Months, Begin, After, ToDay. -/
import Derived.Test.YtfindembancjdaaMoonFacts
namespace Go.Proofs.Ytfindembancjdaa
open Go.RowKit
set_option linter.unusedVariables false

/-- a year -/
def IsY (y : Int) : Prop := -10000 ≤ y ∧ y ≤ 10000
theorem misYear_any (y : Int) (w : World) : Calls Try.prog 79 #[.int .i64 y] w (Asks (IsY y) w) := by
  by_cases h : IsY y
  · have H := Lib.hid h
    obtain ⟨h1, h2⟩ := h
    go_enter Try.func79, Try.ntmps79
    go_wp2
    go_ret
    exact Asks.yes H.out
  · have H := Lib.hid h
    clear h
    by_cases h1 : y < -10000
    · go_enter Try.func79, Try.ntmps79
      go_wp2
      go_ret
      exact Asks.no H.out
    · have t1 : decide (-10000 ≤ y) = true := decide_eq_true (by omega)
      have t2 : decide (y ≤ 10000) = false := decide_eq_false (by have := H.out; unfold IsY at this; omega)
      go_enter Try.func79, Try.ntmps79
      go_wp2
      go_ret
      exact Asks.no H.out

set_option maxHeartbeats 1000000 in
set_option maxRecDepth 100000 in
theorem mchecky_any (m : Mo) (y : Int) (w : World) (hm : MIn w m) (hf : MFit m) : Calls Try.prog 41 #[m.val, .int .i64 y] w (Errs (MOk m ∧ IsY y) w) := by
  have hm' := hm.next (below_alloc1 w (Obj.cells m.cells 36))
  have hB := Lib.hid (below_alloc1 w (Obj.cells m.cells 36))
  go_enter Try.func41, Try.ntmps41
  go_wp2_with fail
  generalize w.alloc (Obj.cells m.cells 36) = W0 at *
  refine (mcheck_any m _ hm' hf).mono ?_
  rintro e w1 ⟨E, rfl, hE, hb⟩
  have HE := Lib.hid hE
  clear hE
  have HB := Lib.hid (below_then hB.out hb)
  clear hb hB hm hm'
  by_cases hE0 : E = 0
  · subst hE0
    have hok := Lib.hid (HE.out.1 rfl)
    go_wp2_with fail
    refine (misYear_any y _).mono ?_
    rintro e w' ⟨q, rfl, hq, rfl⟩
    cases q
    · have HQ : Hid (¬ IsY y) := fun h => by have := hq.2 h; cases this
      clear hq
      go_wp2_with fail
      go_ret
      exact Errs.no (by omega) (fun h => HQ.out h.2) HB.out
    · have HQ : Hid (IsY y) := hq.1 rfl
      clear hq
      go_wp2_with fail
      go_ret
      exact Errs.ok ⟨hok.out, HQ.out⟩ HB.out
  · have t1 : (E != 0) = true := by rw [bne_iff_ne]; exact hE0
    go_wp2_with fail
    go_ret
    exact Errs.no hE0 (fun h => hE0 (HE.out.2 h.1)) HB.out

set_option maxHeartbeats 1000000 in
set_option maxRecDepth 100000 in
theorem Months_yes (m : Mo) (y : Int) (w : World) (hm : MIn w m) (hf : MFit m) (ok : MOk m) (h1 : -10000 ≤ y) (h2 : y ≤ 10000) :
    Calls Try.prog 19 #[m.val, .int .i64 y] w fun e w' => e = .returned (.tuple #[.int .i64 (m.mon y), .int .i64 0]) ∧ Below w.heap.size w w' := by
  have hm' := hm.next (below_alloc1 w (Obj.cells m.cells 36))
  have hB := Lib.hid (below_alloc1 w (Obj.cells m.cells 36))
  have hx := Box.new w 36 m.cells
  go_enter Try.func19, Try.ntmps19
  go_wp2_with fail
  generalize w.alloc (Obj.cells m.cells 36) = W0 at *
  obtain ⟨g, hg⟩ : ∃ g, g = w.heap.size := ⟨_, rfl⟩
  rw [← hg] at hx
  rw [← hg]
  clear hg
  refine (mchecky_any m y _ hm' hf).mono ?_
  rintro e w1 ⟨E, rfl, hE, hb⟩
  obtain rfl : E = 0 := hE.2 ⟨ok, h1, h2⟩
  clear hE
  replace hm' := hm'.next hb
  have HB := Lib.hid (below_then hB.out hb)
  obtain ⟨x0, x1, x2, x3, x4, x5, x6, x7, x8, x9, x10⟩ := mcells (hx.below hb)
  clear hb hx hB
  go_wp2_with fail
  refine (months_any m y _ hm' ok.c1 ok.c2 ok.lp (by omega) (by omega)).mono ?_
  rintro e w2 ⟨rfl, hb2⟩
  go_wp2_with fail
  go_ret2
  exact ⟨rfl, below_then HB.out hb2⟩

/-- a day -/
def IsD (d : Int) : Prop := -4000000 ≤ d ∧ d ≤ 4000000
instance (d : Int) : Decidable (IsD d) := by unfold IsD; exact inferInstance
/-- what Begin says -/
def begR (d : Int) (e : Ending) : Prop := (IsD d ∧ e = .returned (.tuple #[.int .i64 d, .int .i64 0])) ∨ (¬ IsD d ∧ e = .returned (.tuple #[.int .i64 0, .int .i64 3]))

set_option maxHeartbeats 1000000 in
set_option maxRecDepth 100000 in
theorem Begin_yes (m : Mo) (y k : Int) (w : World) (hm : MIn w m) (hf : MFit m) (ok : MOk m) (h1 : -10000 ≤ y) (h2 : y ≤ 10000) (h3 : 1 ≤ k) (h4 : k ≤ m.mon y) :
    Calls Try.prog 16 #[m.val, .int .i64 y, .int .i64 k] w fun e w' => begR (m.beg y k) e ∧ Below w.heap.size w w' := by
  have hm' := hm.next (below_alloc1 w (Obj.cells m.cells 36))
  have hB := Lib.hid (below_alloc1 w (Obj.cells m.cells 36))
  have hx := Box.new w 36 m.cells
  have hmo := ok.mon y
  have HBg := Lib.hid (fun W (hm : MIn W m) => begin_any m y k W hm ok (by omega) (by omega) h3 (by omega))
  obtain ⟨d, hd⟩ : ∃ d, d = m.beg y k := ⟨_, rfl⟩
  rw [← hd] at HBg ⊢
  clear hd
  go_enter Try.func16, Try.ntmps16
  go_wp2_with fail
  generalize w.alloc (Obj.cells m.cells 36) = W0 at *
  obtain ⟨g, hg⟩ : ∃ g, g = w.heap.size := ⟨_, rfl⟩
  rw [← hg] at hx
  rw [← hg]
  clear hg
  refine (mchecky_any m y _ hm' hf).mono ?_
  rintro e w1 ⟨E, rfl, hE, hb⟩
  obtain rfl : E = 0 := hE.2 ⟨ok, h1, h2⟩
  clear hE
  replace hm' := hm'.next hb
  replace hB := Lib.hid (below_then hB.out hb)
  replace hx := hx.below hb
  obtain ⟨x0, x1, x2, x3, x4, x5, x6, x7, x8, x9, x10⟩ := mcells hx
  clear hb
  have t1 : decide (k < 1) = false := decide_eq_false (by omega)
  go_wp2_with fail
  refine (months_any m y _ hm' ok.c1 ok.c2 ok.lp (by omega) (by omega)).mono ?_
  rintro e w2 ⟨rfl, hb⟩
  clear x0 x1 x2 x3 x4 x5 x6 x7 x8 x9 x10
  replace hm' := hm'.next hb
  replace hB := Lib.hid (below_then hB.out hb)
  replace hx := hx.below hb
  obtain ⟨x0, x1, x2, x3, x4, x5, x6, x7, x8, x9, x10⟩ := mcells hx
  clear hb
  have t2 : decide (m.mon y < k) = false := decide_eq_false (by omega)
  go_wp2_with fail
  refine (HBg.out _ hm').mono ?_
  rintro e w3 ⟨rfl, hb⟩
  clear x0 x1 x2 x3 x4 x5 x6 x7 x8 x9 x10
  replace hB := Lib.hid (below_then hB.out hb)
  clear hb hm' hx hmo h4 t2
  by_cases hd : IsD d
  · have HD := Lib.hid hd
    obtain ⟨d1, d2⟩ := hd
    go_wp2_with (go_at_call 38; refine (is_yes _ _ d1 d2).mono ?_; rintro e w' ⟨rfl, rfl⟩)
    go_ret2
    exact ⟨.inl ⟨HD.out, rfl⟩, hB.out⟩
  · have HD := Lib.hid hd
    have d3 : d < -4000000 ∨ 4000000 < d := by unfold IsD at hd; omega
    clear hd
    go_wp2_with (go_at_call 38; refine (is_no _ _ d3).mono ?_; rintro e w' ⟨rfl, rfl⟩)
    go_ret2
    exact ⟨.inr ⟨HD.out, rfl⟩, hB.out⟩

/-- both are days -/
def twoD (a b : Int) : Bool := decide (IsD a ∧ IsD b)
set_option maxHeartbeats 1000000 in
set_option maxRecDepth 100000 in
theorem After_any (m : Mo) (y k : Int) (w : World) (hm : MIn w m) (ok : MOk m) (h1 : -15000 ≤ y) (h2 : y ≤ 15000) (h3 : 1 ≤ k) (h4 : k ≤ 20) :
    Calls Try.prog 52 #[m.val, .int .i64 y, .int .i64 k] w fun e w' => e = .returned (.tuple #[.int .i64 (m.beg y k), .int .i64 (m.beg y (k + 1)), .bool (twoD (m.beg y k) (m.beg y (k + 1)))]) ∧ Below w.heap.size w w' := by
  have hm' := hm.next (below_alloc1 w (Obj.cells m.cells 36))
  have hB := Lib.hid (below_alloc1 w (Obj.cells m.cells 36))
  have hx := Box.new w 36 m.cells
  have HA0 := Lib.hid (fun W (hm : MIn W m) => begin_any m y (k + 1) W hm ok h1 h2 (by omega) (by omega))
  have HB0 := Lib.hid (fun W (hm : MIn W m) => begin_any m y k W hm ok h1 h2 (by omega) (by omega))
  have e1 : IntKind.i64.wrap (k + 1) = k + 1 := intFits _ (by omega) (by omega)
  generalize m.beg y (k + 1) = r1 at *
  generalize m.beg y k = r2 at *
  obtain ⟨T, hT⟩ : ∃ T, T = twoD r2 r1 := ⟨_, rfl⟩
  rw [← hT]
  have HT := Lib.hid hT
  clear hT
  go_enter Try.func52, Try.ntmps52
  go_wp2_with fail
  generalize w.alloc (Obj.cells m.cells 36) = W1 at *
  obtain ⟨g, hg⟩ : ∃ g, g = w.heap.size := ⟨_, rfl⟩
  rw [← hg] at hx
  rw [← hg]
  clear hg
  have HC : ∀ k' r, (∀ W, MIn W m → Calls Try.prog 43 #[m.val, .int .i64 y, .int .i64 k'] W fun e w' => e = .returned (.int .i64 r) ∧ Below W.heap.size W w') → ∀ W, (Below W1.heap.size W1 W ∧ W.cell? ⟨g, 0, none⟩ = some (.string m.nm) ∧ W.cell? ⟨g, 1, none⟩ = some (.int .i64 m.ep) ∧ W.cell? ⟨g, 2, none⟩ = some (.int .i64 m.sn) ∧ W.cell? ⟨g, 3, none⟩ = some (.int .i64 m.sd) ∧ W.cell? ⟨g, 4, none⟩ = some (.int .i64 m.mn) ∧ W.cell? ⟨g, 5, none⟩ = some (.int .i64 m.md) ∧ W.cell? ⟨g, 6, none⟩ = some (.int .i64 m.ln) ∧ W.cell? ⟨g, 7, none⟩ = some (.int .i64 m.ld) ∧ W.cell? ⟨g, 8, none⟩ = some (.int .i64 m.cy) ∧ W.cell? ⟨g, 9, none⟩ = some (.slice m.A1 m.lp.length m.c1) ∧ W.cell? ⟨g, 10, none⟩ = some (.slice m.A2 m.av.length m.c2)) → Calls Try.prog 43 #[m.val, .int .i64 y, .int .i64 k'] W fun e w' => e = .returned (.int .i64 r) ∧ (Below W1.heap.size W1 w' ∧ w'.cell? ⟨g, 0, none⟩ = some (.string m.nm) ∧ w'.cell? ⟨g, 1, none⟩ = some (.int .i64 m.ep) ∧ w'.cell? ⟨g, 2, none⟩ = some (.int .i64 m.sn) ∧ w'.cell? ⟨g, 3, none⟩ = some (.int .i64 m.sd) ∧ w'.cell? ⟨g, 4, none⟩ = some (.int .i64 m.mn) ∧ w'.cell? ⟨g, 5, none⟩ = some (.int .i64 m.md) ∧ w'.cell? ⟨g, 6, none⟩ = some (.int .i64 m.ln) ∧ w'.cell? ⟨g, 7, none⟩ = some (.int .i64 m.ld) ∧ w'.cell? ⟨g, 8, none⟩ = some (.int .i64 m.cy) ∧ w'.cell? ⟨g, 9, none⟩ = some (.slice m.A1 m.lp.length m.c1) ∧ w'.cell? ⟨g, 10, none⟩ = some (.slice m.A2 m.av.length m.c2)) := fun k' r hc =>
    calls_S (W0 := W1) (fun w' hb => ⟨hb, mcells (hx.below hb)⟩) (fun w' h => h.1) (fun W hb => hc W (hm'.next hb))
  have HA := Lib.hid (HC _ _ HA0.out)
  have HB := Lib.hid (HC _ _ HB0.out)
  have hS0 : Below W1.heap.size W1 W1.drew ∧ W1.drew.cell? ⟨g, 0, none⟩ = some (.string m.nm) ∧ W1.drew.cell? ⟨g, 1, none⟩ = some (.int .i64 m.ep) ∧ W1.drew.cell? ⟨g, 2, none⟩ = some (.int .i64 m.sn) ∧ W1.drew.cell? ⟨g, 3, none⟩ = some (.int .i64 m.sd) ∧ W1.drew.cell? ⟨g, 4, none⟩ = some (.int .i64 m.mn) ∧ W1.drew.cell? ⟨g, 5, none⟩ = some (.int .i64 m.md) ∧ W1.drew.cell? ⟨g, 6, none⟩ = some (.int .i64 m.ln) ∧ W1.drew.cell? ⟨g, 7, none⟩ = some (.int .i64 m.ld) ∧ W1.drew.cell? ⟨g, 8, none⟩ = some (.int .i64 m.cy) ∧ W1.drew.cell? ⟨g, 9, none⟩ = some (.slice m.A1 m.lp.length m.c1) ∧ W1.drew.cell? ⟨g, 10, none⟩ = some (.slice m.A2 m.av.length m.c2) := ⟨below_drew (Below.refl _ _) 1, mcells hx⟩
  clear HC hx hm' hm HA0 HB0
  go_region_held3 (fun W => Below W1.heap.size W1 W ∧ W.cell? ⟨g, 0, none⟩ = some (.string m.nm) ∧ W.cell? ⟨g, 1, none⟩ = some (.int .i64 m.ep) ∧ W.cell? ⟨g, 2, none⟩ = some (.int .i64 m.sn) ∧ W.cell? ⟨g, 3, none⟩ = some (.int .i64 m.sd) ∧ W.cell? ⟨g, 4, none⟩ = some (.int .i64 m.mn) ∧ W.cell? ⟨g, 5, none⟩ = some (.int .i64 m.md) ∧ W.cell? ⟨g, 6, none⟩ = some (.int .i64 m.ln) ∧ W.cell? ⟨g, 7, none⟩ = some (.int .i64 m.ld) ∧ W.cell? ⟨g, 8, none⟩ = some (.int .i64 m.cy) ∧ W.cell? ⟨g, 9, none⟩ = some (.slice m.A1 m.lp.length m.c1) ∧ W.cell? ⟨g, 10, none⟩ = some (.slice m.A2 m.av.length m.c2)) (assumption)
    (first | (go_at_call 43; ((with_reducible refine (HA.out _ (by assumption)).mono ?_)); rintro e w' ⟨rfl, hs'⟩) | (go_at_call 43; ((with_reducible refine (HB.out _ (by assumption)).mono ?_)); rintro e w' ⟨rfl, hs'⟩))
  all_goals
    have hBB := Lib.hid (below_then hB.out hs'.1)
    clear hs' hS0
    by_cases d1 : IsD r2
    · by_cases d2 : IsD r1
      · have ht : Hid (T = true) := HT.out.trans <| decide_eq_true ⟨d1, d2⟩
        obtain ⟨i1, i2⟩ := d1
        obtain ⟨i3, i4⟩ := d2
        go_wp2_with (first | (go_at_call 38; ((with_reducible refine (is_yes r2 _ i1 i2).mono ?_)); rintro e w' ⟨rfl, rfl⟩) | (go_at_call 38; ((with_reducible refine (is_yes r1 _ i3 i4).mono ?_)); rintro e w' ⟨rfl, rfl⟩))
        go_ret3
        exact ⟨by rw [ht.out]; rfl, hBB.out⟩
      · have ht : Hid (T = false) := HT.out.trans <| decide_eq_false fun h => d2 h.2
        obtain ⟨i1, i2⟩ := d1
        have d3 : r1 < -4000000 ∨ 4000000 < r1 := by unfold IsD at d2; omega
        clear d2
        go_wp2_with (first | (go_at_call 38; ((with_reducible refine (is_yes r2 _ i1 i2).mono ?_)); rintro e w' ⟨rfl, rfl⟩) | (go_at_call 38; ((with_reducible refine (is_no r1 _ d3).mono ?_)); rintro e w' ⟨rfl, rfl⟩))
        go_ret3
        exact ⟨by rw [ht.out]; rfl, hBB.out⟩
    · have ht : Hid (T = false) := HT.out.trans <| decide_eq_false fun h => d1 h.1
      have d3 : r2 < -4000000 ∨ 4000000 < r2 := by unfold IsD at d1; omega
      clear d1
      go_wp2_with (go_at_call 38; ((with_reducible refine (is_no r2 _ d3).mono ?_)); rintro e w' ⟨rfl, rfl⟩)
      go_ret3
      exact ⟨by rw [ht.out]; rfl, hBB.out⟩
end Go.Proofs.Ytfindembancjdaa
