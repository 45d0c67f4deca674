/- Contract of recur.Days; the daily recurrence; a recurrence that came in as an argument. -/
import Derived.Test.YtfindembancjdaaRec7
import Derived.Test.YtfindembancjdaaSlice2
import Derived.Test.YtfindembancjdaaIntsArg
namespace Go.Proofs.Ytfindembancjdaa
open Go.RowKit Go.Joins Go.ChangeShapes Go.WideShapes Go.Deep
set_option linter.unusedVariables false

set_option maxHeartbeats 1000000 in
set_option maxRecDepth 100000 in
theorem Days_yes (r : Rc) (a b : Int) (w : World) (hr : RcIn w r) (hf : RcFit r) (ok : RcOk r) (h1 : -4000000 ≤ a) (h2 : b ≤ 4000000) (h3 : a ≤ b) (h4 : b ≤ r.fr + 40000) (h5 : b - a ≤ 3000) :
    Calls Try.prog 11 #[r.val, .int .i64 a, .int .i64 b] w fun e w' => ∃ v, e = .returned (.tuple #[v, .int .i64 0]) ∧ w'.ownsRow w.heap.size 3 1 v (r.days a b).length (ints (r.days a b)) ∧ Below w.heap.size w w' := by
  have HB := Lib.hid (below_alloc1 w (Obj.cells r.cells 24))
  have HX := Lib.hid (Box.new w 24 r.cells)
  have HR := Lib.hid (hr.next HB.out)
  have HF := Lib.hid hf
  have HO := Lib.hid ok
  clear hr hf ok
  obtain ⟨L, hL⟩ : ∃ L, L = r.days a b := ⟨_, rfl⟩
  rw [← hL]
  have HL := Lib.hid hL
  clear hL
  go_enter Try.func11, Try.ntmps11
  go_wp2_with fail
  generalize w.alloc (Obj.cells r.cells 24) = W0 at *
  obtain ⟨g, hg⟩ : ∃ g, g = w.heap.size := ⟨_, rfl⟩
  rw [← hg] at HX
  rw [← hg]
  have HG := Lib.hid hg
  clear hg
  refine (rcheck_any r _ HR.out HF.out).mono ?_
  rintro e w1 ⟨E1, rfl, hE1, hb1⟩
  obtain rfl : E1 = 0 := hE1.2 HO.out
  clear hE1
  replace HX := Lib.hid (HX.out.below hb1)
  replace HB := Lib.hid (below_then HB.out hb1)
  replace HR := Lib.hid (HR.out.next hb1)
  clear hb1
  obtain ⟨x0, x1, x2, x3, x4, x5, x6, x7⟩ := rcells HX.out
  go_wp2_with fail
  refine (crange_any r a b _ HO.out.f1.1 HO.out.f1.2).mono ?_
  rintro e w2 ⟨E1, rfl, hE1, hb1⟩
  obtain rfl : E1 = 0 := hE1.2 ⟨⟨by omega, by omega⟩, ⟨by omega, by omega⟩, h3, h4, h5⟩
  clear hE1 x0 x1 x2 x3 x4 x5 x6 x7
  replace HX := Lib.hid (HX.out.below hb1)
  replace HB := Lib.hid (below_then HB.out hb1)
  replace HR := Lib.hid (HR.out.next hb1)
  clear hb1
  obtain ⟨x0, x1, x2, x3, x4, x5, x6, x7⟩ := rcells HX.out
  go_wp2_with fail
  refine (days_any r a b _ HR.out HO.out h1 h2 h3 h4).mono ?_
  rintro e w3 ⟨v, rfl, hown, hb1⟩
  rw [← HL.out] at hown
  clear x0 x1 x2 x3 x4 x5 x6 x7
  go_wp2_with fail
  go_ret2
  exact ⟨v, rfl, own_lower hown HB.out.size, below_then HB.out hb1⟩

/-- every third day -/
def daily : Rc := ⟨1, 3, 1, 0, 9, [], [], [], none, 0, none, 0, none, 0⟩
theorem daily_in (w : World) : RcIn w daily := ⟨.inl rfl, .inl rfl, .inl rfl⟩
theorem daily_fit : RcFit daily := by constructor <;> (simp [daily, maxLen])
theorem listOk_nil (lo hi : Int) (z : Bool) : ListOk [] lo hi z := ⟨by simp, fun i h => by simp at h⟩
theorem daily_ok : RcOk daily := by
  constructor <;> first | exact listOk_nil _ _ _ | (simp [daily])
theorem daily_fits (day : Int) (h1 : -4000000 ≤ day) (h2 : day ≤ 4000000) : daily.fit day = decide ((day - 1).tmod 3 = 0) := by
  have e1 := (mmAt_spec h1 h2).1
  have e2 := (mmAt_spec (day := 1) (by omega) (by omega)).1
  unfold Rc.fit fitB
  rw [show daily.fr = 1 from rfl]
  simp [daily, lisB, Mm.un, e1, e2]
theorem daily_days : daily.days 1 30 = [1, 4, 7] := by
  have h1 : daily.num 1 30 = 9 := by decide
  have h2 : daily.low 1 = 1 := by decide
  unfold Rc.days
  rw [h1, h2, show daily.co = 0 from rfl]
  simp [daysL, daily_fits]

theorem days_len (r : Rc) (ok : RcOk r) (a b : Int) (h : b ≤ r.fr + 40000) : (r.days a b).length ≤ 40001 := by
  have : ∀ (fit : Int → Bool) (K f : Int) (n : Nat) (day c : Int), (daysL fit K f n day c).length ≤ n := by
    intro fit K f n
    induction n with
    | zero => intro _ _; simp [daysL]
    | succ n ih =>
      intro day c
      unfold daysL
      split
      · split
        · simp
        · rw [List.length_append]
          have := ih (day + 1) (c + 1)
          split <;> simp <;> omega
      · have := ih (day + 1) c; omega
  refine Nat.le_trans (this _ _ _ _ _ _) ?_
  unfold Rc.num Rc.low
  split <;> omega
theorem daysL_c0 (fit : Int → Bool) (f : Int) : ∀ (n : Nat) (day c d : Int), daysL fit 0 f n day c = daysL fit 0 f n day d
  | 0, _, _, _ => rfl
  | n + 1, day, c, d => by
    unfold daysL
    rw [if_neg (by omega : ¬ ((0 : Int) < 0 ∧ 0 < c + 1)), if_neg (by omega : ¬ ((0 : Int) < 0 ∧ 0 < d + 1)), daysL_c0 fit f n (day + 1) (c + 1) (d + 1), daysL_c0 fit f n (day + 1) c d]
theorem daysL_succ (fit : Int → Bool) (f : Int) (n : Nat) (day : Int) : daysL fit 0 f (n + 1) day 0 = (if fit day then (if f ≤ day then [day] else []) else []) ++ daysL fit 0 f n (day + 1) 0 := by
  conv => lhs; unfold daysL
  rw [if_neg (by omega : ¬ ((0 : Int) < 0 ∧ 0 < (0 : Int) + 1)), daysL_c0 fit f n (day + 1) (0 + 1) 0]
  split <;> simp
theorem daysL_split (fit : Int → Bool) (f : Int) : ∀ (n m : Nat) (day : Int), daysL fit 0 f (n + m) day 0 = daysL fit 0 f n day 0 ++ daysL fit 0 f m (day + n) 0
  | 0, m, day => by simp [daysL]
  | n + 1, m, day => by
    rw [show n + 1 + m = (n + m) + 1 from by omega, daysL_succ, daysL_succ, daysL_split fit f n m (day + 1), show day + 1 + (n : Int) = day + ((n + 1 : Nat) : Int) from by omega, List.append_assoc]
/-- the days of adjoining ranges -/
theorem days_parts (r : Rc) (ok : RcOk r) (a b : Nat) : r.days r.fr (r.fr + a) ++ r.days (r.fr + a + 1) (r.fr + a + b) = r.days r.fr (r.fr + a + b) := by
  have o1 := ok.o1
  have c1 := ok.c1
  by_cases h0 : r.co = 0
  · have l1 : r.low r.fr = r.fr := by unfold Rc.low; rw [if_pos h0]; omega
    have l2 : r.low (r.fr + a + 1) = r.fr + a + 1 := by unfold Rc.low; rw [if_pos h0]; omega
    have n1 : r.num r.fr (r.fr + a) = (min (r.fr + a) r.ut + 1 - r.fr).toNat := by unfold Rc.num; rw [l1]
    have n2 : r.num (r.fr + a + 1) (r.fr + a + b) = (min (r.fr + a + b) r.ut + 1 - (r.fr + a + 1)).toNat := by unfold Rc.num; rw [l2]
    have n3 : r.num r.fr (r.fr + a + b) = (min (r.fr + a + b) r.ut + 1 - r.fr).toNat := by unfold Rc.num; rw [l1]
    unfold Rc.days
    rw [l1, l2, n1, n2, n3, h0]
    by_cases hu : r.fr + a ≤ r.ut
    · rw [show (min (r.fr + a + b) r.ut + 1 - r.fr).toNat = (min (r.fr + a) r.ut + 1 - r.fr).toNat + (min (r.fr + a + b) r.ut + 1 - (r.fr + a + 1)).toNat from by omega, daysL_split, show r.fr + ((min (r.fr + (a : Int)) r.ut + 1 - r.fr).toNat : Int) = r.fr + a + 1 from by omega,
        daysL_from r.fit 0 (r.fr + a + 1) r.fr _ (r.fr + a + 1) 0 (by omega) (by omega)]
    · rw [show (min (r.fr + a + b) r.ut + 1 - r.fr).toNat = (min (r.fr + a) r.ut + 1 - r.fr).toNat from by omega, show (min (r.fr + a + b) r.ut + 1 - (r.fr + a + 1)).toNat = 0 from by omega]
      simp [daysL]
  · have l1 : ∀ x, r.low x = r.fr := fun x => by unfold Rc.low; rw [if_neg h0]
    have n1 : ∀ x y, r.num x y = (min y r.ut + 1 - r.fr).toNat := fun x y => by unfold Rc.num; rw [l1]
    unfold Rc.days
    rw [l1, l1, n1, n1, n1]
    by_cases hu : r.fr + a ≤ r.ut
    · have := daysL_parts r.fit r.co r.fr (r.fr + a + 1) (by omega) (a + 1) ((min (r.fr + a + b) r.ut + 1 - r.fr).toNat - (a + 1)) r.fr 0 (.inl (by omega))
      rw [show a + 1 + ((min (r.fr + a + b) r.ut + 1 - r.fr).toNat - (a + 1)) = (min (r.fr + a + b) r.ut + 1 - r.fr).toNat from by omega] at this
      rw [show (min (r.fr + a) r.ut + 1 - r.fr).toNat = a + 1 from by omega]
      exact this
    · rw [show (min (r.fr + a + b) r.ut + 1 - r.fr).toNat = (min (r.fr + a) r.ut + 1 - r.fr).toNat from by omega, daysL_before r.fit r.co (r.fr + a + 1) _ r.fr 0 (by omega), List.append_nil]
theorem days_count (r : Rc) (ok : RcOk r) (a b : Int) (h : r.co ≠ 0) : ((r.days a b).length : Int) ≤ r.co := by
  have := daysL_len r.fit r.co a (by have := ok.c1; omega) (r.num a b) (r.low a) 0 (by omega) ok.c1
  unfold Rc.days
  omega
section
variable {H : Type} {enc : TypeId × Value → H} {W : World}
set_option maxRecDepth 100000 in
theorem recur_open {base : Nat} {v : Value} {d : DataW H} {p : List MemPlace} (hv : Value.okWide Try.prog W .any base 24 v) (h : DataW.Trod enc Try.prog W 0 (fun _ => true) true 24 v d p) :
    ∃ r : Rc, v = r.val ∧ RcIn W r ∧ RcFit r := by
  have hC : Try.prog.cellsOf 24 = 8 := by kernel_rfl
  obtain ⟨cs, rfl, hsz⟩ := okWide_struct Try.underlying24 hv
  obtain ⟨l⟩ := cs
  match l, hsz.trans hC with
  | [c0, c1, c2, c3, c4, c5, c6, c7], _ =>
    obtain ⟨fuel, hf⟩ := h
    obtain ⟨xs, n, _, hx, _, hlen, hg⟩ := DataW.trod_struct Try.underlying24 hf
    have e0 : Try.prog.cellsOf 3 = 1 := by kernel_rfl
    have e3 : Try.prog.cellsOf 22 = 1 := by kernel_rfl
    match xs, hlen with
    | [x0, x1, x2, x3, x4, x5, x6, x7], _ =>
      have h0 := hg 0 _ rfl
      have h1 := hg 1 _ rfl
      have h2 := hg 2 _ rfl
      have h3 := hg 3 _ rfl
      have h4 := hg 4 _ rfl
      have h5 := hg 5 _ rfl
      have h6 := hg 6 _ rfl
      have h7 := hg 7 _ rfl
      simp [e0, e3, Value.cells] at h0 h1 h2 h3 h4 h5 h6 h7
      obtain ⟨un, k0, _, _⟩ := DataW.trod_int Try.underlying3 h0
      obtain ⟨ev, k1, _, _⟩ := DataW.trod_int Try.underlying3 h1
      obtain ⟨fr, k2, _, _⟩ := DataW.trod_int Try.underlying3 h2
      obtain ⟨co, k3, _, _⟩ := DataW.trod_int Try.underlying3 h3
      obtain ⟨ut, k4, _, _⟩ := DataW.trod_int Try.underlying3 h4
      obtain ⟨A1, l1, c1', rfl, a1, a2, a3, a4⟩ := ints_trod h5
      obtain ⟨A2, l2, c2', rfl, b1, b2, b3, b4⟩ := ints_trod h6
      obtain ⟨A3, l3, c3', rfl, d1, d2, d3, d4⟩ := ints_trod h7
      simp at k0 k1 k2 k3 k4
      subst k0 k1 k2 k3 k4
      exact ⟨⟨un, ev, fr, co, ut, l1, l2, l3, A1, c1', A2, c2', A3, c3'⟩, rfl, ⟨a3, b3, d3⟩, ⟨a1, a2, b1, b2, d1, d2⟩⟩
end
end Go.Proofs.Ytfindembancjdaa
