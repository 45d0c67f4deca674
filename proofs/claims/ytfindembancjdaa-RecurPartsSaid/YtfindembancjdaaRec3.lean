/- Contracts of package recur: checkRange, at; the date of a day. -/
import Derived.Test.YtfindembancjdaaRec2
import Derived.Test.YtfindembancjdaaLine3
namespace Go.Proofs.Ytfindembancjdaa
open Go.RowKit
set_option linter.unusedVariables false

theorem cell_set1 {W : World} {g i : Nat} {v : Value} {b o : Nat} (h : b ≠ g) : (W.setCell ⟨g, i, none⟩ v).cell? ⟨b, o, none⟩ = W.cell? ⟨b, o, none⟩ := by
  have hh : (W.setCell ⟨g, i, none⟩ v).heap[b]? = W.heap[b]? := Below.heap_setCell _ _ _ b h
  unfold World.cell?
  simp only [hh]
theorem step_find (f : Nat → Int) (day : Int) (h1 : f 0 ≤ day) : ∀ N, day < f N → ∃ p, p < N ∧ f p ≤ day ∧ day < f (p + 1)
  | 0, h => absurd h (by omega)
  | N + 1, h => by
    by_cases hd : day < f N
    · obtain ⟨p, hp, a, b⟩ := step_find f day h1 N hd
      exact ⟨p, by omega, a, b⟩
    · exact ⟨N, by omega, by omega, h⟩
/-- each day has a date -/
theorem date_of (day : Int) (h1 : -4000000 ≤ day) (h2 : day ≤ 4000000) : ∃ (y : Int) (k : Nat) (d : Int), valid y k d ∧ dayOf y k d = day := by
  obtain ⟨p, _, hp1, hp2⟩ := step_find (fun p => ny (-12000 + (p : Int))) day (by show ny (-12000 + ((0 : Nat) : Int)) ≤ day; unfold ny; omega) 24000 (by show day < ny (-12000 + ((24000 : Nat) : Int)); unfold ny; omega)
  have hq : (-12000 + ((p + 1 : Nat) : Int)) = (-12000 + (p : Int)) + 1 := by omega
  simp only [hq] at hp2
  rw [ny_succ] at hp2
  generalize -12000 + (p : Int) = y at hp1 hp2
  obtain ⟨k, hk, c1, c2⟩ := step_find (fun k => ny y + cum (feb y) k) day (by simpa [cum] using hp1) 12 (by show day < ny y + cum (feb y) 12; rw [cum_12]; omega)
  refine ⟨y, k, day - ny y - cum (feb y) k + 1, ⟨hk, by omega, ?_⟩, by unfold dayOf; omega⟩
  have hc : cum (feb y) (k + 1) = cum (feb y) k + len (feb y) k := by simp [cum]
  rw [hc] at c2
  omega
/-- a moment: the day, its year, its month less one, its day in the month -/
structure Mm where
  day : Int
  y : Int
  k : Nat
  d : Int
abbrev Mm.cells (m : Mm) : Array Value := #[.int .i64 m.day, .int .i64 ((m.day - 1) % 7), .int .i64 m.y, .int .i64 ((m.k : Int) + 1), .int .i64 m.d, .int .i64 (len (feb m.y) m.k)]
abbrev Mm.val (m : Mm) : Value := .agg m.cells
structure MmOk (m : Mm) : Prop where
  d1 : -4000000 ≤ m.day
  d2 : m.day ≤ 4000000
  v : valid m.y m.k m.d
  e : dayOf m.y m.k m.d = m.day
theorem MmOk.same {m n : Mm} (h : MmOk m) (g : MmOk n) (e : m.day = n.day) : m = n := by
  obtain ⟨a, b, c⟩ := dayOf_inj _ _ _ _ _ _ h.v g.v (by rw [h.e, g.e, e])
  obtain ⟨m1, m2, m3, m4⟩ := m
  obtain ⟨n1, n2, n3, n4⟩ := n
  simp_all
theorem mm_of (day : Int) (h1 : -4000000 ≤ day) (h2 : day ≤ 4000000) : ∃ m : Mm, m.day = day ∧ MmOk m := by
  obtain ⟨y, k, d, hv, he⟩ := date_of day h1 h2
  exact ⟨⟨day, y, k, d⟩, rfl, h1, h2, hv, he⟩

set_option maxHeartbeats 4000000 in
theorem crange_any (r : Rc) (a b : Int) (w : World) (hf1 : -4000000 ≤ r.fr) (hf2 : r.fr ≤ 4000000) : Calls Try.prog 36 #[r.val, .int .i64 a, .int .i64 b] w (Errs ((-4000000 ≤ a ∧ a ≤ 4000000) ∧ (-4000000 ≤ b ∧ b ≤ 4000000) ∧ a ≤ b ∧ b ≤ r.fr + 40000 ∧ b - a ≤ 3000) w) := by
  have HX := Lib.hid (Box.new w 24 r.cells)
  have HB := Lib.hid (below_alloc1 w (Obj.cells r.cells 24))
  by_cases a5 : -4000000 ≤ a ∧ a ≤ 4000000
  case neg =>
    have a5' : a < -4000000 ∨ 4000000 < a := by omega
    clear a5
    go_enter Try.func36, Try.ntmps36
    go_wp2_with (go_at_call 38; refine (is_no _ _ a5').mono ?_; rintro e w' ⟨rfl, rfl⟩)
    go_ret
    exact Errs.no (by omega) (by omega) HB.out
  have HIf := Lib.hid (fun w => is_yes a w a5.1 a5.2)
  by_cases a6 : -4000000 ≤ b ∧ b ≤ 4000000
  case neg =>
    have a6' : b < -4000000 ∨ 4000000 < b := by omega
    have A5 := Lib.hid a5
    clear a6 a5
    go_enter Try.func36, Try.ntmps36
    go_wp2_with (first
      | (go_at_call 38; ((with_reducible refine (HIf.out _).mono ?_)); rintro e w' ⟨rfl, rfl⟩)
      | (go_at_call 38; ((with_reducible refine (is_no b _ a6').mono ?_)); rintro e w' ⟨rfl, rfl⟩))
    go_ret
    exact Errs.no (by omega) (by omega) HB.out
  have HIu := Lib.hid (fun w => is_yes b w a6.1 a6.2)
  have k1 := a5.1
  have k2 := a5.2
  have k3 := a6.1
  have k4 := a6.2
  clear a5 a6
  by_cases a7 : b < a
  · have t7 : decide (b < a) = true := decide_eq_true a7
    go_enter Try.func36, Try.ntmps36
    go_wp2_with (first
      | (go_at_call 38; ((with_reducible refine (HIf.out _).mono ?_)); rintro e w' ⟨rfl, rfl⟩)
      | (go_at_call 38; ((with_reducible refine (HIu.out _).mono ?_)); rintro e w' ⟨rfl, rfl⟩))
    go_ret
    exact Errs.no (by omega) (by omega) HB.out
  have t7 : decide (b < a) = false := decide_eq_false a7
  by_cases a8 : r.fr + 40000 < b
  · have t8 : decide (r.fr + 40000 < b) = true := decide_eq_true a8
    go_enter Try.func36, Try.ntmps36
    go_wp2_with (first
      | (go_at_call 38; ((with_reducible refine (HIf.out _).mono ?_)); rintro e w' ⟨rfl, rfl⟩)
      | (go_at_call 38; ((with_reducible refine (HIu.out _).mono ?_)); rintro e w' ⟨rfl, rfl⟩))
    go_ret
    exact Errs.no (by omega) (by omega) HB.out
  have t8 : decide (r.fr + 40000 < b) = false := decide_eq_false a8
  by_cases a9 : 3000 < b - a
  · have t9 : decide (3000 < b - a) = true := decide_eq_true a9
    go_enter Try.func36, Try.ntmps36
    go_wp2_with (first
      | (go_at_call 38; ((with_reducible refine (HIf.out _).mono ?_)); rintro e w' ⟨rfl, rfl⟩)
      | (go_at_call 38; ((with_reducible refine (HIu.out _).mono ?_)); rintro e w' ⟨rfl, rfl⟩))
    go_ret
    exact Errs.no (by omega) (by omega) HB.out
  have t9 : decide (3000 < b - a) = false := decide_eq_false a9
  go_enter Try.func36, Try.ntmps36
  go_wp2_with (first
    | (go_at_call 38; ((with_reducible refine (HIf.out _).mono ?_)); rintro e w' ⟨rfl, rfl⟩)
    | (go_at_call 38; ((with_reducible refine (HIu.out _).mono ?_)); rintro e w' ⟨rfl, rfl⟩))
  go_ret
  exact Errs.ok (by omega) HB.out

set_option maxHeartbeats 400000 in
set_option maxRecDepth 2000 in
theorem run_lens (f : Int) (k : Nat) (hk : k < 12) (W : World) : (Instr.index 153 (.agg #[.int .i64 31, .int .i64 f, .int .i64 31, .int .i64 30, .int .i64 31, .int .i64 30, .int .i64 31, .int .i64 31, .int .i64 30, .int .i64 31, .int .i64 30, .int .i64 31]) (.int .i64 (k : Int))).run Try.prog W = .ok (.int .i64 (len f k)) W := by
  match k, hk with
  | 0, _ | 1, _ | 2, _ | 3, _ | 4, _ | 5, _ | 6, _ | 7, _ | 8, _ | 9, _ | 10, _ | 11, _ => simp [Instr.index, run_underlying Try.underlying153, asIntOf, go_sem, len, lens]
end Go.Proofs.Ytfindembancjdaa
