/- Line1, Line2, Line3 -/
import Derived.Test.YtonhmgdokghoeaaDoorGWhole1
import Derived.Test.YtonhmgdokghoeaaDoorGPlainDate
/- Contracts of the laws' own mod and cut, and of package line: Is, Check, weekday, Weekday, Nth, Cycle, Instant, Split, IsInstant. -/
namespace Go.Proofs.YtonhmgdokghoeaaDoor
open Go.RowKit
set_option linter.unusedVariables false

theorem tmod_add_emod (a n : Int) (h : 1 ≤ n) : (a.tmod n + n) % n = a % n := by
  have h1 := Int.mul_tdiv_add_tmod a n
  rw [Int.add_emod_right]
  have : a.tmod n = a - n * a.tdiv n := by omega
  rw [this, Int.sub_mul_emod_self_left]

theorem is_yes (d : Int) (w : World) (h1 : -4000000 ≤ d) (h2 : d ≤ 4000000) :
    Calls Tryd.prog 16 #[.int .i64 d] w fun e w' => e = .returned (.bool true) ∧ w = w' := by
  go_enter Tryd.func16, Tryd.ntmps16
  go_wp2
  go_ret
  exact ⟨rfl, rfl⟩

theorem is_no (d : Int) (w : World) (h1 : d < -4000000 ∨ 4000000 < d) :
    Calls Tryd.prog 16 #[.int .i64 d] w fun e w' => e = .returned (.bool false) ∧ w = w' := by
  rcases h1 with h | h
  · go_enter Tryd.func16, Tryd.ntmps16
    go_wp2
    go_ret
    exact ⟨rfl, rfl⟩
  · have hd : decide (d ≤ 4000000) = false := by simp; omega
    go_enter Tryd.func16, Tryd.ntmps16
    go_wp2
    go_ret
    exact ⟨rfl, rfl⟩

theorem linecheck_yes (d : Int) (w : World) (h1 : -4000000 ≤ d) (h2 : d ≤ 4000000) :
    Calls Tryd.prog 30 #[.int .i64 d] w fun e w' => e = .returned (.int .i64 0) ∧ w = w' := by
  go_enter Tryd.func30, Tryd.ntmps30
  go_wp2_with (go_at_call 16; refine (is_yes _ _ h1 h2).mono ?_; rintro e w' ⟨rfl, rfl⟩)
  go_ret
  exact ⟨rfl, rfl⟩

theorem linecheck_no (d : Int) (w : World) (h1 : d < -4000000 ∨ 4000000 < d) :
    Calls Tryd.prog 30 #[.int .i64 d] w fun e w' => e = .returned (.int .i64 3) ∧ w = w' := by
  go_enter Tryd.func30, Tryd.ntmps30
  go_wp2_with (go_at_call 16; refine (is_no _ _ h1).mono ?_; rintro e w' ⟨rfl, rfl⟩)
  go_ret
  exact ⟨rfl, rfl⟩

end Go.Proofs.YtonhmgdokghoeaaDoor

/- Contracts of package line: Leap, NewYear, Lengths. -/
namespace Go.Proofs.YtonhmgdokghoeaaDoor
open Go.RowKit
set_option linter.unusedVariables false

theorem tmod_zero (y n : Int) : (y.tmod n = 0) ↔ (y % n = 0) := by
  rw [← Int.dvd_iff_tmod_eq_zero, Int.dvd_iff_emod_eq_zero]

theorem leap_yes (y : Int) (w : World) (h : leapB y = true) :
    Calls Tryd.prog 34 #[.int .i64 y] w fun e w' => e = .returned (.bool true) ∧ w = w' := by
  have H := Lib.hid h
  clear h
  have h0 := H.out
  simp only [leapB, decide_eq_true_eq] at h0
  have t1 : (y.tmod 4 == 0) = true := by rw [beq_iff_eq, tmod_zero]; exact h0.1
  by_cases h2 : y % 100 = 0
  · have t2 : (y.tmod 100 != 0) = false := by rw [bne_eq_false_iff_eq, tmod_zero]; exact h2
    have t3 : (y.tmod 400 == 0) = true := by rw [beq_iff_eq, tmod_zero]; omega
    clear h0 h2
    go_enter Tryd.func34, Tryd.ntmps34
    go_wp2
    go_ret
    exact ⟨rfl, rfl⟩
  · have t2 : (y.tmod 100 != 0) = true := by rw [bne_iff_ne, ne_eq, tmod_zero]; exact h2
    clear h0 h2
    go_enter Tryd.func34, Tryd.ntmps34
    go_wp2
    go_ret
    exact ⟨rfl, rfl⟩

theorem leap_no (y : Int) (w : World) (h : leapB y = false) :
    Calls Tryd.prog 34 #[.int .i64 y] w fun e w' => e = .returned (.bool false) ∧ w = w' := by
  have H := Lib.hid h
  clear h
  have h0 := H.out
  simp only [leapB, decide_eq_false_iff_not] at h0
  by_cases h1 : y % 4 = 0
  · have t1 : (y.tmod 4 == 0) = true := by rw [beq_iff_eq, tmod_zero]; exact h1
    have t2 : (y.tmod 100 != 0) = false := by rw [bne_eq_false_iff_eq, tmod_zero]; omega
    have t3 : (y.tmod 400 == 0) = false := by rw [beq_eq_false_iff_ne, ne_eq, tmod_zero]; omega
    clear h0 h1
    go_enter Tryd.func34, Tryd.ntmps34
    go_wp2
    go_ret
    exact ⟨rfl, rfl⟩
  · have t1 : (y.tmod 4 == 0) = false := by rw [beq_eq_false_iff_ne, ne_eq, tmod_zero]; exact h1
    clear h0 h1
    go_enter Tryd.func34, Tryd.ntmps34
    go_wp2
    go_ret
    exact ⟨rfl, rfl⟩

theorem ny_any (y : Int) (w : World) (h1 : -20000 ≤ y) (h2 : y ≤ 20000) :
    Calls Tryd.prog 32 #[.int .i64 y] w fun e w' => e = .returned (.int .i64 (ny y)) ∧ ∃ n, w' = w.drewN n := by
  go_enter Tryd.func32, Tryd.ntmps32
  go_wp2_with (go_at_call 31; refine (down_pos _ _ _ (by omega) (by omega) (by omega) (by omega)).mono ?_; rintro e w' ⟨rfl, n, rfl⟩)
  go_ret
  exact ⟨rfl, _, rfl⟩

theorem lengths_any (y : Int) (w : World) :
    Calls Tryd.prog 21 #[.int .i64 y] w fun e w' => e = .returned (.agg #[.int .i64 31, .int .i64 (feb y), .int .i64 31, .int .i64 30, .int .i64 31, .int .i64 30, .int .i64 31, .int .i64 31, .int .i64 30, .int .i64 31, .int .i64 30, .int .i64 31]) ∧ Below w.heap.size w w' := by
  unfold feb
  by_cases h : leapB y = true
  · rw [if_pos h]
    go_enter Tryd.func21, Tryd.ntmps21
    go_wp2_with (go_at_call 34; refine (leap_yes _ _ h).mono ?_; rintro e w' ⟨rfl, rfl⟩)
    refine bodyPost_ret (v := .agg #[.int .i64 31, .int .i64 29, .int .i64 31, .int .i64 30, .int .i64 31, .int .i64 30, .int .i64 31, .int .i64 31, .int .i64 30, .int .i64 31, .int .i64 30, .int .i64 31]) (by simp [results, Tryd.results21, go_sem]) rfl ⟨rfl, ?_⟩
    exact ((Below.refl _ _).alloc (Nat.le_refl _) _).alloc (by simp) _
  · rw [if_neg h]
    have h' : leapB y = false := by simpa using h
    go_enter Tryd.func21, Tryd.ntmps21
    go_wp2_with (go_at_call 34; refine (leap_no _ _ h').mono ?_; rintro e w' ⟨rfl, rfl⟩)
    refine bodyPost_ret (v := .agg #[.int .i64 31, .int .i64 28, .int .i64 31, .int .i64 30, .int .i64 31, .int .i64 30, .int .i64 31, .int .i64 31, .int .i64 30, .int .i64 31, .int .i64 30, .int .i64 31]) (by simp [results, Tryd.results21, go_sem]) rfl ⟨rfl, ?_⟩
    exact ((Below.refl _ _).alloc (Nat.le_refl _) _).alloc (by simp) _
end Go.Proofs.YtonhmgdokghoeaaDoor

/- Contract of line.Date. -/
namespace Go.Proofs.YtonhmgdokghoeaaDoor
open Go.RowKit
set_option linter.unusedVariables false

/-- What Date says of a day: a valid date on it. -/
def IsDate (day : Int) (w : World) (e : Ending) (w' : World) : Prop :=
  ∃ (y : Int) (k : Nat) (d : Int), e = .returned (.tuple #[.agg #[.int .i64 y, .int .i64 ((k : Int) + 1), .int .i64 d], .int .i64 0]) ∧ valid y k d ∧ dayOf y k d = day ∧ Below w.heap.size w w'

theorem cell_lens (wr : World) (g : Nat) (f : Int) (h : wr.heap[g]? = some (.cells #[.int .i64 31, .int .i64 f, .int .i64 31, .int .i64 30, .int .i64 31, .int .i64 30, .int .i64 31, .int .i64 31, .int .i64 30, .int .i64 31, .int .i64 30, .int .i64 31] 51 (0, 0))) (k : Nat) (hk : k < 12) : wr.cell? ⟨g, k, none⟩ = some (.int .i64 (len f k)) := by
  rw [cell_of_row wr g k _ _ _ h]
  match k, hk with
  | 0, _ | 1, _ | 2, _ | 3, _ | 4, _ | 5, _ | 6, _ | 7, _ | 8, _ | 9, _ | 10, _ | 11, _ => rfl

set_option maxHeartbeats 1000000 in
theorem date_any (day : Int) (w : World) (h1 : -4000000 ≤ day) (h2 : day ≤ 4000000) :
    Calls Tryd.prog 19 #[.int .i64 day] w (IsDate day w) := by
  have g1 : -11000 ≤ (day - 1) * 400 / 146097 := by omega
  have g2 : (day - 1) * 400 / 146097 ≤ 11000 := by omega
  go_enter Tryd.func19, Tryd.ntmps19
  go_wp2_with (first
    | (go_at_call 30; refine (linecheck_yes _ _ h1 h2).mono ?_; rintro e w' ⟨rfl, rfl⟩)
    | (go_at_call 31; refine (down_pos _ _ _ (by omega) (by omega) (by omega) (by omega)).mono ?_; rintro e w' ⟨rfl, n, rfl⟩))
  generalize hW : w.alloc (Obj.cells #[.int .i64 0, .int .i64 0, .int .i64 0] 39) = W0
  have HW := Lib.hid hW
  clear hW
  go_loopw [5] (fun t wr => ∃ (y : Int) (n : Nat), -11000 ≤ y ∧ y ≤ 11001 ∧ t = .int .i64 y ∧ wr = W0.drewN n) (fun t _ => (intOf t + 20000).toNat)
  case atStart => exact ⟨_, _, by omega, by omega, rfl, rfl⟩
  case round =>
    obtain ⟨y, n1, hy1, hy2, rfl, rfl⟩ := hrel
    have hb := ny_lo y (by omega) (by omega)
    by_cases hc : day < ny y
    · have hlo := ny_bounds y (by omega)
      go_wp2_with (go_at_call 32; refine (ny_any _ _ (by omega) (by omega)).mono ?_; rintro e w' ⟨rfl, n, rfl⟩)
      go_roundw
      case rel => exact ⟨y - 1, _, by omega, by omega, rfl, rfl⟩
      case measure => simp [intOf]; omega
    · have hcd : decide (day < ny y) = false := decide_eq_false hc
      go_wp2_with (go_at_call 32; refine (ny_any _ _ (by omega) (by omega)).mono ?_; rintro e w' ⟨rfl, n, rfl⟩)
      clear hcd
      go_loopw [5] (fun t wr => ∃ (y : Int) (n : Nat), -11000 ≤ y ∧ y ≤ 11001 ∧ ny y ≤ day ∧ t = .int .i64 y ∧ wr = W0.drewN n) (fun t _ => (20000 - intOf t).toNat)
      case atStart => exact ⟨_, _, by omega, by omega, by omega, rfl, rfl⟩
      case round =>
        clear hb hc hy1 hy2
        obtain ⟨y, n1, hy1, hy2, hle, rfl, rfl⟩ := hrel
        have hb := ny_lo (y + 1) (by omega) (by omega)
        have hb' := ny_lo y (by omega) (by omega)
        by_cases hc : ny (y + 1) ≤ day
        · have hlo := ny_bounds' (y + 1) (by omega)
          go_wp2_with (go_at_call 32; refine (ny_any _ _ (by omega) (by omega)).mono ?_; rintro e w' ⟨rfl, n, rfl⟩)
          go_roundw
          case rel => exact ⟨y + 1, _, by omega, by omega, hc, rfl, rfl⟩
          case measure => simp [intOf]; omega
        · have hcd : decide (ny (y + 1) ≤ day) = false := decide_eq_false hc
          go_wp2_with (first
            | (go_at_call 32; refine (ny_any _ _ (by omega) (by omega)).mono ?_; rintro e w' ⟨rfl, n, rfl⟩)
            | (go_at_call 21; refine (lengths_any _ _).mono ?_; rintro e w1 ⟨rfl, hb1⟩))
          clear hcd
          have hs := ny_succ y
          have hf := feb_or y
          have hdt : day < ny y + 337 + feb y := by omega
          generalize hfe : feb y = f at *
          have Hfe := Lib.hid hfe
          clear hfe hs
          have hz := hb1.size
          have hbw : Below W0.heap.size W0 (w1.alloc (Obj.cells #[.int .i64 31, .int .i64 f, .int .i64 31, .int .i64 30, .int .i64 31, .int .i64 30, .int .i64 31, .int .i64 31, .int .i64 30, .int .i64 31, .int .i64 30, .int .i64 31] 51)) := (below_drew (Below.refl W0.heap.size W0) _).trans (hb1.alloc hb1.size _)
          go_loopw [6, 7, 8] (fun r m p wr => ∃ (k g : Nat), k < 12 ∧ m = .int .i64 k ∧ r = .int .i64 (day - ny y - cum f k) ∧ 0 ≤ day - ny y - cum f k ∧ p = .pointer (some ⟨g, 0, none⟩) ∧ W0.heap.size ≤ g ∧ wr.heap[g]? = some (.cells #[.int .i64 31, .int .i64 f, .int .i64 31, .int .i64 30, .int .i64 31, .int .i64 30, .int .i64 31, .int .i64 31, .int .i64 30, .int .i64 31, .int .i64 30, .int .i64 31] 51 (0, 0)) ∧ Below W0.heap.size W0 wr) (fun _ m _ _ => (12 - intOf m).toNat)
          case atStart => exact ⟨0, _, by omega, rfl, by simp [cum], by simp [cum]; omega, rfl, by simpa using hz, heap_alloc_new _ _, hbw⟩
          case round =>
            clear hbw hb1 hz
            obtain ⟨k, g, hk, rfl, rfl, hr, rfl, hg, hbk, hbw⟩ := hrel
            have hcell := cell_lens wr g f hbk k hk
            have hp := len_pos f (by omega) k hk
            have hu := len_le f (by omega) k
            have cs : Hid (cum f (k + 1) = cum f k + len f k) := rfl
            have hcu : 0 ≤ cum f k := by have := cum_mono f (by omega) 0 k (by omega); simpa [cum] using this
            have k1 : (0 : Int) ≤ (k : Int) := by omega
            have k2 : (k : Int) < 12 := by omega
            by_cases hc : len f k ≤ day - ny y - cum f k
            · have hk1 : k + 1 < 12 := by
                rcases Nat.lt_or_ge (k + 1) 12 with g | g
                · exact g
                · exfalso
                  have h11 : k = 11 := by omega
                  subst h11
                  have c12 : cum f (11 + 1) = 337 + f := cum_12 f
                  have := cs.out
                  omega
              go_wp2_with (refine wpList_load_row rfl 51 _ rfl g rfl _ _ _ _ hbk Tryd.underlying51 rfl (by kernel_rfl) ?_)
              go_roundw
              case rel => exact ⟨k + 1, _, hk1, by go_num, by rw [cs.out]; go_num, by rw [cs.out]; omega, rfl, Nat.le_trans hbw.size (by simp), heap_alloc_new _ _, hbw.alloc hbw.size _⟩
              case measure => simp [intOf]; omega
            · have hz0 : w.heap.size < W0.heap.size := by rw [← HW.out]; simp
              have f0 : ∀ j, wr.frozen? ⟨w.heap.size, j, none⟩ = false := fun j => by
                rw [hbw.frozen (p := ⟨w.heap.size, j, none⟩) hz0, ← HW.out]; exact frozen_of_row _ _ _ _ _ (heap_alloc_new _ _)
              have c0 : wr.cell? ⟨w.heap.size, 0, none⟩ = some (.int .i64 0) := by rw [hbw.cell (p := ⟨w.heap.size, 0, none⟩) hz0, ← HW.out]; simp [go_sem]
              have c1 : wr.cell? ⟨w.heap.size, 1, none⟩ = some (.int .i64 0) := by rw [hbw.cell (p := ⟨w.heap.size, 1, none⟩) hz0, ← HW.out]; simp [go_sem]
              have c2 : wr.cell? ⟨w.heap.size, 2, none⟩ = some (.int .i64 0) := by rw [hbw.cell (p := ⟨w.heap.size, 2, none⟩) hz0, ← HW.out]; simp [go_sem]
              go_wp2_with fail
              refine bodyPost_ret (v := .tuple #[.agg #[.int .i64 y, .int .i64 ((k : Int) + 1), .int .i64 (day - ny y - cum f k + 1)], .int .i64 0]) (by simp [results, Tryd.results19, go_sem, c0, c1, c2]) rfl ?_
              refine ⟨y, k, day - ny y - cum f k + 1, rfl, ⟨hk, by omega, by rw [Hfe.out]; omega⟩, by unfold dayOf; rw [Hfe.out]; omega, ?_⟩
              have hbz : Below w.heap.size w wr := ((HW.out ▸ (Below.refl _ _).alloc (Nat.le_refl _) _ : Below w.heap.size w W0)).trans (hbw.mono (by omega))
              exact ((hbz.setCell (by simp) _).setCell (by simp) _).setCell (by simp) _
end Go.Proofs.YtonhmgdokghoeaaDoor
