/- Contract of line.Date. -/
import Derived.Test.YtfindembancjdaaLine2
namespace Go.Proofs.Ytfindembancjdaa
open Go.RowKit
set_option linter.unusedVariables false

/-- What Date says of a day: a valid date on it. -/
def IsDate (day : Int) (w : World) (e : Ending) (w' : World) : Prop :=
  ∃ (y : Int) (k : Nat) (d : Int), e = .returned (.tuple #[.agg #[.int .i64 y, .int .i64 ((k : Int) + 1), .int .i64 d], .int .i64 0]) ∧ valid y k d ∧ dayOf y k d = day ∧ Below w.heap.size w w'

theorem cell_lens (wr : World) (g : Nat) (f : Int) (h : wr.heap[g]? = some (.cells #[.int .i64 31, .int .i64 f, .int .i64 31, .int .i64 30, .int .i64 31, .int .i64 30, .int .i64 31, .int .i64 31, .int .i64 30, .int .i64 31, .int .i64 30, .int .i64 31] 153 (0, 0))) (k : Nat) (hk : k < 12) : wr.cell? ⟨g, k, none⟩ = some (.int .i64 (len f k)) := by
  rw [cell_of_row wr g k _ _ _ h]
  match k, hk with
  | 0, _ | 1, _ | 2, _ | 3, _ | 4, _ | 5, _ | 6, _ | 7, _ | 8, _ | 9, _ | 10, _ | 11, _ => rfl

set_option maxHeartbeats 1000000 in
theorem date_any (day : Int) (w : World) (h1 : -4000000 ≤ day) (h2 : day ≤ 4000000) :
    Calls Try.prog 98 #[.int .i64 day] w (IsDate day w) := by
  have g1 : -11000 ≤ (day - 1) * 400 / 146097 := by omega
  have g2 : (day - 1) * 400 / 146097 ≤ 11000 := by omega
  go_enter Try.func98, Try.ntmps98
  go_wp2_with (first
    | (go_at_call 48; refine (linecheck_yes _ _ h1 h2).mono ?_; rintro e w' ⟨rfl, rfl⟩)
    | (go_at_call 81; refine (down_pos _ _ _ (by omega) (by omega) (by omega) (by omega)).mono ?_; rintro e w' ⟨rfl, n, rfl⟩))
  generalize hW : w.alloc (Obj.cells #[.int .i64 0, .int .i64 0, .int .i64 0] 44) = W0
  have HW := Lib.hid hW
  clear hW
  go_loopw [5] (fun t wr => ∃ (y : Int) (n : Nat), -11000 ≤ y ∧ y ≤ 11001 ∧ t = .int .i64 y ∧ wr = W0.drewN n) (fun t _ => (intOf t + 20000).toNat)
  case atStart => exact ⟨_, _, by omega, by omega, rfl, rfl⟩
  case round =>
    obtain ⟨y, n1, hy1, hy2, rfl, rfl⟩ := hrel
    have hb := ny_lo y (by omega) (by omega)
    by_cases hc : day < ny y
    · have hlo := ny_bounds y (by omega)
      go_wp2_with (go_at_call 112; refine (ny_any _ _ (by omega) (by omega)).mono ?_; rintro e w' ⟨rfl, n, rfl⟩)
      go_roundw
      case rel => exact ⟨y - 1, _, by omega, by omega, rfl, rfl⟩
      case measure => simp [intOf]; omega
    · have hcd : decide (day < ny y) = false := decide_eq_false hc
      go_wp2_with (go_at_call 112; refine (ny_any _ _ (by omega) (by omega)).mono ?_; rintro e w' ⟨rfl, n, rfl⟩)
      clear hcd
      go_loopw [5] (fun t wr => ∃ (y : Int) (n : Nat), -11000 ≤ y ∧ y ≤ 11001 ∧ ny y ≤ day ∧ t = .int .i64 y ∧ wr = W0.drewN n) (fun t _ => (20000 - intOf t).toNat)
      case atStart => exact ⟨_, _, by omega, by omega, by omega, rfl, rfl⟩
      case round =>
        clear hb hc hy1 hy2
        obtain ⟨y, n1, hy1, hy2, hle, rfl, rfl⟩ := hrel
        have hb := ny_lo (y + 1) (by omega) (by omega)
        have hb' := ny_lo y (by omega) (by omega)
        by_cases hc : ny (y + 1) ≤ day
        · have hlo := ny_bounds' (y + 1) (by omega)
          go_wp2_with (go_at_call 112; refine (ny_any _ _ (by omega) (by omega)).mono ?_; rintro e w' ⟨rfl, n, rfl⟩)
          go_roundw
          case rel => exact ⟨y + 1, _, by omega, by omega, hc, rfl, rfl⟩
          case measure => simp [intOf]; omega
        · have hcd : decide (ny (y + 1) ≤ day) = false := decide_eq_false hc
          go_wp2_with (first
            | (go_at_call 112; refine (ny_any _ _ (by omega) (by omega)).mono ?_; rintro e w' ⟨rfl, n, rfl⟩)
            | (go_at_call 99; refine (lengths_any _ _).mono ?_; rintro e w1 ⟨rfl, hb1⟩))
          clear hcd
          have hs := ny_succ y
          have hf := feb_or y
          have hdt : day < ny y + 337 + feb y := by omega
          generalize hfe : feb y = f at *
          have Hfe := Lib.hid hfe
          clear hfe hs
          have hz := hb1.size
          have hbw : Below W0.heap.size W0 (w1.alloc (Obj.cells #[.int .i64 31, .int .i64 f, .int .i64 31, .int .i64 30, .int .i64 31, .int .i64 30, .int .i64 31, .int .i64 31, .int .i64 30, .int .i64 31, .int .i64 30, .int .i64 31] 153)) := (below_drew (Below.refl W0.heap.size W0) _).trans (hb1.alloc hb1.size _)
          go_loopw [6, 7, 8] (fun r m p wr => ∃ (k g : Nat), k < 12 ∧ m = .int .i64 k ∧ r = .int .i64 (day - ny y - cum f k) ∧ 0 ≤ day - ny y - cum f k ∧ p = .pointer (some ⟨g, 0, none⟩) ∧ W0.heap.size ≤ g ∧ wr.heap[g]? = some (.cells #[.int .i64 31, .int .i64 f, .int .i64 31, .int .i64 30, .int .i64 31, .int .i64 30, .int .i64 31, .int .i64 31, .int .i64 30, .int .i64 31, .int .i64 30, .int .i64 31] 153 (0, 0)) ∧ Below W0.heap.size W0 wr) (fun _ m _ _ => (12 - intOf m).toNat)
          case atStart => exact ⟨0, _, by omega, rfl, by simp [cum], by simp [cum]; omega, rfl, by simpa using hz, heap_alloc_new _ _, hbw⟩
          case round =>
            clear hbw hb1 hz
            obtain ⟨k, g, hk, rfl, rfl, hr, rfl, hg, hbk, hbw⟩ := hrel
            have hcell := cell_lens wr g f hbk k hk
            have hp := len_pos f (by omega) k hk
            have hu := len_le f (by omega) k
            have cs : Hid (cum f (k + 1) = cum f k + len f k) := rfl
            have hcu : 0 ≤ cum f k := by have := cum_mono f (by omega) 0 k (by omega); simpa [cum] using this
            have k1 : (0 : Int) ≤ (k : Int) := by omega
            have k2 : (k : Int) < 12 := by omega
            by_cases hc : len f k ≤ day - ny y - cum f k
            · have hk1 : k + 1 < 12 := by
                rcases Nat.lt_or_ge (k + 1) 12 with g | g
                · exact g
                · exfalso
                  have h11 : k = 11 := by omega
                  subst h11
                  have c12 : cum f (11 + 1) = 337 + f := cum_12 f
                  have := cs.out
                  omega
              go_wp2_with (refine wpList_load_row rfl 153 _ rfl g rfl _ _ _ _ hbk Try.underlying153 rfl (by kernel_rfl) ?_)
              go_roundw
              case rel => exact ⟨k + 1, _, hk1, by go_num, by rw [cs.out]; go_num, by rw [cs.out]; omega, rfl, Nat.le_trans hbw.size (by simp), heap_alloc_new _ _, hbw.alloc hbw.size _⟩
              case measure => simp [intOf]; omega
            · have hz0 : w.heap.size < W0.heap.size := by rw [← HW.out]; simp
              have f0 : ∀ j, wr.frozen? ⟨w.heap.size, j, none⟩ = false := fun j => by
                rw [hbw.frozen (p := ⟨w.heap.size, j, none⟩) hz0, ← HW.out]; exact frozen_of_row _ _ _ _ _ (heap_alloc_new _ _)
              have c0 : wr.cell? ⟨w.heap.size, 0, none⟩ = some (.int .i64 0) := by rw [hbw.cell (p := ⟨w.heap.size, 0, none⟩) hz0, ← HW.out]; simp [go_sem]
              have c1 : wr.cell? ⟨w.heap.size, 1, none⟩ = some (.int .i64 0) := by rw [hbw.cell (p := ⟨w.heap.size, 1, none⟩) hz0, ← HW.out]; simp [go_sem]
              have c2 : wr.cell? ⟨w.heap.size, 2, none⟩ = some (.int .i64 0) := by rw [hbw.cell (p := ⟨w.heap.size, 2, none⟩) hz0, ← HW.out]; simp [go_sem]
              go_wp2_with fail
              refine bodyPost_ret (v := .tuple #[.agg #[.int .i64 y, .int .i64 ((k : Int) + 1), .int .i64 (day - ny y - cum f k + 1)], .int .i64 0]) (by simp [results, Try.results98, go_sem, c0, c1, c2]) rfl ?_
              refine ⟨y, k, day - ny y - cum f k + 1, rfl, ⟨hk, by omega, by rw [Hfe.out]; omega⟩, by unfold dayOf; rw [Hfe.out]; omega, ?_⟩
              have hbz : Below w.heap.size w wr := ((HW.out ▸ (Below.refl _ _).alloc (Nat.le_refl _) _ : Below w.heap.size w W0)).trans (hbw.mono (by omega))
              exact ((hbz.setCell (by simp) _).setCell (by simp) _).setCell (by simp) _
end Go.Proofs.Ytfindembancjdaa
