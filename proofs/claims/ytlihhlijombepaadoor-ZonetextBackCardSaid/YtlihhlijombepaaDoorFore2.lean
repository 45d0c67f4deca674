/- Contracts of package forecast: day, changes, Year. -/
import Derived.Test.YtlihhlijombepaaDoorFore1
import Derived.Test.YtlihhlijombepaaDoorLine4
import Derived.Deep.RegionHeld3
import Derived.Deep.AppendLies
import Derived.OwnWalk
namespace Go.Proofs.YtlihhlijombepaaDoor
open Go.RowKit
set_option linter.unusedVariables false

theorem own_below {w w' : World} {base : Nat} {e : TypeId} {s : Nat} {v : Value} {n : Nat} {xs : List Value} (h : w.ownsRow base e s v n xs) (hb : Below w.heap.size w w') : w'.ownsRow base e s v n xs := by
  refine ⟨h.1, ?_⟩
  rcases h.2 with hn | ⟨g, cap, cur, hv, hbb, hg, rest⟩
  · exact .inl hn
  · refine .inr ⟨g, cap, cur, hv, hbb, ?_, rest⟩
    have hlt : g < w.heap.size := by
      rcases Nat.lt_or_ge g w.heap.size with hlt | hge
      · exact hlt
      · rw [Array.getElem?_eq_none hge] at hg; cases hg
    rw [hb.block g hlt]; exact hg
set_option maxRecDepth 100000 in
theorem index12 (f : Int) (k : Nat) (hk : k < 12) (W : World) : (Instr.index 187 (.agg #[.int .i64 31, .int .i64 f, .int .i64 31, .int .i64 30, .int .i64 31, .int .i64 30, .int .i64 31, .int .i64 31, .int .i64 30, .int .i64 31, .int .i64 30, .int .i64 31]) (.int .i64 (k : Int))).run Tryd.prog W = .ok (.int .i64 (len f k)) W := by
  have h : k = 0 ∨ k = 1 ∨ k = 2 ∨ k = 3 ∨ k = 4 ∨ k = 5 ∨ k = 6 ∨ k = 7 ∨ k = 8 ∨ k = 9 ∨ k = 10 ∨ k = 11 := by omega
  rcases h with rfl | rfl | rfl | rfl | rfl | rfl | rfl | rfl | rfl | rfl | rfl | rfl <;> (first | rfl | (show _ = _; kernel_rfl))
theorem first_in (y : Int) (k : Nat) (h1 : -10000 ≤ y) (h2 : y ≤ 10000) (hk : k < 12) : -3660000 ≤ dayOf y k 1 ∧ dayOf y k 1 ≤ 3660000 := by
  have hf := feb_or y
  have := dayOf_in y k 1 ⟨hk, by omega, by have := len_pos (feb y) (by omega) k hk; omega⟩
  unfold ny at this
  omega

set_option maxHeartbeats 2000000 in
set_option maxRecDepth 100000 in
theorem fday_any (y : Int) (k : Nat) (wk wd ms o : Int) (l : ByteArray) (w : World) (h1 : -10000 ≤ y) (h2 : y ≤ 10000) (hk : k < 12) (h3 : 1 ≤ wk) (h4 : wk ≤ 5) (h5 : 0 ≤ wd) (h6 : wd ≤ 6) :
    Calls Tryd.prog 104 #[.agg #[.int .i64 ((k : Int) + 1), .int .i64 wk, .int .i64 wd, .int .i64 ms, .int .i64 o, .string l], .int .i64 y] w fun e w' => e = .returned (.int .i64 (foreDay y k wk wd)) ∧ Below w.heap.size w w' := by
  have hf := feb_or y
  have hl := len_pos (feb y) (by omega) k hk
  have hl' := len_le (feb y) (by omega) k
  have hd := first_in y k h1 h2 hk
  have HD := Lib.hid (fun w => day_yes y k 1 w h1 h2 ⟨hk, by omega, by omega⟩)
  have HI := Lib.hid (index12 (feb y) k hk)
  have HL := Lib.hid (fun w => lengths_any y w)
  obtain ⟨d1, d2⟩ := hd
  have HF : Hid (foreDay y k wk wd = if wk = 5 then dayOf y k 1 + len (feb y) k - 1 - (dayOf y k 1 + len (feb y) k - 1 - 1 - wd) % 7 else dayOf y k 1 + (wd - (dayOf y k 1 - 1)) % 7 + 7 * (wk - 1)) := rfl
  generalize foreDay y k wk wd = FD at *
  generalize dayOf y k 1 = D at *
  generalize len (feb y) k = L at *
  generalize feb y = f at *
  clear hf
  go_enter Tryd.func104, Tryd.ntmps104
  go_wp2_with fail
  refine (HD.out _).mono ?_
  rintro e w1 ⟨rfl, hb1⟩
  have hB := Lib.hid (below_next (Below.refl _ _) hb1)
  have hx := (Box.new w 56 #[.int .i64 ((k : Int) + 1), .int .i64 wk, .int .i64 wd, .int .i64 ms, .int .i64 o, .string l]).below hb1
  clear hb1
  have hxl := hx.lt
  have x0 : w1.cell? ⟨w.heap.size, 0, none⟩ = some (.int .i64 ((k : Int) + 1)) := hx.cell 0
  have x1 : w1.cell? ⟨w.heap.size, 1, none⟩ = some (.int .i64 wk) := hx.cell 1
  have x2 : w1.cell? ⟨w.heap.size, 2, none⟩ = some (.int .i64 wd) := hx.cell 2
  obtain ⟨g, hg⟩ : ∃ g, g = w.heap.size := ⟨_, rfl⟩
  rw [← hg] at hx hxl x0 x1 x2
  rw [← hg]
  have HG := Lib.hid hg
  clear hg
  by_cases h5' : wk = 5
  · subst h5'
    rw [if_pos rfl] at HF
    have t5 : ((5 : Int) == 5) = true := rfl
    go_wp2_with fail
    have hwk : IntKind.i64.wrap (k : Int) = (k : Int) := IntWalk.i64_in _ (by omega)
    have hw1 : IntKind.i64.wrap (D + L) = D + L := IntWalk.i64_in _ (by omega)
    have hw2 : IntKind.i64.wrap (D + L - 1) = D + L - 1 := IntWalk.i64_in _ (by omega)
    have hi := HI.out
    go_region_held3 (fun w' => w'.cell? ⟨g, 0, none⟩ = some (.int .i64 ((k : Int) + 1))) (go_keep)
      (first | (go_at_call 133; refine (HL.out _).mono ?_; rintro e w2 ⟨rfl, hb2⟩; have hx2 : Box w2 g _ _ := (hb2.block g hxl).trans hx; have z0 : w2.cell? ⟨g, 0, none⟩ = some (.int .i64 ((k : Int) + 1)) := hx2.cell 0))
    clear hi hwk hw1 hw2 x0 x1 x2
    have z2 : w2.cell? ⟨g, 2, none⟩ = some (.int .i64 wd) := hx2.cell 2
    have hB2 := Lib.hid (below_then hB.out (show Below w1.heap.size w1 w2 from ⟨hb2.os, hb2.tape, hb2.output, hb2.size, hb2.block⟩))
    go_wp2_with fail
    refine (nth_neg (D + L - 1) wd (-1) _ (by omega) (by omega) (by omega) (by omega) (by omega) (by omega) (by omega)).mono ?_
    rintro e w3 ⟨rfl, n3, rfl⟩
    go_wp2_with fail
    go_ret
    exact ⟨by rw [HF.out]; rfl, below_drew hB2.out _⟩
  · rw [if_neg h5'] at HF
    have t5 : (wk == 5) = false := by simpa using h5'
    go_wp2_with fail
    refine (nth_pos D wd wk _ (by omega) (by omega) (by omega) (by omega) (by omega) (by omega) (by omega)).mono ?_
    rintro e w3 ⟨rfl, n3, rfl⟩
    go_wp2_with fail
    go_ret
    exact ⟨by rw [HF.out]; rfl, below_drew hB.out _⟩
end Go.Proofs.YtlihhlijombepaaDoor
