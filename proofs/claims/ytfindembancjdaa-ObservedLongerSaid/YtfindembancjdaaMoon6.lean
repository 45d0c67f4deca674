/- Contracts of lunisolar.ToDay (at a date that exists) and lunisolar.FromDay. -/
import Derived.Test.YtfindembancjdaaMoon5
namespace Go.Proofs.Ytfindembancjdaa
open Go.RowKit
set_option linter.unusedVariables false

set_option maxHeartbeats 2000000 in
set_option maxRecDepth 100000 in
theorem ToDay_yes (m : Mo) (y k d : Int) (w : World) (hm : MIn w m) (hf : MFit m) (ok : MOk m) (hy : IsY y) (h3 : 1 ≤ k) (h4 : k ≤ m.mon y) (d1 : IsD (m.beg y k)) (d2 : IsD (m.beg y (k + 1))) (h5 : 1 ≤ d) (h6 : d ≤ m.beg y (k + 1) - m.beg y k) :
    Calls Try.prog 21 #[m.val, .agg #[.int .i64 y, .int .i64 k, .int .i64 d]] w fun e w' => e = .returned (.tuple #[.int .i64 (m.beg y k + d - 1), .int .i64 0]) ∧ Below w.heap.size w w' := by
  have hy' := hy
  obtain ⟨h1, h2⟩ := hy'
  have hmo := ok.mon y
  have HAf := Lib.hid (fun W (hm : MIn W m) => After_any m y k W hm ok (by omega) (by omega) h3 (by omega))
  have hT : twoD (m.beg y k) (m.beg y (k + 1)) = true := decide_eq_true ⟨d1, d2⟩
  rw [hT] at HAf
  have HMo := Lib.hid (fun W (hm : MIn W m) => months_any m y W hm ok.c1 ok.c2 ok.lp (by omega) (by omega))
  have HCk := Lib.hid (fun W (hm : MIn W m) => mchecky_any m y W hm hf)
  have OK := Lib.hid (show MOk m ∧ IsY y from ⟨ok, hy⟩)
  unfold IsD at d1 d2
  clear hT ok hy
  generalize m.beg y (k + 1) = r1 at *
  generalize m.beg y k = r2 at *
  generalize m.mon y = n at *
  have hm1 := (hm.next (below_alloc1 w (Obj.cells m.cells 36))).next (below_alloc1 _ (Obj.cells #[.int .i64 y, .int .i64 k, .int .i64 d] 44))
  have hB1 := below_alloc2 w (Obj.cells m.cells 36) (Obj.cells #[.int .i64 y, .int .i64 k, .int .i64 d] 44)
  have hx1 := (Box.new w 36 m.cells).alloc (Obj.cells #[.int .i64 y, .int .i64 k, .int .i64 d] 44)
  have hd1 := Box.new (w.alloc (Obj.cells m.cells 36)) 44 #[.int .i64 y, .int .i64 k, .int .i64 d]
  rw [show (w.alloc (Obj.cells m.cells 36)).heap.size = w.heap.size + 1 from by simp] at hd1
  go_enter Try.func21, Try.ntmps21
  go_wp2_with fail
  generalize (w.alloc (Obj.cells m.cells 36)).alloc (Obj.cells #[.int .i64 y, .int .i64 k, .int .i64 d] 44) = W0 at *
  obtain ⟨g, hg⟩ : ∃ g, g = w.heap.size := ⟨_, rfl⟩
  rw [← hg] at hx1 hd1
  rw [← hg]
  clear hg
  refine (HCk.out _ hm1).mono ?_
  rintro e W1 ⟨E, rfl, hE, hb⟩
  obtain rfl : E = 0 := hE.2 OK.out
  clear hE
  replace hm1 := hm1.next hb
  replace hB1 := Lib.hid (below_then hB1 hb)
  replace hx1 := hx1.below hb
  replace hd1 := hd1.below hb
  clear hb HCk OK hm
  go_wp2_with fail
  have t1 : decide (k < 1) = false := decide_eq_false (by omega)
  have t2 : decide (n < k) = false := decide_eq_false (by omega)
  have HC : ∀ W, (Below W1.heap.size W1 W ∧ W.cell? ⟨g + 1, 0, none⟩ = some (.int .i64 y) ∧ W.cell? ⟨g + 1, 1, none⟩ = some (.int .i64 k) ∧ W.cell? ⟨g, 0, none⟩ = some (.string m.nm) ∧ W.cell? ⟨g, 1, none⟩ = some (.int .i64 m.ep) ∧ W.cell? ⟨g, 2, none⟩ = some (.int .i64 m.sn) ∧ W.cell? ⟨g, 3, none⟩ = some (.int .i64 m.sd) ∧ W.cell? ⟨g, 4, none⟩ = some (.int .i64 m.mn) ∧ W.cell? ⟨g, 5, none⟩ = some (.int .i64 m.md) ∧ W.cell? ⟨g, 6, none⟩ = some (.int .i64 m.ln) ∧ W.cell? ⟨g, 7, none⟩ = some (.int .i64 m.ld) ∧ W.cell? ⟨g, 8, none⟩ = some (.int .i64 m.cy) ∧ W.cell? ⟨g, 9, none⟩ = some (.slice m.A1 m.lp.length m.c1) ∧ W.cell? ⟨g, 10, none⟩ = some (.slice m.A2 m.av.length m.c2)) → Calls Try.prog 42 #[m.val, .int .i64 y] W fun e w' => e = .returned (.int .i64 n) ∧ (Below W1.heap.size W1 w' ∧ w'.cell? ⟨g + 1, 0, none⟩ = some (.int .i64 y) ∧ w'.cell? ⟨g + 1, 1, none⟩ = some (.int .i64 k) ∧ w'.cell? ⟨g, 0, none⟩ = some (.string m.nm) ∧ w'.cell? ⟨g, 1, none⟩ = some (.int .i64 m.ep) ∧ w'.cell? ⟨g, 2, none⟩ = some (.int .i64 m.sn) ∧ w'.cell? ⟨g, 3, none⟩ = some (.int .i64 m.sd) ∧ w'.cell? ⟨g, 4, none⟩ = some (.int .i64 m.mn) ∧ w'.cell? ⟨g, 5, none⟩ = some (.int .i64 m.md) ∧ w'.cell? ⟨g, 6, none⟩ = some (.int .i64 m.ln) ∧ w'.cell? ⟨g, 7, none⟩ = some (.int .i64 m.ld) ∧ w'.cell? ⟨g, 8, none⟩ = some (.int .i64 m.cy) ∧ w'.cell? ⟨g, 9, none⟩ = some (.slice m.A1 m.lp.length m.c1) ∧ w'.cell? ⟨g, 10, none⟩ = some (.slice m.A2 m.av.length m.c2)) :=
    calls_S (W0 := W1) (fun w' hb => ⟨hb, (hd1.below hb).cell 0, (hd1.below hb).cell 1, mcells (hx1.below hb)⟩) (fun w' h => h.1) (fun W hb => HMo.out W (hm1.next hb))
  have HC' := Lib.hid HC
  have hS0 : Below W1.heap.size W1 W1.drew ∧ W1.drew.cell? ⟨g + 1, 0, none⟩ = some (.int .i64 y) ∧ W1.drew.cell? ⟨g + 1, 1, none⟩ = some (.int .i64 k) ∧ W1.drew.cell? ⟨g, 0, none⟩ = some (.string m.nm) ∧ W1.drew.cell? ⟨g, 1, none⟩ = some (.int .i64 m.ep) ∧ W1.drew.cell? ⟨g, 2, none⟩ = some (.int .i64 m.sn) ∧ W1.drew.cell? ⟨g, 3, none⟩ = some (.int .i64 m.sd) ∧ W1.drew.cell? ⟨g, 4, none⟩ = some (.int .i64 m.mn) ∧ W1.drew.cell? ⟨g, 5, none⟩ = some (.int .i64 m.md) ∧ W1.drew.cell? ⟨g, 6, none⟩ = some (.int .i64 m.ln) ∧ W1.drew.cell? ⟨g, 7, none⟩ = some (.int .i64 m.ld) ∧ W1.drew.cell? ⟨g, 8, none⟩ = some (.int .i64 m.cy) ∧ W1.drew.cell? ⟨g, 9, none⟩ = some (.slice m.A1 m.lp.length m.c1) ∧ W1.drew.cell? ⟨g, 10, none⟩ = some (.slice m.A2 m.av.length m.c2) := ⟨below_drew (Below.refl _ _) 1, hd1.cell 0, hd1.cell 1, mcells hx1⟩
  clear HC HMo
  have HX := Lib.hid hx1
  have HD := Lib.hid hd1
  have HM := Lib.hid hm1
  clear hx1 hd1 hm1
  go_region_held3 (fun W => Below W1.heap.size W1 W ∧ W.cell? ⟨g + 1, 0, none⟩ = some (.int .i64 y) ∧ W.cell? ⟨g + 1, 1, none⟩ = some (.int .i64 k) ∧ W.cell? ⟨g, 0, none⟩ = some (.string m.nm) ∧ W.cell? ⟨g, 1, none⟩ = some (.int .i64 m.ep) ∧ W.cell? ⟨g, 2, none⟩ = some (.int .i64 m.sn) ∧ W.cell? ⟨g, 3, none⟩ = some (.int .i64 m.sd) ∧ W.cell? ⟨g, 4, none⟩ = some (.int .i64 m.mn) ∧ W.cell? ⟨g, 5, none⟩ = some (.int .i64 m.md) ∧ W.cell? ⟨g, 6, none⟩ = some (.int .i64 m.ln) ∧ W.cell? ⟨g, 7, none⟩ = some (.int .i64 m.ld) ∧ W.cell? ⟨g, 8, none⟩ = some (.int .i64 m.cy) ∧ W.cell? ⟨g, 9, none⟩ = some (.slice m.A1 m.lp.length m.c1) ∧ W.cell? ⟨g, 10, none⟩ = some (.slice m.A2 m.av.length m.c2)) (assumption)
    (first | (go_at_call 42; ((with_reducible refine (HC'.out _ (by assumption)).mono ?_)); rintro e w2 ⟨rfl, hs'⟩))
  have hb2 := hs'.1
  have hx2 := HX.out.below hb2
  have hd2 := HD.out.below hb2
  have hm2 := HM.out.next hb2
  have hB2 := Lib.hid (below_then hB1.out hb2)
  clear hS0 hs' hb2 HX HD HM hB1 HC'
  obtain ⟨x0, x1, x2, x3, x4, x5, x6, x7, x8, x9, x10⟩ := mcells hx2
  have y0 : w2.cell? ⟨g + 1, 0, none⟩ = some (.int .i64 y) := hd2.cell 0
  have y1 : w2.cell? ⟨g + 1, 1, none⟩ = some (.int .i64 k) := hd2.cell 1
  go_wp2_with fail
  refine (HAf.out _ hm2).mono ?_
  rintro e w3 ⟨rfl, hb3⟩
  have y2 : w3.cell? ⟨g + 1, 2, none⟩ = some (.int .i64 d) := (hd2.below hb3).cell 2
  have hB3 := Lib.hid (below_then hB2.out hb3)
  clear hb3 x0 x1 x2 x3 x4 x5 x6 x7 x8 x9 x10 y0 y1 hm2 hd2 hx2 hB2
  have t5 : decide (d < 1) = false := decide_eq_false (by omega)
  have t6 : decide (r1 - r2 < d) = false := decide_eq_false (by omega)
  go_wp2_with fail
  go_ret2
  exact ⟨rfl, hB3.out⟩

set_option maxHeartbeats 1000000 in
set_option maxRecDepth 100000 in
/-- the closure that FromDay hands to sort.Search -/
theorem FromDay_one (m : Mo) (g1 g2 g3 : Nat) (low day : Int) (i : Nat) (W1 : World) (hx : Box W1 g1 36 m.cells) (hl : Box W1 g2 3 #[.int .i64 low]) (hd : Box W1 g3 3 #[.int .i64 day]) (hm : MIn W1 m) (ok : MOk m) (h1 : -15000 ≤ low + i) (h2 : low + i ≤ 15000) :
    Calls Try.prog 51 (#[.int .i64 (i : Int)] ++ #[.pointer (some ⟨g1, 0, none⟩), .pointer (some ⟨g2, 0, none⟩), .pointer (some ⟨g3, 0, none⟩)]) W1 fun e w' => e = .returned (.bool (decide (day < m.beg (low + i) 1))) ∧ Below W1.heap.size W1 w' := by
  have HBg := Lib.hid (fun W (hm : MIn W m) => begin_any m (low + i) 1 W hm ok h1 h2 (by omega) (by omega))
  generalize m.beg (low + i) 1 = r at *
  go_enter Try.func51, Try.ntmps51
  go_wp2_with fail
  have e1 : IntKind.i64.wrap (low + (i : Int)) = low + (i : Int) := intFits _ (by omega) (by omega)
  have HC : ∀ W, (Below W1.heap.size W1 W ∧ W.cell? ⟨g2, 0, none⟩ = some (.int .i64 low) ∧ W.cell? ⟨g3, 0, none⟩ = some (.int .i64 day) ∧ W.cell? ⟨g1, 0, none⟩ = some (.string m.nm) ∧ W.cell? ⟨g1, 1, none⟩ = some (.int .i64 m.ep) ∧ W.cell? ⟨g1, 2, none⟩ = some (.int .i64 m.sn) ∧ W.cell? ⟨g1, 3, none⟩ = some (.int .i64 m.sd) ∧ W.cell? ⟨g1, 4, none⟩ = some (.int .i64 m.mn) ∧ W.cell? ⟨g1, 5, none⟩ = some (.int .i64 m.md) ∧ W.cell? ⟨g1, 6, none⟩ = some (.int .i64 m.ln) ∧ W.cell? ⟨g1, 7, none⟩ = some (.int .i64 m.ld) ∧ W.cell? ⟨g1, 8, none⟩ = some (.int .i64 m.cy) ∧ W.cell? ⟨g1, 9, none⟩ = some (.slice m.A1 m.lp.length m.c1) ∧ W.cell? ⟨g1, 10, none⟩ = some (.slice m.A2 m.av.length m.c2)) → Calls Try.prog 43 #[m.val, .int .i64 (low + (i : Int)), .int .i64 1] W fun e w' => e = .returned (.int .i64 r) ∧ (Below W1.heap.size W1 w' ∧ w'.cell? ⟨g2, 0, none⟩ = some (.int .i64 low) ∧ w'.cell? ⟨g3, 0, none⟩ = some (.int .i64 day) ∧ w'.cell? ⟨g1, 0, none⟩ = some (.string m.nm) ∧ w'.cell? ⟨g1, 1, none⟩ = some (.int .i64 m.ep) ∧ w'.cell? ⟨g1, 2, none⟩ = some (.int .i64 m.sn) ∧ w'.cell? ⟨g1, 3, none⟩ = some (.int .i64 m.sd) ∧ w'.cell? ⟨g1, 4, none⟩ = some (.int .i64 m.mn) ∧ w'.cell? ⟨g1, 5, none⟩ = some (.int .i64 m.md) ∧ w'.cell? ⟨g1, 6, none⟩ = some (.int .i64 m.ln) ∧ w'.cell? ⟨g1, 7, none⟩ = some (.int .i64 m.ld) ∧ w'.cell? ⟨g1, 8, none⟩ = some (.int .i64 m.cy) ∧ w'.cell? ⟨g1, 9, none⟩ = some (.slice m.A1 m.lp.length m.c1) ∧ w'.cell? ⟨g1, 10, none⟩ = some (.slice m.A2 m.av.length m.c2)) :=
    calls_S (W0 := W1) (fun w' hb => ⟨hb, (hl.below hb).cell 0, (hd.below hb).cell 0, mcells (hx.below hb)⟩) (fun w' h => h.1) (fun W hb => HBg.out W (hm.next hb))
  have HC' := Lib.hid HC
  have hS0 : Below W1.heap.size W1 W1.drew ∧ W1.drew.cell? ⟨g2, 0, none⟩ = some (.int .i64 low) ∧ W1.drew.cell? ⟨g3, 0, none⟩ = some (.int .i64 day) ∧ W1.drew.cell? ⟨g1, 0, none⟩ = some (.string m.nm) ∧ W1.drew.cell? ⟨g1, 1, none⟩ = some (.int .i64 m.ep) ∧ W1.drew.cell? ⟨g1, 2, none⟩ = some (.int .i64 m.sn) ∧ W1.drew.cell? ⟨g1, 3, none⟩ = some (.int .i64 m.sd) ∧ W1.drew.cell? ⟨g1, 4, none⟩ = some (.int .i64 m.mn) ∧ W1.drew.cell? ⟨g1, 5, none⟩ = some (.int .i64 m.md) ∧ W1.drew.cell? ⟨g1, 6, none⟩ = some (.int .i64 m.ln) ∧ W1.drew.cell? ⟨g1, 7, none⟩ = some (.int .i64 m.ld) ∧ W1.drew.cell? ⟨g1, 8, none⟩ = some (.int .i64 m.cy) ∧ W1.drew.cell? ⟨g1, 9, none⟩ = some (.slice m.A1 m.lp.length m.c1) ∧ W1.drew.cell? ⟨g1, 10, none⟩ = some (.slice m.A2 m.av.length m.c2) := ⟨below_drew (Below.refl _ _) 1, hl.cell 0, hd.cell 0, mcells hx⟩
  clear HC HBg hx hl hd hm
  go_region_held3 (fun W => Below W1.heap.size W1 W ∧ W.cell? ⟨g2, 0, none⟩ = some (.int .i64 low) ∧ W.cell? ⟨g3, 0, none⟩ = some (.int .i64 day) ∧ W.cell? ⟨g1, 0, none⟩ = some (.string m.nm) ∧ W.cell? ⟨g1, 1, none⟩ = some (.int .i64 m.ep) ∧ W.cell? ⟨g1, 2, none⟩ = some (.int .i64 m.sn) ∧ W.cell? ⟨g1, 3, none⟩ = some (.int .i64 m.sd) ∧ W.cell? ⟨g1, 4, none⟩ = some (.int .i64 m.mn) ∧ W.cell? ⟨g1, 5, none⟩ = some (.int .i64 m.md) ∧ W.cell? ⟨g1, 6, none⟩ = some (.int .i64 m.ln) ∧ W.cell? ⟨g1, 7, none⟩ = some (.int .i64 m.ld) ∧ W.cell? ⟨g1, 8, none⟩ = some (.int .i64 m.cy) ∧ W.cell? ⟨g1, 9, none⟩ = some (.slice m.A1 m.lp.length m.c1) ∧ W.cell? ⟨g1, 10, none⟩ = some (.slice m.A2 m.av.length m.c2)) (assumption)
    (first | (go_at_call 43; ((with_reducible refine (HC'.out _ (by assumption)).mono ?_)); rintro e w2 ⟨rfl, hs'⟩))
  all_goals go_wp2_with fail
  all_goals go_ret
  all_goals exact ⟨rfl, hs'.1⟩
end Go.Proofs.Ytfindembancjdaa
