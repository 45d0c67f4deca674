/- Contracts of package frac: nearer, order, Cmp. -/
import Derived.Test.YtdbnnhfgohabdaaFrac4
import Derived.Test.YtdbnnhfgohabdaaPlainNear
import Derived.Test.YtdbnnhfgohabdaaShMul64
import Derived.Test.YtdbnnhfgohabdaaWhole2
namespace Go.Proofs.Ytdbnnhfgohabdaa
open Go.RowKit
set_option linter.unusedVariables false

set_option maxHeartbeats 1000000 in
set_option maxRecDepth 100000 in
theorem nearer_any (un ln N m : Int) (q b s t : Nat) (w : World) (hu : un.natAbs ≤ 110000) (hl : ln.natAbs ≤ 110000) (hN : N.natAbs ≤ 110000) (hm0 : 1 ≤ m) (hm : m ≤ 10000) (hq0 : 1 ≤ q) (hq : q ≤ 100) (hb0 : 1 ≤ b) (hb : b ≤ 100)
    (es : (un * m - N * q).natAbs = s) (et : (ln * m - N * b).natAbs = t) :
    Calls Try.prog 78 #[.agg #[.int .i64 un, .int .i64 q], .agg #[.int .i64 ln, .int .i64 b], .agg #[.int .i64 N, .int .i64 m]] w
      fun e w' => ∃ c, e = .returned (.bool c) ∧ (c = true → s * b ≤ t * q) ∧ (c = false → t * q ≤ s * b) ∧ Below w.heap.size w w' := by
  have k1 := natAbs_mul_le un m 110000 10000 hu (by omega)
  have k2 := natAbs_mul_le ln m 110000 10000 hl (by omega)
  have k3 := natAbs_mul_le N q 110000 100 hN (by omega)
  have k4 := natAbs_mul_le N b 110000 100 hN (by omega)
  obtain ⟨sb, hsb⟩ : ∃ x, s * b = x := ⟨_, rfl⟩
  obtain ⟨tq, htq⟩ : ∃ x, t * q = x := ⟨_, rfl⟩
  have k5 : sb ≤ 1111000000 * 100 := by rw [← hsb]; exact Nat.mul_le_mul (by omega) hb
  have k6 : tq ≤ 1111000000 * 100 := by rw [← htq]; exact Nat.mul_le_mul (by omega) hq
  rw [hsb, htq]
  have H1 := Lib.hid (fun w => mul64_small s b sb hsb (by omega) (by omega) (by omega) w)
  have H2 := Lib.hid (fun w => mul64_small t q tq htq (by omega) (by omega) (by omega) w)
  have H3 := Lib.hid (fun w => fsize_any (un * m - N * q) w (by omega) (by omega))
  have H4 := Lib.hid (fun w => fsize_any (ln * m - N * b) w (by omega) (by omega))
  rw [es] at H3
  rw [et] at H4
  have g1 : IntKind.u64.wrap (q : Int) = q := wrap_u64_nat q (by omega)
  have g2 : IntKind.u64.wrap (b : Int) = b := wrap_u64_nat b (by omega)
  clear es et hsb htq
  replace k1 : -1100000000 ≤ un * m ∧ un * m ≤ 1100000000 := by omega
  replace k2 : -1100000000 ≤ ln * m ∧ ln * m ≤ 1100000000 := by omega
  replace k3 : -1100000000 ≤ N * (q : Int) ∧ N * (q : Int) ≤ 1100000000 := by omega
  replace k4 : -1100000000 ≤ N * (b : Int) ∧ N * (b : Int) ≤ 1100000000 := by omega
  go_enter Try.func78, Try.ntmps78
  go_wp2_with fail
  refine (H3.out _).mono ?_
  rintro e w1 ⟨rfl, rfl⟩
  go_wp2_with fail
  refine (H4.out _).mono ?_
  rintro e w1 ⟨rfl, rfl⟩
  go_wp2_with fail
  refine (H1.out _).mono ?_
  rintro e w1 ⟨rfl, rfl⟩
  go_wp2_with fail
  refine (H2.out _).mono ?_
  rintro e w1 ⟨rfl, rfl⟩
  clear k1 k2 k3 k4 g1 g2 H1 H2 H3 H4
  go_wp2_with fail
  · go_ret
    exact ⟨_, rfl, fun h => by have := of_decide_eq_true h; omega, fun h => by have := of_decide_eq_false h; omega, below_alloc3 _ _ _ _⟩
  · rename_i hs _
    have e : sb = tq := by have := bne_eq_false_iff_eq.1 hs; omega
    go_ret
    exact ⟨_, rfl, fun _ => by omega, fun _ => by omega, below_alloc3 _ _ _ _⟩
  · rename_i hs _
    have e : sb = tq := by have := bne_eq_false_iff_eq.1 hs; omega
    go_ret
    exact ⟨_, rfl, fun _ => by omega, fun _ => by omega, below_alloc3 _ _ _ _⟩

theorem order_any (n d n' d' : Int) (w : World) (h1 : -4611686014132420609 ≤ n * d') (h2 : n * d' ≤ 4611686014132420609) (h3 : -4611686014132420609 ≤ n' * d) (h4 : n' * d ≤ 4611686014132420609) (hle : n * d' ≤ n' * d) :
    Calls Try.prog 80 #[.agg #[.int .i64 n, .int .i64 d], .agg #[.int .i64 n', .int .i64 d']] w fun e w' => ∃ c, c ≤ 0 ∧ e = .returned (.int .i64 c) ∧ Below w.heap.size w w' := by
  have q1 : IntKind.i64.wrap (n * d') = n * d' := IntWalk.i64_in _ (by omega)
  have q2 : IntKind.i64.wrap (n' * d) = n' * d := IntWalk.i64_in _ (by omega)
  go_enter Try.func80, Try.ntmps80
  go_wp2
  go_quiet (fail)
  go_wp2
  · go_ret
    exact ⟨-1, by omega, rfl, below_drew (below_alloc2 _ _ _) _⟩
  · go_ret
    exact ⟨0, by omega, rfl, below_drew (below_alloc2 _ _ _) _⟩

set_option maxRecDepth 100000 in
theorem cmp_le (n d n' d' : Int) (w : World) (h : FOk n d) (h' : FOk n' d') (hle : n * d' ≤ n' * d) :
    Calls Try.prog 48 #[.agg #[.int .i64 n, .int .i64 d], .agg #[.int .i64 n', .int .i64 d']] w fun e w' => ∃ c, c ≤ 0 ∧ e = .returned (.tuple #[.int .i64 c, .int .i64 0]) ∧ Below w.heap.size w w' := by
  have Hb := Lib.hid (fun w => both_yes n d n' d' w h h')
  obtain ⟨a1, a2, a3, a4, _⟩ := h
  obtain ⟨b1, b2, b3, b4, _⟩ := h'
  have p0 := mul_bound n d' (by omega) (by omega) (by omega) (by omega)
  have p1 := mul_bound n' d (by omega) (by omega) (by omega) (by omega)
  have Ho := Lib.hid (fun w => order_any n d n' d' w (by omega) (by omega) (by omega) (by omega) hle)
  clear p0 p1 hle
  go_enter Try.func48, Try.ntmps48
  go_wp2_with fail
  refine (Hb.out _).mono ?_
  rintro e w1 ⟨rfl, hb1⟩
  have hz : w.heap.size + 1 < w1.heap.size := by have := hb1.size; simp at this; omega
  have hB := below_then (below_alloc2 _ _ _) hb1
  have hx : IsF w1 w.heap.size n d := IsF.below ((show IsF (w.alloc _) w.heap.size n d from heap_alloc_new _ _).alloc _) hb1
  have hy : IsF w1 (w.heap.size + 1) n' d' := IsF.below (show IsF ((w.alloc _).alloc _) (w.heap.size + 1) n' d' from heap_alloc2_new _ _ _) hb1
  have x0 := hx.c0
  have x1 := hx.c1
  have y0 := hy.c0
  have y1 := hy.c1
  clear hb1
  go_wp2_with fail
  refine (Ho.out _).mono ?_
  rintro e w2 ⟨c, hc, rfl, hb2⟩
  go_wp2_with fail
  go_ret2
  exact ⟨c, hc, rfl, below_then hB hb2⟩
end Go.Proofs.Ytdbnnhfgohabdaa
