/- Contract of frac.Near where the denominator is too great (printed by gen/near3.py). -/
import Derived.Test.YtdbnnhfgohabdaaNear2
namespace Go.Proofs.Ytdbnnhfgohabdaa
open Go.RowKit
set_option linter.unusedVariables false

theorem mul_in2 (x y X Y : Int) (h1 : 0 ≤ x) (h2 : x ≤ X) (h3 : 0 ≤ y) (h4 : y ≤ Y) : 0 ≤ x * y ∧ x * y ≤ X * Y :=
  ⟨Int.mul_nonneg h1 h3, Int.mul_le_mul h2 h4 h3 (by omega)⟩

/-- what the end of Near needs -/
structure NEnd (N m d base n a b p q : Int) : Prop where
  e : N = n + base * m
  hN : N.natAbs ≤ 100000
  m0 : 1 ≤ m
  m1 : m ≤ 10000
  n0 : 0 ≤ n
  nm : n < m
  dm : d < m
  d1 : d ≤ 100
  inv : NInv d n m a b p q
  far : d < b + q

theorem NEnd.sizes {N m d base n a b p q : Int} (h : NEnd N m d base n a b p q) : (a + base * b).natAbs ≤ 110000 ∧ (p + base * q).natAbs ≤ 110000 :=
  ⟨near_size N m base n a b d h.hN h.m0 h.m1 h.n0 h.nm h.e h.inv.a0 h.inv.ab h.inv.b1 h.inv.bd h.dm,
   near_size N m base n p q d h.hN h.m0 h.m1 h.n0 h.nm h.e h.inv.p0 h.inv.pq h.inv.q1 h.inv.qd h.dm⟩
theorem NEnd.gcdL {N m d base n a b p q : Int} (h : NEnd N m d base n a b p q) : Int.gcd (a + base * b) b = 1 :=
  gcd_one _ _ (-q) (p + base * q) (by have := h.inv.one; grind)
theorem NEnd.gcdU {N m d base n a b p q : Int} (h : NEnd N m d base n a b p q) : Int.gcd (p + base * q) q = 1 :=
  gcd_one _ _ b (-(a + base * b)) (by have := h.inv.one; grind)
theorem NEnd.okL {N m d base n a b p q : Int} (h : NEnd N m d base n a b p q) : FOk (a + base * b) b := by
  have := h.sizes.1; have := h.inv.b1; have := h.inv.bd; have := h.d1
  exact ⟨by omega, by omega, by omega, by omega, h.gcdL⟩
theorem NEnd.okU {N m d base n a b p q : Int} (h : NEnd N m d base n a b p q) : FOk (p + base * q) q := by
  have := h.sizes.2; have := h.inv.q1; have := h.inv.qd; have := h.d1
  exact ⟨by omega, by omega, by omega, by omega, h.gcdU⟩
theorem NEnd.nearL {N m d base n a b p q : Int} (h : NEnd N m d base n a b p q) (hs : ((a + base * b) * m - N * b).natAbs * q.toNat ≤ ((p + base * q) * m - N * q).natAbs * b.toNat) : IsNear N m d (a + base * b) b := by
  obtain ⟨f1, f2, f3, _⟩ := near_pick N m base n d a b p q h.e h.m0 h.inv h.far
  refine ⟨h.inv.b1, h.inv.bd, h.gcdL, h.sizes.1, f3 ?_⟩
  rw [← f1, ← f2]
  have hq := h.inv.q1; have hb := h.inv.b1
  have := Int.ofNat_le.2 hs
  rw [Int.natCast_mul, Int.natCast_mul, Int.toNat_of_nonneg (by omega), Int.toNat_of_nonneg (by omega)] at this
  exact this
theorem NEnd.nearU {N m d base n a b p q : Int} (h : NEnd N m d base n a b p q) (hs : ((p + base * q) * m - N * q).natAbs * b.toNat ≤ ((a + base * b) * m - N * b).natAbs * q.toNat) : IsNear N m d (p + base * q) q := by
  obtain ⟨f1, f2, _, f4⟩ := near_pick N m base n d a b p q h.e h.m0 h.inv h.far
  refine ⟨h.inv.q1, h.inv.qd, h.gcdU, h.sizes.2, f4 ?_⟩
  rw [← f1, ← f2]
  have hq := h.inv.q1; have hb := h.inv.b1
  have := Int.ofNat_le.2 hs
  rw [Int.natCast_mul, Int.natCast_mul, Int.toNat_of_nonneg (by omega), Int.toNat_of_nonneg (by omega)] at this
  exact this
theorem NEnd.nearer {N m d base n a b p q : Int} (h : NEnd N m d base n a b p q) (w : World) :
    Calls Try.prog 78 #[.agg #[.int .i64 (p + base * q), .int .i64 q], .agg #[.int .i64 (a + base * b), .int .i64 b], .agg #[.int .i64 N, .int .i64 m]] w
      fun e w' => ∃ c, e = .returned (.bool c) ∧ (c = true → IsNear N m d (p + base * q) q) ∧ (c = false → IsNear N m d (a + base * b) b) ∧ Below w.heap.size w w' := by
  have hq := h.inv.q1; have hb := h.inv.b1; have hq' := h.inv.qd; have hb' := h.inv.bd; have hd := h.d1
  have key := nearer_any (p + base * q) (a + base * b) N m q.toNat b.toNat _ _ w h.sizes.2 h.sizes.1 (by have := h.hN; omega) h.m0 h.m1 (by omega) (by omega) (by omega) (by omega) rfl rfl
  rw [Int.toNat_of_nonneg (show 0 ≤ q by omega), Int.toNat_of_nonneg (show 0 ≤ b by omega)] at key
  refine key.mono ?_
  rintro e w' ⟨c, rfl, h1, h2, hB⟩
  exact ⟨c, rfl, fun hc => h.nearU (h1 hc), fun hc => h.nearL (h2 hc), hB⟩

set_option maxHeartbeats 4000000 in
set_option maxRecDepth 100000 in
theorem near_far (N m d : Int) (w : World) (h : FOk N m) (hN : N.natAbs ≤ 100000) (hm : m ≤ 10000) (hd : 1 ≤ d) (hd' : d ≤ 100) (hmd : d < m) :
    Calls Try.prog 45 #[.agg #[.int .i64 N, .int .i64 m], .int .i64 d] w fun e w' => ∃ yN yD, e = .returned (.tuple #[.agg #[.int .i64 yN, .int .i64 yD], .int .i64 0]) ∧ IsNear N m d yN yD ∧ Below w.heap.size w w' := by
  have Hc := Lib.hid (fun w => fcheck_yes N m w h)
  obtain ⟨base, n, hbase, he, hn0, hn1⟩ : ∃ base n, N / m = base ∧ N = n + base * m ∧ 0 ≤ n ∧ n < m :=
    ⟨N / m, N % m, rfl, by have := Int.emod_add_mul_ediv N m; grind, Int.emod_nonneg _ (by omega), Int.emod_lt_of_pos _ (by omega)⟩
  have Hd := fun w => down_pos N m w (by omega) (by omega) (by omega) (by omega)
  rw [hbase] at Hd
  replace Hd := Lib.hid Hd
  have hgc : Int.gcd n m = 1 := by
    have h5 := h.2.2.2.2
    rw [he, Int.gcd_add_mul_right_left] at h5
    exact h5
  have Hgc := Lib.hid hgc
  have hn2 : 1 ≤ n := by
    rcases Int.lt_or_le 0 n with h0 | h0
    · omega
    · have : n = 0 := by omega
      subst this
      rw [Int.gcd_zero_left] at hgc
      omega
  have hw1 : IntKind.i64.wrap (base * m) = base * m := IntWalk.i64_in _ (by omega)
  have hw2 : IntKind.i64.wrap (N - base * m) = n := by rw [show N - base * m = n from by omega]; exact IntWalk.i64_in _ (by omega)
  have He := Lib.hid he
  clear he hgc hbase
  have t1 : decide (d < 1) = false := decide_eq_false (by omega)
  have t2 : decide (2147483647 < d) = false := decide_eq_false (by omega)
  have t3 : decide (m ≤ d) = false := decide_eq_false (by omega)
  go_enter Try.func45, Try.ntmps45
  go_wp2_with fail
  refine (Hc.out _).mono ?_
  rintro e w1 ⟨rfl, hb1⟩
  have hz : w.heap.size + 1 < w1.heap.size := by have := hb1.size; simp at this; omega
  have hB := below_then (below_alloc2 _ _ _) hb1
  have hx : IsF w1 w.heap.size N m := IsF.below ((show IsF (w.alloc _) w.heap.size N m from heap_alloc_new _ _).alloc _) hb1
  have hr : IsF w1 (w.heap.size + 1) 0 0 := IsF.below (show IsF ((w.alloc _).alloc _) (w.heap.size + 1) 0 0 from heap_alloc2_new _ _ _) hb1
  have x0 := hx.c0
  have x1 := hx.c1
  clear hb1 h
  go_wp2_with fail
  refine (Hd.out _).mono ?_
  rintro e w2 ⟨rfl, n0, rfl⟩
  go_wp2_with fail
  go_quiet (fail)
  go_wp2_with fail
  clear hw1 hw2 t1 t2 t3 x0 x1 Hd
  obtain ⟨W0, hW⟩ : ∃ W, (w1.drewN n0).drewN nq = W := ⟨_, rfl⟩
  have hW' : w1.drewN (n0 + nq) = W0 := by rw [← hW, World.drewN_drewN]
  have hB0 : Below w.heap.size w W0 := hW ▸ below_drew (below_drew hB n0) nq
  have hx0 : IsF W0 w.heap.size N m := hW ▸ hx
  have hr0 : IsF W0 (w.heap.size + 1) 0 0 := hW ▸ hr
  first | rw [hW] | rw [hW']
  clear hW hW' hB hx hr hz
  go_loopw [10, 11, 12, 13] (fun s t u v wr => ∃ a b p q, NInv d n m a b p q ∧ s = .int .i64 a ∧ t = .int .i64 b ∧ u = .int .i64 p ∧ v = .int .i64 q ∧ wr = W0) (fun _ t _ v _ => (2 * d - intOf t - intOf v).toNat)
  case atStart => exact ⟨0, 1, 1, 1, ⟨by omega, by omega, by omega, by omega, by omega, by omega, by omega, by omega, by omega, by omega, by omega⟩, rfl, rfl, rfl, rfl, rfl⟩
  case round =>
    obtain ⟨a, b, p, q, I, rfl, rfl, rfl, rfl, rfl⟩ := hrel
    obtain ⟨i1, i2, i3, i4, i5, i6, i7, i8, i9, i10, _⟩ := id I
    have pm := mul_in2 p m 100 10000 (by omega) (by omega) (by omega) (by omega)
    have nq := mul_in2 n q 10000 100 (by omega) (by omega) (by omega) (by omega)
    have nb := mul_in2 n b 10000 100 (by omega) (by omega) (by omega) (by omega)
    have am := mul_in2 a m 100 10000 (by omega) (by omega) (by omega) (by omega)
    obtain ⟨k, K, M, hK, hM, hkk, hk0, hk1, hk2, hkz, hK0, hM0, hK1, hM1⟩ := quot_min (n * b - a * m) (p * m - n * q) (d - b) q (by omega) (by omega) (by omega) i5
    have I2 := right_step d n m a b p q k Hgc.out hmd I hk0 hk1 hk2
    have kq : 0 ≤ k * q ∧ k * q ≤ 100 := ⟨Int.mul_nonneg hk0 (by omega), by omega⟩
    have kp : 0 ≤ k * p ∧ k * p ≤ 100 := ⟨Int.mul_nonneg hk0 i4, by have := Int.mul_le_mul_of_nonneg_left i8 hk0; omega⟩
    obtain ⟨u, hu⟩ : ∃ u, a + k * p = u := ⟨_, rfl⟩
    obtain ⟨v, hv⟩ : ∃ v, b + k * q = v := ⟨_, rfl⟩
    rw [hu, hv] at I2
    obtain ⟨l1, l2, l3, _, _, _, l7, _, l9, _, _⟩ := id I2
    have nv := mul_in2 n v 10000 100 (by omega) (by omega) (by omega) (by omega)
    have um := mul_in2 u m 100 10000 (by omega) (by omega) (by omega) (by omega)
    obtain ⟨j, J, L, hJ, hLL, hjj, hj0, hj1, hj2, hjz, hJ0, hL0, hJ1, hL1⟩ := quot_min (p * m - n * q) (n * v - u * m) (d - q) v (by omega) (by omega) (by omega) l2
    have I3 := left_step d n m u v p q j Hgc.out hmd I2 hj0 hj1 hj2
    have jv : 0 ≤ j * v ∧ j * v ≤ 100 := ⟨Int.mul_nonneg hj0 (by omega), by omega⟩
    have ju : 0 ≤ j * u ∧ j * u ≤ 100 := ⟨Int.mul_nonneg hj0 l1, by have := Int.mul_le_mul_of_nonneg_left l7 hj0; omega⟩
    obtain ⟨s, hs⟩ : ∃ s, p + j * u = s := ⟨_, rfl⟩
    obtain ⟨t, ht⟩ : ∃ t, q + j * v = t := ⟨_, rfl⟩
    rw [hs, ht] at I3
    obtain ⟨_, _, _, m4, m5, m6, _, m8, _, m10, _⟩ := id I3
    have nt := mul_in2 n t 10000 100 (by omega) (by omega) (by omega) (by omega)
    have sm := mul_in2 s m 100 10000 (by omega) (by omega) (by omega) (by omega)
    have c1 : decide (0 < p * m - n * q) = true := decide_eq_true (by omega)
    have c2 : decide (0 < n * v - u * m) = true := decide_eq_true (by omega)
    have c3 : (u * m == n * v) = false := beq_eq_false_iff_ne.2 (by omega)
    have c4 : (s * m == n * t) = false := beq_eq_false_iff_ne.2 (by omega)
    have z1 : ¬ q = 0 := by omega
    have z2 : ¬ v = 0 := by omega
    have z3 : ¬ p * m - n * q = 0 := by omega
    have z4 : ¬ n * v - u * m = 0 := by omega
    have kq' : k ≤ k * q := by have := Int.mul_le_mul_of_nonneg_left (show 1 ≤ q by omega) hk0; omega
    have jv' : j ≤ j * v := by have := Int.mul_le_mul_of_nonneg_left (show 1 ≤ v by omega) hj0; omega
    have Hend : Hid (k = 0 → j = 0 → NEnd N m d base n u v s t) := fun h0 h1 => by
      have hx : d < b + q := by
        rcases hkz h0 with x | x
        · rcases hjz h1 with y | y
          · subst h0
            simp at hu hv
            subst hu hv
            omega
          · subst h0
            simp at hv
            omega
        · omega
      subst h0 h1
      simp at hu hv hs ht
      subst hu hv hs ht
      exact ⟨He.out, hN, by omega, hm, hn0, hn1, hmd, hd', I, hx⟩
    have Hms : Hid (¬ (k = 0 ∧ j = 0) → (2 * d - v - t).toNat < (2 * d - b - q).toNat) := fun h0 => by
      rcases (show 1 ≤ k ∨ 1 ≤ j by omega) with h1 | h1 <;> omega
    have HI := Lib.hid I3
    clear I I2 I3 i1 i7 i8 l7 m8 hkz hjz hk1 hk2 hj1 hj2
    by_cases hz : k = 0 ∧ j = 0
    · have E := Hend.out hz.1 hz.2
      have y1 : (k == 0) = true := by rw [hz.1]; rfl
      have y2 : (j == 0) = true := by rw [hz.2]; rfl
      have y3 : -200000 ≤ base * v ∧ base * v ≤ 200000 := by have := E.sizes.1; have := E.inv.ab; omega
      have y4 : -200000 ≤ base * t ∧ base * t ≤ 200000 := by have := E.sizes.2; have := E.inv.pq; omega
      have x0 := hx0.c0
      have x1 := hx0.c1
      have hlt := hx0.lt
      clear hz Hend Hms HI
      rcases hkk with ⟨hlt, rfl⟩ | ⟨hlt, rfl⟩ <;> rcases hjj with ⟨hlt2, rfl⟩ | ⟨hlt2, rfl⟩
      all_goals
        go_wp2_with fail
        refine (E.nearer _).mono ?_
        rintro e w3 ⟨c, rfl, hU, hL, hb3⟩
        have okU := Lib.hid (fun w => fcheck_yes _ _ w E.okU)
        have okL := Lib.hid (fun w => fcheck_yes _ _ w E.okL)
        have bL : IsF w3 wr.heap.size (u + base * v) v := IsF.below ((show IsF (wr.alloc _) wr.heap.size (u + base * v) v from heap_alloc_new _ _).alloc _) hb3
        have bU : IsF w3 (wr.heap.size + 1) (s + base * t) t := IsF.below (show IsF ((wr.alloc _).alloc _) (wr.heap.size + 1) (s + base * t) t from heap_alloc2_new _ _ _) hb3
        have br : IsF w3 (w.heap.size + 1) 0 0 := IsF.below ((hr0.alloc _).alloc _) hb3
        have hB3 := below_then (((hB0.alloc hB0.size (Obj.cells #[.int .i64 (u + base * v), .int .i64 v] 44))).alloc (hB0.alloc hB0.size _).size (Obj.cells #[.int .i64 (s + base * t), .int .i64 t] 44)) hb3
        have hs1 := hr0.lt
        have hs2 : wr.heap.size + 1 < w3.heap.size := by have := hb3.size; simp at this; omega
        clear hb3 hx0 hr0 hB0 x0 x1 E hu hv hs ht
        cases c with
        | true =>
          replace hU := hU rfl
          clear hL okL
          have bL0 := bL.c0
          have bL1 := bL.c1
          have bLf := fun i => Box.free (show Box w3 wr.heap.size _ _ from bL) i
          have bU0 := bU.c0
          have bU1 := bU.c1
          go_wp2_with fail
          refine (okU.out _).mono ?_
          rintro e w4 ⟨rfl, hb4⟩
          have fL : IsF w4 wr.heap.size (s + base * t) t := IsF.below (show IsF _ _ _ _ from ((show Box w3 wr.heap.size _ _ from bL).set_ 0 _).set_ 1 _) hb4
          have fr : IsF w4 (w.heap.size + 1) 0 0 := IsF.below (show IsF _ _ _ _ from ((show Box w3 (w.heap.size + 1) _ _ from br).far (show w.heap.size + 1 ≠ wr.heap.size by omega) _).far (show w.heap.size + 1 ≠ wr.heap.size by omega) _) hb4
          have hB4 := below_then ((hB3.setCell (p := ⟨wr.heap.size, 0, none⟩) (show w.heap.size ≤ wr.heap.size by omega) (.int .i64 (s + base * t))).setCell (p := ⟨wr.heap.size, 1, none⟩) (show w.heap.size ≤ wr.heap.size by omega) (.int .i64 t)) hb4
          clear hB3 bL bU br bL0 bL1 bLf bU0 bU1
          have fL0 := fL.c0
          have fL1 := fL.c1
          have fr0 := fr.c0
          have fr1 := fr.c1
          have frf := fun i => Box.free (show Box w4 (w.heap.size + 1) _ _ from fr) i
          have hs3 := fL.lt
          clear hb4
          go_wp2_with fail
          refine bodyPost_ret (v := .tuple #[.agg #[.int .i64 (s + base * t), .int .i64 t], .int .i64 0]) (by simp [results, Try.results45, go_sem, fr0, fr1]) rfl ⟨_, _, rfl, hU, ?_⟩
          exact (hB4.setCell (p := ⟨w.heap.size + 1, 0, none⟩) (show w.heap.size ≤ w.heap.size + 1 by omega) _).setCell (p := ⟨w.heap.size + 1, 1, none⟩) (show w.heap.size ≤ w.heap.size + 1 by omega) _
        | false =>
          replace hL := hL rfl
          clear hU okU
          have bL0 := bL.c0
          have bL1 := bL.c1
          go_wp2_with fail
          refine (okL.out _).mono ?_
          rintro e w4 ⟨rfl, hb4⟩
          have fL : IsF w4 wr.heap.size (u + base * v) v := bL.below hb4
          have fr : IsF w4 (w.heap.size + 1) 0 0 := br.below hb4
          have hB4 := below_then hB3 hb4
          clear hB3 bL bU br bL0 bL1
          have fL0 := fL.c0
          have fL1 := fL.c1
          have fr0 := fr.c0
          have fr1 := fr.c1
          have frf := fun i => Box.free (show Box w4 (w.heap.size + 1) _ _ from fr) i
          have hs3 := fL.lt
          clear hb4
          go_wp2_with fail
          refine bodyPost_ret (v := .tuple #[.agg #[.int .i64 (u + base * v), .int .i64 v], .int .i64 0]) (by simp [results, Try.results45, go_sem, fr0, fr1]) rfl ⟨_, _, rfl, hL, ?_⟩
          exact (hB4.setCell (p := ⟨w.heap.size + 1, 0, none⟩) (show w.heap.size ≤ w.heap.size + 1 by omega) _).setCell (p := ⟨w.heap.size + 1, 1, none⟩) (show w.heap.size ≤ w.heap.size + 1 by omega) _
    · have Hm2 := Lib.hid (Hms.out hz)
      by_cases hk : k = 0
      · have y1 : (k == 0) = true := by rw [hk]; rfl
        have y2 : (j == 0) = false := beq_eq_false_iff_ne.2 (by omega)
        clear hz hk Hms Hend
        rcases hkk with ⟨hlt, rfl⟩ | ⟨hlt, rfl⟩ <;> rcases hjj with ⟨hlt2, rfl⟩ | ⟨hlt2, rfl⟩
        all_goals
          go_wp2_with fail
          go_roundw
          case rel => exact ⟨u, v, s, t, HI.out, rfl, rfl, rfl, rfl, by trivial⟩
          case measure => have hm3 := Hm2.out; simp [intOf]; omega
      · have y1 : (k == 0) = false := beq_eq_false_iff_ne.2 (by omega)
        clear hz hk Hms Hend
        rcases hkk with ⟨hlt, rfl⟩ | ⟨hlt, rfl⟩ <;> rcases hjj with ⟨hlt2, rfl⟩ | ⟨hlt2, rfl⟩
        all_goals
          go_wp2_with fail
          go_roundw
          case rel => exact ⟨u, v, s, t, HI.out, rfl, rfl, rfl, rfl, by trivial⟩
          case measure => have hm3 := Hm2.out; simp [intOf]; omega
end Go.Proofs.Ytdbnnhfgohabdaa
