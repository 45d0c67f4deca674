/- Contract of observed.ToDay at a valid table, at a place that is known. -/
import Derived.Test.YtfindembancjdaaObs2
namespace Go.Proofs.Ytfindembancjdaa
open Go.RowKit
set_option linter.unusedVariables false

set_option maxHeartbeats 4000000 in
set_option maxRecDepth 100000 in
theorem oToDay_yes (t : Tab) (j : Nat) (k d : Int) (p : Nat) (w : World) (ht : TIn w t) (ok : TOk t) (hcap : t.ms.length ≤ t.c1) (hcm : t.c1 ≤ maxLen) (hj : j < t.ms.length) (hk1 : 1 ≤ k) (hk2 : k ≤ t.ms.getD j 0) (hp : (p : Int) = sumTo t.ms j + k - 1) (hd1 : 1 ≤ d) (hd2 : d ≤ t.ss.getD (p + 1) 0 - t.ss.getD p 0) :
    Calls Try.prog 30 #[t.val, .agg #[.int .i64 (t.first + j), .int .i64 k, .int .i64 d]] w fun e w' => e = .returned (.tuple #[.int .i64 (t.ss.getD p 0 + d - 1), .int .i64 0]) ∧ Below w.heap.size w w' := by
  have hx := (Box.new w 67 t.cells).alloc (Obj.cells #[.int .i64 (t.first + j), .int .i64 k, .int .i64 d] 44)
  have hr := Box.new (w.alloc (Obj.cells t.cells 67)) 44 #[.int .i64 (t.first + j), .int .i64 k, .int .i64 d]
  rw [show (w.alloc (Obj.cells t.cells 67)).heap.size = w.heap.size + 1 from by simp] at hr
  have hB := below_alloc2 w (Obj.cells t.cells 67) (Obj.cells #[.int .i64 (t.first + j), .int .i64 k, .int .i64 d] 44)
  replace ht := ht.next hB
  have hsj := ok.sum_le (j + 1) t.ms.length (by omega) (Nat.le_refl _)
  have hs0 := sumTo_in t.ms ok.ms j (by omega)
  have hsn := sumTo_in t.ms ok.ms t.ms.length (Nat.le_refl _)
  have hsd : sumTo t.ms (j + 1) = sumTo t.ms j + t.ms.getD j 0 := rfl
  have hlen := ok.len
  have n2 := ok.n2
  have hpl : p + 1 < t.ss.length := by omega
  have hl1 : t.ss.length ≤ 600 := by omega
  have dp := ok.days p (by omega)
  have dp1 := ok.days (p + 1) (by omega)
  unfold IsD at dp dp1
  have f1 := ok.f1
  have f2 := ok.f2
  have hmj := ok.ms j hj
  have OK := Lib.hid ok
  have HP := Lib.hid hp
  clear hsj hsn hsd hlen hp hs0 ok
  unfold maxLen at hcm
  obtain ⟨D, hD⟩ : ∃ D, D = t.ss.getD p 0 := ⟨_, rfl⟩
  obtain ⟨D', hD'⟩ : ∃ D', D' = t.ss.getD (p + 1) 0 := ⟨_, rfl⟩
  obtain ⟨V, hV⟩ : ∃ V, V = t.ms.getD j 0 := ⟨_, rfl⟩
  rw [← hD] at hd2 dp ⊢
  rw [← hD'] at hd2 dp1
  rw [← hV] at hmj hk2
  have HD := Lib.hid hD
  have HD' := Lib.hid hD'
  have HV := Lib.hid hV
  clear hD hD' hV
  go_enter Try.func30, Try.ntmps30
  go_wp2_with fail
  generalize (w.alloc (Obj.cells t.cells 67)).alloc (Obj.cells #[.int .i64 (t.first + j), .int .i64 k, .int .i64 d] 44) = W0 at *
  obtain ⟨g, hg⟩ : ∃ g, g = w.heap.size := ⟨_, rfl⟩
  rw [← hg] at hx hr
  rw [← hg]
  clear hg
  refine (ocheck_yes t _ ht OK.out).mono ?_
  rintro e W1 ⟨rfl, hb⟩
  replace ht := ht.next hb
  replace hx := hx.below hb
  replace hr := hr.below hb
  replace hB := Lib.hid (below_then hB hb)
  clear hb
  obtain ⟨b1, o1, hA1, _, hcs1⟩ := ht.1.open_ (ints_ne t.ms (by omega))
  obtain ⟨b2, o2, hA2, _, hcs2⟩ := ht.2.open_ (ints_ne t.ss (by omega))
  have HC1 := Lib.hid hcs1
  have HC2 := Lib.hid hcs2
  have HX := Lib.hid hx
  have HR := Lib.hid hr
  obtain ⟨x0, x1, x2, x3⟩ := tcells hx
  rw [hA1] at x2
  rw [hA2] at x3
  clear hcs1 hcs2 ht hx hr
  have y0 : W1.cell? ⟨g + 1, 0, none⟩ = some (.int .i64 (t.first + j)) := HR.out.cell 0
  have y1 : W1.cell? ⟨g + 1, 1, none⟩ = some (.int .i64 k) := HR.out.cell 1
  have y2 : W1.cell? ⟨g + 1, 2, none⟩ = some (.int .i64 d) := HR.out.cell 2
  have hcj : W1.cell? ⟨b1, o1 + j, none⟩ = some (.int .i64 V) := by have := ints_cell HC1.out j hj; rwa [← HV.out] at this
  have t1 : decide (t.first + (j : Int) < t.first) = false := decide_eq_false (by omega)
  have t2 : decide (t.first + (t.ms.length : Int) ≤ t.first + (j : Int)) = false := decide_eq_false (by omega)
  have t3 : decide (k < 1) = false := decide_eq_false (by omega)
  have t4 : decide (V < k) = false := decide_eq_false (by omega)
  have j0 : (0 : Int) ≤ (j : Int) := by omega
  have j1 : (j : Int) < (t.ms.length : Int) := by omega
  have e1 : t.first + (j : Int) - t.first = (j : Int) := by omega
  have e2 : IntKind.i64.wrap (j : Int) = (j : Int) := intFits _ (by omega) (by omega)
  go_wp2_with fail
  go_quiet (fail)
  replace x0 : (W1.drewN nq).cell? ⟨g, 0, none⟩ = some (.string t.nm) := x0
  replace x2 : (W1.drewN nq).cell? ⟨g, 2, none⟩ = some (.slice (some ⟨b1, o1, none⟩) t.ms.length t.c1) := x2
  replace x3 : (W1.drewN nq).cell? ⟨g, 3, none⟩ = some (.slice (some ⟨b2, o2, none⟩) t.ss.length t.c2) := x3
  replace y1 : (W1.drewN nq).cell? ⟨g + 1, 1, none⟩ = some (.int .i64 k) := y1
  replace y2 : (W1.drewN nq).cell? ⟨g + 1, 2, none⟩ = some (.int .i64 d) := y2
  replace HC1 : Hid (∀ i v, (ints t.ms)[i]? = some v → (W1.drewN nq).cell? ⟨b1, o1 + i, none⟩ = some v) := HC1
  replace HC2 : Hid (∀ i v, (ints t.ss)[i]? = some v → (W1.drewN nq).cell? ⟨b2, o2 + i, none⟩ = some v) := HC2
  replace hB : Hid (Below w.heap.size w (W1.drewN nq)) := below_drew hB.out _
  clear x1 y0 hcj t1 t2 t3 t4 e1 e2
  generalize W1.drewN nq = W2 at *
  go_wp2_with fail
  go_loop [8, 10, 58] (fun s _ i => ∃ n : Nat, n ≤ j ∧ s = .int .i64 (k - 1 + sumTo t.ms n) ∧ i = .int .i64 (n : Int)) (fun _ _ i => j - (intOf i).toNat)
  case atStart => exact ⟨0, by omega, by simp [sumTo], rfl⟩
  case round =>
    obtain ⟨n, hn, rfl, rfl⟩ := hrel
    have hs := sumTo_in t.ms OK.out.ms n (by omega)
    by_cases hlt : n < j
    · have hst : Hid (sumTo t.ms (n + 1) = sumTo t.ms n + t.ms.getD n 0) := rfl
      have hv := OK.out.ms n (by omega)
      have hc := ints_cell HC1.out n (by omega)
      generalize t.ms.getD n 0 = v at *
      go_wp2_with fail
      go_round
      case rel => exact ⟨n + 1, by omega, by rw [hst.out]; go_num, by go_num⟩
      case measure => simp [intOf]; omega
    · obtain rfl : n = j := by omega
      have hpe : k - 1 + sumTo t.ms n = (p : Int) := by have := HP.out; omega
      rw [hpe]
      clear hpe
      have hca : W2.cell? ⟨b2, o2 + p, none⟩ = some (.int .i64 D) := by have := ints_cell HC2.out p (by omega); rwa [← HD.out] at this
      have hcb : W2.cell? ⟨b2, o2 + (p + 1), none⟩ = some (.int .i64 D') := by have := ints_cell HC2.out (p + 1) (by omega); rwa [← HD'.out] at this
      have p0 : (0 : Int) ≤ (p : Int) := by omega
      have p1 : (p : Int) < (t.ss.length : Int) := by omega
      have p2 : (p : Int) + 1 < (t.ss.length : Int) := by omega
      have p3 : (0 : Int) ≤ (p : Int) + 1 := by omega
      have p4 : ((p : Int) + 1).toNat = p + 1 := by omega
      have e1 : IntKind.i64.wrap ((p : Int) + 1) = (p : Int) + 1 := intFits _ (by omega) (by omega)
      have e2 : IntKind.i64.wrap (D' - D) = D' - D := intFits _ (by omega) (by omega)
      have t1 : decide (d < 1) = false := decide_eq_false (by omega)
      have t2 : decide (D' - D < d) = false := decide_eq_false (by omega)
      go_wp2_with fail
      go_quiet (fail)
      replace x3 : (W2.drewN nq).cell? ⟨g, 3, none⟩ = some (.slice (some ⟨b2, o2, none⟩) t.ss.length t.c2) := x3
      replace y2 : (W2.drewN nq).cell? ⟨g + 1, 2, none⟩ = some (.int .i64 d) := y2
      replace hca : (W2.drewN nq).cell? ⟨b2, o2 + p, none⟩ = some (.int .i64 D) := hca
      replace hB : Hid (Below w.heap.size w (W2.drewN nq)) := below_drew hB.out _
      clear x0 x2 y1 hcb t1 t2 e1 e2 p2 p3 p4
      generalize W2.drewN nq = W3 at *
      have e1 : IntKind.i64.wrap (D + d) = D + d := intFits _ (by omega) (by omega)
      have e2 : IntKind.i64.wrap (D + d - 1) = D + d - 1 := intFits _ (by omega) (by omega)
      go_wp2_with fail
      go_quiet (fail)
      go_wp2_with fail
      go_ret2
      exact ⟨rfl, below_drew hB.out _⟩
end Go.Proofs.Ytfindembancjdaa
