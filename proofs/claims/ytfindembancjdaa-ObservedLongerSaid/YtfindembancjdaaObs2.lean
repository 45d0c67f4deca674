/- Contracts of observed.FromDay and observed.ToDay at a valid table, at a place that is known. -/
import Derived.Test.YtfindembancjdaaObs1
namespace Go.Proofs.Ytfindembancjdaa
open Go.RowKit
set_option linter.unusedVariables false

theorem TOk.lt {t : Tab} (ok : TOk t) : ∀ (d a : Nat), a + d + 1 < t.ss.length → t.ss.getD a 0 < t.ss.getD (a + d + 1) 0 := by
  intro d
  induction d with
  | zero => intro a ha; exact (ok.inc (a + 1) (by omega) ha).1
  | succ d ih =>
    intro a ha
    have h1 := ih a (by omega)
    have h2 := (ok.inc (a + (d + 1) + 1) (by omega) ha).1
    rw [show a + (d + 1) + 1 - 1 = a + d + 1 from by omega] at h2
    omega
theorem TOk.le {t : Tab} (ok : TOk t) (a b : Nat) (h : a ≤ b) (hb : b < t.ss.length) : t.ss.getD a 0 ≤ t.ss.getD b 0 := by
  by_cases e : a = b
  · subst e; omega
  · have := ok.lt (b - a - 1) a (by omega)
    rw [show a + (b - a - 1) + 1 = b from by omega] at this
    omega
theorem TOk.sumLe {t : Tab} (ok : TOk t) : ∀ (d a : Nat), a + d ≤ t.ms.length → sumTo t.ms a + 12 * (d : Int) ≤ sumTo t.ms (a + d) := by
  intro d
  induction d with
  | zero => intro a _; simp
  | succ d ih =>
    intro a ha
    have h1 := ih a (by omega)
    have h2 := ok.ms (a + d) (by omega)
    rw [← Nat.add_assoc]
    simp only [sumTo]
    omega
theorem TOk.sum_le {t : Tab} (ok : TOk t) (a b : Nat) (h : a ≤ b) (hb : b ≤ t.ms.length) : sumTo t.ms a + 12 * ((b : Int) - a) ≤ sumTo t.ms b := by
  have := ok.sumLe (b - a) a (by omega)
  rw [show a + (b - a) = b from by omega] at this
  omega

theorem cell_set3 {W : World} {g : Nat} {b o : Nat} (h : b ≠ g) (v0 v1 v2 : Value) : (((W.setCell ⟨g, 0, none⟩ v0).setCell ⟨g, 1, none⟩ v1).setCell ⟨g, 2, none⟩ v2).cell? ⟨b, o, none⟩ = W.cell? ⟨b, o, none⟩ := by
  have hh : (((W.setCell ⟨g, 0, none⟩ v0).setCell ⟨g, 1, none⟩ v1).setCell ⟨g, 2, none⟩ v2).heap[b]? = W.heap[b]? := by
    rw [Below.heap_setCell _ _ _ b h, Below.heap_setCell _ _ _ b h, Below.heap_setCell _ _ _ b h]
  unfold World.cell?
  simp only [hh]

set_option maxHeartbeats 4000000 in
set_option maxRecDepth 100000 in
theorem oFromDay_yes (t : Tab) (day : Int) (j : Nat) (k : Int) (p : Nat) (w : World) (ht : TIn w t) (ok : TOk t) (hj : j < t.ms.length) (hk1 : 1 ≤ k) (hk2 : k ≤ t.ms.getD j 0) (hp : (p : Int) = sumTo t.ms j + k - 1) (hd1 : t.ss.getD p 0 ≤ day) (hd2 : day < t.ss.getD (p + 1) 0) :
    Calls Try.prog 29 #[t.val, .int .i64 day] w fun e w' => e = .returned (.tuple #[.agg #[.int .i64 (t.first + j), .int .i64 k, .int .i64 (day - t.ss.getD p 0 + 1)], .int .i64 0]) ∧ Below w.heap.size w w' := by
  have hx := (Box.new w 67 t.cells).alloc (Obj.cells #[.int .i64 0, .int .i64 0, .int .i64 0] 44)
  have hr := Box.new (w.alloc (Obj.cells t.cells 67)) 44 #[.int .i64 0, .int .i64 0, .int .i64 0]
  rw [show (w.alloc (Obj.cells t.cells 67)).heap.size = w.heap.size + 1 from by simp] at hr
  have hB := below_alloc2 w (Obj.cells t.cells 67) (Obj.cells #[.int .i64 0, .int .i64 0, .int .i64 0] 44)
  have HT0 := Lib.hid ht
  replace ht := ht.next hB
  have hsj := ok.sum_le (j + 1) t.ms.length (by omega) (Nat.le_refl _)
  have hs0 := sumTo_in t.ms ok.ms j (by omega)
  have hsn := sumTo_in t.ms ok.ms t.ms.length (Nat.le_refl _)
  have hsd : sumTo t.ms (j + 1) = sumTo t.ms j + t.ms.getD j 0 := rfl
  have hlen := ok.len
  have n2 := ok.n2
  have hpl : p + 1 < t.ss.length := by omega
  have hl1 : t.ss.length ≤ 600 := by omega
  have dp := ok.days p (by omega)
  unfold IsD at dp
  have f1 := ok.f1
  have f2 := ok.f2
  have hdl : day ≤ 4000100 := by have := (ok.days (p + 1) (by omega)).2; omega
  have OK := Lib.hid ok
  have HP := Lib.hid hp
  have HK := Lib.hid hk2
  have HL := Lib.hid hlen
  clear hsj hsn hsd hlen hp hs0
  obtain ⟨D, hD⟩ : ∃ D, D = t.ss.getD p 0 := ⟨_, rfl⟩
  rw [← hD] at hd1 dp ⊢
  have HD := Lib.hid hD
  have HD1 := Lib.hid hd1
  have HD2 := Lib.hid hd2
  clear hD hd1 hd2 hk2 ok
  go_enter Try.func29, Try.ntmps29
  go_wp2_with fail
  generalize (w.alloc (Obj.cells t.cells 67)).alloc (Obj.cells #[.int .i64 0, .int .i64 0, .int .i64 0] 44) = W0 at *
  obtain ⟨g, hg⟩ : ∃ g, g = w.heap.size := ⟨_, rfl⟩
  rw [← hg] at hx hr
  rw [← hg]
  have hg1 : w.heap.size ≤ g + 1 := by omega
  clear hg
  refine (ocheck_yes t _ ht OK.out).mono ?_
  rintro e W1 ⟨rfl, hb⟩
  replace ht := ht.next hb
  replace hx := hx.below hb
  replace hr := hr.below hb
  replace hB := Lib.hid (below_then hB hb)
  clear hb
  obtain ⟨x0, x1, x2, x3⟩ := tcells hx
  obtain ⟨b1, o1, hA1, _, hcs1⟩ := ht.1.open_ (ints_ne t.ms (by omega))
  obtain ⟨b2, o2, hA2, hb2l, hcs2⟩ := (HT0.out.2.below hB.out).open_ (ints_ne t.ss (by omega))
  rw [hA1] at x2
  rw [hA2] at x3
  have HC1 := Lib.hid hcs1
  have HC2 := Lib.hid hcs2
  have HX := Lib.hid hx
  have HR := Lib.hid hr
  clear hcs1 hcs2 hA1 hA2 ht hx hr
  go_wp2_with fail
  go_loop [7, 8, 9, 10, 20] (fun a _ _ _ i => ∃ n : Nat, n ≤ j ∧ a = .int .i64 (sumTo t.ms n) ∧ i = .int .i64 (n : Int)) (fun _ _ _ _ i => t.ms.length - (intOf i).toNat)
  case atStart => exact ⟨0, by omega, rfl, rfl⟩
  case round =>
    obtain ⟨n, hn, rfl, rfl⟩ := hrel
    have hc := ints_cell HC1.out n (by omega)
    have hv := OK.out.ms n (by omega)
    have hsn := sumTo_in t.ms OK.out.ms n (by omega)
    have HS : Hid (sumTo t.ms (n + 1) = sumTo t.ms n + t.ms.getD n 0) := rfl
    have hnj : n < t.ms.length := by omega
    obtain ⟨V, hV⟩ : ∃ V, V = t.ms.getD n 0 := ⟨_, rfl⟩
    rw [← hV] at hc hv
    have HV := Lib.hid hV
    clear hV
    go_wp2_with fail
    go_loop [7, 10] (fun a m => ∃ q : Nat, (q : Int) ≤ V ∧ a = .int .i64 (sumTo t.ms n + (q : Int)) ∧ m = .int .i64 ((q : Int) + 1) ∧ Hid (sumTo t.ms n + (q : Int) ≤ (p : Int))) (fun _ m => (20 - intOf m).toNat)
    case atStart => exact ⟨0, by omega, by simp, rfl, by show _ ≤ _; have := OK.out.sum_le n j hn (by omega); have := HP.out; omega⟩
    case round =>
      obtain ⟨q, hq, rfl, rfl, hqp⟩ := hrel
      obtain ⟨a, ha⟩ : ∃ a : Nat, (a : Int) = sumTo t.ms n + (q : Int) := ⟨(sumTo t.ms n + (q : Int)).toNat, by omega⟩
      have hap : a ≤ p := by have := hqp.out; omega
      have HA := Lib.hid ha
      rw [← ha]
      rw [← ha] at hqp
      clear ha
      by_cases hend : (q : Int) = V
      · have t1 : decide ((q : Int) + 1 ≤ V) = false := decide_eq_false (by omega)
        have HE := Lib.hid hend
        clear hend
        go_wp2_with fail
        go_round
        case rel =>
          refine ⟨n + 1, ?_, ?_, by go_num⟩
          · rcases Nat.lt_or_ge n j with h | h
            · omega
            · exfalso
              have e : n = j := by omega
              subst e
              have := HP.out; have := HK.out; have := HA.out; have := HV.out; have := HE.out
              omega
          · rw [HS.out, ← HV.out, HA.out, HE.out]
        case measure => simp [intOf]; omega
      · have t1 : decide ((q : Int) + 1 ≤ V) = true := decide_eq_true (by omega)
        have a0 : (0 : Int) ≤ (a : Int) := by omega
        have a1 : (a : Int) < (t.ss.length : Int) := by omega
        have a2 : (a : Int) + 1 < (t.ss.length : Int) := by omega
        have hca := ints_cell HC2.out a (by omega)
        have hcb := ints_cell HC2.out (a + 1) (by omega)
        by_cases hit : a = p
        · subst hit
          rw [← HD.out] at hca
          have hb1 := HD1.out
          have hb2 := HD2.out
          obtain ⟨D', hD'⟩ : ∃ D', D' = t.ss.getD (a + 1) 0 := ⟨_, rfl⟩
          rw [← hD'] at hcb hb2
          clear hD'
          have heq : n = j ∧ (q : Int) + 1 = k := by
            have h1 := HA.out
            have h2 := HP.out
            rcases Nat.lt_or_ge n j with h | h
            · exfalso
              have := OK.out.sum_le (n + 1) j (by omega) (by omega)
              rw [HS.out, ← HV.out] at this
              omega
            · have e : n = j := by omega
              subst e
              exact ⟨rfl, by omega⟩
          obtain ⟨rfl, hkq⟩ := heq
          have HKQ := Lib.hid hkq
          clear hkq
          have r0 : W1.cell? ⟨g + 1, 0, none⟩ = some (.int .i64 0) := HR.out.cell 0
          have r1 : W1.cell? ⟨g + 1, 1, none⟩ = some (.int .i64 0) := HR.out.cell 1
          have r2 : W1.cell? ⟨g + 1, 2, none⟩ = some (.int .i64 0) := HR.out.cell 2
          have rf : ∀ i, W1.frozen? ⟨g + 1, i, none⟩ = false := fun i => HR.out.free i
          go_wp2_with fail
          clear hcb hc
          have hS0 : W1.drew.cell? ⟨g, 1, none⟩ = some (.int .i64 t.first) ∧ W1.drew.cell? ⟨g, 3, none⟩ = some (.slice (some ⟨b2, o2, none⟩) t.ss.length t.c2) ∧ W1.drew.cell? ⟨b2, o2 + a, none⟩ = some (.int .i64 D) := ⟨x1, x3, hca⟩
          have HK' : Hid (∀ v0 v1 v2, (((W1.drew.setCell ⟨g + 1, 0, none⟩ v0).setCell ⟨g + 1, 1, none⟩ v1).setCell ⟨g + 1, 2, none⟩ v2).cell? ⟨g, 1, none⟩ = some (.int .i64 t.first) ∧ (((W1.drew.setCell ⟨g + 1, 0, none⟩ v0).setCell ⟨g + 1, 1, none⟩ v1).setCell ⟨g + 1, 2, none⟩ v2).cell? ⟨g, 3, none⟩ = some (.slice (some ⟨b2, o2, none⟩) t.ss.length t.c2) ∧ (((W1.drew.setCell ⟨g + 1, 0, none⟩ v0).setCell ⟨g + 1, 1, none⟩ v1).setCell ⟨g + 1, 2, none⟩ v2).cell? ⟨b2, o2 + a, none⟩ = some (.int .i64 D)) := fun v0 v1 v2 =>
            ⟨(cell_set3 (show g ≠ g + 1 by omega) v0 v1 v2).trans hS0.1, (cell_set3 (show g ≠ g + 1 by omega) v0 v1 v2).trans hS0.2.1, (cell_set3 (show b2 ≠ g + 1 by omega) v0 v1 v2).trans hS0.2.2⟩
          clear x0 x1 x2 x3 hca
          have e1 : IntKind.i64.wrap (t.first + (n : Int)) = t.first + (n : Int) := intFits _ (by omega) (by omega)
          have e2 : IntKind.i64.wrap (day - D) = day - D := intFits _ (by omega) (by omega)
          have e3 : IntKind.i64.wrap (day - D + 1) = day - D + 1 := intFits _ (by omega) (by omega)
          go_region_held3 (fun W => W.cell? ⟨g, 1, none⟩ = some (.int .i64 t.first) ∧ W.cell? ⟨g, 3, none⟩ = some (.slice (some ⟨b2, o2, none⟩) t.ss.length t.c2) ∧ W.cell? ⟨b2, o2 + a, none⟩ = some (.int .i64 D))
            (first | assumption | exact HK'.out _ _ _) (fail)
          all_goals go_wp2_with fail
          all_goals refine bodyPost_ret (v := .tuple #[.agg #[.int .i64 (t.first + n), .int .i64 ((q : Int) + 1), .int .i64 (day - D + 1)], .int .i64 0]) (by simp [results, Try.results29, go_sem, r0, r1, r2]) rfl ?_
          all_goals exact ⟨by rw [HKQ.out], (((below_drew hB.out 1).setCell (p := ⟨g + 1, 0, none⟩) hg1 _).setCell (p := ⟨g + 1, 1, none⟩) hg1 _).setCell (p := ⟨g + 1, 2, none⟩) hg1 _⟩
        · have hb1 : t.ss.getD a 0 ≤ day := by have := OK.out.le a p hap (by omega); have := HD.out; have := HD1.out; omega
          have hb2 : t.ss.getD (a + 1) 0 ≤ day := by have := OK.out.le (a + 1) p (by omega) (by omega); have := HD.out; have := HD1.out; omega
          generalize t.ss.getD (a + 1) 0 = D' at *
          generalize t.ss.getD a 0 = D'' at *
          go_wp2_with fail
          go_round
          case rel => exact ⟨q + 1, by omega, by have := HA.out; go_num, by go_num, by show _ ≤ _; have := HA.out; omega⟩
          case measure => simp [intOf]; omega
end Go.Proofs.Ytfindembancjdaa
