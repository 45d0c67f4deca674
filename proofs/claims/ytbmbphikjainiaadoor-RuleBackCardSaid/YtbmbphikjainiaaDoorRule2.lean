/- Contracts of package rule: expression, checkExpr. -/
import Derived.Test.YtbmbphikjainiaaDoorRule1
import Derived.Test.YtbmbphikjainiaaDoorWords
import Derived.Deep.DeepCutAuto
namespace Go.Proofs.YtbmbphikjainiaaDoor
open Go.RowKit
set_option linter.unusedVariables false

/-- what expression gives: t the expression, d its level, n0 the number of nodes before it -/
def IsExpr (B g : Nat) (t : RE) (d n0 : Nat) (w : World) (e : Ending) (w' : World) : Prop :=
  ∃ (E : Int) (n1 : Nat), e = .returned (.int .i64 E) ∧ Box w' g 3 #[.int .i64 (n1 : Int)] ∧ Below B w w' ∧ n1 ≤ 61
   ∧ (E = 0 → ReOk t ∧ n1 = n0 + sz t ∧ n1 ≤ 60 ∧ d + ht t ≤ 13)
   ∧ (E ≠ 0 → ReOk t → E = 2 ∧ ¬ (n0 + sz t ≤ 60 ∧ d + ht t ≤ 13))
theorem IsExpr.form {B g : Nat} {k n : Int} {A : Option Addr} {c : Nat} {ks : List RE} {d n0 n1 : Nat} {w w' : World} (h : ¬ ReNode k n ks.length) (hx : Box w' g 3 #[.int .i64 (n1 : Int)]) (hb : Below B w w') (h1 : n1 ≤ 61) :
    IsExpr B g (.node k n A c ks) d n0 w (.returned (.int .i64 8)) w' :=
  ⟨8, n1, rfl, hx, hb, h1, fun h => by omega, fun _ hok => by cases hok with | mk node _ => exact absurd node h⟩
theorem IsExpr.large {B g : Nat} {k n : Int} {A : Option Addr} {c : Nat} {ks : List RE} {d n0 n1 : Nat} {w w' : World} (h : 60 < n0 + 1 ∨ 12 < d) (hx : Box w' g 3 #[.int .i64 (n1 : Int)]) (hb : Below B w w') (h1 : n1 ≤ 61) :
    IsExpr B g (.node k n A c ks) d n0 w (.returned (.int .i64 2)) w' :=
  ⟨2, n1, rfl, hx, hb, h1, fun h => by omega, fun _ _ => ⟨rfl, fun hh => by simp only [sz, ht] at hh; omega⟩⟩

set_option maxHeartbeats 4000000 in
set_option maxRecDepth 100000 in
theorem expr_any (w0 : World) (B g : Nat) (hBg : B ≤ g) (t : RE) (hin : ReIn w0 B t) : ∀ (w : World) (d n0 : Nat), Below B w0 w → Box w g 3 #[.int .i64 (n0 : Int)] → d ≤ 13 → n0 ≤ 60 →
    Calls Tryd.prog 46 #[reV t, .int .i64 (d : Int), .pointer (some ⟨g, 0, none⟩)] w (IsExpr B g t d n0 w) := by
  induction hin with
  | @mk k n A c ks hk hn hl row kids ih =>
    intro w d n0 hb0 hg hd hn0
    obtain ⟨k1, k2⟩ := hk
    obtain ⟨n1, n2⟩ := hn
    unfold maxLen at hl
    have hgl := hg.lt
    have hsz := hb0.size
    have g0 : w.cell? ⟨g, 0, none⟩ = some (.int .i64 (n0 : Int)) := hg.cell 0
    have gf : w.frozen? ⟨g, 0, none⟩ = false := hg.free 0
    have hgn : w.heap.size ≠ g := by omega
    obtain ⟨W1, hW1⟩ : ∃ W1, W1 = (w.setCell ⟨g, 0, none⟩ (.int .i64 ((n0 : Int) + 1))).alloc (.cells #[.int .i64 k, .int .i64 n, .slice A ks.length c] 24) := ⟨_, rfl⟩
    have hs1 : (w.setCell ⟨g, 0, none⟩ (.int .i64 ((n0 : Int) + 1))).heap.size = w.heap.size := by simp [World.setCell]
    have hbW : Hid (Below B w W1) := by
      rw [hW1]
      exact ((Below.refl _ _).setCell (p := ⟨g, 0, none⟩) hBg _).alloc (by rw [hs1]; omega) _
    have hG1 : Hid (Box W1 g 3 #[.int .i64 ((n0 + 1 : Nat) : Int)]) := by
      rw [hW1, show ((n0 + 1 : Nat) : Int) = (n0 : Int) + 1 from by omega]
      exact (hg.set_ 0 _).alloc _
    have hX1 : Hid (Box W1 w.heap.size 24 #[.int .i64 k, .int .i64 n, .slice A ks.length c]) := by
      have := Box.new (w.setCell ⟨g, 0, none⟩ (.int .i64 ((n0 : Int) + 1))) 24 #[.int .i64 k, .int .i64 n, .slice A ks.length c]
      rw [hs1] at this
      rw [hW1]; exact this
    have HW1 := Lib.hid hW1
    clear hs1 hW1
    change Calls Tryd.prog 46 #[.agg #[.int .i64 k, .int .i64 n, .slice A ks.length c], .int .i64 (d : Int), .pointer (some ⟨g, 0, none⟩)] w _
    by_cases h1 : 60 < n0 + 1
    · have t1 : decide ((60 : Int) < (n0 : Int) + 1) = true := decide_eq_true (by omega)
      go_enter Tryd.func46, Tryd.ntmps46
      go_wp2_with fail
      go_ret
      rw [← HW1.out]
      exact IsExpr.large (n1 := n0 + 1) (.inl h1) hG1.out hbW.out (by omega)
    have t1 : decide ((60 : Int) < (n0 : Int) + 1) = false := decide_eq_false (by omega)
    by_cases h2 : 12 < d
    · have t2 : decide ((12 : Int) < (d : Int)) = true := decide_eq_true (by omega)
      go_enter Tryd.func46, Tryd.ntmps46
      go_wp2_with fail
      go_ret
      rw [← HW1.out]
      exact IsExpr.large (n1 := n0 + 1) (.inr h2) hG1.out hbW.out (by omega)
    have t2 : decide ((12 : Int) < (d : Int)) = false := decide_eq_false (by omega)
    obtain ⟨M, hM⟩ : ∃ M : Int, M = if k = 1 then 2147483647 else 0 := ⟨_, rfl⟩
    have HM := Lib.hid hM
    have hM0 : 0 ≤ M := by rw [hM]; split <;> omega
    have hM1 : M ≤ 2147483647 := by rw [hM]; split <;> omega
    clear hM
    have HN : Hid (ReNode k n ks.length ↔ 1 ≤ k ∧ k ≤ 13 ∧ ks.length = opsN k ∧ 0 ≤ n ∧ n ≤ M) := by
      rw [HM.out]
      exact ⟨fun ⟨a, b, c, d, e⟩ => ⟨a, b, c, d, e⟩, fun ⟨a, b, c, d, e⟩ => ⟨a, b, c, d, e⟩⟩
    go_enter Tryd.func46, Tryd.ntmps46
    go_upto_if 26 with fail
    rw [← HW1.out]
    clear t1 t2 g0 gf
    go_cut [7] (fun s7 wx => s7 = .int .i64 M ∧ wx = W1)
    case first =>
      by_cases hk1 : k = 1
      · have t3 : (k == 1) = true := by simpa using hk1
        rw [if_pos hk1] at HM
        clear hk1
        go_wp2_with fail
        go_meet
        exact ⟨by rw [HM.out], rfl⟩
      · have t3 : (k == 1) = false := by simpa using hk1
        rw [if_neg hk1] at HM
        clear hk1
        go_wp2_with fail
        go_meet
        exact ⟨by rw [HM.out], rfl⟩
    case rest =>
    obtain ⟨rfl, hwc⟩ := hcut
    subst hwc
    have x0 : wc.cell? ⟨w.heap.size, 0, none⟩ = some (.int .i64 k) := hX1.out.cell 0
    have x1 : wc.cell? ⟨w.heap.size, 1, none⟩ = some (.int .i64 n) := hX1.out.cell 1
    have x2 : wc.cell? ⟨w.heap.size, 2, none⟩ = some (.slice A ks.length c) := hX1.out.cell 2
    have xl := hX1.out.lt
    clear HM HW1
    go_upto_region 7 with fail
    by_cases i1 : k < 1
    · have e1 : decide (k < 1) = true := decide_eq_true i1
      go_quiet (fail)
      go_wp2_with fail
      go_ret
      exact IsExpr.form (n1 := n0 + 1) (fun h => by have := h.k0; omega) (hG1.out.drewN _) (below_drew hbW.out _) (by omega)
    have e1 : decide (k < 1) = false := decide_eq_false i1
    by_cases i2 : 13 < k
    · have e2 : decide (13 < k) = true := decide_eq_true i2
      go_quiet (fail)
      go_wp2_with fail
      go_ret
      exact IsExpr.form (n1 := n0 + 1) (fun h => by have := h.k1; omega) (hG1.out.drewN _) (below_drew hbW.out _) (by omega)
    have e2 : decide (13 < k) = false := decide_eq_false i2
    have HO := Lib.hid (fun w => operands_any k w)
    by_cases i3 : ks.length = opsN k
    case neg =>
      have e3 : (((ks.length : Nat) : Int) != ((opsN k : Nat) : Int)) = true := by rw [bne_iff_ne]; omega
      have e3' : (ks.length != opsN k) = true := by rw [bne_iff_ne]; omega
      go_quiet ((go_at_call 64; exact Calls.quiet_of_same ((HO.out _).mono fun _ _ ⟨a, b⟩ => ⟨a, b.symm⟩)))
      go_wp2_with fail
      go_ret
      exact IsExpr.form (n1 := n0 + 1) (fun h => i3 h.len) (hG1.out.drewN _) (below_drew hbW.out _) (by omega)
    have e3 : (((ks.length : Nat) : Int) != ((opsN k : Nat) : Int)) = false := by rw [bne_eq_false_iff_eq]; omega
    have e3' : (ks.length != opsN k) = false := by rw [bne_eq_false_iff_eq]; omega
    by_cases i4 : n < 0
    · have e4 : decide (n < 0) = true := decide_eq_true i4
      have I3 := Lib.hid i3
      clear i3
      go_quiet ((go_at_call 64; exact Calls.quiet_of_same ((HO.out _).mono fun _ _ ⟨a, b⟩ => ⟨a, b.symm⟩)))
      go_wp2_with fail
      go_ret
      exact IsExpr.form (n1 := n0 + 1) (fun h => by have := h.n0; omega) (hG1.out.drewN _) (below_drew hbW.out _) (by omega)
    have e4 : decide (n < 0) = false := decide_eq_false i4
    have I3 := Lib.hid i3
    clear i3
    by_cases i5 : M < n
    · have e5 : decide (M < n) = true := decide_eq_true i5
      go_quiet ((go_at_call 64; exact Calls.quiet_of_same ((HO.out _).mono fun _ _ ⟨a, b⟩ => ⟨a, b.symm⟩)))
      go_wp2_with fail
      go_ret
      exact IsExpr.form (n1 := n0 + 1) (fun h => by have := (HN.out.1 h).2.2.2.2; omega) (hG1.out.drewN _) (below_drew hbW.out _) (by omega)
    have e5 : decide (M < n) = false := decide_eq_false i5
    have HNode := Lib.hid (HN.out.2 ⟨by omega, by omega, I3.out, by omega, by omega⟩)
    go_quiet ((go_at_call 64; exact Calls.quiet_of_same ((HO.out _).mono fun _ _ ⟨a, b⟩ => ⟨a, b.symm⟩)))
    clear e1 e2 e3 e3' e4 e5
    go_wp2_with fail
    have hks : ks.length ≤ 2 := by rw [I3.out]; unfold opsN; split <;> (try split) <;> omega
    have IH := Lib.hid ih
    have HB0 := Lib.hid hb0
    have hbr0 := below_drew hbW.out nq
    have hgr0 := hG1.out.drewN nq
    generalize wc.drewN nq = wd at *
    clear ih kids hbW hG1 hX1 x0 x1 x2 xl HO HN hg hb0 I3
    go_loopw [9, 10, 58] (fun _ _ i wr => ∃ j : Nat, j ≤ ks.length ∧ i = .int .i64 j ∧ Box wr g 3 #[.int .i64 ((n0 + 1 + szL (ks.take j) : Nat) : Int)] ∧ n0 + 1 + szL (ks.take j) ≤ 60 ∧ d + 1 + htL (ks.take j) ≤ 13 ∧ Hid (∀ i, i < j → ReOk (ks.getD i re0)) ∧ Below B w wr) (fun _ _ i _ => ks.length - (intOf i).toNat)
    case atStart => exact ⟨0, by omega, rfl, by simpa [szL] using hgr0, by simp [szL]; omega, by simp [htL]; omega, (fun i hi => by omega), hbr0⟩
    case round =>
      obtain ⟨j, hj, rfl, hgr, hn60, hd13, hall, hbr⟩ := hrel
      have hgl2 := hgr.lt
      by_cases hlt : j < ks.length
      · obtain ⟨b, o, rfl, hb, hc⟩ := row.open_ (flat_ne reF_len (by omega) ks (by omega))
        have hc' : ∀ i v, (ks.flatMap reF)[i]? = some v → wr.cell? ⟨b, o + i, none⟩ = some v := fun i v hv => ((HB0.out.trans hbr).cell (p := ⟨b, o + i, none⟩) hb).trans (hc i v hv)
        have hmem := getD_mem re0 ks j hlt
        have S1 := Lib.hid (szL_take ks j hlt)
        have S2 := Lib.hid (htL_take ks j hlt)
        have S3 := Lib.hid (szL_mono ks (j + 1))
        have S4 := Lib.hid (htL_mono ks (j + 1))
        have HI0 := IH.out _ hmem
        have HM0 : Hid (ReOk (.node k n (some ⟨b, o, none⟩) c ks) → ReOk (ks.getD j re0)) := fun h => by cases h with | mk node kids => exact kids _ hmem
        have hall' := hall
        generalize hx : ks.getD j re0 = x at *
        obtain ⟨k', n', A', c', ks'⟩ := x
        have y0 := flat_cell reF_len re0 hc' j 0 hlt (by omega) (.int .i64 k') (by rw [hx]; rfl)
        have y1 := flat_cell reF_len re0 hc' j 1 hlt (by omega) (.int .i64 n') (by rw [hx]; rfl)
        have y2 := flat_cell reF_len re0 hc' j 2 hlt (by omega) (.slice A' ks'.length c') (by rw [hx]; rfl)
        rw [Nat.add_zero] at y0
        have hbl : b < wr.heap.size := by omega
        have HI : Hid (∀ w', Below B w0 w' → Box w' g 3 #[.int .i64 ((n0 + 1 + szL (ks.take j) : Nat) : Int)] → Calls Tryd.prog 46 #[.agg #[.int .i64 k', .int .i64 n', .slice A' ks'.length c'], .int .i64 ((d : Int) + 1), .pointer (some ⟨g, 0, none⟩)] w' (IsExpr B g (.node k' n' A' c' ks') (d + 1) (n0 + 1 + szL (ks.take j)) w')) := by
          intro w' h1 h2
          have := HI0 w' (d + 1) (n0 + 1 + szL (ks.take j)) h1 h2 (by omega) hn60
          rw [show ((d + 1 : Nat) : Int) = (d : Int) + 1 from by omega] at this
          exact this
        have HX := Lib.hid hx
        have hbr1 := hbr.alloc (by omega) (.cells #[.int .i64 k', .int .i64 n', .slice A' ks'.length c'] 24)
        have hgr1 := hgr.alloc (.cells #[.int .i64 k', .int .i64 n', .slice A' ks'.length c'] 24)
        have HBR := Lib.hid hbr1
        have HGR := Lib.hid hgr1
        clear hc hc' HI0 hx hmem hbr hgr hbr1 hgr1
        go_wp2_with fail
        refine (HI.out _ (HB0.out.trans HBR.out) HGR.out).mono ?_
        rintro e w2 ⟨E, m1, rfl, hg2, hb2, hm, hE0, hE1⟩
        have HB2 := Lib.hid (HBR.out.trans hb2)
        clear hb2 HI HBR HGR
        by_cases hE : E = 0
        · subst hE
          obtain ⟨ok, hm1, hm2, hm3⟩ := hE0 rfl
          have HG2 := Lib.hid hg2
          have HM1 := Lib.hid hm1
          clear hE0 hE1 hg2 hm1
          go_wp2_with fail
          go_roundw
          case rel =>
            refine ⟨j + 1, by omega, by go_num, ?_, ?_, ?_, fun i hi => ?_, HB2.out⟩
            · have := HG2.out; rw [HM1.out] at this; rw [S1.out, ← Nat.add_assoc]; exact this
            · have := HM1.out; rw [S1.out]; omega
            · rw [S2.out]; omega
            · by_cases hij : i < j
              · exact hall.out i hij
              · obtain rfl : i = j := by omega
                rw [HX.out]; exact ok
          case measure => simp [intOf]; omega
        · have tE : (E != 0) = true := by rw [bne_iff_ne]; exact hE
          have HE1 := Lib.hid hE1
          clear hE0 hE1
          go_wp2_with fail
          go_ret
          refine ⟨E, m1, rfl, hg2, HB2.out, hm, fun h => absurd h hE, fun _ hok => ?_⟩
          obtain ⟨q1, q2⟩ := HE1.out hE (HM0.out hok)
          refine ⟨q1, fun hh => q2 ?_⟩
          have r1 := S1.out
          have r2 := S2.out
          have r3 := S3.out
          have r4 := S4.out
          rw [sz, ht] at hh
          omega
      · obtain rfl : j = ks.length := by omega
        rw [List.take_length] at hn60 hd13 hgr
        go_wp2_with fail
        go_ret
        refine ⟨0, _, rfl, hgr, hbr, by omega, fun _ => ⟨.mk HNode.out (fun x hx => ?_), by rw [sz]; omega, hn60, by rw [ht]; omega⟩, fun h => absurd rfl h⟩
        obtain ⟨i, hi, rfl⟩ := List.getElem_of_mem hx
        have := hall.out i hi
        simpa [List.getD, hi] using this
end Go.Proofs.YtbmbphikjainiaaDoor
