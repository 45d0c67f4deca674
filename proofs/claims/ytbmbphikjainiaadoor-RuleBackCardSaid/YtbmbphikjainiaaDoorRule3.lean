/- Contracts of package rule: checkExpr, eval, Eval. -/
import Derived.Test.YtbmbphikjainiaaDoorRule2
namespace Go.Proofs.YtbmbphikjainiaaDoor
open Go.RowKit
set_option linter.unusedVariables false

/-- an expression is valid -/
structure ReFine (t : RE) : Prop where
  ok : ReOk t
  sz : sz t ≤ 60
  ht : ht t ≤ 12
/-- what checkExpr gives -/
def IsCheckE (t : RE) (w : World) (e : Ending) (w' : World) : Prop :=
  ∃ E : Int, e = .returned (.int .i64 E) ∧ Below w.heap.size w w' ∧ (E = 0 → ReFine t) ∧ (E ≠ 0 → ¬ ReFine t) ∧ (E ≠ 0 → ReOk t → E = 2)

set_option maxHeartbeats 1000000 in
set_option maxRecDepth 100000 in
theorem checkExpr_any (t : RE) (w : World) (hin : ReIn w w.heap.size t) : Calls Tryd.prog 25 #[reV t] w (IsCheckE t w) := by
  have HI := Lib.hid (fun W (h1 : Below w.heap.size w W) h2 => expr_any w w.heap.size (w.heap.size + 1) (by omega) t hin W 1 0 h1 h2 (by omega) (by omega))
  obtain ⟨k, n, A, c, ks⟩ := t
  change Calls Tryd.prog 25 #[.agg #[.int .i64 k, .int .i64 n, .slice A ks.length c]] w _
  have q1 := Lib.hid (below_alloc2 w (.cells #[.int .i64 k, .int .i64 n, .slice A ks.length c] 24) (.cells #[.int .i64 0] 3))
  have q2 : Hid (Box ((w.alloc (.cells #[.int .i64 k, .int .i64 n, .slice A ks.length c] 24)).alloc (.cells #[.int .i64 0] 3)) (w.heap.size + 1) 3 #[.int .i64 0]) := heap_alloc2_new _ _ _
  go_enter Tryd.func25, Tryd.ntmps25
  go_wp2_with fail
  refine (HI.out _ q1.out q2.out).mono ?_
  rintro e w2 ⟨E, m1, rfl, hg2, hb2, hm, hE0, hE1⟩
  have HB := Lib.hid (q1.out.trans hb2)
  clear hb2 q1 q2 HI hg2
  have H0 := Lib.hid hE0
  have H1 := Lib.hid hE1
  clear hE0 hE1
  go_wp2_with fail
  go_ret
  refine ⟨E, rfl, HB.out, fun h => ?_, fun h hf => ?_, fun h hok => (H1.out h hok).1⟩
  · obtain ⟨a, b, c, d⟩ := H0.out h
    exact ⟨a, by omega, by omega⟩
  · have := (H1.out h hf.ok).2
    have r1 := hf.sz
    have r2 := hf.ht
    omega

theorem vAt_set (y : Int) (ks : List RE) (j : Nat) (hj : j < 2) : (#[.int .i64 (vAt y ks j 0), .int .i64 (vAt y ks j 1)] : Array Value).setIfInBounds j (.int .i64 (evalR y (ks.getD j re0)).1) = #[.int .i64 (vAt y ks (j + 1) 0), .int .i64 (vAt y ks (j + 1) 1)] := by
  match j, hj with
  | 0, _ => rfl
  | 1, _ => rfl

/-- what eval gives -/
def IsEvalR (p : Int × Int) (w : World) (e : Ending) (w' : World) : Prop := e = .returned (.tuple #[.int .i64 p.1, .int .i64 p.2]) ∧ Below w.heap.size w w'

set_option maxHeartbeats 4000000 in
set_option maxRecDepth 100000 in
theorem reval_any (w0 : World) (B : Nat) (y : Int) (t : RE) (hin : ReIn w0 B t) : ReOk t → ∀ w : World, Below B w0 w → B ≤ w.heap.size →
    Calls Tryd.prog 26 #[reV t, .int .i64 y] w (IsEvalR (evalR y t) w) := by
  induction hin with
  | @mk k n A c ks hk hn hl row kids ih =>
    intro hok w hb0 hBw
    obtain ⟨node, okids⟩ : ReNode k n ks.length ∧ ∀ x ∈ ks, ReOk x := by cases hok with | mk node kids => exact ⟨node, kids⟩
    have hks : ks.length ≤ 2 := by rw [node.len]; unfold opsN; split <;> (try split) <;> omega
    have k0 := node.k0
    have k1 := node.k1
    have HOK := Lib.hid (evalR_ok y k n A c ks)
    have HER := Lib.hid (evalR_err y k n A c ks)
    have HAP := Lib.hid (fun w => apply_any k n y (vAt y ks ks.length 0) (vAt y ks ks.length 1) A ks.length c w k0 k1 (vAt_in _ _ _ _).1 (vAt_in _ _ _ _).2 (vAt_in _ _ _ _).1 (vAt_in _ _ _ _).2)
    have IH := Lib.hid (fun x hx => ih x hx (okids x hx))
    have HB0 := Lib.hid hb0
    have qB := below_alloc2 w (.cells #[.int .i64 k, .int .i64 n, .slice A ks.length c] 24) (.cells #[.int .i64 0, .int .i64 0] 90)
    have qX := (Box.new w 24 #[.int .i64 k, .int .i64 n, .slice A ks.length c]).alloc (.cells #[.int .i64 0, .int .i64 0] 90)
    have qV : Box ((w.alloc (.cells #[.int .i64 k, .int .i64 n, .slice A ks.length c] 24)).alloc (.cells #[.int .i64 0, .int .i64 0] 90)) (w.heap.size + 1) 90 #[.int .i64 0, .int .i64 0] := heap_alloc2_new _ _ _
    have QB := Lib.hid qB
    have QX := Lib.hid qX
    have QV := Lib.hid qV
    have V0 : Hid (vAt y ks 0 0 = 0 ∧ vAt y ks 0 1 = 0) := ⟨rfl, rfl⟩
    clear ih kids okids node hok hb0 hk hn hl qB qX qV
    change Calls Tryd.prog 26 #[.agg #[.int .i64 k, .int .i64 n, .slice A ks.length c], .int .i64 y] w _
    go_enter Tryd.func26, Tryd.ntmps26
    go_wp2_with fail
    generalize (w.alloc (.cells #[.int .i64 k, .int .i64 n, .slice A ks.length c] 24)).alloc (.cells #[.int .i64 0, .int .i64 0] 90) = W1 at *
    go_loopw [7, 8, 9, 10, 16] (fun _ _ _ _ i wr => ∃ j : Nat, j ≤ ks.length ∧ i = .int .i64 j ∧ Box wr (w.heap.size + 1) 90 #[.int .i64 (vAt y ks j 0), .int .i64 (vAt y ks j 1)] ∧ Box wr w.heap.size 24 #[.int .i64 k, .int .i64 n, .slice A ks.length c] ∧ Hid (∀ i, i < j → (evalR y (ks.getD i re0)).2 = 0) ∧ Below w.heap.size w wr) (fun _ _ _ _ i _ => ks.length - (intOf i).toNat)
    case atStart => exact ⟨0, by omega, rfl, by rw [V0.out.1, V0.out.2]; exact QV.out, QX.out, (fun i hi => by omega), QB.out⟩
    case round =>
      obtain ⟨j, hj, rfl, hV, hX, hall, hbr⟩ := hrel
      have hvl := hV.lt
      by_cases hlt : j < ks.length
      · obtain ⟨b, o, rfl, hb, hc⟩ := row.open_ (flat_ne reF_len (by omega) ks (by omega))
        have hc' : ∀ i v, (ks.flatMap reF)[i]? = some v → wr.cell? ⟨b, o + i, none⟩ = some v := fun i v hv => ((HB0.out.trans (hbr.mono hBw)).cell (p := ⟨b, o + i, none⟩) hb).trans (hc i v hv)
        have hmem := getD_mem re0 ks j hlt
        have HI0 := IH.out _ hmem
        have HER0 := Lib.hid (HER.out j hlt hall.out)
        have HVS := Lib.hid (vAt_set y ks j (by omega))
        have hin := evalR_in y (ks.getD j re0)
        have HALL : Hid ((evalR y (ks.getD j re0)).2 = 0 → ∀ i, i < j + 1 → (evalR y (ks.getD i re0)).2 = 0) := fun h i hi => by
          by_cases hij : i < j
          · exact hall.out i hij
          · obtain rfl : i = j := by omega
            exact h
        generalize hx : ks.getD j re0 = x at *
        obtain ⟨k', n', A', c', ks'⟩ := x
        have y0 := flat_cell reF_len re0 hc' j 0 hlt (by omega) (.int .i64 k') (by rw [hx]; rfl)
        have y1 := flat_cell reF_len re0 hc' j 1 hlt (by omega) (.int .i64 n') (by rw [hx]; rfl)
        have y2 := flat_cell reF_len re0 hc' j 2 hlt (by omega) (.slice A' ks'.length c') (by rw [hx]; rfl)
        rw [Nat.add_zero] at y0
        have hbl : b < wr.heap.size := by have := hbr.size; omega
        have HI : Hid (∀ w', Below B w0 w' → B ≤ w'.heap.size → Calls Tryd.prog 26 #[.agg #[.int .i64 k', .int .i64 n', .slice A' ks'.length c'], .int .i64 y] w' (IsEvalR (evalR y (.node k' n' A' c' ks')) w')) := HI0
        generalize evalR y (.node k' n' A' c' ks') = p at *
        obtain ⟨p1, p2⟩ := p
        obtain ⟨pl, ph⟩ := hin
        simp only at pl ph
        have HBR := Lib.hid (hbr.alloc hbr.size (.cells #[.int .i64 k', .int .i64 n', .slice A' ks'.length c'] 24))
        have HV1 := Lib.hid (hV.alloc (.cells #[.int .i64 k', .int .i64 n', .slice A' ks'.length c'] 24))
        have HX1 := Lib.hid (hX.alloc (.cells #[.int .i64 k', .int .i64 n', .slice A' ks'.length c'] 24))
        clear hc hc' HI0 hx hmem hbr hV hX
        go_wp2_with fail
        refine (HI.out _ (HB0.out.trans (HBR.out.mono hBw)) (Nat.le_trans hBw HBR.out.size)).mono ?_
        rintro e w2 ⟨rfl, hb2⟩
        have HB2 := Lib.hid (below_then HBR.out hb2)
        have hV2 := HV1.out.below hb2
        have hX2 := HX1.out.below hb2
        clear hb2 HI HBR HV1 HX1
        by_cases hE : p2 = 0
        · subst hE
          have HA := Lib.hid (HALL.out rfl)
          clear HALL
          have v0 : w2.cell? ⟨w.heap.size + 1, j, none⟩ = some (.int .i64 (vAt y ks j j)) := by
            rw [hV2.cell j]
            have : j = 0 ∨ j = 1 := by omega
            rcases this with rfl | rfl <;> rfl
          have vf := hV2.free j
          have vl := hV2.lt
          have j0 : (0 : Int) ≤ (j : Int) := by omega
          have j1 : (j : Int) < 2 := by omega
          have HV3 : Hid (Box (w2.setCell ⟨w.heap.size + 1, j, none⟩ (.int .i64 p1)) (w.heap.size + 1) 90 #[.int .i64 (vAt y ks (j + 1) 0), .int .i64 (vAt y ks (j + 1) 1)]) := by
            have := hV2.set_ j (.int .i64 p1)
            rw [HVS.out] at this
            exact this
          have HX3 := Lib.hid (hX2.far (p := ⟨w.heap.size + 1, j, none⟩) (by simp) (.int .i64 p1))
          clear hV2 hX2
          go_wp2_with fail
          go_roundw
          case rel => exact ⟨j + 1, by omega, by go_num, HV3.out, HX3.out, HA.out, HB2.out.setCell (p := ⟨w.heap.size + 1, j, none⟩) (by simp) _⟩
          case measure => simp [intOf]; omega
        · have tE : (p2 != 0) = true := by rw [bne_iff_ne]; exact hE
          clear hV2 hX2
          go_wp2_with fail
          go_ret2
          exact ⟨by rw [HER0.out hE]; rfl, HB2.out⟩
      · obtain rfl : j = ks.length := by omega
        have v0 : wr.cell? ⟨w.heap.size + 1, 0, none⟩ = some (.int .i64 (vAt y ks ks.length 0)) := hV.cell 0
        have v1 : wr.cell? ⟨w.heap.size + 1, 1, none⟩ = some (.int .i64 (vAt y ks ks.length 1)) := hV.cell 1
        have x0 : wr.cell? ⟨w.heap.size, 0, none⟩ = some (.int .i64 k) := hX.cell 0
        have x1 : wr.cell? ⟨w.heap.size, 1, none⟩ = some (.int .i64 n) := hX.cell 1
        have x2 : wr.cell? ⟨w.heap.size, 2, none⟩ = some (.slice A ks.length c) := hX.cell 2
        have xl := hX.lt
        have HEQ := Lib.hid (HOK.out hall.out)
        have HBR := Lib.hid hbr
        clear hV hX hbr HOK
        generalize vAt y ks ks.length 0 = a at *
        generalize vAt y ks ks.length 1 = b at *
        generalize applyR k n y a b = p at *
        obtain ⟨p1, p2⟩ := p
        go_wp2_with fail
        refine (HAP.out _).mono ?_
        rintro e w2 ⟨rfl, hb2⟩
        have HB2 := Lib.hid (below_then HBR.out hb2)
        clear hb2 v0 v1 x0 x1 x2 HAP HBR
        by_cases hE : p2 = 0
        · subst hE
          by_cases h1 : p1 < -2147483647
          · have t1 : decide (p1 < -2147483647) = true := decide_eq_true h1
            go_wp2_with fail
            go_ret2
            exact ⟨by rw [HEQ.out, finR, if_pos rfl, if_pos (.inl h1)]; rfl, HB2.out⟩
          have t1 : decide (p1 < -2147483647) = false := decide_eq_false h1
          by_cases h2 : 2147483647 < p1
          · have t2 : decide (2147483647 < p1) = true := decide_eq_true h2
            go_wp2_with fail
            go_ret2
            exact ⟨by rw [HEQ.out, finR, if_pos rfl, if_pos (.inr h2)]; rfl, HB2.out⟩
          have t2 : decide (2147483647 < p1) = false := decide_eq_false h2
          go_wp2_with fail
          go_ret2
          exact ⟨by rw [HEQ.out, finR, if_pos rfl, if_neg (by simp only; omega)]; rfl, HB2.out⟩
        · have tE : (p2 == 0) = false := by rw [beq_eq_false_iff_ne]; exact hE
          have tE' : (p2 != 0) = true := by rw [bne_iff_ne]; exact hE
          go_wp2_with fail
          go_ret2
          exact ⟨by rw [HEQ.out, finR, if_neg hE]; rfl, HB2.out⟩

/-- what Eval gives, the year being one -/
def IsEval (y : Int) (t : RE) (w : World) (e : Ending) (w' : World) : Prop :=
  ∃ v E : Int, e = .returned (.tuple #[.int .i64 v, .int .i64 E]) ∧ Below w.heap.size w w' ∧ ((ReFine t ∧ (v, E) = evalR y t) ∨ (¬ ReFine t ∧ v = 0 ∧ E ≠ 0 ∧ (ReOk t → E = 2)))

set_option maxHeartbeats 1000000 in
set_option maxRecDepth 100000 in
theorem rEval_any (y : Int) (t : RE) (w : World) (hin : ReIn w w.heap.size t) (h1 : -10000 ≤ y) (h2 : y ≤ 10000) : Calls Tryd.prog 11 #[reV t, .int .i64 y] w (IsEval y t w) := by
  obtain ⟨k, n, A, c, ks⟩ := t
  change Calls Tryd.prog 11 #[.agg #[.int .i64 k, .int .i64 n, .slice A ks.length c], .int .i64 y] w _
  have hin1 := Lib.hid (hin.next (below_alloc1 w (.cells #[.int .i64 k, .int .i64 n, .slice A ks.length c] 24)) (below_alloc1 w (.cells #[.int .i64 k, .int .i64 n, .slice A ks.length c] 24)).size)
  have HCk := Lib.hid (fun w h => checkExpr_any (.node k n A c ks) w h)
  have HEv := Lib.hid (fun hok W h1 h2 => reval_any (w.alloc (.cells #[.int .i64 k, .int .i64 n, .slice A ks.length c] 24)) (w.alloc (.cells #[.int .i64 k, .int .i64 n, .slice A ks.length c] 24)).heap.size y _ hin1.out hok W h1 h2)
  have qX := Lib.hid (Box.new w 24 #[.int .i64 k, .int .i64 n, .slice A ks.length c])
  clear hin
  go_enter Tryd.func11, Tryd.ntmps11
  go_wp2_with fail
  refine (HCk.out _ hin1.out).mono ?_
  rintro e w2 ⟨E, rfl, hb2, hE0, hE1, hE2⟩
  have HB2 := Lib.hid (below_next (Below.refl _ _) hb2)
  have Hb2 := Lib.hid hb2
  have hX := qX.out.below hb2
  have x0 : w2.cell? ⟨w.heap.size, 0, none⟩ = some (.int .i64 k) := hX.cell 0
  have x1 : w2.cell? ⟨w.heap.size, 1, none⟩ = some (.int .i64 n) := hX.cell 1
  have x2 : w2.cell? ⟨w.heap.size, 2, none⟩ = some (.slice A ks.length c) := hX.cell 2
  have xl := hX.lt
  have H1 := Lib.hid hE1
  have H2 := Lib.hid hE2
  clear hX qX hb2 hE1 hE2
  by_cases hE : E = 0
  · subst hE
    have hf := hE0 rfl
    clear hE0
    go_wp2_with fail
    refine (HEv.out hf.ok _ Hb2.out Hb2.out.size).mono ?_
    rintro e w3 ⟨rfl, hb3⟩
    have HB3 := Lib.hid (below_then HB2.out hb3)
    clear hb3 x0 x1 x2
    generalize hp : evalR y (.node k n A c ks) = p at *
    obtain ⟨p1, p2⟩ := p
    have HP := Lib.hid hp
    clear hp
    go_wp2_with fail
    go_ret2
    exact ⟨p1, p2, rfl, HB3.out, .inl ⟨hf, HP.out.symm⟩⟩
  · have tE' : (E != 0) = true := by rw [bne_iff_ne]; exact hE
    clear hE0
    go_wp2_with fail
    go_ret2
    exact ⟨0, E, rfl, HB2.out, .inr ⟨H1.out hE, rfl, hE, H2.out hE⟩⟩
end Go.Proofs.YtbmbphikjainiaaDoor
