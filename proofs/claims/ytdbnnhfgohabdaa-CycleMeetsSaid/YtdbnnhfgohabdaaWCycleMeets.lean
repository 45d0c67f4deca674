/- The walk of CycleMeets: it returns true at every input; it writes nothing that was there. -/
import Derived.Test.YtdbnnhfgohabdaaCycle6
import Derived.ProofKit
import Derived.Lib.SmallJoins
namespace Go.Proofs.Ytdbnnhfgohabdaa.cycleMeets
open Go.RowKit Go.Joins Go.ChangeShapes Go.WideShapes
set_option linter.unusedVariables false

theorem ok46 : CycOk [4, 6] [0, 0] := by refine ⟨by decide, by decide, by decide, ?_⟩; intro i hi; match i, hi with | 0, _ | 1, _ => decide

set_option maxHeartbeats 1000000 in
set_option maxRecDepth 100000 in
theorem core_no (A A' : Option Addr) (c c' : Nat) (Ls Os : List Int) (d : Int) (w : World) (hL : Row w w.heap.size A (ints Ls)) (hO : Row w w.heap.size A' (ints Os)) (hl : Ls.length ≤ maxLen) (hl' : Os.length ≤ maxLen) (hok : ¬ CycOk Ls Os) :
    Calls Try.prog 13 #[.agg #[.slice A Ls.length c, .slice A' Os.length c'], .int .i64 d] w fun e w' => e = .returned (.bool true) ∧ Below w.heap.size w w' := by
  have HN := Lib.hid (fun D w hL hO => cof_no A A' c c' Ls Os D w hL hO hl hl' hok)
  clear hok
  generalize Ls.length = n at *
  generalize Os.length = m at *
  have hd1 : -3000000 ≤ -3000000 + d % 4000000 := by omega
  have hd2 : -3000000 + d % 4000000 < 1000000 := by omega
  have HF := Lib.hid (fun A A' c c' w hL hO => cfull_yes A A' c c' [4, 6] [0, 0] w hL hO (by decide) (by decide) ok46)
  have e46 : fullV [4, 6] = .tuple #[.int .i64 12, .int .i64 0] := by
    unfold fullV; rw [show lcmR 1 [4, 6] = 12 from by decide]; rfl
  rw [e46] at HF
  clear e46
  go_enter Try.func13, Try.ntmps13
  go_wp2_with fail
  have x1 : Box (((w.alloc (Obj.cells #[.slice A n c, .slice A' m c'] 76)).alloc (Obj.cells #[.int .i64 4, .int .i64 6] 3)).alloc (Obj.cells #[.int .i64 0, .int .i64 0] 3)) (w.heap.size + 1) 3 #[.int .i64 4, .int .i64 6] :=
    (show Box _ (w.heap.size + 1) _ _ from heap_alloc2_new _ _ _).alloc _
  have x2 : Box (((w.alloc (Obj.cells #[.slice A n c, .slice A' m c'] 76)).alloc (Obj.cells #[.int .i64 4, .int .i64 6] 3)).alloc (Obj.cells #[.int .i64 0, .int .i64 0] 3)) (w.heap.size + 1 + 1) 3 #[.int .i64 0, .int .i64 0] :=
    heap_alloc3_new _ _ _ _
  refine (HF.out _ _ 2 2 _ (Row.of_box (x1.alloc _)) (Row.of_box (x2.alloc _))).mono ?_
  rintro e w1 ⟨rfl, hb1⟩
  have hB := below_next (below_alloc3 w _ _ _) hb1
  have hx := ((((Box.new w 76 #[.slice A n c, .slice A' m c']).alloc _).alloc _).alloc _).below hb1
  replace hL := hL.next hB
  replace hO := hO.next hB
  clear hb1 x1 x2 HF
  have z0 : w1.cell? ⟨w.heap.size, 0, none⟩ = some (.slice A n c) := hx.cell 0
  have z1 : w1.cell? ⟨w.heap.size, 1, none⟩ = some (.slice A' m c') := hx.cell 1
  go_wp2_with (go_at_call 18; refine (cut_any _ _ _ _ (by omega) (by omega) (by omega) (by omega)).mono ?_; rintro e w' ⟨rfl, rfl⟩)
  generalize -3000000 + d % 4000000 = D at *
  refine (HN.out _ _ hL hO).mono ?_
  rintro e w2 ⟨E, hE, rfl, hb2⟩
  have t1 : (E != 0) = true := by rw [bne_iff_ne]; exact hE
  clear hE
  go_wp2_with fail
  go_ret
  exact ⟨rfl, below_then hB hb2⟩

set_option maxHeartbeats 1000000 in
set_option maxRecDepth 100000 in
theorem core_yes (A A' : Option Addr) (c c' : Nat) (Ls Os : List Int) (d : Int) (w : World) (hL : Row w w.heap.size A (ints Ls)) (hO : Row w w.heap.size A' (ints Os)) (hl : Ls.length ≤ maxLen) (hl' : Os.length ≤ maxLen) (hok : CycOk Ls Os) :
    Calls Try.prog 13 #[.agg #[.slice A Ls.length c, .slice A' Os.length c'], .int .i64 d] w fun e w' => e = .returned (.bool true) ∧ Below w.heap.size w w' := by
  have hc3 := hok.2.2.1
  have HOf := Lib.hid (fun D w hL hO h1 h2 => cof_yes A A' c c' Ls Os D w hL hO hl hl' hok h1 h2)
  have HFu := Lib.hid (fun w hL hO => cfull_yes A A' c c' Ls Os w hL hO hl hl' hok)
  have HNx := Lib.hid (fun P cp D j0 w hL hO hP h1 h2 h3 => cNext_yes A A' P c c' cp Ls Os (places Ls Os D) D j0 w hL hO hP hok rfl h1 h2 h3)
  have HPl := Lib.hid (fun D => places_length Ls Os D)
  have hL1 := (lcm_step Ls Ls.length hok.pos).1
  rw [List.take_of_length_le (Nat.le_refl _)] at hL1
  clear hok hl hl'
  unfold fullV at HFu
  rw [hc3] at HOf HFu ⊢
  clear hc3
  generalize Ls.length = n at *
  have hd1 : -3000000 ≤ -3000000 + d % 4000000 := by omega
  have hd2 : -3000000 + d % 4000000 < 1000000 := by omega
  have HF := Lib.hid (fun A A' c c' w hL hO => cfull_yes A A' c c' [4, 6] [0, 0] w hL hO (by decide) (by decide) ok46)
  have e46 : fullV [4, 6] = .tuple #[.int .i64 12, .int .i64 0] := by
    unfold fullV; rw [show lcmR 1 [4, 6] = 12 from by decide]; rfl
  rw [e46] at HF
  clear e46
  go_enter Try.func13, Try.ntmps13
  go_wp2_with fail
  have x1 : Box (((w.alloc (Obj.cells #[.slice A n c, .slice A' n c'] 76)).alloc (Obj.cells #[.int .i64 4, .int .i64 6] 3)).alloc (Obj.cells #[.int .i64 0, .int .i64 0] 3)) (w.heap.size + 1) 3 #[.int .i64 4, .int .i64 6] :=
    (show Box _ (w.heap.size + 1) _ _ from heap_alloc2_new _ _ _).alloc _
  have x2 : Box (((w.alloc (Obj.cells #[.slice A n c, .slice A' n c'] 76)).alloc (Obj.cells #[.int .i64 4, .int .i64 6] 3)).alloc (Obj.cells #[.int .i64 0, .int .i64 0] 3)) (w.heap.size + 1 + 1) 3 #[.int .i64 0, .int .i64 0] :=
    heap_alloc3_new _ _ _ _
  refine (HF.out _ _ 2 2 _ (Row.of_box (x1.alloc _)) (Row.of_box (x2.alloc _))).mono ?_
  rintro e w1 ⟨rfl, hb1⟩
  have hB := below_next (below_alloc3 w _ _ _) hb1
  have hx := ((((Box.new w 76 #[.slice A n c, .slice A' n c']).alloc _).alloc _).alloc _).below hb1
  replace hL := hL.next hB
  replace hO := hO.next hB
  clear hb1 x1 x2 HF
  have z0 : w1.cell? ⟨w.heap.size, 0, none⟩ = some (.slice A n c) := hx.cell 0
  have z1 : w1.cell? ⟨w.heap.size, 1, none⟩ = some (.slice A' n c') := hx.cell 1
  go_wp2_with (go_at_call 18; refine (cut_any _ _ _ _ (by omega) (by omega) (by omega) (by omega)).mono ?_; rintro e w' ⟨rfl, rfl⟩)
  generalize -3000000 + d % 4000000 = D at *
  refine (HOf.out _ _ hL hO (by omega) (by omega)).mono ?_
  rintro e w2 ⟨P, cp, rfl, hP, hb2⟩
  rw [HPl.out]
  have hs := HNx.out P cp D 0
  have hs' := HNx.out P cp D 1
  rw [Int.add_zero] at hs
  have HS := Lib.hid hs
  have HS' := Lib.hid hs'
  clear hs hs' HNx HPl
  replace hB := below_then hB hb2
  replace hx := hx.below hb2
  replace hL := hL.next hb2
  replace hO := hO.next hb2
  clear hb2 z0 z1
  have z0 : w2.cell? ⟨w.heap.size, 0, none⟩ = some (.slice A n c) := hx.cell 0
  have z1 : w2.cell? ⟨w.heap.size, 1, none⟩ = some (.slice A' n c') := hx.cell 1
  generalize places Ls Os D = Ps at *
  generalize lcmR 1 Ls = L at *
  go_wp2_with fail
  refine (HS.out _ hL hO hP (by omega) (by omega) (by simp)).mono ?_
  rw [show nextV D 0 L = .tuple #[.int .i64 D, .int .i64 0] from if_pos rfl]
  rintro e w3 ⟨rfl, hb3⟩
  replace hB := below_then hB hb3
  replace hx := hx.below hb3
  replace hL := hL.next hb3
  replace hO := hO.next hb3
  replace hP := hP.next hb3
  clear hb3 z0 z1 HS
  have z0 : w3.cell? ⟨w.heap.size, 0, none⟩ = some (.slice A n c) := hx.cell 0
  have z1 : w3.cell? ⟨w.heap.size, 1, none⟩ = some (.slice A' n c') := hx.cell 1
  go_wp2_with fail
  refine (HFu.out _ hL hO).mono ?_
  rintro e w4 ⟨rfl, hb4⟩
  replace hB := below_then hB hb4
  replace hx := hx.below hb4
  replace hL := hL.next hb4
  replace hO := hO.next hb4
  replace hP := hP.next hb4
  clear hb4 z0 z1 HFu
  have z0 : w4.cell? ⟨w.heap.size, 0, none⟩ = some (.slice A n c) := hx.cell 0
  have z1 : w4.cell? ⟨w.heap.size, 1, none⟩ = some (.slice A' n c') := hx.cell 1
  by_cases hbig : L ≤ 1000000000
  · rw [if_pos hbig]
    go_wp2_with fail
    refine (HS'.out _ hL hO hP (by omega) (by omega) (by simp)).mono ?_
    rw [show nextV D 1 L = if D + L ≤ 4000000 then .tuple #[.int .i64 (D + L), .int .i64 0] else .tuple #[.int .i64 0, .int .i64 6] from if_neg (by omega)]
    rintro e w5 ⟨rfl, hb5⟩
    replace hB := below_then hB hb5
    clear hb5 z0 z1 HS' hx
    by_cases hfit : D + L ≤ 4000000
    · rw [if_pos hfit]
      have t1 : decide (4000000 < D + L) = false := decide_eq_false (by omega)
      go_wp2_with fail
      go_ret
      exact ⟨rfl, hB⟩
    · rw [if_neg hfit]
      have t1 : decide (4000000 < D + L) = true := decide_eq_true (by omega)
      go_wp2_with fail
      go_ret
      exact ⟨rfl, hB⟩
  · rw [if_neg hbig]
    go_wp2_with fail
    refine (HS'.out _ hL hO hP (by omega) (by omega) (by simp)).mono ?_
    rw [show nextV D 1 L = .tuple #[.int .i64 0, .int .i64 6] from (if_neg (by omega)).trans (if_neg (by omega))]
    rintro e w5 ⟨rfl, hb5⟩
    replace hB := below_then hB hb5
    clear hb5 z0 z1 HS' hx
    go_wp2_with fail
    go_ret
    exact ⟨rfl, hB⟩

/-- a slice of integers that came in, read as a row -/
theorem row_of_trod {H : Type} {enc : TypeId × Value → H} {W : World} {n : Nat} {v : Value} {y : DataW H × List MemPlace}
    (h : DataW.trod enc Try.prog W 0 (fun _ => true) true n 58 [v] = some y) : ∃ (A : Option Addr) (xs : List Int) (c : Nat), v = .slice A xs.length c ∧ Row W W.heap.size A (ints xs) ∧ xs.length ≤ maxLen := by
  have hlt := DataW.trod_lt n _ _ _ h
  rcases open_ints Try.underlying58 Try.underlying3 (by kernel_rfl) h with ⟨hcs, _⟩ | ⟨a, len, cap, zs, hcs, _, hl, hm, hz, hy, hcell, hwz⟩
  · simp only [List.cons.injEq, and_true] at hcs
    exact ⟨none, [], 0, hcs, .inl rfl, by simp⟩
  · simp only [List.cons.injEq, and_true] at hcs
    simp only [if_true] at hz
    have hlen : (zs.take len).length = len := by rw [List.length_take]; omega
    refine ⟨some a, zs.take len, cap, by rw [hlen]; exact hcs, ?_, by rw [hlen]; omega⟩
    by_cases h0 : len = 0
    · subst h0; exact .inl (by simp [ints])
    · have hc0 := hcell 0 (by omega)
      obtain ⟨b, off, spot⟩ := a
      have hspot : spot = none := by simpa [Addr.add] using World.cell?_spot hc0
      subst hspot
      refine .inr ⟨b, off, rfl, block_lt_of_cell hc0, fun j u hu => ?_⟩
      have hj : j < (zs.take len).length := by
        have := List.getElem?_eq_some_iff.1 hu
        obtain ⟨h, _⟩ := this
        rwa [ints_length] at h
      rw [ints_get _ j hj] at hu
      rw [hlen] at hj
      have hc := hcell j (by omega)
      have ha : (⟨b, off, none⟩ : Addr).add j = ⟨b, off + j, none⟩ := by unfold Addr.add; split <;> simp_all
      rw [ha] at hc
      rw [hc, ← hu]
      congr 2
      simp [List.getD, hj]

set_option maxRecDepth 100000 in
theorem walk {H : Type} {enc : TypeId × Value → H} {base : Nat} {W : World} (v0 : Value) (d0 : DataW H) (p0 : List MemPlace) (hv : Value.okWide Try.prog W .any base 76 v0)
    (h0 : DataW.Trod enc Try.prog W 0 (fun _ => true) true 76 v0 d0 p0) (a1 : Int) (w1 : (Lit.int .i64 a1).wf = true) :
    Calls Try.prog 13 #[v0, .int .i64 a1] W fun e W' => e = .returned (.bool true) ∧ Below W.heap.size W W' := by
  obtain ⟨c0, c1, y0, y1, m, rfl, rfl, rfl, hy0, hy1⟩ := open_agg2 Try.underlying76 (by kernel_rfl) (by kernel_rfl) hv h0
  obtain ⟨A, Ls, c, rfl, hL, hl⟩ := row_of_trod hy0
  obtain ⟨A', Os, c', rfl, hO, hl'⟩ := row_of_trod hy1
  by_cases hok : CycOk Ls Os
  · exact core_yes A A' c c' Ls Os a1 W hL hO hl hl' hok
  · exact core_no A A' c c' Ls Os a1 W hL hO hl hl' hok
end Go.Proofs.Ytdbnnhfgohabdaa.cycleMeets
