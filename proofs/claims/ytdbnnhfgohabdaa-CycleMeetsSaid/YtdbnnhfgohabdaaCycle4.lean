/- Contracts of package cycle: open, at the places of a day. -/
import Derived.Test.YtdbnnhfgohabdaaCycle3
namespace Go.Proofs.Ytdbnnhfgohabdaa
open Go.RowKit
set_option linter.unusedVariables false

/-- What open says at the places of the day D. -/
def IsOpen (vL vO vP : Value) (Ls : List Int) (D : Int) (w : World) (e : Ending) (w' : World) : Prop :=
  ∃ (u : Nat), e = .returned (.tuple #[.agg #[vL, vO, vP, .int .i64 (D % lcmR 1 (Ls.take u)), .int .i64 (lcmR 1 (Ls.take u)), .int .i64 u], .bool true]) ∧
    u ≤ Ls.length ∧ (u = Ls.length ∨ 8000000 < lcmR 1 (Ls.take u)) ∧ lcmR 1 (Ls.take u) ≤ 8000000000 ∧ Below w.heap.size w w'

set_option maxHeartbeats 2000000 in
set_option maxRecDepth 100000 in
theorem copen_yes (A A' P : Option Addr) (c c' cp : Nat) (Ls Os Ps : List Int) (D : Int) (w : World) (hL : Row w w.heap.size A (ints Ls)) (hO : Row w w.heap.size A' (ints Os)) (hP : Row w w.heap.size P (ints Ps))
    (hok : CycOk Ls Os) (hPs : Ps = places Ls Os D) :
    Calls Try.prog 75 #[.agg #[.slice A Ls.length c, .slice A' Ls.length c'], .slice P Ls.length cp] w (IsOpen (.slice A Ls.length c) (.slice A' Ls.length c') (.slice P Ls.length cp) Ls D w) := by
  have HOK := Lib.hid hok
  have hc1 := hok.1
  have hc2 := hok.2.1
  have hc3 := hok.2.2.1
  have Htk := Lib.hid (fun k => lcm_take_le Ls k hok.pos)
  clear hok
  have hpl : Ps.length = Ls.length := by rw [hPs, places_length]
  have HPs := Lib.hid hPs
  clear hPs
  obtain ⟨b, o, rfl, hb, hc⟩ := hL.open_ (ints_ne Ls (by omega))
  obtain ⟨b', o', rfl, hb', hc'⟩ := hO.open_ (ints_ne Os (by omega))
  obtain ⟨bp, op, rfl, hbp, hcp⟩ := hP.open_ (ints_ne Ps (by omega))
  have HC := Lib.hid hc
  have HC' := Lib.hid hc'
  have HCP := Lib.hid hcp
  have Hc3 := Lib.hid hc3
  have Hpl := Lib.hid hpl
  clear hc hc' hcp hL hO hP hc3 hpl
  have Hfin : Hid (∀ (Q : World → Prop), True) := fun _ => trivial
  obtain ⟨n, hn⟩ : ∃ n, Ls.length = n := ⟨_, rfl⟩
  have Hn := Lib.hid hn
  rw [hn] at hc1 hc2 ⊢
  clear hn Hfin
  go_enter Try.func75, Try.ntmps75
  go_wp2_with fail
  have hW : ∃ W0, W0 = ((w.alloc (Obj.cells #[.slice (some ⟨b, o, none⟩) n c, .slice (some ⟨b', o', none⟩) n c'] 76)).alloc (Obj.cells #[.slice none 0 0, .slice none 0 0, .slice none 0 0, .int .i64 0, .int .i64 0, .int .i64 0] 107)).alloc (Obj.cells #[.slice (some ⟨b, o, none⟩) n c, .slice (some ⟨b', o', none⟩) n c', .slice (some ⟨bp, op, none⟩) n cp, .int .i64 0, .int .i64 1, .int .i64 0] 107) := ⟨_, rfl⟩
  obtain ⟨W0, hW⟩ := hW
  have hx0 : Box W0 w.heap.size 76 #[.slice (some ⟨b, o, none⟩) n c, .slice (some ⟨b', o', none⟩) n c'] := by rw [hW]; exact ((Box.new w _ _).alloc _).alloc _
  have hx1 : Box W0 (w.heap.size + 1) 107 #[.slice none 0 0, .slice none 0 0, .slice none 0 0, .int .i64 0, .int .i64 0, .int .i64 0] := by rw [hW]; exact (show Box _ _ _ _ from heap_alloc2_new _ _ _).alloc _
  have hx2 : Box W0 (w.heap.size + 1 + 1) 107 #[.slice (some ⟨b, o, none⟩) n c, .slice (some ⟨b', o', none⟩) n c', .slice (some ⟨bp, op, none⟩) n cp, .int .i64 0, .int .i64 1, .int .i64 0] := by rw [hW]; exact heap_alloc3_new _ _ _ _
  have hB : Below w.heap.size w W0 := by rw [hW]; exact below_alloc3 _ _ _ _
  rw [← hW]
  clear hW
  obtain ⟨G, hG⟩ : ∃ G, w.heap.size = G := ⟨_, rfl⟩
  have HG := Lib.hid hG
  rw [hG] at hx0 hx1 hx2 hB hb hb' hbp ⊢
  clear hG
  go_loopw [7, 8, 9, 10, 11, 18] (fun _ _ _ _ _ i wr => ∃ k : Nat, k ≤ n ∧ i = .int .i64 k ∧ Box wr (G + 1 + 1) 107 #[.slice (some ⟨b, o, none⟩) n c, .slice (some ⟨b', o', none⟩) n c', .slice (some ⟨bp, op, none⟩) n cp, .int .i64 (D % lcmR 1 (Ls.take k)), .int .i64 (lcmR 1 (Ls.take k)), .int .i64 k] ∧ Below (G + 1 + 1) W0 wr ∧ lcmR 1 (Ls.take k) ≤ 8000000000) (fun _ _ _ _ _ i _ => n - (intOf i).toNat)
  case atStart => exact ⟨0, by omega, rfl, by simpa [lcmR] using hx2, Below.refl _ _, show (1 : Int) ≤ 8000000000 by omega⟩
  case round =>
    obtain ⟨k, hk, rfl, hxr, hbr, hle⟩ := hrel
    have hp := (Htk.out k).1
    have ha1 := Int.emod_nonneg D (show lcmR 1 (Ls.take k) ≠ 0 by omega)
    have ha2 := Int.emod_lt_of_pos D (show 0 < lcmR 1 (Ls.take k) by omega)
    have hx1r := hx1.belowB hbr (by omega)
    generalize ha : D % lcmR 1 (Ls.take k) = a at *
    generalize hs : lcmR 1 (Ls.take k) = s at *
    have Ha := Lib.hid ha
    have Hs := Lib.hid hs
    clear ha hs
    have z0 : wr.cell? ⟨G + 1 + 1, 0, none⟩ = some (.slice (some ⟨b, o, none⟩) n c) := hxr.cell 0
    have z1 : wr.cell? ⟨G + 1 + 1, 1, none⟩ = some (.slice (some ⟨b', o', none⟩) n c') := hxr.cell 1
    have z2 : wr.cell? ⟨G + 1 + 1, 2, none⟩ = some (.slice (some ⟨bp, op, none⟩) n cp) := hxr.cell 2
    have z3 : wr.cell? ⟨G + 1 + 1, 3, none⟩ = some (.int .i64 a) := hxr.cell 3
    have z4 : wr.cell? ⟨G + 1 + 1, 4, none⟩ = some (.int .i64 s) := hxr.cell 4
    have z5 : wr.cell? ⟨G + 1 + 1, 5, none⟩ = some (.int .i64 k) := hxr.cell 5
    have v0 : wr.cell? ⟨G + 1, 0, none⟩ = some (.slice none 0 0) := hx1r.cell 0
    have v1 : wr.cell? ⟨G + 1, 1, none⟩ = some (.slice none 0 0) := hx1r.cell 1
    have v2 : wr.cell? ⟨G + 1, 2, none⟩ = some (.slice none 0 0) := hx1r.cell 2
    have v3 : wr.cell? ⟨G + 1, 3, none⟩ = some (.int .i64 0) := hx1r.cell 3
    have v4 : wr.cell? ⟨G + 1, 4, none⟩ = some (.int .i64 0) := hx1r.cell 4
    have v5 : wr.cell? ⟨G + 1, 5, none⟩ = some (.int .i64 0) := hx1r.cell 5
    have vf : ∀ j, wr.frozen? ⟨G + 1, j, none⟩ = false := hx1r.free
    by_cases hkn : k < n
    · have y0 : wr.cell? ⟨b, o + k, none⟩ = some (.int .i64 (Ls.getD k 0)) := by
        rw [hbr.cell (p := ⟨b, o + k, none⟩) (by show b < G + 1 + 1; omega), hB.cell (p := ⟨b, o + k, none⟩) hb]; exact ints_cell HC.out k (by rw [Hn.out]; exact hkn)
      by_cases hst : 8000000 < s
      · have t1 : decide (8000000 < s) = true := decide_eq_true hst
        go_wp2_with fail
        refine bodyPost_ret (v := .tuple #[.agg #[.slice (some ⟨b, o, none⟩) n c, .slice (some ⟨b', o', none⟩) n c', .slice (some ⟨bp, op, none⟩) n cp, .int .i64 a, .int .i64 s, .int .i64 k], .bool true]) (by simp [results, Try.results75, go_sem, v0, v1, v2, v3, v4, v5]) rfl ?_
        have hBw : Below w.heap.size w wr := by rw [HG.out]; exact hB.trans (hbr.mono (by omega))
        refine ⟨k, by rw [Hs.out, Ha.out], by rw [Hn.out]; exact hk, .inr (by rw [Hs.out]; exact hst), by rw [Hs.out]; exact hle, ?_⟩
        rw [HG.out] at hBw ⊢
        exact (((((hBw.setCell (p := ⟨G + 1, 0, none⟩) (by simp) _).setCell (p := ⟨G + 1, 1, none⟩) (by simp) _).setCell (p := ⟨G + 1, 2, none⟩) (by simp) _).setCell (p := ⟨G + 1, 3, none⟩) (by simp) _).setCell (p := ⟨G + 1, 4, none⟩) (by simp) _).setCell (p := ⟨G + 1, 5, none⟩) (by simp) _
      · have t1 : decide (8000000 < s) = false := decide_eq_false hst
        clear v0 v1 v2 v3 v4 v5 vf z0 z1 z2 z5 hx1r
        have y1 : wr.cell? ⟨b', o' + k, none⟩ = some (.int .i64 (Os.getD k 0)) := by
          rw [hbr.cell (p := ⟨b', o' + k, none⟩) (by show b' < G + 1 + 1; omega), hB.cell (p := ⟨b', o' + k, none⟩) hb']; exact ints_cell HC'.out k (by rw [Hc3.out, Hn.out]; exact hkn)
        have y2 : wr.cell? ⟨bp, op + k, none⟩ = some (.int .i64 (Ps.getD k 0)) := by
          rw [hbr.cell (p := ⟨bp, op + k, none⟩) (by show bp < G + 1 + 1; omega), hB.cell (p := ⟨bp, op + k, none⟩) hbp]; exact ints_cell HCP.out k (by rw [Hpl.out, Hn.out]; exact hkn)
        have x1 : wr.cell? ⟨G, 1, none⟩ = some (.slice (some ⟨b', o', none⟩) n c') := (hx0.belowB hbr (by omega)).cell 1
        have hat := HOK.out.at_ k (by rw [Hn.out]; exact hkn)
        have hpk : Ps.getD k 0 = (D + Os.getD k 0) % Ls.getD k 0 := by rw [HPs.out]; exact places_get Ls Os D k (by rw [Hn.out]; exact hkn)
        have hsn := lcmR_snoc (Ls.take k) 1 (Ls.getD k 0)
        rw [← take_snoc_get Ls k (by rw [Hn.out]; exact hkn), Hs.out] at hsn
        have HSn := Lib.hid hsn
        clear hsn
        generalize Ls.getD k 0 = x at *
        generalize Os.getD k 0 = y at *
        generalize Ps.getD k 0 = p at *
        obtain ⟨a1, a2, a3, a4⟩ := hat
        have p1 := Int.emod_nonneg (D + y) (show x ≠ 0 by omega)
        have p2 := Int.emod_lt_of_pos (D + y) (show 0 < x by omega)
        rw [← hpk] at p1 p2
        have hmod := fun w => mod_pos (p - y) x w (by omega) (by omega) (by omega) (by omega)
        have epb : (p - y) % x = D % x := by rw [hpk]; exact place_back D y x a1
        rw [epb] at hmod
        have md := meet_day D s x hp a1
        have mf := meetL_facts s x hp a1
        have q1 := Int.emod_nonneg D (show x ≠ 0 by omega)
        have q2 := Int.emod_lt_of_pos D (show 0 < x by omega)
        have hmeet := fun w => meet_yes (D % s) s (D % x) x w (by rw [Ha.out]; omega) (by rw [Ha.out]; omega) (by omega) (by omega) (by omega) (by omega) (by omega) (by omega) md.1
        rw [md.2] at hmeet
        have hDs : D % s = a := Ha.out
        rw [hDs] at hmeet
        have HM := Lib.hid hmod
        have HMe := Lib.hid hmeet
        have hml : meetL s x ≤ 8000000000 := Int.le_trans mf.2.1 (by have := Int.mul_le_mul (show s ≤ 8000000 by omega) a2 (by omega) (by omega); omega)
        have hw1 : IntKind.i64.wrap (p - y) = p - y := IntWalk.i64_in _ (by omega)
        have hk1 : (0 : Int) ≤ (k : Int) := by omega
        have hk2 : (k : Int) < (n : Int) := by omega
        clear hmod hmeet md mf hpk epb hDs
        generalize D % x = dx at *
        go_wp2_with fail
        go_quiet (first
          | ((go_at_call 53; exact Calls.quiet_of (HM.out _)))
          | ((go_at_call 28; exact Calls.quiet_of (HMe.out _))))
        clear hw1 t1 y0 y1 y2 x1 z3 z4 hk1 hk2
        replace hxr := hxr.drewN nq
        replace hbr := below_drew hbr nq
        have z3 := hxr.cell 3
        have z4 := hxr.cell 4
        have z5 := hxr.cell 5
        have zf := hxr.free
        generalize wr.drewN nq = W2 at *
        simp at z3 z4 z5
        go_wp2_with fail
        go_roundw
        case rel =>
          refine ⟨k + 1, by omega, by go_num, ?_, ((hbr.setCell (p := ⟨G + 1 + 1, 3, none⟩) (Nat.le_refl _) _).setCell (p := ⟨G + 1 + 1, 4, none⟩) (Nat.le_refl _) _).setCell (p := ⟨G + 1 + 1, 5, none⟩) (Nat.le_refl _) _, by rw [HSn.out]; exact hml⟩
          rw [HSn.out]
          exact ((hxr.set_ 3 _).set_ 4 _).set_ 5 _
        case measure => simp [intOf]; omega
    · have Hkn : Hid (k = n) := (show k = n by omega)
      go_wp2_with fail
      refine bodyPost_ret (v := .tuple #[.agg #[.slice (some ⟨b, o, none⟩) n c, .slice (some ⟨b', o', none⟩) n c', .slice (some ⟨bp, op, none⟩) n cp, .int .i64 a, .int .i64 s, .int .i64 k], .bool true]) (by simp [results, Try.results75, go_sem, v0, v1, v2, v3, v4, v5]) rfl ?_
      have hBw : Below w.heap.size w wr := by rw [HG.out]; exact hB.trans (hbr.mono (by omega))
      refine ⟨k, by rw [Hs.out, Ha.out], by rw [Hn.out]; exact hk, .inl (by rw [Hn.out]; exact Hkn.out), by rw [Hs.out]; exact hle, ?_⟩
      rw [HG.out] at hBw ⊢
      exact (((((hBw.setCell (p := ⟨G + 1, 0, none⟩) (by simp) _).setCell (p := ⟨G + 1, 1, none⟩) (by simp) _).setCell (p := ⟨G + 1, 2, none⟩) (by simp) _).setCell (p := ⟨G + 1, 3, none⟩) (by simp) _).setCell (p := ⟨G + 1, 4, none⟩) (by simp) _).setCell (p := ⟨G + 1, 5, none⟩) (by simp) _
end Go.Proofs.Ytdbnnhfgohabdaa
