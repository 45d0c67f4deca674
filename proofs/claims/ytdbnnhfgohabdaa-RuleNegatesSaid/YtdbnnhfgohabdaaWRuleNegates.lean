/- The walk of RuleNegates: it returns true at every input; it writes nothing that was there. -/
import Derived.Test.YtdbnnhfgohabdaaRule3
import Derived.Test.YtdbnnhfgohabdaaRuleArg
import Derived.Test.YtdbnnhfgohabdaaLine1
namespace Go.Proofs.Ytdbnnhfgohabdaa.ruleNegates
open Go.RowKit
set_option linter.unusedVariables false

/-- not, applied -/
def notE (g : Nat) (t : RE) : RE := .node 11 0 (some ⟨g, 0, none⟩) 1 [t]
def IsNot (t : RE) (w : World) (e : Ending) (w' : World) : Prop := ∃ g : Nat, e = .returned (.agg #[.int .i64 11, .int .i64 0, .slice (some ⟨g, 0, none⟩) 1 1]) ∧ ReIn w' w'.heap.size (notE g t) ∧ Below w.heap.size w w'

set_option maxHeartbeats 1000000 in
set_option maxRecDepth 100000 in
theorem not_any (k n : Int) (A : Option Addr) (c : Nat) (ks : List RE) (w : World) (hin : ReIn w w.heap.size (.node k n A c ks)) : Calls Try.prog 34 #[.agg #[.int .i64 k, .int .i64 n, .slice A ks.length c]] w (IsNot (.node k n A c ks) w) := by
  go_enter Try.func34, Try.ntmps34
  go_wp2_with fail
  have hB := below_alloc3 w (Obj.cells #[.int .i64 k, .int .i64 n, .slice A ks.length c] 51) (Obj.cells #[.int .i64 11, .int .i64 0, .slice (some ⟨w.heap.size + 1 + 1, 0, none⟩) 1 1] 51) (Obj.cells #[.int .i64 k, .int .i64 n, .slice A ks.length c] 51)
  have hx := heap_alloc3_new w (Obj.cells #[.int .i64 k, .int .i64 n, .slice A ks.length c] 51) (Obj.cells #[.int .i64 11, .int .i64 0, .slice (some ⟨w.heap.size + 1 + 1, 0, none⟩) 1 1] 51) (Obj.cells #[.int .i64 k, .int .i64 n, .slice A ks.length c] 51)
  refine bodyPost_ret (v := .agg #[.int .i64 11, .int .i64 0, .slice (some ⟨w.heap.size + 1 + 1, 0, none⟩) 1 1]) (by simp [results, Try.results34, go_sem]) rfl ⟨w.heap.size + 1 + 1, rfl, ?_, hB⟩
  refine .mk ⟨by omega, by omega⟩ ⟨by omega, by omega⟩ (by simp [maxLen]) ?_ (fun x hx => ?_)
  · have := Row.of_box (show Box _ (w.heap.size + 1 + 1) 51 #[.int .i64 k, .int .i64 n, .slice A ks.length c] from hx)
    simpa [reF] using this
  · simp at hx
    subst hx
    exact hin.next hB hB.size
theorem two_eval (g g' : Nat) (A : Option Addr) (c : Nat) : evalR 1 (notE g' (notE g (.node 1 2 A c []))) = (1, 0) := by
  simp [notE, evalR, evalL, finR, applyR, truthI]
theorem not_eval (y : Int) (g g' : Nat) (t : RE) (v : Int) (h : evalR y t = (v, 0)) : evalR y (notE g' (notE g t)) = (truthI (v != 0), 0) := by
  simp [notE, evalR, evalL, h]
  by_cases hv : v = 0
  · simp [finR, applyR, truthI, hv]
  · simp [finR, applyR, truthI, hv]
theorem not_ok (g : Nat) (t : RE) (h : ReOk t) : ReOk (notE g t) := .mk ⟨by omega, by omega, rfl, by omega, by simp⟩ (fun x hx => by simp at hx; subst hx; exact h)
theorem two_fine (g g' : Nat) (A : Option Addr) (c : Nat) : ReFine (notE g' (notE g (.node 1 2 A c []))) :=
  ⟨not_ok _ _ (not_ok _ _ (.mk ⟨by omega, by omega, rfl, by omega, by simp⟩ (fun x hx => by cases hx))), by simp [notE, sz, szL], by simp [notE, ht, htL]⟩

set_option maxHeartbeats 4000000 in
set_option maxRecDepth 100000 in
theorem core (k n : Int) (A : Option Addr) (c : Nat) (ks : List RE) (year : Int) (w : World) (hin : ReIn w w.heap.size (.node k n A c ks)) :
    Calls Try.prog 9 #[.agg #[.int .i64 k, .int .i64 n, .slice A ks.length c], .int .i64 year] w fun e w' => e = .returned (.bool true) ∧ Below w.heap.size w w' := by
  have HN1 : Hid (∀ w, Calls Try.prog 34 #[.agg #[.int .i64 1, .int .i64 2, .slice none 0 0]] w (IsNot (.node 1 2 none 0 []) w)) := fun w => not_any 1 2 none 0 [] w (.mk ⟨by omega, by omega⟩ ⟨by omega, by omega⟩ (by simp [maxLen]) (.inl rfl) (fun x hx => by cases hx))
  have HN2 : Hid (∀ t g w, ReIn w w.heap.size (notE g t) → Calls Try.prog 34 #[.agg #[.int .i64 11, .int .i64 0, .slice (some ⟨g, 0, none⟩) 1 1]] w (IsNot (notE g t) w)) := fun t g w h => not_any 11 0 (some ⟨g, 0, none⟩) 1 [t] w h
  have HE2 : Hid (∀ y t g w, ReIn w w.heap.size (notE g t) → -10000 ≤ y → y ≤ 10000 → Calls Try.prog 35 #[.agg #[.int .i64 11, .int .i64 0, .slice (some ⟨g, 0, none⟩) 1 1], .int .i64 y] w (IsEval y (notE g t) w)) := fun y t g w h h1 h2 => rEval_any y (notE g t) w h h1 h2
  have HN3 := Lib.hid (fun w h => not_any k n A c ks w h)
  have HE1 : Hid (∀ y w, ReIn w w.heap.size (.node k n A c ks) → -10000 ≤ y → y ≤ 10000 → Calls Try.prog 35 #[.agg #[.int .i64 k, .int .i64 n, .slice A ks.length c], .int .i64 y] w (IsEval y (.node k n A c ks) w)) := fun y w h h1 h2 => rEval_any y (.node k n A c ks) w h h1 h2
  have HC := Lib.hid (fun w => cut_any year (-10000) 20001 w (by omega) (by omega) (by omega) (by omega))
  have hy1 : -10000 ≤ -10000 + year % 20001 := by omega
  have hy2 : -10000 + year % 20001 ≤ 10000 := by omega
  generalize -10000 + year % 20001 = y at *
  have hB0 := below_alloc2 w (Obj.cells #[.int .i64 k, .int .i64 n, .slice A ks.length c] 51) (Obj.cells #[.int .i64 1, .int .i64 2, .slice none 0 0] 51)
  have hX0 := (Box.new w 51 #[.int .i64 k, .int .i64 n, .slice A ks.length c]).alloc (Obj.cells #[.int .i64 1, .int .i64 2, .slice none 0 0] 51)
  have HB0 := Lib.hid hB0
  have HX0 := Lib.hid hX0
  have HIN := Lib.hid hin
  clear hB0 hX0 hin
  go_enter Try.func9, Try.ntmps9
  go_wp2_with fail
  refine (HN1.out _).mono ?_
  rintro e w1 ⟨g1, rfl, hi1, hb1⟩
  have HX1 := Lib.hid (HX0.out.below hb1)
  have HB1 := Lib.hid (below_then HB0.out hb1)
  clear hb1 HX0 HB0 HN1
  go_wp2_with fail
  refine (HN2.out _ _ _ hi1).mono ?_
  rintro e w2 ⟨g2, rfl, hi2, hb2⟩
  have HX2 := Lib.hid (HX1.out.below hb2)
  have HB2 := Lib.hid (below_then HB1.out hb2)
  clear hb2 HX1 HB1 hi1
  go_wp2_with fail
  refine (HE2.out 1 _ _ _ hi2 (by omega) (by omega)).mono ?_
  rintro e w3 ⟨v, E, rfl, hb3, hor⟩
  have hvE : v = 1 ∧ E = 0 := by
    rcases hor with ⟨_, h⟩ | ⟨h, _⟩
    · rw [two_eval] at h
      simpa using h
    · exact absurd (two_fine _ _ _ _) h
  obtain ⟨rfl, rfl⟩ := hvE
  have HX3 := Lib.hid (HX2.out.below hb3)
  have HB3 := Lib.hid (below_then HB2.out hb3)
  clear hb3 HX2 HB2 hi2 hor
  go_wp2_with fail
  refine (HC.out _).mono ?_
  rintro e w' ⟨rfl, rfl⟩
  have x0 : w3.cell? ⟨w.heap.size, 0, none⟩ = some (.int .i64 k) := HX3.out.cell 0
  have x1 : w3.cell? ⟨w.heap.size, 1, none⟩ = some (.int .i64 n) := HX3.out.cell 1
  have x2 : w3.cell? ⟨w.heap.size, 2, none⟩ = some (.slice A ks.length c) := HX3.out.cell 2
  have xl := HX3.out.lt
  clear HC
  go_wp2_with fail
  refine (HE1.out y _ (HIN.out.next HB3.out HB3.out.size) hy1 hy2).mono ?_
  rintro e w4 ⟨v, E, rfl, hb4, hor⟩
  have HX4 := Lib.hid (HX3.out.below hb4)
  have HB4 := Lib.hid (below_then HB3.out hb4)
  clear hb4 HX3 HB3 x0 x1 x2 xl
  by_cases hE : E = 0
  case neg =>
    have tE' : (E != 0) = true := by rw [bne_iff_ne]; exact hE
    clear hor
    go_wp2_with fail
    go_ret
    exact ⟨rfl, HB4.out⟩
  subst hE
  have hfe : ReFine (.node k n A c ks) ∧ evalR y (.node k n A c ks) = (v, 0) := by
    rcases hor with ⟨h1, h2⟩ | ⟨_, _, h, _⟩
    · exact ⟨h1, h2.symm⟩
    · exact absurd rfl h
  have HFE := Lib.hid hfe
  clear hor hfe
  have x0 : w4.cell? ⟨w.heap.size, 0, none⟩ = some (.int .i64 k) := HX4.out.cell 0
  have x1 : w4.cell? ⟨w.heap.size, 1, none⟩ = some (.int .i64 n) := HX4.out.cell 1
  have x2 : w4.cell? ⟨w.heap.size, 2, none⟩ = some (.slice A ks.length c) := HX4.out.cell 2
  have xl := HX4.out.lt
  go_wp2_with fail
  refine (HN3.out _ (HIN.out.next HB4.out HB4.out.size)).mono ?_
  rintro e w5 ⟨g5, rfl, hi5, hb5⟩
  have HB5 := Lib.hid (below_then HB4.out hb5)
  clear hb5 HX4 HB4 x0 x1 x2 xl
  go_wp2_with fail
  refine (HN2.out _ _ _ hi5).mono ?_
  rintro e w6 ⟨g6, rfl, hi6, hb6⟩
  have HB6 := Lib.hid (below_then HB5.out hb6)
  clear hb6 HB5 hi5
  go_wp2_with fail
  refine (HE2.out y _ _ _ hi6 hy1 hy2).mono ?_
  rintro e w7 ⟨v7, E7, rfl, hb7, hor⟩
  have HB7 := Lib.hid (below_then HB6.out hb7)
  clear hb7 HB6 hi6
  have hor' : (v7 = truthI (v != 0) ∧ E7 = 0) ∨ E7 = 2 := by
    rcases hor with ⟨h1, h2⟩ | ⟨_, _, _, h⟩
    · left
      rw [not_eval y _ _ _ v HFE.out.2] at h2
      simpa using h2
    · exact .inr (h (not_ok _ _ (not_ok _ _ HFE.out.1.ok)))
  clear hor HFE HN2 HE2 HN3 HE1
  rcases hor' with ⟨rfl, rfl⟩ | rfl
  · by_cases hv : v = 0
    · subst hv
      rw [show truthI ((0 : Int) != 0) = 0 from rfl]
      go_wp2_with fail
      go_ret
      exact ⟨rfl, HB7.out⟩
    · have t1 : (v != 0) = true := by rw [bne_iff_ne]; exact hv
      have t2 : (v == 0) = false := by rw [beq_eq_false_iff_ne]; exact hv
      rw [t1, show truthI true = 1 from rfl]
      go_wp2_with fail
      go_ret
      exact ⟨rfl, HB7.out⟩
  · go_wp2_with fail
    go_ret
    exact ⟨rfl, HB7.out⟩

set_option maxRecDepth 100000 in
theorem walk {H : Type} {enc : TypeId × Value → H} {base : Nat} {W : World} (v0 : Value) (d0 : DataW H) (p0 : List MemPlace) (hv : Value.okWide Try.prog W .any base 51 v0) (h0 : DataW.Trod enc Try.prog W 0 (fun _ => true) true 51 v0 d0 p0) (a1 : Int) (w1 : (Lit.int .i64 a1).wf = true) :
    Calls Try.prog 9 #[v0, .int .i64 a1] W fun e w' => e = .returned (.bool true) ∧ Below W.heap.size W w' := by
  obtain ⟨⟨k, n, A, c, ks⟩, rfl, hin⟩ := re_open hv h0
  exact core k n A c ks a1 W hin
end Go.Proofs.Ytdbnnhfgohabdaa.ruleNegates
