/- Rec1, Rec2, Rec3, Rec4, Rec5 -/
import Derived.Test.YtonhmgdokghoeaaDoorGSliceFind
import Derived.Test.YtonhmgdokghoeaaDoorGMoon1
import Derived.Test.YtonhmgdokghoeaaDoorGLine1
/- Contracts of package recur: listed, list. -/
namespace Go.Proofs.YtonhmgdokghoeaaDoor
open Go.RowKit
set_option linter.unusedVariables false

set_option maxRecDepth 100000 in
theorem listed_one (g : Nat) (A : Option Addr) (c : Nat) (l : List Int) (x : Int) (W : World) (hx : W.cell? ⟨g, 0, none⟩ = some (.slice A l.length c)) (hr : Row W W.heap.size A (ints l)) (hl : l.length ≤ maxLen) :
    Calls Tryd.prog 23 (#[.int .i64 x] ++ #[.pointer (some ⟨g, 0, none⟩)]) W fun e w' => e = .returned (.bool (decide (x ∈ l))) ∧ W = w' := by
  have HC := Lib.hid (fun w hr => contains_ints A c l x w hr hl)
  generalize decide (x ∈ l) = R at *
  clear hl
  go_enter Tryd.func23, Tryd.ntmps23
  go_wp2_with fail
  refine (HC.out _ hr).mono ?_
  rintro e w' ⟨rfl, rfl⟩
  go_wp2_with fail
  go_ret
  exact ⟨rfl, rfl⟩

/-- an empty list, or one that has one of the numbers -/
def lisB (l ns : List Int) : Bool := decide (l.length = 0) || ns.any (fun x => decide (x ∈ l))
set_option maxHeartbeats 1000000 in
set_option maxRecDepth 100000 in
theorem listed_any (A A' : Option Addr) (c c' : Nat) (l ns : List Int) (w : World) (hr : Row w w.heap.size A (ints l)) (hr' : Row w w.heap.size A' (ints ns)) (hl : l.length ≤ maxLen) (hl' : ns.length ≤ maxLen) :
    Calls Tryd.prog 13 #[.slice A l.length c, .slice A' ns.length c'] w fun e w' => e = .returned (.bool (lisB l ns)) ∧ Below w.heap.size w w' := by
  have hB := below_alloc1 w (Obj.cells #[.slice A l.length c] 22)
  have hx := Box.new w 22 #[.slice A l.length c]
  have HR := Lib.hid (hr.next hB)
  have HR' := Lib.hid (hr'.next hB)
  have hm := hl
  unfold maxLen at hm
  clear hr hr'
  obtain ⟨R, hR⟩ : ∃ R, R = lisB l ns := ⟨_, rfl⟩
  rw [← hR]
  have HRR := Lib.hid hR
  clear hR
  go_enter Tryd.func13, Tryd.ntmps13
  by_cases h0 : l.length = 0
  · have t1 : ((l.length : Int) == 0) = true := by rw [beq_iff_eq]; omega
    have HH := Lib.hid h0
    clear h0
    go_wp2_with fail
    go_ret
    exact ⟨by rw [HRR.out]; unfold lisB; rw [decide_eq_true HH.out]; rfl, hB⟩
  · have t1 : ((l.length : Int) == 0) = false := by rw [beq_eq_false_iff_ne]; omega
    have HH := Lib.hid h0
    clear h0
    go_wp2_with fail
    generalize w.alloc (Obj.cells #[.slice A l.length c] 22) = W0 at *
    obtain ⟨g, hg⟩ : ∃ g, g = w.heap.size := ⟨_, rfl⟩
    rw [← hg] at hx
    rw [← hg]
    clear hg
    refine (containsFunc_ints 23 #[.pointer (some ⟨g, 0, none⟩)] (fun x => decide (x ∈ l)) (Below W0.heap.size W0) A' c' ns W0 (Below.refl _ _) hl' (fun _ _ => rfl) (fun W hb => HR'.out.next hb) (fun W x hb => ?_)).mono ?_
    · exact (listed_one g A c l x W ((hx.below hb).cell 0) (HR.out.next hb) hl).mono fun e w' ⟨he, hw⟩ => ⟨he, hw ▸ hb⟩
    · rintro e w' ⟨rfl, hb⟩
      have HQ : Hid (R = ns.any (fun x => decide (x ∈ l))) := by rw [HRR.out]; unfold lisB; rw [decide_eq_false HH.out]; rfl
      rw [← HQ.out]
      clear t1
      go_wp2_with fail
      go_ret
      exact ⟨rfl, below_then hB hb⟩

/-- a valid list of numbers -/
def ListOk (l : List Int) (lo hi : Int) (z : Bool) : Prop := l.length ≤ 31 ∧ ∀ i, i < l.length → (lo ≤ l.getD i 0 ∧ l.getD i 0 ≤ hi ∧ (l.getD i 0 = 0 → z = true)) ∧ l.getD i 0 ∉ l.take i
theorem row_take {w : World} {B b o : Nat} {l : List Int} (i : Nat) (hb : b < B) (h : ∀ j v, (ints l)[j]? = some v → w.cell? ⟨b, o + j, none⟩ = some v) : Row w B (some ⟨b, o, none⟩) (ints (l.take i)) :=
  .inr ⟨b, o, rfl, hb, fun j v hv => h j v (by
    rw [show ints (l.take i) = (ints l).take i from by simp [ints, List.map_take]] at hv
    rw [List.getElem?_take] at hv
    split at hv
    · exact hv
    · cases hv)⟩

set_option maxHeartbeats 2000000 in
set_option maxRecDepth 100000 in
theorem list_any (A : Option Addr) (c : Nat) (l : List Int) (lo hi : Int) (z : Bool) (w : World) (hr : Row w w.heap.size A (ints l)) (hc : l.length ≤ c) (hm : c ≤ maxLen) :
    Calls Tryd.prog 17 #[.slice A l.length c, .int .i64 lo, .int .i64 hi, .bool z] w (Errs (ListOk l lo hi z) w) := by
  have hm' := hm
  unfold maxLen at hm'
  obtain ⟨Q, hQ⟩ : ∃ Q : Prop, Q = ListOk l lo hi z := ⟨_, rfl⟩
  have NO : Hid (∀ i, i < l.length → ¬ ((lo ≤ l.getD i 0 ∧ l.getD i 0 ≤ hi ∧ (l.getD i 0 = 0 → z = true)) ∧ l.getD i 0 ∉ l.take i) → ¬ Q) := fun i hi' h hq => h ((hQ ▸ hq : ListOk l lo hi z).2 i hi')
  have NO31 : Hid (31 < l.length → ¬ Q) := fun h hq => by have := (hQ ▸ hq : ListOk l lo hi z).1; omega
  have YES : Hid (l.length ≤ 31 → (∀ i, i < l.length → (lo ≤ l.getD i 0 ∧ l.getD i 0 ≤ hi ∧ (l.getD i 0 = 0 → z = true)) ∧ l.getD i 0 ∉ l.take i) → Q) := fun h1 h2 => hQ ▸ (⟨h1, h2⟩ : ListOk l lo hi z)
  rw [← hQ]
  clear hQ
  go_enter Tryd.func17, Tryd.ntmps17
  by_cases h31 : 31 < l.length
  · have t1 : decide ((31 : Int) < (l.length : Int)) = true := decide_eq_true (by omega)
    have t1' : decide (31 < l.length) = true := decide_eq_true h31
    go_wp2_with fail
    go_ret
    exact Errs.no (by omega) (NO31.out h31) (Below.refl _ _)
  have t1 : decide ((31 : Int) < (l.length : Int)) = false := decide_eq_false (by omega)
  have t1' : decide (31 < l.length) = false := decide_eq_false h31
  go_wp2_with fail
  clear t1 t1' NO31
  go_loop [9, 10, 16] (fun _ _ i => ∃ k : Nat, k ≤ l.length ∧ i = .int .i64 (k : Int) ∧ Hid (∀ j, j < k → (lo ≤ l.getD j 0 ∧ l.getD j 0 ≤ hi ∧ (l.getD j 0 = 0 → z = true)) ∧ l.getD j 0 ∉ l.take j)) (fun _ _ i => l.length - (intOf i).toNat)
  case atStart => exact ⟨0, by omega, rfl, fun j hj => by omega⟩
  case round =>
    obtain ⟨k, hk, rfl, hall⟩ := hrel
    by_cases hlt : k < l.length
    · obtain ⟨b, o, rfl, hbl, hcs⟩ := hr.open_ (ints_ne l (by omega))
      have hcell := ints_cell hcs k hlt
      have HCt := Lib.hid (contains_ints (some ⟨b, o, none⟩) c (l.take k) (l.getD k 0) w (row_take k hbl hcs) (by simp; omega))
      rw [show (l.take k).length = k from by simp; omega] at HCt
      have NOk := Lib.hid (NO.out k hlt)
      have HX : Hid ((lo ≤ l.getD k 0 ∧ l.getD k 0 ≤ hi ∧ (l.getD k 0 = 0 → z = true)) ∧ l.getD k 0 ∉ l.take k → ∀ j, j < k + 1 → (lo ≤ l.getD j 0 ∧ l.getD j 0 ≤ hi ∧ (l.getD j 0 = 0 → z = true)) ∧ l.getD j 0 ∉ l.take j) := fun h j hj => by
        by_cases e : j = k
        · subst e; exact h
        · exact hall.out j (by omega)
      clear hcs hr
      generalize l.getD k 0 = x at *
      have k0 : (0 : Int) ≤ (k : Int) := by omega
      have k1 : (k : Int) ≤ (c : Int) := by omega
      by_cases h1 : x < lo
      · have t1 : decide (x < lo) = true := decide_eq_true h1
        go_wp2_with fail
        go_ret
        exact Errs.no (by omega) (NOk.out (fun h => by have := h.1.1; omega)) (Below.refl _ _)
      have t1 : decide (x < lo) = false := decide_eq_false h1
      by_cases h2 : hi < x
      · have t2 : decide (hi < x) = true := decide_eq_true h2
        go_wp2_with fail
        go_ret
        exact Errs.no (by omega) (NOk.out (fun h => by have := h.1.2.1; omega)) (Below.refl _ _)
      have t2 : decide (hi < x) = false := decide_eq_false h2
      by_cases h3 : x = 0 ∧ z = false
      · obtain ⟨rfl, rfl⟩ := h3
        have t3 : ((0 : Int) == 0) = true := rfl
        have HN := Lib.hid (NOk.out (fun h => by have := h.1.2.2 rfl; cases this))
        clear NOk
        go_wp2_with fail
        go_ret
        exact Errs.no (by omega) HN.out (Below.refl _ _)
      have hz3 : x = 0 → z = true := fun h => by cases z with | true => rfl | false => exact absurd ⟨h, rfl⟩ h3
      by_cases h4 : x ∈ l.take k
      · rw [decide_eq_true h4] at HCt
        have HN := Lib.hid (NOk.out (fun h => h.2 h4))
        clear h3 h4 HX NOk
        by_cases h0 : x = 0
        · have hzt := hz3 h0
          subst h0 hzt
          have t3 : ((0 : Int) == 0) = true := rfl
          clear hz3
          go_wp2_with (go_at_call 24; refine HCt.out.mono ?_; rintro e w' ⟨rfl, rfl⟩)
          go_ret
          exact Errs.no (by omega) HN.out (Below.refl _ _)
        · have t3 : (x == 0) = false := by simpa using h0
          clear hz3
          go_wp2_with (go_at_call 24; refine HCt.out.mono ?_; rintro e w' ⟨rfl, rfl⟩)
          go_ret
          exact Errs.no (by omega) HN.out (Below.refl _ _)
      · rw [decide_eq_false h4] at HCt
        have HXX := Lib.hid (HX.out ⟨⟨by omega, by omega, hz3⟩, h4⟩)
        clear h3 h4 HX NOk
        by_cases h0 : x = 0
        · have hzt := hz3 h0
          subst h0 hzt
          have t3 : ((0 : Int) == 0) = true := rfl
          clear hz3
          go_wp2_with (go_at_call 24; refine HCt.out.mono ?_; rintro e w' ⟨rfl, rfl⟩)
          go_round
          case rel => exact ⟨k + 1, by omega, by go_num, HXX⟩
          case measure => simp [intOf]; omega
        · have t3 : (x == 0) = false := by simpa using h0
          clear hz3
          go_wp2_with (go_at_call 24; refine HCt.out.mono ?_; rintro e w' ⟨rfl, rfl⟩)
          go_round
          case rel => exact ⟨k + 1, by omega, by go_num, HXX⟩
          case measure => simp [intOf]; omega
    · go_wp2_with fail
      go_ret
      exact Errs.ok (YES.out (by omega) (fun i hi' => hall.out i (by omega))) (Below.refl _ _)
end Go.Proofs.YtonhmgdokghoeaaDoor

/- Contracts of package recur: Check, checkRange. -/
namespace Go.Proofs.YtonhmgdokghoeaaDoor
open Go.RowKit
set_option linter.unusedVariables false

/-- a recurrence: its numbers, its lists and where they lie -/
structure Rc where
  un : Int
  ev : Int
  fr : Int
  co : Int
  ut : Int
  wd : List Int
  md : List Int
  mo : List Int
  A1 : Option Addr
  c1 : Nat
  A2 : Option Addr
  c2 : Nat
  A3 : Option Addr
  c3 : Nat
abbrev Rc.cells (r : Rc) : Array Value := #[.int .i64 r.un, .int .i64 r.ev, .int .i64 r.fr, .int .i64 r.co, .int .i64 r.ut, .slice r.A1 r.wd.length r.c1, .slice r.A2 r.md.length r.c2, .slice r.A3 r.mo.length r.c3]
abbrev Rc.val (r : Rc) : Value := .agg r.cells
structure RcIn (w : World) (r : Rc) : Prop where
  r1 : Row w w.heap.size r.A1 (ints r.wd)
  r2 : Row w w.heap.size r.A2 (ints r.md)
  r3 : Row w w.heap.size r.A3 (ints r.mo)
theorem RcIn.next {w w' : World} {r : Rc} (h : RcIn w r) (hb : Below w.heap.size w w') : RcIn w' r := ⟨h.r1.next hb, h.r2.next hb, h.r3.next hb⟩
structure RcFit (r : Rc) : Prop where
  l1 : r.wd.length ≤ r.c1
  m1 : r.c1 ≤ maxLen
  l2 : r.md.length ≤ r.c2
  m2 : r.c2 ≤ maxLen
  l3 : r.mo.length ≤ r.c3
  m3 : r.c3 ≤ maxLen
theorem rcells {W : World} {g : Nat} {r : Rc} (h : Box W g 24 r.cells) : W.cell? ⟨g, 0, none⟩ = some (.int .i64 r.un) ∧ W.cell? ⟨g, 1, none⟩ = some (.int .i64 r.ev) ∧ W.cell? ⟨g, 2, none⟩ = some (.int .i64 r.fr) ∧ W.cell? ⟨g, 3, none⟩ = some (.int .i64 r.co) ∧ W.cell? ⟨g, 4, none⟩ = some (.int .i64 r.ut) ∧ W.cell? ⟨g, 5, none⟩ = some (.slice r.A1 r.wd.length r.c1) ∧ W.cell? ⟨g, 6, none⟩ = some (.slice r.A2 r.md.length r.c2) ∧ W.cell? ⟨g, 7, none⟩ = some (.slice r.A3 r.mo.length r.c3) :=
  ⟨h.cell 0, h.cell 1, h.cell 2, h.cell 3, h.cell 4, h.cell 5, h.cell 6, h.cell 7⟩
/-- a valid recurrence -/
structure RcOk (r : Rc) : Prop where
  u1 : 1 ≤ r.un
  u2 : r.un ≤ 4
  e1 : 1 ≤ r.ev
  e2 : r.ev ≤ 1000
  f1 : -4000000 ≤ r.fr ∧ r.fr ≤ 4000000
  t1 : -4000000 ≤ r.ut ∧ r.ut ≤ 4000000
  o1 : r.fr ≤ r.ut
  c1 : 0 ≤ r.co
  c2 : r.co ≤ 1000
  wd : ListOk r.wd 0 6 true
  md : ListOk r.md (-31) 31 false
  mo : ListOk r.mo 1 12 true

set_option maxHeartbeats 4000000 in
set_option maxRecDepth 100000 in
theorem rcheck_any (r : Rc) (w : World) (hr : RcIn w r) (hf : RcFit r) : Calls Tryd.prog 9 #[r.val] w (Errs (RcOk r) w) := by
  have HX := Lib.hid (Box.new w 24 r.cells)
  have HB := Lib.hid (below_alloc1 w (Obj.cells r.cells 24))
  have HR := Lib.hid (hr.next HB.out)
  have HF := Lib.hid hf
  clear hr hf
  go_enter Tryd.func9, Tryd.ntmps9
  by_cases a1 : r.un < 1
  · have t1 : decide (r.un < 1) = true := decide_eq_true a1
    go_wp2_with fail
    go_ret
    exact Errs.by_ (Q := RcOk r) (by omega) (·.u1) (by omega) HB.out
  have t1 : decide (r.un < 1) = false := decide_eq_false a1
  by_cases a2 : 4 < r.un
  · have t2 : decide (4 < r.un) = true := decide_eq_true a2
    go_wp2_with fail
    go_ret
    exact Errs.by_ (Q := RcOk r) (by omega) (·.u2) (by omega) HB.out
  have t2 : decide (4 < r.un) = false := decide_eq_false a2
  by_cases a3 : r.ev < 1
  · have t3 : decide (r.ev < 1) = true := decide_eq_true a3
    go_wp2_with fail
    go_ret
    exact Errs.by_ (Q := RcOk r) (by omega) (·.e1) (by omega) HB.out
  have t3 : decide (r.ev < 1) = false := decide_eq_false a3
  by_cases a4 : 1000 < r.ev
  · have t4 : decide (1000 < r.ev) = true := decide_eq_true a4
    go_wp2_with fail
    go_ret
    exact Errs.by_ (Q := RcOk r) (by omega) (·.e2) (by omega) HB.out
  have t4 : decide (1000 < r.ev) = false := decide_eq_false a4
  by_cases a5 : -4000000 ≤ r.fr ∧ r.fr ≤ 4000000
  case neg =>
    have a5' : r.fr < -4000000 ∨ 4000000 < r.fr := by omega
    have HN : Hid (¬ RcOk r) := fun h => a5 h.f1
    clear a5
    go_wp2_with (go_at_call 16; refine (is_no _ _ a5').mono ?_; rintro e w' ⟨rfl, rfl⟩)
    go_ret
    exact Errs.no (by omega) HN.out HB.out
  have HIf := Lib.hid (fun w => is_yes r.fr w a5.1 a5.2)
  by_cases a6 : -4000000 ≤ r.ut ∧ r.ut ≤ 4000000
  case neg =>
    have a6' : r.ut < -4000000 ∨ 4000000 < r.ut := by omega
    have HN : Hid (¬ RcOk r) := fun h => a6 h.t1
    have A5 := Lib.hid a5
    clear a6 a5
    go_wp2_with (first
      | (go_at_call 16; ((with_reducible refine (HIf.out _).mono ?_)); rintro e w' ⟨rfl, rfl⟩)
      | (go_at_call 16; ((with_reducible refine (is_no r.ut _ a6').mono ?_)); rintro e w' ⟨rfl, rfl⟩))
    go_ret
    exact Errs.no (by omega) HN.out HB.out
  have HIu := Lib.hid (fun w => is_yes r.ut w a6.1 a6.2)
  have A5 := Lib.hid a5
  have A6 := Lib.hid a6
  clear a5 a6
  by_cases a7 : r.ut < r.fr
  · have t7 : decide (r.ut < r.fr) = true := decide_eq_true a7
    go_wp2_with (first
      | (go_at_call 16; ((with_reducible refine (HIf.out _).mono ?_)); rintro e w' ⟨rfl, rfl⟩)
      | (go_at_call 16; ((with_reducible refine (HIu.out _).mono ?_)); rintro e w' ⟨rfl, rfl⟩))
    go_ret
    exact Errs.by_ (Q := RcOk r) (by omega) (·.o1) (by omega) HB.out
  have t7 : decide (r.ut < r.fr) = false := decide_eq_false a7
  by_cases a8 : r.co < 0
  · have t8 : decide (r.co < 0) = true := decide_eq_true a8
    go_wp2_with (first
      | (go_at_call 16; ((with_reducible refine (HIf.out _).mono ?_)); rintro e w' ⟨rfl, rfl⟩)
      | (go_at_call 16; ((with_reducible refine (HIu.out _).mono ?_)); rintro e w' ⟨rfl, rfl⟩))
    go_ret
    exact Errs.by_ (Q := RcOk r) (by omega) (·.c1) (by omega) HB.out
  have t8 : decide (r.co < 0) = false := decide_eq_false a8
  by_cases a9 : 1000 < r.co
  · have t9 : decide (1000 < r.co) = true := decide_eq_true a9
    go_wp2_with (first
      | (go_at_call 16; ((with_reducible refine (HIf.out _).mono ?_)); rintro e w' ⟨rfl, rfl⟩)
      | (go_at_call 16; ((with_reducible refine (HIu.out _).mono ?_)); rintro e w' ⟨rfl, rfl⟩))
    go_ret
    exact Errs.by_ (Q := RcOk r) (by omega) (·.c2) (by omega) HB.out
  have t9 : decide (1000 < r.co) = false := decide_eq_false a9
  go_wp2_with (first
    | (go_at_call 16; ((with_reducible refine (HIf.out _).mono ?_)); rintro e w' ⟨rfl, rfl⟩)
    | (go_at_call 16; ((with_reducible refine (HIu.out _).mono ?_)); rintro e w' ⟨rfl, rfl⟩))
  clear t1 t2 t3 t4 t7 t8 t9 HIf HIu
  generalize w.alloc (Obj.cells r.cells 24) = W0 at *
  obtain ⟨g, hg⟩ : ∃ g, g = w.heap.size := ⟨_, rfl⟩
  rw [← hg] at HX
  rw [← hg]
  clear hg
  refine (list_any r.A1 r.c1 r.wd 0 6 true _ HR.out.r1 HF.out.l1 HF.out.m1).mono ?_
  rintro e w1 ⟨E1, rfl, hE1, hb1⟩
  have HE1 := Lib.hid hE1
  clear hE1
  replace HX := Lib.hid (HX.out.below hb1)
  replace HB := Lib.hid (below_then HB.out hb1)
  replace HR := Lib.hid (HR.out.next hb1)
  clear hb1
  by_cases e1 : E1 = 0
  case neg =>
    have t1 : (E1 != 0) = true := by rw [bne_iff_ne]; exact e1
    go_wp2_with fail
    go_ret
    exact Errs.by_ (Q := RcOk r) e1 (·.wd) (fun h => e1 (HE1.out.2 h)) HB.out
  subst e1
  have HW := Lib.hid (HE1.out.1 rfl)
  clear HE1
  obtain ⟨x0, x1, x2, x3, x4, x5, x6, x7⟩ := rcells HX.out
  go_wp2_with fail
  refine (list_any r.A2 r.c2 r.md (-31) 31 false _ HR.out.r2 HF.out.l2 HF.out.m2).mono ?_
  rintro e w2 ⟨E1, rfl, hE1, hb1⟩
  have HE1 := Lib.hid hE1
  clear hE1 x0 x1 x2 x3 x4 x5 x6 x7
  replace HX := Lib.hid (HX.out.below hb1)
  replace HB := Lib.hid (below_then HB.out hb1)
  replace HR := Lib.hid (HR.out.next hb1)
  clear hb1
  by_cases e1 : E1 = 0
  case neg =>
    have t1 : (E1 != 0) = true := by rw [bne_iff_ne]; exact e1
    go_wp2_with fail
    go_ret
    exact Errs.by_ (Q := RcOk r) e1 (·.md) (fun h => e1 (HE1.out.2 h)) HB.out
  subst e1
  have HM := Lib.hid (HE1.out.1 rfl)
  clear HE1
  obtain ⟨x0, x1, x2, x3, x4, x5, x6, x7⟩ := rcells HX.out
  go_wp2_with fail
  refine (list_any r.A3 r.c3 r.mo 1 12 true _ HR.out.r3 HF.out.l3 HF.out.m3).mono ?_
  rintro e w3 ⟨E1, rfl, hE1, hb1⟩
  have HE1 := Lib.hid hE1
  clear hE1 x0 x1 x2 x3 x4 x5 x6 x7
  go_wp2_with fail
  go_ret
  refine ⟨E1, rfl, ⟨fun h0 => ?_, fun h => HE1.out.2 h.mo⟩, below_then HB.out hb1⟩
  exact ⟨by omega, by omega, by omega, by omega, A5.out, A6.out, by omega, by omega, by omega, HW.out, HM.out, HE1.out.1 h0⟩
end Go.Proofs.YtonhmgdokghoeaaDoor

/- Contracts of package recur: checkRange, at; the date of a day. -/
namespace Go.Proofs.YtonhmgdokghoeaaDoor
open Go.RowKit
set_option linter.unusedVariables false

theorem cell_set1 {W : World} {g i : Nat} {v : Value} {b o : Nat} (h : b ≠ g) : (W.setCell ⟨g, i, none⟩ v).cell? ⟨b, o, none⟩ = W.cell? ⟨b, o, none⟩ := by
  have hh : (W.setCell ⟨g, i, none⟩ v).heap[b]? = W.heap[b]? := Below.heap_setCell _ _ _ b h
  unfold World.cell?
  simp only [hh]
theorem step_find (f : Nat → Int) (day : Int) (h1 : f 0 ≤ day) : ∀ N, day < f N → ∃ p, p < N ∧ f p ≤ day ∧ day < f (p + 1)
  | 0, h => absurd h (by omega)
  | N + 1, h => by
    by_cases hd : day < f N
    · obtain ⟨p, hp, a, b⟩ := step_find f day h1 N hd
      exact ⟨p, by omega, a, b⟩
    · exact ⟨N, by omega, by omega, h⟩
/-- each day has a date -/
theorem date_of (day : Int) (h1 : -4000000 ≤ day) (h2 : day ≤ 4000000) : ∃ (y : Int) (k : Nat) (d : Int), valid y k d ∧ dayOf y k d = day := by
  obtain ⟨p, _, hp1, hp2⟩ := step_find (fun p => ny (-12000 + (p : Int))) day (by show ny (-12000 + ((0 : Nat) : Int)) ≤ day; unfold ny; omega) 24000 (by show day < ny (-12000 + ((24000 : Nat) : Int)); unfold ny; omega)
  have hq : (-12000 + ((p + 1 : Nat) : Int)) = (-12000 + (p : Int)) + 1 := by omega
  simp only [hq] at hp2
  rw [ny_succ] at hp2
  generalize -12000 + (p : Int) = y at hp1 hp2
  obtain ⟨k, hk, c1, c2⟩ := step_find (fun k => ny y + cum (feb y) k) day (by simpa [cum] using hp1) 12 (by show day < ny y + cum (feb y) 12; rw [cum_12]; omega)
  refine ⟨y, k, day - ny y - cum (feb y) k + 1, ⟨hk, by omega, ?_⟩, by unfold dayOf; omega⟩
  have hc : cum (feb y) (k + 1) = cum (feb y) k + len (feb y) k := by simp [cum]
  rw [hc] at c2
  omega
/-- a moment: the day, its year, its month less one, its day in the month -/
structure Mm where
  day : Int
  y : Int
  k : Nat
  d : Int
abbrev Mm.cells (m : Mm) : Array Value := #[.int .i64 m.day, .int .i64 ((m.day - 1) % 7), .int .i64 m.y, .int .i64 ((m.k : Int) + 1), .int .i64 m.d, .int .i64 (len (feb m.y) m.k)]
abbrev Mm.val (m : Mm) : Value := .agg m.cells
structure MmOk (m : Mm) : Prop where
  d1 : -4000000 ≤ m.day
  d2 : m.day ≤ 4000000
  v : valid m.y m.k m.d
  e : dayOf m.y m.k m.d = m.day
theorem MmOk.same {m n : Mm} (h : MmOk m) (g : MmOk n) (e : m.day = n.day) : m = n := by
  obtain ⟨a, b, c⟩ := dayOf_inj _ _ _ _ _ _ h.v g.v (by rw [h.e, g.e, e])
  obtain ⟨m1, m2, m3, m4⟩ := m
  obtain ⟨n1, n2, n3, n4⟩ := n
  simp_all
theorem mm_of (day : Int) (h1 : -4000000 ≤ day) (h2 : day ≤ 4000000) : ∃ m : Mm, m.day = day ∧ MmOk m := by
  obtain ⟨y, k, d, hv, he⟩ := date_of day h1 h2
  exact ⟨⟨day, y, k, d⟩, rfl, h1, h2, hv, he⟩

set_option maxHeartbeats 4000000 in
theorem crange_any (r : Rc) (a b : Int) (w : World) (hf1 : -4000000 ≤ r.fr) (hf2 : r.fr ≤ 4000000) : Calls Tryd.prog 10 #[r.val, .int .i64 a, .int .i64 b] w (Errs ((-4000000 ≤ a ∧ a ≤ 4000000) ∧ (-4000000 ≤ b ∧ b ≤ 4000000) ∧ a ≤ b ∧ b ≤ r.fr + 40000 ∧ b - a ≤ 3000) w) := by
  have HX := Lib.hid (Box.new w 24 r.cells)
  have HB := Lib.hid (below_alloc1 w (Obj.cells r.cells 24))
  by_cases a5 : -4000000 ≤ a ∧ a ≤ 4000000
  case neg =>
    have a5' : a < -4000000 ∨ 4000000 < a := by omega
    clear a5
    go_enter Tryd.func10, Tryd.ntmps10
    go_wp2_with (go_at_call 16; refine (is_no _ _ a5').mono ?_; rintro e w' ⟨rfl, rfl⟩)
    go_ret
    exact Errs.no (by omega) (by omega) HB.out
  have HIf := Lib.hid (fun w => is_yes a w a5.1 a5.2)
  by_cases a6 : -4000000 ≤ b ∧ b ≤ 4000000
  case neg =>
    have a6' : b < -4000000 ∨ 4000000 < b := by omega
    have A5 := Lib.hid a5
    clear a6 a5
    go_enter Tryd.func10, Tryd.ntmps10
    go_wp2_with (first
      | (go_at_call 16; ((with_reducible refine (HIf.out _).mono ?_)); rintro e w' ⟨rfl, rfl⟩)
      | (go_at_call 16; ((with_reducible refine (is_no b _ a6').mono ?_)); rintro e w' ⟨rfl, rfl⟩))
    go_ret
    exact Errs.no (by omega) (by omega) HB.out
  have HIu := Lib.hid (fun w => is_yes b w a6.1 a6.2)
  have k1 := a5.1
  have k2 := a5.2
  have k3 := a6.1
  have k4 := a6.2
  clear a5 a6
  by_cases a7 : b < a
  · have t7 : decide (b < a) = true := decide_eq_true a7
    go_enter Tryd.func10, Tryd.ntmps10
    go_wp2_with (first
      | (go_at_call 16; ((with_reducible refine (HIf.out _).mono ?_)); rintro e w' ⟨rfl, rfl⟩)
      | (go_at_call 16; ((with_reducible refine (HIu.out _).mono ?_)); rintro e w' ⟨rfl, rfl⟩))
    go_ret
    exact Errs.no (by omega) (by omega) HB.out
  have t7 : decide (b < a) = false := decide_eq_false a7
  by_cases a8 : r.fr + 40000 < b
  · have t8 : decide (r.fr + 40000 < b) = true := decide_eq_true a8
    go_enter Tryd.func10, Tryd.ntmps10
    go_wp2_with (first
      | (go_at_call 16; ((with_reducible refine (HIf.out _).mono ?_)); rintro e w' ⟨rfl, rfl⟩)
      | (go_at_call 16; ((with_reducible refine (HIu.out _).mono ?_)); rintro e w' ⟨rfl, rfl⟩))
    go_ret
    exact Errs.no (by omega) (by omega) HB.out
  have t8 : decide (r.fr + 40000 < b) = false := decide_eq_false a8
  by_cases a9 : 3000 < b - a
  · have t9 : decide (3000 < b - a) = true := decide_eq_true a9
    go_enter Tryd.func10, Tryd.ntmps10
    go_wp2_with (first
      | (go_at_call 16; ((with_reducible refine (HIf.out _).mono ?_)); rintro e w' ⟨rfl, rfl⟩)
      | (go_at_call 16; ((with_reducible refine (HIu.out _).mono ?_)); rintro e w' ⟨rfl, rfl⟩))
    go_ret
    exact Errs.no (by omega) (by omega) HB.out
  have t9 : decide (3000 < b - a) = false := decide_eq_false a9
  go_enter Tryd.func10, Tryd.ntmps10
  go_wp2_with (first
    | (go_at_call 16; ((with_reducible refine (HIf.out _).mono ?_)); rintro e w' ⟨rfl, rfl⟩)
    | (go_at_call 16; ((with_reducible refine (HIu.out _).mono ?_)); rintro e w' ⟨rfl, rfl⟩))
  go_ret
  exact Errs.ok (by omega) HB.out

set_option maxHeartbeats 400000 in
set_option maxRecDepth 2000 in
theorem run_lens (f : Int) (k : Nat) (hk : k < 12) (W : World) : (Instr.index 51 (.agg #[.int .i64 31, .int .i64 f, .int .i64 31, .int .i64 30, .int .i64 31, .int .i64 30, .int .i64 31, .int .i64 31, .int .i64 30, .int .i64 31, .int .i64 30, .int .i64 31]) (.int .i64 (k : Int))).run Tryd.prog W = .ok (.int .i64 (len f k)) W := by
  match k, hk with
  | 0, _ | 1, _ | 2, _ | 3, _ | 4, _ | 5, _ | 6, _ | 7, _ | 8, _ | 9, _ | 10, _ | 11, _ => simp [Instr.index, run_underlying Tryd.underlying51, asIntOf, go_sem, len, lens]
end Go.Proofs.YtonhmgdokghoeaaDoor

/- Contract of recur.at. -/
namespace Go.Proofs.YtonhmgdokghoeaaDoor
open Go.RowKit
set_option linter.unusedVariables false

set_option maxHeartbeats 400000 in
set_option maxRecDepth 100000 in
theorem at_any (m : Mm) (ok : MmOk m) (w : World) : Calls Tryd.prog 12 #[.int .i64 m.day] w fun e w' => e = .returned m.val ∧ Below w.heap.size w w' := by
  have HO := Lib.hid ok
  have h1 := ok.d1
  have h2 := ok.d2
  clear ok
  have HB := Lib.hid (below_alloc1 w (Obj.cells #[.int .i64 0, .int .i64 0, .int .i64 0, .int .i64 0, .int .i64 0, .int .i64 0] 41))
  have HX := Lib.hid (Box.new w 41 #[.int .i64 0, .int .i64 0, .int .i64 0, .int .i64 0, .int .i64 0, .int .i64 0])
  go_enter Tryd.func12, Tryd.ntmps12
  go_wp2_with fail
  refine (date_any _ _ h1 h2).mono ?_
  rintro e W1 ⟨y, k, d, rfl, hv, he, hb⟩
  obtain ⟨rfl, rfl, rfl⟩ := dayOf_inj _ _ _ _ _ _ hv HO.out.v (by rw [he, HO.out.e])
  have hx := HX.out.below hb
  replace HB := Lib.hid (below_then HB.out hb)
  clear HX
  go_upto_region 2 with fail
  have hd := Box.new W1 39 #[.int .i64 m.y, .int .i64 ((m.k : Int) + 1), .int .i64 m.d]
  replace hx := hx.alloc (Obj.cells #[.int .i64 m.y, .int .i64 ((m.k : Int) + 1), .int .i64 m.d] 39)
  have hB : Below w.heap.size w (W1.alloc (Obj.cells #[.int .i64 m.y, .int .i64 ((m.k : Int) + 1), .int .i64 m.d] 39)) := below_then HB.out (below_alloc1 _ _)
  have hgd : W1.heap.size ≠ w.heap.size := by have := HB.out.size; have := hx.lt; have := hb.size; simp at this; omega
  generalize W1.alloc (Obj.cells #[.int .i64 m.y, .int .i64 ((m.k : Int) + 1), .int .i64 m.d] 39) = W2 at *
  generalize W1.heap.size = gd at *
  clear HB hb he hv
  have hBd := Lib.hid hB
  have hk := HO.out.v.1
  have HMd : Hid (∀ W, Calls Tryd.prog 20 #[.int .i64 (m.day - 1), .int .i64 7] W fun e w' => e = .returned (.int .i64 ((m.day - 1) % 7)) ∧ Below W.heap.size W w') := fun W =>
    (mod_pos _ _ W (by omega) (by omega) (by omega) (by omega)).mono fun _ _ ⟨he, n, hn⟩ => ⟨he, by rw [hn]; exact below_drewN W n⟩
  have HLn : Hid (∀ W, Calls Tryd.prog 21 #[.int .i64 m.y] W fun e w' => e = .returned (.agg #[.int .i64 31, .int .i64 (feb m.y), .int .i64 31, .int .i64 30, .int .i64 31, .int .i64 30, .int .i64 31, .int .i64 31, .int .i64 30, .int .i64 31, .int .i64 30, .int .i64 31]) ∧ Below W.heap.size W w') := fun W => lengths_any _ W
  have HK : Hid (∀ W v0 v1 v2 v3 v4 v5, (Below w.heap.size w W ∧ W.cell? ⟨gd, 0, none⟩ = some (.int .i64 m.y) ∧ W.cell? ⟨gd, 1, none⟩ = some (.int .i64 ((m.k : Int) + 1)) ∧ W.cell? ⟨gd, 2, none⟩ = some (.int .i64 m.d)) → (Below w.heap.size w ((((((W.setCell ⟨w.heap.size, 0, none⟩ v0).setCell ⟨w.heap.size, 1, none⟩ v1).setCell ⟨w.heap.size, 2, none⟩ v2).setCell ⟨w.heap.size, 3, none⟩ v3).setCell ⟨w.heap.size, 4, none⟩ v4).setCell ⟨w.heap.size, 5, none⟩ v5) ∧ ((((((W.setCell ⟨w.heap.size, 0, none⟩ v0).setCell ⟨w.heap.size, 1, none⟩ v1).setCell ⟨w.heap.size, 2, none⟩ v2).setCell ⟨w.heap.size, 3, none⟩ v3).setCell ⟨w.heap.size, 4, none⟩ v4).setCell ⟨w.heap.size, 5, none⟩ v5).cell? ⟨gd, 0, none⟩ = some (.int .i64 m.y) ∧ ((((((W.setCell ⟨w.heap.size, 0, none⟩ v0).setCell ⟨w.heap.size, 1, none⟩ v1).setCell ⟨w.heap.size, 2, none⟩ v2).setCell ⟨w.heap.size, 3, none⟩ v3).setCell ⟨w.heap.size, 4, none⟩ v4).setCell ⟨w.heap.size, 5, none⟩ v5).cell? ⟨gd, 1, none⟩ = some (.int .i64 ((m.k : Int) + 1)) ∧ ((((((W.setCell ⟨w.heap.size, 0, none⟩ v0).setCell ⟨w.heap.size, 1, none⟩ v1).setCell ⟨w.heap.size, 2, none⟩ v2).setCell ⟨w.heap.size, 3, none⟩ v3).setCell ⟨w.heap.size, 4, none⟩ v4).setCell ⟨w.heap.size, 5, none⟩ v5).cell? ⟨gd, 2, none⟩ = some (.int .i64 m.d))) := fun W v0 v1 v2 v3 v4 v5 h => by
    refine ⟨((((((h.1.setCell (p := ⟨w.heap.size, 0, none⟩) (Nat.le_refl _) _).setCell (p := ⟨w.heap.size, 1, none⟩) (Nat.le_refl _) _).setCell (p := ⟨w.heap.size, 2, none⟩) (Nat.le_refl _) _).setCell (p := ⟨w.heap.size, 3, none⟩) (Nat.le_refl _) _).setCell (p := ⟨w.heap.size, 4, none⟩) (Nat.le_refl _) _).setCell (p := ⟨w.heap.size, 5, none⟩) (Nat.le_refl _) _), ?_, ?_, ?_⟩ <;> rw [cell_set1 hgd, cell_set1 hgd, cell_set1 hgd, cell_set1 hgd, cell_set1 hgd, cell_set1 hgd]
    · exact h.2.1
    · exact h.2.2.1
    · exact h.2.2.2
  have hS0 : (Below w.heap.size w W2.drew ∧ W2.drew.cell? ⟨gd, 0, none⟩ = some (.int .i64 m.y) ∧ W2.drew.cell? ⟨gd, 1, none⟩ = some (.int .i64 ((m.k : Int) + 1)) ∧ W2.drew.cell? ⟨gd, 2, none⟩ = some (.int .i64 m.d)) := ⟨below_drew hB 1, hd.cell 0, hd.cell 1, hd.cell 2⟩
  have HX0 : Hid (∀ W, Below W2.heap.size W2 W → Box W w.heap.size 41 #[.int .i64 0, .int .i64 0, .int .i64 0, .int .i64 0, .int .i64 0, .int .i64 0]) := fun W h => hx.below h
  have HD0 : Hid (∀ W, Below W2.heap.size W2 W → (Below w.heap.size w W ∧ W.cell? ⟨gd, 0, none⟩ = some (.int .i64 m.y) ∧ W.cell? ⟨gd, 1, none⟩ = some (.int .i64 ((m.k : Int) + 1)) ∧ W.cell? ⟨gd, 2, none⟩ = some (.int .i64 m.d))) := fun W h => ⟨below_then hBd.out h, (hd.below h).cell 0, (hd.below h).cell 1, (hd.below h).cell 2⟩
  have hb0 : Below W2.heap.size W2 W2.drew := below_drew (Below.refl _ _) 1
  clear hd hx hB
  have e1 : IntKind.i64.wrap (m.day - 1) = m.day - 1 := intFits _ (by omega) (by omega)
  have e2 : IntKind.i64.wrap (m.k : Int) = (m.k : Int) := intFits _ (by omega) (by omega)
  have hXa : ∀ W, (Instr.index 51 (.agg #[.int .i64 31, .int .i64 (feb m.y), .int .i64 31, .int .i64 30, .int .i64 31, .int .i64 30, .int .i64 31, .int .i64 31, .int .i64 30, .int .i64 31, .int .i64 30, .int .i64 31]) (.int .i64 (m.k : Int))).run Tryd.prog W = .ok (.int .i64 (len (feb m.y) m.k)) W := fun W => run_lens (feb m.y) m.k hk W
  go_region_held3 (fun W => Below w.heap.size w W ∧ W.cell? ⟨gd, 0, none⟩ = some (.int .i64 m.y) ∧ W.cell? ⟨gd, 1, none⟩ = some (.int .i64 ((m.k : Int) + 1)) ∧ W.cell? ⟨gd, 2, none⟩ = some (.int .i64 m.d)) (first | with_reducible assumption | (with_reducible refine HK.out _ _ _ _ _ _ _ ?_; with_reducible assumption))
    (first
      | (go_at_call 21; ((with_reducible refine (HLn.out _).mono ?_)); rintro e wB ⟨rfl, hbB⟩; have hbL := below_then (by assumption : Below W2.heap.size W2 _) hbB; have hsL := HD0.out _ hbL; have hz := HX0.out _ hbL; have q0 := hz.cell 0; have q1 := hz.cell 1; have q2 := hz.cell 2; have q3 := hz.cell 3; have q4 := hz.cell 4; have q5 := hz.cell 5; have qf := fun i => hz.free i; simp at q0 q1 q2 q3 q4 q5)
      | (go_at_call 20; ((with_reducible refine (HMd.out _).mono ?_)); rintro e wA ⟨rfl, hbA⟩; have hbM := below_then (by assumption : Below W2.heap.size W2 _) hbA; have hsM := HD0.out _ hbM; have hz := HX0.out _ hbM; have q0 := hz.cell 0; have q1 := hz.cell 1; have q2 := hz.cell 2; have q3 := hz.cell 3; have q4 := hz.cell 4; have q5 := hz.cell 5; have qf := fun i => hz.free i; simp at q0 q1 q2 q3 q4 q5))
  have hBx : Hid (Box wB w.heap.size 41 #[.int .i64 0, .int .i64 0, .int .i64 0, .int .i64 0, .int .i64 0, .int .i64 0]) := hz
  have hBb : Hid (Below w.heap.size w wB) := hsL.1
  clear hz q0 q1 q2 q3 q4 q5 qf
  have hy := ((((((hBx.out.set_ 0 (.int .i64 m.day)).set_ 1 (.int .i64 ((m.day - 1) % 7))).set_ 2 (.int .i64 m.y)).set_ 3 (.int .i64 ((m.k : Int) + 1))).set_ 4 (.int .i64 m.d)).set_ 5 (.int .i64 (len (feb m.y) m.k)))
  have q0 := hy.cell 0; have q1 := hy.cell 1; have q2 := hy.cell 2; have q3 := hy.cell 3; have q4 := hy.cell 4; have q5 := hy.cell 5
  simp at q0 q1 q2 q3 q4 q5
  have hQ : Hid (Below w.heap.size w _) := (HK.out _ (.int .i64 m.day) (.int .i64 ((m.day - 1) % 7)) (.int .i64 m.y) (.int .i64 ((m.k : Int) + 1)) (.int .i64 m.d) (.int .i64 (len (feb m.y) m.k)) hsL).1
  generalize ((((((wB.setCell ⟨w.heap.size, 0, none⟩ (.int .i64 m.day)).setCell ⟨w.heap.size, 1, none⟩ (.int .i64 ((m.day - 1) % 7))).setCell ⟨w.heap.size, 2, none⟩ (.int .i64 m.y)).setCell ⟨w.heap.size, 3, none⟩ (.int .i64 ((m.k : Int) + 1))).setCell ⟨w.heap.size, 4, none⟩ (.int .i64 m.d)).setCell ⟨w.heap.size, 5, none⟩ (.int .i64 (len (feb m.y) m.k))) = W9 at *
  go_wp2_with fail
  refine bodyPost_ret (v := m.val) (by simp [results, Tryd.results12, go_sem, q0, q1, q2, q3, q4, q5]) rfl ⟨rfl, hQ.out⟩
end Go.Proofs.YtonhmgdokghoeaaDoor

/- Contract of recur.moment.unit. -/
namespace Go.Proofs.YtonhmgdokghoeaaDoor
open Go.RowKit
set_option linter.unusedVariables false

/-- the number of the unit of a moment -/
def Mm.un (m : Mm) (u : Int) : Int := if u = 1 then m.day else if u = 2 then (m.day - 1) / 7 else if u = 3 then m.y * 12 + ((m.k : Int) + 1) else m.y
theorem MmOk.year {m : Mm} (h : MmOk m) : -10956 ≤ m.y ∧ m.y ≤ 10955 := by
  obtain ⟨a, b⟩ := dayOf_in _ _ _ h.v
  rw [h.e] at a b
  have h1 := ny_bounds' m.y (by have := h.d2; omega)
  have h2 := ny_bounds (m.y + 1) (by have := h.d1; omega)
  omega
theorem MmOk.un_in {m : Mm} (h : MmOk m) (u : Int) : -4000000 ≤ m.un u ∧ m.un u ≤ 4000000 := by
  have := h.year
  have := h.d1
  have := h.d2
  have := h.v.1
  unfold Mm.un
  split
  · omega
  · split
    · omega
    · split <;> omega

set_option maxHeartbeats 400000 in
set_option maxRecDepth 100000 in
theorem unit_any (m : Mm) (u : Int) (ok : MmOk m) (w : World) : Calls Tryd.prog 29 #[m.val, .int .i64 u] w fun e w' => e = .returned (.int .i64 (m.un u)) ∧ Below w.heap.size w w' := by
  have hy := ok.year
  have h1 := ok.d1
  have h2 := ok.d2
  have hk := ok.v.1
  have HB := Lib.hid (below_alloc1 w (Obj.cells m.cells 41))
  unfold Mm.un
  clear ok
  by_cases a1 : u = 1
  · subst a1
    rw [if_pos rfl]
    go_enter Tryd.func29, Tryd.ntmps29
    go_wp2_with fail
    go_ret
    exact ⟨rfl, HB.out⟩
  rw [if_neg a1]
  have t1 : (u == 1) = false := by simpa using a1
  by_cases a2 : u = 2
  · subst a2
    rw [if_pos rfl]
    go_enter Tryd.func29, Tryd.ntmps29
    go_wp2_with (go_at_call 31; refine (down_pos _ _ _ (by omega) (by omega) (by omega) (by omega)).mono ?_; rintro e w' ⟨rfl, n, rfl⟩)
    go_ret
    exact ⟨rfl, below_drew HB.out _⟩
  rw [if_neg a2]
  have t2 : (u == 2) = false := by simpa using a2
  by_cases a3 : u = 3
  · subst a3
    rw [if_pos rfl]
    go_enter Tryd.func29, Tryd.ntmps29
    go_wp2_with fail
    go_ret
    exact ⟨rfl, HB.out⟩
  rw [if_neg a3]
  have t3 : (u == 3) = false := by simpa using a3
  go_enter Tryd.func29, Tryd.ntmps29
  go_wp2_with fail
  go_ret
  exact ⟨rfl, HB.out⟩
end Go.Proofs.YtonhmgdokghoeaaDoor
