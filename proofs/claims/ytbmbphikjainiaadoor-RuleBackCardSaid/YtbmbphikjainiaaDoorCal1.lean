/- Contracts of package rule: Head, isLength, Months; slices.IndexFunc, ContainsFunc at []RuleMonth. -/
import Derived.Test.YtbmbphikjainiaaDoorListArg
import Derived.Test.YtbmbphikjainiaaDoorName1
import Derived.Test.YtbmbphikjainiaaDoorSliceFind
import Derived.Test.YtbmbphikjainiaaDoorFlow2
namespace Go.Proofs.YtbmbphikjainiaaDoor
open Go.RowKit
set_option linter.unusedVariables false

/-- a month of a calendar -/
structure Mth where
  nm : ByteArray
  sh : Int
  lo : Int
def mth0 : Mth := ⟨⟨#[]⟩, 0, 0⟩
def mthF (m : Mth) : List Value := [.string m.nm, .int .i64 m.sh, .int .i64 m.lo]
abbrev Mth.cells (m : Mth) : Array Value := #[.string m.nm, .int .i64 m.sh, .int .i64 m.lo]
abbrev Mth.val (m : Mth) : Value := .agg m.cells
theorem mthF_len (m : Mth) : (mthF m).length = 3 := rfl

theorem head_any (nm : ByteArray) (ep cy : Int) (w : World) (hs : nm.size ≤ maxLen) :
    Calls Tryd.prog 36 #[.string nm, .int .i64 ep, .int .i64 cy] w (Errs (NameOk nm ∧ (-4000000 ≤ ep ∧ ep ≤ 4000000) ∧ 1 ≤ cy ∧ cy ≤ 3000) w) := by
  have HN := Lib.hid (fun w => isName_any nm w hs)
  clear hs
  go_enter Tryd.func36, Tryd.ntmps36
  go_wp2_with fail
  refine (HN.out _).mono ?_
  rintro e w' ⟨b, rfl, hb, rfl⟩
  have HB := Lib.hid hb
  clear hb HN
  cases b with
  | false =>
    have HX : Hid (¬ NameOk nm) := fun h => by have := HB.out.2 h; cases this
    clear HB
    go_wp2_with fail
    go_ret
    exact Errs.no (by omega) (fun h => HX.out h.1) (Below.refl _ _)
  | true =>
    have HX := Lib.hid (HB.out.1 rfl)
    clear HB
    by_cases a5 : -4000000 ≤ ep ∧ ep ≤ 4000000
    case neg =>
      have a5' : ep < -4000000 ∨ 4000000 < ep := by omega
      clear a5
      go_wp2_with (go_at_call 53; refine (is_no _ _ a5').mono ?_; rintro e w' ⟨rfl, rfl⟩)
      go_ret
      exact Errs.no (by omega) (by omega) (Below.refl _ _)
    obtain ⟨b1, b2⟩ := a5
    by_cases a6 : cy < 1
    · have t6 : decide (cy < 1) = true := decide_eq_true a6
      go_wp2_with (go_at_call 53; refine (is_yes _ _ b1 b2).mono ?_; rintro e w' ⟨rfl, rfl⟩)
      go_ret
      exact Errs.no (by omega) (by omega) (Below.refl _ _)
    have t6 : decide (cy < 1) = false := decide_eq_false a6
    by_cases a7 : 3000 < cy
    · have t7 : decide (3000 < cy) = true := decide_eq_true a7
      go_wp2_with (go_at_call 53; refine (is_yes _ _ b1 b2).mono ?_; rintro e w' ⟨rfl, rfl⟩)
      go_ret
      exact Errs.no (by omega) (by omega) (Below.refl _ _)
    have t7 : decide (3000 < cy) = false := decide_eq_false a7
    go_wp2_with (go_at_call 53; refine (is_yes _ _ b1 b2).mono ?_; rintro e w' ⟨rfl, rfl⟩)
    go_ret
    exact Errs.ok ⟨HX.out, ⟨b1, b2⟩, by omega, by omega⟩ (Below.refl _ _)

theorem isLength_any (n : Int) (w : World) : Calls Tryd.prog 56 #[.int .i64 n] w fun e w' => e = .returned (.bool (decide (0 ≤ n ∧ n ≤ 400))) ∧ w = w' := by
  by_cases h1 : 0 ≤ n
  · have t1 : decide (0 ≤ n) = true := decide_eq_true h1
    by_cases h2 : n ≤ 400
    · have t2 : decide (n ≤ 400) = true := decide_eq_true h2
      rw [decide_eq_true (⟨h1, h2⟩ : 0 ≤ n ∧ n ≤ 400)]
      go_enter Tryd.func56, Tryd.ntmps56
      go_wp2_with fail
      go_ret
      exact ⟨rfl, rfl⟩
    · have t2 : decide (n ≤ 400) = false := decide_eq_false h2
      rw [decide_eq_false (fun h => h2 h.2 : ¬ (0 ≤ n ∧ n ≤ 400))]
      go_enter Tryd.func56, Tryd.ntmps56
      go_wp2_with fail
      go_ret
      exact ⟨rfl, rfl⟩
  · have t1 : decide (0 ≤ n) = false := decide_eq_false h1
    rw [decide_eq_false (fun h => h1 h.1 : ¬ (0 ≤ n ∧ n ≤ 400))]
    go_enter Tryd.func56, Tryd.ntmps56
    go_wp2_with fail
    go_ret
    exact ⟨rfl, rfl⟩

set_option maxRecDepth 100000 in
theorem months_one (g : Nat) (m x : Mth) (W : World) (hx : W.cell? ⟨g, 0, none⟩ = some (.string m.nm)) :
    Calls Tryd.prog 55 (#[x.val] ++ #[.pointer (some ⟨g, 0, none⟩)]) W fun e w' => e = .returned (.bool (x.nm.toList == m.nm.toList)) ∧ Below W.heap.size W w' := by
  have hlt : g < W.heap.size := block_lt_of_cell hx
  have hx' : (W.alloc (Obj.cells x.cells 60)).cell? ⟨g, 0, none⟩ = some (.string m.nm) := ((below_alloc1 W _).cell (p := ⟨g, 0, none⟩) hlt).trans hx
  have HB := Lib.hid (below_alloc1 W (Obj.cells x.cells 60))
  go_enter Tryd.func55, Tryd.ntmps55
  go_wp2_with fail
  go_ret
  exact ⟨rfl, HB.out⟩

set_option maxHeartbeats 1000000 in
set_option maxRecDepth 100000 in
theorem indexFunc_mths (g : Nat) (cb : Array Value) (p : Mth → Bool) (S : World → Prop) (A : Option Addr) (c : Nat) (l : List Mth) (w : World) (hS : S w) (hl : l.length ≤ 1000000) (eg : ∀ args w, (callFunc g args).run Tryd.prog w = .ok (.enter g args) w)
    (hr : ∀ W, S W → Row W W.heap.size A (l.flatMap mthF))
    (hf : ∀ W x, S W → Calls Tryd.prog g (#[Mth.val x] ++ cb) W fun e w' => e = .returned (.bool (p x)) ∧ S w') :
    Calls Tryd.prog 68 #[.slice A l.length c, .func (.func g) #[] cb] w (IsIdxF (l.any p = true) S) := by
  have HF := Lib.hid hf
  have HRr := Lib.hid hr
  have HS := Lib.hid hS
  obtain ⟨P, hP⟩ : ∃ P : Prop, P = (l.any p = true) := ⟨_, rfl⟩
  rw [← hP]
  have HP := Lib.hid hP
  clear hP hf hr hS
  go_enter Tryd.func68, Tryd.ntmps68
  go_wp2_with fail
  go_loopw [5, 8] (fun _ i wr => ∃ k : Nat, k ≤ l.length ∧ i = .int .i64 (k : Int) ∧ Hid (∀ j, j < k → p (l.getD j mth0) = false) ∧ Hid (S wr)) (fun _ i _ => l.length - (intOf i).toNat)
  case atStart => exact ⟨0, by omega, rfl, fun j hj => by omega, HS⟩
  case round =>
    obtain ⟨k, hk, rfl, hall, HSr⟩ := hrel
    by_cases hlt : k < l.length
    · obtain ⟨b, o, rfl, _, hcs⟩ := (HRr.out _ HSr.out).open_ (flat_ne mthF_len (by omega) l (by omega))
      have hc0 := flat_cell mthF_len mth0 hcs k 0 hlt (by omega) _ rfl
      have hc1 := flat_cell mthF_len mth0 hcs k 1 hlt (by omega) _ rfl
      have hc2 := flat_cell mthF_len mth0 hcs k 2 hlt (by omega) _ rfl
      have hmem : Hid (l.getD k mth0 ∈ l) := by unfold Hid; simp [List.getD, List.getElem?_eq_getElem hlt]
      have HX : Hid (p (l.getD k mth0) = false → ∀ j, j < k + 1 → p (l.getD j mth0) = false) := fun h j hj => by
        by_cases e : j = k
        · subst e; exact h
        · exact hall.out j (by omega)
      have hcall := HF.out _ (l.getD k mth0) HSr.out
      clear hcs
      generalize l.getD k mth0 = y at *
      rw [Nat.add_zero] at hc0
      cases hp : p y <;> rw [hp] at hcall
      · have HPy := Lib.hid hp
        clear hp
        have HCl := Lib.hid hcall
        clear hcall
        go_wp2_with (go_at_fn g; refine HCl.out.mono ?_; rintro e w' ⟨rfl, hs'⟩)
        go_roundw
        case rel => exact ⟨k + 1, by omega, by go_num, HX.out HPy.out, hs'⟩
        case measure => simp [intOf]; omega
      · have HPy := Lib.hid hp
        clear hp
        have HCl := Lib.hid hcall
        clear hcall
        go_wp2_with (go_at_fn g; refine HCl.out.mono ?_; rintro e w' ⟨rfl, hs'⟩)
        go_ret
        exact ⟨(k : Int), rfl, ⟨fun _ => by rw [HP.out]; exact List.any_eq_true.2 ⟨y, hmem.out, HPy.out⟩, fun _ => by omega⟩, hs'⟩
    · go_wp2_with fail
      go_ret
      refine ⟨-1, rfl, ⟨fun h => by omega, fun h => ?_⟩, HSr.out⟩
      rw [HP.out] at h
      obtain ⟨y, hy, hpy⟩ := List.any_eq_true.1 h
      obtain ⟨i, hi, e⟩ := List.getElem_of_mem hy
      have := hall.out i (by omega)
      simp [List.getD, List.getElem?_eq_getElem hi, e, hpy] at this

set_option maxRecDepth 100000 in
theorem containsFunc_mths (g : Nat) (cb : Array Value) (p : Mth → Bool) (S : World → Prop) (A : Option Addr) (c : Nat) (l : List Mth) (w : World) (hS : S w) (hl : l.length ≤ 1000000) (eg : ∀ args w, (callFunc g args).run Tryd.prog w = .ok (.enter g args) w)
    (hr : ∀ W, S W → Row W W.heap.size A (l.flatMap mthF))
    (hf : ∀ W x, S W → Calls Tryd.prog g (#[Mth.val x] ++ cb) W fun e w' => e = .returned (.bool (p x)) ∧ S w') :
    Calls Tryd.prog 54 #[.slice A l.length c, .func (.func g) #[] cb] w fun e w' => e = .returned (.bool (l.any p)) ∧ S w' := by
  have HI := Lib.hid (indexFunc_mths g cb p S A c l w hS hl eg hr hf)
  obtain ⟨R, hR⟩ : ∃ R, R = l.any p := ⟨_, rfl⟩
  rw [← hR]
  have HR := Lib.hid hR
  clear hR hl hS hr hf
  go_enter Tryd.func54, Tryd.ntmps54
  go_wp2_with fail
  refine HI.out.mono ?_
  rintro e w' ⟨i, rfl, hi, hs'⟩
  have HH := Lib.hid hi
  have HS' := Lib.hid hs'
  clear hi HI hs'
  by_cases h0 : 0 ≤ i
  · go_wp2_with fail
    go_ret
    exact ⟨by rw [HR.out, HH.out.1 h0]; simp, HS'.out⟩
  · have t1 : decide (0 ≤ i) = false := decide_eq_false h0
    have hf : l.any p = false := by
      cases h : l.any p
      · rfl
      · exact absurd (HH.out.2 h) h0
    have HFF := Lib.hid hf
    clear hf
    go_wp2_with fail
    go_ret
    exact ⟨by rw [HR.out, HFF.out]; rfl, HS'.out⟩
end Go.Proofs.YtbmbphikjainiaaDoor
