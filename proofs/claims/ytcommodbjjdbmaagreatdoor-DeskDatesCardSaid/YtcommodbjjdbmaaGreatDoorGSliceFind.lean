/- SliceFind -/
import Derived.Shelf.Abstract
import Derived.Test.YtcommodbjjdbmaaGreatDoorGName1
import Derived.Test.YtcommodbjjdbmaaGreatDoorGBase
import Derived.Test.YtcommodbjjdbmaaGreatDoorGNumShp
import Derived.Test.YtcommodbjjdbmaaGreatDoorGFlow
/- Contracts of slices.Index, Contains, IndexFunc, ContainsFunc at []int. -/
namespace Go.Proofs.YtcommodbjjdbmaaGreatDoor
open Go.RowKit
set_option linter.unusedVariables false

theorem mem_getD (l : List Int) (i : Nat) (h : i < l.length) : l.getD i 0 ∈ l := by simp [List.getD, List.getElem?_eq_getElem h]
theorem not_mem_getD (l : List Int) (x : Int) (h : ∀ i, i < l.length → l.getD i 0 ≠ x) : x ∉ l := fun hm => by
  obtain ⟨i, hi, e⟩ := List.getElem_of_mem hm
  exact h i hi (by rw [← e]; simp [List.getD, List.getElem?_eq_getElem hi])
/-- an index, or -1 -/
def IsIdx (P : Prop) (w : World) (e : Ending) (w' : World) : Prop := ∃ i : Int, e = .returned (.int .i64 i) ∧ (0 ≤ i ↔ P) ∧ w = w'

set_option maxHeartbeats 1000000 in
set_option maxRecDepth 100000 in
theorem index_ints (A : Option Addr) (c : Nat) (l : List Int) (x : Int) (w : World) (hr : Row w w.heap.size A (ints l)) (hl : l.length ≤ maxLen) :
    Calls Tryz.prog 214 #[.slice A l.length c, .int .i64 x] w (IsIdx (x ∈ l) w) := by
  unfold maxLen at hl
  obtain ⟨P, hP⟩ : ∃ P : Prop, P = (x ∈ l) := ⟨_, rfl⟩
  rw [← hP]
  have HP := Lib.hid hP
  clear hP
  go_enter Tryz.func214, Tryz.ntmps214
  go_wp2_with fail
  go_loop [5, 8] (fun _ i => ∃ k : Nat, k ≤ l.length ∧ i = .int .i64 (k : Int) ∧ Hid (∀ j, j < k → l.getD j 0 ≠ x)) (fun _ i => l.length - (intOf i).toNat)
  case atStart => exact ⟨0, by omega, rfl, fun j hj => by omega⟩
  case round =>
    obtain ⟨k, hk, rfl, hall⟩ := hrel
    by_cases hlt : k < l.length
    · obtain ⟨b, o, rfl, _, hcs⟩ := hr.open_ (ints_ne l (by omega))
      have hc := ints_cell hcs k hlt
      have hmem := Lib.hid (mem_getD l k hlt)
      have HX : Hid (l.getD k 0 ≠ x → ∀ j, j < k + 1 → l.getD j 0 ≠ x) := fun h j hj => by
        by_cases e : j = k
        · subst e; exact h
        · exact hall.out j (by omega)
      clear hcs hr
      generalize l.getD k 0 = y at *
      by_cases he : x = y
      · have t1 : (x == y) = true := by simpa using he
        have HE := Lib.hid he
        clear he
        go_wp2_with fail
        go_ret
        exact ⟨(k : Int), rfl, ⟨fun _ => by rw [HP.out, HE.out]; exact hmem.out, fun _ => by omega⟩, rfl⟩
      · have t1 : (x == y) = false := by simpa using he
        go_wp2_with fail
        go_round
        case rel => exact ⟨k + 1, by omega, by go_num, HX.out (fun h => he h.symm)⟩
        case measure => simp [intOf]; omega
    · go_wp2_with fail
      go_ret
      exact ⟨-1, rfl, ⟨fun h => by omega, fun h => absurd (HP.out ▸ h) (not_mem_getD l x (fun i hi => hall.out i (by omega)))⟩, rfl⟩

set_option maxRecDepth 100000 in
theorem contains_ints (A : Option Addr) (c : Nat) (l : List Int) (x : Int) (w : World) (hr : Row w w.heap.size A (ints l)) (hl : l.length ≤ maxLen) :
    Calls Tryz.prog 155 #[.slice A l.length c, .int .i64 x] w fun e w' => e = .returned (.bool (decide (x ∈ l))) ∧ w = w' := by
  have HI := Lib.hid (fun w hr => index_ints A c l x w hr hl)
  obtain ⟨R, hR⟩ : ∃ R, R = decide (x ∈ l) := ⟨_, rfl⟩
  rw [← hR]
  have HR := Lib.hid hR
  clear hR hl
  go_enter Tryz.func155, Tryz.ntmps155
  go_wp2_with fail
  refine (HI.out _ hr).mono ?_
  rintro e w' ⟨i, rfl, hi, rfl⟩
  have HH := Lib.hid hi
  clear hi HI
  by_cases h0 : 0 ≤ i
  · go_wp2_with fail
    go_ret
    exact ⟨by rw [HR.out, decide_eq_true (HH.out.1 h0)]; simp, rfl⟩
  · have t1 : decide (0 ≤ i) = false := decide_eq_false h0
    go_wp2_with fail
    go_ret
    exact ⟨by rw [HR.out, decide_eq_false (fun h => by have := HH.out.2 h; omega)]; rfl, rfl⟩

/-- IndexFunc at any predicate that keeps a property of worlds -/
def IsIdxF (P : Prop) (S : World → Prop) (e : Ending) (w' : World) : Prop := ∃ i : Int, e = .returned (.int .i64 i) ∧ (0 ≤ i ↔ P) ∧ S w'

set_option maxHeartbeats 1000000 in
set_option maxRecDepth 100000 in
theorem indexFunc_ints (g : Nat) (cb : Array Value) (p : Int → Bool) (S : World → Prop) (A : Option Addr) (c : Nat) (l : List Int) (w : World) (hS : S w) (hl : l.length ≤ maxLen) (eg : ∀ args w, (callFunc g args).run Tryz.prog w = .ok (.enter g args) w)
    (hr : ∀ W, S W → Row W W.heap.size A (ints l))
    (hf : ∀ W x, S W → Calls Tryz.prog g (#[.int .i64 x] ++ cb) W fun e w' => e = .returned (.bool (p x)) ∧ S w') :
    Calls Tryz.prog 241 #[.slice A l.length c, .func (.func g) #[] cb] w (IsIdxF (l.any p = true) S) := by
  unfold maxLen at hl
  have HF := Lib.hid hf
  have HRr := Lib.hid hr
  have HS := Lib.hid hS
  obtain ⟨P, hP⟩ : ∃ P : Prop, P = (l.any p = true) := ⟨_, rfl⟩
  rw [← hP]
  have HP := Lib.hid hP
  clear hP hf hr hS
  go_enter Tryz.func241, Tryz.ntmps241
  go_wp2_with fail
  go_loopw [5, 8] (fun _ i wr => ∃ k : Nat, k ≤ l.length ∧ i = .int .i64 (k : Int) ∧ Hid (∀ j, j < k → p (l.getD j 0) = false) ∧ Hid (S wr)) (fun _ i _ => l.length - (intOf i).toNat)
  case atStart => exact ⟨0, by omega, rfl, fun j hj => by omega, HS⟩
  case round =>
    obtain ⟨k, hk, rfl, hall, HSr⟩ := hrel
    by_cases hlt : k < l.length
    · obtain ⟨b, o, rfl, _, hcs⟩ := (HRr.out _ HSr.out).open_ (ints_ne l (by omega))
      have hc := ints_cell hcs k hlt
      have hmem := Lib.hid (mem_getD l k hlt)
      have HX : Hid (p (l.getD k 0) = false → ∀ j, j < k + 1 → p (l.getD j 0) = false) := fun h j hj => by
        by_cases e : j = k
        · subst e; exact h
        · exact hall.out j (by omega)
      have hcall := HF.out _ (l.getD k 0) HSr.out
      clear hcs
      generalize l.getD k 0 = y at *
      cases hp : p y <;> rw [hp] at hcall
      · have HPy := Lib.hid hp
        clear hp
        have HCl := Lib.hid hcall
        clear hcall
        go_wp2_with (go_at_fn g; refine HCl.out.mono ?_; rintro e w' ⟨rfl, hs'⟩)
        go_roundw
        case rel => exact ⟨k + 1, by omega, by go_num, HX.out HPy.out, hs'⟩
        case measure => simp [intOf]; omega
      · have HPy := Lib.hid hp
        clear hp
        have HCl := Lib.hid hcall
        clear hcall
        go_wp2_with (go_at_fn g; refine HCl.out.mono ?_; rintro e w' ⟨rfl, hs'⟩)
        go_ret
        exact ⟨(k : Int), rfl, ⟨fun _ => by rw [HP.out]; exact List.any_eq_true.2 ⟨y, hmem.out, HPy.out⟩, fun _ => by omega⟩, hs'⟩
    · go_wp2_with fail
      go_ret
      refine ⟨-1, rfl, ⟨fun h => by omega, fun h => ?_⟩, HSr.out⟩
      rw [HP.out] at h
      obtain ⟨y, hy, hpy⟩ := List.any_eq_true.1 h
      obtain ⟨i, hi, e⟩ := List.getElem_of_mem hy
      have := hall.out i (by omega)
      simp [List.getD, List.getElem?_eq_getElem hi, e, hpy] at this

set_option maxRecDepth 100000 in
theorem containsFunc_ints (g : Nat) (cb : Array Value) (p : Int → Bool) (S : World → Prop) (A : Option Addr) (c : Nat) (l : List Int) (w : World) (hS : S w) (hl : l.length ≤ maxLen) (eg : ∀ args w, (callFunc g args).run Tryz.prog w = .ok (.enter g args) w)
    (hr : ∀ W, S W → Row W W.heap.size A (ints l))
    (hf : ∀ W x, S W → Calls Tryz.prog g (#[.int .i64 x] ++ cb) W fun e w' => e = .returned (.bool (p x)) ∧ S w') :
    Calls Tryz.prog 217 #[.slice A l.length c, .func (.func g) #[] cb] w fun e w' => e = .returned (.bool (l.any p)) ∧ S w' := by
  have HI := Lib.hid (indexFunc_ints g cb p S A c l w hS hl eg hr hf)
  obtain ⟨R, hR⟩ : ∃ R, R = l.any p := ⟨_, rfl⟩
  rw [← hR]
  have HR := Lib.hid hR
  clear hR hl hS hr hf
  go_enter Tryz.func217, Tryz.ntmps217
  go_wp2_with fail
  refine HI.out.mono ?_
  rintro e w' ⟨i, rfl, hi, hs'⟩
  have HH := Lib.hid hi
  have HS' := Lib.hid hs'
  clear hi HI hs'
  by_cases h0 : 0 ≤ i
  · go_wp2_with fail
    go_ret
    exact ⟨by rw [HR.out, HH.out.1 h0]; simp, HS'.out⟩
  · have t1 : decide (0 ≤ i) = false := decide_eq_false h0
    have hf : l.any p = false := by
      cases h : l.any p
      · rfl
      · exact absurd (HH.out.2 h) h0
    have HFF := Lib.hid hf
    clear hf
    go_wp2_with fail
    go_ret
    exact ⟨by rw [HR.out, HFF.out]; rfl, HS'.out⟩
end Go.Proofs.YtcommodbjjdbmaaGreatDoor
