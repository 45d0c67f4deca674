/- SliceFind -/
import Derived.Shelf.Abstract
import Derived.Test.YtbmbphikjainiaaGreatDoorGLine1
import Derived.Test.YtbmbphikjainiaaGreatDoorGWords
import Derived.Test.YtbmbphikjainiaaGreatDoorGOwn
import Derived.Test.YtbmbphikjainiaaGreatDoorGFlow
/- Contracts of slices.Index, Contains, IndexFunc, ContainsFunc at []int. -/
namespace Go.Proofs.YtbmbphikjainiaaGreatDoor
open Go.RowKit
set_option linter.unusedVariables false

theorem mem_getD (l : List Int) (i : Nat) (h : i < l.length) : l.getD i 0 ∈ l := by simp [List.getD, List.getElem?_eq_getElem h]
theorem not_mem_getD (l : List Int) (x : Int) (h : ∀ i, i < l.length → l.getD i 0 ≠ x) : x ∉ l := fun hm => by
  obtain ⟨i, hi, e⟩ := List.getElem_of_mem hm
  exact h i hi (by rw [← e]; simp [List.getD, List.getElem?_eq_getElem hi])
/-- an index, or -1 -/
def IsIdx (P : Prop) (w : World) (e : Ending) (w' : World) : Prop := ∃ i : Int, e = .returned (.int .i64 i) ∧ (0 ≤ i ↔ P) ∧ w = w'

set_option maxHeartbeats 1000000 in
set_option maxRecDepth 100000 in
theorem index_ints (A : Option Addr) (c : Nat) (l : List Int) (x : Int) (w : World) (hr : Row w w.heap.size A (ints l)) (hl : l.length ≤ maxLen) :
    Calls Tryz.prog 69 #[.slice A l.length c, .int .i64 x] w (IsIdx (x ∈ l) w) := by
  unfold maxLen at hl
  obtain ⟨P, hP⟩ : ∃ P : Prop, P = (x ∈ l) := ⟨_, rfl⟩
  rw [← hP]
  have HP := Lib.hid hP
  clear hP
  go_enter Tryz.func69, Tryz.ntmps69
  go_wp2_with fail
  go_loop [5, 8] (fun _ i => ∃ k : Nat, k ≤ l.length ∧ i = .int .i64 (k : Int) ∧ Hid (∀ j, j < k → l.getD j 0 ≠ x)) (fun _ i => l.length - (intOf i).toNat)
  case atStart => exact ⟨0, by omega, rfl, fun j hj => by omega⟩
  case round =>
    obtain ⟨k, hk, rfl, hall⟩ := hrel
    by_cases hlt : k < l.length
    · obtain ⟨b, o, rfl, _, hcs⟩ := hr.open_ (ints_ne l (by omega))
      have hc := ints_cell hcs k hlt
      have hmem := Lib.hid (mem_getD l k hlt)
      have HX : Hid (l.getD k 0 ≠ x → ∀ j, j < k + 1 → l.getD j 0 ≠ x) := fun h j hj => by
        by_cases e : j = k
        · subst e; exact h
        · exact hall.out j (by omega)
      clear hcs hr
      generalize l.getD k 0 = y at *
      by_cases he : x = y
      · have t1 : (x == y) = true := by simpa using he
        have HE := Lib.hid he
        clear he
        go_wp2_with fail
        go_ret
        exact ⟨(k : Int), rfl, ⟨fun _ => by rw [HP.out, HE.out]; exact hmem.out, fun _ => by omega⟩, rfl⟩
      · have t1 : (x == y) = false := by simpa using he
        go_wp2_with fail
        go_round
        case rel => exact ⟨k + 1, by omega, by go_num, HX.out (fun h => he h.symm)⟩
        case measure => simp [intOf]; omega
    · go_wp2_with fail
      go_ret
      exact ⟨-1, rfl, ⟨fun h => by omega, fun h => absurd (HP.out ▸ h) (not_mem_getD l x (fun i hi => hall.out i (by omega)))⟩, rfl⟩

set_option maxRecDepth 100000 in
theorem contains_ints (A : Option Addr) (c : Nat) (l : List Int) (x : Int) (w : World) (hr : Row w w.heap.size A (ints l)) (hl : l.length ≤ maxLen) :
    Calls Tryz.prog 38 #[.slice A l.length c, .int .i64 x] w fun e w' => e = .returned (.bool (decide (x ∈ l))) ∧ w = w' := by
  have HI := Lib.hid (fun w hr => index_ints A c l x w hr hl)
  obtain ⟨R, hR⟩ : ∃ R, R = decide (x ∈ l) := ⟨_, rfl⟩
  rw [← hR]
  have HR := Lib.hid hR
  clear hR hl
  go_enter Tryz.func38, Tryz.ntmps38
  go_wp2_with fail
  refine (HI.out _ hr).mono ?_
  rintro e w' ⟨i, rfl, hi, rfl⟩
  have HH := Lib.hid hi
  clear hi HI
  by_cases h0 : 0 ≤ i
  · go_wp2_with fail
    go_ret
    exact ⟨by rw [HR.out, decide_eq_true (HH.out.1 h0)]; simp, rfl⟩
  · have t1 : decide (0 ≤ i) = false := decide_eq_false h0
    go_wp2_with fail
    go_ret
    exact ⟨by rw [HR.out, decide_eq_false (fun h => by have := HH.out.2 h; omega)]; rfl, rfl⟩

/-- IndexFunc at any predicate that keeps a property of worlds -/
def IsIdxF (P : Prop) (S : World → Prop) (e : Ending) (w' : World) : Prop := ∃ i : Int, e = .returned (.int .i64 i) ∧ (0 ≤ i ↔ P) ∧ S w'

end Go.Proofs.YtbmbphikjainiaaGreatDoor
