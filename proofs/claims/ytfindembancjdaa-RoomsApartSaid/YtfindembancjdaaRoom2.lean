/- Contracts of package rooms: stretch; slices.Index at []string. -/
import Derived.Test.YtfindembancjdaaRoom1
import Derived.Test.YtfindembancjdaaName1
import Derived.Test.YtfindembancjdaaMoon4
namespace Go.Proofs.Ytfindembancjdaa
open Go.RowKit
set_option linter.unusedVariables false

def strs (l : List ByteArray) : List Value := l.map .string
def bs0 : ByteArray := ⟨#[]⟩
/-- i is the place of a string in a list, or -1 -/
def IdxS (l : List ByteArray) (x : ByteArray) (i : Int) : Prop :=
  (i = -1 ∧ ∀ j, j < l.length → (x.toList == (l.getD j bs0).toList) = false) ∨ ∃ k : Nat, i = k ∧ k < l.length ∧ (x.toList == (l.getD k bs0).toList) = true ∧ ∀ j, j < k → (x.toList == (l.getD j bs0).toList) = false

set_option maxHeartbeats 1000000 in
set_option maxRecDepth 100000 in
theorem index_strs (A : Option Addr) (c : Nat) (l : List ByteArray) (x : ByteArray) (w : World) (hr : Row w w.heap.size A (strs l)) (hl : l.length ≤ 1000000) :
    Calls Try.prog 85 #[.slice A l.length c, .string x] w fun e w' => ∃ i : Int, e = .returned (.int .i64 i) ∧ IdxS l x i ∧ w = w' := by
  have MK1 : Hid ((∀ j, j < l.length → (x.toList == (l.getD j bs0).toList) = false) → IdxS l x (-1)) := fun h => .inl ⟨rfl, h⟩
  have MK2 : Hid (∀ k : Nat, k < l.length → (x.toList == (l.getD k bs0).toList) = true → (∀ j, j < k → (x.toList == (l.getD j bs0).toList) = false) → IdxS l x (k : Int)) := fun k h1 h2 h3 => .inr ⟨k, rfl, h1, h2, h3⟩
  go_enter Try.func85, Try.ntmps85
  go_wp2_with fail
  go_loop [5, 8] (fun _ i => ∃ k : Nat, k ≤ l.length ∧ i = .int .i64 (k : Int) ∧ Hid (∀ j, j < k → (x.toList == (l.getD j bs0).toList) = false)) (fun _ i => l.length - (intOf i).toNat)
  case atStart => exact ⟨0, by omega, rfl, fun j hj => by omega⟩
  case round =>
    obtain ⟨k, hk, rfl, hall⟩ := hrel
    by_cases hlt : k < l.length
    · have hne : strs l ≠ [] := fun h => by have := congrArg List.length h; simp [strs] at this; rw [this] at hlt; simp at hlt
      obtain ⟨b, o, rfl, _, hcs⟩ := hr.open_ hne
      have hc := hcs k (.string (l.getD k bs0)) (by simp [strs, List.getElem?_eq_getElem hlt])
      have HX : Hid ((x.toList == (l.getD k bs0).toList) = false → ∀ j, j < k + 1 → (x.toList == (l.getD j bs0).toList) = false) := fun h j hj => by
        by_cases e : j = k
        · subst e; exact h
        · exact hall.out j (by omega)
      have HM := Lib.hid (fun h => MK2.out k hlt h hall.out)
      clear hcs hr hne
      generalize l.getD k bs0 = y at *
      cases he : (x.toList == y.toList) with
      | true =>
        have HH := Lib.hid (HM.out he)
        go_wp2_with fail
        go_ret
        exact ⟨(k : Int), rfl, HH.out, rfl⟩
      | false =>
        have HA := Lib.hid (HX.out he)
        go_wp2_with fail
        go_round
        case rel => exact ⟨k + 1, by omega, by go_num, HA⟩
        case measure => simp [intOf]; omega
    · have HH := Lib.hid (MK1.out (fun j hj => hall.out j (by omega)))
      clear hall
      go_wp2_with fail
      go_ret
      exact ⟨-1, rfl, HH.out, rfl⟩

set_option maxRecDepth 100000 in
theorem stretch_any (fr tt : Int) (w : World) (h1 : -9223372036854775808 ≤ fr) (h2 : fr ≤ 9223372036854775807) (h3 : -9223372036854775808 ≤ tt) (h4 : tt ≤ 9223372036854775807) :
    Calls Try.prog 56 #[.int .i64 fr, .int .i64 tt] w (ErrsQ (InstOk fr ∧ InstOk tt ∧ fr < tt) w) := by
  by_cases a1 : InstOk fr
  case neg =>
    have HN := Lib.hid a1
    have HI := Lib.hid (fun w => isInstant_no fr w h1 h2 a1)
    clear a1
    go_enter Try.func56, Try.ntmps56
    go_wp2_with (go_at_call 59; refine (HI.out _).mono ?_; rintro e w' ⟨rfl, n, rfl⟩)
    go_ret
    exact ⟨3, rfl, ⟨fun h => by omega, fun h => absurd h.1 HN.out⟩, _, rfl⟩
  have HI := Lib.hid (fun w => isInstant_yes fr w a1)
  by_cases a2 : InstOk tt
  case neg =>
    have HN := Lib.hid a2
    have HI2 := Lib.hid (fun w => isInstant_no tt w h3 h4 a2)
    clear a1 a2
    go_enter Try.func56, Try.ntmps56
    go_wp2_with (first | (go_at_call 59; ((with_reducible refine (HI.out _).mono ?_)); rintro e w' ⟨rfl, n, rfl⟩) | (go_at_call 59; ((with_reducible refine (HI2.out _).mono ?_)); rintro e w' ⟨rfl, n2, rfl⟩))
    go_ret
    exact ⟨3, rfl, ⟨fun h => by omega, fun h => absurd h.2.1 HN.out⟩, n + n2, rfl⟩
  have HI2 := Lib.hid (fun w => isInstant_yes tt w a2)
  have A1 := Lib.hid a1
  have A2 := Lib.hid a2
  clear a1 a2
  by_cases a3 : tt ≤ fr
  · have t3 : decide (tt ≤ fr) = true := decide_eq_true a3
    go_enter Try.func56, Try.ntmps56
    go_wp2_with (first | (go_at_call 59; ((with_reducible refine (HI.out _).mono ?_)); rintro e w' ⟨rfl, n, rfl⟩) | (go_at_call 59; ((with_reducible refine (HI2.out _).mono ?_)); rintro e w' ⟨rfl, n2, rfl⟩))
    go_ret
    exact ⟨9, rfl, ⟨fun h => by omega, fun h => by have := h.2.2; omega⟩, n + n2, rfl⟩
  · have t3 : decide (tt ≤ fr) = false := decide_eq_false a3
    go_enter Try.func56, Try.ntmps56
    go_wp2_with (first | (go_at_call 59; ((with_reducible refine (HI.out _).mono ?_)); rintro e w' ⟨rfl, n, rfl⟩) | (go_at_call 59; ((with_reducible refine (HI2.out _).mono ?_)); rintro e w' ⟨rfl, n2, rfl⟩))
    go_ret
    exact ⟨0, rfl, ⟨fun _ => ⟨A1.out, A2.out, by omega⟩, fun _ => rfl⟩, n + n2, rfl⟩
end Go.Proofs.Ytfindembancjdaa
