/- Line1, Name1, SliceFind -/
import Derived.Shelf.Abstract
import Derived.Test.YtabkggckafnlkaaGreatDoorGPlainInt
import Derived.Test.YtabkggckafnlkaaGreatDoorGWords
import Derived.Test.YtabkggckafnlkaaGreatDoorGOwn
import Derived.Test.YtabkggckafnlkaaGreatDoorGFlow
/- Contracts of the laws' own mod and cut, and of package line: Is, Check, weekday, Weekday, Nth, Cycle, Instant, Split, IsInstant. -/
namespace Go.Proofs.YtabkggckafnlkaaGreatDoor
open Go.RowKit
set_option linter.unusedVariables false

theorem tmod_add_emod (a n : Int) (h : 1 ≤ n) : (a.tmod n + n) % n = a % n := by
  have h1 := Int.mul_tdiv_add_tmod a n
  rw [Int.add_emod_right]
  have : a.tmod n = a - n * a.tdiv n := by omega
  rw [this, Int.sub_mul_emod_self_left]

theorem lawmod_any (a n : Int) (w : World) (h1 : 1 ≤ n) (h2 : n ≤ 1000000000000000) :
    Calls Tryz.prog 15 #[.int .i64 a, .int .i64 n] w fun e w' => e = .returned (.int .i64 (a % n)) ∧ w = w' := by
  have ht := (tmod_facts a n (by omega)).2.2.2
  have e1 := tmod_add_emod a n h1
  have E := Lib.hid e1
  clear e1
  have b1 : 0 ≤ a.tmod n + n := by omega
  have b2 : a.tmod n + n ≤ 9223372036854775807 := by omega
  have b3 : ¬ n = 0 := by omega
  go_enter Tryz.func15, Tryz.ntmps15
  go_wp2
  go_ret
  exact ⟨ret_int E.out, rfl⟩

theorem cut_any (x low n : Int) (w : World) (h1 : 1 ≤ n) (h2 : n ≤ 1000000000000000) (h3 : -1000000000000000 ≤ low) (h4 : low ≤ 1000000000000000) :
    Calls Tryz.prog 8 #[.int .i64 x, .int .i64 low, .int .i64 n] w fun e w' => e = .returned (.int .i64 (low + x % n)) ∧ w = w' := by
  have b1 := Int.emod_nonneg x (show n ≠ 0 by omega)
  have b2 := Int.emod_lt_of_pos x (show 0 < n by omega)
  go_enter Tryz.func8, Tryz.ntmps8
  go_wp2_with (go_at_call 15; refine (lawmod_any _ _ _ (by omega) (by omega)).mono ?_; rintro e w' ⟨rfl, rfl⟩)
  go_ret
  exact ⟨rfl, rfl⟩

theorem is_yes (d : Int) (w : World) (h1 : -4000000 ≤ d) (h2 : d ≤ 4000000) :
    Calls Tryz.prog 21 #[.int .i64 d] w fun e w' => e = .returned (.bool true) ∧ w = w' := by
  go_enter Tryz.func21, Tryz.ntmps21
  go_wp2
  go_ret
  exact ⟨rfl, rfl⟩

theorem is_no (d : Int) (w : World) (h1 : d < -4000000 ∨ 4000000 < d) :
    Calls Tryz.prog 21 #[.int .i64 d] w fun e w' => e = .returned (.bool false) ∧ w = w' := by
  rcases h1 with h | h
  · go_enter Tryz.func21, Tryz.ntmps21
    go_wp2
    go_ret
    exact ⟨rfl, rfl⟩
  · have hd : decide (d ≤ 4000000) = false := by simp; omega
    go_enter Tryz.func21, Tryz.ntmps21
    go_wp2
    go_ret
    exact ⟨rfl, rfl⟩

end Go.Proofs.YtabkggckafnlkaaGreatDoor

/- Contracts of rule.IsName, zone.IsLabel, zone.IsOffset, line.IsInstant. -/
namespace Go.Proofs.YtabkggckafnlkaaGreatDoor
open Go.RowKit
set_option linter.unusedVariables false

/-- What a question says: true just if P; the world is as it was. -/
def Asks (P : Prop) (w : World) (e : Ending) (w' : World) : Prop := ∃ b : Bool, e = .returned (.bool b) ∧ (b = true ↔ P) ∧ w = w'
theorem Asks.yes {P : Prop} {w : World} (h : P) : Asks P w (.returned (.bool true)) w := ⟨true, rfl, ⟨fun _ => h, fun _ => rfl⟩, rfl⟩
theorem Asks.no {P : Prop} {w : World} (h : ¬ P) : Asks P w (.returned (.bool false)) w := ⟨false, rfl, ⟨(fun e => by cases e), fun p => absurd p h⟩, rfl⟩

/-- every byte is in a range -/
def AllIn (lo hi : Nat) (s : ByteArray) : Prop := ∀ k (h : k < s.size), lo ≤ s[k].toNat ∧ s[k].toNat ≤ hi
/-- an error code: 0 just if P -/
def Errs (P : Prop) (w : World) (e : Ending) (w' : World) : Prop := ∃ E : Int, e = .returned (.int .i64 E) ∧ (E = 0 ↔ P) ∧ Below w.heap.size w w'
theorem Errs.ok {P : Prop} {w w' : World} (h : P) (hb : Below w.heap.size w w') : Errs P w (.returned (.int .i64 0)) w' := ⟨0, rfl, ⟨fun _ => h, fun _ => rfl⟩, hb⟩
theorem Errs.no {P : Prop} {w w' : World} {E : Int} (hE : E ≠ 0) (h : ¬ P) (hb : Below w.heap.size w w') : Errs P w (.returned (.int .i64 E)) w' := ⟨E, rfl, ⟨fun e => absurd e hE, fun p => absurd p h⟩, hb⟩
/-- as Errs, and the world is as it was but for draws -/
def ErrsQ (P : Prop) (w : World) (e : Ending) (w' : World) : Prop := ∃ E : Int, e = .returned (.int .i64 E) ∧ (E = 0 ↔ P) ∧ ∃ n, w' = w.drewN n
theorem intFits (x : Int) (h1 : -9223372036854775808 ≤ x) (h2 : x ≤ 9223372036854775807) : IntKind.i64.wrap x = x := IntWalk.i64_in _ ⟨h1, h2⟩
def NameOk (s : ByteArray) : Prop := 1 ≤ s.size ∧ s.size ≤ 12 ∧ ¬ s.toList = [121] ∧ ¬ s.toList = [97, 110, 100] ∧ ¬ s.toList = [111, 114] ∧ ¬ s.toList = [110, 111, 116] ∧ AllIn 97 122 s
def LabelOk (s : ByteArray) : Prop := AllIn 65 90 s ∧ 1 ≤ s.size ∧ s.size ≤ 6

set_option maxHeartbeats 1000000 in
set_option maxRecDepth 100000 in
theorem isName_any (s : ByteArray) (w : World) (hs : s.size ≤ maxLen) :
    Calls Tryz.prog 83 #[.string s] w (Asks (NameOk s) w) := by
  unfold maxLen at hs
  by_cases h1 : s.size < 1
  · have t1 : decide ((s.size : Int) < 1) = true := decide_eq_true (by omega)
    go_enter Tryz.func83, Tryz.ntmps83
    go_wp2_with fail
    go_ret
    exact Asks.no (fun h => by have := h.1; omega)
  have t1 : decide ((s.size : Int) < 1) = false := decide_eq_false (by omega)
  by_cases h2 : 12 < s.size
  · have t2 : decide (12 < (s.size : Int)) = true := decide_eq_true (by omega)
    go_enter Tryz.func83, Tryz.ntmps83
    go_wp2_with fail
    go_ret
    exact Asks.no (fun h => by have := h.2.1; omega)
  have t2 : decide (12 < (s.size : Int)) = false := decide_eq_false (by omega)
  by_cases q0 : s.toList = [121]
  · have b0 : (s.toList == [121]) = true := beq_iff_eq.2 q0
    have Q := Lib.hid q0
    clear q0
    go_enter Tryz.func83, Tryz.ntmps83
    go_wp2_with fail
    go_ret
    exact Asks.no (fun h => h.2.2.1 Q.out)
  have b0 : (s.toList == [121]) = false := beq_eq_false_iff_ne.2 q0
  by_cases q1 : s.toList = [97, 110, 100]
  · have b1 : (s.toList == [97, 110, 100]) = true := beq_iff_eq.2 q1
    have Q := Lib.hid q1
    clear q1
    go_enter Tryz.func83, Tryz.ntmps83
    go_wp2_with fail
    go_ret
    exact Asks.no (fun h => h.2.2.2.1 Q.out)
  have b1 : (s.toList == [97, 110, 100]) = false := beq_eq_false_iff_ne.2 q1
  by_cases q2 : s.toList = [111, 114]
  · have b2 : (s.toList == [111, 114]) = true := beq_iff_eq.2 q2
    have Q := Lib.hid q2
    clear q2
    go_enter Tryz.func83, Tryz.ntmps83
    go_wp2_with fail
    go_ret
    exact Asks.no (fun h => h.2.2.2.2.1 Q.out)
  have b2 : (s.toList == [111, 114]) = false := beq_eq_false_iff_ne.2 q2
  by_cases q3 : s.toList = [110, 111, 116]
  · have b3 : (s.toList == [110, 111, 116]) = true := beq_iff_eq.2 q3
    have Q := Lib.hid q3
    clear q3
    go_enter Tryz.func83, Tryz.ntmps83
    go_wp2_with fail
    go_ret
    exact Asks.no (fun h => h.2.2.2.2.2.1 Q.out)
  have b3 : (s.toList == [110, 111, 116]) = false := beq_eq_false_iff_ne.2 q3
  have HQ := Lib.hid (And.intro q0 (And.intro q1 (And.intro q2 q3)))
  clear q0 q1 q2 q3
  go_enter Tryz.func83, Tryz.ntmps83
  go_wp2_with fail
  go_loop [3, 30] (fun _ i => ∃ k : Nat, k ≤ s.size ∧ i = .int .i64 k ∧ Hid (∀ j (h : j < s.size), j < k → 97 ≤ s[j].toNat ∧ s[j].toNat ≤ 122)) (fun _ i => s.size - (intOf i).toNat)
  case atStart => exact ⟨0, by omega, rfl, fun j h hj => by omega⟩
  case round =>
    obtain ⟨k, hk, rfl, hall⟩ := hrel
    by_cases hlt : k < s.size
    · by_cases c1 : s[k].toNat < 97
      · have d1 : decide ((s[k].toNat : Int) < 97) = true := decide_eq_true (by omega)
        go_wp2
        go_ret
        exact Asks.no (fun h => by have := h.2.2.2.2.2.2 k hlt; omega)
      · have d1 : decide ((s[k].toNat : Int) < 97) = false := decide_eq_false (by omega)
        by_cases c2 : 122 < s[k].toNat
        · have d2 : decide (122 < (s[k].toNat : Int)) = true := decide_eq_true (by omega)
          go_wp2
          go_ret
          exact Asks.no (fun h => by have := h.2.2.2.2.2.2 k hlt; omega)
        · have d2 : decide (122 < (s[k].toNat : Int)) = false := decide_eq_false (by omega)
          go_wp2
          go_round
          case rel => exact ⟨k + 1, by omega, by go_num, fun j h hj => by
            by_cases hjk : j < k
            · exact hall.out j h hjk
            · obtain rfl : j = k := by omega
              omega⟩
          case measure => simp [intOf]; omega
    · go_wp2
      go_ret
      exact Asks.yes ⟨by omega, by omega, HQ.out.1, HQ.out.2.1, HQ.out.2.2.1, HQ.out.2.2.2, fun j h => hall.out j h (by omega)⟩

/-- an offset of a zone -/
def OffOk (n : Int) : Prop := n % 1000 = 0 ∧ -64800000 ≤ n ∧ n ≤ 64800000
/-- an instant -/
def InstOk (t : Int) : Prop := -345600000000000 ≤ t ∧ t < 345600086400000
end Go.Proofs.YtabkggckafnlkaaGreatDoor

/- Contracts of slices.Index, Contains, IndexFunc, ContainsFunc at []int. -/
namespace Go.Proofs.YtabkggckafnlkaaGreatDoor
open Go.RowKit
set_option linter.unusedVariables false

theorem mem_getD (l : List Int) (i : Nat) (h : i < l.length) : l.getD i 0 ∈ l := by simp [List.getD, List.getElem?_eq_getElem h]
theorem not_mem_getD (l : List Int) (x : Int) (h : ∀ i, i < l.length → l.getD i 0 ≠ x) : x ∉ l := fun hm => by
  obtain ⟨i, hi, e⟩ := List.getElem_of_mem hm
  exact h i hi (by rw [← e]; simp [List.getD, List.getElem?_eq_getElem hi])
/-- an index, or -1 -/
def IsIdx (P : Prop) (w : World) (e : Ending) (w' : World) : Prop := ∃ i : Int, e = .returned (.int .i64 i) ∧ (0 ≤ i ↔ P) ∧ w = w'

/-- IndexFunc at any predicate that keeps a property of worlds -/
def IsIdxF (P : Prop) (S : World → Prop) (e : Ending) (w' : World) : Prop := ∃ i : Int, e = .returned (.int .i64 i) ∧ (0 ≤ i ↔ P) ∧ S w'

end Go.Proofs.YtabkggckafnlkaaGreatDoor
