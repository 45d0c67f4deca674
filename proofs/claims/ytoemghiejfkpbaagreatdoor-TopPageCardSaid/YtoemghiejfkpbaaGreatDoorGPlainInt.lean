/- PlainInt, Whole1, Line1, Name1, Whole3 -/
import Derived.Test.YtoemghiejfkpbaaGreatDoorGBase
import Derived.Test.YtoemghiejfkpbaaGreatDoorGPlainNum
/- Plain arithmetic, no program in sight. -/
namespace Go.Proofs.YtoemghiejfkpbaaGreatDoor
set_option linter.unusedVariables false
theorem fdiv_unique (a b q r : Int) (e : a = b * q + r) (h : (0 < b ∧ 0 ≤ r ∧ r < b) ∨ (b < 0 ∧ r ≤ 0 ∧ b < r)) : a.fdiv b = q ∧ a.fmod b = r := by
 have hq : a.fdiv b = q := by
  rcases h with ⟨hb, h1, h2⟩ | ⟨hb, h1, h2⟩
  ·rw [Int.fdiv_eq_ediv_of_nonneg _ (by omega)]
   have := (Int.ediv_emod_unique (a := a) (r := r) (q := q) hb).2 ⟨by omega, h1, h2⟩
   exact this.1
  ·rw [← Int.neg_fdiv_neg, Int.fdiv_eq_ediv_of_nonneg _ (by omega)]
   have := (Int.ediv_emod_unique (a := -a) (b := -b) (r := -r) (q := q) (by omega)).2 ⟨by rw [Int.neg_mul]; omega, by omega, by omega⟩
   exact this.1
 refine ⟨hq, ?_⟩
 have := Int.mul_fdiv_add_fmod a b
 rw [hq] at this
 omega
theorem tmod_facts (a b : Int) (hb : b ≠ 0) : a = b * a.tdiv b + a.tmod b ∧ (0 < a.tmod b → 0 < a) ∧ (a.tmod b < 0 → a < 0) ∧ (a.tmod b).natAbs < b.natAbs := by
 refine ⟨(Int.mul_tdiv_add_tmod a b).symm, ?_, ?_, ?_⟩
 ·intro h
  by_cases ha : 0 < a
  ·exact ha
  ·have := Int.tmod_nonneg (a := -a) b (by omega)
   rw [Int.neg_tmod] at this; omega
 ·intro h
  by_cases ha : a < 0
  ·exact ha
  ·have := Int.tmod_nonneg (a := a) b (by omega)
   omega
 ·rw [Int.natAbs_tmod]
  exact Nat.mod_lt _ (by omega)
theorem div_same (a b : Int) (hb : b ≠ 0) (h : a.tmod b = 0 ∨ (a.tmod b < 0 ↔ b < 0)) : a.tdiv b = a.fdiv b ∧ a.tmod b = a.fmod b := by
 obtain ⟨h1, _, _, h4⟩ := tmod_facts a b hb
 have := fdiv_unique a b _ _ h1 (by omega)
 exact ⟨this.1.symm, this.2.symm⟩
theorem div_less (a b : Int) (hb : b ≠ 0) (h0 : a.tmod b ≠ 0) (h : ¬ (a.tmod b < 0 ↔ b < 0)) : a.tdiv b - 1 = a.fdiv b ∧ a.tmod b + b = a.fmod b := by
 obtain ⟨h1, _, _, h4⟩ := tmod_facts a b hb
 have := fdiv_unique a b (a.tdiv b - 1) (a.tmod b + b) (by rw [Int.mul_sub]; omega) (by omega)
 exact ⟨this.1.symm, this.2.symm⟩
theorem fdiv_pos (a b : Int) (hb : 0 < b) : a.fdiv b = a / b := Int.fdiv_eq_ediv_of_nonneg _ (by omega)
theorem fmod_pos (a b : Int) (hb : 0 < b) : a.fmod b = a % b := Int.fmod_eq_emod_of_nonneg _ (by omega)
end Go.Proofs.YtoemghiejfkpbaaGreatDoor
/- Contracts of package whole: size, Div, Mod, Down, Up, Mul. -/
namespace Go.Proofs.YtoemghiejfkpbaaGreatDoor
open Go.RowKit
set_option linter.unusedVariables false
theorem ret_int {k : IntKind} {a b : Int} (h : a = b) : Ending.returned (.int k a) = .returned (.int k b) := by rw [h]
theorem ret_int3 {k k' k'' : IntKind} {a b a' b' a'' b'' : Int} (h : a = b) (h' : a' = b') (h'' : a'' = b'') : Ending.returned (.tuple #[.int k a, .int k' a', .int k'' a'']) = .returned (.tuple #[.int k b, .int k' b', .int k'' b'']) := by rw [h, h', h'']
theorem tdiv_bound (a b : Int) (h1 : -9223372036854775807 ≤ a) (h2 : a ≤ 9223372036854775807) : -9223372036854775807 ≤ a.tdiv b ∧ a.tdiv b ≤ 9223372036854775807 := by
 have h := Int.natAbs_tdiv_le_natAbs a b
 omega
set_option maxHeartbeats 400000 in
theorem div_any (a b : Int) (w : World) (h1 : -9223372036854775807 ≤ a) (h2 : a ≤ 9223372036854775807) (h3 : -9223372036854775807 ≤ b) (h4 : b ≤ 9223372036854775807) (h0 : (b == 0) = false) :
  Calls Tryz.prog 83 #[.int .i64 a, .int .i64 b] w fun e w' => e = .returned (.tuple #[.int .i64 (a.fdiv b), .int .i64 (a.fmod b), .int .i64 0]) ∧ ∃ n, w' = w.drewN n := by
 have hb0 : ¬ b = 0 := by simpa using h0
 obtain ⟨hq1, hq2⟩ := tdiv_bound a b h1 h2
 have hr := (tmod_facts a b hb0).2.2.2
 have hw : IntKind.i64.wrap (a.tdiv b) = a.tdiv b := IntWalk.i64_in _ (by omega)
 by_cases hz : a.tmod b = 0
 ·obtain ⟨e1, e2⟩ := div_same a b hb0 (.inl hz)
  rw [← e1, ← e2]
  clear e1 e2
  go_enter Tryz.func83, Tryz.ntmps83
  go_wp2
  go_quiet (fail)
  go_wp2
  go_ret3
  exact ⟨ret_int3 rfl (by simp [hz]) rfl, _, rfl⟩
 ·by_cases hs : (a.tmod b < 0 ↔ b < 0)
  ·obtain ⟨e1, e2⟩ := div_same a b hb0 (.inr hs)
   rw [← e1, ← e2]
   clear e1 e2
   have hd : (!decide (a.tmod b < 0) == decide (b < 0)) = false := by simpa using hs
   have H := Lib.hid hs; clear hs
   go_enter Tryz.func83, Tryz.ntmps83
   go_wp2
   go_quiet (fail)
   go_wp2
   go_ret3
   exact ⟨rfl, _, rfl⟩
  ·obtain ⟨e1, e2⟩ := div_less a b hb0 hz hs
   rw [← e1, ← e2]
   clear e1 e2
   have hd : (!decide (a.tmod b < 0) == decide (b < 0)) = true := by simpa using hs
   have hl : -9223372036854775807 ≤ a.tmod b + b := by omega
   have hu : a.tmod b + b ≤ 9223372036854775807 := by omega
   have H := Lib.hid hs; clear hs
   go_enter Tryz.func83, Tryz.ntmps83
   go_wp2
   go_quiet (fail)
   go_wp2
   go_ret3
   exact ⟨rfl, _, rfl⟩
theorem div_zero (a : Int) (w : World) :
  Calls Tryz.prog 83 #[.int .i64 a, .int .i64 0] w fun e w' => e = .returned (.tuple #[.int .i64 0, .int .i64 0, .int .i64 1]) ∧ w = w' := by
 go_enter Tryz.func83, Tryz.ntmps83
 go_wp2
 go_ret3
 exact ⟨rfl, rfl⟩
theorem div_pos (a b : Int) (w : World) (h1 : -9223372036854775807 ≤ a) (h2 : a ≤ 9223372036854775807) (h3 : 1 ≤ b) (h4 : b ≤ 9223372036854775807) :
  Calls Tryz.prog 83 #[.int .i64 a, .int .i64 b] w fun e w' => e = .returned (.tuple #[.int .i64 (a / b), .int .i64 (a % b), .int .i64 0]) ∧ ∃ n, w' = w.drewN n := by
 have h := div_any a b w h1 h2 (by omega) h4 (by rw [beq_eq_false_iff_ne]; omega)
 rw [fdiv_pos a b (by omega), fmod_pos a b (by omega)] at h
 exact h
theorem mod_pos (a b : Int) (w : World) (h1 : -9223372036854775807 ≤ a) (h2 : a ≤ 9223372036854775807) (h3 : 1 ≤ b) (h4 : b ≤ 9223372036854775807) :
  Calls Tryz.prog 54 #[.int .i64 a, .int .i64 b] w fun e w' => e = .returned (.int .i64 (a % b)) ∧ ∃ n, w' = w.drewN n := by
 go_enter Tryz.func54, Tryz.ntmps54
 go_wp2_with (go_at_call 83; refine (div_pos _ _ _ h1 h2 h3 h4).mono ?_; rintro e w' ⟨rfl, n, rfl⟩)
 go_ret
 exact ⟨rfl, _, rfl⟩
theorem down_pos (a b : Int) (w : World) (h1 : -9223372036854775807 ≤ a) (h2 : a ≤ 9223372036854775807) (h3 : 1 ≤ b) (h4 : b ≤ 9223372036854775807) :
  Calls Tryz.prog 118 #[.int .i64 a, .int .i64 b] w fun e w' => e = .returned (.int .i64 (a / b)) ∧ ∃ n, w' = w.drewN n := by
 go_enter Tryz.func118, Tryz.ntmps118
 go_wp2_with (go_at_call 83; refine (div_pos _ _ _ h1 h2 h3 h4).mono ?_; rintro e w' ⟨rfl, n, rfl⟩)
 go_ret
 exact ⟨rfl, _, rfl⟩
end Go.Proofs.YtoemghiejfkpbaaGreatDoor
/- Contracts of the laws' own mod and cut, and of package line: Is, Check, weekday, Weekday, Nth, Cycle, Instant, Split, IsInstant. -/
namespace Go.Proofs.YtoemghiejfkpbaaGreatDoor
open Go.RowKit
set_option linter.unusedVariables false
theorem tmod_add_emod (a n : Int) (h : 1 ≤ n) : (a.tmod n + n) % n = a % n := by
 have h1 := Int.mul_tdiv_add_tmod a n
 rw [Int.add_emod_right]
 have : a.tmod n = a - n * a.tdiv n := by omega
 rw [this, Int.sub_mul_emod_self_left]
theorem is_yes (d : Int) (w : World) (h1 : -4000000 ≤ d) (h2 : d ≤ 4000000) :
  Calls Tryz.prog 19 #[.int .i64 d] w fun e w' => e = .returned (.bool true) ∧ w = w' := by
 go_enter Tryz.func19, Tryz.ntmps19
 go_wp2
 go_ret
 exact ⟨rfl, rfl⟩
theorem is_no (d : Int) (w : World) (h1 : d < -4000000 ∨ 4000000 < d) :
  Calls Tryz.prog 19 #[.int .i64 d] w fun e w' => e = .returned (.bool false) ∧ w = w' := by
 rcases h1 with h | h
 ·go_enter Tryz.func19, Tryz.ntmps19
  go_wp2
  go_ret
  exact ⟨rfl, rfl⟩
 ·have hd : decide (d ≤ 4000000) = false := by simp; omega
  go_enter Tryz.func19, Tryz.ntmps19
  go_wp2
  go_ret
  exact ⟨rfl, rfl⟩
theorem linecheck_yes (d : Int) (w : World) (h1 : -4000000 ≤ d) (h2 : d ≤ 4000000) :
  Calls Tryz.prog 20 #[.int .i64 d] w fun e w' => e = .returned (.int .i64 0) ∧ w = w' := by
 go_enter Tryz.func20, Tryz.ntmps20
 go_wp2_with (go_at_call 19; refine (is_yes _ _ h1 h2).mono ?_; rintro e w' ⟨rfl, rfl⟩)
 go_ret
 exact ⟨rfl, rfl⟩
theorem weekday_any (d : Int) (w : World) (h1 : -1000000000000000 ≤ d) (h2 : d ≤ 1000000000000000) :
  Calls Tryz.prog 21 #[.int .i64 d] w fun e w' => e = .returned (.int .i64 ((d - 1) % 7)) ∧ ∃ n, w' = w.drewN n := by
 go_enter Tryz.func21, Tryz.ntmps21
 go_wp2_with (go_at_call 54; refine (mod_pos _ _ _ (by omega) (by omega) (by omega) (by omega)).mono ?_; rintro e w' ⟨rfl, n, rfl⟩)
 go_ret
 exact ⟨rfl, _, rfl⟩
theorem Weekday_yes (d : Int) (w : World) (h1 : -4000000 ≤ d) (h2 : d ≤ 4000000) :
  Calls Tryz.prog 8 #[.int .i64 d] w fun e w' => e = .returned (.tuple #[.int .i64 ((d - 1) % 7), .int .i64 0]) ∧ ∃ n, w' = w.drewN n := by
 go_enter Tryz.func8, Tryz.ntmps8
 go_wp2_with (first
  | (go_at_call 20; refine (linecheck_yes _ _ h1 h2).mono ?_; rintro e w' ⟨rfl, rfl⟩)
  | (go_at_call 21; refine (weekday_any _ _ (by omega) (by omega)).mono ?_; rintro e w' ⟨rfl, n, rfl⟩))
 go_ret2
 exact ⟨rfl, _, rfl⟩
end Go.Proofs.YtoemghiejfkpbaaGreatDoor
/- Contracts of rule.IsName, zone.IsLabel, zone.IsOffset, line.IsInstant. -/
namespace Go.Proofs.YtoemghiejfkpbaaGreatDoor
open Go.RowKit
set_option linter.unusedVariables false
def Asks (P : Prop) (w : World) (e : Ending) (w' : World) : Prop := ∃ b : Bool, e = .returned (.bool b) ∧ (b = true ↔ P) ∧ w = w'
theorem Asks.yes {P : Prop} {w : World} (h : P) : Asks P w (.returned (.bool true)) w := ⟨true, rfl, ⟨fun _ => h, fun _ => rfl⟩, rfl⟩
theorem Asks.no {P : Prop} {w : World} (h : ¬ P) : Asks P w (.returned (.bool false)) w := ⟨false, rfl, ⟨(fun e => by cases e), fun p => absurd p h⟩, rfl⟩
def AllIn (lo hi : Nat) (s : ByteArray) : Prop := ∀ k (h : k < s.size), lo ≤ s[k].toNat ∧ s[k].toNat ≤ hi
def Errs (P : Prop) (w : World) (e : Ending) (w' : World) : Prop := ∃ E : Int, e = .returned (.int .i64 E) ∧ (E = 0 ↔ P) ∧ Below w.heap.size w w'
theorem Errs.ok {P : Prop} {w w' : World} (h : P) (hb : Below w.heap.size w w') : Errs P w (.returned (.int .i64 0)) w' := ⟨0, rfl, ⟨fun _ => h, fun _ => rfl⟩, hb⟩
theorem Errs.no {P : Prop} {w w' : World} {E : Int} (hE : E ≠ 0) (h : ¬ P) (hb : Below w.heap.size w w') : Errs P w (.returned (.int .i64 E)) w' := ⟨E, rfl, ⟨fun e => absurd e hE, fun p => absurd p h⟩, hb⟩
theorem intFits (x : Int) (h1 : -9223372036854775808 ≤ x) (h2 : x ≤ 9223372036854775807) : IntKind.i64.wrap x = x := IntWalk.i64_in _ ⟨h1, h2⟩
def NameOk (s : ByteArray) : Prop := 1 ≤ s.size ∧ s.size ≤ 12 ∧ ¬ s.toList = [121] ∧ ¬ s.toList = [97, 110, 100] ∧ ¬ s.toList = [111, 114] ∧ ¬ s.toList = [110, 111, 116] ∧ AllIn 97 122 s
set_option maxHeartbeats 1000000 in
set_option maxRecDepth 100000 in
theorem isName_any (s : ByteArray) (w : World) (hs : s.size ≤ maxLen) :
  Calls Tryz.prog 153 #[.string s] w (Asks (NameOk s) w) := by
 unfold maxLen at hs
 by_cases h1 : s.size < 1
 ·have t1 : decide ((s.size : Int) < 1) = true := decide_eq_true (by omega)
  go_enter Tryz.func153, Tryz.ntmps153
  go_wp2_with fail
  go_ret
  exact Asks.no (fun h => by have := h.1; omega)
 have t1 : decide ((s.size : Int) < 1) = false := decide_eq_false (by omega)
 by_cases h2 : 12 < s.size
 ·have t2 : decide (12 < (s.size : Int)) = true := decide_eq_true (by omega)
  go_enter Tryz.func153, Tryz.ntmps153
  go_wp2_with fail
  go_ret
  exact Asks.no (fun h => by have := h.2.1; omega)
 have t2 : decide (12 < (s.size : Int)) = false := decide_eq_false (by omega)
 by_cases q0 : s.toList = [121]
 ·have b0 : (s.toList == [121]) = true := beq_iff_eq.2 q0
  have Q := Lib.hid q0
  clear q0
  go_enter Tryz.func153, Tryz.ntmps153
  go_wp2_with fail
  go_ret
  exact Asks.no (fun h => h.2.2.1 Q.out)
 have b0 : (s.toList == [121]) = false := beq_eq_false_iff_ne.2 q0
 by_cases q1 : s.toList = [97, 110, 100]
 ·have b1 : (s.toList == [97, 110, 100]) = true := beq_iff_eq.2 q1
  have Q := Lib.hid q1
  clear q1
  go_enter Tryz.func153, Tryz.ntmps153
  go_wp2_with fail
  go_ret
  exact Asks.no (fun h => h.2.2.2.1 Q.out)
 have b1 : (s.toList == [97, 110, 100]) = false := beq_eq_false_iff_ne.2 q1
 by_cases q2 : s.toList = [111, 114]
 ·have b2 : (s.toList == [111, 114]) = true := beq_iff_eq.2 q2
  have Q := Lib.hid q2
  clear q2
  go_enter Tryz.func153, Tryz.ntmps153
  go_wp2_with fail
  go_ret
  exact Asks.no (fun h => h.2.2.2.2.1 Q.out)
 have b2 : (s.toList == [111, 114]) = false := beq_eq_false_iff_ne.2 q2
 by_cases q3 : s.toList = [110, 111, 116]
 ·have b3 : (s.toList == [110, 111, 116]) = true := beq_iff_eq.2 q3
  have Q := Lib.hid q3
  clear q3
  go_enter Tryz.func153, Tryz.ntmps153
  go_wp2_with fail
  go_ret
  exact Asks.no (fun h => h.2.2.2.2.2.1 Q.out)
 have b3 : (s.toList == [110, 111, 116]) = false := beq_eq_false_iff_ne.2 q3
 have HQ := Lib.hid (And.intro q0 (And.intro q1 (And.intro q2 q3)))
 clear q0 q1 q2 q3
 go_enter Tryz.func153, Tryz.ntmps153
 go_wp2_with fail
 go_loop [3, 30] (fun _ i => ∃ k : Nat, k ≤ s.size ∧ i = .int .i64 k ∧ Hid (∀ j (h : j < s.size), j < k → 97 ≤ s[j].toNat ∧ s[j].toNat ≤ 122)) (fun _ i => s.size - (intOf i).toNat)
 case atStart => exact ⟨0, by omega, rfl, fun j h hj => by omega⟩
 case round =>
  obtain ⟨k, hk, rfl, hall⟩ := hrel
  by_cases hlt : k < s.size
  ·by_cases c1 : s[k].toNat < 97
   ·have d1 : decide ((s[k].toNat : Int) < 97) = true := decide_eq_true (by omega)
    go_wp2
    go_ret
    exact Asks.no (fun h => by have := h.2.2.2.2.2.2 k hlt; omega)
   ·have d1 : decide ((s[k].toNat : Int) < 97) = false := decide_eq_false (by omega)
    by_cases c2 : 122 < s[k].toNat
    ·have d2 : decide (122 < (s[k].toNat : Int)) = true := decide_eq_true (by omega)
     go_wp2
     go_ret
     exact Asks.no (fun h => by have := h.2.2.2.2.2.2 k hlt; omega)
    ·have d2 : decide (122 < (s[k].toNat : Int)) = false := decide_eq_false (by omega)
     go_wp2
     go_round
     case rel => exact ⟨k + 1, by omega, by go_num, fun j h hj => by
      by_cases hjk : j < k
      ·exact hall.out j h hjk
      ·obtain rfl : j = k := by omega
       omega⟩
     case measure => simp [intOf]; omega
  ·go_wp2
   go_ret
   exact Asks.yes ⟨by omega, by omega, HQ.out.1, HQ.out.2.1, HQ.out.2.2.1, HQ.out.2.2.2, fun j h => hall.out j h (by omega)⟩
end Go.Proofs.YtoemghiejfkpbaaGreatDoor
/- Contracts of package whole: Gcd, natural, inRange, invert. -/
namespace Go.Proofs.YtoemghiejfkpbaaGreatDoor
open Go.RowKit
set_option linter.unusedVariables false
end Go.Proofs.YtoemghiejfkpbaaGreatDoor
