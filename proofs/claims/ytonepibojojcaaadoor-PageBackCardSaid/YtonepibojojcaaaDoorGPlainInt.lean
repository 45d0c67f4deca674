/- PlainInt, Whole1, Line1, Name1, Whole3 -/
import Derived.Test.YtonepibojojcaaaDoorGBase
import Derived.Test.YtonepibojojcaaaDoorGPlainNum
/- Plain arithmetic, no program in sight. -/
namespace Go.Proofs.YtonepibojojcaaaDoor
set_option linter.unusedVariables false
theorem fdiv_unique (a b q r : Int) (e : a = b * q + r) (h : (0 < b ∧ 0 ≤ r ∧ r < b) ∨ (b < 0 ∧ r ≤ 0 ∧ b < r)) : a.fdiv b = q ∧ a.fmod b = r := by
  have hq : a.fdiv b = q := by
    rcases h with ⟨hb, h1, h2⟩ | ⟨hb, h1, h2⟩
    · rw [Int.fdiv_eq_ediv_of_nonneg _ (by omega)]
      have := (Int.ediv_emod_unique (a := a) (r := r) (q := q) hb).2 ⟨by omega, h1, h2⟩
      exact this.1
    · rw [← Int.neg_fdiv_neg, Int.fdiv_eq_ediv_of_nonneg _ (by omega)]
      have := (Int.ediv_emod_unique (a := -a) (b := -b) (r := -r) (q := q) (by omega)).2 ⟨by rw [Int.neg_mul]; omega, by omega, by omega⟩
      exact this.1
  refine ⟨hq, ?_⟩
  have := Int.mul_fdiv_add_fmod a b
  rw [hq] at this
  omega
theorem tmod_facts (a b : Int) (hb : b ≠ 0) : a = b * a.tdiv b + a.tmod b ∧ (0 < a.tmod b → 0 < a) ∧ (a.tmod b < 0 → a < 0) ∧ (a.tmod b).natAbs < b.natAbs := by
  refine ⟨(Int.mul_tdiv_add_tmod a b).symm, ?_, ?_, ?_⟩
  · intro h
    by_cases ha : 0 < a
    · exact ha
    · have := Int.tmod_nonneg (a := -a) b (by omega)
      rw [Int.neg_tmod] at this; omega
  · intro h
    by_cases ha : a < 0
    · exact ha
    · have := Int.tmod_nonneg (a := a) b (by omega)
      omega
  · rw [Int.natAbs_tmod]
    exact Nat.mod_lt _ (by omega)
theorem div_same (a b : Int) (hb : b ≠ 0) (h : a.tmod b = 0 ∨ (a.tmod b < 0 ↔ b < 0)) : a.tdiv b = a.fdiv b ∧ a.tmod b = a.fmod b := by
  obtain ⟨h1, _, _, h4⟩ := tmod_facts a b hb
  have := fdiv_unique a b _ _ h1 (by omega)
  exact ⟨this.1.symm, this.2.symm⟩
theorem div_less (a b : Int) (hb : b ≠ 0) (h0 : a.tmod b ≠ 0) (h : ¬ (a.tmod b < 0 ↔ b < 0)) : a.tdiv b - 1 = a.fdiv b ∧ a.tmod b + b = a.fmod b := by
  obtain ⟨h1, _, _, h4⟩ := tmod_facts a b hb
  have := fdiv_unique a b (a.tdiv b - 1) (a.tmod b + b) (by rw [Int.mul_sub]; omega) (by omega)
  exact ⟨this.1.symm, this.2.symm⟩
theorem fdiv_pos (a b : Int) (hb : 0 < b) : a.fdiv b = a / b := Int.fdiv_eq_ediv_of_nonneg _ (by omega)
theorem fmod_pos (a b : Int) (hb : 0 < b) : a.fmod b = a % b := Int.fmod_eq_emod_of_nonneg _ (by omega)
theorem fmod_facts (a b : Int) (hb : b ≠ 0) : a.fdiv b * b + a.fmod b = a ∧ ((0 < b ∧ 0 ≤ a.fmod b ∧ a.fmod b < b) ∨ (b < 0 ∧ a.fmod b ≤ 0 ∧ b < a.fmod b)) ∧ (a.fdiv b).natAbs ≤ a.natAbs + 1 := by
  obtain ⟨h1, h2, h3, h4⟩ := tmod_facts a b hb
  have hm := Int.mul_fdiv_add_fmod a b
  have ht := Int.natAbs_tdiv_le_natAbs a b
  rw [Int.mul_comm] at hm
  refine ⟨hm, ?_⟩
  by_cases hz : a.tmod b = 0
  · obtain ⟨e1, e2⟩ := div_same a b hb (.inl hz)
    rw [← e1, ← e2]; clear h1 hm; omega
  · by_cases hs : (a.tmod b < 0 ↔ b < 0)
    · obtain ⟨e1, e2⟩ := div_same a b hb (.inr hs)
      rw [← e1, ← e2]; clear h1 hm; omega
    · obtain ⟨e1, e2⟩ := div_less a b hb hz hs
      rw [← e1, ← e2]; clear h1 hm; omega
theorem tmod_zero0 (y n : Int) : (y.tmod n = 0) ↔ (y % n = 0) := by
  rw [← Int.dvd_iff_tmod_eq_zero, Int.dvd_iff_emod_eq_zero]
end Go.Proofs.YtonepibojojcaaaDoor

/- Contracts of package whole: size, Div, Mod, Down, Up, Mul. -/
namespace Go.Proofs.YtonepibojojcaaaDoor
open Go.RowKit
set_option linter.unusedVariables false

theorem ret_int {k : IntKind} {a b : Int} (h : a = b) : Ending.returned (.int k a) = .returned (.int k b) := by rw [h]

theorem ret_int2 {k k' : IntKind} {a b a' b' : Int} (h : a = b) (h' : a' = b') : Ending.returned (.tuple #[.int k a, .int k' a']) = .returned (.tuple #[.int k b, .int k' b']) := by rw [h, h']
theorem ret_int3 {k k' k'' : IntKind} {a b a' b' a'' b'' : Int} (h : a = b) (h' : a' = b') (h'' : a'' = b'') : Ending.returned (.tuple #[.int k a, .int k' a', .int k'' a'']) = .returned (.tuple #[.int k b, .int k' b', .int k'' b'']) := by rw [h, h', h'']
theorem wf_bounds {a : Int} (h : (Lit.int .i64 a).wf = true) : -9223372036854775808 ≤ a ∧ a ≤ 9223372036854775807 := bounds_i64 h
theorem u64_neg (a : Int) (h1 : -9223372036854775808 ≤ a) (h : a < 0) : IntKind.u64.wrap (-IntKind.u64.wrap a) = (a.natAbs : Nat) := by
  simp only [IntKind.wrap_u64]; omega

theorem tdiv_bound (a b : Int) (h1 : -9223372036854775807 ≤ a) (h2 : a ≤ 9223372036854775807) : -9223372036854775807 ≤ a.tdiv b ∧ a.tdiv b ≤ 9223372036854775807 := by
  have h := Int.natAbs_tdiv_le_natAbs a b
  omega

end Go.Proofs.YtonepibojojcaaaDoor

/- Contracts of the laws' own mod and cut, and of package line: Is, Check, weekday, Weekday, Nth, Cycle, Instant, Split, IsInstant. -/
namespace Go.Proofs.YtonepibojojcaaaDoor
open Go.RowKit
set_option linter.unusedVariables false

theorem tmod_add_emod (a n : Int) (h : 1 ≤ n) : (a.tmod n + n) % n = a % n := by
  have h1 := Int.mul_tdiv_add_tmod a n
  rw [Int.add_emod_right]
  have : a.tmod n = a - n * a.tdiv n := by omega
  rw [this, Int.sub_mul_emod_self_left]

theorem lawmod_any (a n : Int) (w : World) (h1 : 1 ≤ n) (h2 : n ≤ 1000000000000000) :
    Calls Tryd.prog 21 #[.int .i64 a, .int .i64 n] w fun e w' => e = .returned (.int .i64 (a % n)) ∧ w = w' := by
  have ht := (tmod_facts a n (by omega)).2.2.2
  have e1 := tmod_add_emod a n h1
  have E := Lib.hid e1
  clear e1
  have b1 : 0 ≤ a.tmod n + n := by omega
  have b2 : a.tmod n + n ≤ 9223372036854775807 := by omega
  have b3 : ¬ n = 0 := by omega
  go_enter Tryd.func21, Tryd.ntmps21
  go_wp2
  go_ret
  exact ⟨ret_int E.out, rfl⟩

theorem cut_any (x low n : Int) (w : World) (h1 : 1 ≤ n) (h2 : n ≤ 1000000000000000) (h3 : -1000000000000000 ≤ low) (h4 : low ≤ 1000000000000000) :
    Calls Tryd.prog 6 #[.int .i64 x, .int .i64 low, .int .i64 n] w fun e w' => e = .returned (.int .i64 (low + x % n)) ∧ w = w' := by
  have b1 := Int.emod_nonneg x (show n ≠ 0 by omega)
  have b2 := Int.emod_lt_of_pos x (show 0 < n by omega)
  go_enter Tryd.func6, Tryd.ntmps6
  go_wp2_with (go_at_call 21; refine (lawmod_any _ _ _ (by omega) (by omega)).mono ?_; rintro e w' ⟨rfl, rfl⟩)
  go_ret
  exact ⟨rfl, rfl⟩

end Go.Proofs.YtonepibojojcaaaDoor

/- Contracts of rule.IsName, zone.IsLabel, zone.IsOffset, line.IsInstant. -/
namespace Go.Proofs.YtonepibojojcaaaDoor
open Go.RowKit
set_option linter.unusedVariables false

/-- What a question says: true just if P; the world is as it was. -/
def Asks (P : Prop) (w : World) (e : Ending) (w' : World) : Prop := ∃ b : Bool, e = .returned (.bool b) ∧ (b = true ↔ P) ∧ w = w'
theorem Asks.yes {P : Prop} {w : World} (h : P) : Asks P w (.returned (.bool true)) w := ⟨true, rfl, ⟨fun _ => h, fun _ => rfl⟩, rfl⟩
theorem Asks.no {P : Prop} {w : World} (h : ¬ P) : Asks P w (.returned (.bool false)) w := ⟨false, rfl, ⟨(fun e => by cases e), fun p => absurd p h⟩, rfl⟩

/-- every byte is in a range -/
def AllIn (lo hi : Nat) (s : ByteArray) : Prop := ∀ k (h : k < s.size), lo ≤ s[k].toNat ∧ s[k].toNat ≤ hi
/-- an error code: 0 just if P -/
def Errs (P : Prop) (w : World) (e : Ending) (w' : World) : Prop := ∃ E : Int, e = .returned (.int .i64 E) ∧ (E = 0 ↔ P) ∧ Below w.heap.size w w'
theorem Errs.ok {P : Prop} {w w' : World} (h : P) (hb : Below w.heap.size w w') : Errs P w (.returned (.int .i64 0)) w' := ⟨0, rfl, ⟨fun _ => h, fun _ => rfl⟩, hb⟩
theorem Errs.no {P : Prop} {w w' : World} {E : Int} (hE : E ≠ 0) (h : ¬ P) (hb : Below w.heap.size w w') : Errs P w (.returned (.int .i64 E)) w' := ⟨E, rfl, ⟨fun e => absurd e hE, fun p => absurd p h⟩, hb⟩
/-- as Errs, and the world is as it was but for draws -/
def ErrsQ (P : Prop) (w : World) (e : Ending) (w' : World) : Prop := ∃ E : Int, e = .returned (.int .i64 E) ∧ (E = 0 ↔ P) ∧ ∃ n, w' = w.drewN n
theorem intFits (x : Int) (h1 : -9223372036854775808 ≤ x) (h2 : x ≤ 9223372036854775807) : IntKind.i64.wrap x = x := IntWalk.i64_in _ ⟨h1, h2⟩
def NameOk (s : ByteArray) : Prop := 1 ≤ s.size ∧ s.size ≤ 12 ∧ ¬ s.toList = [121] ∧ ¬ s.toList = [97, 110, 100] ∧ ¬ s.toList = [111, 114] ∧ ¬ s.toList = [110, 111, 116] ∧ AllIn 97 122 s
def LabelOk (s : ByteArray) : Prop := AllIn 65 90 s ∧ 1 ≤ s.size ∧ s.size ≤ 6

/-- an offset of a zone -/
def OffOk (n : Int) : Prop := n % 1000 = 0 ∧ -64800000 ≤ n ∧ n ≤ 64800000
/-- an instant -/
def InstOk (t : Int) : Prop := -345600000000000 ≤ t ∧ t < 345600086400000
end Go.Proofs.YtonepibojojcaaaDoor

/- Contracts of package whole: Gcd, natural, inRange, invert. -/
namespace Go.Proofs.YtonepibojojcaaaDoor
open Go.RowKit
set_option linter.unusedVariables false

theorem tmod_nat (x y : Nat) : (x : Int).tmod (y : Int) = ((x % y : Nat) : Int) := by
  rw [Int.tmod_eq_emod_of_nonneg (by omega), Int.natCast_emod]

end Go.Proofs.YtonepibojojcaaaDoor
