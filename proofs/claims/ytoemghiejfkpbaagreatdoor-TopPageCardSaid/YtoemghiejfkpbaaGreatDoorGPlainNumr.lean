/- PlainNumr, PlainNumr2 -/
import Derived.KernelRfl
import Derived.Test.YtoemghiejfkpbaaGreatDoorGPlainItoa
import Derived.Test.YtoemghiejfkpbaaGreatDoorGMem
/- Numbers in thirteen scripts, as rows of code points; what is written is read. -/
namespace Go.Proofs.YtoemghiejfkpbaaGreatDoor
open Go.Lib
set_option linter.unusedVariables false
def zeroN : List Nat := [48, 1632, 1776, 2406, 2534, 3664, 3872, 6112, 65296]
def dec4 (n : Nat) : List Nat :=
 if n < 10 then [n] else if n < 100 then [n / 10, n % 10] else if n < 1000 then [n / 100, n / 10 % 10, n % 10] else [n / 1000, n / 100 % 10, n / 10 % 10, n % 10]
def romD (n o f t : Nat) : List Nat := if n = 9 then [o, t] else if 5 ≤ n then f :: List.replicate (n - 5) o else if n = 4 then [o, f] else List.replicate n o
def romR (n : Nat) : List Nat := List.replicate (n / 1000) 77 ++ romD (n / 100 % 10) 67 68 77 ++ romD (n / 10 % 10) 88 76 67 ++ romD (n % 10) 73 86 88
def grU : List Nat := [0x3b1, 0x3b2, 0x3b3, 0x3b4, 0x3b5, 0x3db, 0x3b6, 0x3b7, 0x3b8]
def grT : List Nat := [0x3b9, 0x3ba, 0x3bb, 0x3bc, 0x3bd, 0x3be, 0x3bf, 0x3c0, 0x3df]
def grH : List Nat := [0x3c1, 0x3c3, 0x3c4, 0x3c5, 0x3c6, 0x3c7, 0x3c8, 0x3c9, 0x3e1]
def heT : List Nat := [0x5d9, 0x5db, 0x5dc, 0x5de, 0x5e0, 0x5e1, 0x5e2, 0x5e4, 0x5e6]
def heH (n : Nat) : List Nat := if n ≤ 4 then [0x5e7 + n - 1] else if n ≤ 8 then [0x5ea, 0x5e7 + (n - 4) - 1] else [0x5ea, 0x5ea, 0x5e7]
def sgnR (sc pl n : Nat) : List Nat :=
 if n = 0 then [] else if sc = 10 then [(if pl = 0 then grU else if pl = 1 then grT else grH).getD (n - 1) 0]
 else if pl = 0 then [0x5d0 + n - 1] else if pl = 1 then [heT.getD (n - 1) 0] else heH n
def sgsR (sc n : Nat) : List Nat :=
 if sc = 11 ∧ (n % 100 = 15 ∨ n % 100 = 16) then sgnR sc 2 (n / 100) ++ sgnR sc 0 9 ++ sgnR sc 0 (n % 100 - 9)
 else sgnR sc 2 (n / 100) ++ sgnR sc 1 (n / 10 % 10) ++ sgnR sc 0 (n % 10)
def chL : List Nat := [0x3007, 0x4e00, 0x4e8c, 0x4e09, 0x56db, 0x4e94, 0x516d, 0x4e03, 0x516b, 0x4e5d]
def chD (n : Nat) : Nat := chL.getD n 0
def chF (n : Nat) (s : List Nat × Bool) (x : Nat × List Nat) : List Nat × Bool :=
 let d := n / x.1 % 10
 if d = 0 then (s.1, !s.1.isEmpty) else (s.1 ++ (if s.2 then [chD 0] else []) ++ chD d :: x.2, false)
def chPl : List (Nat × List Nat) := [(1000, [0x5343]), (100, [0x767e]), (10, [0x5341]), (1, [])]
def chR (n : Nat) : List Nat := if n = 0 then [chD 0] else (chPl.foldl (chF n) ([], false)).1
def wrR (sc n : Nat) : List Nat :=
 if sc < 9 then (dec4 n).map (fun d => zeroN.getD sc 0 + d) else if sc = 9 then romR n else if sc < 12 then sgsR sc n else chR n
def inR (sc n : Nat) : Bool := if sc < 9 then true else if sc = 9 then decide (1 ≤ n ∧ n ≤ 3999) else if sc < 12 then decide (1 ≤ n ∧ n ≤ 999) else decide (n ≤ 9999)
def romV (c : Nat) : Option Nat := if c = 73 then some 1 else if c = 86 then some 5 else if c = 88 then some 10 else if c = 76 then some 50 else if c = 67 then some 100 else if c = 68 then some 500 else if c = 77 then some 1000 else none
def sgV (sc c : Nat) : Option Nat := ((List.range 27).find? (fun i => sgnR sc (i / 9) (i % 9 + 1) == [c])).map (fun i => (i % 9 + 1) * 10 ^ (i / 9))
def chV (c : Nat) : Option Nat :=
 match (List.range 10).find? (fun n => chD n == c) with
 | some n => some n
 | none => if c = 0x5341 then some 10 else if c = 0x767e then some 100 else if c = 0x5343 then some 1000 else none
def valR (sc c : Nat) : Option Nat :=
 if sc < 9 then (if zeroN.getD sc 0 ≤ c ∧ c < zeroN.getD sc 0 + 10 then some (c - zeroN.getD sc 0) else none)
 else if sc = 9 then romV c else if sc < 12 then sgV sc c else chV c
def lenF (sc : Nat) (s : Option (Int × Int × Int)) (c : Nat) : Option (Int × Int × Int) :=
 match s with
 | none => none
 | some (t, l, d) => match valR sc c with
  | none => none
  | some v => if t > 1099511627776 then none else
   if sc = 9 then some ((if (v : Int) > l then t - 2 * l else t) + v, v, d)
   else if sc < 9 then some (t * 10 + v, l, d)
   else if sc < 12 then some (t + v, l, d)
   else if v < 10 then some (t + d, l, v) else some (t + d * v, l, 0)
def lenR (sc : Nat) (rs : List Nat) : Option Int :=
 match rs.foldl (lenF sc) (some (0, 0, 0)) with
 | none => none
 | some (t, l, d) => if rs.isEmpty then none else some (t + d)
theorem read_back : ∀ sc, sc < 13 → ∀ n, n < 1100 → inR sc n = true → lenR sc (wrR sc n) = some (n : Int) := by
 have h : ((List.range 13).all fun sc => (List.range 1100).all fun n => !inR sc n || lenR sc (wrR sc n) == some (n : Int)) = true := by kernel_rfl
 intro sc hs n hn hi
 rw [List.all_eq_true] at h
 have h1 := h sc (List.mem_range.2 hs)
 rw [List.all_eq_true] at h1
 have h2 := h1 n (List.mem_range.2 hn)
 simpa [hi] using h2
end Go.Proofs.YtoemghiejfkpbaaGreatDoor
/- What a script writes: code points of at most three bytes, few; equal texts, equal numbers. -/
namespace Go.Proofs.YtoemghiejfkpbaaGreatDoor
open Go.Lib
set_option linter.unusedVariables false
def bmpB (r : Nat) : Bool := decide (r < 55296) || (decide (57343 < r) && decide (r ≤ 65535))
theorem wr_ok : ∀ sc, sc < 13 → ∀ n, n < 1100 → (∀ r ∈ wrR sc n, Bmp r) ∧ (wrR sc n).length ≤ 100 := by
 have h : ((List.range 13).all fun sc => (List.range 1100).all fun n => (wrR sc n).all bmpB && decide ((wrR sc n).length ≤ 100)) = true := by kernel_rfl
 intro sc hs n hn
 rw [List.all_eq_true] at h
 have h1 := h sc (List.mem_range.2 hs)
 rw [List.all_eq_true] at h1
 have h2 := h1 n (List.mem_range.2 hn)
 rw [Bool.and_eq_true, List.all_eq_true, decide_eq_true_eq] at h2
 refine ⟨fun r hr => ?_, h2.2⟩
 have h3 := h2.1 r hr
 unfold bmpB at h3
 rw [Bool.or_eq_true, Bool.and_eq_true, decide_eq_true_eq, decide_eq_true_eq, decide_eq_true_eq] at h3
 exact h3
end Go.Proofs.YtoemghiejfkpbaaGreatDoor
