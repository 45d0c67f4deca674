/- PlainRule -/
import Derived.Test.YtcommodbjjdbmaaGreatDoorGListArg
/- Plain words for rules: expressions as trees in memory, their check and their value. -/
namespace Go.Proofs.YtcommodbjjdbmaaGreatDoor
open Go.RowKit
set_option linter.unusedVariables false

/-- an expression: its kind, its number, where its operands lie, the operands -/
inductive RE where
  | node (k n : Int) (A : Option Addr) (c : Nat) (ks : List RE)
def re0 : RE := .node 0 0 none 0 []
def reF : RE → List Value
  | .node k n A c ks => [.int .i64 k, .int .i64 n, .slice A ks.length c]
def reV : RE → Value
  | .node k n A c ks => .agg #[.int .i64 k, .int .i64 n, .slice A ks.length c]
theorem reF_len (a : RE) : (reF a).length = 3 := by cases a; rfl
def I64 (n : Int) : Prop := -9223372036854775808 ≤ n ∧ n ≤ 9223372036854775807
/-- the expression lies in memory below block B -/
inductive ReIn (w : World) (B : Nat) : RE → Prop
  | mk {k n : Int} {A : Option Addr} {c : Nat} {ks : List RE} (hk : I64 k) (hn : I64 n) (hl : ks.length ≤ maxLen) (row : Row w B A (ks.flatMap reF)) (kids : ∀ x ∈ ks, ReIn w B x) : ReIn w B (.node k n A c ks)
theorem ReIn.next {w w' : World} {B B' : Nat} {t : RE} (h : ReIn w B t) (hb : Below B w w') (hB : B ≤ B') : ReIn w' B' t := by
  induction h with
  | mk hk hn hl row kids ih => exact .mk hk hn hl ((row.below hb).more hB) ih
/-- how many operands a kind has -/
def opsN (k : Int) : Nat := if k = 1 ∨ k = 2 then 0 else if k = 3 ∨ k = 11 then 1 else 2
/-- the form of one node -/
structure ReNode (k n : Int) (len : Nat) : Prop where
  k0 : 1 ≤ k
  k1 : k ≤ 13
  len : len = opsN k
  n0 : 0 ≤ n
  n1 : n ≤ if k = 1 then 2147483647 else 0
/-- the form of an expression -/
inductive ReOk : RE → Prop
  | mk {k n : Int} {A : Option Addr} {c : Nat} {ks : List RE} (node : ReNode k n ks.length) (kids : ∀ x ∈ ks, ReOk x) : ReOk (.node k n A c ks)
mutual
/-- how many nodes -/
def sz : RE → Nat
  | .node _ _ _ _ ks => szL ks + 1
def szL : List RE → Nat
  | [] => 0
  | x :: r => sz x + szL r
end
mutual
/-- how many levels -/
def ht : RE → Nat
  | .node _ _ _ _ ks => htL ks + 1
def htL : List RE → Nat
  | [] => 0
  | x :: r => max (ht x) (htL r)
end
def truthI (b : Bool) : Int := if b then 1 else 0
/-- the value of a node with the values of its operands -/
def applyR (k n y a b : Int) : Int × Int :=
  if k = 1 then (n, 0) else if k = 2 then (y, 0) else if k = 3 then (-a, 0) else if k = 4 then (a + b, 0) else if k = 5 then (a - b, 0) else if k = 6 then (a * b, 0)
  else if k = 7 then (if b = 0 then (0, 1) else (a.fdiv b, 0)) else if k = 8 then (if b = 0 then (0, 1) else (a.fmod b, 0))
  else if k = 9 then (truthI (decide (a < b)), 0) else if k = 10 then (truthI (a == b), 0) else if k = 11 then (truthI (a == 0), 0) else if k = 12 then (truthI (a != 0 && b != 0), 0) else (truthI (a != 0 || b != 0), 0)
def finR (p : Int × Int) : Int × Int := if p.2 = 0 then (if p.1 < -2147483647 ∨ 2147483647 < p.1 then (0, 14) else (p.1, 0)) else (0, p.2)
mutual
/-- the value of an expression, and an error -/
def evalR (y : Int) : RE → Int × Int
  | .node k n _ _ ks => if (evalL y ks).2 = 0 then finR (applyR k n y ((evalL y ks).1.getD 0 0) ((evalL y ks).1.getD 1 0)) else (0, (evalL y ks).2)
def evalL (y : Int) : List RE → List Int × Int
  | [] => ([], 0)
  | x :: r => if (evalR y x).2 = 0 then ((evalR y x).1 :: (evalL y r).1, (evalL y r).2) else ([], (evalR y x).2)
end
theorem finR_in (p : Int × Int) : -2147483647 ≤ (finR p).1 ∧ (finR p).1 ≤ 2147483647 := by
  unfold finR
  split
  · split <;> simp <;> omega
  · simp
theorem evalR_in (y : Int) (t : RE) : -2147483647 ≤ (evalR y t).1 ∧ (evalR y t).1 ≤ 2147483647 := by
  cases t
  unfold evalR
  split
  · exact finR_in _
  · simp
theorem evalL_ok (y : Int) (ks : List RE) (h : ∀ j, j < ks.length → (evalR y (ks.getD j re0)).2 = 0) : evalL y ks = (ks.map (fun x => (evalR y x).1), 0) := by
  induction ks with
  | nil => unfold evalL; rfl
  | cons x r ih =>
    have h0 := h 0 (by simp)
    have h1 := ih (fun j hj => by have := h (j + 1) (by simpa using hj); simpa using this)
    unfold evalL
    simp at h0
    rw [if_pos h0, h1]
    rfl
theorem evalL_err (y : Int) (ks : List RE) (i : Nat) (hi : i < ks.length) (h : ∀ j, j < i → (evalR y (ks.getD j re0)).2 = 0) (he : (evalR y (ks.getD i re0)).2 ≠ 0) : (evalL y ks).2 = (evalR y (ks.getD i re0)).2 := by
  induction ks generalizing i with
  | nil => simp at hi
  | cons x r ih =>
    cases i with
    | zero =>
      simp at he ⊢
      unfold evalL
      rw [if_neg he]
    | succ i =>
      have h0 := h 0 (by omega)
      have h1 := ih i (by simpa using hi) (fun j hj => by have := h (j + 1) (by omega); simpa using this) (by simpa using he)
      simp at h0
      unfold evalL
      rw [if_pos h0]
      simpa using h1
/-- the values so far -/
def vAt (y : Int) (ks : List RE) (k j : Nat) : Int := if j < k then (evalR y (ks.getD j re0)).1 else 0
theorem vAt_in (y : Int) (ks : List RE) (k j : Nat) : -2147483647 ≤ vAt y ks k j ∧ vAt y ks k j ≤ 2147483647 := by
  unfold vAt
  split
  · exact evalR_in _ _
  · omega
theorem map_getD (y : Int) (ks : List RE) (j : Nat) : (ks.map (fun x => (evalR y x).1)).getD j 0 = vAt y ks ks.length j := by
  unfold vAt
  by_cases h : j < ks.length
  · simp [List.getD, h]
  · simp [List.getD, h]
theorem evalR_ok (y k n : Int) (A : Option Addr) (c : Nat) (ks : List RE) (h : ∀ j, j < ks.length → (evalR y (ks.getD j re0)).2 = 0) : evalR y (.node k n A c ks) = finR (applyR k n y (vAt y ks ks.length 0) (vAt y ks ks.length 1)) := by
  rw [evalR, evalL_ok y ks h]
  rw [if_pos rfl, map_getD, map_getD]
theorem evalR_err (y k n : Int) (A : Option Addr) (c : Nat) (ks : List RE) (i : Nat) (hi : i < ks.length) (h : ∀ j, j < i → (evalR y (ks.getD j re0)).2 = 0) (he : (evalR y (ks.getD i re0)).2 ≠ 0) : evalR y (.node k n A c ks) = (0, (evalR y (ks.getD i re0)).2) := by
  rw [evalR, evalL_err y ks i hi h he, if_neg he]
theorem szL_take (ks : List RE) (k : Nat) (h : k < ks.length) : szL (ks.take (k + 1)) = szL (ks.take k) + sz (ks.getD k re0) := by
  induction ks generalizing k with
  | nil => simp at h
  | cons x r ih =>
    cases k with
    | zero => simp [szL]
    | succ k => simp only [List.take_succ_cons, szL]; rw [ih k (by simpa using h)]; simp; omega
theorem htL_take (ks : List RE) (k : Nat) (h : k < ks.length) : htL (ks.take (k + 1)) = max (htL (ks.take k)) (ht (ks.getD k re0)) := by
  induction ks generalizing k with
  | nil => simp at h
  | cons x r ih =>
    cases k with
    | zero => simp [htL]
    | succ k => simp only [List.take_succ_cons, htL]; rw [ih k (by simpa using h)]; simp
theorem szL_mono (ks : List RE) (k : Nat) : szL (ks.take k) ≤ szL ks := by
  induction ks generalizing k with
  | nil => simp
  | cons x r ih =>
    cases k with
    | zero => simp [szL]
    | succ k => simp only [List.take_succ_cons, szL]; have := ih k; omega
theorem htL_mono (ks : List RE) (k : Nat) : htL (ks.take k) ≤ htL ks := by
  induction ks generalizing k with
  | nil => simp
  | cons x r ih =>
    cases k with
    | zero => simp [htL]
    | succ k => simp only [List.take_succ_cons, htL]; have := ih k; omega
end Go.Proofs.YtcommodbjjdbmaaGreatDoor
