/- PlainRule, PlainLex -/
import Derived.Test.YtoemghiejfkpbaaGreatDoorGMem
import Derived.Test.YtoemghiejfkpbaaGreatDoorGPlainItoa
/- Plain words for rules: expressions as trees in memory, their check and their value. -/
namespace Go.Proofs.YtoemghiejfkpbaaGreatDoor
open Go.RowKit
set_option linter.unusedVariables false
inductive RE where
 | node (k n : Int) (A : Option Addr) (c : Nat) (ks : List RE)
def re0 : RE := .node 0 0 none 0 []
def reF : RE → List Value
 | .node k n A c ks => [.int .i64 k, .int .i64 n, .slice A ks.length c]
def reV : RE → Value
 | .node k n A c ks => .agg #[.int .i64 k, .int .i64 n, .slice A ks.length c]
theorem reF_len (a : RE) : (reF a).length = 3 := by cases a; rfl
def I64 (n : Int) : Prop := -9223372036854775808 ≤ n ∧ n ≤ 9223372036854775807
inductive ReIn (w : World) (B : Nat) : RE → Prop
 | mk {k n : Int} {A : Option Addr} {c : Nat} {ks : List RE} (hk : I64 k) (hn : I64 n) (hl : ks.length ≤ maxLen) (row : Row w B A (ks.flatMap reF)) (kids : ∀ x ∈ ks, ReIn w B x) : ReIn w B (.node k n A c ks)
theorem ReIn.next {w w' : World} {B B' : Nat} {t : RE} (h : ReIn w B t) (hb : Below B w w') (hB : B ≤ B') : ReIn w' B' t := by
 induction h with
 | mk hk hn hl row kids ih => exact .mk hk hn hl ((row.below hb).more hB) ih
def opsN (k : Int) : Nat := if k = 1 ∨ k = 2 then 0 else if k = 3 ∨ k = 11 then 1 else 2
structure ReNode (k n : Int) (len : Nat) : Prop where
 k0 : 1 ≤ k
 k1 : k ≤ 13
 len : len = opsN k
 n0 : 0 ≤ n
 n1 : n ≤ if k = 1 then 2147483647 else 0
inductive ReOk : RE → Prop
 | mk {k n : Int} {A : Option Addr} {c : Nat} {ks : List RE} (node : ReNode k n ks.length) (kids : ∀ x ∈ ks, ReOk x) : ReOk (.node k n A c ks)
mutual
def sz : RE → Nat
 | .node _ _ _ _ ks => szL ks + 1
def szL : List RE → Nat
 | [] => 0
 | x :: r => sz x + szL r
end
mutual
def ht : RE → Nat
 | .node _ _ _ _ ks => htL ks + 1
def htL : List RE → Nat
 | [] => 0
 | x :: r => max (ht x) (htL r)
end
def truthI (b : Bool) : Int := if b then 1 else 0
def applyR (k n y a b : Int) : Int × Int :=
 if k = 1 then (n, 0) else if k = 2 then (y, 0) else if k = 3 then (-a, 0) else if k = 4 then (a + b, 0) else if k = 5 then (a - b, 0) else if k = 6 then (a * b, 0)
 else if k = 7 then (if b = 0 then (0, 1) else (a.fdiv b, 0)) else if k = 8 then (if b = 0 then (0, 1) else (a.fmod b, 0))
 else if k = 9 then (truthI (decide (a < b)), 0) else if k = 10 then (truthI (a == b), 0) else if k = 11 then (truthI (a == 0), 0) else if k = 12 then (truthI (a != 0 && b != 0), 0) else (truthI (a != 0 || b != 0), 0)
def finR (p : Int × Int) : Int × Int := if p.2 = 0 then (if p.1 < -2147483647 ∨ 2147483647 < p.1 then (0, 14) else (p.1, 0)) else (0, p.2)
mutual
def evalR (y : Int) : RE → Int × Int
 | .node k n _ _ ks => if (evalL y ks).2 = 0 then finR (applyR k n y ((evalL y ks).1.getD 0 0) ((evalL y ks).1.getD 1 0)) else (0, (evalL y ks).2)
def evalL (y : Int) : List RE → List Int × Int
 | [] => ([], 0)
 | x :: r => if (evalR y x).2 = 0 then ((evalR y x).1 :: (evalL y r).1, (evalL y r).2) else ([], (evalR y x).2)
end
theorem finR_in (p : Int × Int) : -2147483647 ≤ (finR p).1 ∧ (finR p).1 ≤ 2147483647 := by
 unfold finR
 split
 ·split <;> simp <;> omega
 ·simp
theorem evalR_in (y : Int) (t : RE) : -2147483647 ≤ (evalR y t).1 ∧ (evalR y t).1 ≤ 2147483647 := by
 cases t
 unfold evalR
 split
 ·exact finR_in _
 ·simp
theorem evalL_ok (y : Int) (ks : List RE) (h : ∀ j, j < ks.length → (evalR y (ks.getD j re0)).2 = 0) : evalL y ks = (ks.map (fun x => (evalR y x).1), 0) := by
 induction ks with
 | nil => unfold evalL; rfl
 | cons x r ih =>
  have h0 := h 0 (by simp)
  have h1 := ih (fun j hj => by have := h (j + 1) (by simpa using hj); simpa using this)
  unfold evalL
  simp at h0
  rw [if_pos h0, h1]
  rfl
theorem evalL_err (y : Int) (ks : List RE) (i : Nat) (hi : i < ks.length) (h : ∀ j, j < i → (evalR y (ks.getD j re0)).2 = 0) (he : (evalR y (ks.getD i re0)).2 ≠ 0) : (evalL y ks).2 = (evalR y (ks.getD i re0)).2 := by
 induction ks generalizing i with
 | nil => simp at hi
 | cons x r ih =>
  cases i with
  | zero =>
   simp at he ⊢
   unfold evalL
   rw [if_neg he]
  | succ i =>
   have h0 := h 0 (by omega)
   have h1 := ih i (by simpa using hi) (fun j hj => by have := h (j + 1) (by omega); simpa using this) (by simpa using he)
   simp at h0
   unfold evalL
   rw [if_pos h0]
   simpa using h1
def vAt (y : Int) (ks : List RE) (k j : Nat) : Int := if j < k then (evalR y (ks.getD j re0)).1 else 0
theorem vAt_in (y : Int) (ks : List RE) (k j : Nat) : -2147483647 ≤ vAt y ks k j ∧ vAt y ks k j ≤ 2147483647 := by
 unfold vAt
 split
 ·exact evalR_in _ _
 ·omega
theorem map_getD (y : Int) (ks : List RE) (j : Nat) : (ks.map (fun x => (evalR y x).1)).getD j 0 = vAt y ks ks.length j := by
 unfold vAt
 by_cases h : j < ks.length
 ·simp [List.getD, h]
 ·simp [List.getD, h]
theorem evalR_ok (y k n : Int) (A : Option Addr) (c : Nat) (ks : List RE) (h : ∀ j, j < ks.length → (evalR y (ks.getD j re0)).2 = 0) : evalR y (.node k n A c ks) = finR (applyR k n y (vAt y ks ks.length 0) (vAt y ks ks.length 1)) := by
 rw [evalR, evalL_ok y ks h]
 rw [if_pos rfl, map_getD, map_getD]
theorem evalR_err (y k n : Int) (A : Option Addr) (c : Nat) (ks : List RE) (i : Nat) (hi : i < ks.length) (h : ∀ j, j < i → (evalR y (ks.getD j re0)).2 = 0) (he : (evalR y (ks.getD i re0)).2 ≠ 0) : evalR y (.node k n A c ks) = (0, (evalR y (ks.getD i re0)).2) := by
 rw [evalR, evalL_err y ks i hi h he, if_neg he]
theorem szL_take (ks : List RE) (k : Nat) (h : k < ks.length) : szL (ks.take (k + 1)) = szL (ks.take k) + sz (ks.getD k re0) := by
 induction ks generalizing k with
 | nil => simp at h
 | cons x r ih =>
  cases k with
  | zero => simp [szL]
  | succ k => simp only [List.take_succ_cons, szL]; rw [ih k (by simpa using h)]; simp; omega
theorem htL_take (ks : List RE) (k : Nat) (h : k < ks.length) : htL (ks.take (k + 1)) = max (htL (ks.take k)) (ht (ks.getD k re0)) := by
 induction ks generalizing k with
 | nil => simp at h
 | cons x r ih =>
  cases k with
  | zero => simp [htL]
  | succ k => simp only [List.take_succ_cons, htL]; rw [ih k (by simpa using h)]; simp
theorem szL_mono (ks : List RE) (k : Nat) : szL (ks.take k) ≤ szL ks := by
 induction ks generalizing k with
 | nil => simp
 | cons x r ih =>
  cases k with
  | zero => simp [szL]
  | succ k => simp only [List.take_succ_cons, szL]; have := ih k; omega
theorem htL_mono (ks : List RE) (k : Nat) : htL (ks.take k) ≤ htL ks := by
 induction ks generalizing k with
 | nil => simp
 | cons x r ih =>
  cases k with
  | zero => simp [htL]
  | succ k => simp only [List.take_succ_cons, htL]; have := ih k; omega
end Go.Proofs.YtoemghiejfkpbaaGreatDoor
/- Texts of rules: words of a line; expressions as words and as bytes. -/
namespace Go.Proofs.YtoemghiejfkpbaaGreatDoor
open Go.Lib
set_option linter.unusedVariables false
abbrev Tok := List UInt8
def isLow (b : UInt8) : Bool := decide (97 ≤ b.toNat) && decide (b.toNat ≤ 122)
def isDig (b : UInt8) : Bool := decide (48 ≤ b.toNat) && decide (b.toNat ≤ 57)
def sk (l : List UInt8) : List UInt8 := l.dropWhile (· == 32)
def tk (l : List UInt8) : Tok := if l.takeWhile isLow ≠ [] then l.takeWhile isLow else if l.takeWhile isDig ≠ [] then l.takeWhile isDig else l.take 1
def toksN : Nat → List UInt8 → List Tok
 | 0, _ => []
 | f + 1, l => if sk l = [] then [] else tk (sk l) :: toksN f ((sk l).drop (tk (sk l)).length)
def toks (l : List UInt8) : List Tok := toksN (l.length + 1) l
theorem sk_len (l : List UInt8) : (sk l).length ≤ l.length := by
 unfold sk
 induction l with
 | nil => simp
 | cons x l ih => rw [List.dropWhile_cons]; split <;> simp <;> omega
theorem tk_ne (l : List UInt8) (h : l ≠ []) : tk l ≠ [] := by
 unfold tk
 split
 ·assumption
 split
 ·assumption
 ·cases l with
  | nil => exact absurd rfl h
  | cons x l => simp
theorem takeWhile_pre (p : UInt8 → Bool) (l : List UInt8) : l.takeWhile p ++ l.drop (l.takeWhile p).length = l := by
 induction l with
 | nil => rfl
 | cons x l ih =>
  rw [List.takeWhile_cons]
  split
  ·simp [ih]
  ·simp
theorem tk_pre (l : List UInt8) : tk l ++ l.drop (tk l).length = l := by
 unfold tk
 split
 ·exact takeWhile_pre isLow l
 split
 ·exact takeWhile_pre isDig l
 ·cases l with
  | nil => rfl
  | cons x l => simp
theorem toksN_more : ∀ (f g : Nat) (l : List UInt8), l.length < f → l.length < g → toksN f l = toksN g l
 | 0, _, _, h, _ => by omega
 | _, 0, _, _, h => by omega
 | f + 1, g + 1, l, h1, h2 => by
  unfold toksN
  split
  ·rfl
  ·rename_i hs
   have hp := congrArg List.length (tk_pre (sk l))
   rw [List.length_append] at hp
   have ht : 0 < (tk (sk l)).length := List.length_pos_iff.2 (tk_ne _ hs)
   have := sk_len l
   rw [toksN_more f g _ (by omega) (by omega)]
theorem toks_nil (l : List UInt8) (h : sk l = []) : toks l = [] := by unfold toks toksN; rw [if_pos h]
theorem toks_cons (l : List UInt8) (h : sk l ≠ []) : toks l = tk (sk l) :: toks ((sk l).drop (tk (sk l)).length) := by
 unfold toks
 rw [toksN, if_neg h]
 have hp := congrArg List.length (tk_pre (sk l))
 rw [List.length_append] at hp
 have ht : 0 < (tk (sk l)).length := List.length_pos_iff.2 (tk_ne _ h)
 have := sk_len l
 rw [toksN_more _ (((sk l).drop (tk (sk l)).length).length + 1) _ (by omega) (by omega)]
theorem toks_sk (l : List UInt8) : toks (sk l) = toks l := by
 have hss : sk (sk l) = sk l := by
  unfold sk
  induction l with
  | nil => rfl
  | cons x l ih =>
   rw [List.dropWhile_cons]
   split
   ·exact ih
   ·rename_i h; rw [List.dropWhile_cons, if_neg h]
 by_cases h : sk l = []
 ·rw [toks_nil l h, h]; rfl
 ·rw [toks_cons l h, toks_cons (sk l) (by rw [hss]; exact h), hss]
theorem lx_sp (l : List UInt8) : toks (32 :: l) = toks l := by
 rw [← toks_sk (32 :: l), ← toks_sk l]
 rfl
def Bd (r : List UInt8) : Prop := ∀ b s, r = b :: s → isLow b = false ∧ isDig b = false
theorem bd_nil : Bd [] := fun b s h => by cases h
theorem bd_cons (b : UInt8) (s : List UInt8) (h1 : isLow b = false) (h2 : isDig b = false) : Bd (b :: s) := fun b' s' e => by injection e with e1 e2; subst e1; exact ⟨h1, h2⟩
theorem tw_app (p : UInt8 → Bool) (w r : List UInt8) (hw : ∀ b ∈ w, p b = true) (hr : ∀ b s, r = b :: s → p b = false) : (w ++ r).takeWhile p = w := by
 induction w with
 | nil =>
  cases r with
  | nil => rfl
  | cons b s => simp [hr b s rfl]
 | cons x w ih =>
  rw [List.cons_append, List.takeWhile_cons, if_pos (hw x (List.mem_cons_self ..)), ih fun b hb => hw b (List.mem_cons_of_mem _ hb)]
theorem sk_of (b : UInt8) (r : List UInt8) (h : (b == 32) = false) : sk (b :: r) = b :: r := by
 unfold sk
 rw [List.dropWhile_cons, if_neg (by rw [h]; simp)]
theorem lx_word (w r : List UInt8) (hw : ∀ b ∈ w, isLow b = true) (hne : w ≠ []) (hr : Bd r) : toks (w ++ r) = w :: toks r := by
 cases w with
 | nil => exact absurd rfl hne
 | cons x w =>
  have hx := hw x (List.mem_cons_self ..)
  have h32 : (x == 32) = false := by
   rw [beq_eq_false_iff_ne]; intro e; subst e; revert hx; decide
  have hs : sk (x :: w ++ r) = x :: w ++ r := sk_of x _ h32
  have ht : tk (x :: w ++ r) = x :: w := by
   unfold tk
   rw [tw_app isLow (x :: w) r hw fun b s e => (hr b s e).1, if_pos (by simp)]
  rw [toks_cons _ (by rw [hs]; simp), hs, ht]
  simp
theorem lx_num (w r : List UInt8) (hw : ∀ b ∈ w, isDig b = true) (hne : w ≠ []) (hr : Bd r) : toks (w ++ r) = w :: toks r := by
 cases w with
 | nil => exact absurd rfl hne
 | cons x w =>
  have hx := hw x (List.mem_cons_self ..)
  have h32 : (x == 32) = false := by
   rw [beq_eq_false_iff_ne]; intro e; subst e; revert hx; decide
  have hl : isLow x = false := by
   unfold isDig at hx; unfold isLow
   simp at hx ⊢
   omega
  have hs : sk (x :: w ++ r) = x :: w ++ r := sk_of x _ h32
  have ht : tk (x :: w ++ r) = x :: w := by
   unfold tk
   rw [if_neg (by simp [hl]), tw_app isDig (x :: w) r hw fun b s e => (hr b s e).2, if_pos (by simp)]
  rw [toks_cons _ (by rw [hs]; simp), hs, ht]
  simp
theorem lx_one (c : UInt8) (r : List UInt8) (h1 : isLow c = false) (h2 : isDig c = false) (h3 : (c == 32) = false) : toks (c :: r) = [c] :: toks r := by
 have hs : sk (c :: r) = c :: r := sk_of c _ h3
 have ht : tk (c :: r) = [c] := by
  unfold tk
  rw [if_neg (by simp [h1]), if_neg (by simp [h2])]
  rfl
 rw [toks_cons _ (by rw [hs]; simp), hs, ht]
 simp
def lev (k : Int) : Nat := if k = 13 then 0 else if k = 12 then 1 else if k = 11 then 2 else if k = 9 ∨ k = 10 then 3 else if k = 4 ∨ k = 5 then 4 else if k = 6 ∨ k = 7 ∨ k = 8 then 5 else if k = 3 then 6 else 7
def sgn (k : Int) : Tok := if k = 4 then [43] else if k = 5 then [45] else if k = 6 then [42] else if k = 7 then [47] else if k = 8 then [37] else if k = 9 then [60] else if k = 10 then [61] else if k = 12 then [97, 110, 100] else if k = 13 then [111, 114] else []
def fst (k : Int) : Nat := if lev k = 3 then 4 else lev k
def parT (least : Nat) (p : Int × List Tok) : List Tok := if lev p.1 < least then [40] :: (p.2 ++ [[41]]) else p.2
def parB (least : Nat) (p : Int × List UInt8) : List UInt8 := if lev p.1 < least then 40 :: (p.2 ++ [41]) else p.2
mutual
def prB : RE → List Tok
 | .node k n _ _ ks => if k = 1 then [itoa n] else if k = 2 then [[121]] else if k = 3 then [45] :: parT 6 ((prL ks).getD 0 (1, [])) else if k = 11 then [110, 111, 116] :: parT 2 ((prL ks).getD 0 (1, []))
  else parT (fst k) ((prL ks).getD 0 (1, [])) ++ sgn k :: parT (lev k + 1) ((prL ks).getD 1 (1, []))
def prL : List RE → List (Int × List Tok)
 | [] => []
 | .node k n A c ks :: r => (k, prB (.node k n A c ks)) :: prL r
end
mutual
def shB : RE → List UInt8
 | .node k n _ _ ks => if k = 1 then itoa n else if k = 2 then [121] else if k = 3 then 45 :: parB 6 ((shL ks).getD 0 (1, [])) else if k = 11 then [110, 111, 116, 32] ++ parB 2 ((shL ks).getD 0 (1, []))
  else parB (fst k) ((shL ks).getD 0 (1, [])) ++ 32 :: (sgn k ++ 32 :: parB (lev k + 1) ((shL ks).getD 1 (1, [])))
def shL : List RE → List (Int × List UInt8)
 | [] => []
 | .node k n A c ks :: r => (k, shB (.node k n A c ks)) :: shL r
end
def kd : RE → Int
 | .node k _ _ _ _ => k
theorem prL_get : ∀ (ks : List RE) (i : Nat), i < ks.length → (prL ks).getD i (1, []) = (kd (ks.getD i re0), prB (ks.getD i re0))
 | [], i, h => by simp at h
 | .node k n A c l :: r, 0, _ => by simp [prL, kd]
 | .node k n A c l :: r, i + 1, h => by
  have := prL_get r i (by simpa using h)
  simpa [prL] using this
theorem shL_get : ∀ (ks : List RE) (i : Nat), i < ks.length → (shL ks).getD i (1, []) = (kd (ks.getD i re0), shB (ks.getD i re0))
 | [], i, h => by simp at h
 | .node k n A c l :: r, 0, _ => by simp [shL, kd]
 | .node k n A c l :: r, i + 1, h => by
  have := shL_get r i (by simpa using h)
  simpa [shL] using this
def prT (least : Nat) (t : RE) : List Tok := parT least (kd t, prB t)
def shT (least : Nat) (t : RE) : List UInt8 := parB least (kd t, shB t)
theorem itoa_dig (n : Int) (h : 0 ≤ n) : ∀ b ∈ itoa n, isDig b = true := by
 intro b hb
 unfold itoa at hb
 rw [if_neg (by omega)] at hb
 have := dec_digit _ b hb
 unfold isDig
 simp
 omega
theorem lx_expr (t : RE) (hok : ReOk t) : ∀ r, Bd r → toks (shB t ++ r) = prB t ++ toks r := by
 induction hok with
 | @mk k n A c ks node kids ih =>
  intro r hr
  obtain ⟨k0, k1, hlen, n0, n1⟩ := node
  have hpar : ∀ (i least : Nat), i < ks.length → ∀ r, Bd r → toks (parB least ((shL ks).getD i (1, [])) ++ r) = parT least ((prL ks).getD i (1, [])) ++ toks r := by
   intro i least hi r hr
   rw [prL_get ks i hi, shL_get ks i hi]
   have hx := ih (ks.getD i re0) (getD_mem re0 ks i hi)
   unfold parB parT
   simp only
   split
   ·rw [List.cons_append, lx_one 40 _ (by decide) (by decide) (by decide), List.append_assoc, show ([41] ++ r : List UInt8) = 41 :: r from rfl, hx _ (bd_cons 41 _ (by decide) (by decide)), lx_one 41 _ (by decide) (by decide) (by decide)]
    simp
   ·exact hx r hr
  unfold prB shB
  by_cases h1 : k = 1
  ·rw [if_pos h1, if_pos h1]
   exact lx_num _ _ (itoa_dig n n0) (itoa_ne n) hr
  rw [if_neg h1, if_neg h1]
  by_cases h2 : k = 2
  ·rw [if_pos h2, if_pos h2]
   exact lx_word [121] r (by decide) (by simp) hr
  rw [if_neg h2, if_neg h2]
  by_cases h3 : k = 3
  ·rw [if_pos h3, if_pos h3, List.cons_append, lx_one 45 _ (by decide) (by decide) (by decide), hpar 0 6 (by rw [hlen, h3]; decide) r hr]
   rfl
  rw [if_neg h3, if_neg h3]
  by_cases h4 : k = 11
  ·rw [if_pos h4, if_pos h4, show ([110, 111, 116, 32] : List UInt8) ++ parB 2 ((shL ks).getD 0 (1, [])) ++ r = [110, 111, 116] ++ 32 :: (parB 2 ((shL ks).getD 0 (1, [])) ++ r) from by simp, lx_word _ _ (by decide) (by simp) (bd_cons 32 _ (by decide) (by decide)), lx_sp, hpar 0 2 (by rw [hlen, h4]; decide) r hr]
   rfl
  rw [if_neg h4, if_neg h4]
  have hl2 : ks.length = 2 := by rw [hlen]; unfold opsN; rw [if_neg (by omega), if_neg (by omega)]
  rw [List.append_assoc, List.cons_append, hpar 0 (fst k) (by omega) _ (bd_cons 32 _ (by decide) (by decide)), lx_sp, List.append_assoc]
  have hs : ∀ q, Bd (32 :: q) := fun q => bd_cons 32 _ (by decide) (by decide)
  have hsg : toks (sgn k ++ (32 :: parB (lev k + 1) ((shL ks).getD 1 (1, [])) ++ r)) = sgn k :: toks (32 :: parB (lev k + 1) ((shL ks).getD 1 (1, [])) ++ r) := by
   have : k = 4 ∨ k = 5 ∨ k = 6 ∨ k = 7 ∨ k = 8 ∨ k = 9 ∨ k = 10 ∨ k = 12 ∨ k = 13 := by omega
   rcases this with rfl | rfl | rfl | rfl | rfl | rfl | rfl | rfl | rfl
   all_goals first
    | exact lx_one _ _ (by decide) (by decide) (by decide)
    | exact lx_word _ _ (by decide) (by decide) (hs _)
  rw [hsg, List.cons_append, lx_sp, hpar 1 (lev k + 1) (by omega) r hr]
  simp
end Go.Proofs.YtoemghiejfkpbaaGreatDoor
