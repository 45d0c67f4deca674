/- PlainItoa, PlainLex, PlainParse -/
import Derived.Lib.ItoaLen
import Derived.Lib.AtoiTie
import Derived.Lib.IndexMore
import Derived.Test.YtabidjmmgnkhkaaGreatDoorGListArg
/- Numerals: what is written is read. -/
namespace Go.Proofs.YtabidjmmgnkhkaaGreatDoor
open Go.Lib
set_option linter.unusedVariables false
theorem decFrom_append : ∀ (l r : List UInt8) (acc : Nat), decFrom acc (l ++ r) = (decFrom acc l).bind (fun m => decFrom m r)
 | [], r, acc => rfl
 | b :: l, r, acc => by
  simp only [List.cons_append, decFrom]
  cases digitVal b with
  | none => rfl
  | some d => exact decFrom_append l r _
theorem digit_byte (d : Nat) (h : d < 10) : (UInt8.ofNat (48 + d)).toNat = 48 + d := by
 rw [UInt8.toNat_ofNat']
 omega
theorem digitVal_byte (d : Nat) (h : d < 10) : digitVal (UInt8.ofNat (48 + d)) = some d := by
 unfold digitVal
 rw [digit_byte d h, if_pos (by omega)]
 simp
theorem decFrom_dec : ∀ (u : Nat), decFrom 0 (decDigits u) = some u := by
 intro u
 induction u using Nat.strongRecOn with
 | _ u ih =>
  by_cases h : u < 10
  ·rw [decDigits, dif_pos h]
   simp only [decFrom, digitVal_byte u h]
   simp
  ·rw [decDigits, dif_neg h, decFrom_append, ih (u / 10) (by omega)]
   simp only [Option.bind_some, decFrom, digitVal_byte (u % 10) (by omega)]
   congr 1
   omega
theorem dec_ne (u : Nat) : decDigits u ≠ [] := fun e => by
 have := decDigits_length u
 rw [e] at this
 have := nDigits_pos u
 simp at *
 omega
theorem dec_digit (u : Nat) : ∀ b ∈ decDigits u, 48 ≤ b.toNat ∧ b.toNat ≤ 57 := by
 induction u using Nat.strongRecOn with
 | _ u ih =>
  intro b hb
  rw [decDigits] at hb
  split at hb
  ·rename_i h
   obtain rfl := List.mem_singleton.1 hb
   rw [digit_byte u h]; omega
  ·rename_i h
   rcases List.mem_append.1 hb with hb | hb
   ·exact ih (u / 10) (by omega) b hb
   ·obtain rfl := List.mem_singleton.1 hb
    rw [digit_byte _ (by omega)]; omega
theorem itoa_byte (n : Int) : ∀ b ∈ itoa n, b.toNat = 45 ∨ (48 ≤ b.toNat ∧ b.toNat ≤ 57) := by
 intro b hb
 unfold itoa at hb
 split at hb
 ·rcases List.mem_cons.1 hb with rfl | hb
  ·exact .inl rfl
  ·exact .inr (dec_digit _ b hb)
 ·exact .inr (dec_digit _ b hb)
theorem itoa_ne (n : Int) : itoa n ≠ [] := by
 unfold itoa
 split
 ·simp
 ·exact dec_ne _
theorem atoi_itoa (n : Int) : atoi (itoa n) = some n := by
 unfold itoa
 split
 ·rename_i h
  unfold atoi
  simp only [beq_self_eq_true, if_true]
  rw [decNat, if_neg (by simpa using dec_ne _), decFrom_dec]
  simp
  omega
 ·rename_i h
  have h1 := dec_ne n.toNat
  have h2 := dec_digit n.toNat
  have h3 := decFrom_dec n.toNat
  generalize decDigits n.toNat = l at *
  cases l with
  | nil => exact absurd rfl h1
  | cons b r =>
   have hb := h2 b (List.mem_cons_self ..)
   unfold atoi
   have e1 : (b == 45) = false := by
    rw [beq_eq_false_iff_ne]; rintro rfl; simp at hb
   have e2 : (b == 43) = false := by
    rw [beq_eq_false_iff_ne]; rintro rfl; simp at hb
   simp only [e1, e2, Bool.false_eq_true, if_false]
   rw [decNat, if_neg (by simp), h3]
   simp
   omega
theorem itoa_len (n : Int) (k : Nat) (h : n.natAbs < 10 ^ k) (hk : 1 ≤ k) : (itoa n).length ≤ k + 1 := by
 have hd : ∀ u : Nat, u < 10 ^ k → (decDigits u).length ≤ k := fun u hu => by
  rw [decDigits_length]
  rcases Nat.lt_or_ge k (nDigits u) with hlt | hge
  ·exfalso
   have key : ∀ (u m : Nat), m < nDigits u → 1 ≤ m → 10 ^ m ≤ u := by
    intro u
    induction u using Nat.strongRecOn with
    | _ u ih =>
     intro m hm h1
     by_cases h : u < 10
     ·rw [nDigits_small h] at hm; omega
     ·rw [nDigits_big h] at hm
      obtain ⟨m', rfl⟩ : ∃ m', m = m' + 1 := ⟨m - 1, by omega⟩
      rw [Nat.pow_succ]
      by_cases h0 : m' = 0
      ·subst h0; omega
      ·have := ih (u / 10) (by omega) m' (by omega) (by omega)
       omega
   have := key u k hlt hk
   omega
  ·exact hge
 unfold itoa
 split
 ·have := hd n.natAbs h
  simp; omega
 ·have := hd n.toNat (by omega)
  omega
theorem index_no (c : UInt8) : ∀ (l : List UInt8), (∀ b ∈ l, b ≠ c) → index l [c] = -1
 | [], _ => rfl
 | b :: l, h => by
  have hb : (c == b) = false := by rw [beq_eq_false_iff_ne]; exact fun e => h b (List.mem_cons_self ..) e.symm
  have ih := index_no c l fun x hx => h x (List.mem_cons_of_mem _ hx)
  simp [index, List.isPrefixOf, hb, ih]
theorem index_at (c : UInt8) (r : List UInt8) : ∀ (l : List UInt8), (∀ b ∈ l, b ≠ c) → index (l ++ c :: r) [c] = (l.length : Int)
 | [], _ => by simp [index, List.isPrefixOf]
 | b :: l, h => by
  have hb : (c == b) = false := by rw [beq_eq_false_iff_ne]; exact fun e => h b (List.mem_cons_self ..) e.symm
  have ih := index_at c r l fun x hx => h x (List.mem_cons_of_mem _ hx)
  have hne : ¬ ((l.length : Int) = -1) := by omega
  simp [index, List.isPrefixOf, hb, ih, hne]
theorem cut_at (c : UInt8) (l r : List UInt8) (h : ∀ b ∈ l, b ≠ c) : cut (l ++ c :: r) [c] = (l, r, true) := by
 unfold cut
 rw [index_at c r l h, if_pos (by omega)]
 simp
theorem itoa_no (n : Int) (c : UInt8) (h : c.toNat < 45 ∨ c.toNat = 46 ∨ c.toNat = 47 ∨ 57 < c.toNat) : ∀ b ∈ itoa n, b ≠ c := fun b hb e => by
 have := itoa_byte n b hb
 subst e
 omega
end Go.Proofs.YtabidjmmgnkhkaaGreatDoor
/- Texts of rules: words of a line; expressions as words and as bytes. -/
namespace Go.Proofs.YtabidjmmgnkhkaaGreatDoor
open Go.Lib
set_option linter.unusedVariables false
abbrev Tok := List UInt8
def isLow (b : UInt8) : Bool := decide (97 ≤ b.toNat) && decide (b.toNat ≤ 122)
def isDig (b : UInt8) : Bool := decide (48 ≤ b.toNat) && decide (b.toNat ≤ 57)
def sk (l : List UInt8) : List UInt8 := l.dropWhile (· == 32)
def tk (l : List UInt8) : Tok := if l.takeWhile isLow ≠ [] then l.takeWhile isLow else if l.takeWhile isDig ≠ [] then l.takeWhile isDig else l.take 1
def toksN : Nat → List UInt8 → List Tok
 | 0, _ => []
 | f + 1, l => if sk l = [] then [] else tk (sk l) :: toksN f ((sk l).drop (tk (sk l)).length)
def toks (l : List UInt8) : List Tok := toksN (l.length + 1) l
theorem sk_len (l : List UInt8) : (sk l).length ≤ l.length := by
 unfold sk
 induction l with
 | nil => simp
 | cons x l ih => rw [List.dropWhile_cons]; split <;> simp <;> omega
theorem tk_ne (l : List UInt8) (h : l ≠ []) : tk l ≠ [] := by
 unfold tk
 split
 ·assumption
 split
 ·assumption
 ·cases l with
  | nil => exact absurd rfl h
  | cons x l => simp
theorem takeWhile_pre (p : UInt8 → Bool) (l : List UInt8) : l.takeWhile p ++ l.drop (l.takeWhile p).length = l := by
 induction l with
 | nil => rfl
 | cons x l ih =>
  rw [List.takeWhile_cons]
  split
  ·simp [ih]
  ·simp
theorem tk_pre (l : List UInt8) : tk l ++ l.drop (tk l).length = l := by
 unfold tk
 split
 ·exact takeWhile_pre isLow l
 split
 ·exact takeWhile_pre isDig l
 ·cases l with
  | nil => rfl
  | cons x l => simp
theorem toksN_more : ∀ (f g : Nat) (l : List UInt8), l.length < f → l.length < g → toksN f l = toksN g l
 | 0, _, _, h, _ => by omega
 | _, 0, _, _, h => by omega
 | f + 1, g + 1, l, h1, h2 => by
  unfold toksN
  split
  ·rfl
  ·rename_i hs
   have hp := congrArg List.length (tk_pre (sk l))
   rw [List.length_append] at hp
   have ht : 0 < (tk (sk l)).length := List.length_pos_iff.2 (tk_ne _ hs)
   have := sk_len l
   rw [toksN_more f g _ (by omega) (by omega)]
theorem toks_nil (l : List UInt8) (h : sk l = []) : toks l = [] := by unfold toks toksN; rw [if_pos h]
theorem toks_cons (l : List UInt8) (h : sk l ≠ []) : toks l = tk (sk l) :: toks ((sk l).drop (tk (sk l)).length) := by
 unfold toks
 rw [toksN, if_neg h]
 have hp := congrArg List.length (tk_pre (sk l))
 rw [List.length_append] at hp
 have ht : 0 < (tk (sk l)).length := List.length_pos_iff.2 (tk_ne _ h)
 have := sk_len l
 rw [toksN_more _ (((sk l).drop (tk (sk l)).length).length + 1) _ (by omega) (by omega)]
theorem toks_sk (l : List UInt8) : toks (sk l) = toks l := by
 have hss : sk (sk l) = sk l := by
  unfold sk
  induction l with
  | nil => rfl
  | cons x l ih =>
   rw [List.dropWhile_cons]
   split
   ·exact ih
   ·rename_i h; rw [List.dropWhile_cons, if_neg h]
 by_cases h : sk l = []
 ·rw [toks_nil l h, h]; rfl
 ·rw [toks_cons l h, toks_cons (sk l) (by rw [hss]; exact h), hss]
theorem lx_sp (l : List UInt8) : toks (32 :: l) = toks l := by
 rw [← toks_sk (32 :: l), ← toks_sk l]
 rfl
def Bd (r : List UInt8) : Prop := ∀ b s, r = b :: s → isLow b = false ∧ isDig b = false
theorem bd_nil : Bd [] := fun b s h => by cases h
theorem bd_cons (b : UInt8) (s : List UInt8) (h1 : isLow b = false) (h2 : isDig b = false) : Bd (b :: s) := fun b' s' e => by injection e with e1 e2; subst e1; exact ⟨h1, h2⟩
theorem tw_app (p : UInt8 → Bool) (w r : List UInt8) (hw : ∀ b ∈ w, p b = true) (hr : ∀ b s, r = b :: s → p b = false) : (w ++ r).takeWhile p = w := by
 induction w with
 | nil =>
  cases r with
  | nil => rfl
  | cons b s => simp [hr b s rfl]
 | cons x w ih =>
  rw [List.cons_append, List.takeWhile_cons, if_pos (hw x (List.mem_cons_self ..)), ih fun b hb => hw b (List.mem_cons_of_mem _ hb)]
theorem sk_of (b : UInt8) (r : List UInt8) (h : (b == 32) = false) : sk (b :: r) = b :: r := by
 unfold sk
 rw [List.dropWhile_cons, if_neg (by rw [h]; simp)]
theorem lx_word (w r : List UInt8) (hw : ∀ b ∈ w, isLow b = true) (hne : w ≠ []) (hr : Bd r) : toks (w ++ r) = w :: toks r := by
 cases w with
 | nil => exact absurd rfl hne
 | cons x w =>
  have hx := hw x (List.mem_cons_self ..)
  have h32 : (x == 32) = false := by
   rw [beq_eq_false_iff_ne]; intro e; subst e; revert hx; decide
  have hs : sk (x :: w ++ r) = x :: w ++ r := sk_of x _ h32
  have ht : tk (x :: w ++ r) = x :: w := by
   unfold tk
   rw [tw_app isLow (x :: w) r hw fun b s e => (hr b s e).1, if_pos (by simp)]
  rw [toks_cons _ (by rw [hs]; simp), hs, ht]
  simp
theorem lx_num (w r : List UInt8) (hw : ∀ b ∈ w, isDig b = true) (hne : w ≠ []) (hr : Bd r) : toks (w ++ r) = w :: toks r := by
 cases w with
 | nil => exact absurd rfl hne
 | cons x w =>
  have hx := hw x (List.mem_cons_self ..)
  have h32 : (x == 32) = false := by
   rw [beq_eq_false_iff_ne]; intro e; subst e; revert hx; decide
  have hl : isLow x = false := by
   unfold isDig at hx; unfold isLow
   simp at hx ⊢
   omega
  have hs : sk (x :: w ++ r) = x :: w ++ r := sk_of x _ h32
  have ht : tk (x :: w ++ r) = x :: w := by
   unfold tk
   rw [if_neg (by simp [hl]), tw_app isDig (x :: w) r hw fun b s e => (hr b s e).2, if_pos (by simp)]
  rw [toks_cons _ (by rw [hs]; simp), hs, ht]
  simp
theorem lx_one (c : UInt8) (r : List UInt8) (h1 : isLow c = false) (h2 : isDig c = false) (h3 : (c == 32) = false) : toks (c :: r) = [c] :: toks r := by
 have hs : sk (c :: r) = c :: r := sk_of c _ h3
 have ht : tk (c :: r) = [c] := by
  unfold tk
  rw [if_neg (by simp [h1]), if_neg (by simp [h2])]
  rfl
 rw [toks_cons _ (by rw [hs]; simp), hs, ht]
 simp
def lev (k : Int) : Nat := if k = 13 then 0 else if k = 12 then 1 else if k = 11 then 2 else if k = 9 ∨ k = 10 then 3 else if k = 4 ∨ k = 5 then 4 else if k = 6 ∨ k = 7 ∨ k = 8 then 5 else if k = 3 then 6 else 7
def sgn (k : Int) : Tok := if k = 4 then [43] else if k = 5 then [45] else if k = 6 then [42] else if k = 7 then [47] else if k = 8 then [37] else if k = 9 then [60] else if k = 10 then [61] else if k = 12 then [97, 110, 100] else if k = 13 then [111, 114] else []
def fst (k : Int) : Nat := if lev k = 3 then 4 else lev k
def parT (least : Nat) (p : Int × List Tok) : List Tok := if lev p.1 < least then [40] :: (p.2 ++ [[41]]) else p.2
def parB (least : Nat) (p : Int × List UInt8) : List UInt8 := if lev p.1 < least then 40 :: (p.2 ++ [41]) else p.2
mutual
def prB : RE → List Tok
 | .node k n _ _ ks => if k = 1 then [itoa n] else if k = 2 then [[121]] else if k = 3 then [45] :: parT 6 ((prL ks).getD 0 (1, [])) else if k = 11 then [110, 111, 116] :: parT 2 ((prL ks).getD 0 (1, []))
  else parT (fst k) ((prL ks).getD 0 (1, [])) ++ sgn k :: parT (lev k + 1) ((prL ks).getD 1 (1, []))
def prL : List RE → List (Int × List Tok)
 | [] => []
 | .node k n A c ks :: r => (k, prB (.node k n A c ks)) :: prL r
end
mutual
def shB : RE → List UInt8
 | .node k n _ _ ks => if k = 1 then itoa n else if k = 2 then [121] else if k = 3 then 45 :: parB 6 ((shL ks).getD 0 (1, [])) else if k = 11 then [110, 111, 116, 32] ++ parB 2 ((shL ks).getD 0 (1, []))
  else parB (fst k) ((shL ks).getD 0 (1, [])) ++ 32 :: (sgn k ++ 32 :: parB (lev k + 1) ((shL ks).getD 1 (1, [])))
def shL : List RE → List (Int × List UInt8)
 | [] => []
 | .node k n A c ks :: r => (k, shB (.node k n A c ks)) :: shL r
end
def kd : RE → Int
 | .node k _ _ _ _ => k
theorem prL_get : ∀ (ks : List RE) (i : Nat), i < ks.length → (prL ks).getD i (1, []) = (kd (ks.getD i re0), prB (ks.getD i re0))
 | [], i, h => by simp at h
 | .node k n A c l :: r, 0, _ => by simp [prL, kd]
 | .node k n A c l :: r, i + 1, h => by
  have := prL_get r i (by simpa using h)
  simpa [prL] using this
theorem shL_get : ∀ (ks : List RE) (i : Nat), i < ks.length → (shL ks).getD i (1, []) = (kd (ks.getD i re0), shB (ks.getD i re0))
 | [], i, h => by simp at h
 | .node k n A c l :: r, 0, _ => by simp [shL, kd]
 | .node k n A c l :: r, i + 1, h => by
  have := shL_get r i (by simpa using h)
  simpa [shL] using this
def prT (least : Nat) (t : RE) : List Tok := parT least (kd t, prB t)
def shT (least : Nat) (t : RE) : List UInt8 := parB least (kd t, shB t)
theorem itoa_dig (n : Int) (h : 0 ≤ n) : ∀ b ∈ itoa n, isDig b = true := by
 intro b hb
 unfold itoa at hb
 rw [if_neg (by omega)] at hb
 have := dec_digit _ b hb
 unfold isDig
 simp
 omega
theorem lx_expr (t : RE) (hok : ReOk t) : ∀ r, Bd r → toks (shB t ++ r) = prB t ++ toks r := by
 induction hok with
 | @mk k n A c ks node kids ih =>
  intro r hr
  obtain ⟨k0, k1, hlen, n0, n1⟩ := node
  have hpar : ∀ (i least : Nat), i < ks.length → ∀ r, Bd r → toks (parB least ((shL ks).getD i (1, [])) ++ r) = parT least ((prL ks).getD i (1, [])) ++ toks r := by
   intro i least hi r hr
   rw [prL_get ks i hi, shL_get ks i hi]
   have hx := ih (ks.getD i re0) (getD_mem re0 ks i hi)
   unfold parB parT
   simp only
   split
   ·rw [List.cons_append, lx_one 40 _ (by decide) (by decide) (by decide), List.append_assoc, show ([41] ++ r : List UInt8) = 41 :: r from rfl, hx _ (bd_cons 41 _ (by decide) (by decide)), lx_one 41 _ (by decide) (by decide) (by decide)]
    simp
   ·exact hx r hr
  unfold prB shB
  by_cases h1 : k = 1
  ·rw [if_pos h1, if_pos h1]
   exact lx_num _ _ (itoa_dig n n0) (itoa_ne n) hr
  rw [if_neg h1, if_neg h1]
  by_cases h2 : k = 2
  ·rw [if_pos h2, if_pos h2]
   exact lx_word [121] r (by decide) (by simp) hr
  rw [if_neg h2, if_neg h2]
  by_cases h3 : k = 3
  ·rw [if_pos h3, if_pos h3, List.cons_append, lx_one 45 _ (by decide) (by decide) (by decide), hpar 0 6 (by rw [hlen, h3]; decide) r hr]
   rfl
  rw [if_neg h3, if_neg h3]
  by_cases h4 : k = 11
  ·rw [if_pos h4, if_pos h4, show ([110, 111, 116, 32] : List UInt8) ++ parB 2 ((shL ks).getD 0 (1, [])) ++ r = [110, 111, 116] ++ 32 :: (parB 2 ((shL ks).getD 0 (1, [])) ++ r) from by simp, lx_word _ _ (by decide) (by simp) (bd_cons 32 _ (by decide) (by decide)), lx_sp, hpar 0 2 (by rw [hlen, h4]; decide) r hr]
   rfl
  rw [if_neg h4, if_neg h4]
  have hl2 : ks.length = 2 := by rw [hlen]; unfold opsN; rw [if_neg (by omega), if_neg (by omega)]
  rw [List.append_assoc, List.cons_append, hpar 0 (fst k) (by omega) _ (bd_cons 32 _ (by decide) (by decide)), lx_sp, List.append_assoc]
  have hs : ∀ q, Bd (32 :: q) := fun q => bd_cons 32 _ (by decide) (by decide)
  have hsg : toks (sgn k ++ (32 :: parB (lev k + 1) ((shL ks).getD 1 (1, [])) ++ r)) = sgn k :: toks (32 :: parB (lev k + 1) ((shL ks).getD 1 (1, [])) ++ r) := by
   have : k = 4 ∨ k = 5 ∨ k = 6 ∨ k = 7 ∨ k = 8 ∨ k = 9 ∨ k = 10 ∨ k = 12 ∨ k = 13 := by omega
   rcases this with rfl | rfl | rfl | rfl | rfl | rfl | rfl | rfl | rfl
   all_goals first
    | exact lx_one _ _ (by decide) (by decide) (by decide)
    | exact lx_word _ _ (by decide) (by decide) (hs _)
  rw [hsg, List.cons_append, lx_sp, hpar 1 (lev k + 1) (by omega) r hr]
  simp
end Go.Proofs.YtabidjmmgnkhkaaGreatDoor
/- Reading expressions, in plain words: shapes, chains of operators, what may follow. -/
namespace Go.Proofs.YtabidjmmgnkhkaaGreatDoor
open Go.Lib
set_option linter.unusedVariables false
mutual
def strip : RE → RE
 | .node k n _ _ ks => .node k n none 0 (stripL ks)
def stripL : List RE → List RE
 | [] => []
 | x :: r => strip x :: stripL r
end
theorem stripL_map : ∀ ks : List RE, stripL ks = ks.map strip
 | [] => rfl
 | x :: r => by rw [stripL, stripL_map r]; rfl
theorem strip_node (k n : Int) (A : Option Addr) (c : Nat) (ks : List RE) : strip (.node k n A c ks) = .node k n none 0 (ks.map strip) := by rw [strip, stripL_map]
theorem strip_kd (t : RE) : kd (strip t) = kd t := by cases t; rw [strip_node]; rfl
theorem strip_ok {t : RE} (h : ReOk t) : ReOk (strip t) := by
 induction h with
 | mk node kids ih =>
  rw [strip_node]
  exact .mk (by rw [List.length_map]; exact node) fun x hx => by
   obtain ⟨y, hy, rfl⟩ := List.mem_map.1 hx
   exact ih y hy
theorem ok_strip : ∀ {s : RE}, ReOk s → ∀ {t : RE}, strip t = s → ReOk t := by
 intro s h
 induction h with
 | mk node kids ih =>
  intro t ht
  cases t with
  | node k n A c ks =>
   rw [strip_node] at ht
   injection ht with e1 e2 e3 e4 e5
   subst e1 e2 e5
   exact .mk (by rw [List.length_map] at node; exact node) fun x hx => ih (strip x) (List.mem_map_of_mem hx) rfl
def Same (t u : RE) : Prop := strip t = strip u
theorem Same.refl (t : RE) : Same t t := rfl
theorem same_node (k n : Int) (A B : Option Addr) (c d : Nat) (ks ls : List RE) (h : ks.map strip = ls.map strip) : Same (.node k n A c ks) (.node k n B d ls) := by
 unfold Same; rw [strip_node, strip_node, h]
def isBin (k : Int) : Prop := (4 ≤ k ∧ k ≤ 10) ∨ k = 12 ∨ k = 13
theorem sgn_inj (k j : Int) (hk : isBin k) (hj : isBin j) (h : sgn k = sgn j) : k = j := by
 have h1 : k = 4 ∨ k = 5 ∨ k = 6 ∨ k = 7 ∨ k = 8 ∨ k = 9 ∨ k = 10 ∨ k = 12 ∨ k = 13 := by unfold isBin at hk; omega
 have h2 : j = 4 ∨ j = 5 ∨ j = 6 ∨ j = 7 ∨ j = 8 ∨ j = 9 ∨ j = 10 ∨ j = 12 ∨ j = 13 := by unfold isBin at hj; omega
 rcases h1 with rfl | rfl | rfl | rfl | rfl | rfl | rfl | rfl | rfl <;> rcases h2 with rfl | rfl | rfl | rfl | rfl | rfl | rfl | rfl | rfl <;> first | rfl | (revert h; decide)
theorem sgn_ne (k : Int) (hk : isBin k) : sgn k ≠ [] := by
 have h1 : k = 4 ∨ k = 5 ∨ k = 6 ∨ k = 7 ∨ k = 8 ∨ k = 9 ∨ k = 10 ∨ k = 12 ∨ k = 13 := by unfold isBin at hk; omega
 rcases h1 with rfl | rfl | rfl | rfl | rfl | rfl | rfl | rfl | rfl <;> decide
def Good (L : Nat) (ts : List Tok) : Prop := ∀ k, isBin k → ts.head? = some (sgn k) → lev k < L
theorem Good.more {L M : Nat} {ts : List Tok} (h : Good L ts) (hm : L ≤ M) : Good M ts := fun k hk e => by have := h k hk e; omega
theorem good_sgn (k : Int) (hk : isBin k) (L : Nat) (hL : lev k = L) (ts : List Tok) : Good (L + 1) (sgn k :: ts) := fun j hj e => by
 have : sgn k = sgn j := by simpa using e
 rw [← sgn_inj k j hk hj this, hL]
 omega
theorem good_close (L : Nat) (ts : List Tok) : Good L ([41] :: ts) := fun k hk e => by
 have h : ([41] : Tok) = sgn k := by simpa using e
 have h1 : k = 4 ∨ k = 5 ∨ k = 6 ∨ k = 7 ∨ k = 8 ∨ k = 9 ∨ k = 10 ∨ k = 12 ∨ k = 13 := by unfold isBin at hk; omega
 rcases h1 with rfl | rfl | rfl | rfl | rfl | rfl | rfl | rfl | rfl <;> exact absurd h (by decide)
theorem good_nil (L : Nat) : Good L [] := fun k hk e => by cases e
def flatP (L : Nat) (ps : List (Int × RE)) : List Tok := ps.flatMap fun p => sgn p.1 :: prT (L + 1) p.2
def chainS (x : RE) (ps : List (Int × RE)) : RE := ps.foldl (fun acc p => .node p.1 0 none 0 [acc, strip p.2]) x
theorem chainS_snoc (x : RE) (ps : List (Int × RE)) (p : Int × RE) : chainS x (ps ++ [p]) = .node p.1 0 none 0 [chainS x ps, strip p.2] := by simp [chainS]
structure Chain (L : Nat) (t x : RE) (ps : List (Int × RE)) : Prop where
 words : prT L t = prT (L + 1) x ++ flatP L ps
 okx : ReOk x
 okp : ∀ p ∈ ps, isBin p.1 ∧ lev p.1 = L ∧ ReOk p.2
 shape : chainS (strip x) ps = strip t
 one : L = 3 → ps.length ≤ 1
 hx : (ps = [] ∧ x = t ∧ lev (kd t) ≠ L) ∨ (ht x < ht t ∧ lev (kd t) = L)
 hp : ∀ p ∈ ps, ht p.2 < ht t
theorem prT_up (L : Nat) (t : RE) (h : lev (kd t) ≠ L) : prT L t = prT (L + 1) t := by
 unfold prT parT
 simp only
 by_cases h1 : lev (kd t) < L
 ·rw [if_pos h1, if_pos (by omega)]
 ·rw [if_neg h1, if_neg (by omega)]
theorem chain_self (L : Nat) (t : RE) (hok : ReOk t) (h : lev (kd t) ≠ L) : Chain L t t [] where
 words := by rw [prT_up L t h]; simp [flatP]
 okx := hok
 okp := fun p hp => by cases hp
 shape := rfl
 one := fun _ => by simp
 hx := .inl ⟨rfl, rfl, h⟩
 hp := fun p hp => by cases hp
theorem htL_mem : ∀ (ks : List RE) (x : RE), x ∈ ks → ht x ≤ htL ks
 | [], x, h => by cases h
 | y :: r, x, h => by
  rw [htL]
  rcases List.mem_cons.1 h with rfl | h
  ·omega
  ·have := htL_mem r x h; omega
theorem ht_kid (k n : Int) (A : Option Addr) (c : Nat) (ks : List RE) (x : RE) (h : x ∈ ks) : ht x < ht (.node k n A c ks) := by
 have := htL_mem ks x h
 rw [ht]
 omega
theorem isBin_of {k : Int} (h0 : 1 ≤ k) (h1 : k ≤ 13) (L : Nat) (hl : lev k = L) (hL : L = 0 ∨ L = 1 ∨ L = 3 ∨ L = 4 ∨ L = 5) : isBin k := by
 have : k = 1 ∨ k = 2 ∨ k = 3 ∨ k = 4 ∨ k = 5 ∨ k = 6 ∨ k = 7 ∨ k = 8 ∨ k = 9 ∨ k = 10 ∨ k = 11 ∨ k = 12 ∨ k = 13 := by omega
 unfold isBin
 rcases this with rfl | rfl | rfl | rfl | rfl | rfl | rfl | rfl | rfl | rfl | rfl | rfl | rfl <;> first | omega | (exfalso; revert hl; unfold lev; simp; omega)
theorem prB_bin (k n : Int) (A : Option Addr) (c : Nat) (a b : RE) (hk : isBin k) : prB (.node k n A c [a, b]) = prT (fst k) a ++ sgn k :: prT (lev k + 1) b := by
 have h := hk
 unfold isBin at h
 have e0 := prL_get [a, b] 0 (by simp)
 have e1 := prL_get [a, b] 1 (by simp)
 simp only [List.getD_cons_zero, List.getD_cons_succ] at e0 e1
 rw [prB, if_neg (by omega), if_neg (by omega), if_neg (by omega), if_neg (by omega), e0, e1]
 rfl
theorem chain_of (L : Nat) (hL : L = 0 ∨ L = 1 ∨ L = 3 ∨ L = 4 ∨ L = 5) (t : RE) (hok : ReOk t) : ∃ x ps, Chain L t x ps := by
 induction hok with
 | @mk k n A c ks node kids ih =>
  by_cases hl : lev k = L
  case neg => exact ⟨_, [], chain_self L _ (.mk node kids) hl⟩
  have hb := isBin_of node.k0 node.k1 L hl hL
  have hk := hb
  unfold isBin at hk
  have hlen : ks.length = 2 := by rw [node.len]; unfold opsN; rw [if_neg (by omega), if_neg (by omega)]
  obtain ⟨a, b, rfl⟩ : ∃ a b, ks = [a, b] := by
   match ks, hlen with
   | [a, b], _ => exact ⟨a, b, rfl⟩
  have hn0 : n = 0 := by have h1 := node.n0; have h2 := node.n1; rw [if_neg (by omega)] at h2; omega
  have hword : prT L (.node k n A c [a, b]) = prT (fst k) a ++ sgn k :: prT (L + 1) b := by
   unfold prT parT
   simp only
   rw [if_neg (by show ¬ lev k < L; omega), prB_bin k n A c a b hb, hl]
   rfl
  have hsh : ∀ s, s = strip a → (RE.node k 0 none 0 [s, strip b]) = strip (.node k n A c [a, b]) := fun s e => by rw [strip_node, e, hn0]; rfl
  have hta := ht_kid k n A c [a, b] a (by simp)
  have htb := ht_kid k n A c [a, b] b (by simp)
  by_cases h3 : L = 3
  ·refine ⟨a, [(k, b)], ?_, kids a (by simp), fun p hp => ?_, hsh _ rfl, fun _ => by simp, .inr ⟨hta, hl⟩, fun p hp => ?_⟩
   ·rw [hword]
    unfold fst
    rw [if_pos (by omega), h3]
    simp [flatP]
   ·obtain rfl := List.mem_singleton.1 hp; exact ⟨hb, hl, kids b (by simp)⟩
   ·obtain rfl := List.mem_singleton.1 hp; exact htb
  ·obtain ⟨x, ps, C⟩ := ih a (by simp)
   refine ⟨x, ps ++ [(k, b)], ?_, C.okx, fun p hp => ?_, ?_, fun h => absurd h h3, .inr ⟨by rcases C.hx with ⟨_, e, _⟩ | ⟨e, _⟩; (rw [e]; exact hta); omega, hl⟩, fun p hp => ?_⟩
   ·rw [hword]
    unfold fst
    rw [if_neg (by omega), hl, C.words]
    simp [flatP]
   ·rcases List.mem_append.1 hp with h | h
    ·exact C.okp p h
    ·obtain rfl := List.mem_singleton.1 h; exact ⟨hb, hl, kids b (by simp)⟩
   ·rw [chainS_snoc, C.shape]
    exact hsh _ rfl
   ·rcases List.mem_append.1 hp with h | h
    ·have := C.hp p h; omega
    ·obtain rfl := List.mem_singleton.1 h; exact htb
theorem prB_ne (t : RE) (hok : ReOk t) : prB t ≠ [] := by
 cases hok with
 | @mk k n A c ks node kids =>
  unfold prB
  repeat' split
  all_goals simp
theorem prT_ne (L : Nat) (t : RE) (hok : ReOk t) : 0 < (prT L t).length := by
 unfold prT parT
 simp only
 split
 ·simp
 ·exact List.length_pos_iff.2 (prB_ne t hok)
def nd (L : Nat) (t : RE) : Nat := if lev (kd t) < L then ht t else ht t - 1
theorem ht_pos (t : RE) : 1 ≤ ht t := by cases t; rw [ht]; omega
theorem nd_le (L : Nat) (t : RE) : nd L t ≤ ht t := by unfold nd; split <;> omega
theorem first_word (t : RE) (hok : ReOk t) : ∀ L, 3 ≤ L → ∃ c r, prT L t = c :: r ∧ c ≠ [110, 111, 116] ∧ (L = 7 → c ≠ [45]) := by
 induction hok with
 | @mk k n A c ks node kids ih =>
  intro L hL
  by_cases hp : lev k < L
  ·refine ⟨[40], prB (.node k n A c ks) ++ [[41]], ?_, by decide, fun _ => by decide⟩
   unfold prT parT
   simp only
   rw [if_pos (show lev (kd (RE.node k n A c ks)) < L from hp)]
  ·have hpr : prT L (.node k n A c ks) = prB (.node k n A c ks) := by
    unfold prT parT
    simp only
    rw [if_neg (show ¬ lev (kd (RE.node k n A c ks)) < L from hp)]
   rw [hpr]
   have hl3 : 3 ≤ lev k := by omega
   have hkk : k = 1 ∨ k = 2 ∨ k = 3 ∨ k = 4 ∨ k = 5 ∨ k = 6 ∨ k = 7 ∨ k = 8 ∨ k = 9 ∨ k = 10 ∨ k = 11 ∨ k = 12 ∨ k = 13 := by have := node.k0; have := node.k1; omega
   by_cases h1 : k = 1
   ·refine ⟨itoa n, [], by unfold prB; rw [if_pos h1], ?_, fun _ => ?_⟩
    ·intro e
     have := itoa_dig n node.n0 110 (by rw [e]; exact List.mem_cons_self ..)
     exact absurd this (by decide)
    ·intro e
     have := itoa_dig n node.n0 45 (by rw [e]; exact List.mem_cons_self ..)
     exact absurd this (by decide)
   by_cases h2 : k = 2
   ·exact ⟨[121], [], by unfold prB; rw [if_neg h1, if_pos h2], by decide, fun _ => by decide⟩
   by_cases h3 : k = 3
   ·subst h3
    exact ⟨[45], _, by unfold prB; rw [if_neg h1, if_neg h2, if_pos rfl], by decide, fun h => absurd hl3 (by intro; exact hp (by rw [h]; decide))⟩
   have hb : isBin k := by
    unfold isBin
    rcases hkk with rfl | rfl | rfl | rfl | rfl | rfl | rfl | rfl | rfl | rfl | rfl | rfl | rfl <;> first | omega | exact absurd hl3 (by decide)
   have hkb := hb
   unfold isBin at hkb
   have hlen : ks.length = 2 := by rw [node.len]; unfold opsN; rw [if_neg (by omega), if_neg (by omega)]
   obtain ⟨a, b, rfl⟩ : ∃ a b, ks = [a, b] := by
    match ks, hlen with
    | [a, b], _ => exact ⟨a, b, rfl⟩
   have hl5 : lev k ≤ 5 := by
    rcases hkk with rfl | rfl | rfl | rfl | rfl | rfl | rfl | rfl | rfl | rfl | rfl | rfl | rfl <;> first | decide | omega
   obtain ⟨c', r', e, hc, _⟩ := ih a (by simp) (fst k) (by unfold fst; split <;> omega)
   refine ⟨c', r' ++ sgn k :: prT (lev k + 1) b, by rw [prB_bin k n A c a b hb, e]; rfl, hc, fun h => by omega⟩
end Go.Proofs.YtabidjmmgnkhkaaGreatDoor
