/- PlainParse -/
import Derived.Test.YtoemghiejfkpbaaGreatDoorGPlainRule
/- Reading expressions, in plain words: shapes, chains of operators, what may follow. -/
namespace Go.Proofs.YtoemghiejfkpbaaGreatDoor
open Go.Lib
set_option linter.unusedVariables false
mutual
def strip : RE → RE
 | .node k n _ _ ks => .node k n none 0 (stripL ks)
def stripL : List RE → List RE
 | [] => []
 | x :: r => strip x :: stripL r
end
theorem stripL_map : ∀ ks : List RE, stripL ks = ks.map strip
 | [] => rfl
 | x :: r => by rw [stripL, stripL_map r]; rfl
theorem strip_node (k n : Int) (A : Option Addr) (c : Nat) (ks : List RE) : strip (.node k n A c ks) = .node k n none 0 (ks.map strip) := by rw [strip, stripL_map]
theorem strip_kd (t : RE) : kd (strip t) = kd t := by cases t; rw [strip_node]; rfl
theorem strip_ok {t : RE} (h : ReOk t) : ReOk (strip t) := by
 induction h with
 | mk node kids ih =>
  rw [strip_node]
  exact .mk (by rw [List.length_map]; exact node) fun x hx => by
   obtain ⟨y, hy, rfl⟩ := List.mem_map.1 hx
   exact ih y hy
theorem ok_strip : ∀ {s : RE}, ReOk s → ∀ {t : RE}, strip t = s → ReOk t := by
 intro s h
 induction h with
 | mk node kids ih =>
  intro t ht
  cases t with
  | node k n A c ks =>
   rw [strip_node] at ht
   injection ht with e1 e2 e3 e4 e5
   subst e1 e2 e5
   exact .mk (by rw [List.length_map] at node; exact node) fun x hx => ih (strip x) (List.mem_map_of_mem hx) rfl
def Same (t u : RE) : Prop := strip t = strip u
theorem Same.refl (t : RE) : Same t t := rfl
theorem same_node (k n : Int) (A B : Option Addr) (c d : Nat) (ks ls : List RE) (h : ks.map strip = ls.map strip) : Same (.node k n A c ks) (.node k n B d ls) := by
 unfold Same; rw [strip_node, strip_node, h]
def isBin (k : Int) : Prop := (4 ≤ k ∧ k ≤ 10) ∨ k = 12 ∨ k = 13
theorem sgn_inj (k j : Int) (hk : isBin k) (hj : isBin j) (h : sgn k = sgn j) : k = j := by
 have h1 : k = 4 ∨ k = 5 ∨ k = 6 ∨ k = 7 ∨ k = 8 ∨ k = 9 ∨ k = 10 ∨ k = 12 ∨ k = 13 := by unfold isBin at hk; omega
 have h2 : j = 4 ∨ j = 5 ∨ j = 6 ∨ j = 7 ∨ j = 8 ∨ j = 9 ∨ j = 10 ∨ j = 12 ∨ j = 13 := by unfold isBin at hj; omega
 rcases h1 with rfl | rfl | rfl | rfl | rfl | rfl | rfl | rfl | rfl <;> rcases h2 with rfl | rfl | rfl | rfl | rfl | rfl | rfl | rfl | rfl <;> first | rfl | (revert h; decide)
theorem sgn_ne (k : Int) (hk : isBin k) : sgn k ≠ [] := by
 have h1 : k = 4 ∨ k = 5 ∨ k = 6 ∨ k = 7 ∨ k = 8 ∨ k = 9 ∨ k = 10 ∨ k = 12 ∨ k = 13 := by unfold isBin at hk; omega
 rcases h1 with rfl | rfl | rfl | rfl | rfl | rfl | rfl | rfl | rfl <;> decide
def Good (L : Nat) (ts : List Tok) : Prop := ∀ k, isBin k → ts.head? = some (sgn k) → lev k < L
theorem Good.more {L M : Nat} {ts : List Tok} (h : Good L ts) (hm : L ≤ M) : Good M ts := fun k hk e => by have := h k hk e; omega
theorem good_sgn (k : Int) (hk : isBin k) (L : Nat) (hL : lev k = L) (ts : List Tok) : Good (L + 1) (sgn k :: ts) := fun j hj e => by
 have : sgn k = sgn j := by simpa using e
 rw [← sgn_inj k j hk hj this, hL]
 omega
theorem good_close (L : Nat) (ts : List Tok) : Good L ([41] :: ts) := fun k hk e => by
 have h : ([41] : Tok) = sgn k := by simpa using e
 have h1 : k = 4 ∨ k = 5 ∨ k = 6 ∨ k = 7 ∨ k = 8 ∨ k = 9 ∨ k = 10 ∨ k = 12 ∨ k = 13 := by unfold isBin at hk; omega
 rcases h1 with rfl | rfl | rfl | rfl | rfl | rfl | rfl | rfl | rfl <;> exact absurd h (by decide)
theorem good_nil (L : Nat) : Good L [] := fun k hk e => by cases e
def flatP (L : Nat) (ps : List (Int × RE)) : List Tok := ps.flatMap fun p => sgn p.1 :: prT (L + 1) p.2
def chainS (x : RE) (ps : List (Int × RE)) : RE := ps.foldl (fun acc p => .node p.1 0 none 0 [acc, strip p.2]) x
theorem chainS_snoc (x : RE) (ps : List (Int × RE)) (p : Int × RE) : chainS x (ps ++ [p]) = .node p.1 0 none 0 [chainS x ps, strip p.2] := by simp [chainS]
structure Chain (L : Nat) (t x : RE) (ps : List (Int × RE)) : Prop where
 words : prT L t = prT (L + 1) x ++ flatP L ps
 okx : ReOk x
 okp : ∀ p ∈ ps, isBin p.1 ∧ lev p.1 = L ∧ ReOk p.2
 shape : chainS (strip x) ps = strip t
 one : L = 3 → ps.length ≤ 1
 hx : (ps = [] ∧ x = t ∧ lev (kd t) ≠ L) ∨ (ht x < ht t ∧ lev (kd t) = L)
 hp : ∀ p ∈ ps, ht p.2 < ht t
theorem prT_up (L : Nat) (t : RE) (h : lev (kd t) ≠ L) : prT L t = prT (L + 1) t := by
 unfold prT parT
 simp only
 by_cases h1 : lev (kd t) < L
 ·rw [if_pos h1, if_pos (by omega)]
 ·rw [if_neg h1, if_neg (by omega)]
theorem chain_self (L : Nat) (t : RE) (hok : ReOk t) (h : lev (kd t) ≠ L) : Chain L t t [] where
 words := by rw [prT_up L t h]; simp [flatP]
 okx := hok
 okp := fun p hp => by cases hp
 shape := rfl
 one := fun _ => by simp
 hx := .inl ⟨rfl, rfl, h⟩
 hp := fun p hp => by cases hp
theorem htL_mem : ∀ (ks : List RE) (x : RE), x ∈ ks → ht x ≤ htL ks
 | [], x, h => by cases h
 | y :: r, x, h => by
  rw [htL]
  rcases List.mem_cons.1 h with rfl | h
  ·omega
  ·have := htL_mem r x h; omega
theorem ht_kid (k n : Int) (A : Option Addr) (c : Nat) (ks : List RE) (x : RE) (h : x ∈ ks) : ht x < ht (.node k n A c ks) := by
 have := htL_mem ks x h
 rw [ht]
 omega
theorem isBin_of {k : Int} (h0 : 1 ≤ k) (h1 : k ≤ 13) (L : Nat) (hl : lev k = L) (hL : L = 0 ∨ L = 1 ∨ L = 3 ∨ L = 4 ∨ L = 5) : isBin k := by
 have : k = 1 ∨ k = 2 ∨ k = 3 ∨ k = 4 ∨ k = 5 ∨ k = 6 ∨ k = 7 ∨ k = 8 ∨ k = 9 ∨ k = 10 ∨ k = 11 ∨ k = 12 ∨ k = 13 := by omega
 unfold isBin
 rcases this with rfl | rfl | rfl | rfl | rfl | rfl | rfl | rfl | rfl | rfl | rfl | rfl | rfl <;> first | omega | (exfalso; revert hl; unfold lev; simp; omega)
theorem prB_bin (k n : Int) (A : Option Addr) (c : Nat) (a b : RE) (hk : isBin k) : prB (.node k n A c [a, b]) = prT (fst k) a ++ sgn k :: prT (lev k + 1) b := by
 have h := hk
 unfold isBin at h
 have e0 := prL_get [a, b] 0 (by simp)
 have e1 := prL_get [a, b] 1 (by simp)
 simp only [List.getD_cons_zero, List.getD_cons_succ] at e0 e1
 rw [prB, if_neg (by omega), if_neg (by omega), if_neg (by omega), if_neg (by omega), e0, e1]
 rfl
theorem chain_of (L : Nat) (hL : L = 0 ∨ L = 1 ∨ L = 3 ∨ L = 4 ∨ L = 5) (t : RE) (hok : ReOk t) : ∃ x ps, Chain L t x ps := by
 induction hok with
 | @mk k n A c ks node kids ih =>
  by_cases hl : lev k = L
  case neg => exact ⟨_, [], chain_self L _ (.mk node kids) hl⟩
  have hb := isBin_of node.k0 node.k1 L hl hL
  have hk := hb
  unfold isBin at hk
  have hlen : ks.length = 2 := by rw [node.len]; unfold opsN; rw [if_neg (by omega), if_neg (by omega)]
  obtain ⟨a, b, rfl⟩ : ∃ a b, ks = [a, b] := by
   match ks, hlen with
   | [a, b], _ => exact ⟨a, b, rfl⟩
  have hn0 : n = 0 := by have h1 := node.n0; have h2 := node.n1; rw [if_neg (by omega)] at h2; omega
  have hword : prT L (.node k n A c [a, b]) = prT (fst k) a ++ sgn k :: prT (L + 1) b := by
   unfold prT parT
   simp only
   rw [if_neg (by show ¬ lev k < L; omega), prB_bin k n A c a b hb, hl]
   rfl
  have hsh : ∀ s, s = strip a → (RE.node k 0 none 0 [s, strip b]) = strip (.node k n A c [a, b]) := fun s e => by rw [strip_node, e, hn0]; rfl
  have hta := ht_kid k n A c [a, b] a (by simp)
  have htb := ht_kid k n A c [a, b] b (by simp)
  by_cases h3 : L = 3
  ·refine ⟨a, [(k, b)], ?_, kids a (by simp), fun p hp => ?_, hsh _ rfl, fun _ => by simp, .inr ⟨hta, hl⟩, fun p hp => ?_⟩
   ·rw [hword]
    unfold fst
    rw [if_pos (by omega), h3]
    simp [flatP]
   ·obtain rfl := List.mem_singleton.1 hp; exact ⟨hb, hl, kids b (by simp)⟩
   ·obtain rfl := List.mem_singleton.1 hp; exact htb
  ·obtain ⟨x, ps, C⟩ := ih a (by simp)
   refine ⟨x, ps ++ [(k, b)], ?_, C.okx, fun p hp => ?_, ?_, fun h => absurd h h3, .inr ⟨by rcases C.hx with ⟨_, e, _⟩ | ⟨e, _⟩; (rw [e]; exact hta); omega, hl⟩, fun p hp => ?_⟩
   ·rw [hword]
    unfold fst
    rw [if_neg (by omega), hl, C.words]
    simp [flatP]
   ·rcases List.mem_append.1 hp with h | h
    ·exact C.okp p h
    ·obtain rfl := List.mem_singleton.1 h; exact ⟨hb, hl, kids b (by simp)⟩
   ·rw [chainS_snoc, C.shape]
    exact hsh _ rfl
   ·rcases List.mem_append.1 hp with h | h
    ·have := C.hp p h; omega
    ·obtain rfl := List.mem_singleton.1 h; exact htb
theorem prB_ne (t : RE) (hok : ReOk t) : prB t ≠ [] := by
 cases hok with
 | @mk k n A c ks node kids =>
  unfold prB
  repeat' split
  all_goals simp
theorem prT_ne (L : Nat) (t : RE) (hok : ReOk t) : 0 < (prT L t).length := by
 unfold prT parT
 simp only
 split
 ·simp
 ·exact List.length_pos_iff.2 (prB_ne t hok)
def nd (L : Nat) (t : RE) : Nat := if lev (kd t) < L then ht t else ht t - 1
theorem ht_pos (t : RE) : 1 ≤ ht t := by cases t; rw [ht]; omega
theorem nd_le (L : Nat) (t : RE) : nd L t ≤ ht t := by unfold nd; split <;> omega
theorem first_word (t : RE) (hok : ReOk t) : ∀ L, 3 ≤ L → ∃ c r, prT L t = c :: r ∧ c ≠ [110, 111, 116] ∧ (L = 7 → c ≠ [45]) := by
 induction hok with
 | @mk k n A c ks node kids ih =>
  intro L hL
  by_cases hp : lev k < L
  ·refine ⟨[40], prB (.node k n A c ks) ++ [[41]], ?_, by decide, fun _ => by decide⟩
   unfold prT parT
   simp only
   rw [if_pos (show lev (kd (RE.node k n A c ks)) < L from hp)]
  ·have hpr : prT L (.node k n A c ks) = prB (.node k n A c ks) := by
    unfold prT parT
    simp only
    rw [if_neg (show ¬ lev (kd (RE.node k n A c ks)) < L from hp)]
   rw [hpr]
   have hl3 : 3 ≤ lev k := by omega
   have hkk : k = 1 ∨ k = 2 ∨ k = 3 ∨ k = 4 ∨ k = 5 ∨ k = 6 ∨ k = 7 ∨ k = 8 ∨ k = 9 ∨ k = 10 ∨ k = 11 ∨ k = 12 ∨ k = 13 := by have := node.k0; have := node.k1; omega
   by_cases h1 : k = 1
   ·refine ⟨itoa n, [], by unfold prB; rw [if_pos h1], ?_, fun _ => ?_⟩
    ·intro e
     have := itoa_dig n node.n0 110 (by rw [e]; exact List.mem_cons_self ..)
     exact absurd this (by decide)
    ·intro e
     have := itoa_dig n node.n0 45 (by rw [e]; exact List.mem_cons_self ..)
     exact absurd this (by decide)
   by_cases h2 : k = 2
   ·exact ⟨[121], [], by unfold prB; rw [if_neg h1, if_pos h2], by decide, fun _ => by decide⟩
   by_cases h3 : k = 3
   ·subst h3
    exact ⟨[45], _, by unfold prB; rw [if_neg h1, if_neg h2, if_pos rfl], by decide, fun h => absurd hl3 (by intro; exact hp (by rw [h]; decide))⟩
   have hb : isBin k := by
    unfold isBin
    rcases hkk with rfl | rfl | rfl | rfl | rfl | rfl | rfl | rfl | rfl | rfl | rfl | rfl | rfl <;> first | omega | exact absurd hl3 (by decide)
   have hkb := hb
   unfold isBin at hkb
   have hlen : ks.length = 2 := by rw [node.len]; unfold opsN; rw [if_neg (by omega), if_neg (by omega)]
   obtain ⟨a, b, rfl⟩ : ∃ a b, ks = [a, b] := by
    match ks, hlen with
    | [a, b], _ => exact ⟨a, b, rfl⟩
   have hl5 : lev k ≤ 5 := by
    rcases hkk with rfl | rfl | rfl | rfl | rfl | rfl | rfl | rfl | rfl | rfl | rfl | rfl | rfl <;> first | decide | omega
   obtain ⟨c', r', e, hc, _⟩ := ih a (by simp) (fst k) (by unfold fst; split <;> omega)
   refine ⟨c', r' ++ sgn k :: prT (lev k + 1) b, by rw [prB_bin k n A c a b hb, e]; rfl, hc, fun h => by omega⟩
end Go.Proofs.YtoemghiejfkpbaaGreatDoor
