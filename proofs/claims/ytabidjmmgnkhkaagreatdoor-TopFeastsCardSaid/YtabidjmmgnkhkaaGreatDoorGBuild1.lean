/- Show2, Build1, Build2, Show4 -/
import Derived.Shelf.Strings.Builder1
import Derived.Shelf.Strings.BuilderK
import Derived.Test.YtabidjmmgnkhkaaGreatDoorGParseA
/- Contract of rule.show. -/
namespace Go.Proofs.YtabidjmmgnkhkaaGreatDoor
open Go.Lib
set_option linter.unusedVariables false
theorem shB_one (n : Int) (A : Option Addr) (c : Nat) (ks : List RE) : shB (.node 1 n A c ks) = itoa n := by rw [shB, if_pos rfl]
theorem shB_two (n : Int) (A : Option Addr) (c : Nat) (ks : List RE) : shB (.node 2 n A c ks) = [121] := by rw [shB, if_neg (by omega), if_pos rfl]
theorem shB_neg (n : Int) (A : Option Addr) (c : Nat) (a : RE) : shB (.node 3 n A c [a]) = 45 :: shT 6 a := by
 have e0 := shL_get [a] 0 (by simp)
 simp only [List.getD_cons_zero] at e0
 rw [shB, if_neg (by omega), if_neg (by omega), if_pos rfl, e0]
 rfl
theorem shB_not (n : Int) (A : Option Addr) (c : Nat) (a : RE) : shB (.node 11 n A c [a]) = [110, 111, 116, 32] ++ shT 2 a := by
 have e0 := shL_get [a] 0 (by simp)
 simp only [List.getD_cons_zero] at e0
 rw [shB, if_neg (by omega), if_neg (by omega), if_neg (by omega), if_pos rfl, e0]
 rfl
theorem shB_bin (k n : Int) (A : Option Addr) (c : Nat) (a b : RE) (hk : isBin k) : shB (.node k n A c [a, b]) = shT (fst k) a ++ 32 :: (sgn k ++ 32 :: shT (lev k + 1) b) := by
 have h := hk
 unfold isBin at h
 have e0 := shL_get [a, b] 0 (by simp)
 have e1 := shL_get [a, b] 1 (by simp)
 simp only [List.getD_cons_zero, List.getD_cons_succ] at e0 e1
 rw [shB, if_neg (by omega), if_neg (by omega), if_neg (by omega), if_neg (by omega), e0, e1]
 rfl
theorem node_cases {k n : Int} {ks : List RE} (h : ReNode k n ks.length) :
  (k = 1 ∧ ks = []) ∨ (k = 2 ∧ ks = []) ∨ (k = 3 ∧ ∃ a, ks = [a]) ∨ (k = 11 ∧ ∃ a, ks = [a]) ∨ (isBin k ∧ ∃ a b, ks = [a, b]) := by
 have h0 := h.k0
 have h1 := h.k1
 have hl := h.len
 have hc : k = 1 ∨ k = 2 ∨ k = 3 ∨ k = 11 ∨ isBin k := by unfold isBin; omega
 rcases hc with rfl | rfl | rfl | rfl | hb
 ·exact .inl ⟨rfl, List.eq_nil_of_length_eq_zero (by rw [hl]; rfl)⟩
 ·exact .inr (.inl ⟨rfl, List.eq_nil_of_length_eq_zero (by rw [hl]; rfl)⟩)
 ·exact .inr (.inr (.inl ⟨rfl, List.length_eq_one_iff.1 (by rw [hl]; rfl)⟩))
 ·exact .inr (.inr (.inr (.inl ⟨rfl, List.length_eq_one_iff.1 (by rw [hl]; rfl)⟩)))
 ·have h2 : ks.length = 2 := by
   rw [hl]
   unfold isBin at hb
   unfold opsN
   repeat' split
   all_goals omega
  match ks, h2 with
  | [a, b], _ => exact .inr (.inr (.inr (.inr ⟨hb, a, b, rfl⟩)))
theorem shB_strip (t : RE) (h : ReOk t) : shB (strip t) = shB t := by
 induction h with
 | @mk k n A c ks node kids ih =>
  have hT : ∀ x ∈ ks, ∀ L, shT L (strip x) = shT L x := fun x hx L => by unfold shT; rw [strip_kd, ih x hx]
  rw [strip_node]
  rcases node_cases node with ⟨rfl, rfl⟩ | ⟨rfl, rfl⟩ | ⟨rfl, a, rfl⟩ | ⟨rfl, a, rfl⟩ | ⟨hb, a, b, rfl⟩
  ·rw [shB_one, shB_one]
  ·rw [shB_two, shB_two]
  ·show shB (.node 3 n none 0 [strip a]) = _
   rw [shB_neg, shB_neg, hT a (by simp)]
  ·show shB (.node 11 n none 0 [strip a]) = _
   rw [shB_not, shB_not, hT a (by simp)]
  ·show shB (.node k n none 0 [strip a, strip b]) = _
   rw [shB_bin k _ _ _ _ _ hb, shB_bin k _ _ _ _ _ hb, hT a (by simp), hT b (by simp)]
end Go.Proofs.YtabidjmmgnkhkaaGreatDoor
namespace Go.Proofs.YtabidjmmgnkhkaaGreatDoor
open Go.RowKit
set_option linter.unusedVariables false
end Go.Proofs.YtabidjmmgnkhkaaGreatDoor
/- strings.Builder at this dump: WriteString and String, off the kit's shelf (laid by hand: one type of the layout stands in no body, so that the kit's command does not find its number). -/
namespace Go.Proofs.YtabidjmmgnkhkaaGreatDoor
open Go.Shelf Go.RowKit
end Go.Proofs.YtabidjmmgnkhkaaGreatDoor
/- A builder's contracts that keep the other blocks. -/
namespace Go.Proofs.YtabidjmmgnkhkaaGreatDoor
open Go.RowKit
set_option linter.unusedVariables false
end Go.Proofs.YtabidjmmgnkhkaaGreatDoor
/- rule.Print, walked. -/
namespace Go.Proofs.YtabidjmmgnkhkaaGreatDoor
open Go.RowKit
set_option linter.unusedVariables false
def headP (t : Tr) : List UInt8 := [99, 97, 108, 101, 110, 100, 97, 114, 32] ++ t.nm.data.toList ++ [10, 101, 112, 111, 99, 104, 32] ++ Lib.itoa t.ep ++ [10, 99, 121, 99, 108, 101, 32] ++ Lib.itoa t.cy ++ [10, 108, 101, 97, 112, 32] ++ shB t.ex ++ [10]
def monN (m : Mth) : List UInt8 := monL m ++ [10]
def printR (t : Tr) : List UInt8 := headP t ++ t.mo.flatMap monN
def RTof (t : Tr) : RT := ⟨t.nm.data.toList, t.ep, t.cy, [108, 101, 97, 112, 32] ++ shB t.ex, t.mo⟩
theorem rest_mons (t : RT) : ∀ (j k : Nat), k + j = t.mo.length → t.rest (4 + k) = (t.mo.drop k).flatMap monN := by
 intro j
 induction j with
 | zero =>
  intro k hk
  obtain rfl : k = t.mo.length := by omega
  rw [RT.done, List.drop_length]
  rfl
 | succ j ih =>
  intro k hk
  rw [t.step (4 + k) (by omega), show 4 + k + 1 = 4 + (k + 1) from by omega, ih (k + 1) (by omega), List.drop_eq_getElem_cons (show k < t.mo.length by omega), List.flatMap_cons]
  have e : t.line (4 + k) = monL t.mo[k] := by
   unfold RT.line
   rw [if_neg (by omega), if_neg (by omega), if_neg (by omega), if_neg (by omega), show 4 + k - 4 = k from by omega]
   simp [List.getD, List.getElem?_eq_getElem (show k < t.mo.length by omega)]
  rw [e]
  unfold monN
  simp
theorem printR_rest (t : Tr) : printR t = (RTof t).rest 0 := by
 rw [(RTof t).step 0 (by omega), (RTof t).step 1 (by omega), (RTof t).step 2 (by omega), (RTof t).step 3 (by omega), show (3 + 1 : Nat) = 4 + 0 from rfl, rest_mons (RTof t) _ 0 (Nat.zero_add _)]
 unfold printR headP RT.line RTof
 simp
end Go.Proofs.YtabidjmmgnkhkaaGreatDoor
namespace Go.Proofs.YtabidjmmgnkhkaaGreatDoor
open Go.RowKit
set_option linter.unusedVariables false
theorem str_own' (s : ByteArray) : str s.data.toList = s := by simp [str]
end Go.Proofs.YtabidjmmgnkhkaaGreatDoor
