/- Show2, Show4 -/
import Derived.Test.YtcommodbjjdbmaaGreatDoorGLex1
import Derived.Test.YtcommodbjjdbmaaGreatDoorGPlainParse
import Derived.Test.YtcommodbjjdbmaaGreatDoorGNumShp
import Derived.Test.YtcommodbjjdbmaaGreatDoorGReMem
import Derived.Test.YtcommodbjjdbmaaGreatDoorGFlow
import Derived.Test.YtcommodbjjdbmaaGreatDoorGParseA
import Derived.Test.YtcommodbjjdbmaaGreatDoorGBuild1
/- Contract of rule.show. -/
namespace Go.Proofs.YtcommodbjjdbmaaGreatDoor
open Go.Lib
set_option linter.unusedVariables false

theorem shB_one (n : Int) (A : Option Addr) (c : Nat) (ks : List RE) : shB (.node 1 n A c ks) = itoa n := by rw [shB, if_pos rfl]
theorem shB_two (n : Int) (A : Option Addr) (c : Nat) (ks : List RE) : shB (.node 2 n A c ks) = [121] := by rw [shB, if_neg (by omega), if_pos rfl]
theorem shB_neg (n : Int) (A : Option Addr) (c : Nat) (a : RE) : shB (.node 3 n A c [a]) = 45 :: shT 6 a := by
  have e0 := shL_get [a] 0 (by simp)
  simp only [List.getD_cons_zero] at e0
  rw [shB, if_neg (by omega), if_neg (by omega), if_pos rfl, e0]
  rfl
theorem shB_not (n : Int) (A : Option Addr) (c : Nat) (a : RE) : shB (.node 11 n A c [a]) = [110, 111, 116, 32] ++ shT 2 a := by
  have e0 := shL_get [a] 0 (by simp)
  simp only [List.getD_cons_zero] at e0
  rw [shB, if_neg (by omega), if_neg (by omega), if_neg (by omega), if_pos rfl, e0]
  rfl
theorem shB_bin (k n : Int) (A : Option Addr) (c : Nat) (a b : RE) (hk : isBin k) : shB (.node k n A c [a, b]) = shT (fst k) a ++ 32 :: (sgn k ++ 32 :: shT (lev k + 1) b) := by
  have h := hk
  unfold isBin at h
  have e0 := shL_get [a, b] 0 (by simp)
  have e1 := shL_get [a, b] 1 (by simp)
  simp only [List.getD_cons_zero, List.getD_cons_succ] at e0 e1
  rw [shB, if_neg (by omega), if_neg (by omega), if_neg (by omega), if_neg (by omega), e0, e1]
  rfl
theorem shT_len (L : Nat) (t : RE) : (shT L t).length ≤ (shB t).length + 2 := by
  unfold shT parB
  split <;> simp
theorem sgn_len (k : Int) : (sgn k).length ≤ 3 := by unfold sgn; repeat' split <;> try decide
/-- the sorts of a node -/
theorem node_cases {k n : Int} {ks : List RE} (h : ReNode k n ks.length) :
    (k = 1 ∧ ks = []) ∨ (k = 2 ∧ ks = []) ∨ (k = 3 ∧ ∃ a, ks = [a]) ∨ (k = 11 ∧ ∃ a, ks = [a]) ∨ (isBin k ∧ ∃ a b, ks = [a, b]) := by
  have h0 := h.k0
  have h1 := h.k1
  have hl := h.len
  have hc : k = 1 ∨ k = 2 ∨ k = 3 ∨ k = 11 ∨ isBin k := by unfold isBin; omega
  rcases hc with rfl | rfl | rfl | rfl | hb
  · exact .inl ⟨rfl, List.eq_nil_of_length_eq_zero (by rw [hl]; rfl)⟩
  · exact .inr (.inl ⟨rfl, List.eq_nil_of_length_eq_zero (by rw [hl]; rfl)⟩)
  · exact .inr (.inr (.inl ⟨rfl, List.length_eq_one_iff.1 (by rw [hl]; rfl)⟩))
  · exact .inr (.inr (.inr (.inl ⟨rfl, List.length_eq_one_iff.1 (by rw [hl]; rfl)⟩)))
  · have h2 : ks.length = 2 := by
      rw [hl]
      unfold isBin at hb
      unfold opsN
      repeat' split
      all_goals omega
    match ks, h2 with
    | [a, b], _ => exact .inr (.inr (.inr (.inr ⟨hb, a, b, rfl⟩)))
theorem shB_len {t : RE} (h : ReOk t) : (shB t).length + 2 ≤ 20 * sz t := by
  induction h with
  | @mk k n A c ks node kids ih =>
    rcases node_cases node with ⟨rfl, rfl⟩ | ⟨rfl, rfl⟩ | ⟨rfl, a, rfl⟩ | ⟨rfl, a, rfl⟩ | ⟨hb, a, b, rfl⟩
    · rw [shB_one, sz, szL]
      have h1 := node.n1
      rw [if_pos rfl] at h1
      have := itoa_nat_len n node.n0 (by omega)
      omega
    · rw [shB_two, sz, szL]; decide
    · have := ih a (by simp)
      have h2 := shT_len 6 a
      rw [shB_neg, sz, szL, szL]
      simp only [List.length_cons]
      omega
    · have := ih a (by simp)
      have h2 := shT_len 2 a
      rw [shB_not, sz, szL, szL]
      simp only [List.length_append, List.length_cons, List.length_nil]
      omega
    · have := ih a (by simp)
      have := ih b (by simp)
      have h2 := shT_len (fst k) a
      have h3 := shT_len (lev k + 1) b
      have h4 := sgn_len k
      rw [shB_bin k n A c a b hb, sz, szL, szL, szL]
      simp only [List.length_append, List.length_cons]
      omega
theorem shB_strip (t : RE) (h : ReOk t) : shB (strip t) = shB t := by
  induction h with
  | @mk k n A c ks node kids ih =>
    have hT : ∀ x ∈ ks, ∀ L, shT L (strip x) = shT L x := fun x hx L => by unfold shT; rw [strip_kd, ih x hx]
    rw [strip_node]
    rcases node_cases node with ⟨rfl, rfl⟩ | ⟨rfl, rfl⟩ | ⟨rfl, a, rfl⟩ | ⟨rfl, a, rfl⟩ | ⟨hb, a, b, rfl⟩
    · rw [shB_one, shB_one]
    · rw [shB_two, shB_two]
    · show shB (.node 3 n none 0 [strip a]) = _
      rw [shB_neg, shB_neg, hT a (by simp)]
    · show shB (.node 11 n none 0 [strip a]) = _
      rw [shB_not, shB_not, hT a (by simp)]
    · show shB (.node k n none 0 [strip a, strip b]) = _
      rw [shB_bin k _ _ _ _ _ hb, shB_bin k _ _ _ _ _ hb, hT a (by simp), hT b (by simp)]
end Go.Proofs.YtcommodbjjdbmaaGreatDoor
namespace Go.Proofs.YtcommodbjjdbmaaGreatDoor
open Go.RowKit
set_option linter.unusedVariables false

def ShQ (s : List UInt8) (w : World) (e : Ending) (w' : World) : Prop := e = .returned (.string (str s)) ∧ Below w.heap.size w w'
theorem lvN_eq (j : Nat) (h : 1 ≤ j) : lvN j = lev (j : Int) := by unfold lvN; rw [if_neg (by omega)]
theorem parB_yes (L : Nat) (k : Int) (s : List UInt8) (h : lev k < L) : str (parB L (k, s)) = (⟨#[40]⟩ ++ str s) ++ ⟨#[41]⟩ := by
  unfold parB
  rw [if_pos h, show (⟨#[40]⟩ : ByteArray) = str [40] from rfl, show (⟨#[41]⟩ : ByteArray) = str [41] from rfl, str_append, str_append]
  rfl
theorem parB_no (L : Nat) (k : Int) (s : List UInt8) (h : ¬ lev k < L) : str (parB L (k, s)) = str s := by
  unfold parB
  rw [if_neg h]
end Go.Proofs.YtcommodbjjdbmaaGreatDoor

/- rule.Print, walked. -/
namespace Go.Proofs.YtcommodbjjdbmaaGreatDoor
open Go.RowKit
set_option linter.unusedVariables false

def headP (t : Tr) : List UInt8 := [99, 97, 108, 101, 110, 100, 97, 114, 32] ++ t.nm.data.toList ++ [10, 101, 112, 111, 99, 104, 32] ++ Lib.itoa t.ep ++ [10, 99, 121, 99, 108, 101, 32] ++ Lib.itoa t.cy ++ [10, 108, 101, 97, 112, 32] ++ shB t.ex ++ [10]
def monN (m : Mth) : List UInt8 := monL m ++ [10]
def printR (t : Tr) : List UInt8 := headP t ++ t.mo.flatMap monN
def RTof (t : Tr) : RT := ⟨t.nm.data.toList, t.ep, t.cy, [108, 101, 97, 112, 32] ++ shB t.ex, t.mo⟩
theorem rest_mons (t : RT) : ∀ (j k : Nat), k + j = t.mo.length → t.rest (4 + k) = (t.mo.drop k).flatMap monN := by
  intro j
  induction j with
  | zero =>
    intro k hk
    obtain rfl : k = t.mo.length := by omega
    rw [RT.done, List.drop_length]
    rfl
  | succ j ih =>
    intro k hk
    rw [t.step (4 + k) (by omega), show 4 + k + 1 = 4 + (k + 1) from by omega, ih (k + 1) (by omega), List.drop_eq_getElem_cons (show k < t.mo.length by omega), List.flatMap_cons]
    have e : t.line (4 + k) = monL t.mo[k] := by
      unfold RT.line
      rw [if_neg (by omega), if_neg (by omega), if_neg (by omega), if_neg (by omega), show 4 + k - 4 = k from by omega]
      simp [List.getD, List.getElem?_eq_getElem (show k < t.mo.length by omega)]
    rw [e]
    unfold monN
    simp
theorem printR_rest (t : Tr) : printR t = (RTof t).rest 0 := by
  rw [(RTof t).step 0 (by omega), (RTof t).step 1 (by omega), (RTof t).step 2 (by omega), (RTof t).step 3 (by omega), show (3 + 1 : Nat) = 4 + 0 from rfl, rest_mons (RTof t) _ 0 (Nat.zero_add _)]
  unfold printR headP RT.line RTof
  simp
theorem name_data {s : ByteArray} (h : NameOk s) : s.data.toList.length ≤ 12 := by
  have := h.2.1
  rw [Array.length_toList]
  exact this
theorem headP_len (t : Tr) (h : TrOk t) : (headP t).length ≤ 1500 := by
  have h1 := name_data h.hd.1
  have h2 := Lib.itoa_length_le t.ep (by have := h.hd.2.1; omega) (by have := h.hd.2.1; omega)
  have h3 := Lib.itoa_length_le t.cy (by have := h.hd.2.2; omega) (by have := h.hd.2.2; omega)
  have h4 := shB_len h.ex.1
  have h5 := h.ex.2
  unfold headP
  simp only [List.length_append, List.length_cons, List.length_nil]
  omega
theorem monN_len (m : Mth) (h1 : NameOk m.nm) (h2 : 0 ≤ m.sh ∧ m.sh ≤ 400) (h3 : 0 ≤ m.lo ∧ m.lo ≤ 400) : (monN m).length ≤ 80 := by
  have h1 := name_data h1
  have h4 := Lib.itoa_length_le m.sh (by omega) (by omega)
  have h5 := Lib.itoa_length_le m.lo (by omega) (by omega)
  unfold monN monL
  split <;> simp only [List.length_append, List.length_cons, List.length_nil] <;> omega
def PriQ (t : Tr) (w : World) (e : Ending) (w' : World) : Prop := e = .returned (.tuple #[.string (str (printR t)), .int .i64 0]) ∧ Below w.heap.size w w'
def PriNo (w : World) (e : Ending) (w' : World) : Prop := ∃ E : Int, E ≠ 0 ∧ e = .returned (.tuple #[.string ⟨#[]⟩, .int .i64 E]) ∧ Below w.heap.size w w'
theorem below0 (W : World) : Below W.heap.size W W := Below.refl _ _
end Go.Proofs.YtcommodbjjdbmaaGreatDoor
namespace Go.Proofs.YtcommodbjjdbmaaGreatDoor
open Go.RowKit
set_option linter.unusedVariables false

theorem str_own' (s : ByteArray) : str s.data.toList = s := by simp [str]
end Go.Proofs.YtcommodbjjdbmaaGreatDoor
