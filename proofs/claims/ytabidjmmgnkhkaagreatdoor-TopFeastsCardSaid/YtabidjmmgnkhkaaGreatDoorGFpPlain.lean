/- FpPlain, FShPl -/
import Derived.Test.YtabidjmmgnkhkaaGreatDoorGFePlain
/- The text of a feast: what is read (plain). -/
namespace Go.Proofs.YtabidjmmgnkhkaaGreatDoor
open Go.Lib
set_option linter.unusedVariables false
mutual
def shp : FE → FE
 | .node k a b nm _ _ ks => .node k a b nm none 0 (shpL ks)
def shpL : List FE → List FE
 | [] => []
 | x :: r => shp x :: shpL r
end
theorem shpL_eq : ∀ ks : List FE, shpL ks = ks.map shp
 | [] => rfl
 | x :: r => by rw [shpL, shpL_eq r]; rfl
theorem shp_node (k a b : Int) (nm : ByteArray) (A : Option Addr) (c : Nat) (ks : List FE) : shp (.node k a b nm A c ks) = .node k a b nm none 0 (ks.map shp) := by rw [shp, shpL_eq]
def nx (l : List UInt8) : List UInt8 := sk (l.drop (tk l).length)
def dg (l : List UInt8) : List UInt8 := l.takeWhile isDig
def dv (d : List UInt8) : Int := (((decNat d).getD 0 : Nat) : Int)
inductive Nr where
 | no (c : Int)
 | yes (n : Int) (l : List UInt8)
inductive Wr where
 | no (c : Int)
 | yes (s : List UInt8) (l : List UInt8)
inductive Fr where
 | no (c : Int)
 | yes (f : FE) (l : List UInt8)
def natR (sg : Bool) (l : List UInt8) : Nr := if dg l = [] then .no 4 else if 9 < (dg l).length then .no 2 else .yes (if sg then -dv (dg l) else dv (dg l)) (sk (l.drop (dg l).length))
def numR (l : List UInt8) : Nr := if tk l = [45] then natR true (l.drop 1) else natR false l
def wordR (l : List UInt8) : Wr := if isLow ((tk l).headD 0) then .yes (tk l) (nx l) else .no 4
def nameR (b : Bool) (l : List UInt8) : Wr := if b then wordR l else .yes [] l
def secR (b : Bool) (l : List UInt8) : Nr := if b then numR l else .yes 0 l
def opK (k : Nat) (t : Tok) : Option Int := if k = 0 ∧ t = [111, 114] then some 9 else if k = 1 ∧ t = [97, 110, 100] then some 10 else if k = 1 ∧ t = [110, 111, 116] then some 11 else none
def leafK (t : Tok) : Option Int := if t = [100, 97, 116, 101] then some 1 else if t = [109, 111, 110, 116, 104] then some 2 else if t = [119, 101, 101, 107, 100, 97, 121] then some 3 else if t = [101, 118, 101, 114, 121] then some 4 else if t = [100, 97, 121] then some 5 else if t = [100, 97, 121, 115] then some 6 else none
inductive Jb where
 | ex (k : Nat)
 | lp (k : Nat) (x : FE)
 | on
 | sh
 | sl (x : FE)
 | lf
def thenF (r : Option Fr) (f : FE → List UInt8 → Option Fr) : Option Fr := match r with | none => none | some (.no c) => some (.no c) | some (.yes x l) => f x l
def thenN (r : Nr) (f : Int → List UInt8 → Option Fr) : Option Fr := match r with | .no c => some (.no c) | .yes n l => f n l
def thenW (r : Wr) (f : List UInt8 → List UInt8 → Option Fr) : Option Fr := match r with | .no c => some (.no c) | .yes n l => f n l
abbrev noB : ByteArray := ⟨#[]⟩
def rd : Nat → Jb → Nat → List UInt8 → Option Fr
 | 0, _, _, _ => none
 | n + 1, .ex k, o, l => if k = 2 then rd n .on o l else thenF (rd n (.ex (k + 1)) o l) fun x l' => rd n (.lp k x) o l'
 | n + 1, .lp k x, o, l => match opK k (tk l) with
  | none => some (.yes x l)
  | some p => thenF (rd n (.ex (k + 1)) o (nx l)) fun y l' => rd n (.lp k (.node p 0 0 noB none 0 [x, y])) o l'
 | n + 1, .on, o, l =>
  if tk l = [111, 110] then thenN (numR (nx l)) fun a l1 => thenF (rd n .on o l1) fun y l2 => some (.yes (.node 8 a 0 noB none 0 [y]) l2)
  else if tk l = [110, 116, 104] then thenN (numR (nx l)) fun a l1 => if tk l1 = [105, 110] then thenW (wordR (nx l1)) fun s l2 => thenN (numR l2) fun b l3 => thenF (rd n .on o l3) fun y l4 => some (.yes (.node 12 a b (str s) none 0 [y]) l4) else some (.no 4)
  else rd n .sh o l
 | n + 1, .sh, o, l => thenF (rd n .lf o l) fun x l' => rd n (.sl x) o l'
 | n + 1, .sl x, o, l =>
  if tk l = [43] then thenN (natR false (nx l)) fun a l' => rd n (.sl (.node 7 a 0 noB none 0 [x])) o l'
  else if tk l = [45] then thenN (natR false (nx l)) fun a l' => rd n (.sl (.node 7 (-a) 0 noB none 0 [x])) o l'
  else some (.yes x l)
 | n + 1, .lf, o, l =>
  if tk l = [40] then (if 20 < o + 1 then some (.no 2) else thenF (rd n (.ex 0) (o + 1) (nx l)) fun x l' => if tk l' = [41] then some (.yes x (nx l')) else some (.no 4))
  else match leafK (tk l) with
   | none => some (.no 4)
   | some k => thenW (nameR (usN k) (nx l)) fun s l1 => thenN (numR l1) fun a l2 => thenN (secR (usB k) l2) fun b l3 => some (.yes (.node k a b (str s) none 0 []) l3)
theorem thenF_mono {a a' : Option Fr} {f f' : FE → List UInt8 → Option Fr} {r : Fr} (h1 : ∀ r, a = some r → a' = some r) (h2 : ∀ x l r, f x l = some r → f' x l = some r) (h : thenF a f = some r) : thenF a' f' = some r := by
 cases ha : a with
 | none => rw [ha] at h; cases h
 | some q =>
  rw [h1 q ha]
  rw [ha] at h
  cases q with
  | no c => exact h
  | yes x l => exact h2 x l r h
theorem thenN_mono {a : Nr} {f f' : Int → List UInt8 → Option Fr} {r : Fr} (h2 : ∀ x l r, f x l = some r → f' x l = some r) (h : thenN a f = some r) : thenN a f' = some r := by
 cases a with
 | no c => exact h
 | yes x l => exact h2 x l r h
theorem thenW_mono {a : Wr} {f f' : List UInt8 → List UInt8 → Option Fr} {r : Fr} (h2 : ∀ x l r, f x l = some r → f' x l = some r) (h : thenW a f = some r) : thenW a f' = some r := by
 cases a with
 | no c => exact h
 | yes x l => exact h2 x l r h
theorem rd_mono : ∀ (n : Nat) (j : Jb) (o : Nat) (l : List UInt8) (r : Fr), rd n j o l = some r → rd (n + 1) j o l = some r := by
 intro n
 induction n with
 | zero => intro j o l r h; cases h
 | succ n ih =>
  intro j o l r h
  cases j with
  | ex k =>
   rw [rd] at h ⊢
   split
   ·rename_i hk; rw [if_pos hk] at h; exact ih _ _ _ _ h
   ·rename_i hk; rw [if_neg hk] at h; exact thenF_mono (fun r => ih _ _ _ r) (fun x l r => ih _ _ _ r) h
  | lp k x =>
   rw [rd] at h ⊢
   cases hp : opK k (tk l) with
   | none => rw [hp] at h; exact h
   | some p => rw [hp] at h; exact thenF_mono (fun r => ih _ _ _ r) (fun x l r => ih _ _ _ r) h
  | on =>
   rw [rd] at h ⊢
   by_cases h1 : tk l = [111, 110]
   ·rw [if_pos h1] at h ⊢
    exact thenN_mono (fun a l1 r => thenF_mono (fun r => ih _ _ _ r) fun _ _ _ h => h) h
   rw [if_neg h1] at h ⊢
   by_cases h2 : tk l = [110, 116, 104]
   ·rw [if_pos h2] at h ⊢
    refine thenN_mono (fun a l1 r h => ?_) h
    by_cases h3 : tk l1 = [105, 110]
    ·rw [if_pos h3] at h ⊢
     exact thenW_mono (fun s l2 r => thenN_mono fun b l3 r => thenF_mono (fun r => ih _ _ _ r) fun _ _ _ h => h) h
    ·rw [if_neg h3] at h ⊢; exact h
   rw [if_neg h2] at h ⊢
   exact ih _ _ _ _ h
  | sh =>
   rw [rd] at h ⊢
   exact thenF_mono (fun r => ih _ _ _ r) (fun x l r => ih _ _ _ r) h
  | sl x =>
   rw [rd] at h ⊢
   by_cases h1 : tk l = [43]
   ·rw [if_pos h1] at h ⊢
    exact thenN_mono (fun a l1 r => ih _ _ _ r) h
   rw [if_neg h1] at h ⊢
   by_cases h2 : tk l = [45]
   ·rw [if_pos h2] at h ⊢
    exact thenN_mono (fun a l1 r => ih _ _ _ r) h
   rw [if_neg h2] at h ⊢
   exact h
  | lf =>
   rw [rd] at h ⊢
   by_cases h1 : tk l = [40]
   ·rw [if_pos h1] at h ⊢
    by_cases h2 : 20 < o + 1
    ·rw [if_pos h2] at h ⊢; exact h
    ·rw [if_neg h2] at h ⊢
     exact thenF_mono (fun r => ih _ _ _ r) (fun _ _ _ h => h) h
   rw [if_neg h1] at h ⊢
   exact h
theorem rd_more {n m : Nat} {j : Jb} {o : Nat} {l : List UInt8} {r : Fr} (h : rd n j o l = some r) (hm : n ≤ m) : rd m j o l = some r := by
 induction m with
 | zero => obtain rfl : n = 0 := by omega
           exact h
 | succ m ih =>
  by_cases e : n = m + 1
  ·rw [← e]; exact h
  ·exact rd_mono _ _ _ _ _ (ih (by omega))
theorem nx_le (l : List UInt8) : (nx l).length ≤ l.length := by
 have := sk_len (l.drop (tk l).length)
 rw [List.length_drop] at this
 unfold nx
 omega
theorem nx_lt (l : List UInt8) (h : l ≠ []) : (nx l).length < l.length := by
 have := sk_len (l.drop (tk l).length)
 have h1 := List.length_pos_iff.2 (tk_ne l h)
 have h2 := List.length_pos_iff.2 h
 rw [List.length_drop] at this
 unfold nx
 omega
theorem tk_nil : tk [] = [] := by decide
theorem natR_len {sg : Bool} {l : List UInt8} {n : Int} {l' : List UInt8} (h : natR sg l = .yes n l') : l'.length ≤ l.length := by
 unfold natR at h
 split at h
 ·cases h
 split at h
 ·cases h
 injection h with _ h
 have := sk_len (l.drop (dg l).length)
 rw [h, List.length_drop] at this
 omega
theorem numR_len {l : List UInt8} {n : Int} {l' : List UInt8} (h : numR l = .yes n l') : l'.length ≤ l.length := by
 unfold numR at h
 split at h
 ·have := natR_len h
  rw [List.length_drop] at this
  omega
 ·exact natR_len h
theorem wordR_len {l s l' : List UInt8} (h : wordR l = .yes s l') : l'.length ≤ l.length := by
 unfold wordR at h
 split at h
 ·injection h with _ h
  rw [← h]; exact nx_le l
 ·cases h
theorem nameR_len {b : Bool} {l s l' : List UInt8} (h : nameR b l = .yes s l') : l'.length ≤ l.length := by
 unfold nameR at h
 split at h
 ·exact wordR_len h
 ·injection h with _ h; rw [← h]; exact Nat.le_refl _
theorem secR_len {b : Bool} {l : List UInt8} {n : Int} {l' : List UInt8} (h : secR b l = .yes n l') : l'.length ≤ l.length := by
 unfold secR at h
 split at h
 ·exact numR_len h
 ·injection h with _ h; rw [← h]; exact Nat.le_refl _
theorem thenF_yes {a : Option Fr} {f : FE → List UInt8 → Option Fr} {z : FE} {m : List UInt8} (h : thenF a f = some (.yes z m)) : ∃ x l, a = some (.yes x l) ∧ f x l = some (.yes z m) := by
 cases a with
 | none => cases h
 | some q =>
  cases q with
  | no c => cases h
  | yes x l => exact ⟨x, l, rfl, h⟩
theorem thenN_yes {a : Nr} {f : Int → List UInt8 → Option Fr} {z : FE} {m : List UInt8} (h : thenN a f = some (.yes z m)) : ∃ x l, a = .yes x l ∧ f x l = some (.yes z m) := by
 cases a with
 | no c => cases h
 | yes x l => exact ⟨x, l, rfl, h⟩
theorem thenW_yes {a : Wr} {f : List UInt8 → List UInt8 → Option Fr} {z : FE} {m : List UInt8} (h : thenW a f = some (.yes z m)) : ∃ x l, a = .yes x l ∧ f x l = some (.yes z m) := by
 cases a with
 | no c => cases h
 | yes x l => exact ⟨x, l, rfl, h⟩
theorem rd_len : ∀ (n : Nat) (j : Jb) (o : Nat) (l : List UInt8) (z : FE) (m : List UInt8), rd n j o l = some (.yes z m) → m.length ≤ l.length := by
 intro n
 induction n with
 | zero => intro j o l z m h; cases h
 | succ n ih =>
  intro j o l z m h
  have hnx := nx_le l
  cases j with
  | ex k =>
   rw [rd] at h
   split at h
   ·exact ih _ _ _ _ _ h
   ·obtain ⟨x, l1, h1, h2⟩ := thenF_yes h
    have := ih _ _ _ _ _ h1
    have := ih _ _ _ _ _ h2
    omega
  | lp k x =>
   rw [rd] at h
   split at h
   ·injection h with h; injection h with _ h; rw [h]; exact Nat.le_refl _
   ·obtain ⟨y, l1, h1, h2⟩ := thenF_yes h
    have := ih _ _ _ _ _ h1
    have := ih _ _ _ _ _ h2
    omega
  | on =>
   rw [rd] at h
   split at h
   ·obtain ⟨a, l1, h1, h⟩ := thenN_yes h
    obtain ⟨y, l2, h2, h⟩ := thenF_yes h
    have := numR_len h1
    have := ih _ _ _ _ _ h2
    injection h with h; injection h with _ h; subst h; omega
   split at h
   ·obtain ⟨a, l1, h1, h⟩ := thenN_yes h
    split at h
    ·obtain ⟨s, l2, h2, h⟩ := thenW_yes h
     obtain ⟨b, l3, h3, h⟩ := thenN_yes h
     obtain ⟨y, l4, h4, h⟩ := thenF_yes h
     have := numR_len h1
     have := wordR_len h2
     have := nx_le l1
     have := numR_len h3
     have := ih _ _ _ _ _ h4
     injection h with h; injection h with _ h; subst h; omega
    ·cases h
   ·exact ih _ _ _ _ _ h
  | sh =>
   rw [rd] at h
   obtain ⟨x, l1, h1, h2⟩ := thenF_yes h
   have := ih _ _ _ _ _ h1
   have := ih _ _ _ _ _ h2
   omega
  | sl x =>
   rw [rd] at h
   split at h
   ·obtain ⟨a, l1, h1, h⟩ := thenN_yes h
    have := natR_len h1
    have := ih _ _ _ _ _ h
    omega
   split at h
   ·obtain ⟨a, l1, h1, h⟩ := thenN_yes h
    have := natR_len h1
    have := ih _ _ _ _ _ h
    omega
   ·injection h with h; injection h with _ h; rw [h]; exact Nat.le_refl _
  | lf =>
   rw [rd] at h
   split at h
   ·split at h
    ·cases h
    ·obtain ⟨x, l1, h1, h⟩ := thenF_yes h
     split at h
     ·have := ih _ _ _ _ _ h1
      have := nx_le l1
      injection h with h; injection h with _ h; subst h; omega
     ·cases h
   ·split at h
    ·cases h
    ·obtain ⟨s, l1, h1, h⟩ := thenW_yes h
     obtain ⟨a, l2, h2, h⟩ := thenN_yes h
     obtain ⟨b, l3, h3, h⟩ := thenN_yes h
     have := nameR_len h1
     have := numR_len h2
     have := secR_len h3
     injection h with h; injection h with _ h; subst h; omega
def rank : Jb → Nat
 | .ex k => 7 - k
 | .lp _ _ => 1
 | .on => 4
 | .sh => 3
 | .sl _ => 1
 | .lf => 2
def jbOk : Jb → Prop
 | .ex k => k ≤ 2
 | .lp k _ => k ≤ 1
 | _ => True
theorem thenF_ne {a : Option Fr} {f : FE → List UInt8 → Option Fr} (h : a ≠ none) (h2 : ∀ x l, a = some (.yes x l) → f x l ≠ none) : thenF a f ≠ none := by
 cases a with
 | none => exact absurd rfl h
 | some q =>
  cases q with
  | no c => intro e; cases e
  | yes x l => exact h2 x l rfl
theorem thenN_ne {a : Nr} {f : Int → List UInt8 → Option Fr} (h2 : ∀ x l, a = .yes x l → f x l ≠ none) : thenN a f ≠ none := by
 cases a with
 | no c => intro e; cases e
 | yes x l => exact h2 x l rfl
theorem thenW_ne {a : Wr} {f : List UInt8 → List UInt8 → Option Fr} (h2 : ∀ x l, a = .yes x l → f x l ≠ none) : thenW a f ≠ none := by
 cases a with
 | no c => intro e; cases e
 | yes x l => exact h2 x l rfl
theorem some_ne {α : Type} {x : α} : some x ≠ none := fun e => by cases e
theorem rd_total : ∀ (N : Nat) (j : Jb) (o : Nat) (l : List UInt8), jbOk j → 8 * l.length + rank j < N → rd N j o l ≠ none := by
 intro N
 induction N with
 | zero => intro j o l hj h; omega
 | succ N ih =>
  intro j o l hj h
  have hlt : ∀ t : Tok, t ≠ [] → tk l = t → (nx l).length < l.length := fun t ht e => nx_lt l (fun e2 => by rw [e2, tk_nil] at e; exact ht e.symm)
  cases j with
  | ex k =>
   rw [rd]
   simp only [rank, jbOk] at h hj
   split
   ·exact ih _ _ _ trivial (by simp only [rank]; omega)
   ·refine thenF_ne (ih _ _ _ (by simp only [jbOk]; omega) (by simp only [rank]; omega)) fun x l1 h1 => ih _ _ _ (by simp only [jbOk]; omega) ?_
    have := rd_len _ _ _ _ _ _ h1
    simp only [rank]; omega
  | lp k x =>
   rw [rd]
   simp only [rank, jbOk] at h hj
   split
   ·exact some_ne
   ·rename_i p hp
    have hl := hlt (tk l) (fun e => by rw [e] at hp; unfold opK at hp; simp at hp) rfl
    refine thenF_ne (ih _ _ _ (by simp only [jbOk]; omega) (by simp only [rank]; omega)) fun x l1 h1 => ih _ _ _ (by simp only [jbOk]; omega) ?_
    have := rd_len _ _ _ _ _ _ h1
    simp only [rank]; omega
  | on =>
   rw [rd]
   simp only [rank] at h
   split
   ·rename_i e
    have hl := hlt _ (by simp) e
    refine thenN_ne fun a l1 h1 => thenF_ne (ih _ _ _ trivial ?_) fun _ _ _ => some_ne
    have := numR_len h1
    simp only [rank]; omega
   split
   ·rename_i e
    have hl := hlt _ (by simp) e
    refine thenN_ne fun a l1 h1 => ?_
    split
    ·refine thenW_ne fun s l2 h2 => thenN_ne fun b l3 h3 => thenF_ne (ih _ _ _ trivial ?_) fun _ _ _ => some_ne
     have := numR_len h1
     have := nx_le l1
     have := wordR_len h2
     have := numR_len h3
     simp only [rank]; omega
    ·exact some_ne
   ·exact ih _ _ _ trivial (by simp only [rank]; omega)
  | sh =>
   rw [rd]
   simp only [rank] at h
   refine thenF_ne (ih _ _ _ trivial (by simp only [rank]; omega)) fun x l1 h1 => ih _ _ _ trivial ?_
   have := rd_len _ _ _ _ _ _ h1
   simp only [rank]; omega
  | sl x =>
   rw [rd]
   simp only [rank] at h
   split
   ·rename_i e
    have hl := hlt _ (by simp) e
    refine thenN_ne fun a l1 h1 => ih _ _ _ trivial ?_
    have := natR_len h1
    simp only [rank]; omega
   split
   ·rename_i e
    have hl := hlt _ (by simp) e
    refine thenN_ne fun a l1 h1 => ih _ _ _ trivial ?_
    have := natR_len h1
    simp only [rank]; omega
   ·exact some_ne
  | lf =>
   rw [rd]
   simp only [rank] at h
   split
   ·rename_i e
    have hl := hlt _ (by simp) e
    split
    ·exact some_ne
    ·refine thenF_ne (ih _ _ _ (by simp only [jbOk]; omega) (by simp only [rank]; omega)) fun x l1 h1 => ?_
     split <;> exact some_ne
   ·split
    ·exact some_ne
    ·exact thenW_ne fun _ _ _ => thenN_ne fun _ _ _ => thenN_ne fun _ _ _ => some_ne
end Go.Proofs.YtabidjmmgnkhkaaGreatDoor
/- The text of a feast, as it is printed (plain). -/
namespace Go.Proofs.YtabidjmmgnkhkaaGreatDoor
open Go.Lib
set_option linter.unusedVariables false
def fLev (k : Int) : Nat := if k = 9 then 0 else if k = 10 ∨ k = 11 then 1 else if k = 8 ∨ k = 12 then 2 else if k = 7 then 3 else 4
def fOp (k : Int) : List UInt8 := if k = 9 then [111, 114] else if k = 10 then [97, 110, 100] else [110, 111, 116]
def fPar (L : Nat) (p : Int × List UInt8) : List UInt8 := if fLev p.1 < L then 40 :: (p.2 ++ [41]) else p.2
def fSh (a : Int) : List UInt8 := if a < 0 then 32 :: 45 :: 32 :: (itoa a).drop 1 else 32 :: 43 :: 32 :: itoa a
mutual
def fsh : FE → List UInt8
 | .node k a b nm _ _ ks =>
  if k = 1 then [100, 97, 116, 101, 32] ++ (nm.data.toList ++ 32 :: (itoa a ++ 32 :: itoa b))
  else if k = 2 then [109, 111, 110, 116, 104, 32] ++ (nm.data.toList ++ 32 :: itoa a)
  else if k = 3 then [119, 101, 101, 107, 100, 97, 121, 32] ++ itoa a
  else if k = 4 then [101, 118, 101, 114, 121, 32] ++ (itoa a ++ 32 :: itoa b)
  else if k = 5 then [100, 97, 121, 32] ++ itoa a
  else if k = 6 then [100, 97, 121, 115, 32] ++ (itoa a ++ 32 :: itoa b)
  else if k = 7 then fPar 3 ((fshL ks).getD 0 (1, [])) ++ fSh a
  else if k = 8 then [111, 110, 32] ++ (itoa a ++ 32 :: fPar 2 ((fshL ks).getD 0 (1, [])))
  else if k = 12 then [110, 116, 104, 32] ++ (itoa a ++ ([32, 105, 110, 32] ++ (nm.data.toList ++ 32 :: (itoa b ++ 32 :: fPar 2 ((fshL ks).getD 0 (1, []))))))
  else fPar (fLev k) ((fshL ks).getD 0 (1, [])) ++ 32 :: (fOp k ++ 32 :: fPar (fLev k + 1) ((fshL ks).getD 1 (1, [])))
def fshL : List FE → List (Int × List UInt8)
 | [] => []
 | .node k a b nm A c ks :: r => (k, fsh (.node k a b nm A c ks)) :: fshL r
end
def fkd : FE → Int
 | .node k _ _ _ _ _ _ => k
def fshT (L : Nat) (t : FE) : List UInt8 := fPar L (fkd t, fsh t)
theorem fshL_get : ∀ (ks : List FE) (i : Nat), i < ks.length → (fshL ks).getD i (1, []) = (fkd (ks.getD i fe0), fsh (ks.getD i fe0))
 | [], i, h => by simp at h
 | .node k a b nm A c l :: r, 0, _ => by simp [fshL, fkd]
 | .node k a b nm A c l :: r, i + 1, h => by
  have := fshL_get r i (by simpa using h)
  simpa [fshL] using this
theorem fsh_one (k a b : Int) (nm : ByteArray) (A : Option Addr) (c : Nat) (x : FE) (L : Nat) : fPar L ((fshL [x]).getD 0 (1, [])) = fshT L x := by
 rw [fshL_get [x] 0 (by simp)]; rfl
theorem fsh_two0 (x y : FE) (L : Nat) : fPar L ((fshL [x, y]).getD 0 (1, [])) = fshT L x := by
 rw [fshL_get [x, y] 0 (by simp)]; rfl
theorem fsh_two1 (x y : FE) (L : Nat) : fPar L ((fshL [x, y]).getD 1 (1, [])) = fshT L y := by
 rw [fshL_get [x, y] 1 (by simp)]; rfl
theorem fsh_7 (a b : Int) (nm : ByteArray) (A : Option Addr) (c : Nat) (x : FE) : fsh (.node 7 a b nm A c [x]) = fshT 3 x ++ fSh a := by
 rw [fsh]; simp only [show ¬ (7 : Int) = 1 by decide, show ¬ (7 : Int) = 2 by decide, show ¬ (7 : Int) = 3 by decide, show ¬ (7 : Int) = 4 by decide, show ¬ (7 : Int) = 5 by decide, show ¬ (7 : Int) = 6 by decide, if_false, if_true]
 rw [fsh_one 7 a b nm A c x]
theorem fsh_8 (a b : Int) (nm : ByteArray) (A : Option Addr) (c : Nat) (x : FE) : fsh (.node 8 a b nm A c [x]) = [111, 110, 32] ++ (itoa a ++ 32 :: fshT 2 x) := by
 rw [fsh]; simp only [show ¬ (8 : Int) = 1 by decide, show ¬ (8 : Int) = 2 by decide, show ¬ (8 : Int) = 3 by decide, show ¬ (8 : Int) = 4 by decide, show ¬ (8 : Int) = 5 by decide, show ¬ (8 : Int) = 6 by decide, show ¬ (8 : Int) = 7 by decide, if_false, if_true]
 rw [fsh_one 8 a b nm A c x]
theorem fsh_12 (a b : Int) (nm : ByteArray) (A : Option Addr) (c : Nat) (x : FE) : fsh (.node 12 a b nm A c [x]) = [110, 116, 104, 32] ++ (itoa a ++ ([32, 105, 110, 32] ++ (nm.data.toList ++ 32 :: (itoa b ++ 32 :: fshT 2 x)))) := by
 rw [fsh]; simp only [show ¬ (12 : Int) = 1 by decide, show ¬ (12 : Int) = 2 by decide, show ¬ (12 : Int) = 3 by decide, show ¬ (12 : Int) = 4 by decide, show ¬ (12 : Int) = 5 by decide, show ¬ (12 : Int) = 6 by decide, show ¬ (12 : Int) = 7 by decide, show ¬ (12 : Int) = 8 by decide, if_false, if_true]
 rw [fsh_one 12 a b nm A c x]
theorem fsh_bin (k a b : Int) (hk : k = 9 ∨ k = 10 ∨ k = 11) (nm : ByteArray) (A : Option Addr) (c : Nat) (x y : FE) : fsh (.node k a b nm A c [x, y]) = fshT (fLev k) x ++ 32 :: (fOp k ++ 32 :: fshT (fLev k + 1) y) := by
 rw [fsh, if_neg (by omega), if_neg (by omega), if_neg (by omega), if_neg (by omega), if_neg (by omega), if_neg (by omega), if_neg (by omega), if_neg (by omega), if_neg (by omega), fsh_two0, fsh_two1]
theorem fLev_le (k : Int) : fLev k ≤ 4 := by unfold fLev; (repeat' split) <;> omega
theorem fnode_cases {k a b : Int} {nm : ByteArray} {ks : List FE} (h : FeNode k a b nm ks.length) : (1 ≤ k ∧ k ≤ 6 ∧ ks = []) ∨ (k = 7 ∧ ∃ x, ks = [x]) ∨ (k = 8 ∧ ∃ x, ks = [x]) ∨ (k = 12 ∧ ∃ x, ks = [x]) ∨ ((k = 9 ∨ k = 10 ∨ k = 11) ∧ ∃ x y, ks = [x, y]) := by
 have h0 := h.k0
 have h1 := h.k1
 have hl := h.len
 unfold kidsN at hl
 by_cases h6 : k ≤ 6
 ·rw [if_neg (by omega), if_neg (by omega)] at hl
  exact .inl ⟨h0, h6, List.eq_nil_of_length_eq_zero hl⟩
 by_cases h7 : k = 7 ∨ k = 8 ∨ k = 12
 ·rw [if_pos h7] at hl
  have := List.length_eq_one_iff.1 hl
  rcases h7 with h7 | h7 | h7
  ·exact .inr (.inl ⟨h7, this⟩)
  ·exact .inr (.inr (.inl ⟨h7, this⟩))
  ·exact .inr (.inr (.inr (.inl ⟨h7, this⟩)))
 ·rw [if_neg h7, if_pos (by omega)] at hl
  match ks, hl with
  | [x, y], _ => exact .inr (.inr (.inr (.inr ⟨by omega, x, y, rfl⟩)))
theorem shp_kd (t : FE) : fkd (shp t) = fkd t := by cases t; rw [shp_node]; rfl
theorem fsh_shp {t : FE} (h : FeOk t) : fsh (shp t) = fsh t := by
 induction h with
 | @mk k a b nm A c ks node kids ih =>
  have hT : ∀ x ∈ ks, ∀ L, fshT L (shp x) = fshT L x := fun x hx L => by unfold fshT; rw [shp_kd, ih x hx]
  rw [shp_node]
  rcases fnode_cases node with ⟨h1, h2, rfl⟩ | ⟨rfl, x, rfl⟩ | ⟨rfl, x, rfl⟩ | ⟨rfl, x, rfl⟩ | ⟨hb, x, y, rfl⟩
  ·show fsh (.node k a b nm none 0 []) = _
   rw [fsh, fsh]
  ·show fsh (.node 7 a b nm none 0 [shp x]) = _
   rw [fsh_7, fsh_7, hT x (by simp)]
  ·show fsh (.node 8 a b nm none 0 [shp x]) = _
   rw [fsh_8, fsh_8, hT x (by simp)]
  ·show fsh (.node 12 a b nm none 0 [shp x]) = _
   rw [fsh_12, fsh_12, hT x (by simp)]
  ·show fsh (.node k a b nm none 0 [shp x, shp y]) = _
   rw [fsh_bin k a b hb, fsh_bin k a b hb, hT x (by simp), hT y (by simp)]
theorem FeOk.shp_ {t : FE} (h : FeOk t) : FeOk (shp t) := by
 induction h with
 | @mk k a b nm A c ks node kids ih =>
  rw [shp_node]
  refine .mk (by rw [List.length_map]; exact node) fun x hx => ?_
  obtain ⟨y, hy, rfl⟩ := List.mem_map.1 hx
  exact ih y hy
theorem shp_shape : ∀ (t : FE), fsz (shp t) = fsz t ∧ fht (shp t) = fht t ∧ fdh (shp t) = fdh t := by
 have key : ∀ (n : Nat) (t : FE), fsz t ≤ n → fsz (shp t) = fsz t ∧ fht (shp t) = fht t ∧ fdh (shp t) = fdh t := by
  intro n
  induction n with
  | zero => intro t h; cases t; rw [fsz] at h; omega
  | succ n ih =>
   intro t h
   obtain ⟨k, a, b, nm, A, c, ks⟩ := t
   rw [fsz] at h
   rw [shp_node, fsz, fsz, fht, fht, fdh, fdh]
   have hl : ∀ l : List FE, fszL l ≤ n → fszL (l.map shp) = fszL l ∧ fhtL (l.map shp) = fhtL l ∧ fdhL (l.map shp) = fdhL l := by
    intro l
    induction l with
    | nil => intro _; exact ⟨rfl, rfl, rfl⟩
    | cons x r ihl =>
     intro hx
     rw [fszL] at hx
     obtain ⟨h1, h2, h3⟩ := ihl (by omega)
     obtain ⟨g1, g2, g3⟩ := ih x (by omega)
     rw [List.map_cons, fszL, fszL, fhtL, fhtL, fdhL, fdhL, h1, h2, h3, g1, g2, g3]
     exact ⟨rfl, rfl, rfl⟩
   obtain ⟨h1, h2, h3⟩ := hl ks (by omega)
   rw [h1, h2, h3]
   exact ⟨rfl, rfl, rfl⟩
 exact fun t => key _ t (Nat.le_refl _)
theorem FeOk.of_shp : ∀ (n : Nat) (t : FE), fsz t ≤ n → FeOk (shp t) → FeOk t := by
 intro n
 induction n with
 | zero => intro t h; cases t; rw [fsz] at h; omega
 | succ n ih =>
  intro t hn h
  obtain ⟨k, a, b, nm, A, c, ks⟩ := t
  rw [fsz] at hn
  rw [shp_node] at h
  cases h with
  | mk node kids =>
   rw [List.length_map] at node
   refine .mk node fun x hx => ih x ?_ (kids _ (List.mem_map_of_mem hx))
   have : ∀ l : List FE, x ∈ l → fsz x ≤ fszL l := by
    intro l
    induction l with
    | nil => intro h; cases h
    | cons y r ihl =>
     intro h
     rw [fszL]
     rcases List.mem_cons.1 h with rfl | h
     ·omega
     ·have := ihl h; omega
   have := this ks hx
   omega
theorem FeGood.same {t u : FE} (h : FeGood t) (e : shp t = shp u) : FeGood u := by
 obtain ⟨a1, a2, a3⟩ := shp_shape t
 obtain ⟨b1, b2, b3⟩ := shp_shape u
 rw [e] at a1 a2 a3
 refine ⟨FeOk.of_shp _ u (Nat.le_refl _) (e ▸ h.ok.shp_), ?_, ?_, ?_⟩
 ·have := h.sz; omega
 ·have := h.ht; omega
 ·have := h.dh; omega
end Go.Proofs.YtabidjmmgnkhkaaGreatDoor
