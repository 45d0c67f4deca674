/- FBlank, FBlank2, FBlank3, FtRep -/
import Derived.Lib.Replace
import Derived.Test.YtabidjmmgnkhkaaGreatDoorGFBack
/- Spaces doubled, and parentheses around a feast's text (plain). -/
namespace Go.Proofs.YtabidjmmgnkhkaaGreatDoor
open Go.Lib
set_option linter.unusedVariables false
def dbl (l : List UInt8) : List UInt8 := l.flatMap fun b => if b = 32 then [32, 32] else [b]
def Em (l : List UInt8) : List UInt8 := dbl l ++ [32, 41]
def Dm (l : List UInt8) : List UInt8 := sk (Em l)
theorem dbl_no (b : UInt8) (r : List UInt8) (h : b ≠ 32) : dbl (b :: r) = b :: dbl r := by
 unfold dbl; rw [List.flatMap_cons, if_neg h]; rfl
theorem dbl_sp (r : List UInt8) : dbl (32 :: r) = 32 :: 32 :: dbl r := by
 unfold dbl; rw [List.flatMap_cons, if_pos rfl]; rfl
theorem Em_no (b : UInt8) (r : List UInt8) (h : b ≠ 32) : Em (b :: r) = b :: Em r := by unfold Em; rw [dbl_no b r h]; rfl
theorem Dm_sk (l : List UInt8) : Dm (sk l) = Dm l := by
 unfold Dm
 induction l with
 | nil => rfl
 | cons b r ih =>
  by_cases h : b = 32
  ·subst h
   rw [sk_sp, ih]
   unfold Em
   rw [dbl_sp]
   rfl
  ·rw [sk_of b r (by rw [beq_eq_false_iff_ne]; exact h)]
theorem Dm_nil : Dm [] = [41] := rfl
def Fit (l : List UInt8) : Prop := sk l = l
theorem fit_sk (l : List UInt8) : Fit (sk l) := by
 unfold Fit
 induction l with
 | nil => rfl
 | cons b r ih =>
  by_cases h : b = 32
  ·subst h; rw [sk_sp]; exact ih
  ·rw [sk_of b r (by rw [beq_eq_false_iff_ne]; exact h), sk_of b r (by rw [beq_eq_false_iff_ne]; exact h)]
theorem fit_cons {b : UInt8} {r : List UInt8} (h : Fit (b :: r)) : b ≠ 32 := by
 intro e
 subst e
 unfold Fit at h
 rw [sk_sp] at h
 have := congrArg List.length h
 have h2 := sk_len r
 rw [List.length_cons] at this
 omega
theorem Dm_of {l : List UInt8} (h : Fit l) (hne : l ≠ []) : Dm l = Em l := by
 cases l with
 | nil => exact absurd rfl hne
 | cons b r =>
  unfold Dm
  rw [Em_no b r (fit_cons h), sk_of b _ (by rw [beq_eq_false_iff_ne]; exact fit_cons h)]
theorem tw_Em (p : UInt8 → Bool) (hp : p 32 = false) : ∀ l : List UInt8, (Em l).takeWhile p = l.takeWhile p
 | [] => by unfold Em dbl; simp [hp]
 | b :: r => by
  by_cases h : b = 32
  ·subst h
   unfold Em
   rw [dbl_sp]
   simp [hp]
  ·rw [Em_no b r h, List.takeWhile_cons, List.takeWhile_cons]
   split
   ·rw [tw_Em p hp r]
   ·rfl
theorem drop_Em (p : UInt8 → Bool) (hp : p 32 = false) : ∀ l : List UInt8, (Em l).drop (l.takeWhile p).length = Em (l.drop (l.takeWhile p).length)
 | [] => rfl
 | b :: r => by
  rw [List.takeWhile_cons]
  split
  ·rename_i hb
   have h : b ≠ 32 := fun e => by rw [e, hp] at hb; cases hb
   rw [Em_no b r h]
   simpa using drop_Em p hp r
  ·rfl
theorem low32 : isLow 32 = false := by decide
theorem dig32 : isDig 32 = false := by decide
theorem tk_Em {l : List UInt8} (h : Fit l) (hne : l ≠ []) : tk (Em l) = tk l ∧ (Em l).drop (tk l).length = Em (l.drop (tk l).length) := by
 have d1 := drop_Em isLow low32 l
 have d2 := drop_Em isDig dig32 l
 unfold tk
 rw [tw_Em isLow low32, tw_Em isDig dig32]
 split
 ·exact ⟨rfl, d1⟩
 split
 ·exact ⟨rfl, d2⟩
 ·cases l with
  | nil => exact absurd rfl hne
  | cons b r =>
   rw [Em_no b r (fit_cons h)]
   exact ⟨by simp, by simp⟩
theorem tk_Dm {l : List UInt8} (h : Fit l) (hne : l ≠ []) : tk (Dm l) = tk l ∧ nx (Dm l) = Dm (nx l) := by
 rw [Dm_of h hne]
 obtain ⟨h1, h2⟩ := tk_Em h hne
 refine ⟨h1, ?_⟩
 unfold nx
 rw [h1, h2, Dm_sk]
 rfl
theorem natR_Em (sg : Bool) (l : List UInt8) : natR sg (Em l) = match natR sg l with | .no c => .no c | .yes n l' => .yes n (Dm l') := by
 unfold natR dg
 rw [tw_Em isDig dig32, drop_Em isDig dig32]
 by_cases h1 : l.takeWhile isDig = []
 ·rw [if_pos h1, if_pos h1]
 rw [if_neg h1, if_neg h1]
 by_cases h2 : 9 < (l.takeWhile isDig).length
 ·rw [if_pos h2, if_pos h2]
 rw [if_neg h2, if_neg h2]
 show Nr.yes _ _ = Nr.yes _ _
 rw [Dm_sk]
 rfl
def mapN : Nr → Nr
 | .no c => .no c
 | .yes n l => .yes n (Dm l)
def mapW : Wr → Wr
 | .no c => .no c
 | .yes s l => .yes s (Dm l)
theorem natR_m (sg : Bool) (l : List UInt8) : natR sg (Em l) = mapN (natR sg l) := by rw [natR_Em]; cases natR sg l <;> rfl
theorem natR_Dm {l : List UInt8} (h : Fit l) : natR false (Dm l) = mapN (natR false l) := by
 by_cases hne : l = []
 ·subst hne; rfl
 ·rw [Dm_of h hne]; exact natR_m false l
theorem numR_Dm {l : List UInt8} (h : Fit l) : numR (Dm l) = mapN (numR l) := by
 by_cases hne : l = []
 ·subst hne; rfl
 ·unfold numR
  obtain ⟨h1, h2⟩ := tk_Dm h hne
  rw [h1]
  by_cases h3 : tk l = [45]
  ·rw [if_pos h3, if_pos h3, Dm_of h hne]
   cases l with
   | nil => exact absurd rfl hne
   | cons b r =>
    rw [Em_no b r (fit_cons h)]
    exact natR_m true r
  ·rw [if_neg h3, if_neg h3]; exact natR_Dm h
theorem wordR_Dm {l : List UInt8} (h : Fit l) : wordR (Dm l) = mapW (wordR l) := by
 by_cases hne : l = []
 ·subst hne; rfl
 ·unfold wordR
  obtain ⟨h1, h2⟩ := tk_Dm h hne
  rw [h1, h2]
  split <;> rfl
theorem nameR_Dm {b : Bool} {l : List UInt8} (h : Fit l) : nameR b (Dm l) = mapW (nameR b l) := by
 cases b
 ·rfl
 ·exact wordR_Dm h
theorem secR_Dm {b : Bool} {l : List UInt8} (h : Fit l) : secR b (Dm l) = mapN (secR b l) := by
 cases b
 ·rfl
 ·exact numR_Dm h
theorem fit_nx (l : List UInt8) : Fit (nx l) := fit_sk _
theorem fit_nat {sg : Bool} {l : List UInt8} {n : Int} {l' : List UInt8} (h : natR sg l = .yes n l') : Fit l' := by
 unfold natR at h
 split at h
 ·cases h
 split at h
 ·cases h
 injection h with _ h
 rw [← h]; exact fit_sk _
theorem fit_num {l : List UInt8} {n : Int} {l' : List UInt8} (h : numR l = .yes n l') : Fit l' := by
 unfold numR at h
 split at h <;> exact fit_nat h
theorem fit_word {l s l' : List UInt8} (h : wordR l = .yes s l') : Fit l' := by
 unfold wordR at h
 split at h
 ·injection h with _ h; rw [← h]; exact fit_nx l
 ·cases h
theorem fit_name {b : Bool} {l s l' : List UInt8} (hl : Fit l) (h : nameR b l = .yes s l') : Fit l' := by
 cases b
 ·injection h with _ h; rw [← h]; exact hl
 ·exact fit_word h
theorem fit_sec {b : Bool} {l : List UInt8} {n : Int} {l' : List UInt8} (hl : Fit l) (h : secR b l = .yes n l') : Fit l' := by
 cases b
 ·injection h with _ h; rw [← h]; exact hl
 ·exact fit_num h
theorem tk_same {l : List UInt8} (h : Fit l) (t : Tok) (h1 : t ≠ [41]) (h2 : t ≠ []) : (tk (Dm l) = t) ↔ (tk l = t) := by
 by_cases hne : l = []
 ·subst hne
  rw [Dm_nil, show tk [41] = [41] from rfl, tk_nil]
  exact ⟨fun e => absurd e.symm h1, fun e => absurd e.symm h2⟩
 ·rw [(tk_Dm h hne).1]
theorem tk_nil_of {l : List UInt8} (t : Tok) (h2 : t ≠ []) (h : tk l = t) : l ≠ [] := fun e => by rw [e, tk_nil] at h; exact h2 h.symm
end Go.Proofs.YtabidjmmgnkhkaaGreatDoor
/- Spaces doubled, and parentheses around a feast's text: it is read alike, or is too large (plain). -/
namespace Go.Proofs.YtabidjmmgnkhkaaGreatDoor
open Go.Lib
set_option linter.unusedVariables false
def Alike (r : Option Fr) (f : FE) (l' : List UInt8) : Prop := r = some (.yes f (Dm l')) ∨ r = some (.no 2)
theorem alike_then {a : Option Fr} {x : FE} {l1 : List UInt8} {g : FE → List UInt8 → Option Fr} {f : FE} {l' : List UInt8} (h : Alike a x l1) (h2 : Alike (g x (Dm l1)) f l') : Alike (thenF a g) f l' := by
 rcases h with h | h
 ·rw [h]; exact h2
 ·rw [h]; exact .inr rfl
theorem opK_Dm {l : List UInt8} (h : Fit l) (k : Nat) : opK k (tk (Dm l)) = opK k (tk l) := by
 by_cases hne : l = []
 ·subst hne
  rw [Dm_nil, show tk [41] = [41] from rfl, tk_nil]
  unfold opK
  simp
 ·rw [(tk_Dm h hne).1]
theorem blank_all : ∀ (n : Nat) (j : Jb) (o : Nat) (l : List UInt8) (f : FE) (l' : List UInt8), Fit l → rd n j o l = some (.yes f l') → Fit l' ∧ Alike (rd n j (o + 1) (Dm l)) f l' := by
 intro n
 induction n with
 | zero => intro j o l f l' _ h; cases h
 | succ n ih =>
  intro j o l f l' hl h
  cases j with
  | ex k =>
   rw [rd] at h ⊢
   by_cases hk : k = 2
   ·rw [if_pos hk] at h ⊢; exact ih _ _ _ _ _ hl h
   rw [if_neg hk] at h ⊢
   obtain ⟨x, l1, h1, h2⟩ := thenF_yes h
   obtain ⟨f1, a1⟩ := ih _ _ _ _ _ hl h1
   obtain ⟨f2, a2⟩ := ih _ _ _ _ _ f1 h2
   exact ⟨f2, alike_then a1 a2⟩
  | lp k x =>
   rw [rd] at h ⊢
   rw [opK_Dm hl]
   cases hp : opK k (tk l) with
   | none =>
    rw [hp] at h
    injection h with h
    injection h with h1 h2
    subst h1 h2
    exact ⟨hl, .inl rfl⟩
   | some p =>
    rw [hp] at h
    have hne : l ≠ [] := fun e => by rw [e, tk_nil] at hp; unfold opK at hp; simp at hp
    obtain ⟨y, l1, h1, h2⟩ := thenF_yes h
    obtain ⟨f1, a1⟩ := ih _ _ _ _ _ (fit_nx l) h1
    obtain ⟨f2, a2⟩ := ih _ _ _ _ _ f1 h2
    rw [← (tk_Dm hl hne).2] at a1
    exact ⟨f2, alike_then a1 a2⟩
  | on =>
   rw [rd] at h ⊢
   by_cases h1 : tk l = [111, 110]
   ·have hne := tk_nil_of _ (by decide) h1
    rw [if_pos h1] at h
    rw [if_pos ((tk_same hl _ (by decide) (by decide)).2 h1), (tk_Dm hl hne).2, numR_Dm (fit_nx l)]
    obtain ⟨a, l1, e1, h⟩ := thenN_yes h
    rw [e1]
    obtain ⟨y, l2, e2, h⟩ := thenF_yes h
    obtain ⟨f1, a1⟩ := ih _ _ _ _ _ (fit_num e1) e2
    injection h with h
    injection h with h3 h4
    subst h3 h4
    exact ⟨f1, alike_then a1 (.inl rfl)⟩
   rw [if_neg h1] at h
   rw [if_neg (fun e => h1 ((tk_same hl _ (by decide) (by decide)).1 e))]
   by_cases h2 : tk l = [110, 116, 104]
   ·have hne := tk_nil_of _ (by decide) h2
    rw [if_pos h2] at h
    rw [if_pos ((tk_same hl _ (by decide) (by decide)).2 h2), (tk_Dm hl hne).2, numR_Dm (fit_nx l)]
    obtain ⟨a, l1, e1, h⟩ := thenN_yes h
    rw [e1]
    have hf1 := fit_num e1
    by_cases h3 : tk l1 = [105, 110]
    ·have hne1 := tk_nil_of _ (by decide) h3
     rw [if_pos h3] at h
     show _ ∧ Alike (if tk (Dm l1) = [105, 110] then _ else _) f l'
     rw [if_pos ((tk_same hf1 _ (by decide) (by decide)).2 h3), (tk_Dm hf1 hne1).2, wordR_Dm (fit_nx l1)]
     obtain ⟨s, l2, e2, h⟩ := thenW_yes h
     rw [e2]
     obtain ⟨b, l3, e3, h⟩ := thenN_yes h
     show _ ∧ Alike (thenN (numR (Dm l2)) _) f l'
     rw [numR_Dm (fit_word e2), e3]
     obtain ⟨y, l4, e4, h⟩ := thenF_yes h
     obtain ⟨f1, a1⟩ := ih _ _ _ _ _ (fit_num e3) e4
     injection h with h
     injection h with h5 h6
     subst h5 h6
     exact ⟨f1, alike_then a1 (.inl rfl)⟩
    ·rw [if_neg h3] at h; cases h
   rw [if_neg h2] at h
   rw [if_neg (fun e => h2 ((tk_same hl _ (by decide) (by decide)).1 e))]
   exact ih _ _ _ _ _ hl h
  | sh =>
   rw [rd] at h ⊢
   obtain ⟨x, l1, h1, h2⟩ := thenF_yes h
   obtain ⟨f1, a1⟩ := ih _ _ _ _ _ hl h1
   obtain ⟨f2, a2⟩ := ih _ _ _ _ _ f1 h2
   exact ⟨f2, alike_then a1 a2⟩
  | sl x =>
   rw [rd] at h ⊢
   by_cases h1 : tk l = [43]
   ·have hne := tk_nil_of _ (by decide) h1
    rw [if_pos h1] at h
    rw [if_pos ((tk_same hl _ (by decide) (by decide)).2 h1), (tk_Dm hl hne).2, natR_Dm (fit_nx l)]
    obtain ⟨a, l1, e1, h⟩ := thenN_yes h
    rw [e1]
    exact ih _ _ _ _ _ (fit_nat e1) h
   rw [if_neg h1] at h
   rw [if_neg (fun e => h1 ((tk_same hl _ (by decide) (by decide)).1 e))]
   by_cases h2 : tk l = [45]
   ·have hne := tk_nil_of _ (by decide) h2
    rw [if_pos h2] at h
    rw [if_pos ((tk_same hl _ (by decide) (by decide)).2 h2), (tk_Dm hl hne).2, natR_Dm (fit_nx l)]
    obtain ⟨a, l1, e1, h⟩ := thenN_yes h
    rw [e1]
    exact ih _ _ _ _ _ (fit_nat e1) h
   rw [if_neg h2] at h
   rw [if_neg (fun e => h2 ((tk_same hl _ (by decide) (by decide)).1 e))]
   injection h with h
   injection h with h3 h4
   subst h3 h4
   exact ⟨hl, .inl rfl⟩
  | lf =>
   rw [rd] at h ⊢
   by_cases h1 : tk l = [40]
   ·have hne := tk_nil_of _ (by decide) h1
    rw [if_pos h1] at h
    rw [if_pos ((tk_same hl _ (by decide) (by decide)).2 h1), (tk_Dm hl hne).2]
    by_cases h2 : 20 < o + 1
    ·rw [if_pos h2] at h; cases h
    rw [if_neg h2] at h
    obtain ⟨x, l1, e1, h⟩ := thenF_yes h
    obtain ⟨f1, a1⟩ := ih _ _ _ _ _ (fit_nx l) e1
    by_cases h3 : tk l1 = [41]
    ·rw [if_pos h3] at h
     injection h with h
     injection h with h5 h6
     subst h5 h6
     have hne1 := tk_nil_of _ (by decide) h3
     obtain ⟨g1, g2⟩ := tk_Dm f1 hne1
     refine ⟨fit_nx l1, ?_⟩
     by_cases h4 : 20 < o + 1 + 1
     ·rw [if_pos h4]; exact .inr rfl
     rw [if_neg h4]
     refine alike_then a1 ?_
     show Alike (if tk (Dm l1) = [41] then some (Fr.yes x (nx (Dm l1))) else _) x (nx l1)
     rw [g1, if_pos h3, g2]
     exact .inl rfl
    ·rw [if_neg h3] at h; cases h
   rw [if_neg h1] at h
   rw [if_neg (fun e => h1 ((tk_same hl _ (by decide) (by decide)).1 e))]
   cases hk : leafK (tk l) with
   | none => rw [hk] at h; cases h
   | some k =>
    have hne := tk_nil_of _ (leafK_word hk).2.1 rfl
    obtain ⟨g1, g2⟩ := tk_Dm hl hne
    rw [hk] at h
    rw [g1, hk, g2]
    obtain ⟨s, l1, e1, h⟩ := thenW_yes h
    obtain ⟨a, l2, e2, h⟩ := thenN_yes h
    obtain ⟨b, l3, e3, h⟩ := thenN_yes h
    have hf1 := fit_name (fit_nx l) e1
    have hf2 := fit_num e2
    show _ ∧ Alike (thenW (nameR (usN k) (Dm (nx l))) _) f l'
    rw [nameR_Dm (fit_nx l), e1]
    show _ ∧ Alike (thenN (numR (Dm l1)) _) f l'
    rw [numR_Dm hf1, e2]
    show _ ∧ Alike (thenN (secR (usB k) (Dm l2)) _) f l'
    rw [secR_Dm hf2, e3]
    injection h with h
    injection h with h5 h6
    subst h5 h6
    exact ⟨fit_sec hf2 e3, .inl rfl⟩
end Go.Proofs.YtabidjmmgnkhkaaGreatDoor
/- A feast's text with its spaces doubled, in parentheses, is read alike or is too large (plain). -/
namespace Go.Proofs.YtabidjmmgnkhkaaGreatDoor
open Go.Lib
set_option linter.unusedVariables false
theorem index_sp (r : List UInt8) : index (32 :: r) [32] = ((0 : Nat) : Int) := by
 rw [index, if_pos (by simp [List.isPrefixOf])]
 rfl
theorem index_nosp (b : UInt8) (r : List UInt8) (h : b ≠ 32) : index (b :: r) [32] = if index r [32] == -1 then -1 else index r [32] + 1 := by
 rw [index, if_neg (by simp [List.isPrefixOf]; exact fun e => h e.symm)]
theorem count_nosp (b : UInt8) (r : List UInt8) (h : b ≠ 32) : count (b :: r) [32] = count r [32] := by
 by_cases hm : index r [32] = -1
 ·rw [count_miss hm, count_miss]
  rw [index_nosp b r h, hm]; rfl
 ·have hg := index_ge r [32]
  obtain ⟨i, hi⟩ : ∃ i : Nat, index r [32] = i := ⟨(index r [32]).toNat, by omega⟩
  have hi2 : index (b :: r) [32] = ((i + 1 : Nat) : Int) := by
   rw [index_nosp b r h, if_neg (by rw [beq_iff_eq]; exact hm), hi]; omega
  rw [count_hit (by decide) hi, count_hit (by decide) hi2]
  rfl
theorem replaceK_nosp (new : List UInt8) (k : Nat) (b : UInt8) (r : List UInt8) (h : b ≠ 32) : replaceK [32] new k (b :: r) = b :: replaceK [32] new k r := by
 cases k with
 | zero => rw [replaceK, replaceK]
 | succ k =>
  by_cases hm : index r [32] = -1
  ·have h1 : index (b :: r) [32] = -1 := by rw [index_nosp b r h, hm]; rfl
   rw [replaceK, replaceK, if_pos (by rw [h1]; rfl), if_pos (by rw [hm]; rfl)]
  ·have hg := index_ge r [32]
   obtain ⟨i, hi⟩ : ∃ i : Nat, index r [32] = i := ⟨(index r [32]).toNat, by omega⟩
   have hi2 : index (b :: r) [32] = ((i + 1 : Nat) : Int) := by
    rw [index_nosp b r h, if_neg (by rw [beq_iff_eq]; exact hm), hi]; omega
   rw [replaceK_hit _ _ _ _ _ hi, replaceK_hit _ _ _ _ _ hi2, List.take_succ_cons]
   rfl
theorem replaceK_dbl : ∀ s : List UInt8, replaceK [32] [32, 32] (count s [32]) s = dbl s
 | [] => by
  rw [show count [] [32] = 0 from rfl, replaceK]; rfl
 | b :: r => by
  by_cases h : b = 32
  ·subst h
   rw [count_hit (by decide) (index_sp r), Nat.add_comm 1, replaceK_hit _ _ _ _ 0 (index_sp r), dbl_sp]
   show [32, 32] ++ replaceK [32] [32, 32] (count r [32]) r = _
   rw [replaceK_dbl r]
   rfl
  ·rw [count_nosp b r h, replaceK_nosp _ _ b r h, replaceK_dbl r, dbl_no b r h]
theorem replaceAll_dbl (s : List UInt8) : replaceAll s [32] [32, 32] = dbl s := by
 unfold replaceAll replace replaceNum
 rw [if_neg (by decide), if_pos (.inl (by decide))]
 exact replaceK_dbl s
theorem dbl_len : ∀ s : List UInt8, (dbl s).length ≤ 2 * s.length
 | [] => by decide
 | b :: r => by
  have := dbl_len r
  by_cases h : b = 32
  ·subst h; rw [dbl_sp]; simp only [List.length_cons]; omega
  ·rw [dbl_no b r h]; simp only [List.length_cons]; omega
def Par (r : Option Fr) (f : FE) : Prop := r = some (.yes f []) ∨ r = some (.no 2)
theorem par_then {a : Option Fr} {f : FE} {g : FE → List UInt8 → Option Fr} (h : Par a f) (h2 : g f [] = some (.yes f [])) : Par (thenF a g) f := by
 rcases h with h | h
 ·rw [h]; exact .inl h2
 ·rw [h]; exact .inr rfl
theorem blank_par {s : List UInt8} {f : FE} {n : Nat} (h : rd n (.ex 0) 0 (sk s) = some (.yes f [])) : Par (rd (n + 6) (.ex 0) 0 (sk (32 :: 40 :: 32 :: 32 :: (dbl s ++ [32, 41])))) f := by
 have e0 : sk (32 :: 40 :: 32 :: 32 :: (dbl s ++ [32, 41])) = 40 :: 32 :: 32 :: Em s := by
  rw [sk_sp, sk_of 40 _ (by decide)]; rfl
 have t0 : tk (40 :: 32 :: 32 :: Em s) = [40] := tk_one 40 _ (by decide) (by decide)
 have n0 : nx (40 :: 32 :: 32 :: Em s) = Dm (sk s) := by
  unfold nx
  rw [t0, Dm_sk]
  show sk (32 :: 32 :: Em s) = _
  rw [sk_sp, sk_sp]
  rfl
 obtain ⟨_, a⟩ := blank_all n (.ex 0) 0 (sk s) f [] (fit_sk s) h
 rw [e0]
 generalize 40 :: 32 :: 32 :: Em s = L at *
 have p1 : Par (rd (n + 1) .lf 0 L) f := by
  rw [rd, if_pos t0, if_neg (by omega), n0]
  rcases a with a | a
  ·rw [a]; exact .inl rfl
  ·rw [a]; exact .inr rfl
 have p2 : Par (rd (n + 2) .sh 0 L) f := by
  rw [rd]
  exact par_then p1 rfl
 have p3 : Par (rd (n + 3) .on 0 L) f := by
  rw [rd, if_neg (by rw [t0]; decide), if_neg (by rw [t0]; decide)]
  exact p2
 have p4 : Par (rd (n + 4) (.ex 2) 0 L) f := by
  rw [rd, if_pos rfl]
  exact p3
 have p5 : Par (rd (n + 5) (.ex 1) 0 L) f := by
  rw [rd, if_neg (by decide)]
  exact par_then p4 rfl
 rw [rd, if_neg (by decide)]
 exact par_then p5 rfl
end Go.Proofs.YtabidjmmgnkhkaaGreatDoor
/- Contract of strings.ReplaceAll of spaces; the text in parentheses. -/
namespace Go.Proofs.YtabidjmmgnkhkaaGreatDoor
open Go Go.RowKit
set_option linter.unusedVariables false
theorem replace_sp (s : ByteArray) (hl : s.size ≤ 250) (w : World) (h : Shp w) :
  Calls Tryz.prog 17 #[.string s, .string ⟨#[32]⟩, .string ⟨#[32, 32]⟩] w fun e w' => e = .returned (.string (str (dbl s.data.toList))) ∧ Below w.heap.size w w' := by
 obtain ⟨m, hm⟩ := h
 refine (strings_ReplaceAll s ⟨#[32]⟩ ⟨#[32, 32]⟩ m w (by omega) hm (by decide) ?_).mono ?_
 ·have h1 : Lib.countB s ⟨#[32]⟩ ≤ s.data.toList.length + 1 := Lib.count_le _ _
  have h2 : (⟨#[32, 32]⟩ : ByteArray).size = 2 := rfl
  have h3 : s.data.toList.length = s.size := Array.length_toList
  rw [h2]
  omega
 ·rintro e w' ⟨he, hb⟩
  rw [show Lib.replaceAll s.data.toList (⟨#[32]⟩ : ByteArray).data.toList (⟨#[32, 32]⟩ : ByteArray).data.toList = dbl s.data.toList from replaceAll_dbl _] at he
  exact ⟨he, hb⟩
theorem par_text (l : List UInt8) : (⟨#[32, 40, 32, 32]⟩ ++ str l) ++ ⟨#[32, 41]⟩ = str (32 :: 40 :: 32 :: 32 :: (l ++ [32, 41])) := by
 rw [show (⟨#[32, 40, 32, 32]⟩ : ByteArray) = str [32, 40, 32, 32] from rfl, show (⟨#[32, 41]⟩ : ByteArray) = str [32, 41] from rfl, str_append, str_append]
 rfl
theorem dbl_size (s : ByteArray) (h : s.size ≤ 250) : (str (dbl s.data.toList)).size ≤ 500 := by
 have h1 := dbl_len s.data.toList
 have h3 : s.data.toList.length = s.size := Array.length_toList
 rw [str_size]
 omega
end Go.Proofs.YtabidjmmgnkhkaaGreatDoor
