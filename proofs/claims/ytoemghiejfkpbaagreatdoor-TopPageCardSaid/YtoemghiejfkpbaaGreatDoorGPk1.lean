/- Pk1, Pk2, Pk3, Pk4, Pk5, Pk6, Pk7, Pk8, Pk9, Pk10, Pk11 -/
import Derived.Laws.IdiomStrings
import Derived.Laws.Cover4
import Derived.Test.YtoemghiejfkpbaaGreatDoorGPcJoin
import Derived.Test.YtoemghiejfkpbaaGreatDoorGFlowAt
import Derived.Test.YtoemghiejfkpbaaGreatDoorGPgCtl
/- Runes of a text, and back; a line cut by columns gives the texts of its columns again. -/
namespace Go.Proofs.YtoemghiejfkpbaaGreatDoor
open Go Go.Lib
set_option linter.unusedVariables false
def runesG : Nat → List UInt8 → List Nat
 | 0, _ => []
 | f + 1, l => if l = [] then [] else (decodeL l).1 :: runesG f (l.drop (decodeL l).2)
def runesT (l : List UInt8) : List Nat := runesG l.length l
theorem runesG_nil (f : Nat) : runesG f [] = [] := by cases f <;> rfl
theorem runesG_fuel : ∀ (f g : Nat) (l : List UInt8), l.length ≤ f → l.length ≤ g → runesG f l = runesG g l
 | 0, g, l, h, _ => by
  have : l = [] := List.eq_nil_of_length_eq_zero (by omega)
  subst this
  rw [runesG_nil, runesG_nil]
 | f + 1, 0, l, _, h => by
  have : l = [] := List.eq_nil_of_length_eq_zero (by omega)
  subst this
  rw [runesG_nil, runesG_nil]
 | f + 1, g + 1, l, h1, h2 => by
  simp only [runesG]
  by_cases hl : l = []
  ·rw [if_pos hl, if_pos hl]
  ·rw [if_neg hl, if_neg hl]
   have hp := decL_pos l
   have hn : 1 ≤ l.length := by cases l with | nil => exact absurd rfl hl | cons _ _ => simp
   rw [runesG_fuel f g (l.drop (decodeL l).2) (by rw [List.length_drop]; omega) (by rw [List.length_drop]; omega)]
theorem runesT_nil : runesT [] = [] := rfl
theorem runesT_step (l : List UInt8) (h : l ≠ []) : runesT l = (decodeL l).1 :: runesT (l.drop (decodeL l).2) := by
 have hp := decL_pos l
 have hn : 1 ≤ l.length := by cases l with | nil => exact absurd rfl h | cons _ _ => simp
 unfold runesT
 rw [runesG_fuel l.length (l.length - 1 + 1) l (Nat.le_refl _) (by omega)]
 simp only [runesG]
 rw [if_neg h, runesG_fuel (l.length - 1) (l.drop (decodeL l).2).length _ (by rw [List.length_drop]; omega) (Nat.le_refl _)]
theorem runesT_sepN : ∀ (n : Nat) (a r : List UInt8), a.length ≤ n → Sep r → runesT (a ++ r) = runesT a ++ runesT r
 | 0, a, r, h, _ => by
  have : a = [] := List.eq_nil_of_length_eq_zero (by omega)
  subst this
  rw [List.nil_append, runesT_nil, List.nil_append]
 | n + 1, a, r, h, hs => by
  by_cases ha : a = []
  ·subst ha
   rw [List.nil_append, runesT_nil, List.nil_append]
  ·obtain ⟨e1, e2⟩ := decL_sep a r ha hs
   have hp := decL_pos a
   have har : a ++ r ≠ [] := fun e => ha (List.append_eq_nil_iff.1 e).1
   have hdrop : (a ++ r).drop (decodeL a).2 = a.drop (decodeL a).2 ++ r := List.drop_append_of_le_length e2
   have i1 := runesT_sepN n (a.drop (decodeL a).2) r (by rw [List.length_drop]; omega) hs
   rw [runesT_step (a ++ r) har, e1, hdrop, i1, runesT_step a ha, List.cons_append]
theorem runesT_sep (a r : List UInt8) (hs : Sep r) : runesT (a ++ r) = runesT a ++ runesT r := runesT_sepN a.length a r (Nat.le_refl _) hs
theorem runesT_len : ∀ (n : Nat) (l : List UInt8), l.length ≤ n → (runesT l).length = rcT l
 | 0, l, h => by
  have : l = [] := List.eq_nil_of_length_eq_zero (by omega)
  subst this
  rfl
 | n + 1, l, h => by
  by_cases hl : l = []
  ·subst hl; rfl
  ·have hp := decL_pos l
   have hn : 1 ≤ l.length := by cases l with | nil => exact absurd rfl hl | cons _ _ => simp
   rw [runesT_step l hl, rcT_step l hl, List.length_cons, runesT_len n _ (by rw [List.length_drop]; omega)]
   omega
theorem runes_rc (l : List UInt8) : (runesT l).length = rcT l := runesT_len _ l (Nat.le_refl _)
theorem runesT_cons (b : UInt8) (t : List UInt8) (h : b.toNat < 128) : runesT (b :: t) = b.toNat :: runesT t := by
 rw [runesT_step _ (by simp), decodeL_ascii b t h]
 rfl
theorem runesT_spaces (n : Nat) (t : List UInt8) : runesT (List.replicate n 32 ++ t) = List.replicate n 32 ++ runesT t := by
 induction n with
 | zero => simp
 | succ n ih =>
  rw [List.replicate_succ, List.cons_append, runesT_cons _ _ (by decide), ih, List.replicate_succ, List.cons_append]
  rfl
theorem runesT_le : ∀ (n : Nat) (l : List UInt8), l.length ≤ n → ∀ r ∈ runesT l, r ≤ 1114111
 | 0, l, h, r, hr => by
  have : l = [] := List.eq_nil_of_length_eq_zero (by omega)
  subst this
  cases hr
 | n + 1, l, h, r, hr => by
  by_cases hl : l = []
  ·subst hl; cases hr
  ·have hp := decL_pos l
   have hn : 1 ≤ l.length := by cases l with | nil => exact absurd rfl hl | cons _ _ => simp
   rw [runesT_step l hl] at hr
   rcases List.mem_cons.1 hr with rfl | hr
   ·exact decodeL_rune l
   ·exact runesT_le n _ (by rw [List.length_drop]; omega) r hr
theorem pkencs_app (a b : List Nat) : encs (a ++ b) = encs a ++ encs b := by simp [encs]
theorem encs_cons (a : Nat) (b : List Nat) : encs (a :: b) = encodeRune (a : Int) ++ encs b := by simp [encs]
theorem encs_spaces (n : Nat) : encs (List.replicate n 32) = List.replicate n 32 := by
 induction n with
 | zero => rfl
 | succ n ih =>
  rw [List.replicate_succ, encs_cons, ih, List.replicate_succ]
  rfl
theorem encs_runesN : ∀ (n : Nat) (l : List UInt8), l.length ≤ n → validD l = true → encs (runesT l) = l
 | 0, l, h, _ => by
  have : l = [] := List.eq_nil_of_length_eq_zero (by omega)
  subst this
  rfl
 | n + 1, l, h, hv => by
  by_cases hl : l = []
  ·subst hl; rfl
  ·rw [validD_step l hl] at hv
   split at hv
   ·cases hv
   ·rename_i hd
    have hp := decL_pos l
    have hn : 1 ≤ l.length := by cases l with | nil => exact absurd rfl hl | cons _ _ => simp
    rw [runesT_step l hl, encs_cons, encode_decode l hl hd, encs_runesN n _ (by rw [List.length_drop]; omega) hv, List.take_append_drop]
theorem encs_runes (l : List UInt8) (hv : validD l = true) : encs (runesT l) = l := encs_runesN _ l (Nat.le_refl _) hv
theorem runesFrom_succ (s : ByteArray) (f pos : Nat) (acc : Array Value) (h : pos < s.size) : Conv.runesFrom s (f + 1) pos acc = Conv.runesFrom s f (pos + (Utf8.decode s pos).2) (acc.push (.int .i32 (Int.ofNat (Utf8.decode s pos).1))) := by
 conv => lhs; unfold Conv.runesFrom
 rw [if_pos h]
theorem runes_conv (s : ByteArray) : ∀ (f pos : Nat) (acc : Array Value), s.size - pos ≤ f → Conv.runesFrom s f pos acc = acc ++ ((runesT (s.data.toList.drop pos)).map fun (r : Nat) => Value.int .i32 (r : Int)).toArray
 | 0, pos, acc, h => by
  have hsz : s.size = s.data.toList.length := (Array.length_toList).symm
  have he : s.data.toList.drop pos = [] := List.drop_eq_nil_of_le (by omega)
  rw [he, runesT_nil]
  simp [Conv.runesFrom]
 | f + 1, pos, acc, h => by
  have hsz : s.size = s.data.toList.length := (Array.length_toList).symm
  by_cases hp : pos < s.size
  ·have hne : s.data.toList.drop pos ≠ [] := fun e => by
    have := congrArg List.length e
    rw [List.length_drop] at this
    simp only [List.length_nil] at this
    omega
   have hw := decL_pos (s.data.toList.drop pos)
   rw [decodeL_drop] at hw
   rw [runesFrom_succ s f pos acc hp, runesT_step _ hne, decodeL_drop s pos, List.drop_drop, runes_conv s f _ _ (by omega)]
   generalize Utf8.decode s pos = d
   apply Array.ext'
   simp only [Array.toList_append, Array.toList_push, List.append_assoc]
   rfl
  ·have he : s.data.toList.drop pos = [] := List.drop_eq_nil_of_le (by omega)
   unfold Conv.runesFrom
   rw [if_neg hp, he, runesT_nil]
   simp
/-! ### lines, cut -/
theorem trR_spaces (a : List UInt8) (k : Nat) : trR (a ++ List.replicate k 32) = trR a := by
 unfold trR
 rw [List.reverse_append, List.reverse_replicate]
 congr 1
 induction k with
 | zero => rfl
 | succ k ih => rw [List.replicate_succ, List.cons_append, List.dropWhile_cons_of_pos (by decide), ih]
theorem trR_same (a : List UInt8) (h : ¬ [32] <:+ a) : trR a = a := by
 obtain ⟨k, hk⟩ := trR_eq a
 cases k with
 | zero => rw [List.replicate_zero, List.append_nil] at hk; exact hk.symm
 | succ k =>
  refine absurd ⟨trR a ++ List.replicate k 32, ?_⟩ h
  rw [List.append_assoc, show List.replicate k (32 : UInt8) ++ [32] = List.replicate (k + 1) 32 from List.replicate_succ'.symm]
  exact hk.symm
def cutR : List Nat → List Nat → List (List UInt8)
 | [], _ => []
 | n :: ws, c => trR (encs (c.take n)) :: cutR ws ((c.drop n).drop 2)
theorem cutR_len : ∀ (ws c : List Nat), (cutR ws c).length = ws.length
 | [], _ => rfl
 | n :: ws, c => by simp only [cutR, List.length_cons, cutR_len ws]
theorem rep_take (n k : Nat) : (List.replicate k (32 : Nat)).take n = List.replicate (min n k) 32 := by rw [List.take_replicate]
theorem cutR_spaces : ∀ (ws c : List Nat) (k : Nat), cutR ws (c ++ List.replicate k 32) = cutR ws c
 | [], _, _ => rfl
 | n :: ws, c, k => by
  simp only [cutR]
  rw [List.take_append, rep_take, pkencs_app, encs_spaces, trR_spaces, List.drop_append, List.drop_replicate, List.drop_append, List.drop_replicate, cutR_spaces ws]
def ColTx (w : List Nat) (t : Nat → List UInt8) (i : Nat) : Prop := validD (t i) = true ∧ ¬ [32] <:+ t i ∧ rcT (t i) ≤ w.getD i 0
theorem cut_lnT (w : List Nat) (t : Nat → List UInt8) : ∀ (g : List Nat), (∀ i ∈ g, ColTx w t i) → cutR (g.map fun i => w.getD i 0) (runesT (lnT w t g)) = g.map t
 | [], _ => rfl
 | [i], h => by
  obtain ⟨h1, h2, h3⟩ := h i (List.mem_cons_self ..)
  simp only [lnT, List.map_cons, List.map_nil, cutR]
  rw [List.take_of_length_le (by rw [runes_rc]; exact h3), encs_runes _ h1, trR_same _ h2]
 | i :: j :: g, h => by
  obtain ⟨h1, h2, h3⟩ := h i (List.mem_cons_self ..)
  have ih := cut_lnT w t (j :: g) fun x hx => h x (List.mem_cons_of_mem _ hx)
  have hl : (runesT (t i) ++ List.replicate (w.getD i 0 - rcT (t i)) 32).length = w.getD i 0 := by
   rw [List.length_append, runes_rc, List.length_replicate]
   omega
  have e : runesT (lnT w t (i :: j :: g)) = (runesT (t i) ++ List.replicate (w.getD i 0 - rcT (t i)) 32) ++ (32 :: 32 :: runesT (lnT w t (j :: g))) := by
   simp only [lnT]
   rw [runesT_sep _ _ (sep_spaces _ _ (sep_ascii 32 _ (by decide))), runesT_spaces, runesT_cons 32 _ (by decide), runesT_cons 32 _ (by decide), List.append_assoc]
   rfl
  rw [List.map_cons, cutR, e, List.take_left' hl, List.drop_left' hl]
  show trR _ :: cutR ((j :: g).map fun i => w.getD i 0) (runesT (lnT w t (j :: g))) = _
  rw [ih, pkencs_app, encs_runes _ h1, encs_spaces, trR_spaces, trR_same _ h2]
  rfl
theorem cut_line (w : List Nat) (t : Nat → List UInt8) (g : List Nat) (h : ∀ i ∈ g, ColTx w t i) : cutR (g.map fun i => w.getD i 0) (runesT (trR (lnT w t g))) = g.map t := by
 obtain ⟨k, hk⟩ := trR_eq (lnT w t g)
 have hs : Sep (List.replicate k (32 : UInt8)) := by
  cases k with
  | zero => intro b u e; cases e
  | succ k => rw [List.replicate_succ]; exact sep_ascii 32 _ (by decide)
 have h1 := cut_lnT w t g h
 have h2 := runesT_spaces k []
 rw [List.append_nil, runesT_nil, List.append_nil] at h2
 rw [hk, runesT_sep _ _ hs, h2, cutR_spaces] at h1
 exact h1
theorem dash_line (w : List Nat) : ∀ (g : List Nat), (∀ i ∈ g, 1 ≤ w.getD i 0) → trR (lnT w (dashT w) g) = lnT w (dashT w) g ∧ (∀ i r, g = i :: r → ∃ n, lnT w (dashT w) g = 45 :: n)
 | [], _ => ⟨rfl, fun i r e => by cases e⟩
 | [i], h => by
  have h1 := h i (List.mem_cons_self ..)
  obtain ⟨n, hn⟩ : ∃ n, w.getD i 0 = n + 1 := ⟨w.getD i 0 - 1, by omega⟩
  simp only [lnT, dashT, hn]
  refine ⟨trR_same _ fun hs => ?_, fun j r e => ⟨List.replicate n 45, by rw [List.replicate_succ]⟩⟩
  have := hs.subset (List.mem_singleton_self 32)
  rw [List.mem_replicate] at this
  exact absurd this.2 (by decide)
 | i :: j :: g, h => by
  have h1 := h i (List.mem_cons_self ..)
  obtain ⟨n, hn⟩ : ∃ n, w.getD i 0 = n + 1 := ⟨w.getD i 0 - 1, by omega⟩
  obtain ⟨e1, e2⟩ := dash_line w (j :: g) fun x hx => h x (List.mem_cons_of_mem _ hx)
  obtain ⟨m, hm⟩ := e2 j g rfl
  refine ⟨trR_same _ fun hs => trR_last (lnT w (dashT w) (j :: g)) ?_, fun x r e => ?_⟩
  ·rw [e1]
   simp only [lnT] at hs
   obtain ⟨q, hq⟩ := hs
   have hne : lnT w (dashT w) (j :: g) ≠ [] := by rw [hm]; simp
   obtain ⟨y, z, hyz⟩ : ∃ y z, lnT w (dashT w) (j :: g) = y ++ [z] := ⟨_, _, (List.dropLast_concat_getLast hne).symm⟩
   rw [hyz] at hq
   rw [hyz]
   have hz : (32 : UInt8) = z := by
    have e4 : dashT w i ++ (List.replicate (w.getD i 0 - rcT (dashT w i)) 32 ++ 32 :: 32 :: (y ++ [z])) = (dashT w i ++ (List.replicate (w.getD i 0 - rcT (dashT w i)) 32 ++ 32 :: 32 :: y)) ++ [z] := by simp
    rw [e4] at hq
    have := List.append_inj_right' hq rfl
    simpa using this
   rw [hz]
   exact List.suffix_append _ _
  ·simp only [lnT, dashT, hn, List.replicate_succ, List.cons_append]
   exact ⟨_, rfl⟩
end Go.Proofs.YtoemghiejfkpbaaGreatDoor
/- What page.Read finds in the pages of a table, plain. -/
namespace Go.Proofs.YtoemghiejfkpbaaGreatDoor
open Go Go.Lib
set_option linter.unusedVariables false
structure Gr where
 ti : List UInt8
 da : List UInt8
 rows : List (List UInt8)
def addPg (out : List Gr) (p : List (List UInt8)) : List Gr :=
 match p with
 | ti :: da :: rows =>
  match out.getLast? with
  | none => [⟨ti, da, rows⟩]
  | some g => if g.ti = ti ∧ g.da = da then out.dropLast ++ [⟨ti, da, g.rows ++ rows⟩] else out ++ [⟨ti, da, rows⟩]
 | _ => out
theorem addPg_last (out : List Gr) (g : Gr) (rows : List (List UInt8)) : addPg (out ++ [g]) (g.ti :: g.da :: rows) = out ++ [⟨g.ti, g.da, g.rows ++ rows⟩] := by
 simp [addPg]
theorem addPg_new (out : List Gr) (ti da : List UInt8) (rows : List (List UInt8)) (h : ∀ g, out.getLast? = some g → ¬ (g.ti = ti ∧ g.da = da)) : addPg out (ti :: da :: rows) = out ++ [⟨ti, da, rows⟩] := by
 unfold addPg
 cases e : out.getLast? with
 | none => rw [List.getLast?_eq_none_iff.1 e]; rfl
 | some g => simp only []; rw [if_neg (h g e)]
def rowsL (w : List Nat) (g : List Nat) (rows : List (List (List UInt8))) : List (List UInt8) := rows.map fun r => trR (lnT w (colT r) g)
def grp (w : List Nat) (head : List (List UInt8)) (rows : List (List (List UInt8))) (g : List Nat) : Gr := ⟨trR (lnT w (colT head) g), trR (lnT w (dashT w) g), rowsL w g rows⟩
theorem pages_same (w : List Nat) (head : List (List UInt8)) (g : List Nat) (out : List Gr) : ∀ (cs : List (List (List (List UInt8)))) (done : List (List (List UInt8))),
  (cs.map (pgL w head g)).foldl addPg (out ++ [grp w head done g]) = out ++ [grp w head (done ++ cs.flatten) g]
 | [], done => by simp
 | c :: cs, done => by
  rw [List.map_cons, List.foldl_cons]
  have e : addPg (out ++ [grp w head done g]) (pgL w head g c) = out ++ [grp w head (done ++ c) g] := by
   have := addPg_last out (grp w head done g) (rowsL w g c)
   unfold grp rowsL at this ⊢
   rw [List.map_append]
   exact this
  rw [e, pages_same w head g out cs (done ++ c), List.flatten_cons, List.append_assoc]
theorem chk_flat {α : Type} (n : Nat) (hn : 1 ≤ n) : ∀ (f : Nat) (r : List α), r.length ≤ f → (chk n f r).flatten = r
 | 0, r, h => by
  have : r = [] := List.eq_nil_of_length_eq_zero (by omega)
  subst this
  simp [chk]
 | f + 1, r, h => by
  simp only [chk]
  split
  ·simp
  ·rw [List.flatten_cons, chk_flat n hn f (r.drop n) (by rw [List.length_drop]; omega), List.take_append_drop]
theorem chk_ne {α : Type} (n : Nat) : ∀ (f : Nat) (r : List α), ∃ c cs, chk n f r = c :: cs
 | 0, r => ⟨_, _, rfl⟩
 | f + 1, r => by
  simp only [chk]
  split
  ·exact ⟨_, _, rfl⟩
  ·exact ⟨_, _, rfl⟩
def Apart (w : List Nat) (head : List (List UInt8)) (g g' : List Nat) : Prop := ¬ (trR (lnT w (colT head) g) = trR (lnT w (colT head) g') ∧ trR (lnT w (dashT w) g) = trR (lnT w (dashT w) g'))
theorem pages_groups (w : List Nat) (head : List (List UInt8)) (rows : List (List (List UInt8))) (n : Nat) (hn : 1 ≤ n) : ∀ (gs : List (List Nat)) (out : List (List Nat)),
  (out ++ gs).Pairwise (Apart w head) → (pagesR w head rows gs n).foldl addPg (out.map (grp w head rows)) = (out ++ gs).map (grp w head rows)
 | [], out, _ => by simp [pagesR]
 | g :: gs, out, hp => by
  have e0 : pagesR w head rows (g :: gs) n = (chk n rows.length rows).map (pgL w head g) ++ pagesR w head rows gs n := by simp [pagesR]
  obtain ⟨c, cs, hc⟩ := chk_ne n rows.length rows
  have hf := chk_flat n hn rows.length rows (Nat.le_refl _)
  rw [e0, List.foldl_append, hc, List.map_cons, List.foldl_cons]
  have e1 : addPg (out.map (grp w head rows)) (pgL w head g c) = out.map (grp w head rows) ++ [grp w head c g] := by
   refine addPg_new _ _ _ _ fun q hq => ?_
   rw [List.getLast?_map] at hq
   cases hl : out.getLast? with
   | none => rw [hl] at hq; cases hq
   | some x =>
    rw [hl] at hq
    simp only [Option.map_some, Option.some.injEq] at hq
    subst hq
    exact (List.pairwise_append.1 hp).2.2 x (List.mem_of_getLast? hl) g (List.mem_cons_self ..)
  rw [e1, pages_same, ← List.flatten_cons, ← hc, hf]
  have ih := pages_groups w head rows n hn gs (out ++ [g]) (by simpa using hp)
  rw [List.map_append, List.map_cons, List.map_nil] at ih
  rw [ih]
  simp
/-! ### the columns of the groups -/
theorem gGo_cols (w : List Nat) (W : Nat) : ∀ (l : List Nat) (done : List (List Nat)) (cur : List Nat) (used : Nat) (gs : List (List Nat)), (∀ g ∈ done, g.head? = some 0) → cur.head? = some 0 → gGo w W l done cur used = some gs →
  gs.flatMap List.tail = done.flatMap List.tail ++ (cur.tail ++ l) ∧ ∀ g ∈ gs, g.head? = some 0
 | [], done, cur, used, gs, hd, hc, h => by
  simp only [gGo, Option.some.injEq] at h
  subst h
  refine ⟨by simp, fun g hg => ?_⟩
  rcases List.mem_append.1 hg with hg | hg
  ·exact hd g hg
  ·obtain rfl := List.mem_singleton.1 hg
   exact hc
 | i :: l, done, cur, used, gs, hd, hc, h => by
  simp only [gGo] at h
  split at h
  ·cases h
  ·split at h
   ·obtain ⟨h1, h2⟩ := gGo_cols w W l _ [0, i] _ gs (fun g hg => by
     rcases List.mem_append.1 hg with hg | hg
     ·exact hd g hg
     ·obtain rfl := List.mem_singleton.1 hg
      exact hc) rfl h
    exact ⟨by rw [h1]; simp, h2⟩
   ·obtain ⟨h1, h2⟩ := gGo_cols w W l done (cur ++ [i]) _ gs hd (by cases cur with | nil => cases hc | cons a r => exact hc) h
    refine ⟨?_, h2⟩
    rw [h1]
    cases cur with
    | nil => cases hc
    | cons a r => simp
theorem gGo_tail (w : List Nat) (W : Nat) : ∀ (l : List Nat) (done : List (List Nat)) (cur : List Nat) (used : Nat) (gs : List (List Nat)), (∀ g ∈ done, g.tail ≠ []) → (cur.tail ≠ [] ∨ (l ≠ [] ∧ cur = [0] ∧ used = w.getD 0 0)) → gGo w W l done cur used = some gs → ∀ g ∈ gs, g.tail ≠ []
 | [], done, cur, used, gs, hd, hc, h => by
  simp only [gGo, Option.some.injEq] at h
  subst h
  intro g hg
  rcases List.mem_append.1 hg with hg | hg
  ·exact hd g hg
  ·obtain rfl := List.mem_singleton.1 hg
   rcases hc with hc | hc
   ·exact hc
   ·exact absurd rfl hc.1
 | i :: l, done, cur, used, gs, hd, hc, h => by
  simp only [gGo] at h
  split at h
  ·cases h
  ·rename_i h1
   split at h
   ·rename_i h2
    rcases hc with hc | hc
    ·exact gGo_tail w W l _ [0, i] _ gs (fun g hg => by
      rcases List.mem_append.1 hg with hg | hg
      ·exact hd g hg
      ·obtain rfl := List.mem_singleton.1 hg
       exact hc) (.inl (by simp)) h
    ·rw [hc.2.2] at h2
     omega
   ·refine gGo_tail w W l done (cur ++ [i]) _ gs hd (.inl ?_) h
    rcases hc with hc | hc
    ·cases cur with
     | nil => exact absurd rfl hc
     | cons a r => simp
    ·rw [hc.2.1]; simp
theorem groups_cols (w : List Nat) (W : Nat) (gs : List (List Nat)) (h : groupsR w W = some gs) : gs.flatMap List.tail = List.range' 1 (w.length - 1) ∧ (∀ g ∈ gs, g.head? = some 0) ∧ (gs = [[0]] ∨ ∀ g ∈ gs, g.tail ≠ []) := by
 unfold groupsR at h
 split at h
 ·cases h
 ·obtain ⟨h1, h2⟩ := gGo_cols w W _ [] [0] _ gs (fun g hg => by cases hg) rfl h
  refine ⟨by rw [h1]; simp, h2, ?_⟩
  by_cases hl : List.range' 1 (w.length - 1) = []
  ·rw [hl] at h
   simp only [gGo, Option.some.injEq, List.nil_append] at h
   exact .inl h.symm
  ·exact .inr (gGo_tail w W _ [] [0] _ gs (fun g hg => by cases hg) (.inr ⟨hl, rfl, rfl⟩) h)
theorem dash_joinS (w : List Nat) : ∀ (g : List Nat) (i : Nat), lnT w (dashT w) (i :: g) = joinS [32, 32] (dashT w i) (g.map (dashT w))
 | [], i => rfl
 | j :: g, i => by
  have ih := dash_joinS w g j
  have h := ascii_all (List.replicate (w.getD i 0) (45 : UInt8)) (fun b hb => by rw [(List.mem_replicate.1 hb).2]; decide)
  have h2 : rcT (dashT w i) = w.getD i 0 := by unfold dashT; rw [h.2, List.length_replicate]
  simp only [lnT]
  rw [h2, Nat.sub_self, List.replicate_zero, List.nil_append, ih]
  rfl
theorem dash_no (w : List Nat) (i : Nat) : ∀ b ∈ dashT w i, b ≠ 32 := fun b hb => by
 unfold dashT at hb
 rw [(List.mem_replicate.1 hb).2]
 decide
theorem dash_pieces (w : List Nat) (g : List Nat) (hg : g ≠ []) (h1 : ∀ i ∈ g, 1 ≤ w.getD i 0) : Pieces [32, 32] (trR (lnT w (dashT w) g)) (g.map (dashT w)) := by
 rw [(dash_line w g h1).1]
 cases g with
 | nil => exact absurd rfl hg
 | cons i g =>
  rw [dash_joinS, List.map_cons]
  exact pieces_join 32 [32] _ _ fun x hx b hb => by
   rcases List.mem_cons.1 hx with rfl | hx
   ·exact dash_no w i b hb
   ·obtain ⟨j, _, rfl⟩ := List.mem_map.1 hx
    exact dash_no w j b hb
theorem pieces_unique {sep : List UInt8} : ∀ {s : List UInt8} {a b : List (List UInt8)}, Pieces sep s a → Pieces sep s b → a = b := by
 intro s a b ha
 induction ha generalizing b with
 | last s hi =>
  intro hb
  cases hb with
  | last _ _ => rfl
  | cut _ i r hj _ _ => rw [hi] at hj; omega
 | cut s i r hi hl hr ih =>
  intro hb
  cases hb with
  | last _ hj => rw [hi] at hj; omega
  | cut _ j r' hj hl' hr' =>
   obtain rfl : i = j := by rw [hi] at hj; omega
   rw [ih hr']
theorem dash_len (w : List Nat) (i : Nat) : (dashT w i).length = w.getD i 0 := by unfold dashT; rw [List.length_replicate]
theorem groups_apart (w : List Nat) (W : Nat) (head : List (List UInt8)) (gs : List (List Nat)) (h : groupsR w W = some gs) (hw : 1 ≤ w.length) (h1 : ∀ i, i < w.length → 1 ≤ w.getD i 0) (hc : ∀ i, i < w.length → ColTx w (colT head) i)
  (hd : ∀ i j, i < w.length → j < w.length → colT head i = colT head j → i = j) : gs.Pairwise (Apart w head) := by
 obtain ⟨c1, c2, c3⟩ := groups_cols w W gs h
 have hm := groups_mem w W gs hw h
 rcases c3 with rfl | c3
 ·exact List.pairwise_singleton _ _
 ·have hp : (gs.flatMap List.tail).Pairwise (· < ·) := by rw [c1]; exact List.pairwise_lt_range'
  rw [List.pairwise_flatMap] at hp
  refine List.Pairwise.imp_of_mem ?_ hp.2
  intro g g' hg hg' hlt ⟨e1, e2⟩
  have hne : ∀ x ∈ gs, x ≠ [] := fun x hx e => c3 x hx (by rw [e]; rfl)
  have p1 := dash_pieces w g (hne g hg) fun i hi => h1 i (hm g hg i hi)
  have p2 := dash_pieces w g' (hne g' hg') fun i hi => h1 i (hm g' hg' i hi)
  rw [e2] at p1
  have e3 := congrArg (List.map List.length) (pieces_unique p1 p2)
  rw [List.map_map, List.map_map, List.map_congr_left (f := List.length ∘ dashT w) (g := fun i => w.getD i 0) (fun i _ => dash_len w i), List.map_congr_left (f := List.length ∘ dashT w) (g := fun i => w.getD i 0) (fun i _ => dash_len w i)] at e3
  have k1 := cut_line w (colT head) g fun i hi => hc i (hm g hg i hi)
  have k2 := cut_line w (colT head) g' fun i hi => hc i (hm g' hg' i hi)
  rw [e1, e3, k2] at k1
  have t1 := c3 g hg
  have t2 := c3 g' hg'
  match g, g', t1, t2 with
  | [], _, t1, _ => exact t1 rfl
  | [_], _, t1, _ => exact t1 rfl
  | _, [], _, t2 => exact t2 rfl
  | _, [_], _, t2 => exact t2 rfl
  | a :: i :: r, a' :: j :: r', _, _ =>
   simp only [List.map_cons, List.cons.injEq] at k1
   have := hlt i (by simp) j (by simp)
   have := hd j i (hm _ hg' j (by simp)) (hm _ hg i (by simp)) k1.2.1
   omega
def colsK (gs : List (List Nat)) (k : Nat) : List Nat := if k = 0 then [] else 0 :: (gs.take k).flatMap List.tail
theorem colsK_step (gs : List (List Nat)) (h0 : ∀ g ∈ gs, g.head? = some 0) (k : Nat) (g : List Nat) (hk : gs[k]? = some g) : colsK gs (k + 1) = colsK gs k ++ g.drop (min k 1) := by
 have hkl := (List.getElem?_eq_some_iff.1 hk).1
 have hg := (List.getElem?_eq_some_iff.1 hk).2
 have e : gs.take (k + 1) = gs.take k ++ [g] := by rw [List.take_add_one, hk]; rfl
 unfold colsK
 rw [if_neg (by omega), e, List.flatMap_append]
 have hh := h0 g (List.mem_of_getElem? hk)
 by_cases h : k = 0
 ·subst h
  cases g with
  | nil => cases hh
  | cons a r =>
   simp only [List.head?_cons, Option.some.injEq] at hh
   subst hh
   simp
 ·rw [if_neg h, show min k 1 = 1 by omega, List.drop_one]
  simp
theorem colsK_all (w : List Nat) (W : Nat) (gs : List (List Nat)) (hw : 1 ≤ w.length) (h : groupsR w W = some gs) : colsK gs gs.length = List.range w.length := by
 obtain ⟨c1, c2, c3⟩ := groups_cols w W gs h
 have hn : gs ≠ [] := by
  rintro rfl
  unfold groupsR at h
  split at h
  ·cases h
  ·have key : ∀ (l : List Nat) (d : List (List Nat)) (c : List Nat) (u : Nat), gGo w W l d c u ≠ some [] := by
    intro l
    induction l with
    | nil => intro d c u e; simp [gGo] at e
    | cons i l ih =>
     intro d c u e
     simp only [gGo] at e
     split at e
     ·cases e
     ·split at e
      ·exact ih _ _ _ e
      ·exact ih _ _ _ e
   exact key _ _ _ _ h
 have hl : gs.length ≠ 0 := fun e => hn (List.eq_nil_of_length_eq_zero e)
 unfold colsK
 rw [if_neg hl, List.take_length, c1]
 obtain ⟨m, hm⟩ : ∃ m, w.length = m + 1 := ⟨w.length - 1, by omega⟩
 rw [hm, List.range_eq_range', List.range'_succ]
 rfl
end Go.Proofs.YtoemghiejfkpbaaGreatDoor
/- page.cut. -/
namespace Go.Proofs.YtoemghiejfkpbaaGreatDoor
open Go Go.Shelf Go.RowKit Go.Lib
set_option linter.unusedVariables false
theorem toU8 (n : Nat) (z : Int) (h : z = (n : Int)) : z.toNat.toUInt8 = UInt8.ofNat n := by rw [h, Int.toNat_natCast]
theorem enc_eq (r : Nat) (h : r ≤ 1114111) : (Utf8.encode (r : Int)).data.toList = encodeRune (r : Int) := by
 unfold Utf8.encode encodeRune encodeRuneZ
 by_cases hv : Utf8.valid (r : Int) = true
 ·have hv2 : ¬ (55296 ≤ r ∧ r ≤ 57343) := by
   unfold Utf8.valid at hv
   simp at hv
   omega
  simp only [hv, if_true, Int.toNat_natCast]
  have k1 : ¬ r < 128 → ¬ (0 ≤ (r : Int) ∧ (r : Int) ≤ 127) := fun h => by omega
  have k2 : ¬ r < 2048 → ¬ (128 ≤ (r : Int) ∧ (r : Int) ≤ 2047) := fun h => by omega
  have k3 : ¬ r < 65536 → ¬ ((2048 ≤ (r : Int) ∧ (r : Int) < 55296) ∨ (57343 < (r : Int) ∧ (r : Int) ≤ 65535)) := fun h => by omega
  by_cases h1 : r < 128
  ·rw [if_pos h1, if_pos (show 0 ≤ (r : Int) ∧ (r : Int) ≤ 127 by omega)]
   simp only [List.map_cons, List.map_nil]
   rw [toU8 r _ rfl]
  rw [if_neg h1, if_neg (k1 h1)]
  by_cases h2 : r < 2048
  ·rw [if_pos h2, if_pos (show 128 ≤ (r : Int) ∧ (r : Int) ≤ 2047 by omega)]
   simp only [List.map_cons, List.map_nil]
   rw [toU8 (192 + r / 64) _ (by omega), toU8 (128 + r % 64) _ (by omega)]
  rw [if_neg h2, if_neg (k2 h2)]
  by_cases h3 : r < 65536
  ·rw [if_pos h3, if_pos (show (2048 ≤ (r : Int) ∧ (r : Int) < 55296) ∨ (57343 < (r : Int) ∧ (r : Int) ≤ 65535) by omega)]
   simp only [List.map_cons, List.map_nil]
   rw [toU8 (224 + r / 4096) _ (by omega), toU8 (128 + r / 64 % 64) _ (by omega), toU8 (128 + r % 64) _ (by omega)]
  rw [if_neg h3, if_neg (k3 h3), if_pos (show 65536 ≤ (r : Int) ∧ (r : Int) ≤ 1114111 by omega)]
  simp only [List.map_cons, List.map_nil]
  rw [toU8 (240 + r / 262144) _ (by omega), toU8 (128 + r / 4096 % 64) _ (by omega), toU8 (128 + r / 64 % 64) _ (by omega), toU8 (128 + r % 64) _ (by omega)]
 ·have hv2 : 55296 ≤ r ∧ r ≤ 57343 := by
   unfold Utf8.valid at hv
   simp at hv
   omega
  rw [if_neg (show ¬ (0 ≤ (r : Int) ∧ (r : Int) ≤ 127) by omega), if_neg (show ¬ (128 ≤ (r : Int) ∧ (r : Int) ≤ 2047) by omega), if_neg (show ¬ ((2048 ≤ (r : Int) ∧ (r : Int) < 55296) ∨ (57343 < (r : Int) ∧ (r : Int) ≤ 65535)) by omega), if_neg (show ¬ (65536 ≤ (r : Int) ∧ (r : Int) ≤ 1114111) by omega)]
  simp only [hv, Bool.false_eq_true, if_false]
  decide
theorem runesBytes_eq (rs : List Nat) (h : ∀ r ∈ rs, r ≤ 1114111) : runesBytes (rs.map fun r : Nat => (r : Int)) = str (encs rs) := by
 have key : ∀ (rs : List Nat) (s : List UInt8), (∀ r ∈ rs, r ≤ 1114111) → (rs.map fun r : Nat => (r : Int)).foldl (fun r n => r ++ Utf8.encode n) (str s) = str (s ++ encs rs) := by
  intro rs
  induction rs with
  | nil => intro s _; simp [encs]
  | cons r rs ih =>
   intro s hr
   rw [List.map_cons, List.foldl_cons]
   have e : str s ++ Utf8.encode (r : Int) = str (s ++ encodeRune (r : Int)) := by
    have e1 : Utf8.encode (r : Int) = str (encodeRune (r : Int)) := by
     rw [← enc_eq r (hr r (List.mem_cons_self ..))]
     generalize Utf8.encode (r : Int) = q
     obtain ⟨q⟩ := q
     simp [str]
    rw [e1, str_append]
   rw [e, ih _ fun x hx => hr x (List.mem_cons_of_mem _ hx), encs_cons, List.append_assoc]
 have := key rs [] h
 exact this
def runeV (rs : List Nat) : List Value := rs.map fun r : Nat => .int .i32 (r : Int)
theorem conv_runes {W : World} {B : Nat} {A : Option Addr} {rs : List Nat} (h : Row W B A (runeV rs)) (hb : ∀ r ∈ rs, r ≤ 1114111) (m c : Nat) (hm : m ≤ rs.length) :
  (convert 126 9 (.slice A m c)).run Tryz.prog W = .ok (.string (str (encs (rs.take m)))) W := by
 cases A with
 | none =>
  have h0 : rs = [] := by
   rcases h with h | ⟨b, o, h, _⟩
   ·simpa [runeV] using h
   ·cases h
  subst h0
  rw [run_convert_runes_nil W _ _ _ _ _ Tryz.underlying126 Tryz.underlying21 Tryz.underlying9]
  simp [encs]
  rfl
 | some a =>
  have := run_convert_runes W 126 9 21 a m c (rs.map fun r : Nat => (r : Int)) (by rw [List.length_map]; exact hm) Tryz.underlying126 Tryz.underlying21 Tryz.underlying9 (fun j hj => by
   rw [List.length_map] at hj
   obtain ⟨b, o, e, _, hc⟩ := h.open_ (fun e => by have := congrArg List.length e; simp [runeV] at this; subst this; simp at hj)
   cases e
   have h2 : (⟨b, o, none⟩ : Addr).add j = ⟨b, o + j, none⟩ := addPlain ..
   rw [h2, hc j (.int .i32 (rs.getD j 0 : Nat)) (by simp [runeV, List.getD, List.getElem?_eq_getElem hj])]
   simp [List.getD, List.getElem?_eq_getElem hj])
  rw [this, ← List.map_take, runesBytes_eq _ fun r hr => hb r (List.mem_of_mem_take hr)]
theorem row_dropA {w : World} {B : Nat} {A : Option Addr} {cs : List Value} (h : Row w B A cs) (m c : Nat) (hc : cs.length ≤ c) : Row w B (if c = m then A else Option.map (fun x => x.add m) A) (cs.drop m) := by
 by_cases hm : m < cs.length
 ·obtain ⟨b, o, hA, hb, hc'⟩ := h.open_ (fun e => by rw [e] at hm; simp at hm)
  refine .inr ⟨b, o + m, ?_, hb, fun j v hv => ?_⟩
  ·rw [if_neg (by omega), hA, Option.map_some, addPlain]
  ·rw [List.getElem?_drop] at hv
   rw [Nat.add_assoc]
   exact hc' _ _ hv
 ·exact .inl (List.drop_eq_nil_of_le (by omega))
theorem conv_text (w : World) (s : ByteArray) (hs : s.size ≤ 1000000) : ∃ A c w1, (convert 9 126 (.string s)).run Tryz.prog w = .ok (.slice A (runesT s.data.toList).length c) w1 ∧ (runesT s.data.toList).length ≤ c ∧ Row w1 w1.heap.size A (runeV (runesT s.data.toList)) ∧ Below w.heap.size w w1 := by
 have e := runes_conv s s.size 0 #[] (by omega)
 rw [List.drop_zero] at e
 have e2 : Conv.runesFrom s s.size 0 #[] = (runeV (runesT s.data.toList)).toArray := by rw [e]; simp [runeV]
 have hsz := size_runesFrom s s.size 0 #[]
 have hl : (Conv.runesFrom s s.size 0 #[]).size = (runesT s.data.toList).length := by rw [e2]; simp [runeV]
 have h := run_runes_of_string (P := Tryz.prog) w 9 126 21 s Tryz.underlying9 Tryz.underlying126 Tryz.underlying21 (by simp at hsz; omega)
 rw [hl] at h
 refine ⟨_, _, _, h, grownCap_ge _ _ _ _, .inr ⟨w.heap.size, 0, rfl, ?_, fun j v hv => ?_⟩, ?_⟩
 ·rw [World.size_alloc]; show w.heap.size < w.heap.size + 1; omega
 ·rw [Nat.zero_add]
  refine (cell_of_row _ w.heap.size j _ _ (0, 0) (heap_alloc_new w.drew _)).trans ?_
  rw [e2]
  have hj := (List.getElem?_eq_some_iff.1 hv).1
  rw [Array.getElem?_append_left (by simpa using hj)]
  simpa using hv
 ·have b := below_alloc1 w.drew (Obj.cells (Conv.runesFrom s s.size 0 #[] ++ Array.replicate (grownCap w (runesT s.data.toList).length 0 21 - (runesT s.data.toList).length) (.int .i32 0)) 21)
  exact ⟨b.os, b.tape, b.output, b.size, b.block⟩
end Go.Proofs.YtoemghiejfkpbaaGreatDoor
/- page.cut, walked. -/
namespace Go.Proofs.YtoemghiejfkpbaaGreatDoor
open Go Go.Shelf Go.RowKit Go.Lib
attribute [local go_sem] Oper.semAt_some
set_option linter.unusedVariables false
theorem size_toL (q : ByteArray) (l : List UInt8) (e : q.data.toList = l) : q.size = l.length := by rw [← e]; exact (Array.length_toList).symm
theorem encs_four : ∀ (rs : List Nat), (∀ r ∈ rs, r ≤ 1114111) → (encs rs).length ≤ 4 * rs.length
 | [], _ => by simp [encs]
 | r :: rs, h => by
  have h1 := encode_size_le (r : Int)
  have h2 : (Utf8.encode (r : Int)).size = (encodeRune (r : Int)).length := size_toL _ _ (enc_eq r (h r (List.mem_cons_self ..)))
  have ih := encs_four rs fun x hx => h x (List.mem_cons_of_mem _ hx)
  rw [encs_cons, List.length_append, List.length_cons]
  omega
set_option maxHeartbeats 4000000 in
set_option maxRecDepth 100000 in
theorem pcut_any (s : ByteArray) (Aw : Option Addr) (cw : Nat) (ws : List Nat) (w : World) (hs : s.size ≤ 10000) (hrow : Row w w.heap.size Aw (ints (natI ws))) (hl : ws.length ≤ 12) (hw : ∀ n ∈ ws, n ≤ 1000) :
  Calls Tryz.prog 34 #[.string s, .slice Aw ws.length cw] w fun e w' => ∃ v, e = .returned v ∧ w'.ownsRow w.heap.size 9 1 v ws.length (sVs ((cutR ws (runesT s.data.toList)).map str)) ∧ Below w.heap.size w w' := by
 obtain ⟨A0, c0, w0, hcv, hlc0, hrow0, hb0⟩ := conv_text w s (by omega)
 have HR1 := Lib.hid (runesT_le _ s.data.toList (Nat.le_refl _))
 have HRL : (runesT s.data.toList).length ≤ 10000 := by
  rw [runes_rc]
  have h1 := rcT_le s.data.toList
  have h2 : s.size = s.data.toList.length := (Array.length_toList).symm
  omega
 generalize runesT s.data.toList = R0 at *
 have HRow0 := Lib.hid hrow0
 have HB0 := Lib.hid hb0
 have HW := Lib.hid hrow
 have HN := Lib.hid hw
 clear hrow0 hb0 hrow hw
 go_enter Tryz.func34, Tryz.ntmps34
 go_wp2_with fail
 clear hcv
 go_loopw [5, 6, 8, 13] (fun s5 s6 _ i wr => ∃ (k : Nat) (rs : List Nat) (acc : List (List UInt8)) (A : Option Addr) (c : Nat), k ≤ ws.length ∧ i = .int .i64 (k : Int) ∧ s5 = .slice A rs.length c ∧ rs.length ≤ c ∧ rs.length ≤ 10000 ∧ Hid (∀ r ∈ rs, r ≤ 1114111) ∧ Hid (Row w0 w0.heap.size A (runeV rs)) ∧
   Hid (acc ++ cutR (ws.drop k) rs = cutR ws R0) ∧ acc.length = k ∧ Hid (wr.ownsRow w0.heap.size 9 1 s6 acc.length (sVs (acc.map str))) ∧ Hid (Below w0.heap.size w0 wr)) (fun _ _ _ i _ => ws.length - (intOf i).toNat)
 case atStart => exact ⟨0, R0, [], A0, c0, by omega, rfl, rfl, hlc0, HRL, HR1, HRow0, by unfold Hid; rw [List.drop_zero]; rfl, rfl, World.ownsRow_nil _ _ _ _, Below.refl _ _⟩
 case round =>
  clear HR1 HRL HRow0 hlc0
  obtain ⟨k, rs, acc, A, c, hk, rfl, rfl, hc, hrl, hr1, hrow, hacc, hal, hown, hbr⟩ := hrel
  by_cases hlt : k < ws.length
  case neg =>
   have t1 : decide ((k : Int) < (ws.length : Int)) = false := decide_eq_false (by omega)
   have t1' : decide (k < ws.length) = false := decide_eq_false hlt
   have hke : acc.length = ws.length := by omega
   have he : acc = cutR ws R0 := by
    have h := hacc.out
    rw [List.drop_eq_nil_of_le (by omega)] at h
    simpa [cutR] using h
   go_wp2_with fail
   go_ret
   refine ⟨_, rfl, ?_, below_then HB0.out hbr.out⟩
   have h := own_lower hown.out HB0.out.size
   rw [hke, he] at h
   exact h
  obtain ⟨n0, hn0⟩ : ∃ n0, n0 = ws.getD k 0 := ⟨_, rfl⟩
  have hdr : ws.drop k = n0 :: ws.drop (k + 1) := by
   rw [hn0, List.getD_eq_getElem?_getD, List.getElem?_eq_getElem hlt]
   exact List.drop_eq_getElem_cons hlt
  obtain ⟨bw, ow, hAw, hbw, hcw⟩ := HW.out.open_ (ints_ne _ (by rw [natI_len]; omega))
  have hcell : wr.cell? ⟨bw, ow + k, none⟩ = some (.int .i64 (n0 : Int)) := by
   have h := hcw k _ (ints_get (natI ws) k (by rw [natI_len]; exact hlt))
   rw [natI_get ws k hlt, ← hn0] at h
   exact ((below_then HB0.out hbr.out).cell (p := ⟨bw, ow + k, none⟩) hbw).trans h
  clear hcw
  subst hAw
  obtain ⟨m, hm⟩ : ∃ m, m = min n0 rs.length := ⟨_, rfl⟩
  have hmz : min (n0 : Int) (rs.length : Int) = (m : Int) := by omega
  have hmr : m ≤ rs.length := by omega
  have hmc : m ≤ c := by omega
  have het : rs.take n0 = rs.take m := by
   by_cases h : n0 ≤ rs.length
   ·rw [show m = n0 by omega]
   ·rw [List.take_of_length_le (by omega), List.take_of_length_le (by omega)]
  have hed : rs.drop n0 = rs.drop m := by
   by_cases h : n0 ≤ rs.length
   ·rw [show m = n0 by omega]
   ·rw [List.drop_eq_nil_of_le (by omega), List.drop_eq_nil_of_le (by omega)]
  obtain ⟨T, hT⟩ : ∃ T, T = encs (rs.take m) := ⟨_, rfl⟩
  have kc := conv_runes (hrow.out.below hbr.out) hr1.out m c hmr
  rw [← hT] at kc
  have HTL : T.length ≤ 40000 := by
   have h := encs_four (rs.take m) fun r hr => hr1.out r (List.mem_of_mem_take hr)
   rw [← hT, List.length_take] at h
   omega
  have HTR := Lib.hid (fun W => trimr_any T (by omega) W)
  have hb1 := below_alloc1 wr (Obj.cells #[.string (str (trR T))] 9)
  have hr1' := Row.of_box (Box.new wr 9 #[.string (str (trR T))])
  have hsz1 : (wr.alloc (Obj.cells #[.string (str (trR T))] 9)).heap.size = wr.heap.size + 1 := World.size_alloc ..
  have hsz0 := hbr.out.size
  obtain ⟨v', w9, a1, a2, a3, _⟩ := append_cells (ty := 27) (c2 := 1) (l1 := sVs (acc.map str)) (l2 := [.string (str (trR T))]) Tryz.underlying27 infoStr1 (by rfl) (by omega) (by have := own_next hown.out hb1; rw [show (sVs (acc.map str)).length = acc.length by simp [sVs]]; exact this) hr1' (fun u hu => by simp at hu; subst hu; rfl) (by simp [sVs]; omega) (by simp) (by rw [hsz1]; omega)
  have ha1 : (Builtin.append_ #[27, 27] 27 #[u6, .slice (some ⟨wr.heap.size, 0, none⟩) 1 1]).run Tryz.prog (wr.alloc (Obj.cells #[.string (str (trR T))] 9)) = .ok v' w9 := a1
  have HO9 : Hid (w9.ownsRow w0.heap.size 9 1 v' (acc ++ [trR T]).length (sVs ((acc ++ [trR T]).map str))) := by
   have e : sVs ((acc ++ [trR T]).map str) = sVs (acc.map str) ++ [.string (str (trR T))] := by simp [sVs]
   have e2 : (acc ++ [trR T]).length = (sVs (acc.map str) ++ [Value.string (str (trR T))]).length := by rw [← e]; simp [sVs]
   unfold Hid
   rw [e, e2]
   exact a2
  have hb9 : Below w0.heap.size w0 w9 := (hbr.out.alloc (by omega) _).grown a3 (by rw [hsz1]; omega) (fun k hk => own_base hown.out k hk)
  have HB9 := Lib.hid hb9
  have HA1 := Lib.hid ha1
  have HH := Lib.hid (And.intro het hed)
  have HDr := Lib.hid hdr
  have HTk := Lib.hid het
  clear hdr hn0
  have HRow := Lib.hid hrow.out
  have HT := Lib.hid hT
  clear a1 a2 a3 ha1 hb1 hr1' hsz1 hsz0 hb9 het hed hrow hT hown HTL hm
  have t1 : decide ((k : Int) < (ws.length : Int)) = true := decide_eq_true (by omega)
  have t1' : decide (k < ws.length) = true := decide_eq_true hlt
  go_upto_region 8 with (first
   | (go_at_call 59; refine (HTR.out _).mono ?_; rintro e w' ⟨rfl, hw'⟩; rw [hw']; clear hw' HTR)
   | (at_builtin; refine wpList_append_any rfl (.tmp 21) (.tmp 27) 27 27 rfl _ _ _ rfl rfl HA1.out ?_))
  have t9 : (m : Int) ≤ (rs.length : Int) := by omega
  obtain ⟨A3, hA3⟩ : ∃ A3, A3 = (if c = m then A else Option.map (fun x => x.add m) A) := ⟨_, rfl⟩
  have HRow3 : Hid (Row w0 w0.heap.size A3 (runeV (rs.drop m))) := by
   have h := row_dropA HRow.out m c (by unfold runeV; rw [List.length_map]; exact hc)
   rw [← hA3] at h
   unfold Hid runeV at *
   rw [List.map_drop]
   exact h
  go_upto_region 9 with fail
  rw [← hA3]
  clear hA3
  obtain ⟨rs3, hrs3⟩ : ∃ rs3, rs3 = rs.drop m := ⟨_, rfl⟩
  have hl3 : rs.length - m = rs3.length := by rw [hrs3, List.length_drop]
  obtain ⟨c3, hc3⟩ : ∃ c3, c3 = c - m := ⟨_, rfl⟩
  have hlc3 : rs3.length ≤ c3 := by omega
  have hrl3 : rs3.length ≤ 10000 := by omega
  rw [hl3, ← hc3]
  rw [← hrs3] at HRow3
  have HR3 : Hid (rs.drop n0 = rs3) := HH.out.2.trans hrs3.symm
  have HM3 : Hid (∀ r ∈ rs3, r ≤ 1114111) := fun r hr => hr1.out r (by rw [hrs3] at hr; exact List.mem_of_mem_drop hr)
  obtain ⟨m2, hm2⟩ : ∃ m2, m2 = min 2 rs3.length := ⟨_, rfl⟩
  have hmz2 : min (2 : Int) (rs3.length : Int) = (m2 : Int) := by omega
  have t10 : (m2 : Int) ≤ (rs3.length : Int) := by omega
  have hm2c : m2 ≤ c3 := by omega
  have hm2r : m2 ≤ rs3.length := by omega
  have HE4 : Hid (rs3.drop 2 = rs3.drop m2) := by
   unfold Hid
   by_cases h : 2 ≤ rs3.length
   ·rw [show m2 = 2 by omega]
   ·rw [List.drop_eq_nil_of_le (by omega), List.drop_eq_nil_of_le (by omega)]
  obtain ⟨A4, hA4⟩ : ∃ A4, A4 = (if c3 = m2 then A3 else Option.map (fun x => x.add m2) A3) := ⟨_, rfl⟩
  have HRow4 : Hid (Row w0 w0.heap.size A4 (runeV (rs3.drop m2))) := by
   have h := row_dropA HRow3.out m2 c3 (by unfold runeV; rw [List.length_map]; exact hlc3)
   rw [← hA4] at h
   unfold Hid runeV at *
   rw [List.map_drop]
   exact h
  have HDL : Hid ((rs3.drop m2).length = rs3.length - m2) := List.length_drop
  clear hrs3 hl3 hc3 hm2 HRow3 HH hr1 HRow
  go_wp2_with fail
  rw [← hA4, ← HDL.out]
  go_roundw
  case rel =>
   refine ⟨k + 1, rs3.drop m2, acc ++ [trR T], A4, c3 - m2, by omega, by go_num, rfl, by rw [HDL.out]; omega, by rw [HDL.out]; omega, fun r hr => HM3.out r (List.mem_of_mem_drop hr), HRow4, ?_, by rw [List.length_append]; simp; omega, HO9, HB9⟩
   have h := hacc.out
   rw [HDr.out, cutR, HTk.out, HR3.out, HE4.out, ← HT.out] at h
   unfold Hid
   rw [← h]
   simp
  case measure => simp [intOf]; omega
end Go.Proofs.YtoemghiejfkpbaaGreatDoor
/- The groups that readGroups collects, in memory. -/
namespace Go.Proofs.YtoemghiejfkpbaaGreatDoor
open Go Go.Shelf Go.RowKit Go.Lib
set_option linter.unusedVariables false
theorem own_cellS {w : World} {base : Nat} {e : TypeId} {s g n cap : Nat} {xs : List Value} (h : w.ownsRow base e s (.slice (some ⟨g, 0, none⟩) n cap) n xs) (i : Nat) (hi : i < n * s) : w.cell? ⟨g, i, none⟩ = xs[i]? ∧ w.frozen? ⟨g, i, none⟩ = false := by
 rcases h.2 with ⟨h', _⟩ | ⟨g', cap', cur, h', hb, hg, h1, h2, h3, h4⟩
 ·simp at h'
 ·simp only [Value.slice.injEq, Option.some.injEq, Addr.mk.injEq, and_true, true_and] at h'
  obtain ⟨rfl, rfl⟩ := h'
  refine ⟨?_, Box.free hg i⟩
  rw [Box.cell hg i, ← h4, List.getElem?_take, if_pos hi]
  simp
theorem own_setS {w : World} {base : Nat} {e : TypeId} {s g n cap : Nat} {xs : List Value} (h : w.ownsRow base e s (.slice (some ⟨g, 0, none⟩) n cap) n xs) (i : Nat) (v : Value) :
  (w.setCell ⟨g, i, none⟩ v).ownsRow base e s (.slice (some ⟨g, 0, none⟩) n cap) n (xs.set i v) := by
 rcases h.2 with ⟨h', _⟩ | ⟨g', cap', cur, h', hb, hg, h1, h2, h3, h4⟩
 ·simp at h'
 ·simp only [Value.slice.injEq, Option.some.injEq, Addr.mk.injEq, and_true, true_and] at h'
  obtain ⟨rfl, rfl⟩ := h'
  refine ⟨by rw [List.length_set]; exact h.1, .inr ⟨g, cap, cur.setIfInBounds i v, rfl, hb, Box.set_ hg i v, h1, h2, by rw [Array.size_setIfInBounds]; exact h3, ?_⟩⟩
  rw [Array.toList_setIfInBounds, List.take_set, h4]
def gf (p : Gr × Value) : List Value := [.string (str p.1.ti), .string (str p.1.da), p.2]
theorem gf_len (p : Gr × Value) : (gf p).length = 3 := rfl
theorem gf_flat (ps : List (Gr × Value)) : (ps.flatMap gf).length = ps.length * 3 := by
 induction ps with
 | nil => rfl
 | cons a ps ih => rw [List.flatMap_cons, List.length_append, ih, gf_len, List.length_cons]; omega
theorem gf_last (ps : List (Gr × Value)) (p : Gr × Value) (i : Nat) (hi : i < 3) : ((ps ++ [p]).flatMap gf)[ps.length * 3 + i]? = (gf p)[i]? := by
 rw [List.flatMap_append, List.getElem?_append_right (by rw [gf_flat]; omega), gf_flat, show ps.length * 3 + i - ps.length * 3 = i by omega]
 simp
def rowsV (g : Gr) : List Value := sVs (g.rows.map str)
theorem rowsV_len (g : Gr) : (rowsV g).length = g.rows.length := by simp [rowsV, sVs]
def DoneS (w : World) (B : Nat) (p : Gr × Value) : Prop := w.ownsRow 0 9 1 p.2 p.1.rows.length (rowsV p.1) ∧ ∀ b, p.2.ownBlock = some b → b < B
structure RgS (w : World) (base B : Nat) (vO : Value) (ps : List (Gr × Value)) (p : Gr × Value) : Prop where
 out : w.ownsRow base 70 3 vO (ps.length + 1) ((ps ++ [p]).flatMap gf)
 cur : w.ownsRow B 9 1 p.2 p.1.rows.length (rowsV p.1)
 bB : base ≤ B
 Bs : B ≤ w.heap.size
 don : ∀ q ∈ ps, DoneS w B q
theorem RgS.next {w w' : World} {base B : Nat} {vO : Value} {ps : List (Gr × Value)} {p : Gr × Value} (h : RgS w base B vO ps p) (hb : Below w.heap.size w w') : RgS w' base B vO ps p :=
 ⟨own_next h.out hb, own_next h.cur hb, h.bB, Nat.le_trans h.Bs hb.size, fun q hq => ⟨own_next (h.don q hq).1 hb, (h.don q hq).2⟩⟩
theorem own_grown {w w' : World} {base : Nat} {e : TypeId} {s n : Nat} {v : Value} {xs : List Value} {row : Option Nat} (h : w.ownsRow base e s v n xs) (hg : w.grownBy w' row) (hr : ∀ b, v.ownBlock = some b → row ≠ some b) : w'.ownsRow base e s v n xs :=
 own_heap h fun b hb => hg.block b (own_lt h b hb).2 (fun e => hr b hb e.symm)
theorem RgS.pushed {w w' : World} {base B : Nat} {vO v' : Value} {ps : List (Gr × Value)} {p : Gr × Value} {ti da : List UInt8} (h : RgS w base B vO ps p) (hg : w.grownBy w' vO.ownBlock) (hbs : base ≤ w.heap.size)
  (ho : w'.ownsRow base 70 3 v' (ps.length + 2) ((ps ++ [p]).flatMap gf ++ [.string (str ti), .string (str da), .slice none 0 0])) : RgS w' base w.heap.size v' (ps ++ [p]) (⟨ti, da, []⟩, .slice none 0 0) := by
 have hne : (70 : TypeId) ≠ 9 := by decide
 refine ⟨?_, World.ownsRow_nil _ _ _ _, hbs, hg.size, fun q hq => ?_⟩
 ·rw [List.flatMap_append (xs := ps ++ [p]), List.length_append]
  exact ho
 ·have key : ∀ (x : Value) (l : List Value) (n b0 : Nat), w.ownsRow b0 9 1 x n l → w'.ownsRow 0 9 1 x n l ∧ ∀ b, x.ownBlock = some b → b < w.heap.size := fun x l n b0 hx =>
   ⟨own_lower (own_grown hx hg fun b hb e => own_ne hx h.out hne.symm b hb e) (Nat.zero_le _), fun b hb => (own_lt hx b hb).2⟩
  rcases List.mem_append.1 hq with hq | hq
  ·exact key _ _ _ _ (h.don q hq).1
  ·obtain rfl := List.mem_singleton.1 hq
   exact key _ _ _ _ h.cur
theorem rg_first {w' : World} {base B : Nat} {v' : Value} {ti da : List UInt8} (hB : base ≤ B) (hs : B ≤ w'.heap.size) (ho : w'.ownsRow base 70 3 v' 1 [.string (str ti), .string (str da), .slice none 0 0]) : RgS w' base B v' [] (⟨ti, da, []⟩, .slice none 0 0) :=
 ⟨ho, World.ownsRow_nil _ _ _ _, hB, hs, fun q hq => by cases hq⟩
theorem RgS.added {w w' : World} {base B gO cO : Nat} {v' : Value} {ps : List (Gr × Value)} {p : Gr × Value} {more : List (List UInt8)} (h : RgS w base B (.slice (some ⟨gO, 0, none⟩) (ps.length + 1) cO) ps p) (hg : w.grownBy w' p.2.ownBlock)
  (ho : w'.ownsRow B 9 1 v' (p.1.rows.length + more.length) (rowsV p.1 ++ sVs (more.map str))) :
  RgS (w'.setCell ⟨gO, ps.length * 3 + 2, none⟩ v') base B (.slice (some ⟨gO, 0, none⟩) (ps.length + 1) cO) ps (⟨p.1.ti, p.1.da, p.1.rows ++ more⟩, v') := by
 have hne : (70 : TypeId) ≠ 9 := by decide
 have hO2 := own_grown h.out hg fun b hb e => own_ne h.out h.cur hne b hb e
 have hsz := hg.size
 have hsame : ∀ b, b ≠ gO → (w'.setCell ⟨gO, ps.length * 3 + 2, none⟩ v').heap[b]? = w'.heap[b]? := fun b hb => Below.heap_setCell w' ⟨gO, ps.length * 3 + 2, none⟩ v' b hb
 have hx : ∀ (b0 n : Nat) (x : Value) (l : List Value), w'.ownsRow b0 9 1 x n l → (w'.setCell ⟨gO, ps.length * 3 + 2, none⟩ v').ownsRow b0 9 1 x n l := fun b0 n x l hx => own_heap hx fun b hb => hsame b (fun e => by subst e; exact own_ne hO2 hx hne b rfl hb)
 refine ⟨?_, ?_, h.bB, by rw [World.size_setCell]; exact Nat.le_trans h.Bs hsz, fun q hq => ⟨hx _ _ _ _ (own_grown (h.don q hq).1 hg fun b hb e => ?_), (h.don q hq).2⟩⟩
 ·have h1 := own_setS hO2 (ps.length * 3 + 2) v'
  have e : ((ps ++ [p]).flatMap gf).set (ps.length * 3 + 2) v' = (ps ++ [((⟨p.1.ti, p.1.da, p.1.rows ++ more⟩ : Gr), v')]).flatMap gf := by
   rw [List.flatMap_append, List.flatMap_append, List.set_append_right _ _ (by rw [gf_flat]; omega), gf_flat, show ps.length * 3 + 2 - ps.length * 3 = 2 by omega]
   rfl
  rw [e] at h1
  exact h1
 ·have e : rowsV (⟨p.1.ti, p.1.da, p.1.rows ++ more⟩ : Gr) = rowsV p.1 ++ sVs (more.map str) := by simp [rowsV, sVs]
  show (w'.setCell ⟨gO, ps.length * 3 + 2, none⟩ v').ownsRow B 9 1 v' (p.1.rows ++ more).length _
  rw [e, List.length_append]
  exact hx _ _ _ _ ho
 ·have h1 := own_base h.cur b e
  have h2 := (h.don q hq).2 b hb
  omega
def RgA (w : World) (base : Nat) (vO : Value) (gs : List Gr) : Prop := (gs = [] ∧ vO = .slice none 0 0) ∨ ∃ B ps p, gs = ps.map Prod.fst ++ [p.1] ∧ RgS w base B vO ps p
theorem RgA.next {w w' : World} {base : Nat} {vO : Value} {gs : List Gr} (h : RgA w base vO gs) (hb : Below w.heap.size w w') : RgA w' base vO gs := by
 rcases h with h | ⟨B, ps, p, e, h⟩
 ·exact .inl h
 ·exact .inr ⟨B, ps, p, e, h.next hb⟩
theorem RgA.push {w : World} {base : Nat} {vO : Value} {gs : List Gr} {ti da : List UInt8} (h : RgA w base vO gs) (hbs : base ≤ w.heap.size) : ∃ xs, w.ownsRow base 70 3 vO gs.length xs ∧
  ∀ w' v', w.grownBy w' vO.ownBlock → w'.ownsRow base 70 3 v' (gs.length + 1) (xs ++ [.string (str ti), .string (str da), .slice none 0 0]) → ∃ B ps, RgS w' base B v' ps (⟨ti, da, []⟩, .slice none 0 0) ∧ ps.map Prod.fst = gs := by
 rcases h with ⟨rfl, rfl⟩ | ⟨B, ps, p, e, h⟩
 ·exact ⟨[], World.ownsRow_nil _ _ _ _, fun w' v' hg ho => ⟨_, [], rg_first hbs hg.size ho, rfl⟩⟩
 ·have hl : gs.length = ps.length + 1 := by rw [e]; simp
  refine ⟨_, by rw [hl]; exact h.out, fun w' v' hg ho => ⟨_, ps ++ [p], h.pushed hg hbs (by rw [hl] at ho; exact ho), by rw [e]; simp⟩⟩
end Go.Proofs.YtoemghiejfkpbaaGreatDoor
/- page.readGroups, walked. -/
namespace Go.Proofs.YtoemghiejfkpbaaGreatDoor
open Go Go.Shelf Go.RowKit Go.Lib
attribute [local go_sem] Oper.semAt_some
set_option linter.unusedVariables false
theorem infoGrp : (Tryz.prog.info? 70).map (fun i => (i.zero, i.size, i.bytes)) = some (some (.agg #[.string ⟨#[]⟩, .string ⟨#[]⟩, .slice none 0 0]), 3, 56) := by kernel_rfl
def PgIn (s : ByteArray) (p : List (List UInt8)) : Prop :=
 ∃ ti da rows f, p = ti :: da :: rows ∧ rows.length ≤ 400 ∧ ∀ W, Shp W → Calls Tryz.prog 64 #[.string s, .string ⟨#[10]⟩] W fun e w' => e = .returned (.slice (some ⟨W.heap.size, 0, none⟩) (rows.length + 4) (rows.length + 4)) ∧ Box w' W.heap.size 9 (sVs ((ti :: da :: (rows ++ [f, []])).map str)).toArray ∧ Below W.heap.size W w'
theorem addPg_bound (out : List Gr) (p : List (List UInt8)) (M : Nat) (h : ∀ g ∈ out, g.rows.length ≤ M) (hp : p.length ≤ 402) : (∀ g ∈ addPg out p, g.rows.length ≤ M + 400) ∧ (addPg out p).length ≤ out.length + 1 := by
 unfold addPg
 split
 ·rename_i ti da rows
  simp only [List.length_cons] at hp
  split
  ·exact ⟨fun g hg => by obtain rfl := List.mem_singleton.1 hg; show rows.length ≤ _; omega, by rw [List.length_singleton]; omega⟩
  ·rename_i g0 hg0
   have hm := List.mem_of_getLast? hg0
   split
   ·refine ⟨fun g hg => ?_, by simp <;> omega⟩
    rcases List.mem_append.1 hg with hg | hg
    ·have := h g ((List.dropLast_subset out) hg); omega
    ·obtain rfl := List.mem_singleton.1 hg
     have := h g0 hm
     show (g0.rows ++ rows).length ≤ _
     rw [List.length_append]
     omega
   ·refine ⟨fun g hg => ?_, by simp⟩
    rcases List.mem_append.1 hg with hg | hg
    ·have := h g hg; omega
    ·obtain rfl := List.mem_singleton.1 hg
     show rows.length ≤ _
     omega
 ·exact ⟨fun g hg => by have := h g hg; omega, by omega⟩
theorem RgA.form {w : World} {base : Nat} {vO : Value} {gs : List Gr} (h : RgA w base vO gs) : ∃ A c, vO = .slice A gs.length c ∧ gs.length ≤ c ∧ c ≤ maxLen := by
 rcases h with ⟨rfl, rfl⟩ | ⟨B, ps, p, e, h⟩
 ·exact ⟨none, 0, rfl, by simp, by simp⟩
 ·have := own_form h.out
  rw [e]
  simpa using this
set_option maxHeartbeats 8000000 in
set_option maxRecDepth 100000 in
theorem rgroups_any (A : Option Addr) (c : Nat) (ss : List ByteArray) (pgs : List (List (List UInt8))) (w : World) (hrow : Row w w.heap.size A (sVs ss)) (hn : 1 ≤ ss.length) (hl : ss.length = pgs.length) (hle : ss.length ≤ 10000)
  (hP : ∀ k, k < ss.length → PgIn (ss.getD k ⟨#[]⟩) (pgs.getD k [])) (hS : Shp w) :
  Calls Tryz.prog 32 #[.slice A ss.length c] w fun e w' => ∃ vO, e = .returned (.tuple #[vO, .bool true]) ∧ RgA w' w.heap.size vO (pgs.foldl addPg []) ∧ Below w.heap.size w w' := by
 obtain ⟨bs, os, rfl, hbs, hcs⟩ := hrow.open_ (sVs_ne ss (by omega))
 have HCS := Lib.hid hcs
 have HP := Lib.hid hP
 have HS : Hid (∀ W, Below w.heap.size w W → Shp W) := fun W h => hS.next h
 have HL := Lib.hid hl
 clear hcs hP hS hrow hl
 obtain ⟨i0, hi0, hz0, hz1, hz2⟩ := info_parts infoGrp
 go_enter Tryz.func32, Tryz.ntmps32
 go_wp2_with fail
 go_loopw [4, 6, 7, 8, 9, 12] (fun s4 _ _ _ _ i wr => ∃ k : Nat, k ≤ ss.length ∧ i = .int .i64 (k : Int) ∧ Hid (RgA wr w.heap.size s4 ((pgs.take k).foldl addPg [])) ∧ Hid (∀ g ∈ (pgs.take k).foldl addPg [], g.rows.length ≤ 400 * k) ∧ Hid (((pgs.take k).foldl addPg []).length ≤ k) ∧ Hid (Below w.heap.size w wr)) (fun _ _ _ _ _ i _ => ss.length - (intOf i).toNat)
 case atStart => exact ⟨0, by omega, rfl, .inl ⟨rfl, rfl⟩, fun g hg => (by cases hg), Nat.le_refl _, Below.refl _ _⟩
 case round =>
  obtain ⟨k, hk, rfl, hrg, hrb, hgl, hbr⟩ := hrel
  obtain ⟨gs, hgs⟩ : ∃ gs, gs = (pgs.take k).foldl addPg [] := ⟨_, rfl⟩
  rw [← hgs] at hrg hrb hgl
  obtain ⟨AO, cO, hvO, hgc, hcm⟩ := hrg.out.form
  by_cases hlt : k < ss.length
  case neg =>
   have t1 : decide ((k : Int) < (ss.length : Int)) = false := decide_eq_false (by omega)
   have t1' : decide (k < ss.length) = false := decide_eq_false hlt
   have hke : gs = pgs.foldl addPg [] := by rw [hgs, List.take_of_length_le (by have := HL.out; omega)]
   have hpos : 1 ≤ gs.length := by
    rw [hke]
    obtain ⟨ti, da, rows, f, e, _⟩ := HP.out 0 (by omega)
    have hl := HL.out
    cases pgs with
    | nil => rw [List.length_nil] at hl; omega
    | cons a r =>
     have ha : a = ti :: da :: rows := e
     rw [List.foldl_cons]
     have key : ∀ (r : List (List (List UInt8))) (o : List Gr), 1 ≤ o.length → 1 ≤ (r.foldl addPg o).length := by
      intro r
      induction r with
      | nil => exact fun o h => h
      | cons b r ih =>
       intro o h
       rw [List.foldl_cons]
       refine ih _ ?_
       unfold addPg
       split
       ·split
        ·simp
        ·split
         ·simp
         ·simp
       ·exact h
     refine key _ _ ?_
     rw [ha]
     simp [addPg]
   have HRg : Hid (RgA wr w.heap.size u4 (pgs.foldl addPg [])) := by rw [← hke]; exact hrg
   have t5 : decide ((gs.length : Int) > 0) = true := decide_eq_true (by omega)
   have t5' : decide (0 < gs.length) = true := decide_eq_true hpos
   have t5'' : decide ((0 : Int) < (gs.length : Int)) = true := decide_eq_true (by omega)
   subst hvO
   clear hke hgs hrg
   go_wp2_with fail
   go_ret2
   exact ⟨_, rfl, HRg, hbr.out⟩
  obtain ⟨s, hs⟩ : ∃ s, s = ss.getD k ⟨#[]⟩ := ⟨_, rfl⟩
  obtain ⟨ti, da, rows, ft, hpg, hrl, hsp⟩ := HP.out k hlt
  rw [← hs] at hsp
  have hcell : wr.cell? ⟨bs, os + k, none⟩ = some (.string s) := by
   rw [hs]
   exact (hbr.out.cell (p := ⟨bs, os + k, none⟩) hbs).trans (HCS.out k _ (sVs_get ss k hlt))
  have HSp := Lib.hid (hsp wr (HS.out _ hbr.out))
  have t1 : decide ((k : Int) < (ss.length : Int)) = true := decide_eq_true (by omega)
  have t1' : decide (k < ss.length) = true := decide_eq_true hlt
  have HPg := Lib.hid hpg
  have HGs := Lib.hid hgs
  clear hsp hpg hs hgs
  subst hvO
  go_upto_region 6 with (go_at_call 64; refine HSp.out.mono ?_; rintro e w7 ⟨rfl, hx7, hb7⟩)
  have HX7 := Lib.hid hx7
  have HB7 := Lib.hid (below_then hbr.out hb7)
  have HR7 := Lib.hid (hrg.out.next hb7)
  have hgl7 := hx7.lt
  have hwl : wr.heap.size ≤ w7.heap.size := hb7.size
  clear hx7 hb7 hrg hbr HSp hcell
  have t4 : decide (((rows.length + 4 : Nat) : Int) < 4) = false := decide_eq_false (by omega)
  have t4' : decide (rows.length + 4 < 4) = false := decide_eq_false (by omega)
  have t4'' : decide ((rows.length : Int) + 4 < 4) = false := decide_eq_false (by omega)
  generalize wr.heap.size = gl at *
  go_upto_region 9 with fail
  have x0 : w7.cell? ⟨gl, 0, none⟩ = some (.string (str ti)) := HX7.out.cell 0
  have x1 : w7.cell? ⟨gl, 1, none⟩ = some (.string (str da)) := HX7.out.cell 1
  obtain ⟨NewC, hNew⟩ : ∃ NewC : Prop, NewC = ∀ g, gs.getLast? = some g → ¬ (g.ti = ti ∧ g.da = da) := ⟨_, rfl⟩
  have HNew := Lib.hid hNew
  clear hNew
  go_cut [48] (fun s48 wx => ∃ C : Bool, s48 = .bool C ∧ Hid ((C = true → NewC) ∧ (C = false → ¬ NewC)) ∧ ∃ q, wx = w7.drewN q)
  case first =>
   rcases HR7.out with ⟨e, e2⟩ | ⟨B, ps, p, e, hR⟩
   ·have hz : gs.length = 0 := by rw [e]; rfl
    have HN : Hid NewC := by unfold Hid; rw [HNew.out, e]; intro g hg; simp at hg
    have t2 : ((gs.length : Int) == 0) = true := by rw [beq_iff_eq]; omega
    clear e e2 hz
    go_quiet (fail)
    go_wp2_with fail
    go_meet
    exact ⟨true, rfl, ⟨fun _ => HN, fun h => (by cases h)⟩, _, rfl⟩
   ·have hq : gs.length = ps.length + 1 := by rw [e]; simp
    have hlast : gs.getLast? = some p.1 := by rw [e]; simp
    have HQ := Lib.hid hlast
    obtain ⟨gO, cO', hsl⟩ : ∃ gO cO', Value.slice AO gs.length cO = .slice (some ⟨gO, 0, none⟩) (ps.length + 1) cO' := Go.Joins.ownsRow_form hR.out (by omega)
    simp only [Value.slice.injEq] at hsl
    obtain ⟨rfl, hq', rfl⟩ := hsl
    clear hq'
    have hO := hR.out
    rw [hq] at hO
    have y0 := (own_cellS hO (ps.length * 3 + 0) (by omega)).1
    have y1 := (own_cellS hO (ps.length * 3 + 1) (by omega)).1
    rw [gf_last _ _ _ (by omega)] at y0 y1
    have y0' : w7.cell? ⟨gO, ps.length * 3, none⟩ = some (.string (str p.1.ti)) := y0
    have y1' : w7.cell? ⟨gO, ps.length * 3 + 1, none⟩ = some (.string (str p.1.da)) := y1
    have t2 : ((gs.length : Int) == 0) = false := by rw [beq_eq_false_iff_ne]; omega
    have e28 : IntKind.i64.wrap ((gs.length : Int) - 1) = (ps.length : Int) := by
     have h := hgl.out
     rw [show (gs.length : Int) - 1 = (ps.length : Int) by omega]
     exact intFits _ (by omega) (by omega)
    have t28 : (ps.length : Int) < (gs.length : Int) := by omega
    have t28' : ps.length < gs.length := by omega
    clear y0 y1 hq hlast e hO hR
    by_cases c1 : p.1.ti = ti
    ·have k1 : ((str p.1.ti).toList == (str ti).toList) = true := by rw [str_toList, str_toList, beq_iff_eq]; exact c1
     have C1 := Lib.hid c1
     clear c1
     by_cases c2 : p.1.da = da
     ·have k2 : ((str p.1.da).toList == (str da).toList) = true := by rw [str_toList, str_toList, beq_iff_eq]; exact c2
      have C2 := Lib.hid c2
      clear c2
      go_quiet (fail)
      go_wp2_with fail
      go_meet
      refine ⟨false, rfl, ⟨fun h => (by cases h), fun _ h => ?_⟩, _, rfl⟩
      rw [HNew.out] at h
      exact absurd ⟨C1.out, C2.out⟩ (h p.1 HQ.out)
     ·have k2 : ((str p.1.da).toList == (str da).toList) = false := by rw [str_toList, str_toList, beq_eq_false_iff_ne]; exact c2
      have C2 := Lib.hid c2
      clear c2
      go_quiet (fail)
      go_wp2_with fail
      go_meet
      refine ⟨true, rfl, ⟨fun _ => ?_, fun h => (by cases h)⟩, _, rfl⟩
      rw [HNew.out]
      intro g hg h
      rw [HQ.out] at hg
      obtain rfl := Option.some.inj hg
      exact C2.out h.2
    ·have k1 : ((str p.1.ti).toList == (str ti).toList) = false := by rw [str_toList, str_toList, beq_eq_false_iff_ne]; exact c1
     have C1 := Lib.hid c1
     clear c1
     go_quiet (fail)
     go_wp2_with fail
     go_meet
     refine ⟨true, rfl, ⟨fun _ => ?_, fun h => (by cases h)⟩, _, rfl⟩
     rw [HNew.out]
     intro g hg h
     rw [HQ.out] at hg
     obtain rfl := Option.some.inj hg
     exact C1.out h.1
  case rest =>
   obtain ⟨C, rfl, HC, q, hwc⟩ := hcut
   have HX8 : Hid (Box wc gl 9 (sVs ((ti :: da :: (rows ++ [ft, []])).map str)).toArray) := by rw [hwc]; exact HX7.out.drewN q
   have hb8 := below_drewN w7 q
   rw [← hwc] at hb8
   have HB8 := Lib.hid (below_then HB7.out hb8)
   have HR8 := Lib.hid (HR7.out.next hb8)
   have hgl8 := HX8.out.lt
   clear hwc hb8 HX7 HB7 HR7 hgl7 x0 x1
   go_upto_if 48 with fail
   go_cut [4] (fun s4 wx => ∃ B ps p, Hid (RgS wx w.heap.size B s4 ps p) ∧ Hid (p.1.ti = ti ∧ p.1.da = da) ∧ Hid (ps.map Prod.fst ++ [⟨ti, da, p.1.rows ++ rows⟩] = addPg gs (ti :: da :: rows)) ∧ p.1.rows.length ≤ 400 * k ∧ ps.length ≤ k ∧ Hid (Box wx gl 9 (sVs ((ti :: da :: (rows ++ [ft, []])).map str)).toArray) ∧ Hid (Below w.heap.size w wx))
   case first =>
    cases C
    ·rcases HR8.out with ⟨e, e2⟩ | ⟨B, ps, p, e, hR⟩
     ·exact absurd (by rw [HNew.out, e]; intro g hg; simp at hg) (HC.out.2 rfl)
     ·have hlast : gs.getLast? = some p.1 := by rw [e]; simp
      have hq : gs.length = ps.length + 1 := by rw [e]; simp
      have hsame : p.1.ti = ti ∧ p.1.da = da := by
       have h := HC.out.2 rfl
       rw [HNew.out] at h
       refine Classical.byContradiction fun h2 => h fun g hg => ?_
       rw [hlast] at hg
       obtain rfl := Option.some.inj hg
       exact h2
      have hadd : ps.map Prod.fst ++ [⟨ti, da, p.1.rows ++ rows⟩] = addPg gs (ti :: da :: rows) := by
       have h := addPg_last (ps.map Prod.fst) p.1 rows
       rw [e, ← hsame.1, ← hsame.2]
       exact h.symm
      have hb1 := hrb.out p.1 (List.mem_of_getLast? hlast)
      have hb2 : ps.length ≤ k := by have := hgl.out; omega
      have HRS := Lib.hid hR
      have HSm := Lib.hid hsame
      have HAd := Lib.hid hadd
      clear hR e hq hlast hsame hadd
      go_wp2_with fail
      go_meet
      exact ⟨B, ps, p, HRS, HSm, HAd, hb1, hb2, HX8, HB8⟩
    ·have hws : w.heap.size ≤ wc.heap.size := HB8.out.size
     obtain ⟨xs, hown, hpush⟩ := HR8.out.push (ti := ti) (da := da) hws
     have HPush := Lib.hid hpush
     have hnew : addPg gs (ti :: da :: rows) = gs ++ [⟨ti, da, rows⟩] := by
      refine addPg_new _ _ _ _ ?_
      have h := HC.out.1 rfl
      rw [HNew.out] at h
      exact h
     have HAd := Lib.hid hnew
     obtain ⟨row, hrow⟩ : ∃ row, row = (Value.slice AO gs.length cO).ownBlock := ⟨_, rfl⟩
     have hlr : ∀ b, row = some b → w.heap.size ≤ b ∧ b < wc.heap.size := fun b hb => own_lt hown b (by rw [← hrow]; exact hb)
     have hne : some gl ≠ row := fun e => ownApart hown HX8.out (by decide) gl (by rw [← hrow]; exact e.symm) rfl
     have HRw := Lib.hid hrow
     have HNe := Lib.hid hne
     clear hrow hpush hnew hne
     have hbl4 : ∀ b, row = some b → b < wc.heap.size := fun b hb => (hlr b hb).2
     have d0 : ∀ W, wc.grownBy W row → W.cell? ⟨gl, 0, none⟩ = some (.string (str ti)) := fun W hW => (HX8.out.grown hW HNe.out).cell 0
     have d1 : ∀ W, wc.grownBy W row → W.cell? ⟨gl, 1, none⟩ = some (.string (str da)) := fun W hW => (HX8.out.grown hW HNe.out).cell 1
     have h04 : (0 : Int) < (rows.length : Int) + 4 := by omega
     have h14 : (1 : Int) < (rows.length : Int) + 4 := by omega
     go_upto_region 10 with fail
     refine flowG_begin_tail 10 9 row (tellOf []) (by kernel_rfl) (by kernel_rfl) ?_
     simp only [List.take_succ_cons, List.take_zero, List.drop_succ_cons, List.drop_zero]
     repeat (first | (refine flowG_val (v := ?_) (by rfl) (by rfl) (fun w hb => ?_) ?_; rotate_left; (· ((go_simp) <;> ((repeat' apply And.intro) <;> with_reducible rfl))); try simp only [Act.put, List.setIfInBounds_toArray, List.set_cons_zero, List.set_cons_succ, Nat.reduceAdd]) | (refine flowG_skip (by rfl) (by rfl) ?_; try simp only [Act.put, List.setIfInBounds_toArray, List.set_cons_zero, List.set_cons_succ, Nat.reduceAdd]))
     refine flowG_lits (n := ?_) (c := ?_) (t := ?_) (cs := ?_) hbl4 (by rfl) (by rfl) (fun w hb => ?_) (fun g4 hg4 => ?_); rotate_left 4; (· ((go_simp) <;> ((repeat' apply And.intro) <;> with_reducible rfl))); try simp only [Act.put, List.setIfInBounds_toArray, List.set_cons_zero, List.set_cons_succ, Nat.reduceAdd]
     refine flowG_app [8] (by kernel_rfl) rfl (by rfl) (by rfl) (.tmp 49) (.tmp 57) 66 rfl w.heap.size 70 i0 (.agg #[.string ⟨#[]⟩, .string ⟨#[]⟩, .slice none 0 0]) 3 56 Tryz.underlying66 hi0 hz0 hz1 hz2 rfl (by decide) (.slice AO gs.length cO) gs.length xs rfl HRw.out hown hws ⟨g4, 0, none⟩ 1 1 [.string (str ti), .string (str da), .slice none 0 0] rfl rfl (fun w hb hu => World.news_of_block (cs := #[.string (str ti), .string (str da), .slice none 0 0]) (t := 70) (fr := (0, 0)) (usef_head hu)) (by simp [Value.oneCell']) (by have := hgl.out; simp only [maxLen]; omega) (by have := hgl.out; omega) fun A8 c8 => ?_
     try simp only [Act.put, List.setIfInBounds_toArray, List.set_cons_zero, List.set_cons_succ, Nat.reduceAdd]
     refine flowG_nil fun w9 hgrow hf => ?_
     obtain ⟨B, ps, hRS, hps⟩ := HPush.out w9 (.slice A8 (gs.length + 1) c8) (by rw [← HRw.out]; exact hgrow) hf.1
     have HRS := Lib.hid hRS
     have HX9 : Hid (Box w9 gl 9 (sVs ((ti :: da :: (rows ++ [ft, []])).map str)).toArray) := HX8.out.grown hgrow HNe.out
     have HB9 : Hid (Below w.heap.size w w9) := HB8.out.grown hgrow hws (fun k hk => (hlr k hk).1)
     have HPs : Hid (ps.map Prod.fst ++ [⟨ti, da, [] ++ rows⟩] = addPg gs (ti :: da :: rows)) := by unfold Hid; rw [hps, HAd.out]; rfl
     have hpk : ps.length ≤ k := by
      have h := congrArg List.length hps
      rw [List.length_map] at h
      have := hgl.out
      omega
     clear hgrow hf hRS hps hlr hbl4 d0 d1 hown h04 h14
     refine wpList_step fun K hK => ?_
     rw [if_pos (by rfl)]
     go_simp
     refine hK _ _ (wpList_nil ?_)
     clear hK K
     go_wp2_with fail
     go_meet
     exact ⟨B, ps, (⟨ti, da, []⟩, .slice none 0 0), HRS, ⟨rfl, rfl⟩, HPs, Nat.zero_le _, hpk, HX9, HB9⟩
   case rest =>
    clear HX8 HB8 HR8 HC HNew hgl8
    obtain ⟨B, ps, p, HRS, HSm, HAd, hb1, hb2, HX9, HB9⟩ := hcut
    obtain ⟨gO, cO2, rfl⟩ := Go.Joins.ownsRow_form HRS.out.out (by omega)
    obtain ⟨⟨pti, pda, prows⟩, pv⟩ := p
    have hcu : wc.ownsRow B 9 1 pv prows.length (rowsV ⟨pti, pda, prows⟩) := HRS.out.cur
    obtain ⟨A6, c6, rfl, hc6, hm6⟩ := own_form hcu
    have hb1 : prows.length ≤ 400 * k := hb1
    have HSm : Hid (pti = ti ∧ pda = da) := HSm
    have HAd : Hid (ps.map Prod.fst ++ [⟨ti, da, prows ++ rows⟩] = addPg gs (ti :: da :: rows)) := HAd
    have hws : w.heap.size ≤ wc.heap.size := HB9.out.size
    have hgO := own_lt HRS.out.out gO rfl
    have hcur := hcu
    have hBs := HRS.out.Bs
    have hbB := HRS.out.bB
    obtain ⟨row, hrow⟩ : ∃ row, row = (Value.slice A6 prows.length c6).ownBlock := ⟨_, rfl⟩
    have hlr : ∀ b, row = some b → B ≤ b ∧ b < wc.heap.size := fun b hb => own_lt hcur b (by rw [← hrow]; exact hb)
    have hne : some gO ≠ row := fun e => own_ne HRS.out.out hcur (by decide) gO rfl (by rw [← hrow]; exact e.symm)
    have HRw := Lib.hid hrow
    have HNe := Lib.hid hne
    clear hrow hne
    have hbl4 : ∀ b, row = some b → b < wc.heap.size := fun b hb => (hlr b hb).2
    have hcell : ∀ W, wc.grownBy W row → W.cell? ⟨gO, ps.length * 3 + 2, none⟩ = some (.slice A6 prows.length c6) ∧ W.frozen? ⟨gO, ps.length * 3 + 2, none⟩ = false ∧ gO < W.heap.size := fun W hW => by
     have hO := own_grown HRS.out.out hW (fun b hb e => by
      simp [Value.ownBlock] at hb
      subst hb
      exact HNe.out e.symm)
     have h := own_cellS hO (ps.length * 3 + 2) (by omega)
     rw [gf_last _ _ _ (by omega)] at h
     exact ⟨h.1, h.2, Nat.lt_of_lt_of_le hgO.2 hW.size⟩
    have HCl := Lib.hid hcell
    have d2 : ∀ W, wc.grownBy W row → W.cell? ⟨gO, ps.length * 3 + 2, none⟩ = some (.slice A6 prows.length c6) := fun W hW => (HCl.out W hW).1
    clear hcell
    have e28 : IntKind.i64.wrap (ps.length : Int) = (ps.length : Int) := intFits _ (by omega) (by omega)
    have e72 : IntKind.i64.wrap ((rows.length : Int) + 4 - 2) = (rows.length : Int) + 2 := by
     rw [show (rows.length : Int) + 4 - 2 = (rows.length : Int) + 2 by omega]
     exact intFits _ (by omega) (by omega)
    have t28 : (ps.length : Int) < (ps.length : Int) + 1 := by omega
    have t28' : ps.length < ps.length + 1 := by omega
    have HGO := Lib.hid hgO
    clear hgO
    go_upto_region 12 with fail
    have s1 : (2 : Int) ≤ (rows.length : Int) + 2 := by omega
    have s2 : (rows.length : Int) + 2 ≤ (rows.length : Int) + 4 := by omega
    refine flowG_begin_tail 13 10 row (tellOf []) (by kernel_rfl) (by kernel_rfl) ?_
    simp only [List.take_succ_cons, List.take_zero, List.drop_succ_cons, List.drop_zero]
    repeat (first | (refine flowG_val (v := ?_) (by rfl) (by rfl) (fun w hb => ?_) ?_; rotate_left; (· ((go_simp) <;> ((repeat' apply And.intro) <;> with_reducible rfl))); try simp only [Act.put, List.setIfInBounds_toArray, List.set_cons_zero, List.set_cons_succ, Nat.reduceAdd]) | (refine flowG_skip (by rfl) (by rfl) ?_; try simp only [Act.put, List.setIfInBounds_toArray, List.set_cons_zero, List.set_cons_succ, Nat.reduceAdd]))
    obtain ⟨j0, hj0, jz0, jz1, jz2⟩ := info_parts infoStr1
    have hnews : ∀ W, Below wc.heap.size wc W → ∀ j u, (sVs (rows.map str))[j]? = some u → W.cell? ((⟨gl, 2, none⟩ : Addr).add j) = some u := fun W hW j u hu => by
     have hx := HX9.out.below hW
     rw [addPlain, Box.cell hx]
     have hj := (List.getElem?_eq_some_iff.1 hu).1
     simp only [sVs, List.length_map] at hj
     rw [List.getElem?_toArray]
     unfold sVs at hu ⊢
     rw [List.map_cons, List.map_cons, List.map_cons, List.map_cons, show 2 + j = j + 1 + 1 by omega, List.getElem?_cons_succ, List.getElem?_cons_succ, List.map_append, List.map_append, List.getElem?_append_left (by simpa using hj)]
     exact hu
    have HNews := Lib.hid hnews
    clear hnews
    refine flowG_app [] (by kernel_rfl) rfl (by rfl) (by rfl) (.tmp 68) (.tmp 73) 27 rfl B 9 j0 (.string ⟨#[]⟩) 1 16 Tryz.underlying27 hj0 jz0 jz1 jz2 rfl (by decide) (.slice A6 prows.length c6) prows.length (rowsV ⟨pti, pda, prows⟩) rfl HRw.out hcur hBs ⟨gl, 2, none⟩ rows.length (rows.length + 2) (sVs (rows.map str)) rfl (by simp [sVs]) (fun W hb _ => HNews.out W hb) (sVs_one _) (by simp only [maxLen]; omega) (by omega) fun A8 c8 => ?_
    try simp only [Act.put, List.setIfInBounds_toArray, List.set_cons_zero, List.set_cons_succ, Nat.reduceAdd]
    repeat (first | (refine flowG_val (v := ?_) (by rfl) (by rfl) (fun w hb => ?_) ?_; rotate_left; (· ((go_simp) <;> ((repeat' apply And.intro) <;> with_reducible rfl))); try simp only [Act.put, List.setIfInBounds_toArray, List.set_cons_zero, List.set_cons_succ, Nat.reduceAdd]) | (refine flowG_skip (by rfl) (by rfl) ?_; try simp only [Act.put, List.setIfInBounds_toArray, List.set_cons_zero, List.set_cons_succ, Nat.reduceAdd]))
    refine flowG_nil fun w9 hgrow hf => ?_
    have hadd := RgS.added (more := rows) HRS.out (by rw [← HRw.out]; exact hgrow) hf.1
    have HRS2 := Lib.hid hadd
    obtain ⟨k1, k2, k3⟩ := HCl.out w9 hgrow
    have hb9 : Below w.heap.size w w9 := HB9.out.grown hgrow hws (fun k hk => Nat.le_trans hbB (hlr k hk).1)
    have HB10 : Hid (Below w.heap.size w (w9.setCell ⟨gO, ps.length * 3 + 2, none⟩ (.slice A8 (prows.length + rows.length) c8))) := hb9.setCell (p := ⟨gO, ps.length * 3 + 2, none⟩) HGO.out.1 _
    have HRA : Hid (RgA (w9.setCell ⟨gO, ps.length * 3 + 2, none⟩ (.slice A8 (prows.length + rows.length) c8)) w.heap.size (.slice (some ⟨gO, 0, none⟩) (ps.length + 1) cO2) (addPg gs (ti :: da :: rows))) := by
     refine .inr ⟨B, ps, (⟨pti, pda, prows ++ rows⟩, .slice A8 (prows.length + rows.length) c8), ?_, HRS2.out⟩
     rw [← HAd.out, HSm.out.1, HSm.out.2]
    clear hgrow hf hadd hlr hbl4 d2 hcur hcu hBs hbB hb9 HRS2
    refine wpList_step fun K hK => ?_
    rw [if_pos (by rfl)]
    go_simp
    refine hK _ _ (wpList_nil ?_)
    clear hK K k1 k2 k3
    generalize w9.setCell ⟨gO, ps.length * 3 + 2, none⟩ (.slice A8 (prows.length + rows.length) c8) = w10 at *
    go_wp2_with fail
    go_roundw
    case rel =>
     have hlk := HL.out
     have hke : pgs.take (k + 1) = pgs.take k ++ [ti :: da :: rows] := by
      rw [List.take_add_one, List.getElem?_eq_getElem (by omega)]
      have h := HPg.out
      rw [List.getD_eq_getElem?_getD, List.getElem?_eq_getElem (by omega)] at h
      simp only [Option.getD_some] at h
      rw [h]
      rfl
     have hfold : (pgs.take (k + 1)).foldl addPg [] = addPg gs (ti :: da :: rows) := by rw [hke, List.foldl_append, ← HGs.out]; rfl
     have hbd := addPg_bound gs (ti :: da :: rows) (400 * k) hrb.out (by simp only [List.length_cons]; omega)
     have hg2 := hgl.out
     refine ⟨k + 1, by omega, by go_num, ?_, ?_, ?_, HB10⟩
     ·rw [hfold]; exact HRA
     ·rw [hfold]; exact fun g hg => by have := hbd.1 g hg; omega
     ·rw [hfold]; exact Nat.le_trans hbd.2 (by omega)
    case measure => simp [intOf]; omega
end Go.Proofs.YtoemghiejfkpbaaGreatDoor
/- A table that grows by columns, in memory. -/
namespace Go.Proofs.YtoemghiejfkpbaaGreatDoor
open Go Go.Shelf Go.RowKit Go.Lib
set_option linter.unusedVariables false
def OwnT (w : World) (base : Nat) (v : Value) (l : List (List UInt8)) : Prop := w.ownsRow base 9 1 v l.length (sVs (l.map str))
structure TbS (w : World) (base b10 bR : Nat) (vH : Value) (vs : List Value) (H : List (List UInt8)) (Rs : List (List (List UInt8))) : Prop where
 len : vs.length = Rs.length
 box : Box w b10 30 #[vH, .slice (some ⟨bR, 0, none⟩) vs.length vs.length]
 row : Box w bR 27 vs.toArray
 hd : OwnT w base vH H
 rw_ : ∀ i, i < vs.length → OwnT w base (vs.getD i undef) (Rs.getD i [])
 aH : ∀ i, i < vs.length → ∀ b, vH.ownBlock = some b → (vs.getD i undef).ownBlock ≠ some b
 aR : ∀ i j, i < vs.length → j < vs.length → i ≠ j → ∀ b, (vs.getD i undef).ownBlock = some b → (vs.getD j undef).ownBlock ≠ some b
theorem TbS.next {w w' : World} {base b10 bR : Nat} {vH : Value} {vs : List Value} {H : List (List UInt8)} {Rs : List (List (List UInt8))} (h : TbS w base b10 bR vH vs H Rs) (hb : Below w.heap.size w w') : TbS w' base b10 bR vH vs H Rs :=
 ⟨h.len, h.box.below hb, h.row.below hb, own_next h.hd hb, fun i hi => own_next (h.rw_ i hi) hb, h.aH, h.aR⟩
theorem TbS.keep {w w' : World} {base b10 bR : Nat} {vH : Value} {vs : List Value} {H : List (List UInt8)} {Rs : List (List (List UInt8))} (h : TbS w base b10 bR vH vs H Rs)
  (hk : ∀ k cs ty, w.heap[k]? = some (.cells cs ty (0, 0)) → (k = b10 ∨ k = bR ∨ base ≤ k) → w'.heap[k]? = w.heap[k]?) : TbS w' base b10 bR vH vs H Rs := by
 have ho : ∀ (v : Value) (l : List (List UInt8)), OwnT w base v l → OwnT w' base v l := fun v l hv => own_heap hv fun b hb => by
  rcases hv.2 with ⟨rfl, _⟩ | ⟨g, cap, cur, rfl, hbb, hg, _⟩
  ·simp [Value.ownBlock] at hb
  ·simp only [Value.ownBlock, Option.some.injEq] at hb
   subst hb
   exact hk _ _ _ hg (.inr (.inr hbb))
 exact ⟨h.len, (hk _ _ _ h.box (.inl rfl)).trans h.box, (hk _ _ _ h.row (.inr (.inl rfl))).trans h.row, ho _ _ h.hd, fun i hi => ho _ _ (h.rw_ i hi), h.aH, h.aR⟩
theorem grown_set_heap (w : World) (b i : Nat) (v : Value) (k : Nat) (h : k ≠ b) : (w.setCell ⟨b, i, none⟩ v).heap[k]? = w.heap[k]? := Below.heap_setCell w ⟨b, i, none⟩ v k h
theorem TbS.addH {w w' : World} {base b10 bR : Nat} {vH v' : Value} {vs : List Value} {H X : List (List UInt8)} {Rs : List (List (List UInt8))} (h : TbS w base b10 bR vH vs H Rs) (hg : w.grownBy w' vH.ownBlock) (ho : OwnT w' base v' (H ++ X))
  (hv : v'.ownBlock = vH.ownBlock ∨ ∃ n, v'.ownBlock = some n ∧ w.heap.size ≤ n) : TbS (w'.setCell ⟨b10, 0, none⟩ v') base b10 bR v' vs (H ++ X) Rs := by
 have n1 : (9 : TypeId) ≠ 30 := by decide
 have n2 : (9 : TypeId) ≠ 27 := by decide
 have hb : Box w' b10 30 #[vH, .slice (some ⟨bR, 0, none⟩) vs.length vs.length] := h.box.grown hg (fun e => ownApart h.hd h.box n1 b10 e.symm rfl)
 have hr : Box w' bR 27 vs.toArray := h.row.grown hg (fun e => ownApart h.hd h.row n2 bR e.symm rfl)
 have hne : bR ≠ b10 := by
  intro e
  subst e
  unfold Box at hb hr
  rw [hb] at hr
  simp at hr
 have hkeep : ∀ (b0 n : Nat) (x : Value) (l : List Value), w'.ownsRow b0 9 1 x n l → (w'.setCell ⟨b10, 0, none⟩ v').ownsRow b0 9 1 x n l := fun b0 n x l hx => own_heap hx fun b hb' => grown_set_heap w' b10 0 v' b (fun e => ownApart hx hb n1 b hb' e)
 refine ⟨h.len, hb.set_ 0 v', hr.far (p := ⟨b10, 0, none⟩) hne _, hkeep _ _ _ _ ho, fun i hi => hkeep _ _ _ _ (own_grown (h.rw_ i hi) hg fun b hb' e => h.aH i hi b e hb'), fun i hi b e1 e2 => ?_, h.aR⟩
 rcases hv with hv | ⟨n, hv, hn⟩
 ·exact h.aH i hi b (by rw [← hv]; exact e1) e2
 ·rw [hv] at e1
  injection e1 with e1
  have := (own_lt (h.rw_ i hi) b e2).2
  omega
theorem TbS.addR {w w' : World} {base b10 bR : Nat} {vH v' : Value} {vs : List Value} {H X : List (List UInt8)} {Rs : List (List (List UInt8))} (h : TbS w base b10 bR vH vs H Rs) (i : Nat) (hi : i < vs.length) (hg : w.grownBy w' (vs.getD i undef).ownBlock) (ho : OwnT w' base v' (Rs.getD i [] ++ X))
  (hv : v'.ownBlock = (vs.getD i undef).ownBlock ∨ ∃ n, v'.ownBlock = some n ∧ w.heap.size ≤ n) : TbS (w'.setCell ⟨bR, i, none⟩ v') base b10 bR vH (vs.set i v') H (Rs.set i (Rs.getD i [] ++ X)) := by
 have n1 : (9 : TypeId) ≠ 30 := by decide
 have n2 : (9 : TypeId) ≠ 27 := by decide
 have hoi := h.rw_ i hi
 have hb : Box w' b10 30 #[vH, .slice (some ⟨bR, 0, none⟩) vs.length vs.length] := h.box.grown hg (fun e => ownApart hoi h.box n1 b10 e.symm rfl)
 have hr : Box w' bR 27 vs.toArray := h.row.grown hg (fun e => ownApart hoi h.row n2 bR e.symm rfl)
 have hne : b10 ≠ bR := by
  intro e
  subst e
  unfold Box at hb hr
  rw [hb] at hr
  simp at hr
 have hkeep : ∀ (b0 n : Nat) (x : Value) (l : List Value), w'.ownsRow b0 9 1 x n l → (w'.setCell ⟨bR, i, none⟩ v').ownsRow b0 9 1 x n l := fun b0 n x l hx => own_heap hx fun b hb' => grown_set_heap w' bR i v' b (fun e => ownApart hx hr n2 b hb' e)
 have hgs : ∀ j, j ≠ i → (vs.set i v').getD j undef = vs.getD j undef := fun j hj => by rw [List.getD_eq_getElem?_getD, List.getD_eq_getElem?_getD, List.getElem?_set_ne (fun e => hj e.symm)]
 have hgi : (vs.set i v').getD i undef = v' := by rw [List.getD_eq_getElem?_getD, List.getElem?_set_self hi]; rfl
 have hRs : ∀ j, j ≠ i → (Rs.set i (Rs.getD i [] ++ X)).getD j [] = Rs.getD j [] := fun j hj => by rw [List.getD_eq_getElem?_getD, List.getElem?_set_ne (fun e => hj e.symm), ← List.getD_eq_getElem?_getD]
 have hRi : (Rs.set i (Rs.getD i [] ++ X)).getD i [] = Rs.getD i [] ++ X := by rw [List.getD_eq_getElem?_getD, List.getElem?_set_self (by rw [← h.len]; exact hi)]; rfl
 have hnew : ∀ b, v'.ownBlock = some b → (vs.getD i undef).ownBlock = some b ∨ w.heap.size ≤ b := fun b e => by
  rcases hv with hv | ⟨n, hv, hn⟩
  ·exact .inl (by rw [← hv]; exact e)
  ·rw [hv] at e; injection e with e; exact .inr (by omega)
 refine ⟨by rw [List.length_set, List.length_set]; exact h.len, ?_, ?_, hkeep _ _ _ _ (own_grown h.hd hg fun b hb' e => h.aH i hi b hb' e), fun j hj => ?_, fun j hj b e1 e2 => ?_, fun j k hj hk hjk b e1 e2 => ?_⟩
 ·rw [List.length_set]
  exact hb.far (p := ⟨bR, i, none⟩) hne _
 ·have h1 := hr.set_ i v'
  rw [List.setIfInBounds_toArray] at h1
  exact h1
 ·rw [List.length_set] at hj
  by_cases e : j = i
  ·subst e
   rw [hgi, hRi]
   exact hkeep _ _ _ _ ho
  ·rw [hgs j e, hRs j e]
   exact hkeep _ _ _ _ (own_grown (h.rw_ j hj) hg fun b hb' e2 => h.aR j i hj hi e b hb' e2)
 ·rw [List.length_set] at hj
  by_cases e : j = i
  ·subst e
   rw [hgi] at e2
   rcases hnew b e2 with h1 | h1
   ·exact h.aH j hj b e1 h1
   ·have := (own_lt h.hd b e1).2; omega
  ·rw [hgs j e] at e2
   exact h.aH j hj b e1 e2
 ·rw [List.length_set] at hj hk
  by_cases ej : j = i
  ·subst ej
   rw [hgi] at e1
   rw [hgs k (fun e => hjk e.symm)] at e2
   rcases hnew b e1 with h1 | h1
   ·exact h.aR j k hj hk hjk b h1 e2
   ·have := (own_lt (h.rw_ k hk) b e2).2; omega
  ·rw [hgs j ej] at e1
   by_cases ek : k = i
   ·subst ek
    rw [hgi] at e2
    rcases hnew b e2 with h1 | h1
    ·exact h.aR j k hj hk hjk b e1 h1
    ·have := (own_lt (h.rw_ j hj) b e1).2; omega
   ·rw [hgs k ek] at e2
    exact h.aR j k hj hk hjk b e1 e2
theorem made_rows (n : Nat) : madeCells #[.slice none 0 0] n = (List.replicate n (Value.slice none 0 0)).toArray := by
 apply Array.ext'
 simp only [madeCells]
 simp
 refine List.ext_getElem (by simp) fun i h1 h2 => ?_
 simp [Nat.mod_one]
theorem tbs_start {w : World} {base b10 bR R : Nat} (hb : Box w b10 30 #[.slice none 0 0, .slice (some ⟨bR, 0, none⟩) R R]) (hr : Box w bR 27 (madeCells #[.slice none 0 0] R)) : TbS w base b10 bR (.slice none 0 0) (List.replicate R (.slice none 0 0)) [] (List.replicate R []) := by
 have hg : ∀ i, i < (List.replicate R (Value.slice none 0 0)).length → (List.replicate R (Value.slice none 0 0)).getD i undef = .slice none 0 0 := fun i hi => by
  rw [List.length_replicate] at hi
  rw [List.getD_eq_getElem?_getD, List.getElem?_replicate, if_pos hi]
  rfl
 have hg2 : ∀ i, i < (List.replicate R (Value.slice none 0 0)).length → (List.replicate R ([] : List (List UInt8))).getD i [] = [] := fun i hi => by
  rw [List.length_replicate] at hi
  rw [List.getD_eq_getElem?_getD, List.getElem?_replicate, if_pos hi]
  rfl
 refine ⟨by rw [List.length_replicate, List.length_replicate], by rw [List.length_replicate]; exact hb, by rw [made_rows] at hr; exact hr, World.ownsRow_nil _ _ _ _, fun i hi => ?_, fun i hi b e => (by cases e), fun i j hi hj hij b e => ?_⟩
 ·rw [hg i hi, hg2 i hi]
  exact World.ownsRow_nil _ _ _ _
 ·rw [hg i hi] at e
  cases e
theorem OwnT.sr {w : World} {base : Nat} {v : Value} {l : List (List UInt8)} (h : OwnT w base v l) (hl : ∀ x ∈ l, x.length ≤ maxLen) : ∃ r : SR, srV r = v ∧ r.l = l.map str ∧ SRIn w w.heap.size r := by
 obtain ⟨A, c, rfl, h1, h2⟩ := own_form h
 refine ⟨⟨A, c, l.map str⟩, by simp [srV], rfl, ⟨Row.of_own h, by simpa using h1, h2, fun s hs => ?_⟩⟩
 obtain ⟨x, hx, rfl⟩ := List.mem_map.1 hs
 rw [str_size]
 exact hl x hx
theorem TbS.tb {w : World} {base b10 bR : Nat} {vH : Value} {vs : List Value} {H : List (List UInt8)} {Rs : List (List (List UInt8))} (h : TbS w base b10 bR vH vs H Rs) (hR : vs.length ≤ maxLen) (hH : ∀ x ∈ H, x.length ≤ maxLen) (hX : ∀ i, i < vs.length → ∀ x ∈ Rs.getD i [], x.length ≤ maxLen) :
  ∃ t' : Tb, t'.val = .agg #[vH, .slice (some ⟨bR, 0, none⟩) vs.length vs.length] ∧ t'.cells = #[vH, .slice (some ⟨bR, 0, none⟩) vs.length vs.length] ∧ TbIn w w.heap.size t' ∧ t'.h.l = H.map str ∧ t'.rs.map SR.l = Rs.map fun l => l.map str := by
 obtain ⟨rH, e1, e2, e3⟩ := h.hd.sr hH
 obtain ⟨rs, hl, hrs⟩ := listOf sr0 (fun i r => srV r = vs.getD i undef ∧ r.l = (Rs.getD i []).map str ∧ SRIn w w.heap.size r) vs.length fun i hi => (h.rw_ i hi).sr (hX i hi)
 have hv : rs.map srV = vs := by
  apply List.ext_getElem (by rw [List.length_map, hl])
  intro i h1 h2
  have h3 := (hrs i h2).1
  rw [List.getD_eq_getElem?_getD, List.getD_eq_getElem?_getD, List.getElem?_eq_getElem (by omega), List.getElem?_eq_getElem h2] at h3
  simpa using h3
 have hL : rs.map SR.l = Rs.map fun l => l.map str := by
  have hlen := h.len
  apply List.ext_getElem (by rw [List.length_map, List.length_map, hl, hlen])
  intro i h1 h2
  rw [List.length_map] at h2
  have h3 := (hrs i (by omega)).2.1
  rw [List.getD_eq_getElem?_getD, List.getD_eq_getElem?_getD, List.getElem?_eq_getElem (by omega), List.getElem?_eq_getElem h2] at h3
  simpa using h3
 have hval : #[srV rH, Value.slice (some ⟨bR, 0, none⟩) rs.length vs.length] = #[vH, .slice (some ⟨bR, 0, none⟩) vs.length vs.length] := by rw [e1, hl]
 refine ⟨⟨rH, some ⟨bR, 0, none⟩, vs.length, rs⟩, congrArg Value.agg hval, hval, ⟨e3, ?_, by rw [hl]; exact Nat.le_refl _, hR, fun r hr => ?_⟩, e2, hL⟩
 ·have hr := Row.of_box h.row
  show Row w w.heap.size (some ⟨bR, 0, none⟩) (rs.map srV)
  rw [hv]
  exact hr
 ·obtain ⟨i, hi, e⟩ := List.getElem_of_mem hr
  have hi' : i < rs.length := hi
  have h3 := (hrs i (by omega)).2.2
  rw [List.getD_eq_getElem?_getD, List.getElem?_eq_getElem hi'] at h3
  rw [← e]
  exact h3
def Marks (base : Nat) (rs : List Nat) (w : World) : Prop := rs.Nodup ∧ ∀ r ∈ rs, base ≤ r ∧ w.heap[r]? = some (.deferred (some []))
def markD (rs : List Nat) : List Deferred := rs.map fun r => { target := .collected r, args := #[] }
theorem belowOnly {p : Nat → Prop} {A B : World} (n : Nat) (h : Only p A B) (hp : ∀ k, k < n → ¬ p k) (hn : n ≤ A.heap.size) : Below n A B := ⟨h.os, h.tape, h.output, h.size, fun k hk => h.block k (by omega) (hp k hk)⟩
theorem leaves_marks {n : Nat} {fn : Func} {tmps : Array Value} {R : Ending → World → Prop} {base : Nat} : ∀ (rs : List Nat) (w : World), Marks base rs w → (∀ w', Only (fun k => k ∈ rs) w w' → LeavesIn Fence.wide n Tryz.prog fn tmps R [] .returning w') → LeavesInM Fence.wide n Tryz.prog fn tmps R (markD rs) .returning w
 | [], w, _, h => h w ⟨rfl, rfl, rfl, Nat.le_refl _, fun _ _ _ => rfl⟩
 | r :: rs, w, hm, h => by
  obtain ⟨hn, hr⟩ := hm
  have h0 := (hr r (List.mem_cons_self ..)).2
  rw [List.nodup_cons] at hn
  refine ⟨by simp, .inl ⟨_, _, rfl, run_takeDeferred h0, ?_⟩⟩
  have ho : ∀ o, Only (fun k => k = r) w (w.putObj r o) := fun o => only_put w r o rfl
  refine leaves_marks (base := base) rs _ ⟨hn.2, fun q hq => ?_⟩ fun w' hw' => h w' ?_
  ·have h1 := hr q (List.mem_cons_of_mem _ hq)
   refine ⟨h1.1, ((ho _).block q (Array.getElem?_eq_some_iff.1 h1.2).1 (fun e => hn.1 (by rw [← e]; exact hq))).trans h1.2⟩
  ·exact ((ho _).more (q := fun k => k ∈ r :: rs) (fun k _ hk => by rw [hk]; exact List.mem_cons_self ..)).trans (hw'.more fun k _ hk => List.mem_cons_of_mem _ hk)
structure Side (w : World) (bR n0 : Nat) (cs12 : Array Value) (v13 : Value) (ws rs : List Nat) : Prop where
 b12 : Box w n0 70 cs12
 b13 : Box w (n0 + 1) 31 #[v13]
 own : w.ownsRow (n0 + 7) 3 1 v13 ws.length (ints (natI ws))
 mks : Marks bR rs w
def NotTb (o : Obj) : Prop := ∀ cs ty, o = .cells cs ty (0, 0) → ty ≠ 9 ∧ ty ≠ 30 ∧ ty ≠ 27
theorem notTb_of {cs : Array Value} {ty : TypeId} (h : ty ≠ 9 ∧ ty ≠ 30 ∧ ty ≠ 27) : NotTb (.cells cs ty (0, 0)) := fun cs' ty' e => by
 injection e with _ e2 _
 rw [← e2]
 exact h
theorem Side.keep {w w' : World} {bR n0 : Nat} {cs12 : Array Value} {v13 : Value} {ws rs : List Nat} (h : Side w bR n0 cs12 v13 ws rs) (hk : ∀ (m : Nat) (o : Obj), w.heap[m]? = some o → NotTb o → w'.heap[m]? = w.heap[m]?) : Side w' bR n0 cs12 v13 ws rs := by
 refine ⟨(hk _ _ h.b12 (notTb_of (by decide))).trans h.b12, (hk _ _ h.b13 (notTb_of (by decide))).trans h.b13, own_heap h.own fun b hb => ?_, h.mks.1, fun r hr => ⟨(h.mks.2 r hr).1, (hk _ _ (h.mks.2 r hr).2 (fun cs ty e => by cases e)).trans (h.mks.2 r hr).2⟩⟩
 rcases h.own.2 with ⟨e, _⟩ | ⟨g, cap, cur, e, _, hg, _⟩
 ·rw [e] at hb; simp [Value.ownBlock] at hb
 ·rw [e] at hb
  simp only [Value.ownBlock, Option.some.injEq] at hb
  subst hb
  exact hk _ _ hg (notTb_of (by decide))
theorem Side.next {w w' : World} {bR n0 : Nat} {cs12 : Array Value} {v13 : Value} {ws rs : List Nat} (h : Side w bR n0 cs12 v13 ws rs) (hb : Below w.heap.size w w') : Side w' bR n0 cs12 v13 ws rs := h.keep fun m o ho _ => hb.block m (Array.getElem?_eq_some_iff.1 ho).1
theorem Side.step {w w7 : World} {bR n0 b i : Nat} {cs12 : Array Value} {v13 v vr : Value} {ws rs : List Nat} {base : Nat} {l : List (List UInt8)} {csb : Array Value} {tyb : TypeId} (h : Side w bR n0 cs12 v13 ws rs) (ho : OwnT w base vr l) (hg : w.grownBy w7 vr.ownBlock)
  (hb : Box w b tyb csb) (ht : tyb = 30 ∨ tyb = 27) : Side (w7.setCell ⟨b, i, none⟩ v) bR n0 cs12 v13 ws rs := h.keep fun m o hm hn => by
 refine (grown_set_heap w7 b i v m fun e => ?_).trans (hg.block m (Array.getElem?_eq_some_iff.1 hm).1 fun e => ?_)
 ·subst e
  unfold Box at hb
  rw [hb] at hm
  injection hm with hm
  have := hn _ _ hm.symm
  rcases ht with h | h
  ·exact this.2.1 h
  ·exact this.2.2 h
 ·rcases ho.2 with ⟨e1, _⟩ | ⟨g, cap, cur, e1, _, hg1, _⟩
  ·rw [e1] at e; simp [Value.ownBlock] at e
  ·rw [e1] at e
   simp only [Value.ownBlock, Option.some.injEq] at e
   subst e
   rw [hg1] at hm
   injection hm with hm
   exact (hn _ _ hm.symm).1 rfl
def mixR (R q : Nat) (f g : Nat → List (List UInt8)) : List (List (List UInt8)) := (List.range R).map fun j => if j < q then g j else f j
theorem mixR_get {R q i : Nat} {f g : Nat → List (List UInt8)} (hi : i < R) : (mixR R q f g).getD i [] = if i < q then g i else f i := by
 unfold mixR
 rw [List.getD_eq_getElem?_getD, List.getElem?_map, List.getElem?_range hi]
 rfl
theorem mixR_zero (R : Nat) (f g : Nat → List (List UInt8)) : mixR R 0 f g = (List.range R).map f := by unfold mixR; simp
theorem mixR_all (R : Nat) (f g : Nat → List (List UInt8)) : mixR R R f g = (List.range R).map g := by
 unfold mixR
 refine List.map_congr_left fun i hi => ?_
 rw [if_pos (List.mem_range.1 hi)]
theorem mixR_step {R q : Nat} {f g : Nat → List (List UInt8)} (hq : q < R) : (mixR R q f g).set q (g q) = mixR R (q + 1) f g := by
 apply List.ext_getElem (by simp [mixR])
 intro i h1 h2
 simp only [mixR, List.getElem_set, List.getElem_map, List.getElem_range]
 by_cases h : q = i
 ·subst h; rw [if_pos rfl, if_pos (by omega)]
 ·rw [if_neg h]
  by_cases h3 : i < q
  ·rw [if_pos h3, if_pos (by omega)]
  ·rw [if_neg h3, if_neg (by omega)]
end Go.Proofs.YtoemghiejfkpbaaGreatDoor
/- page.Read, walked. -/
namespace Go.Proofs.YtoemghiejfkpbaaGreatDoor
open Go Go.Shelf Go.RowKit Go.Lib
attribute [local go_sem] Oper.semAt_some
set_option linter.unusedVariables false
def gr0 : Gr := ⟨[], [], []⟩
def GrAt (w : World) (gO k : Nat) (g : Gr) : Prop := ∃ A c, w.cell? ⟨gO, k * 3, none⟩ = some (.string (str g.ti)) ∧ w.cell? ⟨gO, k * 3 + 1, none⟩ = some (.string (str g.da)) ∧ w.cell? ⟨gO, k * 3 + 2, none⟩ = some (.slice A g.rows.length c) ∧ g.rows.length ≤ c ∧ Row w w.heap.size A (rowsV g)
theorem RgA.read {w : World} {base : Nat} {vO : Value} {gs : List Gr} (h : RgA w base vO gs) (hn : 1 ≤ gs.length) : ∃ gO cO, vO = .slice (some ⟨gO, 0, none⟩) gs.length cO ∧ gO < w.heap.size ∧ ∀ k, k < gs.length → GrAt w gO k (gs.getD k gr0) := by
 rcases h with ⟨rfl, _⟩ | ⟨B, ps, p, e, h⟩
 ·simp at hn
 ·have hl : gs.length = ps.length + 1 := by rw [e]; simp
  obtain ⟨gO, cO, rfl⟩ := Go.Joins.ownsRow_form h.out (by omega)
  refine ⟨gO, cO, by rw [hl], (own_lt h.out gO rfl).2, fun k hk => ?_⟩
  have hk' : k < (ps ++ [p]).length := by simp; omega
  obtain ⟨q, hq⟩ : ∃ q, q = (ps ++ [p]).getD k (gr0, undef) := ⟨_, rfl⟩
  have hq1 : gs.getD k gr0 = q.1 := by
   have e2 : gs = (ps ++ [p]).map Prod.fst := by rw [e]; simp
   rw [e2, hq, List.getD_eq_getElem?_getD, List.getD_eq_getElem?_getD, List.getElem?_map, List.getElem?_eq_getElem hk']
   rfl
  have hcell : ∀ j, j < 3 → w.cell? ⟨gO, k * 3 + j, none⟩ = (gf q)[j]? := fun j hj => by
   rw [(own_cellS h.out (k * 3 + j) (by omega)).1, flat_get gf_len (gr0, undef) (ps ++ [p]) k j hk' hj, ← hq]
  have hrow : ∃ b0, w.ownsRow b0 9 1 q.2 q.1.rows.length (rowsV q.1) := by
   by_cases hkp : k < ps.length
   ·have hm : q ∈ ps := by rw [hq, List.getD_eq_getElem?_getD, List.getElem?_append_left hkp, List.getElem?_eq_getElem hkp]; exact List.getElem_mem hkp
    exact ⟨_, (h.don q hm).1⟩
   ·have : q = p := by rw [hq, List.getD_eq_getElem?_getD, List.getElem?_append_right (by omega), show k - ps.length = 0 by omega]; rfl
    rw [this]
    exact ⟨_, h.cur⟩
  obtain ⟨b0, ho⟩ := hrow
  obtain ⟨A, c, hv, hc, _⟩ := own_form ho
  rw [hq1]
  refine ⟨A, c, hcell 0 (by omega), hcell 1 (by omega), ?_, hc, ?_⟩
  ·rw [hcell 2 (by omega), ← hv]; rfl
  ·rw [hv] at ho; exact Row.of_own ho
structure ReadIn (GR : List Gr) (R : Nat) (Wd : Nat → List Nat) (Hd : Nat → List (List UInt8)) (Rw : Nat → Nat → List (List UInt8)) : Prop where
 n1 : 1 ≤ GR.length ∧ GR.length ≤ 12
 r4 : R ≤ 400
 rl : ∀ k, k < GR.length → (GR.getD k gr0).rows.length = R
 pc : ∀ k, k < GR.length → (GR.getD k gr0).da.length ≤ 10000 ∧ ∃ xs, Pieces [32, 32] (GR.getD k gr0).da xs ∧ xs.map List.length = Wd k
 wd : ∀ k, k < GR.length → 1 ≤ (Wd k).length ∧ (Wd k).length ≤ 12 ∧ min k 1 < (Wd k).length ∧ ∀ n ∈ Wd k, n ≤ 1000
 ti : ∀ k, k < GR.length → (GR.getD k gr0).ti.length ≤ 10000 ∧ ∀ i, i < R → ((GR.getD k gr0).rows.getD i []).length ≤ 10000
 h0 : Hd 0 = [] ∧ ∀ i, Rw 0 i = []
 hs : ∀ k, k < GR.length → Hd (k + 1) = Hd k ++ (cutR (Wd k) (runesT (GR.getD k gr0).ti)).drop (min k 1)
 rs : ∀ k, k < GR.length → ∀ i, i < R → Rw (k + 1) i = Rw k i ++ (cutR (Wd k) (runesT ((GR.getD k gr0).rows.getD i []))).drop (min k 1)
 bd : ∀ k, k ≤ GR.length → ((Hd k).length ≤ 200 ∧ ∀ x ∈ Hd k, x.length ≤ 10000) ∧ ∀ i, i < R → (Rw k i).length ≤ 200 ∧ ∀ x ∈ Rw k i, x.length ≤ 10000
def TbOf (t : Tb) (H : List (List UInt8)) (R : Nat) (Rw : Nat → List (List UInt8)) : Prop := t.h.l = H.map str ∧ t.rs.map SR.l = (List.range R).map fun i => (Rw i).map str
def LayBack (w : World) (ss : List ByteArray) (wd ht : Nat) (H : List (List UInt8)) (R : Nat) (Rw : Nat → List (List UInt8)) : Prop := ∀ W t', Below w.heap.size w W → TbIn W W.heap.size t' → TbOf t' H R Rw →
 Calls Tryz.prog 10 #[t'.val, .int .i64 (wd : Int), .int .i64 (ht : Int)] W fun e w' => ∃ A c, e = .returned (.tuple #[.slice A ss.length c, .int .i64 0]) ∧ Row w' w'.heap.size A (sVs ss) ∧ Below W.heap.size W w'
def toldC (B n : Nat) (xs : List Value) : Told := ⟨fun v => ∃ g c, v = .slice (some ⟨g, 0, none⟩) n c ∧ n ≤ c, fun v w => w.ownsRow B 9 1 v n xs⟩
theorem eq_strs (A1 A2 : Option Addr) (c1 c2 : Nat) (l : List ByteArray) (W : World) (hl : 0 < l.length) (hl2 : l.length ≤ 10000) (h1 : Row W W.heap.size A1 (sVs l)) (h2 : Row W W.heap.size A2 (sVs l)) :
  Calls Tryz.prog 35 #[.slice A1 l.length c1, .slice A2 l.length c2] W fun e w' => e = .returned (.bool true) ∧ ∃ q, w' = W.drewN q := by
 obtain ⟨b1, o1, rfl, _, hc1⟩ := h1.open_ (sVs_ne l hl)
 obtain ⟨b2, o2, rfl, _, hc2⟩ := h2.open_ (sVs_ne l hl)
 have hk : ∀ j, j < l.length → (sVs l)[j]? = some (.string (l.getD j ByteArray.empty)) := fun j hj => by simp [sVs, List.getD, List.getElem?_eq_getElem hj]
 refine (slices_Equal_string b1 o1 l.length c1 b2 o2 l.length c2 l l W (Nat.le_refl _) (Nat.le_refl _) (by omega) (by omega) (fun j hj => hc1 j _ (hk j hj)) (fun j hj => hc2 j _ (hk j hj))).mono ?_
 rintro e w' ⟨rfl, q⟩
 exact ⟨by simp, q⟩
set_option maxHeartbeats 8000000 in
set_option maxRecDepth 100000 in
theorem pkread_any (A : Option Addr) (c : Nat) (ss : List ByteArray) (pgs : List (List (List UInt8))) (wd ht : Nat) (R : Nat) (Wd : Nat → List Nat) (Hd : Nat → List (List UInt8)) (Rw : Nat → Nat → List (List UInt8)) (w : World) (hrow : Row w w.heap.size A (sVs ss)) (hn : 1 ≤ ss.length) (hl : ss.length = pgs.length) (hle : ss.length ≤ 10000)
  (hP : ∀ k, k < ss.length → PgIn (ss.getD k ⟨#[]⟩) (pgs.getD k [])) (hS : Shp w) (h1 : 20 ≤ wd) (h2 : wd ≤ 200) (h3 : 4 ≤ ht) (h4 : ht ≤ 100) (hR : ReadIn (pgs.foldl addPg []) R Wd Hd Rw) (hLB : LayBack w ss wd ht (Hd (pgs.foldl addPg []).length) R (Rw (pgs.foldl addPg []).length)) :
  Calls Tryz.prog 11 #[.slice A ss.length c, .int .i64 (wd : Int), .int .i64 (ht : Int)] w fun e w' => ∃ t', e = .returned (.tuple #[t'.val, .int .i64 0]) ∧ TbIn w' w'.heap.size t' ∧ TbOf t' (Hd (pgs.foldl addPg []).length) R (Rw (pgs.foldl addPg []).length) ∧ Below w.heap.size w w' := by
 obtain ⟨GR, hGR⟩ : ∃ GR, GR = pgs.foldl addPg [] := ⟨_, rfl⟩
 have HRG := Lib.hid (fun W (hb : Below w.heap.size w W) => rgroups_any A c ss pgs W (hrow.next hb) hn hl hle hP (hS.next hb))
 rw [← hGR] at hR hLB HRG ⊢
 clear hGR
 obtain ⟨N, hN⟩ : ∃ N, N = GR.length := ⟨_, rfl⟩
 have HRI := Lib.hid hR
 have HLB := Lib.hid hLB
 have HS := Lib.hid hS
 have HIR := Lib.hid (fun W => pgInRange_yes wd ht W h1 h2 h3 h4)
 clear hR hLB hP hl
 refine (callsIn_wide (n := 3)).1 ?_
 refine callsIn_of_wp_marks Tryz.func11 rfl trivial ?_ rfl
 refine wpIn_wide.2 ?_
 simp only [Tryz.ntmps11, List.size_toArray, List.length_cons, List.length_nil, Nat.reduceAdd, Nat.reduceSub, Array.replicate_succ, Array.replicate_zero, List.push_toArray, List.append_toArray, List.nil_append, List.cons_append]
 go_upto_region 4 with (first
  | (go_at_call 24; refine (HIR.out _).mono ?_; rintro e w2 ⟨rfl, hw2⟩; rw [hw2]; clear hw2)
  | (go_at_call 32; refine (HRG.out _ (below_alloc1 _ _)).mono ?_; rintro e w3 ⟨vO, rfl, hrg, hb3⟩))
 have hb1 := below_alloc1 w (Obj.cells #[.slice none 0 0, .slice none 0 0] 30)
 have hz6 := Box.new w 30 #[.slice none 0 0, .slice none 0 0]
 have HX6 := Lib.hid (hz6.below hb3)
 have HB3 := Lib.hid (below_then hb1 hb3)
 have hN1 : 1 ≤ N := by have := HRI.out.n1; omega
 have hN12 : N ≤ 12 := by have := HRI.out.n1; omega
 obtain ⟨gO, cO, rfl, hgO, hgr⟩ := hrg.read (by omega)
 have HGO := Lib.hid hgO
 have HGr := Lib.hid hgr
 have hR4 := HRI.out.r4
 obtain ⟨A0, c0, _, _, z2, hc0, _⟩ := hgr 0 (by omega)
 rw [HRI.out.rl 0 (by omega), Nat.zero_mul, Nat.zero_add] at z2
 rw [← hN]
 have HN := Lib.hid hN
 have HB6 : Hid (w.heap.size < w3.heap.size) := HX6.out.lt
 have hmk := fun W => run_make_row' (P := Tryz.prog) 28 27 (.slice none 0 0) 24 Tryz.underlying28 infoStrs rfl .i64 .i64 R (by omega) (by omega) W
 have t0 : (0 : Int) < (N : Int) := by omega
 clear hb1 hz6 hrg hgr hb3 hgO hN hc0 HIR HRG
 obtain ⟨b6, hb6⟩ : ∃ b6, b6 = w.heap.size := ⟨_, rfl⟩
 rw [← hb6] at HX6 HB6 ⊢
 have HB6e := Lib.hid hb6
 clear hb6
 go_upto_region 7 with fail
 obtain ⟨bR, hbR⟩ : ∃ bR, bR = w3.heap.size := ⟨_, rfl⟩
 rw [← hbR] at HGO HB6
 have e25 : ((w3.alloc (.cells (madeCells #[.slice none 0 0] R) 27)).alloc (.cells #[.slice none 0 0, .slice (some ⟨bR, 0, none⟩) R R] 30)).heap.size = bR + 2 := by rw [World.size_alloc, World.size_alloc, hbR]
 have hx1 := (Box.new w3 27 (madeCells #[.slice none 0 0] R)).alloc (.cells #[.slice none 0 0, .slice (some ⟨bR, 0, none⟩) R R] 30)
 have hx2 := Box.new (w3.alloc (.cells (madeCells #[.slice none 0 0] R) 27)) 30 #[.slice none 0 0, .slice (some ⟨bR, 0, none⟩) R R]
 rw [World.size_alloc, ← hbR] at hx2
 rw [← hbR] at hx1
 have HT0 := Lib.hid (tbs_start (base := bR) hx2 hx1)
 have HB40 := Lib.hid (below_alloc2 w3 (.cells (madeCells #[.slice none 0 0] R) 27) (.cells #[.slice none 0 0, .slice (some ⟨bR, 0, none⟩) R R] 30))
 rw [← hbR] at HB40
 have HBR := Lib.hid hbR
 rw [← hbR]
 clear hx1 hx2 hbR z2 hmk t0
 generalize (w3.alloc (.cells (madeCells #[.slice none 0 0] R) 27)).alloc (.cells #[.slice none 0 0, .slice (some ⟨bR, 0, none⟩) R R] 30) = W4 at *
 go_wp2_with fail
 refine wp_loop (fun a' wr => ∃ (ds : List Deferred) (u11 u12 u13 u14 u15 u16 u17 u42 u43 u44 u45 u46 u47 u48 u49 u50 u51 u52 u53 u54 u55 u56 u57 u58 u59 u60 u61 u62 u63 u64 u65 u66 u67 u68 u69 u70 u71 u72 u73 u74 u75 u76 u77 u78 u79 u80 u81 u82 u83 u84 u85 u86 u87 u88 u89 u90 u91 u92 u93 u94 u95 u96 u97 u98 u99 u100 u101 u102 u103 u104 u105 : Value), (∃ (k : Nat) (rs : List Nat) (vH : Value) (vs : List Value), k ≤ N ∧ u42 = .int .i64 (k : Int) ∧ ds = markD rs ∧ Hid (Marks bR rs wr) ∧ vs.length = R ∧ Hid (TbS wr bR (bR + 1) bR vH vs (Hd k) ((List.range R).map (Rw k))) ∧ Hid (Below bR w3 wr)) ∧ a' = { tmps := List.toArray ((Value.slice A ss.length c) :: (Value.int .i64 (wd : Int)) :: (Value.int .i64 (ht : Int)) :: undef :: undef :: undef :: (Value.pointer (some ⟨b6, 0, none⟩)) :: (Value.int .i64 0) :: (Value.slice (some ⟨gO, 0, none⟩) N cO) :: (Value.bool true) :: (Value.pointer (some ⟨bR + 1, 0, none⟩)) :: u11 :: u12 :: u13 :: u14 :: u15 :: u16 :: u17 :: undef :: undef :: (Value.int .i64 (wd : Int)) :: (Value.int .i64 (ht : Int)) :: (Value.bool true) :: (Value.bool false) :: undef :: (Value.tuple #[.slice (some ⟨gO, 0, none⟩) N cO, .bool true]) :: (Value.slice A ss.length c) :: (Value.tuple #[.slice (some ⟨gO, 0, none⟩) N cO, .bool true]) :: (Value.slice (some ⟨gO, 0, none⟩) N cO) :: (Value.bool true) :: (Value.bool true) :: (Value.bool false) :: undef :: (Value.slice (some ⟨gO, 0, none⟩) N cO) :: (Value.pointer (some ⟨gO, 0, none⟩)) :: (Value.pointer (some ⟨gO, 2, none⟩)) :: (Value.slice A0 R c0) :: (Value.int .i64 (R : Int)) :: (Value.slice (some ⟨bR, 0, none⟩) R R) :: (Value.agg #[.slice none 0 0, .slice (some ⟨bR, 0, none⟩) R R]) :: (Value.slice (some ⟨gO, 0, none⟩) N cO) :: (Value.int .i64 (N : Int)) :: u42 :: u43 :: u44 :: u45 :: u46 :: u47 :: u48 :: u49 :: u50 :: u51 :: u52 :: u53 :: u54 :: u55 :: u56 :: u57 :: u58 :: u59 :: u60 :: u61 :: u62 :: u63 :: u64 :: u65 :: u66 :: u67 :: u68 :: u69 :: u70 :: u71 :: u72 :: u73 :: u74 :: u75 :: u76 :: u77 :: u78 :: u79 :: u80 :: u81 :: u82 :: u83 :: u84 :: u85 :: u86 :: u87 :: u88 :: u89 :: u90 :: u91 :: u92 :: u93 :: u94 :: u95 :: u96 :: u97 :: u98 :: u99 :: u100 :: u101 :: u102 :: u103 :: u104 :: u105 :: undef :: undef :: undef :: undef :: undef :: undef :: undef :: undef :: undef :: undef :: undef :: undef :: undef :: undef :: undef :: undef :: undef :: []), defers := ds }) (fun a' _ => N - (intOf (a'.tmps.getD 42 undef)).toNat) ?_ ?_
 ·(repeat apply Exists.intro)
  refine ⟨⟨0, [], .slice none 0 0, List.replicate R (.slice none 0 0), by omega, rfl, rfl, ⟨List.nodup_nil, fun r hr => by cases hr⟩, by simp, ?_, HB40.out⟩, rfl⟩
  have h0 := HRI.out.h0
  have e : (List.range R).map (Rw 0) = List.replicate R [] := by
   rw [List.eq_replicate_iff]
   refine ⟨by simp, fun b hb => ?_⟩
   obtain ⟨i, _, rfl⟩ := List.mem_map.1 hb
   exact h0.2 i
  rw [h0.1, e]
  exact HT0.out
 intro a' wr hinv
 obtain ⟨ds, hinv⟩ := hinv
 obtain ⟨u11, hinv⟩ := hinv
 obtain ⟨u12, hinv⟩ := hinv
 obtain ⟨u13, hinv⟩ := hinv
 obtain ⟨u14, hinv⟩ := hinv
 obtain ⟨u15, hinv⟩ := hinv
 obtain ⟨u16, hinv⟩ := hinv
 obtain ⟨u17, hinv⟩ := hinv
 obtain ⟨u42, hinv⟩ := hinv
 obtain ⟨u43, hinv⟩ := hinv
 obtain ⟨u44, hinv⟩ := hinv
 obtain ⟨u45, hinv⟩ := hinv
 obtain ⟨u46, hinv⟩ := hinv
 obtain ⟨u47, hinv⟩ := hinv
 obtain ⟨u48, hinv⟩ := hinv
 obtain ⟨u49, hinv⟩ := hinv
 obtain ⟨u50, hinv⟩ := hinv
 obtain ⟨u51, hinv⟩ := hinv
 obtain ⟨u52, hinv⟩ := hinv
 obtain ⟨u53, hinv⟩ := hinv
 obtain ⟨u54, hinv⟩ := hinv
 obtain ⟨u55, hinv⟩ := hinv
 obtain ⟨u56, hinv⟩ := hinv
 obtain ⟨u57, hinv⟩ := hinv
 obtain ⟨u58, hinv⟩ := hinv
 obtain ⟨u59, hinv⟩ := hinv
 obtain ⟨u60, hinv⟩ := hinv
 obtain ⟨u61, hinv⟩ := hinv
 obtain ⟨u62, hinv⟩ := hinv
 obtain ⟨u63, hinv⟩ := hinv
 obtain ⟨u64, hinv⟩ := hinv
 obtain ⟨u65, hinv⟩ := hinv
 obtain ⟨u66, hinv⟩ := hinv
 obtain ⟨u67, hinv⟩ := hinv
 obtain ⟨u68, hinv⟩ := hinv
 obtain ⟨u69, hinv⟩ := hinv
 obtain ⟨u70, hinv⟩ := hinv
 obtain ⟨u71, hinv⟩ := hinv
 obtain ⟨u72, hinv⟩ := hinv
 obtain ⟨u73, hinv⟩ := hinv
 obtain ⟨u74, hinv⟩ := hinv
 obtain ⟨u75, hinv⟩ := hinv
 obtain ⟨u76, hinv⟩ := hinv
 obtain ⟨u77, hinv⟩ := hinv
 obtain ⟨u78, hinv⟩ := hinv
 obtain ⟨u79, hinv⟩ := hinv
 obtain ⟨u80, hinv⟩ := hinv
 obtain ⟨u81, hinv⟩ := hinv
 obtain ⟨u82, hinv⟩ := hinv
 obtain ⟨u83, hinv⟩ := hinv
 obtain ⟨u84, hinv⟩ := hinv
 obtain ⟨u85, hinv⟩ := hinv
 obtain ⟨u86, hinv⟩ := hinv
 obtain ⟨u87, hinv⟩ := hinv
 obtain ⟨u88, hinv⟩ := hinv
 obtain ⟨u89, hinv⟩ := hinv
 obtain ⟨u90, hinv⟩ := hinv
 obtain ⟨u91, hinv⟩ := hinv
 obtain ⟨u92, hinv⟩ := hinv
 obtain ⟨u93, hinv⟩ := hinv
 obtain ⟨u94, hinv⟩ := hinv
 obtain ⟨u95, hinv⟩ := hinv
 obtain ⟨u96, hinv⟩ := hinv
 obtain ⟨u97, hinv⟩ := hinv
 obtain ⟨u98, hinv⟩ := hinv
 obtain ⟨u99, hinv⟩ := hinv
 obtain ⟨u100, hinv⟩ := hinv
 obtain ⟨u101, hinv⟩ := hinv
 obtain ⟨u102, hinv⟩ := hinv
 obtain ⟨u103, hinv⟩ := hinv
 obtain ⟨u104, hinv⟩ := hinv
 obtain ⟨u105, hinv⟩ := hinv
 obtain ⟨⟨k, rs, vH, vs, hk, hu42, hds, hmarks, hvl, htb, hbr⟩, ha⟩ := hinv
 subst ha
 subst hu42
 subst hds
 clear HT0 HB40
 try dsimp only
 have hwb : Below w.heap.size w wr := HB3.out.trans (hbr.out.mono (by have := HB6.out; have := HB6e.out; omega))
 by_cases hlt : k < N
 case neg =>
  have hke : k = N := by omega
  obtain ⟨AH, cH, hvH, _, _⟩ := own_form htb.out.hd
  subst hvH
  have t1 : decide ((k : Int) < (N : Int)) = false := decide_eq_false (by omega)
  have t1' : decide (k < N) = false := decide_eq_false hlt
  have hbd := HRI.out.bd k (by rw [← HN.out]; exact hk)
  have hRg : ∀ i, i < R → ((List.range R).map (Rw k)).getD i [] = Rw k i := fun i hi => by rw [List.getD_eq_getElem?_getD, List.getElem?_map, List.getElem?_range hi]; rfl
  obtain ⟨t', ev, ec, hTb, hTh, hTr⟩ := htb.out.tb (by rw [hvl]; unfold maxLen; omega) (fun x hx => Nat.le_trans (hbd.1.2 x hx) (by unfold maxLen; omega)) (fun i hi x hx => by
   rw [hvl] at hi
   rw [hRg i hi] at hx
   exact Nat.le_trans ((hbd.2 i hi).2 x hx) (by unfold maxLen; omega))
  rw [hvl] at ev ec
  have hOf : TbOf t' (Hd GR.length) R (Rw GR.length) := ⟨by rw [hTh, hke, HN.out], by rw [hTr, hke, HN.out, List.map_map]; rfl⟩
  have hlay := HLB.out wr t' hwb hTb hOf
  rw [ev] at hlay
  have HLay := Lib.hid hlay
  have hbox := htb.out.box
  rw [hvl] at hbox
  have HBox := Lib.hid hbox
  have c0 : wr.cell? ⟨bR + 1, 0, none⟩ = some (.slice AH (Hd k).length cH) := hbox.cell 0
  have c1 : wr.cell? ⟨bR + 1, 1, none⟩ = some (.slice (some ⟨bR, 0, none⟩) R R) := hbox.cell 1
  have HTS := Lib.hid htb.out
  have HEv := Lib.hid ev
  have HWb := Lib.hid hwb
  have HKe := Lib.hid hke
  have hb6l := HB6.out
  have HX6r := Lib.hid (HX6.out.belowB hbr.out hb6l)
  have HRow := Lib.hid hrow
  have z0 : ((0 : Int) != 0) = false := rfl
  clear hbd hRg ev ec hOf hTh hTr hTb hlay hbox htb hwb hke HLB hrow HGr HX6 HBR
  go_wp2_with (first
   | (go_at_call 10; refine HLay.out.mono ?_; rintro e w8 ⟨A8, c8, rfl, hr8, hb8⟩; have HB8 := Lib.hid hb8; have HR8 := Lib.hid hr8; have y0 : w8.cell? ⟨bR + 1, 0, none⟩ = some (.slice AH (Hd k).length cH) := (HBox.out.below hb8).cell 0; have y1 : w8.cell? ⟨bR + 1, 1, none⟩ = some (.slice (some ⟨bR, 0, none⟩) R R) := (HBox.out.below hb8).cell 1; have HX8 := Lib.hid (HX6r.out.below hb8); have HEq := Lib.hid (eq_strs A8 A c8 c ss w8 (by omega) hle hr8 (HRow.out.next (below_then HWb.out hb8))); have g0 : w8.cell? ⟨b6, 0, none⟩ = some (.slice none 0 0) := HX8.out.cell 0; have g1 : w8.cell? ⟨b6, 1, none⟩ = some (.slice none 0 0) := HX8.out.cell 1; have g2 : w8.frozen? ⟨b6, 0, none⟩ = false := HX8.out.free 0; have g3 : w8.frozen? ⟨b6, 1, none⟩ = false := HX8.out.free 1; have g4 := HX8.out.lt; clear hr8 hb8 c0 c1)
   | (go_at_call 35; refine HEq.out.mono ?_; rintro e w9 ⟨rfl, q, rfl⟩))
  have hwlt : w.heap.size = b6 := HB6e.out.symm
  have hwr8 := HB8.out.size
  have hwrs := hbr.out.size
  have hmr : ∀ r, r ∈ rs → bR ≤ r ∧ wr.heap[r]? = some (.deferred (some [])) := hmarks.out.2
  have hset : ∀ m, m ≠ b6 → (((w8.drewN q).setCell ⟨b6, 0, none⟩ (.slice AH (Hd k).length cH)).setCell ⟨b6, 1, none⟩ (.slice (some ⟨bR, 0, none⟩) R R)).heap[m]? = w8.heap[m]? := fun m hk => (grown_set_heap _ b6 1 _ m hk).trans (grown_set_heap _ b6 0 _ m hk)
  have hX9 : Box (((w8.drewN q).setCell ⟨b6, 0, none⟩ (.slice AH (Hd k).length cH)).setCell ⟨b6, 1, none⟩ (.slice (some ⟨bR, 0, none⟩) R R)) b6 30 #[.slice AH (Hd k).length cH, .slice (some ⟨bR, 0, none⟩) R R] := ((HX8.out.drewN q).set_ 0 _).set_ 1 _
  have hB9 : Below w.heap.size w (((w8.drewN q).setCell ⟨b6, 0, none⟩ (.slice AH (Hd k).length cH)).setCell ⟨b6, 1, none⟩ (.slice (some ⟨bR, 0, none⟩) R R)) := (((below_then HWb.out HB8.out).trans ((below_drewN w8 q).mono (by have := HWb.out.size; omega))).setCell (p := ⟨b6, 0, none⟩) (by show w.heap.size ≤ b6; omega) _).setCell (p := ⟨b6, 1, none⟩) (by show w.heap.size ≤ b6; omega) _
  clear g0 g1 g2 g3 g4 y0 y1 HX8
  generalize ((w8.drewN q).setCell ⟨b6, 0, none⟩ (.slice AH (Hd k).length cH)).setCell ⟨b6, 1, none⟩ (.slice (some ⟨bR, 0, none⟩) R R) = W9 at *
  have hT9 := (HTS.out.next HB8.out).keep fun m cs ty _ hm => hset m (by omega)
  have hM9 : Marks bR rs W9 := ⟨hmarks.out.1, fun r hr => ⟨(hmr r hr).1, (hset r (by have := (hmr r hr).1; omega)).trans ((HB8.out.block r (Array.getElem?_eq_some_iff.1 (hmr r hr).2).1).trans (hmr r hr).2)⟩⟩
  refine leaves_marks (base := bR) rs W9 hM9 fun w' hw' => ?_
  have hnot : ∀ (m : Nat) (cs : Array Value) (ty : TypeId), W9.heap[m]? = some (.cells cs ty (0, 0)) → ¬ m ∈ rs := fun m cs ty h hm => by
   rw [(hM9.2 m hm).2] at h
   cases h
  have hT' := hT9.keep (w' := w') fun m cs ty h _ => hw'.block m (Array.getElem?_eq_some_iff.1 h).1 (hnot m cs ty h)
  have hX' : Box w' b6 30 #[.slice AH (Hd k).length cH, .slice (some ⟨bR, 0, none⟩) R R] := hw'.box hX9 (hnot _ _ _ hX9)
  have hB' : Below w.heap.size w w' := hB9.trans (belowOnly _ hw' (fun m hm hmr => by have := (hM9.2 m hmr).1; omega) hB9.size)
  have hbd := HRI.out.bd k (by rw [← HN.out]; exact hk)
  have hRg : ∀ i, i < R → ((List.range R).map (Rw k)).getD i [] = Rw k i := fun i hi => by rw [List.getD_eq_getElem?_getD, List.getElem?_map, List.getElem?_range hi]; rfl
  obtain ⟨t2, ev, ec, hTb, hTh, hTr⟩ := hT'.tb (by rw [hvl]; unfold maxLen; omega) (fun x hx => Nat.le_trans (hbd.1.2 x hx) (by unfold maxLen; omega)) (fun i hi x hx => by
   rw [hvl] at hi
   rw [hRg i hi] at hx
   exact Nat.le_trans ((hbd.2 i hi).2 x hx) (by unfold maxLen; omega))
  rw [hvl] at ev
  have hOf : TbOf t2 (Hd GR.length) R (Rw GR.length) := ⟨by rw [hTh, HKe.out, HN.out], by rw [hTr, HKe.out, HN.out, List.map_map]; rfl⟩
  have e0 := hX'.cell 0
  have e1 := hX'.cell 1
  simp only [List.getElem?_toArray, List.getElem?_cons_zero, List.getElem?_cons_succ] at e0 e1
  have hl6 := hX'.lt
  exact ⟨.tuple #[.agg #[.slice AH (Hd k).length cH, .slice (some ⟨bR, 0, none⟩) R R], .int .i64 0], by simp [results, Tryz.results11, go_sem, e0, e1], t2, by rw [ev], hTb, hOf, hB'⟩
 have t1 : decide ((k : Int) < (N : Int)) = true := decide_eq_true (by omega)
 have t1' : decide (k < N) = true := decide_eq_true hlt
 have hkG : k < GR.length := by rw [← HN.out]; exact hlt
 obtain ⟨g, hg⟩ : ∃ g, g = GR.getD k gr0 := ⟨_, rfl⟩
 obtain ⟨Ag, cg, z0, z1, z2, hcg, hrg⟩ := HGr.out k hkG
 have hrl := HRI.out.rl k hkG
 obtain ⟨hdl, xs, hpc, hxs⟩ := HRI.out.pc k hkG
 obtain ⟨hw1, hw12, hwk, hwn⟩ := HRI.out.wd k hkG
 obtain ⟨htl, hrwl⟩ := HRI.out.ti k hkG
 have hs := HRI.out.hs k hkG
 have hrs := HRI.out.rs k hkG
 rw [← hg] at z0 z1 z2 hcg hrg hrl hdl hpc htl hrwl hs hrs
 rw [hrl] at z2 hcg
 obtain ⟨ti, da, rows⟩ := g
 simp only [] at z0 z1 hrl hdl hpc htl hrwl hs hrs
 have hgO := HGO.out
 have y0 := (hbr.out.cell (p := ⟨gO, k * 3, none⟩) hgO).trans z0
 have y1 := (hbr.out.cell (p := ⟨gO, k * 3 + 1, none⟩) hgO).trans z1
 have y2 := (hbr.out.cell (p := ⟨gO, k * 3 + 2, none⟩) hgO).trans z2
 have HRg := Lib.hid hrg
 have HHs := Lib.hid hs
 have HRs := Lib.hid hrs
 have HPc := Lib.hid hpc
 have HXs := Lib.hid hxs
 have HWb := Lib.hid hwb
 clear z0 z1 z2 hs hrs hpc hxs hrg hwb hg
 go_wp2_with (go_at_call 33; refine (SplitSeq_any _ _ _).mono ?_; rintro e w' ⟨rfl, rfl⟩)
 have HB12 := Lib.hid (below_alloc2 wr (Obj.cells #[.string (str ti), .string (str da), .slice Ag R cg] 70) (Obj.cells #[.slice none 0 0] 31))
 have hx12 := (Box.new wr 70 #[.string (str ti), .string (str da), .slice Ag R cg]).alloc (Obj.cells #[.slice none 0 0] 31)
 have hx13 := Box.new (wr.alloc (Obj.cells #[.string (str ti), .string (str da), .slice Ag R cg] 70)) 31 #[.slice none 0 0]
 have hx := seqW_boxes ((wr.alloc (Obj.cells #[.string (str ti), .string (str da), .slice Ag R cg] 70)).alloc (Obj.cells #[.slice none 0 0] 31)) (str da) ⟨#[32, 32]⟩
 rw [World.size_alloc] at hx13
 rw [World.size_alloc, World.size_alloc] at hx
 obtain ⟨x1, x2, x3, x4, x5⟩ := hx
 have hb12 : Below wr.heap.size wr _ := HB12.out.trans (x4.mono (by omega))
 have HX12 := Lib.hid (hx12.belowB x4 (by omega))
 have HX13 := Lib.hid (hx13.belowB x4 (by omega))
 have HB6 := Lib.hid hb12
 have HS6 := Lib.hid (HS.out.next (HWb.out.trans (hb12.mono HWb.out.size)))
 have hml : 4 < w.heap.size := by obtain ⟨m, hm⟩ := HS.out; exact block_lt_of_cell hm
 have hwn0 := HWb.out.size
 clear x4 hx12 hx13 hb12 HB12 y0 y1 y2
 generalize seqW ((wr.alloc (Obj.cells #[.string (str ti), .string (str da), .slice Ag R cg] 70)).alloc (Obj.cells #[.slice none 0 0] 31)) (str da) ⟨#[32, 32]⟩ = W6 at *
 obtain ⟨n0, hn0⟩ : ∃ n0, n0 = wr.heap.size := ⟨_, rfl⟩
 rw [← hn0] at x1 x2 x3 x5 HX12 HX13 HB6 hwn0
 rw [← hn0]
 have HN0 := Lib.hid hn0
 clear hn0
 have x5' : W6.heap.size = n0 + 5 := by omega
 obtain ⟨i0, hi0, hz0, hz1, hz2⟩ := info_parts infoInt2
 refine (wpIn_wide (n := 3)).1 (wpIn_rangeFunc_C (F := Fence.wide) rfl (by omega) (gf := 102) (lb := #[.pointer (some ⟨n0 + 2 + 1, 0, none⟩), .pointer (some ⟨n0 + 2, 0, none⟩), .pointer (some ⟨n0 + 2 + 2, 0, none⟩)]) rfl trivial (enters_of Tryz.func102 (by kernel_rfl) rfl)
  (enc := fun x => .string (str x)) (own := fun k => k = n0 + 2) (kp := seqKeep (n0 + 2)) (xs := xs)
  (fun W hW => splitSeq_C _ (n0 + 2) (by omega) ⟨#[32, 32]⟩ (by decide) (by decide) da (by omega) xs HPc.out W (hW.box x1 id) (hW.box x2 id) (hW.box x3 id) (by obtain ⟨m, hm⟩ := HS6.out; exact ⟨m, (World.cell?_of_block (hW.block _ (block_lt_of_cell hm) id)).trans hm⟩) (by omega)) (fun k hk => .inl hk)
  (fun k hk => by rcases hk with h | h | h | h <;> omega) rfl
  (fun pre W => ∃ v, Box W (n0 + 1) 31 #[v] ∧ W.ownsRow (n0 + 7) 3 1 v pre.length (ints (natI (pre.map List.length))) ∧ Below (n0 + 1) W6 W)
  (fun _ _ _ => False)
  ?hI (fun _ _ _ _ h _ => h) ⟨_, HX13.out, World.ownsRow_nil _ _ _ _, Below.refl _ _⟩
  (fun x => { tmps := List.toArray ((Value.slice A ss.length c) :: (Value.int .i64 (wd : Int)) :: (Value.int .i64 (ht : Int)) :: undef :: undef :: undef :: (Value.pointer (some ⟨b6, 0, none⟩)) :: (Value.int .i64 0) :: (Value.slice (some ⟨gO, 0, none⟩) N cO) :: (Value.bool true) :: (Value.pointer (some ⟨bR + 1, 0, none⟩)) :: (Value.int .i64 (k : Int)) :: (Value.pointer (some ⟨n0, 0, none⟩)) :: (Value.pointer (some ⟨n0 + 1, 0, none⟩)) :: (Value.string (str x)) :: u15 :: u16 :: u17 :: undef :: undef :: (Value.int .i64 (wd : Int)) :: (Value.int .i64 (ht : Int)) :: (Value.bool true) :: (Value.bool false) :: undef :: (Value.tuple #[.slice (some ⟨gO, 0, none⟩) N cO, .bool true]) :: (Value.slice A ss.length c) :: (Value.tuple #[.slice (some ⟨gO, 0, none⟩) N cO, .bool true]) :: (Value.slice (some ⟨gO, 0, none⟩) N cO) :: (Value.bool true) :: (Value.bool true) :: (Value.bool false) :: undef :: (Value.slice (some ⟨gO, 0, none⟩) N cO) :: (Value.pointer (some ⟨gO, 0, none⟩)) :: (Value.pointer (some ⟨gO, 2, none⟩)) :: (Value.slice A0 R c0) :: (Value.int .i64 (R : Int)) :: (Value.slice (some ⟨bR, 0, none⟩) R R) :: (Value.agg #[.slice none 0 0, .slice (some ⟨bR, 0, none⟩) R R]) :: (Value.slice (some ⟨gO, 0, none⟩) N cO) :: (Value.int .i64 (N : Int)) :: (Value.int .i64 (k : Int)) :: (Value.bool true) :: (Value.int .i64 (k : Int)) :: (Value.pointer (some ⟨gO, k * 3, none⟩)) :: (Value.agg #[.string (str ti), .string (str da), .slice Ag R cg]) :: (Value.pointer (some ⟨n0, 1, none⟩)) :: (Value.string (str da)) :: (seqF (n0 + 2)) :: (Value.string (str x)) :: u51 :: u52 :: u53 :: u54 :: u55 :: u56 :: u57 :: u58 :: u59 :: u60 :: u61 :: u62 :: u63 :: u64 :: u65 :: u66 :: u67 :: u68 :: u69 :: u70 :: u71 :: u72 :: u73 :: u74 :: u75 :: u76 :: u77 :: u78 :: u79 :: u80 :: u81 :: u82 :: u83 :: u84 :: u85 :: u86 :: u87 :: u88 :: u89 :: u90 :: u91 :: u92 :: u93 :: u94 :: u95 :: u96 :: u97 :: u98 :: u99 :: u100 :: u101 :: u102 :: u103 :: u104 :: u105 :: undef :: undef :: undef :: undef :: undef :: undef :: undef :: undef :: undef :: undef :: undef :: undef :: undef :: undef :: undef :: undef :: undef :: []), defers := [] }) ?assign ?body ?done ?stop)
 case hI =>
  rintro pre A' B' ⟨v, q1, q2, q3⟩ hAB
  have hAs := q1.lt
  refine ⟨v, hAB.box q1 (by omega), own_heap q2 fun b hb => hAB.block b (own_lt q2 b hb).2 (by have := (own_lt q2 b hb).1; omega), q3.trans (belowOnly _ hAB (fun k hk => by omega) (by omega))⟩
 case stop => exact fun c pre W _ _ h _ => h.elim
 case assign =>
  intro l x W K hK
  gi_wp2
  exact hK
 case body =>
  rintro l pre x rest W hxs hlt2 ⟨v, q1, q2, q3⟩
  have hpl : pre.length + 1 ≤ 12 := by
   have h1 := congrArg List.length hxs
   have h2 := congrArg List.length HXs.out
   rw [List.length_map] at h2
   simp at h1
   omega
  have hv := q1.cell 0
  have hxl : (str x).size = x.length := str_size x
  have hcat : ints (natI ((pre ++ [x]).map List.length)) = ints (natI (pre.map List.length)) ++ [.int .i64 (x.length : Int)] := by rw [List.map_append]; exact natI_snoc _ _
  have HQ3 := Lib.hid q3
  have HCat := Lib.hid hcat
  clear q3 hcat
  gi_wp2_with (gi_at_builtin; refine wpListIn_append_own _ rfl _ _ 31 rfl (n0 + 7) 3 i0 (.int .i64 0) 1 8 Tryz.underlying31 hi0 hz0 hz1 hz2 rfl (by decide) _ _ _ rfl (q2.alloc _) ⟨W.heap.size, 0, none⟩ 1 1 [.int .i64 (x.length : Int)] rfl rfl (cell_one_new _ _ _) (by simp [Value.oneCell']) (by unfold maxLen; omega) (by omega) (by simp; omega) ?_; intro v' w2 hown' hgrow _; obtain ⟨g', cap', rfl⟩ := ownsRow_succ hown'; obtain ⟨r1, r2, r3, r4, r5⟩ := Boxed.appended (show Boxed W (n0 + 1) 31 v from q1) (by decide) (own_lower (base' := n0 + 1) q2 (by omega)) (by omega) (by omega) (own_lower (base' := n0 + 1) hown' (by omega)) hgrow; have hc2 := r1.cell; have hf2 := r1.frozen)
  have hq : ∀ m, n0 + 7 ≤ m → ¬ (seqKeep (n0 + 2) m ∨ m = W6.heap.size ∨ m = W6.heap.size + 1) := fun m hm => by omega
  have HO := (only_alloc (p := fun m => ¬ (seqKeep (n0 + 2) m ∨ m = W6.heap.size ∨ m = W6.heap.size + 1)) W (Obj.cells #[.int .i64 (x.length : Int)] 3)).trans ((only_grown hgrow (fun m e => hq m (own_lt q2 m e).1)).trans (only_set w2 (n0 + 1) 0 (.slice (some ⟨g', 0, none⟩) (pre.length + 1) cap') (by omega)))
  refine ⟨HO, .slice (some ⟨g', 0, none⟩) (pre.length + 1) cap', r2, ?_, HQ3.out.trans r5⟩
  rw [HCat.out, List.length_append]
  exact own_set hown' _ _ (show n0 + 1 < n0 + 7 by omega)
 case done =>
  rintro W hlt2 ⟨v, q1, q2, q3⟩ hK
  have hxl : xs.length = (Wd k).length := by rw [← HXs.out, List.length_map]
  rw [HXs.out, hxl] at q2
  obtain ⟨Aw, cw, rfl, hcw, _⟩ := own_form q2
  have hbw : Below wr.heap.size wr W := by rw [← HN0.out]; exact HB6.out.trans (q3.mono (by omega))
  have HBW := Lib.hid hbw
  have HTS := Lib.hid (htb.out.next hbw)
  have hx12 := HX12.out.belowB q3 (by omega)
  have HX12W := Lib.hid hx12
  have HX13W := Lib.hid q1
  have HW := Lib.hid (Row.of_own q2)
  have hmW : Marks bR (W6.heap.size :: rs) W := by
   have hm := hmarks.out
   refine ⟨List.nodup_cons.2 ⟨fun h => ?_, hm.1⟩, fun r hr => ?_⟩
   ·have h2 := (Array.getElem?_eq_some_iff.1 (hm.2 _ h).2).1
    rw [← HN0.out] at h2
    omega
   ·rcases List.mem_cons.1 hr with rfl | hr
    ·exact ⟨by have := hbr.out.size; have := HBR.out; rw [← HN0.out] at *; omega, hK⟩
    ·have h2 := (Array.getElem?_eq_some_iff.1 (hm.2 _ hr).2).1
     exact ⟨(hm.2 _ hr).1, (hbw.block r h2).trans (hm.2 _ hr).2⟩
  have HSd : Hid (Side W bR n0 #[.string (str ti), .string (str da), .slice Ag R cg] (.slice Aw (Wd k).length cw) (Wd k) (W6.heap.size :: rs)) := ⟨hx12, q1, q2, hmW⟩
  have d0 : W.cell? ⟨n0, 0, none⟩ = some (.string (str ti)) := hx12.cell 0
  have d2 : W.cell? ⟨n0, 2, none⟩ = some (.slice Ag R cg) := hx12.cell 2
  have d13 : W.cell? ⟨n0 + 1, 0, none⟩ = some (.slice Aw (Wd k).length cw) := q1.cell 0
  have hbox := HTS.out.box
  rw [hvl] at hbox
  have b0 : W.cell? ⟨bR + 1, 0, none⟩ = some vH := hbox.cell 0
  have b1 : W.cell? ⟨bR + 1, 1, none⟩ = some (.slice (some ⟨bR, 0, none⟩) R R) := hbox.cell 1
  obtain ⟨sk, hsk⟩ : ∃ sk, sk = min k 1 := ⟨_, rfl⟩
  have hskz : min (k : Int) 1 = (sk : Int) := by omega
  have hsk1 : sk < (Wd k).length := by omega
  have HSk := Lib.hid hsk
  have e15 : ((R : Int) != (R : Int)) = false := by simp
  have e15' : decide (((Wd k).length : Int) > 12) = false := decide_eq_false (by omega)
  have e15'' : decide ((12 : Int) < ((Wd k).length : Int)) = false := decide_eq_false (by omega)
  have e15n : decide (12 < (Wd k).length) = false := decide_eq_false (by omega)
  have htbx := htb
  have HQ2 := Lib.hid q2
  obtain ⟨AH, cH, hvH, _, _⟩ := own_form htbx.out.hd
  subst hvH
  have hHd : ((Hd k).length ≤ 200) := (HRI.out.bd k (by omega)).1.1
  obtain ⟨C, hC⟩ : ∃ C, C = cutR (Wd k) (runesT ti) := ⟨_, rfl⟩
  have hCl : C.length = (Wd k).length := by rw [hC, cutR_len]
  have HC := Lib.hid hC
  obtain ⟨row, hrow2⟩ : ∃ row, row = (Value.slice AH (Hd k).length cH).ownBlock := ⟨_, rfl⟩
  have hlr : ∀ b, row = some b → bR ≤ b ∧ b < W.heap.size := fun b hb => own_lt HTS.out.hd b (by rw [← hrow2]; exact hb)
  have HRw := Lib.hid hrow2
  have hbl4 : ∀ b, row = some b → b < W.heap.size := fun b hb => (hlr b hb).2
  have hWr := HBW.out.size
  have hn0e := HN0.out
  have hrn : some n0 ≠ row := fun e => ownApart HTS.out.hd HX12W.out (by decide) n0 (by rw [← hrow2]; exact e.symm) rfl
  have hrn1 : some (n0 + 1) ≠ row := fun e => ownApart HTS.out.hd HX13W.out (by decide) (n0 + 1) (by rw [← hrow2]; exact e.symm) rfl
  have hrb : some (bR + 1) ≠ row := fun e => ownApart HTS.out.hd HTS.out.box (by decide) (bR + 1) (by rw [← hrow2]; exact e.symm) rfl
  have f0 : ∀ V, W.grownBy V row → V.cell? ⟨n0, 0, none⟩ = some (.string (str ti)) := fun V hV => (HX12W.out.grown hV hrn).cell 0
  have f13 : ∀ V, W.grownBy V row → V.cell? ⟨n0 + 1, 0, none⟩ = some (.slice Aw (Wd k).length cw) := fun V hV => (HX13W.out.grown hV hrn1).cell 0
  have fb0 : ∀ V, W.grownBy V row → V.cell? ⟨bR + 1, 0, none⟩ = some (.slice AH (Hd k).length cH) := fun V hV => (HTS.out.box.grown hV hrb).cell 0
  have hneT : (3 : TypeId) ≠ 9 := by decide
  have HCut : Hid (∀ V, W.grownBy V row → Calls Tryz.prog 34 #[.string (str ti), .slice Aw (Wd k).length cw] V fun e w' => ∃ v, e = .returned v ∧ (toldC W.heap.size (Wd k).length (sVs (C.map str))).V v ∧ (toldC W.heap.size (Wd k).length (sVs (C.map str))).F v w' ∧ Below V.heap.size V w') := fun V hV => by
   have hq := own_grown HQ2.out hV (fun b hb e => own_ne HTS.out.hd HQ2.out hneT.symm b (by rw [← HRw.out]; exact e) hb)
   refine (pcut_any (str ti) Aw cw (Wd k) V (by rw [str_size]; exact htl) (Row.of_own hq) hw12 hwn).mono ?_
   rintro e w' ⟨v, rfl, ho, hb⟩
   rw [str_data, ← HC.out] at ho
   obtain ⟨g5, c5, rfl⟩ := Go.Joins.ownsRow_form ho (by omega)
   obtain ⟨_, _, e5, hc5, _⟩ := own_form ho
   injection e5 with _ _ e6
   exact ⟨_, rfl, ⟨g5, c5, rfl, by omega⟩, own_lower ho hV.size, hb⟩
  clear hsk hx12 q1 q2 q3 hbw hmW hbox hK htb hmarks hrow2 hC hn0e
  go_upto_region 17 with fail
  obtain ⟨j0, hj0, jz0, jz1, jz2⟩ := info_parts infoStr1
  have hskz2 : (sk : Int) ≤ ((Wd k).length : Int) := by omega
  refine flowG_begin_tail 10 8 row (tellOf [(5, toldC W.heap.size (Wd k).length (sVs (C.map str)))]) (by kernel_rfl) (by kernel_rfl) ?_
  simp only [List.take_succ_cons, List.take_zero, List.drop_succ_cons, List.drop_zero]
  repeat (first | (refine flowG_val (v := ?_) (by rfl) (by rfl) (fun w hb => ?_) ?_; rotate_left; (· ((go_simp) <;> ((repeat' apply And.intro) <;> with_reducible rfl))); try simp only [Act.put, List.setIfInBounds_toArray, List.set_cons_zero, List.set_cons_succ, Nat.reduceAdd]) | (refine flowG_skip (by rfl) (by rfl) ?_; try simp only [Act.put, List.setIfInBounds_toArray, List.set_cons_zero, List.set_cons_succ, Nat.reduceAdd]))
  refine flowG_told (f := ?_) (args := ?_) (t := toldC W.heap.size (Wd k).length (sVs (C.map str))) [] (by kernel_rfl) (by rfl) (by rfl) ⟨_, 0, _, rfl, Nat.le_refl _⟩ (fun v w w' hg h => own_grown h hg (fun b hb e => by have h1 := own_base h b hb; have h2 := hbl4 b e; omega)) (fun w hb => ?_) (fun w hb hu => ?_) ?_; rotate_left 2; (· ((go_simp) <;> ((repeat' apply And.intro) <;> with_reducible rfl)))
  ·exact HCut.out w hb
  rintro v ⟨g5, c5, rfl, hc5⟩
  try simp only [Act.put, List.setIfInBounds_toArray, List.set_cons_zero, List.set_cons_succ, Nat.reduceAdd]
  have hne5 : ¬ c5 = sk := by omega
  have hle5 : sk ≤ c5 := by omega
  repeat (first | (refine flowG_val (v := ?_) (by rfl) (by rfl) (fun w hb => ?_) ?_; rotate_left; (· ((go_simp) <;> ((repeat' apply And.intro) <;> with_reducible rfl))); try simp only [Act.put, List.setIfInBounds_toArray, List.set_cons_zero, List.set_cons_succ, Nat.reduceAdd]) | (refine flowG_skip (by rfl) (by rfl) ?_; try simp only [Act.put, List.setIfInBounds_toArray, List.set_cons_zero, List.set_cons_succ, Nat.reduceAdd]))
  have hX17 : sVs ((C.drop sk).map str) = (sVs (C.map str)).drop sk := by simp [sVs]
  have hXl : (sVs ((C.drop sk).map str)).length = (Wd k).length - sk := by simp [sVs, hCl]
  have hcur := HTS.out.hd
  unfold OwnT at hcur
  refine flowG_app_at [5] (by kernel_rfl) rfl (by rfl) (by rfl) (.tmp 72) (.tmp 78) 27 rfl bR 9 j0 (.string ⟨#[]⟩) 1 16 Tryz.underlying27 hj0 jz0 jz1 jz2 rfl (by decide) (.slice AH (Hd k).length cH) (Hd k).length (sVs ((Hd k).map str)) rfl HRw.out hcur (by have := HBR.out; have := hbr.out.size; omega) ⟨g5, sk, none⟩ ((Wd k).length - sk) (c5 - sk) (sVs ((C.drop sk).map str)) rfl (by rw [hXl, Nat.mul_one]) (fun V hV hu j u hj => by
    have ho : V.ownsRow W.heap.size 9 1 (.slice (some ⟨g5, 0, none⟩) (Wd k).length c5) (Wd k).length (sVs (C.map str)) := usef_head hu
    have hjl := (List.getElem?_eq_some_iff.1 hj).1
    rw [hXl] at hjl
    rw [addPlain, (own_cellS ho (sk + j) (by omega)).1]
    rw [hX17, List.getElem?_drop] at hj
    exact hj) (sVs_one _)
   (fun _ => True) (fun _ _ _ _ => trivial) (fun _ _ _ => trivial) (fun b _ => b = row ∨ ∃ n, b = some n ∧ W.heap.size ≤ n) (fun _ _ _ _ h => h) (fun b V V' _ _ hb hr => hr.imp id fun h => ⟨_, h, hb.size⟩) (by simp only [maxLen]; omega) (by omega) fun A8 c8 => ?_
  try simp only [Act.put, List.setIfInBounds_toArray, List.set_cons_zero, List.set_cons_succ, Nat.reduceAdd]
  repeat (first | (refine flowG_val (v := ?_) (by rfl) (by rfl) (fun w hb => ?_) ?_; rotate_left; (· ((go_simp) <;> ((repeat' apply And.intro) <;> with_reducible rfl))); try simp only [Act.put, List.setIfInBounds_toArray, List.set_cons_zero, List.set_cons_succ, Nat.reduceAdd]) | (refine flowG_skip (by rfl) (by rfl) ?_; try simp only [Act.put, List.setIfInBounds_toArray, List.set_cons_zero, List.set_cons_succ, Nat.reduceAdd]))
  refine flowG_nil fun w7 hgrow hf => ?_
  obtain ⟨hown7, hrow7⟩ := hf.1
  have hadd := TbS.addH (X := C.drop sk) HTS.out (by rw [← HRw.out]; exact hgrow) (by
   unfold OwnT
   rw [List.length_append, List.length_drop, hCl, List.map_append, show sVs ((Hd k).map str ++ (C.drop sk).map str) = sVs ((Hd k).map str) ++ sVs ((C.drop sk).map str) by simp [sVs]]
   exact hown7) (by rw [← HRw.out]; exact hrow7)
  have hHd1 : Hd k ++ C.drop sk = Hd (k + 1) := by rw [HHs.out, ← HC.out, ← HSk.out]
  rw [hHd1] at hadd
  have hsz7 := hgrow.size
  have hB7 : Below bR w3 w7 := (hbr.out.trans (HBW.out.mono (by have := HBR.out; have := hbr.out.size; omega))).grown hgrow (by have := HBR.out; have := hbr.out.size; omega) (fun b hb => (hlr b hb).1)
  have HB10 : Hid (Below bR w3 (w7.setCell ⟨bR + 1, 0, none⟩ (.slice A8 ((Hd k).length + ((Wd k).length - sk)) c8))) := hB7.setCell (p := ⟨bR + 1, 0, none⟩) (by show bR ≤ bR + 1; omega) _
  have HT10 := Lib.hid hadd
  have HSd10 := Lib.hid (HSd.out.step (i := 0) (v := .slice A8 ((Hd k).length + ((Wd k).length - sk)) c8) HTS.out.hd (by rw [← HRw.out]; exact hgrow) HTS.out.box (.inl rfl))
  have hx7 := HTS.out.box.grown hgrow hrb
  have k1 : w7.cell? ⟨bR + 1, 0, none⟩ = some (.slice AH (Hd k).length cH) := hx7.cell 0
  have k2 : w7.frozen? ⟨bR + 1, 0, none⟩ = false := hx7.free 0
  have k3 := hx7.lt
  clear hgrow hf hown7 hrow7 hadd hB7 hx7 f0 f13 fb0 hcur d0 d2 d13 b0 b1 hsz7
  refine wpList_step fun K hK => ?_
  rw [if_pos (by rfl)]
  go_simp
  refine hK _ _ (wpList_nil ?_)
  clear hK K k1 k2 k3
  have hlen : (Hd k).length + ((Wd k).length - sk) = (Hd (k + 1)).length := by rw [← hHd1, List.length_append, List.length_drop, hCl]
  rw [hlen] at HB10 HT10 HSd10 ⊢
  generalize w7.setCell ⟨bR + 1, 0, none⟩ (.slice A8 (Hd (k + 1)).length c8) = W10 at *
  have d2 : W10.cell? ⟨n0, 2, none⟩ = some (.slice Ag R cg) := HSd10.out.b12.cell 2
  clear hlen hHd1 hrn hrn1 hrb hX17 hXl hlr hbl4 hneT hne5 hle5 hc5
  go_wp2_with fail
  clear HTS HBW HX12W HX13W HSd HQ2 HCut htbx hbr HRw
  go_loopw [16, 17, 84] (fun _ _ i wq => ∃ (q : Nat) (vs2 : List Value), q ≤ R ∧ i = .int .i64 (q : Int) ∧ vs2.length = R ∧ Hid (TbS wq bR (bR + 1) bR (.slice A8 (Hd (k + 1)).length c8) vs2 (Hd (k + 1)) (mixR R q (Rw k) (Rw (k + 1)))) ∧ Hid (Side wq bR n0 #[.string (str ti), .string (str da), .slice Ag R cg] (.slice Aw (Wd k).length cw) (Wd k) (W6.heap.size :: rs)) ∧ Hid (Below bR w3 wq)) (fun _ _ i _ => R - (intOf i).toNat)
  case atStart => exact ⟨0, vs, by omega, rfl, hvl, by rw [mixR_zero]; exact HT10.out, HSd10.out, HB10.out⟩
  case round =>
   clear HT10 HSd10 HB10 d2
   obtain ⟨q, vs2, hq, rfl, hv2, htq, hsq, hbq⟩ := hrel
   rename World => wq
   by_cases hltq : q < R
   case neg =>
    have tq : decide ((q : Int) < (R : Int)) = false := decide_eq_false (by omega)
    have tq' : decide (q < R) = false := decide_eq_false hltq
    have hqe : q = R := by omega
    have HTf : Hid (TbS wq bR (bR + 1) bR (.slice A8 (Hd (k + 1)).length c8) vs2 (Hd (k + 1)) ((List.range R).map (Rw (k + 1)))) := by
     have h := htq.out
     rw [hqe, mixR_all] at h
     exact h
    clear hqe htq
    go_wp2_with fail
    refine ⟨?_, ?measure⟩
    ·(repeat apply Exists.intro)
     refine ⟨?_, rfl⟩
     exact ⟨k + 1, W6.heap.size :: rs, _, vs2, by omega, by go_num, by rw [x5]; rfl, hsq.out.mks, hv2, HTf, hbq⟩
    case measure => simp [intOf]; omega
   have htb2 := htq.out
   obtain ⟨bg, og, hAg, hbg, hcg2⟩ := HRg.out.open_ (fun e => by have h := congrArg List.length e; rw [rowsV_len, List.length_nil] at h; have h2 : rows.length = 0 := h; omega)
   subst hAg
   obtain ⟨line, hline⟩ : ∃ line, line = rows.getD q [] := ⟨_, rfl⟩
   have hcl : wq.cell? ⟨bg, og + q, none⟩ = some (.string (str line)) := by
    refine (hbq.out.cell (p := ⟨bg, og + q, none⟩) (by have := HBR.out; show bg < bR; omega)).trans (hcg2 q _ ?_)
    rw [hline]
    simp [rowsV, sVs, List.getD, List.getElem?_eq_getElem (show q < rows.length by omega)]
   have hll : line.length ≤ 10000 := by rw [hline]; exact hrwl q hltq
   have hown2 := htb2.rw_ q (by omega)
   rw [mixR_get hltq, if_neg (Nat.lt_irrefl q)] at hown2
   obtain ⟨vq, hvq⟩ : ∃ vq, vq = vs2.getD q undef := ⟨_, rfl⟩
   rw [← hvq] at hown2
   obtain ⟨Aq, cq, hvq2, _, _⟩ := own_form hown2
   subst hvq2
   have hRl : (Rw k q).length ≤ 200 := ((HRI.out.bd k (by omega)).2 q hltq).1
   obtain ⟨D, hD⟩ : ∃ D, D = cutR (Wd k) (runesT line) := ⟨_, rfl⟩
   have hDl : D.length = (Wd k).length := by rw [hD, cutR_len]
   obtain ⟨row, hrow2⟩ : ∃ row, row = (Value.slice Aq (Rw k q).length cq).ownBlock := ⟨_, rfl⟩
   have hlr : ∀ b, row = some b → bR ≤ b ∧ b < wq.heap.size := fun b hb => own_lt hown2 b (by rw [← hrow2]; exact hb)
   have hbl4 : ∀ b, row = some b → b < wq.heap.size := fun b hb => (hlr b hb).2
   have hrn1 : some (n0 + 1) ≠ row := fun e => ownApart hown2 hsq.out.b13 (by decide) (n0 + 1) (by rw [← hrow2]; exact e.symm) rfl
   have hrb : some (bR + 1) ≠ row := fun e => ownApart hown2 htb2.box (by decide) (bR + 1) (by rw [← hrow2]; exact e.symm) rfl
   have hrr : some bR ≠ row := fun e => ownApart hown2 htb2.row (by decide) bR (by rw [← hrow2]; exact e.symm) rfl
   have f13 : ∀ V, wq.grownBy V row → V.cell? ⟨n0 + 1, 0, none⟩ = some (.slice Aw (Wd k).length cw) := fun V hV => (hsq.out.b13.grown hV hrn1).cell 0
   have fb1 : ∀ V, wq.grownBy V row → V.cell? ⟨bR + 1, 1, none⟩ = some (.slice (some ⟨bR, 0, none⟩) R R) := fun V hV => by
    have h := (htb2.box.grown hV hrb).cell 1
    rw [hv2] at h
    exact h
   have fbq : ∀ V, wq.grownBy V row → V.cell? ⟨bR, q, none⟩ = some (.slice Aq (Rw k q).length cq) := fun V hV => by
    have h := (htb2.row.grown hV hrr).cell q
    rw [List.getElem?_toArray, List.getElem?_eq_getElem (by omega)] at h
    rw [h, hvq, List.getD_eq_getElem?_getD, List.getElem?_eq_getElem (by omega)]
    rfl
   have hneT : (3 : TypeId) ≠ 9 := by decide
   have HRw2 := Lib.hid hrow2
   have HD := Lib.hid hD
   have HLn := Lib.hid hline
   have HVq := Lib.hid hvq
   have HCut2 : Hid (∀ V, wq.grownBy V row → Calls Tryz.prog 34 #[.string (str line), .slice Aw (Wd k).length cw] V fun e w' => ∃ v, e = .returned v ∧ (toldC wq.heap.size (Wd k).length (sVs (D.map str))).V v ∧ (toldC wq.heap.size (Wd k).length (sVs (D.map str))).F v w' ∧ Below V.heap.size V w') := fun V hV => by
    have hq2 := own_grown hsq.out.own hV (fun b hb e => own_ne hown2 hsq.out.own hneT.symm b (by rw [← HRw2.out]; exact e) hb)
    refine (pcut_any (str line) Aw cw (Wd k) V (by rw [str_size]; exact hll) (Row.of_own hq2) hw12 hwn).mono ?_
    rintro e w' ⟨v, rfl, ho, hb⟩
    rw [str_data, ← HD.out] at ho
    obtain ⟨g5, c5, rfl⟩ := Go.Joins.ownsRow_form ho (by omega)
    obtain ⟨_, _, e5, hc5, _⟩ := own_form ho
    injection e5 with _ _ e6
    exact ⟨_, rfl, ⟨g5, c5, rfl, by omega⟩, own_lower ho hV.size, hb⟩
   have HOwn2 := Lib.hid hown2
   clear hown2 hrow2 hD hline hvq hcg2 htb2
   have tq : decide ((q : Int) < (R : Int)) = true := decide_eq_true (by omega)
   have tq' : decide (q < R) = true := decide_eq_true hltq
   have tqi : (q : Int) < (R : Int) := by omega
   go_upto_region 21 with fail
   refine flowG_begin_tail 15 13 row (tellOf [(10, toldC wq.heap.size (Wd k).length (sVs (D.map str)))]) (by kernel_rfl) (by kernel_rfl) ?_
   simp only [List.take_succ_cons, List.take_zero, List.drop_succ_cons, List.drop_zero]
   repeat (first | (refine flowG_val (v := ?_) (by rfl) (by rfl) (fun w hb => ?_) ?_; rotate_left; (· ((go_simp) <;> ((repeat' apply And.intro) <;> with_reducible rfl))); try simp only [Act.put, List.setIfInBounds_toArray, List.set_cons_zero, List.set_cons_succ, Nat.reduceAdd]) | (refine flowG_skip (by rfl) (by rfl) ?_; try simp only [Act.put, List.setIfInBounds_toArray, List.set_cons_zero, List.set_cons_succ, Nat.reduceAdd]))
   refine flowG_told (f := ?_) (args := ?_) (t := toldC wq.heap.size (Wd k).length (sVs (D.map str))) [] (by kernel_rfl) (by rfl) (by rfl) ⟨_, 0, _, rfl, Nat.le_refl _⟩ (fun v w w' hg h => own_grown h hg (fun b hb e => by have h1 := own_base h b hb; have h2 := hbl4 b e; omega)) (fun w hb => ?_) (fun w hb hu => ?_) ?_; rotate_left 2; (· ((go_simp) <;> ((repeat' apply And.intro) <;> with_reducible rfl)))
   ·exact HCut2.out w hb
   rintro v ⟨g5, c5, rfl, hc5⟩
   try simp only [Act.put, List.setIfInBounds_toArray, List.set_cons_zero, List.set_cons_succ, Nat.reduceAdd]
   have hne5 : ¬ c5 = sk := by omega
   have hle5 : sk ≤ c5 := by omega
   repeat (first | (refine flowG_val (v := ?_) (by rfl) (by rfl) (fun w hb => ?_) ?_; rotate_left; (· ((go_simp) <;> ((repeat' apply And.intro) <;> with_reducible rfl))); try simp only [Act.put, List.setIfInBounds_toArray, List.set_cons_zero, List.set_cons_succ, Nat.reduceAdd]) | (refine flowG_skip (by rfl) (by rfl) ?_; try simp only [Act.put, List.setIfInBounds_toArray, List.set_cons_zero, List.set_cons_succ, Nat.reduceAdd]))
   have hX17 : sVs ((D.drop sk).map str) = (sVs (D.map str)).drop sk := by simp [sVs]
   have hXl : (sVs ((D.drop sk).map str)).length = (Wd k).length - sk := by simp [sVs, hDl]
   have hcur := HOwn2.out
   unfold OwnT at hcur
   refine flowG_app_at [10] (by kernel_rfl) rfl (by rfl) (by rfl) (.tmp 96) (.tmp 101) 27 rfl bR 9 j0 (.string ⟨#[]⟩) 1 16 Tryz.underlying27 hj0 jz0 jz1 jz2 rfl (by decide) (.slice Aq (Rw k q).length cq) (Rw k q).length (sVs ((Rw k q).map str)) rfl HRw2.out hcur (by have := HBR.out; have := hbq.out.size; omega) ⟨g5, sk, none⟩ ((Wd k).length - sk) (c5 - sk) (sVs ((D.drop sk).map str)) rfl (by rw [hXl, Nat.mul_one]) (fun V hV hu j u hj => by
     have ho : V.ownsRow wq.heap.size 9 1 (.slice (some ⟨g5, 0, none⟩) (Wd k).length c5) (Wd k).length (sVs (D.map str)) := usef_head hu
     have hjl := (List.getElem?_eq_some_iff.1 hj).1
     rw [hXl] at hjl
     rw [addPlain, (own_cellS ho (sk + j) (by omega)).1]
     rw [hX17, List.getElem?_drop] at hj
     exact hj) (sVs_one _)
    (fun _ => True) (fun _ _ _ _ => trivial) (fun _ _ _ => trivial) (fun b _ => b = row ∨ ∃ n, b = some n ∧ wq.heap.size ≤ n) (fun _ _ _ _ h => h) (fun b V V' _ _ hb hr => hr.imp id fun h => ⟨_, h, hb.size⟩) (by simp only [maxLen]; omega) (by omega) fun A9 c9 => ?_
   try simp only [Act.put, List.setIfInBounds_toArray, List.set_cons_zero, List.set_cons_succ, Nat.reduceAdd]
   repeat (first | (refine flowG_val (v := ?_) (by rfl) (by rfl) (fun w hb => ?_) ?_; rotate_left; (· ((go_simp) <;> ((repeat' apply And.intro) <;> with_reducible rfl))); try simp only [Act.put, List.setIfInBounds_toArray, List.set_cons_zero, List.set_cons_succ, Nat.reduceAdd]) | (refine flowG_skip (by rfl) (by rfl) ?_; try simp only [Act.put, List.setIfInBounds_toArray, List.set_cons_zero, List.set_cons_succ, Nat.reduceAdd]))
   refine flowG_nil fun w7 hgrow hf => ?_
   obtain ⟨hown7, hrow7⟩ := hf.1
   have hmx : (mixR R q (Rw k) (Rw (k + 1))).getD q [] = Rw k q := by rw [mixR_get hltq, if_neg (Nat.lt_irrefl q)]
   have hadd := TbS.addR (X := D.drop sk) (v' := .slice A9 ((Rw k q).length + ((Wd k).length - sk)) c9) htq.out q (by omega) (by rw [← HVq.out, ← HRw2.out]; exact hgrow) (by
    unfold OwnT
    rw [hmx, List.length_append, List.length_drop, hDl, List.map_append, show sVs ((Rw k q).map str ++ (D.drop sk).map str) = sVs ((Rw k q).map str) ++ sVs ((D.drop sk).map str) by simp [sVs]]
    exact hown7) (by rw [← HVq.out, ← HRw2.out]; exact hrow7)
   have hRw1 : Rw k q ++ D.drop sk = Rw (k + 1) q := by rw [HRs.out q hltq, HD.out, HLn.out, ← HSk.out]
   rw [hmx, hRw1, mixR_step hltq] at hadd
   have hsz7 := hgrow.size
   have hB7 : Below bR w3 w7 := hbq.out.grown hgrow (by have := HBR.out; have := hbq.out.size; omega) (fun b hb => (hlr b hb).1)
   have HB10 : Hid (Below bR w3 (w7.setCell ⟨bR, q, none⟩ (.slice A9 ((Rw k q).length + ((Wd k).length - sk)) c9))) := hB7.setCell (p := ⟨bR, q, none⟩) (Nat.le_refl _) _
   have HT10 := Lib.hid hadd
   have HSd10 := Lib.hid (hsq.out.step (i := q) (v := .slice A9 ((Rw k q).length + ((Wd k).length - sk)) c9) HOwn2.out (by rw [← HRw2.out]; exact hgrow) htq.out.row (.inr rfl))
   have hx7 := htq.out.row.grown hgrow hrr
   have k1 : w7.cell? ⟨bR, q, none⟩ = some (.slice Aq (Rw k q).length cq) := fbq w7 hgrow
   have k2 : w7.frozen? ⟨bR, q, none⟩ = false := hx7.free q
   have k3 := hx7.lt
   clear hgrow hf hown7 hrow7 hadd hB7 hx7 f13 fb1 fbq hcur hsz7 hcl
   refine wpList_step fun K hK => ?_
   rw [if_pos (by rfl)]
   go_simp
   refine hK _ _ (wpList_nil ?_)
   clear hK K k1 k2 k3
   generalize w7.setCell ⟨bR, q, none⟩ (.slice A9 ((Rw k q).length + ((Wd k).length - sk)) c9) = W11 at *
   go_wp2_with fail
   go_roundw
   case rel => exact ⟨q + 1, vs2.set q (.slice A9 ((Rw k q).length + ((Wd k).length - sk)) c9), by omega, by go_num, by rw [List.length_set]; exact hv2, HT10, HSd10, HB10⟩
   case measure => simp [intOf]; omega
end Go.Proofs.YtoemghiejfkpbaaGreatDoor
/- What page.Read is told of the pages of a table. -/
namespace Go.Proofs.YtoemghiejfkpbaaGreatDoor
open Go Go.Shelf Go.RowKit Go.Lib
set_option linter.unusedVariables false
theorem rcT_pos (l : List UInt8) (h : l ≠ []) : 1 ≤ rcT l := by rw [rcT_step l h]; omega
theorem TbOk.colx {t : Tb} (h : TbOk t) (r : SR) (hr : r ∈ t.h :: t.rs) (i : Nat) (hi : i < (wsT t).length) : ColTx (wsT t) (colT r.tx) i := by
 have hi' : i < t.h.l.length := by rw [← wsT_len]; exact hi
 obtain ⟨h1, h2⟩ := h.text r hr i hi'
 have e := (h.col r hr i hi').1
 refine ⟨by rw [e]; exact h2.utf, fun hs => ?_, (h.cols r hr i hi).2⟩
 rw [e] at hs
 have h3 := h2.suf
 unfold hasSuffix at h3
 have h4 := List.isSuffixOf_iff_suffix.2 hs
 rw [h4] at h3
 cases h3
theorem TbOk.wpos {t : Tb} (h : TbOk t) (i : Nat) (hi : i < (wsT t).length) : 1 ≤ (wsT t).getD i 0 := by
 have hi' : i < t.h.l.length := by rw [← wsT_len]; exact hi
 have h1 := (h.hd i hi').1
 have e := (h.col t.h (List.mem_cons_self ..) i hi').1
 have h2 := (h.cols t.h (List.mem_cons_self ..) i hi).2
 have h3 : 1 ≤ rcT (colT t.h.tx i) := rcT_pos _ (by
  rw [e]
  intro h4
  have h5 := congrArg List.length h4
  rw [Array.length_toList] at h5
  exact h1 h5)
 omega
theorem str_toL (s : ByteArray) : str s.data.toList = s := by obtain ⟨a⟩ := s; simp [str]
theorem TbOk.dist {t : Tb} (h : TbOk t) (i j : Nat) (hi : i < (wsT t).length) (hj : j < (wsT t).length) (e : colT t.h.tx i = colT t.h.tx j) : i = j := by
 have hi' : i < t.h.l.length := by rw [← wsT_len]; exact hi
 have hj' : j < t.h.l.length := by rw [← wsT_len]; exact hj
 have key : ∀ a b, a < b → b < t.h.l.length → colT t.h.tx a = colT t.h.tx b → False := fun a b hab hb he => by
  have h1 := (h.hd b hb).2
  rw [(h.col t.h (List.mem_cons_self ..) a (by omega)).1, (h.col t.h (List.mem_cons_self ..) b hb).1] at he
  have h2 : t.h.l.getD a ⟨#[]⟩ = t.h.l.getD b ⟨#[]⟩ := by
   have h4 := congrArg str he
   rw [str_toL, str_toL] at h4
   exact h4
  have h3 : t.h.l.getD b ⟨#[]⟩ ∈ t.h.l.take b := by
   rw [← h2, List.getD_eq_getElem?_getD, List.getElem?_eq_getElem (by omega), Option.getD_some]
   exact List.mem_take_iff_getElem.2 ⟨a, by omega, rfl⟩
  rw [(containsS_iff _ _).2 h3] at h1
  cases h1
 rcases Nat.lt_trichotomy i j with hlt | rfl | hgt
 ·exact (key i j hlt hj' e).elim
 ·rfl
 ·exact (key j i hgt hi' e.symm).elim
theorem groups_ne (w : List Nat) (W : Nat) (gs : List (List Nat)) (h : groupsR w W = some gs) : gs ≠ [] := by
 rintro rfl
 unfold groupsR at h
 split at h
 ·cases h
 ·have key : ∀ (l : List Nat) (d : List (List Nat)) (c : List Nat) (u : Nat), gGo w W l d c u ≠ some [] := by
   intro l
   induction l with
   | nil => intro d c u e; simp [gGo] at e
   | cons i l ih =>
    intro d c u e
    simp only [gGo] at e
    split at e
    ·cases e
    ·split at e
     ·exact ih _ _ _ e
     ·exact ih _ _ _ e
  exact key _ _ _ _ h
theorem colsK_lt (w : List Nat) (W : Nat) (gs : List (List Nat)) (hw : 1 ≤ w.length) (h : groupsR w W = some gs) (k : Nat) : (colsK gs k).length ≤ w.length ∧ ∀ i ∈ colsK gs k, i < w.length := by
 obtain ⟨c1, c2, c3⟩ := groups_cols w W gs h
 unfold colsK
 by_cases hk : k = 0
 ·rw [if_pos hk]; exact ⟨Nat.zero_le _, fun i hi => by cases hi⟩
 ·rw [if_neg hk]
  have hsub : ((gs.take k).flatMap List.tail).Sublist (gs.flatMap List.tail) := by
   have e : gs.flatMap List.tail = (gs.take k).flatMap List.tail ++ (gs.drop k).flatMap List.tail := by rw [← List.flatMap_append, List.take_append_drop]
   rw [e]
   exact List.sublist_append_left _ _
  rw [c1] at hsub
  refine ⟨?_, fun i hi => ?_⟩
  ·have := hsub.length_le
   rw [List.length_range'] at this
   rw [List.length_cons]
   omega
  ·rcases List.mem_cons.1 hi with rfl | hi
   ·omega
   ·have := hsub.subset hi
    rw [List.mem_range'_1] at this
    omega
theorem getD_map' {α β : Type} (f : α → β) (l : List α) (k : Nat) (d : α) (e : β) (h : k < l.length) : (l.map f).getD k e = f (l.getD k d) := by
 rw [List.getD_eq_getElem?_getD, List.getD_eq_getElem?_getD, List.getElem?_map, List.getElem?_eq_getElem h]
 rfl
theorem TbOk.readIn {t : Tb} (h : TbOk t) {wd : Nat} {gs : List (List Nat)} (hg : groupsR (wsT t) wd = some gs) :
  ReadIn (gs.map (grp (wsT t) t.h.tx (t.rs.map SR.tx))) t.rs.length (fun k => (gs.getD k []).map fun i => (wsT t).getD i 0) (fun k => (colsK gs k).map (colT t.h.tx)) (fun k i => (colsK gs k).map (colT (t.rs.getD i sr0).tx)) := by
 have n1 := h.n1
 have hwl := wsT_len t
 have hw1 : 1 ≤ (wsT t).length := by omega
 have hne := groups_ne _ _ _ hg
 have hgl := groups_len _ _ _ hw1 hg
 have hm := groups_mem _ _ _ hw1 hg
 obtain ⟨c1, c2, c3⟩ := groups_cols _ _ _ hg
 have hgk : ∀ k, k < gs.length → gs[k]? = some (gs.getD k []) := fun k hk => by rw [List.getD_eq_getElem?_getD, List.getElem?_eq_getElem hk]; rfl
 have hmem : ∀ k, k < gs.length → gs.getD k [] ∈ gs := fun k hk => List.mem_of_getElem? (hgk k hk)
 have hG : ∀ k, k < (gs.map (grp (wsT t) t.h.tx (t.rs.map SR.tx))).length → (gs.map (grp (wsT t) t.h.tx (t.rs.map SR.tx))).getD k gr0 = grp (wsT t) t.h.tx (t.rs.map SR.tx) (gs.getD k []) := fun k hk => getD_map' _ _ _ _ _ (by simpa using hk)
 have hlen : (gs.map (grp (wsT t) t.h.tx (t.rs.map SR.tx))).length = gs.length := List.length_map ..
 have hline : ∀ k, k < gs.length → ∀ l ∈ pgL (wsT t) t.h.tx (gs.getD k []) (t.rs.map SR.tx), l.length ≤ 3000 := fun k hk => pgL_line h _ (h.gr hg _ (hmem k hk)) t.rs fun r hr => hr
 have hrow : ∀ i, i < t.rs.length → (grp (wsT t) t.h.tx (t.rs.map SR.tx) []).rows.length = t.rs.length := fun i hi => by simp [grp, rowsL]
 have hget : ∀ g i, i < t.rs.length → (grp (wsT t) t.h.tx (t.rs.map SR.tx) g).rows.getD i [] = trR (lnT (wsT t) (colT (t.rs.getD i sr0).tx) g) := fun g i hi => by
  unfold grp rowsL
  rw [List.map_map]
  exact getD_map' _ _ _ sr0 _ hi
 have hsr : ∀ i, i < t.rs.length → t.rs.getD i sr0 ∈ t.h :: t.rs := fun i hi => List.mem_cons_of_mem _ (getD_sr hi)
 refine ⟨?_, h.n2, fun k hk => ?_, fun k hk => ?_, fun k hk => ?_, fun k hk => ?_, ⟨rfl, fun i => rfl⟩, fun k hk => ?_, fun k hk i hi => ?_, fun k hk => ?_⟩
 ·rw [hlen]
  have := List.length_pos_iff.2 hne
  omega
 ·rw [hG k hk]; simp [grp, rowsL]
 ·rw [hG k hk]
  rw [hlen] at hk
  refine ⟨Nat.le_trans (hline k hk _ (List.mem_cons_of_mem _ (List.mem_cons_self ..))) (by omega), _, dash_pieces _ _ (fun e => by have := c2 _ (hmem k hk); rw [e] at this; cases this) (fun i hi => h.wpos i (hm _ (hmem k hk) i hi)), ?_⟩
  rw [List.map_map]
  exact List.map_congr_left fun i _ => dash_len _ i
 ·rw [hlen] at hk
  have hg2 := h.gr hg _ (hmem k hk)
  rw [List.length_map]
  refine ⟨hg2.ne, hg2.len, ?_, fun n hn => ?_⟩
  ·by_cases h0 : k = 0
   ·subst h0; have := hg2.ne; omega
   ·rcases c3 with e | c3
    ·rw [e] at hk; simp at hk; omega
    ·have h5 := c3 _ (hmem k hk)
     have h6 := List.length_pos_iff.2 h5
     rw [List.length_tail] at h6
     omega
  ·obtain ⟨i, hi, rfl⟩ := List.mem_map.1 hn
   exact Nat.le_trans (hg2.w i (hg2.mem i hi)) (by omega)
 ·rw [hG k hk]
  rw [hlen] at hk
  refine ⟨Nat.le_trans (hline k hk _ (List.mem_cons_self ..)) (by omega), fun i hi => ?_⟩
  rw [hget _ i hi]
  refine Nat.le_trans (hline k hk _ (List.mem_cons_of_mem _ (List.mem_cons_of_mem _ ?_))) (by omega)
  rw [List.map_map]
  exact List.mem_map.2 ⟨_, getD_sr hi, rfl⟩
 ·rw [hG k hk]
  rw [hlen] at hk
  show (colsK gs (k + 1)).map _ = (colsK gs k).map _ ++ (cutR _ (runesT (trR (lnT (wsT t) (colT t.h.tx) (gs.getD k []))))).drop _
  rw [cut_line _ _ _ fun i hi => h.colx t.h (List.mem_cons_self ..) i (hm _ (hmem k hk) i hi), colsK_step gs c2 k _ (hgk k hk), List.map_append, List.map_drop]
 ·rw [hG k hk]
  rw [hlen] at hk
  rw [hget _ i hi, cut_line _ _ _ fun j hj => h.colx _ (hsr i hi) j (hm _ (hmem k hk) j hj)]
  show (colsK gs (k + 1)).map _ = (colsK gs k).map _ ++ _
  rw [colsK_step gs c2 k _ (hgk k hk), List.map_append, List.map_drop]
 ·obtain ⟨k1, k2⟩ := colsK_lt _ _ _ hw1 hg k
  have hx : ∀ r ∈ t.h :: t.rs, ∀ x ∈ (colsK gs k).map (colT r.tx), x.length ≤ 10000 := fun r hr x hx => by
   obtain ⟨j, hj, rfl⟩ := List.mem_map.1 hx
   exact Nat.le_trans (h.cols r hr j (k2 j hj)).1 (by omega)
  refine ⟨⟨by rw [List.length_map]; omega, hx _ (List.mem_cons_self ..)⟩, fun i hi => ⟨by rw [List.length_map]; omega, hx _ (hsr i hi)⟩⟩
theorem TbOk.found {t : Tb} (h : TbOk t) {wd : Nat} {gs : List (List Nat)} (hg : groupsR (wsT t) wd = some gs) (n : Nat) (hn : 1 ≤ n) : (layP t gs n).foldl addPg [] = gs.map (grp (wsT t) t.h.tx (t.rs.map SR.tx)) := by
 have n1 := h.n1
 have hwl := wsT_len t
 have hw1 : 1 ≤ (wsT t).length := by omega
 have hap := groups_apart (wsT t) wd t.h.tx gs hg hw1 h.wpos (fun i hi => h.colx t.h (List.mem_cons_self ..) i hi) h.dist
 exact pages_groups (wsT t) t.h.tx (t.rs.map SR.tx) n hn gs [] hap
end Go.Proofs.YtoemghiejfkpbaaGreatDoor
/- The pages of a table can be split; the table that was read is laid as the first was. -/
namespace Go.Proofs.YtoemghiejfkpbaaGreatDoor
open Go Go.Shelf Go.RowKit Go.Lib
set_option linter.unusedVariables false
theorem pk_size {t : Tb} (h : TbOk t) {wd : Nat} {gs : List (List Nat)} (hg : groupsR (wsT t) wd = some gs) (n : Nat) (hn : n ≤ 97) (p : List (List UInt8)) (hp : p ∈ layP t gs n) : (nlL p).length ≤ 400000 ∧ ∃ ti da rows, p = ti :: da :: rows ∧ rows.length ≤ 97 := by
 unfold layP pagesR at hp
 obtain ⟨gI, hg1, hm⟩ := List.mem_flatMap.1 hp
 obtain ⟨c, hc, e⟩ := List.mem_map.1 hm
 have hc1 := chk_map SR.tx n t.rs.length t.rs
 rw [List.length_map, hc1] at hc
 obtain ⟨c', hc', rfl⟩ := List.mem_map.1 hc
 obtain ⟨q1, q2⟩ := chk_mem n _ t.rs c' hc'
 rw [← e]
 refine ⟨Nat.le_trans (nlL_len _ (pgL_line h gI (h.gr hg gI hg1) c' q2)) ?_, _, _, _, rfl, ?_⟩
 ·unfold pgL
  simp only [List.length_cons, List.length_map]
  omega
 ·rw [List.length_map, List.length_map]; omega
theorem pgin_of {t : Tb} (h : TbOk t) {wd ht : Nat} (h20 : 20 ≤ wd) (h4 : 4 ≤ ht) (h100 : ht ≤ 100) {gs : List (List Nat)} (hg : groupsR (wsT t) wd = some gs) (i : Nat) (hi : i < (layB t gs (ht - 3)).length) :
  PgIn ((layB t gs (ht - 3)).getD i ⟨#[]⟩) ((layP t gs (ht - 3)).getD i []) := by
 rw [layB_len] at hi
 have n1 := h.n1
 have n2 := h.n2
 have hl := wsT_len t
 have hmem : (layP t gs (ht - 3)).getD i [] ∈ layP t gs (ht - 3) := by rw [List.getD_eq_getElem?_getD, List.getElem?_eq_getElem hi]; exact List.getElem_mem hi
 have hfew : (layP t gs (ht - 3)).length < 10000 := pages_few _ wd _ _ _ gs hg (by omega) (by omega) (by rw [List.length_map]; exact n2)
 obtain ⟨f1, f2⟩ := h.fit hg (ht - 3) _ hmem
 have hne := pagesR_ne _ _ _ gs _ _ hmem
 obtain ⟨hsz, ti, da, rows, hp, hrl⟩ := pk_size h hg (ht - 3) (by omega) _ hmem
 have e : (layB t gs (ht - 3)).getD i ⟨#[]⟩ = str (pgT ((layP t gs (ht - 3)).getD i []) ((i : Int) + 1) ((layP t gs (ht - 3)).length : Int)) := by
  unfold layB
  simp [List.getD, hi]
 rw [e]
 generalize (layP t gs (ht - 3)).getD i [] = p at *
 generalize hN : (layP t gs (ht - 3)).length = N at *
 have k1 : ((i : Int) + 1).natAbs < 10000 := by omega
 have k2 : (N : Int).natAbs < 10000 := by omega
 obtain ⟨⟨a, l, e1, e2⟩, q2, q3, q4⟩ := pg_split wd (ht - 3) h20 p f1 f2 hne ((i : Int) + 1) (N : Int) k1 k2
 have hnl : ∀ w ∈ a :: l, ∀ b ∈ w, b ≠ 10 := fun w hw => by rw [← e1] at hw; exact (q2 w hw).1
 have hT : (pgT p ((i : Int) + 1) (N : Int)).length ≤ 500000 := by
  have w1 := itoa_len ((i : Int) + 1) 4 (by omega) (by omega)
  have w2 := itoa_len (N : Int) 4 (by omega) (by omega)
  rw [pgT_nl]
  unfold footT
  simp only [List.length_append, List.length_cons, List.length_nil]
  omega
 have hls : a :: l = ti :: da :: (rows ++ [footT ((i : Int) + 1) (N : Int), []]) := by rw [← e1, hp]; rfl
 have hll : l.length + 1 = rows.length + 4 := by
  have := congrArg List.length hls
  simp at this
  omega
 refine ⟨ti, da, rows, footT ((i : Int) + 1) (N : Int), hp, by omega, fun W hW => ?_⟩
 obtain ⟨m, hm⟩ := hW
 refine (strings_Split (str (pgT p ((i : Int) + 1) (N : Int))) ⟨#[10]⟩ m W (by rw [str_size]; omega) hm (by decide)).mono fun e w' ⟨he, hw⟩ => ?_
 have hcnt : countB (str (pgT p ((i : Int) + 1) (N : Int))) ⟨#[10]⟩ = l.length := by rw [e2]; exact count_join 10 l a hnl
 rw [hcnt, hll] at he
 rw [hcnt, e2, split_join 10 l a hnl, hls] at hw
 exact ⟨he, by rw [hw]; exact Box.new W 9 _, by rw [hw]; exact below_alloc1 _ _⟩
def SameT (a b : Tb) : Prop := a.h.l = b.h.l ∧ a.rs.map SR.l = b.rs.map SR.l
theorem SameT.tx {a b : Tb} (h : SameT a b) : a.h.tx = b.h.tx ∧ a.rs.map SR.tx = b.rs.map SR.tx := by
 refine ⟨by unfold SR.tx; rw [h.1], ?_⟩
 have e : ∀ l : List SR, l.map SR.tx = (l.map SR.l).map fun r => r.map fun s : ByteArray => s.data.toList := fun l => by rw [List.map_map]; rfl
 rw [e, e, h.2]
theorem SameT.ws {a b : Tb} (h : SameT a b) : wsT a = wsT b := by
 unfold wsT
 rw [List.map_cons, List.map_cons, h.tx.1, h.tx.2, h.1]
theorem SameT.lay {a b : Tb} (h : SameT a b) (gs : List (List Nat)) (n : Nat) : layB a gs n = layB b gs n := by
 have e : layP a gs n = layP b gs n := by unfold layP; rw [h.ws, h.tx.1, h.tx.2]
 unfold layB
 rw [e]
theorem SameT.get {a b : Tb} (h : SameT a b) (q : Nat) : (a.rs.getD q sr0).l = (b.rs.getD q sr0).l := by
 have e := congrArg (fun l => l.getD q []) h.2
 have k : ∀ l : List SR, (l.map SR.l).getD q [] = (l.getD q sr0).l := fun l => by
  rw [List.getD_eq_getElem?_getD, List.getD_eq_getElem?_getD, List.getElem?_map]
  cases l[q]? <;> rfl
 rw [← k, ← k]
 exact e
theorem SameT.len {a b : Tb} (h : SameT a b) : a.rs.length = b.rs.length := by
 have := congrArg List.length h.2
 rwa [List.length_map, List.length_map] at this
theorem SameT.ok {a b : Tb} (h : SameT a b) (hb : TbOk b) : TbOk a := by
 have hall : ∀ q, (((a.h :: a.rs).getD q sr0).l) = ((b.h :: b.rs).getD q sr0).l := fun q => by
  cases q with
  | zero => exact h.1
  | succ q => exact h.get q
 refine ⟨by rw [h.1]; exact hb.n1, by rw [h.len]; exact hb.n2, fun q hq => ?_, fun q hq k hk => ?_, fun q hq => ?_⟩
 ·rw [h.get, h.1]; rw [h.len] at hq; exact hb.eq q hq
 ·rw [hall] at hk ⊢; rw [h.len] at hq; exact hb.tx q hq k hk
 ·rw [h.1] at hq ⊢; exact hb.hd q hq
theorem row_whole {t : Tb} (h : TbOk t) {wd : Nat} {gs : List (List Nat)} (hg : groupsR (wsT t) wd = some gs) (r : SR) (hr : r ∈ t.h :: t.rs) : ((colsK gs gs.length).map (colT r.tx)).map str = r.l := by
 have n1 := h.n1
 have hl := wsT_len t
 rw [colsK_all _ _ _ (by omega) hg, hl]
 have hrl : r.l.length = t.h.l.length := (h.text r hr 0 (by omega)).1
 apply List.ext_getElem (by simp [hrl])
 intro i h1 h2
 have hi : i < t.h.l.length := by omega
 simp only [List.getElem_map, List.getElem_range]
 rw [(h.col r hr i hi).1, str_toL, List.getD_eq_getElem?_getD, List.getElem?_eq_getElem h2]
 rfl
theorem sameT_of {t t' : Tb} (h : TbOk t) {wd : Nat} {gs : List (List Nat)} (hg : groupsR (wsT t) wd = some gs) (ho : TbOf t' ((colsK gs gs.length).map (colT t.h.tx)) t.rs.length (fun i => (colsK gs gs.length).map (colT (t.rs.getD i sr0).tx))) : SameT t' t := by
 refine ⟨by rw [ho.1]; exact row_whole h hg t.h (List.mem_cons_self ..), ?_⟩
 rw [ho.2]
 apply List.ext_getElem (by simp)
 intro i h1 h2
 rw [List.length_map] at h2
 simp only [List.getElem_map, List.getElem_range]
 have := row_whole h hg (t.rs.getD i sr0) (List.mem_cons_of_mem _ (getD_sr h2))
 rw [List.map_map] at this ⊢
 rw [this, List.getD_eq_getElem?_getD, List.getElem?_eq_getElem h2]
 rfl
theorem layBack_of {t : Tb} (h : TbOk t) {wd ht : Nat} (h20 : 20 ≤ wd) (h200 : wd ≤ 200) (h4 : 4 ≤ ht) (h100 : ht ≤ 100) {gs : List (List Nat)} (hg : groupsR (wsT t) wd = some gs) {w : World} (hu : U8 w) (hp : Pow w) :
  LayBack w (layB t gs (ht - 3)) wd ht ((colsK gs gs.length).map (colT t.h.tx)) t.rs.length (fun i => (colsK gs gs.length).map (colT (t.rs.getD i sr0).tx)) := by
 intro W t' hW hT ho
 have hs := sameT_of h hg ho
 refine (play_any t' wd ht W hT (hu.next hW) (hp.next hW) h20 h200 h4 h100).mono ?_
 rintro e w' ⟨hb, ⟨hno, _⟩ | ⟨_, gs2, A, c, hg2, rfl, hr⟩⟩
 ·exact absurd ⟨hs.ok h, gs, by rw [hs.ws]; exact hg⟩ hno
 ·rw [hs.ws, hg] at hg2
  obtain rfl := Option.some.inj hg2
  rw [hs.lay] at hr ⊢
  exact ⟨A, c, rfl, hr, hb⟩
end Go.Proofs.YtoemghiejfkpbaaGreatDoor
/- The table of the first look of PageBack. -/
namespace Go.Proofs.YtoemghiejfkpbaaGreatDoor
open Go Go.Shelf Go.RowKit Go.Lib
set_option linter.unusedVariables false
end Go.Proofs.YtoemghiejfkpbaaGreatDoor
