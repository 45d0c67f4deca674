/- PgPlain, PgPlain2, PgPlain3, PgPlain4 -/
import Derived.Test.YtoemghiejfkpbaaGreatDoorGPgUtf
import Derived.Test.YtoemghiejfkpbaaGreatDoorGNumShp
/- Tables on pages, plain: groups of columns, lines, what is left of a line without its last spaces. -/
namespace Go.Proofs.YtoemghiejfkpbaaGreatDoor
open Go.Lib
set_option linter.unusedVariables false
def gGo (w : List Nat) (W : Nat) : List Nat → List (List Nat) → List Nat → Nat → Option (List (List Nat))
 | [], done, cur, _ => some (done ++ [cur])
 | i :: l, done, cur, used =>
  if W < w.getD 0 0 + 2 + w.getD i 0 then none
  else if W < used + 2 + w.getD i 0 then gGo w W l (done ++ [cur]) [0, i] (w.getD 0 0 + 2 + w.getD i 0)
  else gGo w W l done (cur ++ [i]) (used + 2 + w.getD i 0)
def groupsR (w : List Nat) (W : Nat) : Option (List (List Nat)) := if W < w.getD 0 0 then none else gGo w W (List.range' 1 (w.length - 1)) [] [0] (w.getD 0 0)
def gW (w : List Nat) : List Nat → Nat
 | [] => 0
 | i :: g => w.getD i 0 + 2 + gW w g
theorem gW_app (w : List Nat) (a b : List Nat) : gW w (a ++ b) = gW w a + gW w b := by
 induction a with
 | nil => simp [gW]
 | cons i a ih => simp only [List.cons_append, gW, ih]; omega
theorem gGo_fit (w : List Nat) (W : Nat) : ∀ (l : List Nat) (done : List (List Nat)) (cur : List Nat) (used : Nat) (gs : List (List Nat)), (∀ g ∈ done, g ≠ [] ∧ gW w g ≤ W + 2) → cur ≠ [] → gW w cur = used + 2 → used ≤ W → gGo w W l done cur used = some gs → ∀ g ∈ gs, g ≠ [] ∧ gW w g ≤ W + 2
 | [], done, cur, used, gs, hd, hc, hw, hu, h => by
  simp only [gGo, Option.some.injEq] at h
  subst h
  intro g hg
  rcases List.mem_append.1 hg with hg | hg
  ·exact hd g hg
  ·obtain rfl := List.mem_singleton.1 hg
   exact ⟨hc, by omega⟩
 | i :: l, done, cur, used, gs, hd, hc, hw, hu, h => by
  simp only [gGo] at h
  split at h
  ·cases h
  ·split at h
   ·refine gGo_fit w W l _ [0, i] _ gs (fun g hg => ?_) (by simp) (by simp only [gW]; omega) (by omega) h
    rcases List.mem_append.1 hg with hg | hg
    ·exact hd g hg
    ·obtain rfl := List.mem_singleton.1 hg
     exact ⟨hc, by omega⟩
   ·exact gGo_fit w W l done _ _ gs hd (by simp) (by rw [gW_app]; simp only [gW]; omega) (by omega) h
theorem groups_fit (w : List Nat) (W : Nat) (gs : List (List Nat)) (h : groupsR w W = some gs) : ∀ g ∈ gs, g ≠ [] ∧ gW w g ≤ W + 2 := by
 unfold groupsR at h
 split at h
 ·cases h
 ·exact gGo_fit w W _ [] [0] _ gs (by simp) (by simp) (by simp [gW]) (by omega) h
def lnT (w : List Nat) (t : Nat → List UInt8) : List Nat → List UInt8
 | [] => []
 | [i] => t i
 | i :: j :: g => t i ++ (List.replicate (w.getD i 0 - rcT (t i)) 32 ++ 32 :: 32 :: lnT w t (j :: g))
theorem sep_spaces (n : Nat) (l : List UInt8) (h : Sep l) : Sep (List.replicate n 32 ++ l) := by
 cases n with
 | zero => exact h
 | succ n => rw [List.replicate_succ, List.cons_append]; exact sep_ascii 32 _ (by decide)
theorem lnT_rc (w : List Nat) (t : Nat → List UInt8) : ∀ (g : List Nat), g ≠ [] → (∀ i ∈ g, rcT (t i) ≤ w.getD i 0) → rcT (lnT w t g) + 2 ≤ gW w g
 | [], h, _ => absurd rfl h
 | [i], _, h => by
  have := h i (List.mem_cons_self ..)
  simp only [lnT, gW]
  omega
 | i :: j :: g, _, h => by
  have h1 := h i (List.mem_cons_self ..)
  have ih := lnT_rc w t (j :: g) (by simp) fun x hx => h x (List.mem_cons_of_mem _ hx)
  simp only [lnT]
  rw [rcT_sep _ _ (sep_spaces _ _ (sep_ascii 32 _ (by decide))), rcT_spaces, rcT_cons 32 _ (by decide), rcT_cons 32 _ (by decide)]
  simp only [gW] at ih ⊢
  omega
def trR (l : List UInt8) : List UInt8 := (l.reverse.dropWhile (fun b => b == 32)).reverse
theorem trR_eq (l : List UInt8) : ∃ k, l = trR l ++ List.replicate k 32 := by
 have key : ∀ (r : List UInt8), ∃ k, r = List.replicate k 32 ++ r.dropWhile (fun b => b == 32) := by
  intro r
  induction r with
  | nil => exact ⟨0, rfl⟩
  | cons b r ih =>
   by_cases hb : b = 32
   ·subst hb
    obtain ⟨k, hk⟩ := ih
    refine ⟨k + 1, ?_⟩
    rw [List.dropWhile_cons_of_pos (by decide), List.replicate_succ, List.cons_append, ← hk]
   ·exact ⟨0, by rw [List.dropWhile_cons_of_neg (by simpa using hb)]; rfl⟩
 obtain ⟨k, hk⟩ := key l.reverse
 refine ⟨k, ?_⟩
 have := congrArg List.reverse hk
 rw [List.reverse_reverse, List.reverse_append, List.reverse_replicate] at this
 exact this
theorem trR_rc (l : List UInt8) : rcT (trR l) ≤ rcT l := by
 obtain ⟨k, hk⟩ := trR_eq l
 have h : rcT l = rcT (trR l) + rcT (List.replicate k 32) := by
  rw [← rcT_sep (trR l) (List.replicate k 32) (by
   cases k with
   | zero => intro b t e; cases e
   | succ k => rw [List.replicate_succ]; exact sep_ascii 32 _ (by decide)), ← hk]
 omega
theorem trR_last (l : List UInt8) : ¬ [32] <:+ trR l := by
 intro h
 unfold trR at h
 rw [← List.reverse_prefix, List.reverse_reverse] at h
 obtain ⟨t, ht⟩ := h
 have h2 := List.head?_dropWhile_not (fun b : UInt8 => b == 32) l.reverse
 rw [← ht] at h2
 simp at h2
theorem trR_mem (l : List UInt8) : ∀ b ∈ trR l, b ∈ l := fun b hb => by
 obtain ⟨k, hk⟩ := trR_eq l
 rw [hk]
 exact List.mem_append_left _ hb
theorem line_fits (w : List Nat) (W : Nat) (gs : List (List Nat)) (h : groupsR w W = some gs) (g : List Nat) (hg : g ∈ gs) (t : Nat → List UInt8) (ht : ∀ i ∈ g, rcT (t i) ≤ w.getD i 0) :
  rcT (trR (lnT w t g)) ≤ W ∧ ¬ [32] <:+ trR (lnT w t g) := by
 obtain ⟨h1, h2⟩ := groups_fit w W gs h g hg
 have := lnT_rc w t g h1 ht
 have := trR_rc (lnT w t g)
 exact ⟨by omega, trR_last _⟩
end Go.Proofs.YtoemghiejfkpbaaGreatDoor
/- Tables on pages, plain: the lines of a page, its last line. -/
namespace Go.Proofs.YtoemghiejfkpbaaGreatDoor
open Go Go.Lib
set_option linter.unusedVariables false
theorem join_lines (a : List UInt8) (ls : List (List UInt8)) : (a :: ls).flatMap (fun l => l ++ [10]) = joinW 10 a (ls ++ [[]]) := by
 induction ls generalizing a with
 | nil => simp [joinW]
 | cons b ls ih =>
  rw [List.flatMap_cons, ih b]
  simp [joinW]
def footT (i n : Int) : List UInt8 := [112, 97, 103, 101, 32] ++ (itoa i ++ ([32, 111, 102, 32] ++ itoa n))
theorem itoa_low (n : Int) : ∀ b ∈ itoa n, b.toNat < 128 ∧ b ≠ 32 ∧ b ≠ 10 := fun b hb => by
 have h := itoa_byte n b hb
 refine ⟨by omega, ?_, ?_⟩
 ·rintro rfl; rcases h with h | h <;> revert h <;> decide
 ·rintro rfl; rcases h with h | h <;> revert h <;> decide
theorem foot_byte (i n : Int) : ∀ b ∈ footT i n, b.toNat < 128 ∧ b ≠ 10 := fun b hb => by
 unfold footT at hb
 simp only [List.mem_append] at hb
 rcases hb with h | h | h | h
 ·simp only [List.mem_cons, List.not_mem_nil, or_false] at h
  rcases h with rfl | rfl | rfl | rfl | rfl <;> decide
 ·exact ⟨(itoa_low i b h).1, (itoa_low i b h).2.2⟩
 ·simp only [List.mem_cons, List.not_mem_nil, or_false] at h
  rcases h with rfl | rfl | rfl | rfl <;> decide
 ·exact ⟨(itoa_low n b h).1, (itoa_low n b h).2.2⟩
theorem foot_fits (i n : Int) (h1 : i.natAbs < 10000) (h2 : n.natAbs < 10000) : rcT (footT i n) ≤ 20 ∧ ¬ [32] <:+ footT i n := by
 refine ⟨?_, ?_⟩
 ·rw [(ascii_all _ fun b hb => (foot_byte i n b hb).1).2]
  have q1 := itoa_len i 4 (by omega) (by omega)
  have q2 := itoa_len n 4 (by omega) (by omega)
  unfold footT
  simp only [List.length_append, List.length_cons, List.length_nil]
  omega
 ·intro h
  have hne := itoa_ne n
  obtain ⟨a, c, he⟩ : ∃ a c, itoa n = a ++ [c] := by
   rcases List.eq_nil_or_concat (itoa n) with h | ⟨a, c, h⟩
   ·exact absurd h hne
   ·exact ⟨a, c, by rw [h, List.concat_eq_append]⟩
  have hc : c ≠ 32 := (itoa_low n c (by rw [he]; simp)).2.1
  have e : footT i n = ([112, 97, 103, 101, 32] ++ (itoa i ++ ([32, 111, 102, 32] ++ a))) ++ [c] := by unfold footT; rw [he]; simp
  rw [e] at h
  obtain ⟨t, ht⟩ := h
  have := List.append_inj_right' ht rfl
  simp at this
  exact hc this.symm
def LinesFit (W : Nat) (ls : List (List UInt8)) : Prop := ∀ l ∈ ls, (∀ b ∈ l, b ≠ 10) ∧ rcT l ≤ W ∧ ¬ [32] <:+ l
theorem fit_nil (W : Nat) : (∀ b ∈ ([] : List UInt8), b ≠ 10) ∧ rcT [] ≤ W ∧ ¬ [32] <:+ ([] : List UInt8) := ⟨by simp, by rw [rcT_nil]; omega, fun h => by have := h.length_le; simp at this⟩
theorem fit_foot (W : Nat) (h : 20 ≤ W) (i n : Int) (h1 : i.natAbs < 10000) (h2 : n.natAbs < 10000) : (∀ b ∈ footT i n, b ≠ 10) ∧ rcT (footT i n) ≤ W ∧ ¬ [32] <:+ footT i n :=
 ⟨fun b hb => (foot_byte i n b hb).2, Nat.le_trans (foot_fits i n h1 h2).1 h, (foot_fits i n h1 h2).2⟩
end Go.Proofs.YtoemghiejfkpbaaGreatDoor
/- Tables on pages, plain: all pages of a table; no line is too long, no page has too many lines. -/
namespace Go.Proofs.YtoemghiejfkpbaaGreatDoor
open Go Go.Lib
set_option linter.unusedVariables false
theorem gGo_len (w : List Nat) (W : Nat) : ∀ (l : List Nat) (done : List (List Nat)) (cur : List Nat) (used : Nat) (gs : List (List Nat)), gGo w W l done cur used = some gs → gs.length ≤ done.length + 1 + l.length
 | [], done, cur, used, gs, h => by
  simp only [gGo, Option.some.injEq] at h
  subst h
  simp
 | i :: l, done, cur, used, gs, h => by
  simp only [gGo] at h
  rw [List.length_cons]
  split at h
  ·cases h
  ·split at h
   ·have := gGo_len w W l _ _ _ gs h
    rw [List.length_append, List.length_singleton] at this
    omega
   ·have := gGo_len w W l _ _ _ gs h
    omega
theorem groups_len (w : List Nat) (W : Nat) (gs : List (List Nat)) (hw : 1 ≤ w.length) (h : groupsR w W = some gs) : gs.length ≤ w.length := by
 unfold groupsR at h
 split at h
 ·cases h
 ·have := gGo_len w W _ [] [0] _ gs h
  rw [List.length_range'] at this
  simp only [List.length_nil] at this
  omega
theorem gGo_mem (w : List Nat) (W n : Nat) (hn : 1 ≤ n) : ∀ (l : List Nat) (done : List (List Nat)) (cur : List Nat) (used : Nat) (gs : List (List Nat)), (∀ i ∈ l, i < n) → (∀ g ∈ done, ∀ i ∈ g, i < n) → (∀ i ∈ cur, i < n) → gGo w W l done cur used = some gs → ∀ g ∈ gs, ∀ i ∈ g, i < n
 | [], done, cur, used, gs, _, hd, hc, h => by
  simp only [gGo, Option.some.injEq] at h
  subst h
  intro g hg
  rcases List.mem_append.1 hg with hg | hg
  ·exact hd g hg
  ·obtain rfl := List.mem_singleton.1 hg
   exact hc
 | i :: l, done, cur, used, gs, hl, hd, hc, h => by
  have hi := hl i (List.mem_cons_self ..)
  simp only [gGo] at h
  split at h
  ·cases h
  ·split at h
   ·refine gGo_mem w W n hn l _ _ _ gs (fun x hx => hl x (List.mem_cons_of_mem _ hx)) (fun g hg => ?_) (fun x hx => ?_) h
    ·rcases List.mem_append.1 hg with hg | hg
     ·exact hd g hg
     ·obtain rfl := List.mem_singleton.1 hg
      exact hc
    ·simp only [List.mem_cons, List.not_mem_nil, or_false] at hx
     rcases hx with rfl | rfl
     ·omega
     ·exact hi
   ·refine gGo_mem w W n hn l done _ _ gs (fun x hx => hl x (List.mem_cons_of_mem _ hx)) hd (fun x hx => ?_) h
    rcases List.mem_append.1 hx with hx | hx
    ·exact hc x hx
    ·obtain rfl := List.mem_singleton.1 hx
     exact hi
theorem groups_mem (w : List Nat) (W : Nat) (gs : List (List Nat)) (hw : 1 ≤ w.length) (h : groupsR w W = some gs) : ∀ g ∈ gs, ∀ i ∈ g, i < w.length := by
 unfold groupsR at h
 split at h
 ·cases h
 ·refine gGo_mem w W w.length hw _ [] [0] _ gs (fun i hi => ?_) (by simp) (by simp; omega) h
  rw [List.mem_range'_1] at hi
  omega
def chk {α : Type} (n : Nat) : Nat → List α → List (List α)
 | 0, r => [r.take n]
 | f + 1, r => if r.length ≤ n then [r] else r.take n :: chk n f (r.drop n)
theorem chk_mem {α : Type} (n : Nat) : ∀ (f : Nat) (r c : List α), c ∈ chk n f r → c.length ≤ n ∧ ∀ x ∈ c, x ∈ r
 | 0, r, c, h => by
  obtain rfl := List.mem_singleton.1 h
  exact ⟨by rw [List.length_take]; omega, fun x hx => List.mem_of_mem_take hx⟩
 | f + 1, r, c, h => by
  simp only [chk] at h
  split at h
  ·rename_i hl
   obtain rfl := List.mem_singleton.1 h
   exact ⟨hl, fun x hx => hx⟩
  ·rcases List.mem_cons.1 h with rfl | h
   ·exact ⟨by rw [List.length_take]; omega, fun x hx => List.mem_of_mem_take hx⟩
   ·obtain ⟨h1, h2⟩ := chk_mem n f (r.drop n) c h
    exact ⟨h1, fun x hx => List.mem_of_mem_drop (h2 x hx)⟩
theorem chk_len {α : Type} (n : Nat) : ∀ (f : Nat) (r : List α), (chk n f r).length ≤ f + 1
 | 0, r => by simp [chk]
 | f + 1, r => by
  simp only [chk]
  split
  ·simp
  ·have := chk_len n f (r.drop n)
   rw [List.length_cons]
   omega
def colT (r : List (List UInt8)) (i : Nat) : List UInt8 := r.getD i []
def dashT (w : List Nat) (i : Nat) : List UInt8 := List.replicate (w.getD i 0) 45
def pgL (w : List Nat) (head : List (List UInt8)) (g : List Nat) (rows : List (List (List UInt8))) : List (List UInt8) :=
 trR (lnT w (colT head) g) :: trR (lnT w (dashT w) g) :: rows.map fun r => trR (lnT w (colT r) g)
def pagesR (w : List Nat) (head : List (List UInt8)) (rows : List (List (List UInt8))) (gs : List (List Nat)) (n : Nat) : List (List (List UInt8)) :=
 gs.flatMap fun g => (chk n rows.length rows).map (pgL w head g)
theorem lnT_byte (w : List Nat) (t : Nat → List UInt8) : ∀ (g : List Nat), (∀ i ∈ g, ∀ b ∈ t i, b ≠ 10) → ∀ b ∈ lnT w t g, b ≠ 10
 | [], _, b, hb => by cases hb
 | [i], h, b, hb => h i (List.mem_cons_self ..) b hb
 | i :: j :: g, h, b, hb => by
  simp only [lnT, List.mem_append, List.mem_replicate, List.mem_cons] at hb
  rcases hb with hb | hb | hb | hb | hb
  ·exact h i (List.mem_cons_self ..) b hb
  ·rw [hb.2]; decide
  ·rw [hb]; decide
  ·rw [hb]; decide
  ·exact lnT_byte w t (j :: g) (fun x hx => h x (List.mem_cons_of_mem _ hx)) b hb
theorem dash_rc (w : List Nat) (i : Nat) : rcT (dashT w i) ≤ w.getD i 0 := by
 unfold dashT
 have h := ascii_all (List.replicate (w.getD i 0) (45 : UInt8)) (fun b hb => by rw [(List.mem_replicate.1 hb).2]; decide)
 rw [h.2, List.length_replicate]
 omega
theorem pages_fit (w : List Nat) (W n : Nat) (head : List (List UInt8)) (rows : List (List (List UInt8))) (gs : List (List Nat)) (hg : groupsR w W = some gs) (hw : 1 ≤ w.length)
  (hh : ∀ i, i < w.length → rcT (colT head i) ≤ w.getD i 0 ∧ ∀ b ∈ colT head i, b ≠ 10) (hr : ∀ r ∈ rows, ∀ i, i < w.length → rcT (colT r i) ≤ w.getD i 0 ∧ ∀ b ∈ colT r i, b ≠ 10) :
  ∀ p ∈ pagesR w head rows gs n, LinesFit W p ∧ p.length ≤ n + 2 := by
 intro p hp
 obtain ⟨g, hgs, hp⟩ := List.mem_flatMap.1 hp
 obtain ⟨c, hc, rfl⟩ := List.mem_map.1 hp
 obtain ⟨c1, c2⟩ := chk_mem n _ rows c hc
 have hm := groups_mem w W gs hw hg g hgs
 have key : ∀ t : Nat → List UInt8, (∀ i, i < w.length → rcT (t i) ≤ w.getD i 0 ∧ ∀ b ∈ t i, b ≠ 10) → (∀ b ∈ trR (lnT w t g), b ≠ 10) ∧ rcT (trR (lnT w t g)) ≤ W ∧ ¬ [32] <:+ trR (lnT w t g) := fun t ht => by
  obtain ⟨q1, q2⟩ := line_fits w W gs hg g hgs t fun i hi => (ht i (hm i hi)).1
  exact ⟨fun b hb => lnT_byte w t g (fun i hi => (ht i (hm i hi)).2) b (trR_mem _ b hb), q1, q2⟩
 refine ⟨fun l hl => ?_, ?_⟩
 ·unfold pgL at hl
  rcases List.mem_cons.1 hl with rfl | hl
  ·exact key _ hh
  rcases List.mem_cons.1 hl with rfl | hl
  ·exact key _ fun i hi => ⟨dash_rc w i, fun b hb => by unfold dashT at hb; rw [(List.mem_replicate.1 hb).2]; decide⟩
  ·obtain ⟨r, hrc, rfl⟩ := List.mem_map.1 hl
   exact key _ (hr r (c2 r hrc))
 ·unfold pgL
  simp only [List.length_cons, List.length_map]
  omega
theorem pages_few (w : List Nat) (W n : Nat) (head : List (List UInt8)) (rows : List (List (List UInt8))) (gs : List (List Nat)) (hg : groupsR w W = some gs) (hw : 1 ≤ w.length) (hw2 : w.length ≤ 12) (hr : rows.length ≤ 400) : (pagesR w head rows gs n).length < 10000 := by
 have h1 := groups_len w W gs hw hg
 have h2 := chk_len n rows.length rows
 have key : ∀ l : List (List Nat), (l.flatMap fun g => (chk n rows.length rows).map (pgL w head g)).length ≤ l.length * (rows.length + 1) := by
  intro l
  induction l with
  | nil => simp
  | cons a l ih =>
   rw [List.flatMap_cons, List.length_append, List.length_map, List.length_cons, Nat.succ_mul]
   omega
 have h3 := key gs
 have h4 : gs.length * (rows.length + 1) ≤ 12 * 401 := Nat.mul_le_mul (by omega) (by omega)
 unfold pagesR
 omega
end Go.Proofs.YtoemghiejfkpbaaGreatDoor
/- Tables on pages, plain: a page is divided into its lines again. -/
namespace Go.Proofs.YtoemghiejfkpbaaGreatDoor
open Go Go.Lib
set_option linter.unusedVariables false
def pgT (p : List (List UInt8)) (i n : Int) : List UInt8 := (p ++ [footT i n]).flatMap (fun l => l ++ [10])
def pgS (p : List (List UInt8)) (i n : Int) : List (List UInt8) := p ++ [footT i n, []]
theorem pg_split (W k : Nat) (h20 : 20 ≤ W) (p : List (List UInt8)) (hp : LinesFit W p) (hk : p.length ≤ k + 2) (hne : p ≠ []) (i n : Int) (h1 : i.natAbs < 10000) (h2 : n.natAbs < 10000) :
  (∃ a l, pgS p i n = a :: l ∧ pgT p i n = joinW 10 a l) ∧ LinesFit W (pgS p i n) ∧ (pgS p i n).length ≤ k + 4 ∧ (pgS p i n).getLast? = some [] := by
 refine ⟨?_, ?_, ?_, ?_⟩
 ·cases p with
  | nil => exact absurd rfl hne
  | cons a p =>
   refine ⟨a, p ++ [footT i n, []], rfl, ?_⟩
   unfold pgT
   rw [List.cons_append, join_lines]
   congr 1
   simp
 ·intro l hl
  unfold pgS at hl
  rcases List.mem_append.1 hl with h | h
  ·exact hp l h
  ·simp only [List.mem_cons, List.not_mem_nil, or_false] at h
   rcases h with rfl | rfl
   ·exact fit_foot W h20 i n h1 h2
   ·exact fit_nil W
 ·unfold pgS
  rw [List.length_append]
  simp only [List.length_cons, List.length_nil]
  omega
 ·unfold pgS
  simp
theorem pgL_ne (w : List Nat) (head : List (List UInt8)) (g : List Nat) (rows : List (List (List UInt8))) : pgL w head g rows ≠ [] := by unfold pgL; simp
theorem pagesR_ne (w : List Nat) (head : List (List UInt8)) (rows : List (List (List UInt8))) (gs : List (List Nat)) (n : Nat) : ∀ p ∈ pagesR w head rows gs n, p ≠ [] := fun p hp => by
 obtain ⟨g, _, hp⟩ := List.mem_flatMap.1 hp
 obtain ⟨c, _, rfl⟩ := List.mem_map.1 hp
 exact pgL_ne _ _ _ _
def widR (cols : Nat) (all : List (List (List UInt8))) : List Nat := (List.range cols).map fun i => (all.map fun r => rcT (colT r i)).foldl max 0
theorem foldl_max_le : ∀ (l : List Nat) (a x : Nat), (x ∈ l ∨ x ≤ a) → x ≤ l.foldl max a
 | [], a, x, h => by
  rcases h with h | h
  ·cases h
  ·exact h
 | b :: l, a, x, h => by
  rw [List.foldl_cons]
  apply foldl_max_le l
  rcases h with h | h
  ·rcases List.mem_cons.1 h with rfl | h
   ·right; omega
   ·exact .inl h
  ·right; omega
theorem wid_fit (cols : Nat) (all : List (List (List UInt8))) (r : List (List UInt8)) (hr : r ∈ all) (i : Nat) (hi : i < cols) : rcT (colT r i) ≤ (widR cols all).getD i 0 := by
 unfold widR
 rw [List.getD_eq_getElem?_getD, List.getElem?_map, List.getElem?_range hi]
 simp only [Option.map_some, Option.getD_some]
 exact foldl_max_le _ 0 _ (.inl (List.mem_map.2 ⟨r, hr, rfl⟩))
theorem wid_len (cols : Nat) (all : List (List (List UInt8))) : (widR cols all).length = cols := by unfold widR; simp
end Go.Proofs.YtoemghiejfkpbaaGreatDoor
