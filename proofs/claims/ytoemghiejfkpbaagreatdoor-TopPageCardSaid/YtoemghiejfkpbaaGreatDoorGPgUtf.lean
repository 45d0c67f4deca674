/- PgUtf, PgUtf2 -/
import Derived.Lib.ValidLaws
import Derived.Test.YtoemghiejfkpbaaGreatDoorGMem
/- Valid UTF-8: pieces of a text are decoded as they are alone; the count of runes adds up. -/
namespace Go.Proofs.YtoemghiejfkpbaaGreatDoor
open Go.Lib
set_option linter.unusedVariables false
theorem decN_app (n m b0 b1 b2 b3 c1 c2 c3 : Nat) (h1 : 1 < n → c1 = b1) (h2 : 2 < n → c2 = b2) (h3 : 3 < n → c3 = b3) (hn : 1 ≤ n) (hv : ¬ ((decodeN n b0 b1 b2 b3).1 = 65533 ∧ (decodeN n b0 b1 b2 b3).2 = 1)) :
  decodeN (n + m) b0 c1 c2 c3 = decodeN n b0 b1 b2 b3 ∧ (decodeN n b0 b1 b2 b3).2 ≤ n ∧ 1 ≤ (decodeN n b0 b1 b2 b3).2 := by
 unfold decodeN at hv ⊢
 by_cases p0 : b0 < 128
 ·rw [if_pos p0, if_pos p0]
  exact ⟨rfl, hn, Nat.le_refl 1⟩
 rw [if_neg p0] at hv
 rw [if_neg p0, if_neg p0]
 by_cases p2 : b0 / 32 = 6 ∧ (1 < n ∧ b1 / 64 = 2)
 ·obtain rfl := h1 p2.2.1
  rw [if_pos p2] at hv
  rw [if_pos ⟨p2.1, by omega, p2.2.2⟩, if_pos p2]
  split at hv
  ·rename_i h; rw [if_pos h]; exact ⟨rfl, p2.2.1, by show 1 ≤ 2; omega⟩
  ·exact absurd ⟨rfl, rfl⟩ hv
 rw [if_neg p2] at hv
 rw [if_neg p2]
 by_cases p3 : b0 / 16 = 14 ∧ (1 < n ∧ b1 / 64 = 2) ∧ (2 < n ∧ b2 / 64 = 2)
 ·obtain rfl := h1 p3.2.1.1
  obtain rfl := h2 p3.2.2.1
  rw [if_pos p3] at hv
  rw [if_neg (show ¬ (b0 / 32 = 6 ∧ (1 < n + m ∧ c1 / 64 = 2)) from fun h => by have := h.1; have := p3.1; omega), if_pos ⟨p3.1, ⟨by omega, p3.2.1.2⟩, by omega, p3.2.2.2⟩, if_pos p3]
  split at hv
  ·rename_i h; rw [if_pos h]; exact ⟨rfl, by have := p3.2.2.1; show 3 ≤ n; omega, by show 1 ≤ 3; omega⟩
  ·exact absurd ⟨rfl, rfl⟩ hv
 rw [if_neg p3] at hv
 rw [if_neg p3]
 by_cases p4 : b0 / 8 = 30 ∧ (1 < n ∧ b1 / 64 = 2) ∧ (2 < n ∧ b2 / 64 = 2) ∧ (3 < n ∧ b3 / 64 = 2)
 ·obtain rfl := h1 p4.2.1.1
  obtain rfl := h2 p4.2.2.1.1
  obtain rfl := h3 p4.2.2.2.1
  rw [if_pos p4] at hv
  rw [if_neg (show ¬ (b0 / 32 = 6 ∧ (1 < n + m ∧ c1 / 64 = 2)) from fun h => by have := h.1; have := p4.1; omega), if_neg (show ¬ (b0 / 16 = 14 ∧ (1 < n + m ∧ c1 / 64 = 2) ∧ (2 < n + m ∧ c2 / 64 = 2)) from fun h => by have := h.1; have := p4.1; omega), if_pos ⟨p4.1, ⟨by omega, p4.2.1.2⟩, ⟨by omega, p4.2.2.1.2⟩, by omega, p4.2.2.2.2⟩, if_pos p4]
  split at hv
  ·rename_i h; rw [if_pos h]; exact ⟨rfl, by have := p4.2.2.2.1; show 4 ≤ n; omega, by show 1 ≤ 4; omega⟩
  ·exact absurd ⟨rfl, rfl⟩ hv
 rw [if_neg p4] at hv
 exact absurd ⟨rfl, rfl⟩ hv
theorem decL_app (a r : List UInt8) (hne : a ≠ []) (hv : ¬ ((decodeL a).1 = 65533 ∧ (decodeL a).2 = 1)) : decodeL (a ++ r) = decodeL a ∧ (decodeL a).2 ≤ a.length ∧ 1 ≤ (decodeL a).2 := by
 have hn : 1 ≤ a.length := by cases a with | nil => exact absurd rfl hne | cons _ _ => simp
 have hg : ∀ i, i < a.length → (a ++ r).getD i 0 = a.getD i 0 := fun i hi => by
  rw [List.getD_eq_getElem?_getD, List.getD_eq_getElem?_getD, List.getElem?_append_left hi]
 rw [decodeL_N a] at hv
 rw [decodeL_N (a ++ r), decodeL_N a, List.length_append, hg 0 (by omega)]
 exact decN_app a.length r.length _ _ _ _ _ _ _ (fun h => by rw [hg 1 h]) (fun h => by rw [hg 2 h]) (fun h => by rw [hg 3 h]) hn hv
theorem decN_pos (n b0 b1 b2 b3 : Nat) : 1 ≤ (decodeN n b0 b1 b2 b3).2 := by
 unfold decodeN
 repeat' split
 all_goals simp
theorem decL_pos (l : List UInt8) : 1 ≤ (decodeL l).2 := by rw [decodeL_N]; exact decN_pos _ _ _ _ _
def rcT (l : List UInt8) : Nat := rcL l.length l
theorem rcL_nil (f : Nat) : rcL f [] = 0 := by cases f <;> rfl
theorem rcL_fuel : ∀ (f g : Nat) (l : List UInt8), l.length ≤ f → l.length ≤ g → rcL f l = rcL g l
 | 0, g, l, h, _ => by
  have : l = [] := List.eq_nil_of_length_eq_zero (by omega)
  subst this
  rw [rcL_nil, rcL_nil]
 | f + 1, 0, l, _, h => by
  have : l = [] := List.eq_nil_of_length_eq_zero (by omega)
  subst this
  rw [rcL_nil, rcL_nil]
 | f + 1, g + 1, l, h1, h2 => by
  simp only [rcL]
  by_cases hl : l = []
  ·rw [if_pos hl, if_pos hl]
  ·rw [if_neg hl, if_neg hl]
   have hp := decL_pos l
   have hn : 1 ≤ l.length := by cases l with | nil => exact absurd rfl hl | cons _ _ => simp
   rw [rcL_fuel f g (l.drop (decodeL l).2) (by rw [List.length_drop]; omega) (by rw [List.length_drop]; omega)]
theorem rcT_nil : rcT [] = 0 := rfl
theorem rcT_step (l : List UInt8) (h : l ≠ []) : rcT l = 1 + rcT (l.drop (decodeL l).2) := by
 have hp := decL_pos l
 have hn : 1 ≤ l.length := by cases l with | nil => exact absurd rfl h | cons _ _ => simp
 unfold rcT
 rw [rcL_fuel l.length (l.length - 1 + 1) l (Nat.le_refl _) (by omega)]
 simp only [rcL]
 rw [if_neg h, rcL_fuel (l.length - 1) (l.drop (decodeL l).2).length _ (by rw [List.length_drop]; omega) (Nat.le_refl _)]
theorem rcT_app : ∀ (n : Nat) (a r : List UInt8), a.length ≤ n → validD a = true → rcT (a ++ r) = rcT a + rcT r ∧ validD (a ++ r) = validD r
 | 0, a, r, h, _ => by
  have : a = [] := List.eq_nil_of_length_eq_zero (by omega)
  subst this
  rw [List.nil_append, rcT_nil]
  exact ⟨by omega, rfl⟩
 | n + 1, a, r, h, hv => by
  by_cases ha : a = []
  ·subst ha
   rw [List.nil_append, rcT_nil]
   exact ⟨by omega, rfl⟩
  ·rw [validD_step a ha] at hv
   split at hv
   ·cases hv
   ·rename_i hd
    obtain ⟨e1, e2, e3⟩ := decL_app a r ha hd
    have har : a ++ r ≠ [] := fun e => ha (List.append_eq_nil_iff.1 e).1
    have hdrop : (a ++ r).drop (decodeL a).2 = a.drop (decodeL a).2 ++ r := List.drop_append_of_le_length e2
    obtain ⟨i1, i2⟩ := rcT_app n (a.drop (decodeL a).2) r (by rw [List.length_drop]; omega) hv
    refine ⟨?_, ?_⟩
    ·rw [rcT_step (a ++ r) har, e1, hdrop, i1, rcT_step a ha]
     omega
    ·rw [validD_step (a ++ r) har, e1, if_neg hd, hdrop, i2]
theorem rcT_add (a r : List UInt8) (h : validD a = true) : rcT (a ++ r) = rcT a + rcT r := (rcT_app a.length a r (Nat.le_refl _) h).1
theorem valid_app (a r : List UInt8) (h : validD a = true) : validD (a ++ r) = validD r := (rcT_app a.length a r (Nat.le_refl _) h).2
theorem rcT_str (l : List UInt8) : runeCount ⟨l.toArray⟩ = rcT l := rc_str l
theorem ascii_one (b : UInt8) (h : b.toNat < 128) : validD [b] = true ∧ rcT [b] = 1 := by
 refine ⟨by rw [validD_cons b [] h]; rfl, ?_⟩
 rw [rcT_step [b] (by simp)]
 have hp := decL_pos [b]
 rw [List.drop_eq_nil_of_le (by simp; omega), rcT_nil]
theorem ascii_all : ∀ (l : List UInt8), (∀ b ∈ l, b.toNat < 128) → validD l = true ∧ rcT l = l.length
 | [], _ => ⟨rfl, rfl⟩
 | b :: l, h => by
  obtain ⟨h1, h2⟩ := ascii_one b (h b (List.mem_cons_self ..))
  obtain ⟨i1, i2⟩ := ascii_all l fun x hx => h x (List.mem_cons_of_mem _ hx)
  rw [show b :: l = [b] ++ l from rfl, valid_app _ _ h1, rcT_add _ _ h1, h2, i2]
  exact ⟨i1, by simp; omega⟩
theorem rcT_le (l : List UInt8) : rcT l ≤ l.length := by
 have key : ∀ f (l : List UInt8), rcL f l ≤ f := by
  intro f
  induction f with
  | zero => intro l; simp [rcL]
  | succ f ih =>
   intro l
   simp only [rcL]
   split
   ·omega
   ·have := ih (l.drop (decodeL l).2); omega
 exact key _ _
end Go.Proofs.YtoemghiejfkpbaaGreatDoor
/- A text ahead of a byte that begins a rune is decoded as it is alone: counts add up, whatever the text is. -/
namespace Go.Proofs.YtoemghiejfkpbaaGreatDoor
open Go.Lib
set_option linter.unusedVariables false
theorem decN_sep (n m b0 b1 b2 b3 c1 c2 c3 : Nat) (h1 : 1 < n → c1 = b1) (h2 : 2 < n → c2 = b2) (h3 : 3 < n → c3 = b3) (hn : 1 ≤ n) (s1 : n = 1 → ¬ c1 / 64 = 2) (s2 : n = 2 → ¬ c2 / 64 = 2) (s3 : n = 3 → ¬ c3 / 64 = 2) :
  decodeN (n + m) b0 c1 c2 c3 = decodeN n b0 b1 b2 b3 ∧ (decodeN n b0 b1 b2 b3).2 ≤ n := by
 have key : (1 < n + m ∧ c1 / 64 = 2) ↔ (1 < n ∧ b1 / 64 = 2) := by
  by_cases h : n = 1
  ·have := s1 h; constructor
   ·intro q; exact absurd q.2 this
   ·intro q; omega
  ·have := h1 (by omega); subst this; constructor
   ·intro q; exact ⟨by omega, q.2⟩
   ·intro q; exact ⟨by omega, q.2⟩
 have key2 : ((1 < n + m ∧ c1 / 64 = 2) ∧ (2 < n + m ∧ c2 / 64 = 2)) ↔ ((1 < n ∧ b1 / 64 = 2) ∧ (2 < n ∧ b2 / 64 = 2)) := by
  rw [key]
  constructor
  ·intro q
   by_cases h : n = 2
   ·exact absurd q.2.2 (s2 h)
   ·have := h2 (by omega); subst this; exact ⟨q.1, by omega, q.2.2⟩
  ·intro q
   have := h2 q.2.1; subst this; exact ⟨q.1, by omega, q.2.2⟩
 have key3 : ((1 < n + m ∧ c1 / 64 = 2) ∧ (2 < n + m ∧ c2 / 64 = 2) ∧ (3 < n + m ∧ c3 / 64 = 2)) ↔ ((1 < n ∧ b1 / 64 = 2) ∧ (2 < n ∧ b2 / 64 = 2) ∧ (3 < n ∧ b3 / 64 = 2)) := by
  constructor
  ·intro q
   have q2 := key2.1 ⟨q.1, q.2.1⟩
   by_cases h : n = 3
   ·exact absurd q.2.2.2 (s3 h)
   ·have := h3 (by omega); subst this; exact ⟨q2.1, q2.2, by omega, q.2.2.2⟩
  ·intro q
   have q2 := key2.2 ⟨q.1, q.2.1⟩
   have := h3 q.2.2.1; subst this; exact ⟨q2.1, q2.2, by omega, q.2.2.2⟩
 unfold decodeN
 by_cases p0 : b0 < 128
 ·rw [if_pos p0, if_pos p0]
  exact ⟨rfl, hn⟩
 rw [if_neg p0, if_neg p0]
 by_cases p2 : b0 / 32 = 6 ∧ (1 < n ∧ b1 / 64 = 2)
 ·obtain rfl := h1 p2.2.1
  rw [if_pos ⟨p2.1, key.2 p2.2⟩, if_pos p2]
  refine ⟨rfl, ?_⟩
  have := p2.2.1
  split
  ·show 2 ≤ n; omega
  ·exact hn
 rw [if_neg p2, if_neg (show ¬ (b0 / 32 = 6 ∧ (1 < n + m ∧ c1 / 64 = 2)) from fun h => p2 ⟨h.1, key.1 h.2⟩)]
 by_cases p3 : b0 / 16 = 14 ∧ (1 < n ∧ b1 / 64 = 2) ∧ (2 < n ∧ b2 / 64 = 2)
 ·obtain rfl := h1 p3.2.1.1
  obtain rfl := h2 p3.2.2.1
  rw [if_pos ⟨p3.1, key2.2 p3.2⟩, if_pos p3]
  refine ⟨rfl, ?_⟩
  have := p3.2.2.1
  split
  ·show 3 ≤ n; omega
  ·exact hn
 rw [if_neg p3, if_neg (show ¬ (b0 / 16 = 14 ∧ (1 < n + m ∧ c1 / 64 = 2) ∧ (2 < n + m ∧ c2 / 64 = 2)) from fun h => p3 ⟨h.1, key2.1 h.2⟩)]
 by_cases p4 : b0 / 8 = 30 ∧ (1 < n ∧ b1 / 64 = 2) ∧ (2 < n ∧ b2 / 64 = 2) ∧ (3 < n ∧ b3 / 64 = 2)
 ·obtain rfl := h1 p4.2.1.1
  obtain rfl := h2 p4.2.2.1.1
  obtain rfl := h3 p4.2.2.2.1
  rw [if_pos ⟨p4.1, key3.2 p4.2⟩, if_pos p4]
  refine ⟨rfl, ?_⟩
  have := p4.2.2.2.1
  split
  ·show 4 ≤ n; omega
  ·exact hn
 rw [if_neg p4, if_neg (show ¬ (b0 / 8 = 30 ∧ (1 < n + m ∧ c1 / 64 = 2) ∧ (2 < n + m ∧ c2 / 64 = 2) ∧ (3 < n + m ∧ c3 / 64 = 2)) from fun h => p4 ⟨h.1, key3.1 h.2⟩)]
 exact ⟨rfl, hn⟩
def Sep (r : List UInt8) : Prop := ∀ b t, r = b :: t → ¬ b.toNat / 64 = 2
theorem decL_sep (a r : List UInt8) (hne : a ≠ []) (hs : Sep r) : decodeL (a ++ r) = decodeL a ∧ (decodeL a).2 ≤ a.length := by
 have hn : 1 ≤ a.length := by cases a with | nil => exact absurd rfl hne | cons _ _ => simp
 have hg : ∀ i, i < a.length → (a ++ r).getD i 0 = a.getD i 0 := fun i hi => by
  rw [List.getD_eq_getElem?_getD, List.getD_eq_getElem?_getD, List.getElem?_append_left hi]
 have hx : ∀ i, a.length = i → ¬ ((a ++ r).getD i 0).toNat / 64 = 2 := fun i hi => by
  rw [List.getD_eq_getElem?_getD, List.getElem?_append_right (by omega), show i - a.length = 0 by omega]
  cases r with
  | nil => decide
  | cons b t => exact hs b t rfl
 rw [decodeL_N (a ++ r), decodeL_N a, List.length_append, hg 0 (by omega)]
 exact decN_sep a.length r.length _ _ _ _ _ _ _ (fun h => by rw [hg 1 h]) (fun h => by rw [hg 2 h]) (fun h => by rw [hg 3 h]) hn (hx 1) (hx 2) (hx 3)
theorem rcT_sepN : ∀ (n : Nat) (a r : List UInt8), a.length ≤ n → Sep r → rcT (a ++ r) = rcT a + rcT r
 | 0, a, r, h, _ => by
  have : a = [] := List.eq_nil_of_length_eq_zero (by omega)
  subst this
  rw [List.nil_append, rcT_nil]
  omega
 | n + 1, a, r, h, hs => by
  by_cases ha : a = []
  ·subst ha
   rw [List.nil_append, rcT_nil]
   omega
  ·obtain ⟨e1, e2⟩ := decL_sep a r ha hs
   have hp := decL_pos a
   have har : a ++ r ≠ [] := fun e => ha (List.append_eq_nil_iff.1 e).1
   have hdrop : (a ++ r).drop (decodeL a).2 = a.drop (decodeL a).2 ++ r := List.drop_append_of_le_length e2
   have i1 := rcT_sepN n (a.drop (decodeL a).2) r (by rw [List.length_drop]; omega) hs
   rw [rcT_step (a ++ r) har, e1, hdrop, i1, rcT_step a ha]
   omega
theorem rcT_sep (a r : List UInt8) (hs : Sep r) : rcT (a ++ r) = rcT a + rcT r := rcT_sepN a.length a r (Nat.le_refl _) hs
theorem sep_ascii (b : UInt8) (t : List UInt8) (h : b.toNat < 128) : Sep (b :: t) := fun c u e => by
 obtain ⟨rfl, _⟩ := List.cons.inj e
 omega
theorem rcT_cons (b : UInt8) (t : List UInt8) (h : b.toNat < 128) : rcT (b :: t) = 1 + rcT t := by
 obtain ⟨h1, h2⟩ := ascii_one b h
 rw [show b :: t = [b] ++ t from rfl, rcT_add _ _ h1, h2]
theorem rcT_spaces (n : Nat) (t : List UInt8) : rcT (List.replicate n 32 ++ t) = n + rcT t := by
 induction n with
 | zero => simp
 | succ n ih =>
  rw [List.replicate_succ, List.cons_append, rcT_cons _ _ (by decide), ih]
  omega
end Go.Proofs.YtoemghiejfkpbaaGreatDoor
