/- PlainItoa -/
import Derived.Lib.ItoaLen
import Derived.Lib.AtoiTie
import Derived.Lib.IndexMore
/- Numerals: what is written is read. -/
namespace Go.Proofs.YtoemghiejfkpbaaGreatDoor
open Go.Lib
set_option linter.unusedVariables false
theorem decFrom_append : ∀ (l r : List UInt8) (acc : Nat), decFrom acc (l ++ r) = (decFrom acc l).bind (fun m => decFrom m r)
 | [], r, acc => rfl
 | b :: l, r, acc => by
  simp only [List.cons_append, decFrom]
  cases digitVal b with
  | none => rfl
  | some d => exact decFrom_append l r _
theorem digit_byte (d : Nat) (h : d < 10) : (UInt8.ofNat (48 + d)).toNat = 48 + d := by
 rw [UInt8.toNat_ofNat']
 omega
theorem digitVal_byte (d : Nat) (h : d < 10) : digitVal (UInt8.ofNat (48 + d)) = some d := by
 unfold digitVal
 rw [digit_byte d h, if_pos (by omega)]
 simp
theorem decFrom_dec : ∀ (u : Nat), decFrom 0 (decDigits u) = some u := by
 intro u
 induction u using Nat.strongRecOn with
 | _ u ih =>
  by_cases h : u < 10
  ·rw [decDigits, dif_pos h]
   simp only [decFrom, digitVal_byte u h]
   simp
  ·rw [decDigits, dif_neg h, decFrom_append, ih (u / 10) (by omega)]
   simp only [Option.bind_some, decFrom, digitVal_byte (u % 10) (by omega)]
   congr 1
   omega
theorem dec_ne (u : Nat) : decDigits u ≠ [] := fun e => by
 have := decDigits_length u
 rw [e] at this
 have := nDigits_pos u
 simp at *
 omega
theorem dec_digit (u : Nat) : ∀ b ∈ decDigits u, 48 ≤ b.toNat ∧ b.toNat ≤ 57 := by
 induction u using Nat.strongRecOn with
 | _ u ih =>
  intro b hb
  rw [decDigits] at hb
  split at hb
  ·rename_i h
   obtain rfl := List.mem_singleton.1 hb
   rw [digit_byte u h]; omega
  ·rename_i h
   rcases List.mem_append.1 hb with hb | hb
   ·exact ih (u / 10) (by omega) b hb
   ·obtain rfl := List.mem_singleton.1 hb
    rw [digit_byte _ (by omega)]; omega
theorem itoa_byte (n : Int) : ∀ b ∈ itoa n, b.toNat = 45 ∨ (48 ≤ b.toNat ∧ b.toNat ≤ 57) := by
 intro b hb
 unfold itoa at hb
 split at hb
 ·rcases List.mem_cons.1 hb with rfl | hb
  ·exact .inl rfl
  ·exact .inr (dec_digit _ b hb)
 ·exact .inr (dec_digit _ b hb)
theorem itoa_ne (n : Int) : itoa n ≠ [] := by
 unfold itoa
 split
 ·simp
 ·exact dec_ne _
theorem atoi_itoa (n : Int) : atoi (itoa n) = some n := by
 unfold itoa
 split
 ·rename_i h
  unfold atoi
  simp only [beq_self_eq_true, if_true]
  rw [decNat, if_neg (by simpa using dec_ne _), decFrom_dec]
  simp
  omega
 ·rename_i h
  have h1 := dec_ne n.toNat
  have h2 := dec_digit n.toNat
  have h3 := decFrom_dec n.toNat
  generalize decDigits n.toNat = l at *
  cases l with
  | nil => exact absurd rfl h1
  | cons b r =>
   have hb := h2 b (List.mem_cons_self ..)
   unfold atoi
   have e1 : (b == 45) = false := by
    rw [beq_eq_false_iff_ne]; rintro rfl; simp at hb
   have e2 : (b == 43) = false := by
    rw [beq_eq_false_iff_ne]; rintro rfl; simp at hb
   simp only [e1, e2, Bool.false_eq_true, if_false]
   rw [decNat, if_neg (by simp), h3]
   simp
   omega
theorem itoa_len (n : Int) (k : Nat) (h : n.natAbs < 10 ^ k) (hk : 1 ≤ k) : (itoa n).length ≤ k + 1 := by
 have hd : ∀ u : Nat, u < 10 ^ k → (decDigits u).length ≤ k := fun u hu => by
  rw [decDigits_length]
  rcases Nat.lt_or_ge k (nDigits u) with hlt | hge
  ·exfalso
   have key : ∀ (u m : Nat), m < nDigits u → 1 ≤ m → 10 ^ m ≤ u := by
    intro u
    induction u using Nat.strongRecOn with
    | _ u ih =>
     intro m hm h1
     by_cases h : u < 10
     ·rw [nDigits_small h] at hm; omega
     ·rw [nDigits_big h] at hm
      obtain ⟨m', rfl⟩ : ∃ m', m = m' + 1 := ⟨m - 1, by omega⟩
      rw [Nat.pow_succ]
      by_cases h0 : m' = 0
      ·subst h0; omega
      ·have := ih (u / 10) (by omega) m' (by omega) (by omega)
       omega
   have := key u k hlt hk
   omega
  ·exact hge
 unfold itoa
 split
 ·have := hd n.natAbs h
  simp; omega
 ·have := hd n.toNat (by omega)
  omega
theorem index_no (c : UInt8) : ∀ (l : List UInt8), (∀ b ∈ l, b ≠ c) → index l [c] = -1
 | [], _ => rfl
 | b :: l, h => by
  have hb : (c == b) = false := by rw [beq_eq_false_iff_ne]; exact fun e => h b (List.mem_cons_self ..) e.symm
  have ih := index_no c l fun x hx => h x (List.mem_cons_of_mem _ hx)
  simp [index, List.isPrefixOf, hb, ih]
theorem index_at (c : UInt8) (r : List UInt8) : ∀ (l : List UInt8), (∀ b ∈ l, b ≠ c) → index (l ++ c :: r) [c] = (l.length : Int)
 | [], _ => by simp [index, List.isPrefixOf]
 | b :: l, h => by
  have hb : (c == b) = false := by rw [beq_eq_false_iff_ne]; exact fun e => h b (List.mem_cons_self ..) e.symm
  have ih := index_at c r l fun x hx => h x (List.mem_cons_of_mem _ hx)
  have hne : ¬ ((l.length : Int) = -1) := by omega
  simp [index, List.isPrefixOf, hb, ih, hne]
theorem cut_no (c : UInt8) (l : List UInt8) (h : ∀ b ∈ l, b ≠ c) : cut l [c] = (l, [], false) := by
 unfold cut
 rw [index_no c l h, if_neg (by omega)]
theorem cut_at (c : UInt8) (l r : List UInt8) (h : ∀ b ∈ l, b ≠ c) : cut (l ++ c :: r) [c] = (l, r, true) := by
 unfold cut
 rw [index_at c r l h, if_pos (by omega)]
 simp
theorem itoa_no (n : Int) (c : UInt8) (h : c.toNat < 45 ∨ c.toNat = 46 ∨ c.toNat = 47 ∨ 57 < c.toNat) : ∀ b ∈ itoa n, b ≠ c := fun b hb e => by
 have := itoa_byte n b hb
 subst e
 omega
end Go.Proofs.YtoemghiejfkpbaaGreatDoor
