/- Mem, ListArg, PlainUtf -/
import Derived.ProofKit
import Derived.Lib.SmallJoins
import Derived.Deep.Slices
import Derived.Deep.Fields
import Derived.Lib.MapLaws
import Derived.Lib.RuneCount
import Derived.Lib.TrimUEq
import Derived.Lib.TrimAscii
import Derived.Lib.TrimU
import Derived.Test.YtoemghiejfkpbaaGreatDoorGFlow
/- Words for rows of one's own: a call that gives one, in a region that draws its order. -/
namespace Go.Proofs.YtoemghiejfkpbaaGreatDoor
open Go.RowKit
set_option linter.unusedVariables false
theorem ownApart {w : World} {base : Nat} {e : TypeId} {s : Nat} {v : Value} {n : Nat} {xs : List Value} {g : Nat} {ty : TypeId} {cs : Array Value} (h : w.ownsRow base e s v n xs) (hb : Box w g ty cs) (hne : e ≠ ty) (b : Nat) (hv : v.ownBlock = some b) : b ≠ g := by
 intro e'
 subst e'
 rcases h.2 with ⟨rfl, _⟩ | ⟨g', cap, cur, rfl, _, hg, _⟩
 ·simp [Value.ownBlock] at hv
 ·have : g' = b := by simpa [Value.ownBlock] using hv
  subst this
  unfold Box at hb
  rw [hg] at hb
  simp at hb
  exact hne hb.2
theorem newsOf {w : World} {b o : Nat} {cs : List Value} (h : ∀ j v, cs[j]? = some v → w.cell? ⟨b, o + j, none⟩ = some v) : ∀ j u, cs[j]? = some u → w.cell? ((⟨b, o, none⟩ : Addr).add j) = some u := fun j u hu => by
 have : (⟨b, o, none⟩ : Addr).add j = ⟨b, o + j, none⟩ := by unfold Addr.add; split <;> simp_all
 rw [this]; exact h j u hu
theorem newsRow {w : World} {B : Nat} {A : Addr} {cs : List Value} (h : Row w B (some A) cs) : ∀ j u, cs[j]? = some u → w.cell? (A.add j) = some u := by
 rcases h with rfl | ⟨b, o, e, _, hc⟩
 ·intro j u hu; simp at hu
 ·injection e with e; subst e; exact newsOf hc
def toldRows (e : TypeId) (s base n : Nat) (xs : List Value) : Told := ⟨fun v => ∃ A c, v = .slice A n c, fun v w => w.ownsRow base e s v n xs⟩
section
variable {P : Program} {ops : Array Oper} {w0 : World} {R : Nat → Option Told} {E : Act → World → Prop} {o : Oper} {rest : List Oper} {k : Nat} {a : Act} {L : List Fact}
end
end Go.Proofs.YtoemghiejfkpbaaGreatDoor
/- Slices of structs that came in, read as lists; for any struct. -/
namespace Go.Proofs.YtoemghiejfkpbaaGreatDoor
open Go.RowKit Go.Joins Go.ChangeShapes Go.WideShapes Go.Deep
set_option linter.unusedVariables false
theorem listOf {α : Type} (d : α) (P : Nat → α → Prop) : ∀ n, (∀ i, i < n → ∃ x, P i x) → ∃ l : List α, l.length = n ∧ ∀ i, i < n → P i (l.getD i d) := by
 intro n
 induction n with
 | zero => intro _; exact ⟨[], rfl, fun i hi => by omega⟩
 | succ n ih =>
  intro h
  obtain ⟨l, hl, hp⟩ := ih (fun i hi => h i (by omega))
  obtain ⟨x, hx⟩ := h n (by omega)
  refine ⟨l ++ [x], by simp [hl], fun i hi => ?_⟩
  by_cases hin : i < n
  ·have e : (l ++ [x]).getD i d = l.getD i d := by simp [List.getD, List.getElem?_append_left (show i < l.length by omega)]
   rw [e]; exact hp i hin
  ·obtain rfl : i = n := by omega
   have e : (l ++ [x]).getD i d = x := by rw [← hl]; simp [List.getD]
   rw [e]; exact hx
theorem addPlain (b o j : Nat) : (⟨b, o, none⟩ : Addr).add j = ⟨b, o + j, none⟩ := by unfold Addr.add; split <;> simp_all
theorem flat_length {α : Type} {f : α → List Value} {s : Nat} (hf : ∀ a, (f a).length = s) (l : List α) : (l.flatMap f).length = l.length * s := by
 induction l with
 | nil => simp
 | cons x r ih => rw [List.flatMap_cons, List.length_append, ih, hf, List.length_cons, Nat.add_mul]; omega
theorem flat_get {α : Type} {f : α → List Value} {s : Nat} (hf : ∀ a, (f a).length = s) (d : α) (l : List α) (i j : Nat) (h : i < l.length) (hj : j < s) : (l.flatMap f)[i * s + j]? = (f (l.getD i d))[j]? := by
 induction l generalizing i with
 | nil => simp at h
 | cons x r ih =>
  cases i with
  | zero => rw [List.flatMap_cons, Nat.zero_mul, Nat.zero_add, List.getElem?_append_left (by rw [hf]; exact hj)]; simp
  | succ i =>
   rw [List.flatMap_cons, List.getElem?_append_right (by rw [hf, Nat.add_mul]; omega), hf, show (i + 1) * s + j - s = i * s + j from by rw [Nat.add_mul]; omega, ih i (by simpa using h)]
   simp
theorem flat_cell {α : Type} {f : α → List Value} {s : Nat} (hf : ∀ a, (f a).length = s) (d : α) {w : World} {b o : Nat} {l : List α} (h : ∀ j v, (l.flatMap f)[j]? = some v → w.cell? ⟨b, o + j, none⟩ = some v) (i j : Nat) (hi : i < l.length) (hj : j < s) (v : Value) (hv : (f (l.getD i d))[j]? = some v) :
  w.cell? ⟨b, o + i * s + j, none⟩ = some v := by
 rw [Nat.add_assoc]; exact h _ _ ((flat_get hf d l i j hi hj).trans hv)
theorem flat_ne {α : Type} {f : α → List Value} {s : Nat} (hf : ∀ a, (f a).length = s) (hs : 0 < s) (l : List α) (h : 0 < l.length) : l.flatMap f ≠ [] := by
 intro e
 have := flat_length hf l
 rw [e] at this
 have := Nat.mul_pos h hs
 simp at *
 omega
theorem getD_mem {α : Type} (d : α) (l : List α) (i : Nat) (h : i < l.length) : l.getD i d ∈ l := by
 simp [List.getD, List.getElem?_eq_getElem h]
section
variable {H : Type} {enc : TypeId × Value → H} {W : World}
end
end Go.Proofs.YtoemghiejfkpbaaGreatDoor
/- Runes in UTF-8: what is encoded is decoded; Map over ASCII; the count of runes. -/
namespace Go.Proofs.YtoemghiejfkpbaaGreatDoor
open Go.Lib
set_option linter.unusedVariables false
def Bmp (r : Nat) : Prop := r < 55296 ∨ (57343 < r ∧ r ≤ 65535)
theorem byte_nat (x : Nat) (h : x < 256) : (x.toUInt8).toNat = x := by
 rw [Nat.toUInt8, UInt8.toNat_ofNat']
 omega
theorem enc_one (r : Nat) (h : r < 128) : encodeRune (r : Int) = [r.toUInt8] := by
 unfold encodeRune
 rw [encodeRuneZ_one (by omega) (by omega)]
 rfl
theorem enc_two (r : Nat) (h1 : 128 ≤ r) (h2 : r ≤ 2047) : encodeRune (r : Int) = [(192 + r / 64).toUInt8, (128 + r % 64).toUInt8] := by
 unfold encodeRune
 rw [encodeRuneZ_two (by omega) (by omega)]
 simp only [List.map_cons, List.map_nil]
 rw [show (192 + (r : Int) / 64).toNat = 192 + r / 64 from by omega, show (128 + (r : Int) % 64).toNat = 128 + r % 64 from by omega]
theorem enc_three (r : Nat) (h : (2048 ≤ r ∧ r < 55296) ∨ (57343 < r ∧ r ≤ 65535)) : encodeRune (r : Int) = [(224 + r / 4096).toUInt8, (128 + r / 64 % 64).toUInt8, (128 + r % 64).toUInt8] := by
 unfold encodeRune
 rw [encodeRuneZ_three (by omega)]
 simp only [List.map_cons, List.map_nil]
 rw [show (224 + (r : Int) / 4096).toNat = 224 + r / 4096 from by omega, show (128 + (r : Int) / 64 % 64).toNat = 128 + r / 64 % 64 from by omega, show (128 + (r : Int) % 64).toNat = 128 + r % 64 from by omega]
theorem decodeL_enc (r : Nat) (h : Bmp r) (t : List UInt8) : decodeL (encodeRune (r : Int) ++ t) = (r, (encodeRune (r : Int)).length) := by
 unfold Bmp at h
 by_cases h1 : r < 128
 ·rw [enc_one r h1]
  rw [List.cons_append, decodeL_ascii _ _ (by rw [byte_nat r (by omega)]; exact h1), byte_nat r (by omega)]
  rfl
 by_cases h2 : r ≤ 2047
 ·rw [enc_two r (by omega) h2, decodeL_N]
  simp only [List.cons_append, List.nil_append, List.length_cons, List.getD_cons_zero, List.getD_cons_succ, List.length_nil]
  rw [byte_nat _ (by omega), byte_nat _ (by omega)]
  unfold decodeN
  rw [if_neg (by omega), if_pos ⟨by omega, by omega, by omega⟩, if_pos (by omega)]
  rw [show (192 + r / 64) % 32 * 64 + (128 + r % 64) % 64 = r from by omega]
 ·rw [enc_three r (by omega), decodeL_N]
  simp only [List.cons_append, List.nil_append, List.length_cons, List.getD_cons_zero, List.getD_cons_succ, List.length_nil]
  rw [byte_nat _ (by omega), byte_nat _ (by omega), byte_nat _ (by omega)]
  unfold decodeN
  have e : (224 + r / 4096) % 16 * 4096 + (128 + r / 64 % 64) % 64 * 64 + (128 + r % 64) % 64 = r := by omega
  rw [if_neg (by omega), if_neg (by omega), if_pos ⟨by omega, ⟨by omega, by omega⟩, by omega, by omega⟩, e, if_pos (by omega)]
theorem enc_len (r : Nat) (h : Bmp r) : 1 ≤ (encodeRune (r : Int)).length ∧ (encodeRune (r : Int)).length ≤ 3 := by
 unfold Bmp at h
 by_cases h1 : r < 128
 ·rw [enc_one r h1]; simp
 by_cases h2 : r ≤ 2047
 ·rw [enc_two r (by omega) h2]; simp
 ·rw [enc_three r (by omega)]; simp
theorem enc_ne (r : Nat) (h : Bmp r) (t : List UInt8) : encodeRune (r : Int) ++ t ≠ [] := fun e => by
 have h1 := congrArg List.length e
 have h2 := (enc_len r h).1
 rw [List.length_append, List.length_nil] at h1
 omega
theorem mapD_ascii (f : Int → Int) : ∀ (l : List UInt8), (∀ b ∈ l, b.toNat < 128 ∧ 0 ≤ f (b.toNat : Int)) → mapD f l = l.flatMap (fun b => encodeRune (f (b.toNat : Int)))
 | [], _ => rfl
 | b :: l, h => by
  have hb := h b (List.mem_cons_self ..)
  rw [mapD_step f (b :: l) (by simp), decodeL_ascii b l hb.1]
  simp only [List.flatMap_cons, List.drop_succ_cons, List.drop_zero]
  rw [if_pos hb.2, mapD_ascii f l fun x hx => h x (List.mem_cons_of_mem _ hx)]
def rcL : Nat → List UInt8 → Nat
 | 0, _ => 0
 | f + 1, l => if l = [] then 0 else 1 + rcL f (l.drop (decodeL l).2)
theorem rc_from (s : ByteArray) : ∀ (f pos : Nat), runeCountFrom s f pos = rcL f (s.data.toList.drop pos)
 | 0, _ => rfl
 | f + 1, pos => by
  have hsz : s.size = s.data.toList.length := (Array.length_toList).symm
  unfold runeCountFrom rcL
  by_cases h : pos < s.size
  ·have hne : s.data.toList.drop pos ≠ [] := fun e => by
    have := congrArg List.length e
    rw [List.length_drop] at this
    simp only [List.length_nil] at this
    omega
   rw [if_pos h, if_neg hne, rc_from s f, decodeL_drop s pos, List.drop_drop]
  ·have he : s.data.toList.drop pos = [] := List.drop_eq_nil_of_le (by omega)
   rw [if_neg h, if_pos he]
theorem rc_str (l : List UInt8) : runeCount ⟨l.toArray⟩ = rcL l.length l := by
 unfold runeCount
 rw [rc_from]
 simp [ByteArray.size]
def encs (rs : List Nat) : List UInt8 := rs.flatMap (fun (r : Nat) => encodeRune (r : Int))
theorem encs_len : ∀ (rs : List Nat), (∀ r ∈ rs, Bmp r) → rs.length ≤ (encs rs).length ∧ (encs rs).length ≤ 3 * rs.length
 | [], _ => by simp [encs]
 | r :: rs, hb => by
  have hr := enc_len r (hb r (List.mem_cons_self ..))
  have ih := encs_len rs fun x hx => hb x (List.mem_cons_of_mem _ hx)
  have e : encs (r :: rs) = encodeRune (r : Int) ++ encs rs := by simp [encs]
  rw [e]
  simp
  omega
end Go.Proofs.YtoemghiejfkpbaaGreatDoor
