/- PlainUtf -/
import Derived.Lib.MapLaws
import Derived.Lib.RuneCount
import Derived.Lib.TrimUEq
import Derived.Lib.TrimAscii
import Derived.Lib.TrimU
/- Runes in UTF-8: what is encoded is decoded; Map over ASCII; the count of runes. -/
namespace Go.Proofs.YtonepibojojcaaaDoor
open Go.Lib
set_option linter.unusedVariables false

/-- code points of at most three bytes that are no surrogates -/
def Bmp (r : Nat) : Prop := r < 55296 ∨ (57343 < r ∧ r ≤ 65535)
theorem byte_nat (x : Nat) (h : x < 256) : (x.toUInt8).toNat = x := by
  rw [Nat.toUInt8, UInt8.toNat_ofNat']
  omega
theorem enc_one (r : Nat) (h : r < 128) : encodeRune (r : Int) = [r.toUInt8] := by
  unfold encodeRune
  rw [encodeRuneZ_one (by omega) (by omega)]
  rfl
theorem enc_two (r : Nat) (h1 : 128 ≤ r) (h2 : r ≤ 2047) : encodeRune (r : Int) = [(192 + r / 64).toUInt8, (128 + r % 64).toUInt8] := by
  unfold encodeRune
  rw [encodeRuneZ_two (by omega) (by omega)]
  simp only [List.map_cons, List.map_nil]
  rw [show (192 + (r : Int) / 64).toNat = 192 + r / 64 from by omega, show (128 + (r : Int) % 64).toNat = 128 + r % 64 from by omega]
theorem enc_three (r : Nat) (h : (2048 ≤ r ∧ r < 55296) ∨ (57343 < r ∧ r ≤ 65535)) : encodeRune (r : Int) = [(224 + r / 4096).toUInt8, (128 + r / 64 % 64).toUInt8, (128 + r % 64).toUInt8] := by
  unfold encodeRune
  rw [encodeRuneZ_three (by omega)]
  simp only [List.map_cons, List.map_nil]
  rw [show (224 + (r : Int) / 4096).toNat = 224 + r / 4096 from by omega, show (128 + (r : Int) / 64 % 64).toNat = 128 + r / 64 % 64 from by omega, show (128 + (r : Int) % 64).toNat = 128 + r % 64 from by omega]
theorem decodeL_enc (r : Nat) (h : Bmp r) (t : List UInt8) : decodeL (encodeRune (r : Int) ++ t) = (r, (encodeRune (r : Int)).length) := by
  unfold Bmp at h
  by_cases h1 : r < 128
  · rw [enc_one r h1]
    rw [List.cons_append, decodeL_ascii _ _ (by rw [byte_nat r (by omega)]; exact h1), byte_nat r (by omega)]
    rfl
  by_cases h2 : r ≤ 2047
  · rw [enc_two r (by omega) h2, decodeL_N]
    simp only [List.cons_append, List.nil_append, List.length_cons, List.getD_cons_zero, List.getD_cons_succ, List.length_nil]
    rw [byte_nat _ (by omega), byte_nat _ (by omega)]
    unfold decodeN
    rw [if_neg (by omega), if_pos ⟨by omega, by omega, by omega⟩, if_pos (by omega)]
    rw [show (192 + r / 64) % 32 * 64 + (128 + r % 64) % 64 = r from by omega]
  · rw [enc_three r (by omega), decodeL_N]
    simp only [List.cons_append, List.nil_append, List.length_cons, List.getD_cons_zero, List.getD_cons_succ, List.length_nil]
    rw [byte_nat _ (by omega), byte_nat _ (by omega), byte_nat _ (by omega)]
    unfold decodeN
    have e : (224 + r / 4096) % 16 * 4096 + (128 + r / 64 % 64) % 64 * 64 + (128 + r % 64) % 64 = r := by omega
    rw [if_neg (by omega), if_neg (by omega), if_pos ⟨by omega, ⟨by omega, by omega⟩, by omega, by omega⟩, e, if_pos (by omega)]
theorem enc_len (r : Nat) (h : Bmp r) : 1 ≤ (encodeRune (r : Int)).length ∧ (encodeRune (r : Int)).length ≤ 3 := by
  unfold Bmp at h
  by_cases h1 : r < 128
  · rw [enc_one r h1]; simp
  by_cases h2 : r ≤ 2047
  · rw [enc_two r (by omega) h2]; simp
  · rw [enc_three r (by omega)]; simp
theorem enc_ne (r : Nat) (h : Bmp r) (t : List UInt8) : encodeRune (r : Int) ++ t ≠ [] := fun e => by
  have h1 := congrArg List.length e
  have h2 := (enc_len r h).1
  rw [List.length_append, List.length_nil] at h1
  omega

/-- Map over ASCII -/
theorem mapD_ascii (f : Int → Int) : ∀ (l : List UInt8), (∀ b ∈ l, b.toNat < 128 ∧ 0 ≤ f (b.toNat : Int)) → mapD f l = l.flatMap (fun b => encodeRune (f (b.toNat : Int)))
  | [], _ => rfl
  | b :: l, h => by
    have hb := h b (List.mem_cons_self ..)
    rw [mapD_step f (b :: l) (by simp), decodeL_ascii b l hb.1]
    simp only [List.flatMap_cons, List.drop_succ_cons, List.drop_zero]
    rw [if_pos hb.2, mapD_ascii f l fun x hx => h x (List.mem_cons_of_mem _ hx)]

/-- the count of runes, over lists -/
def rcL : Nat → List UInt8 → Nat
  | 0, _ => 0
  | f + 1, l => if l = [] then 0 else 1 + rcL f (l.drop (decodeL l).2)
theorem rc_from (s : ByteArray) : ∀ (f pos : Nat), runeCountFrom s f pos = rcL f (s.data.toList.drop pos)
  | 0, _ => rfl
  | f + 1, pos => by
    have hsz : s.size = s.data.toList.length := (Array.length_toList).symm
    unfold runeCountFrom rcL
    by_cases h : pos < s.size
    · have hne : s.data.toList.drop pos ≠ [] := fun e => by
        have := congrArg List.length e
        rw [List.length_drop] at this
        simp only [List.length_nil] at this
        omega
      rw [if_pos h, if_neg hne, rc_from s f, decodeL_drop s pos, List.drop_drop]
    · have he : s.data.toList.drop pos = [] := List.drop_eq_nil_of_le (by omega)
      rw [if_neg h, if_pos he]
theorem rc_str (l : List UInt8) : runeCount ⟨l.toArray⟩ = rcL l.length l := by
  unfold runeCount
  rw [rc_from]
  simp [ByteArray.size]
/-- a row of code points in UTF-8 -/
def encs (rs : List Nat) : List UInt8 := rs.flatMap (fun (r : Nat) => encodeRune (r : Int))
theorem rc_encs : ∀ (rs : List Nat) (f : Nat), (∀ r ∈ rs, Bmp r) → rs.length ≤ f → rcL f (encs rs) = rs.length
  | [], 0, _, _ => rfl
  | [], f + 1, _, _ => by simp [rcL, encs]
  | r :: rs, 0, _, h => by simp at h
  | r :: rs, f + 1, hb, h => by
    have hr := hb r (List.mem_cons_self ..)
    have e : encs (r :: rs) = encodeRune (r : Int) ++ encs rs := by simp [encs]
    unfold rcL
    rw [e, if_neg (enc_ne r hr _), decodeL_enc r hr]
    simp only [List.drop_left]
    rw [rc_encs rs f (fun x hx => hb x (List.mem_cons_of_mem _ hx)) (by simpa using h)]
    simp
    omega
theorem encs_len : ∀ (rs : List Nat), (∀ r ∈ rs, Bmp r) → rs.length ≤ (encs rs).length ∧ (encs rs).length ≤ 3 * rs.length
  | [], _ => by simp [encs]
  | r :: rs, hb => by
    have hr := enc_len r (hb r (List.mem_cons_self ..))
    have ih := encs_len rs fun x hx => hb x (List.mem_cons_of_mem _ hx)
    have e : encs (r :: rs) = encodeRune (r : Int) ++ encs rs := by simp [encs]
    rw [e]
    simp
    omega
theorem runeCount_encs (rs : List Nat) (hb : ∀ r ∈ rs, Bmp r) : runeCount ⟨(encs rs).toArray⟩ = rs.length := by
  rw [rc_str]
  exact rc_encs rs _ hb (encs_len rs hb).1
end Go.Proofs.YtonepibojojcaaaDoor
