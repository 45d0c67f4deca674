/- Num0, PlainSplit, PlainInt, NumShp, Num1 -/
import Derived.Lib.Split
import Derived.Lib.SplitLaws
import Derived.Lib.CountLaws
import Derived.Lib.AtoiErrMem
import Derived.Test.YtifhlmakacoicaaDoorGShelf1
import Derived.Test.YtifhlmakacoicaaDoorGPlainItoa
import Derived.Test.YtifhlmakacoicaaDoorGLaid
import Derived.Test.YtifhlmakacoicaaDoorGBase
/- Numerals at this dump: strconv.Itoa alone (a part of Num1, for seats without strconv.Atoi, strings.Cut). -/
namespace Go.Proofs.YtifhlmakacoicaaDoor
open Go.RowKit Go.Sort
set_option linter.unusedVariables false

def str (l : List UInt8) : ByteArray := ⟨l.toArray⟩
theorem str_data (l : List UInt8) : (str l).data.toList = l := by simp [str]
theorem str_toList (l : List UInt8) : (str l).toList = l := by rw [Lib.toList_data, str_data]
theorem str_size (l : List UInt8) : (str l).size = l.length := by simp [str, ByteArray.size]
theorem str_append (a b : List UInt8) : str a ++ str b = str (a ++ b) := by
  apply ByteArray.ext
  rw [ByteArray.data_append]
  simp [str]
theorem itoa_size (n : Int) (h0 : -9223372036854775808 ≤ n) (h1 : n ≤ 9223372036854775807) : (str (Lib.itoa n)).size ≤ 21 := by rw [str_size]; exact Lib.itoa_length_le n h0 h1
theorem itoa_any (n : Int) (w : World) (h0 : -9223372036854775808 ≤ n) (h1 : n ≤ 9223372036854775807) (hp : Pow w) :
    Calls Tryd.prog 47 #[.int .i64 n] w fun e w' => e = .returned (.string (str (Lib.itoa n))) ∧ Below w.heap.size w w' :=
  (strconv_Itoa n h0 h1 w hp.here).mono fun e w' ⟨he, k, os, hw⟩ => ⟨he, by rw [hw]; exact Lib.below_grow _ w (Nat.le_refl _) k os⟩
end Go.Proofs.YtifhlmakacoicaaDoor

/- Texts of words with one byte between them: split. -/
namespace Go.Proofs.YtifhlmakacoicaaDoor
open Go.Lib
set_option linter.unusedVariables false

/-- words with the byte c between them -/
def joinW (c : UInt8) : List UInt8 → List (List UInt8) → List UInt8
  | a, [] => a
  | a, b :: l => a ++ c :: joinW c b l
theorem ext_str (l : List UInt8) (i j : Nat) : (str l).extract i j = str ((l.take j).drop i) := by
  apply ByteArray.ext
  rw [ByteArray.data_extract]
  apply Array.toList_inj.1
  simp only [str, List.take_drop, Array.toList_extract]
  by_cases h : i ≤ j
  · rw [show i + (j - i) = j from by omega]
  · rw [List.drop_eq_nil_of_le (by rw [List.length_take]; omega), List.drop_eq_nil_of_le (by rw [List.length_take]; omega)]
theorem count_join (c : UInt8) : ∀ (l : List (List UInt8)) (a : List UInt8), (∀ w ∈ a :: l, ∀ b ∈ w, b ≠ c) → countB (str (joinW c a l)) ⟨#[c]⟩ = l.length
  | [], a, h => countB_miss _ _ (by
      have := index_no c a (h a (List.mem_cons_self ..))
      show index (str a).data.toList [c] = -1
      rw [str_data]; exact this)
  | b :: l, a, h => by
    have ha := h a (List.mem_cons_self ..)
    have ih := count_join c l b fun w hw => h w (List.mem_cons_of_mem _ hw)
    have e : joinW c a (b :: l) = a ++ c :: joinW c b l := rfl
    rw [e, countB_hit _ _ a.length (by show 1 ≤ 1; omega) (by
      show index (str (a ++ c :: joinW c b l)).data.toList [c] = _
      rw [str_data]; exact index_at c _ a ha)]
    rw [show (⟨#[c]⟩ : ByteArray).size = 1 from rfl, str_size, ext_str, List.take_length, show (a ++ c :: joinW c b l).drop (a.length + 1) = joinW c b l from by simp, ih]
    simp; omega
theorem split_join (c : UInt8) : ∀ (l : List (List UInt8)) (a : List UInt8), (∀ w ∈ a :: l, ∀ b ∈ w, b ≠ c) → splitB ⟨#[c]⟩ 0 l.length (str (joinW c a l)) = (a :: l).map str
  | [], a, h => rfl
  | b :: l, a, h => by
    have ha := h a (List.mem_cons_self ..)
    have ih := split_join c l b fun w hw => h w (List.mem_cons_of_mem _ hw)
    have e : joinW c a (b :: l) = a ++ c :: joinW c b l := rfl
    rw [List.length_cons, e, splitB_hit _ _ _ _ a.length (by
      show index (str (a ++ c :: joinW c b l)).data.toList [c] = _
      rw [str_data]; exact index_at c _ a ha)]
    rw [show (⟨#[c]⟩ : ByteArray).size = 1 from rfl, str_size, ext_str, ext_str, List.take_length, show (a ++ c :: joinW c b l).drop (a.length + 1) = joinW c b l from by simp, ih]
    simp
end Go.Proofs.YtifhlmakacoicaaDoor

/- Plain arithmetic, no program in sight. -/
namespace Go.Proofs.YtifhlmakacoicaaDoor
set_option linter.unusedVariables false
theorem fdiv_unique (a b q r : Int) (e : a = b * q + r) (h : (0 < b ∧ 0 ≤ r ∧ r < b) ∨ (b < 0 ∧ r ≤ 0 ∧ b < r)) : a.fdiv b = q ∧ a.fmod b = r := by
  have hq : a.fdiv b = q := by
    rcases h with ⟨hb, h1, h2⟩ | ⟨hb, h1, h2⟩
    · rw [Int.fdiv_eq_ediv_of_nonneg _ (by omega)]
      have := (Int.ediv_emod_unique (a := a) (r := r) (q := q) hb).2 ⟨by omega, h1, h2⟩
      exact this.1
    · rw [← Int.neg_fdiv_neg, Int.fdiv_eq_ediv_of_nonneg _ (by omega)]
      have := (Int.ediv_emod_unique (a := -a) (b := -b) (r := -r) (q := q) (by omega)).2 ⟨by rw [Int.neg_mul]; omega, by omega, by omega⟩
      exact this.1
  refine ⟨hq, ?_⟩
  have := Int.mul_fdiv_add_fmod a b
  rw [hq] at this
  omega
theorem tmod_facts (a b : Int) (hb : b ≠ 0) : a = b * a.tdiv b + a.tmod b ∧ (0 < a.tmod b → 0 < a) ∧ (a.tmod b < 0 → a < 0) ∧ (a.tmod b).natAbs < b.natAbs := by
  refine ⟨(Int.mul_tdiv_add_tmod a b).symm, ?_, ?_, ?_⟩
  · intro h
    by_cases ha : 0 < a
    · exact ha
    · have := Int.tmod_nonneg (a := -a) b (by omega)
      rw [Int.neg_tmod] at this; omega
  · intro h
    by_cases ha : a < 0
    · exact ha
    · have := Int.tmod_nonneg (a := a) b (by omega)
      omega
  · rw [Int.natAbs_tmod]
    exact Nat.mod_lt _ (by omega)
theorem div_same (a b : Int) (hb : b ≠ 0) (h : a.tmod b = 0 ∨ (a.tmod b < 0 ↔ b < 0)) : a.tdiv b = a.fdiv b ∧ a.tmod b = a.fmod b := by
  obtain ⟨h1, _, _, h4⟩ := tmod_facts a b hb
  have := fdiv_unique a b _ _ h1 (by omega)
  exact ⟨this.1.symm, this.2.symm⟩
theorem div_less (a b : Int) (hb : b ≠ 0) (h0 : a.tmod b ≠ 0) (h : ¬ (a.tmod b < 0 ↔ b < 0)) : a.tdiv b - 1 = a.fdiv b ∧ a.tmod b + b = a.fmod b := by
  obtain ⟨h1, _, _, h4⟩ := tmod_facts a b hb
  have := fdiv_unique a b (a.tdiv b - 1) (a.tmod b + b) (by rw [Int.mul_sub]; omega) (by omega)
  exact ⟨this.1.symm, this.2.symm⟩
theorem fdiv_pos (a b : Int) (hb : 0 < b) : a.fdiv b = a / b := Int.fdiv_eq_ediv_of_nonneg _ (by omega)
theorem fmod_pos (a b : Int) (hb : 0 < b) : a.fmod b = a % b := Int.fmod_eq_emod_of_nonneg _ (by omega)
theorem fmod_facts (a b : Int) (hb : b ≠ 0) : a.fdiv b * b + a.fmod b = a ∧ ((0 < b ∧ 0 ≤ a.fmod b ∧ a.fmod b < b) ∨ (b < 0 ∧ a.fmod b ≤ 0 ∧ b < a.fmod b)) ∧ (a.fdiv b).natAbs ≤ a.natAbs + 1 := by
  obtain ⟨h1, h2, h3, h4⟩ := tmod_facts a b hb
  have hm := Int.mul_fdiv_add_fmod a b
  have ht := Int.natAbs_tdiv_le_natAbs a b
  rw [Int.mul_comm] at hm
  refine ⟨hm, ?_⟩
  by_cases hz : a.tmod b = 0
  · obtain ⟨e1, e2⟩ := div_same a b hb (.inl hz)
    rw [← e1, ← e2]; clear h1 hm; omega
  · by_cases hs : (a.tmod b < 0 ↔ b < 0)
    · obtain ⟨e1, e2⟩ := div_same a b hb (.inr hs)
      rw [← e1, ← e2]; clear h1 hm; omega
    · obtain ⟨e1, e2⟩ := div_less a b hb hz hs
      rw [← e1, ← e2]; clear h1 hm; omega
theorem tmod_zero0 (y n : Int) : (y.tmod n = 0) ↔ (y % n = 0) := by
  rw [← Int.dvd_iff_tmod_eq_zero, Int.dvd_iff_emod_eq_zero]
end Go.Proofs.YtifhlmakacoicaaDoor

/- The library's variable that strings.Index reads. -/
namespace Go.Proofs.YtifhlmakacoicaaDoor
open Go.RowKit
set_option linter.unusedVariables false

/-- the library's variable that strings.Index reads -/
def Shp (w : World) : Prop := ∃ m, w.cell? ⟨3, 0, none⟩ = some (.int .i64 m)
theorem Shp.next {w w' : World} (h : Shp w) (hb : Below w.heap.size w w') : Shp w' := by
  obtain ⟨m, hm⟩ := h
  exact ⟨m, (hb.cell (p := ⟨3, 0, none⟩) (block_lt_of_cell hm)).trans hm⟩
end Go.Proofs.YtifhlmakacoicaaDoor

/- Numerals at this dump: strconv.Itoa, strconv.Atoi. -/
namespace Go.Proofs.YtifhlmakacoicaaDoor
open Go.RowKit Go.Sort
set_option linter.unusedVariables false

/-- a numeral that was written is read -/
theorem atoi_num (n : Int) (w : World) (h : n.natAbs < 100000000000000000) :
    Calls Tryd.prog 67 #[.string (str (Lib.itoa n))] w fun e w' => e = .returned (.tuple #[.int .i64 n, .nilIface]) ∧ Below w.heap.size w w' :=
  (strconv_Atoi (str (Lib.itoa n)) n (by rw [str_size]; have := itoa_len n 17 (by simpa using h) (by omega); omega) (by rw [str_data]; exact atoi_itoa n) w).mono fun e w' ⟨he, t, hw⟩ => ⟨he, by rw [hw]; exact Lib.bytesWorld_below _ _ _⟩
end Go.Proofs.YtifhlmakacoicaaDoor
