/- Num0, PlainSplit, NumShp, Num1 -/
import Derived.Lib.Split
import Derived.Lib.SplitLaws
import Derived.Lib.CountLaws
import Derived.Lib.AtoiErrMem
import Derived.Test.YtoemghiejfkpbaaGreatDoorGPlainItoa
import Derived.Test.YtoemghiejfkpbaaGreatDoorGLaid
/- Numerals at this dump: strconv.Itoa alone (a part of Num1, for seats without strconv.Atoi, strings.Cut). -/
namespace Go.Proofs.YtoemghiejfkpbaaGreatDoor
open Go.RowKit Go.Sort
set_option linter.unusedVariables false
def str (l : List UInt8) : ByteArray := ⟨l.toArray⟩
theorem str_data (l : List UInt8) : (str l).data.toList = l := by simp [str]
theorem str_toList (l : List UInt8) : (str l).toList = l := by rw [Lib.toList_data, str_data]
theorem str_size (l : List UInt8) : (str l).size = l.length := by simp [str, ByteArray.size]
theorem str_append (a b : List UInt8) : str a ++ str b = str (a ++ b) := by
 apply ByteArray.ext
 rw [ByteArray.data_append]
 simp [str]
theorem itoa_size (n : Int) (h0 : -9223372036854775808 ≤ n) (h1 : n ≤ 9223372036854775807) : (str (Lib.itoa n)).size ≤ 21 := by rw [str_size]; exact Lib.itoa_length_le n h0 h1
theorem itoa_any (n : Int) (w : World) (h0 : -9223372036854775808 ≤ n) (h1 : n ≤ 9223372036854775807) (hp : Pow w) :
  Calls Tryz.prog 9 #[.int .i64 n] w fun e w' => e = .returned (.string (str (Lib.itoa n))) ∧ Below w.heap.size w w' :=
 (strconv_Itoa n h0 h1 w hp.here).mono fun e w' ⟨he, k, os, hw⟩ => ⟨he, by rw [hw]; exact Lib.below_grow _ w (Nat.le_refl _) k os⟩
end Go.Proofs.YtoemghiejfkpbaaGreatDoor
/- Texts of words with one byte between them: split. -/
namespace Go.Proofs.YtoemghiejfkpbaaGreatDoor
open Go.Lib
set_option linter.unusedVariables false
def joinW (c : UInt8) : List UInt8 → List (List UInt8) → List UInt8
 | a, [] => a
 | a, b :: l => a ++ c :: joinW c b l
theorem ext_str (l : List UInt8) (i j : Nat) : (str l).extract i j = str ((l.take j).drop i) := by
 apply ByteArray.ext
 rw [ByteArray.data_extract]
 apply Array.toList_inj.1
 simp only [str, List.take_drop, Array.toList_extract]
 by_cases h : i ≤ j
 ·rw [show i + (j - i) = j from by omega]
 ·rw [List.drop_eq_nil_of_le (by rw [List.length_take]; omega), List.drop_eq_nil_of_le (by rw [List.length_take]; omega)]
theorem count_join (c : UInt8) : ∀ (l : List (List UInt8)) (a : List UInt8), (∀ w ∈ a :: l, ∀ b ∈ w, b ≠ c) → countB (str (joinW c a l)) ⟨#[c]⟩ = l.length
 | [], a, h => countB_miss _ _ (by
   have := index_no c a (h a (List.mem_cons_self ..))
   show index (str a).data.toList [c] = -1
   rw [str_data]; exact this)
 | b :: l, a, h => by
  have ha := h a (List.mem_cons_self ..)
  have ih := count_join c l b fun w hw => h w (List.mem_cons_of_mem _ hw)
  have e : joinW c a (b :: l) = a ++ c :: joinW c b l := rfl
  rw [e, countB_hit _ _ a.length (by show 1 ≤ 1; omega) (by
   show index (str (a ++ c :: joinW c b l)).data.toList [c] = _
   rw [str_data]; exact index_at c _ a ha)]
  rw [show (⟨#[c]⟩ : ByteArray).size = 1 from rfl, str_size, ext_str, List.take_length, show (a ++ c :: joinW c b l).drop (a.length + 1) = joinW c b l from by simp, ih]
  simp; omega
theorem split_join (c : UInt8) : ∀ (l : List (List UInt8)) (a : List UInt8), (∀ w ∈ a :: l, ∀ b ∈ w, b ≠ c) → splitB ⟨#[c]⟩ 0 l.length (str (joinW c a l)) = (a :: l).map str
 | [], a, h => rfl
 | b :: l, a, h => by
  have ha := h a (List.mem_cons_self ..)
  have ih := split_join c l b fun w hw => h w (List.mem_cons_of_mem _ hw)
  have e : joinW c a (b :: l) = a ++ c :: joinW c b l := rfl
  rw [List.length_cons, e, splitB_hit _ _ _ _ a.length (by
   show index (str (a ++ c :: joinW c b l)).data.toList [c] = _
   rw [str_data]; exact index_at c _ a ha)]
  rw [show (⟨#[c]⟩ : ByteArray).size = 1 from rfl, str_size, ext_str, ext_str, List.take_length, show (a ++ c :: joinW c b l).drop (a.length + 1) = joinW c b l from by simp, ih]
  simp
end Go.Proofs.YtoemghiejfkpbaaGreatDoor
/- The library's variable that strings.Index reads. -/
namespace Go.Proofs.YtoemghiejfkpbaaGreatDoor
open Go.RowKit
set_option linter.unusedVariables false
def Shp (w : World) : Prop := ∃ m, w.cell? ⟨4, 0, none⟩ = some (.int .i64 m)
theorem Shp.next {w w' : World} (h : Shp w) (hb : Below w.heap.size w w') : Shp w' := by
 obtain ⟨m, hm⟩ := h
 exact ⟨m, (hb.cell (p := ⟨4, 0, none⟩) (block_lt_of_cell hm)).trans hm⟩
end Go.Proofs.YtoemghiejfkpbaaGreatDoor
/- Numerals at this dump: strconv.Itoa, strconv.Atoi. -/
namespace Go.Proofs.YtoemghiejfkpbaaGreatDoor
open Go.RowKit Go.Sort
set_option linter.unusedVariables false
theorem atoi_num (n : Int) (w : World) (h : n.natAbs < 100000000000000000) :
  Calls Tryz.prog 193 #[.string (str (Lib.itoa n))] w fun e w' => e = .returned (.tuple #[.int .i64 n, .nilIface]) ∧ Below w.heap.size w w' :=
 (strconv_Atoi (str (Lib.itoa n)) n (by rw [str_size]; have := itoa_len n 17 (by simpa using h) (by omega); omega) (by rw [str_data]; exact atoi_itoa n) w).mono fun e w' ⟨he, t, hw⟩ => ⟨he, by rw [hw]; exact Lib.bytesWorld_below _ _ _⟩
theorem Shp.of {w : World} (h : w.ShapedOpen Tryz.prog) : Shp w := laysM145.s1_3 w h -- 53
theorem cutc_any (s : ByteArray) (c : UInt8) (w : World) (hs : s.size < 4294967281) (h : Shp w) :
  Calls Tryz.prog 53 #[.string s, .string ⟨#[c]⟩] w fun e w' => e = .returned (.tuple #[.string (str (Lib.cut s.data.toList [c]).1), .string (str (Lib.cut s.data.toList [c]).2.1), .bool (Lib.cut s.data.toList [c]).2.2]) ∧ Below w.heap.size w w' := by
 obtain ⟨m, hm⟩ := h
 exact (strings_Cut s ⟨#[c]⟩ m w hs hm).mono fun e w' ⟨he, n, hw⟩ => ⟨he, by rw [hw]; exact below_drewN _ _⟩
end Go.Proofs.YtoemghiejfkpbaaGreatDoor
