/- PlainSplit -/
import Derived.Lib.Split
import Derived.Lib.SplitLaws
import Derived.Lib.CountLaws
import Derived.Test.YtcommodbjjdbmaaGreatDoorGLaid
import Derived.Test.YtcommodbjjdbmaaGreatDoorGNumShp
/- Texts of words with one byte between them: split. -/
namespace Go.Proofs.YtcommodbjjdbmaaGreatDoor
open Go.Lib
set_option linter.unusedVariables false

/-- words with the byte c between them -/
def joinW (c : UInt8) : List UInt8 → List (List UInt8) → List UInt8
  | a, [] => a
  | a, b :: l => a ++ c :: joinW c b l
theorem ext_str (l : List UInt8) (i j : Nat) : (str l).extract i j = str ((l.take j).drop i) := by
  apply ByteArray.ext
  rw [ByteArray.data_extract]
  apply Array.toList_inj.1
  simp only [str, List.take_drop, Array.toList_extract]
  by_cases h : i ≤ j
  · rw [show i + (j - i) = j from by omega]
  · rw [List.drop_eq_nil_of_le (by rw [List.length_take]; omega), List.drop_eq_nil_of_le (by rw [List.length_take]; omega)]
theorem count_join (c : UInt8) : ∀ (l : List (List UInt8)) (a : List UInt8), (∀ w ∈ a :: l, ∀ b ∈ w, b ≠ c) → countB (str (joinW c a l)) ⟨#[c]⟩ = l.length
  | [], a, h => countB_miss _ _ (by
      have := index_no c a (h a (List.mem_cons_self ..))
      show index (str a).data.toList [c] = -1
      rw [str_data]; exact this)
  | b :: l, a, h => by
    have ha := h a (List.mem_cons_self ..)
    have ih := count_join c l b fun w hw => h w (List.mem_cons_of_mem _ hw)
    have e : joinW c a (b :: l) = a ++ c :: joinW c b l := rfl
    rw [e, countB_hit _ _ a.length (by show 1 ≤ 1; omega) (by
      show index (str (a ++ c :: joinW c b l)).data.toList [c] = _
      rw [str_data]; exact index_at c _ a ha)]
    rw [show (⟨#[c]⟩ : ByteArray).size = 1 from rfl, str_size, ext_str, List.take_length, show (a ++ c :: joinW c b l).drop (a.length + 1) = joinW c b l from by simp, ih]
    simp; omega
theorem split_join (c : UInt8) : ∀ (l : List (List UInt8)) (a : List UInt8), (∀ w ∈ a :: l, ∀ b ∈ w, b ≠ c) → splitB ⟨#[c]⟩ 0 l.length (str (joinW c a l)) = (a :: l).map str
  | [], a, h => rfl
  | b :: l, a, h => by
    have ha := h a (List.mem_cons_self ..)
    have ih := split_join c l b fun w hw => h w (List.mem_cons_of_mem _ hw)
    have e : joinW c a (b :: l) = a ++ c :: joinW c b l := rfl
    rw [List.length_cons, e, splitB_hit _ _ _ _ a.length (by
      show index (str (a ++ c :: joinW c b l)).data.toList [c] = _
      rw [str_data]; exact index_at c _ a ha)]
    rw [show (⟨#[c]⟩ : ByteArray).size = 1 from rfl, str_size, ext_str, ext_str, List.take_length, show (a ++ c :: joinW c b l).drop (a.length + 1) = joinW c b l from by simp, ih]
    simp
end Go.Proofs.YtcommodbjjdbmaaGreatDoor
