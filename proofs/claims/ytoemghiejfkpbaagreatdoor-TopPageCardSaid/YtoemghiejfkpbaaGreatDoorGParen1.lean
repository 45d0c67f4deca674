/- Paren1, Paren2 -/
import Derived.Lib.Replace
import Derived.Lib.Join
import Derived.Test.YtoemghiejfkpbaaGreatDoorGShow2
/- A rule whose leap expression stands in parentheses: read as it was; what it gives. -/
namespace Go.Proofs.YtoemghiejfkpbaaGreatDoor
open Go.RowKit
set_option linter.unusedVariables false
mutual
theorem evalR_strip (y : Int) : ∀ t : RE, evalR y (strip t) = evalR y t
 | .node k n A c ks => by rw [strip, evalR, evalR, evalL_strip y ks]
theorem evalL_strip (y : Int) : ∀ ks : List RE, evalL y (stripL ks) = evalL y ks
 | [] => by rw [stripL]
 | x :: r => by rw [stripL, evalL, evalL, evalR_strip y x, evalL_strip y r]
end
theorem Same.eval {t u : RE} (h : Same t u) (y : Int) : evalR y t = evalR y u := by rw [← evalR_strip y t, ← evalR_strip y u, h]
end Go.Proofs.YtoemghiejfkpbaaGreatDoor
/- The pieces of a printed rule: cut into five, the fourth changed, joined again. -/
namespace Go.Proofs.YtoemghiejfkpbaaGreatDoor
open Go.Lib
set_option linter.unusedVariables false
theorem split_head (c : UInt8) (k : Nat) (a r : List UInt8) (ha : ∀ b ∈ a, b ≠ c) : splitB ⟨#[c]⟩ 0 (k + 1) (str (a ++ c :: r)) = str a :: splitB ⟨#[c]⟩ 0 k (str r) := by
 rw [splitB_hit _ _ _ _ a.length (by
  show index (str (a ++ c :: r)).data.toList [c] = _
  rw [str_data]; exact index_at c _ a ha)]
 rw [show (⟨#[c]⟩ : ByteArray).size = 1 from rfl, str_size, ext_str, ext_str, List.take_length, show (a ++ c :: r).drop (a.length + 1) = r from by simp]
 simp
end Go.Proofs.YtoemghiejfkpbaaGreatDoor
