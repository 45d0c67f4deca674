/- ShTrim -/
import Derived.Shelf.Strings.SlTrimAscii
import Derived.Test.YteebjkcpniddiaaGreatDoorGShelf1
import Derived.Test.YteebjkcpniddiaaGreatDoorGNum1
/- strings.TrimRight at a set of ASCII bytes. -/
namespace Go.Proofs.YteebjkcpniddiaaGreatDoor
open Go Go.Shelf Go.RowKit
set_option linter.unusedVariables false

theorem trimRight_any (s cutset : ByteArray) (w : World) (hs : s.size ≤ 1000000) (hcs : cutset.size < 1000) (ha : cutset.data.toList.all (fun b => decide (b.toNat < 128)) = true) :
    Calls Tryz.prog 61 #[.string s, .string cutset] w fun e w' => e = .returned (.string (str (Lib.trimRightS s.data.toList cutset.data.toList))) ∧ Below w.heap.size w w' :=
  Any.strings_TrimRight_laid lays162 (by kernel_rfl) s cutset w (by omega) (by omega) (ascii_of_all ha)
end Go.Proofs.YteebjkcpniddiaaGreatDoor
