/- The tables of unicode/utf8 and of package numeral, from a row's list. -/
import Derived.Test.YtlihhlijombepaaDoorShelf2
import Derived.Test.YtlihhlijombepaaDoorLaid
import Derived.Test.YtlihhlijombepaaDoorWords
import Derived.Lib.LaidU8
import GoSem.PinnedTables
namespace Go.Proofs.YtlihhlijombepaaDoor
open Go.RowKit Go.Lib
set_option linter.unusedVariables false

set_option maxRecDepth 100000 in
theorem first_datum : Go.Pinned.utf8First = firstData := by kernel_rfl
set_option maxRecDepth 100000 in
theorem accept_datum : (Rows.laid_unicode_utf8_acceptRanges : DataW Unit) = acceptData := by kernel_rfl
theorem u8x : Go.Proofs.U8Extra Tryd.prog lays197_ren := ⟨by kernel_rfl, by kernel_rfl, by kernel_rfl, by kernel_rfl, by kernel_rfl, by kernel_rfl, by kernel_rfl⟩
/-- utf8's tables -/
def U8 (w : World) : Prop := Lib.Utf8Tabs 5 6 w
theorem U8.next {w w' : World} (h : U8 w) (hb : Below w.heap.size w w') : U8 w' :=
  ⟨fun c hc => (hb.cell (p := ⟨5, c, none⟩) (block_lt_of_cell (h.1 c hc))).trans (h.1 c hc),
   fun i hi => ⟨(hb.cell (p := ⟨6, 2 * i, none⟩) (block_lt_of_cell (h.2 i hi).1)).trans (h.2 i hi).1, (hb.cell (p := ⟨6, 2 * i + 1, none⟩) (block_lt_of_cell (h.2 i hi).2)).trans (h.2 i hi).2⟩⟩
theorem u8_of {W : World} {l : List (String × DataW Unit)} (h : laidMet Tryd.prog l W) (h1 : ("unicode/utf8.first", (Rows.laid_unicode_utf8_first : DataW Unit)) ∈ l) (h2 : ("unicode/utf8.acceptRanges", (Rows.laid_unicode_utf8_acceptRanges : DataW Unit)) ∈ l) : U8 W := by
  have r1 := Lib.laidMet.reads h h1
  have r2 := Lib.laidMet.reads h h2
  rw [show (Rows.laid_unicode_utf8_first : DataW Unit) = Go.Pinned.utf8First from rfl, first_datum] at r1
  rw [accept_datum] at r2
  exact Go.Proofs.utf8Tabs_of_reads (P := Tryd.prog) (ρ := lays197_ren) { lays197 with } u8x r1 r2

/-- the digits 0 of the positional scripts -/
def zerosL : List Int := [48, 1632, 1776, 2406, 2534, 3664, 3872, 6112, 65296]
theorem zeros_datum : (Rows.laid_ephemeris_numeral_zeros : DataW Unit) = Lib.tabData .i32 zerosL := by kernel_rfl
theorem gZeros : Tryd.prog.globalNamed "ephemeris/numeral.zeros" = some 0 := by kernel_rfl
theorem gZerosType : (Tryd.prog.globals[0]?).map (·.type) = some 168 := by kernel_rfl
def Zer (w : World) : Prop := ∀ k, k < 9 → w.cell? ⟨0, k, none⟩ = some (.int .i32 (zerosL.getD k 0))
theorem Zer.next {w w' : World} (h : Zer w) (hb : Below w.heap.size w w') : Zer w' := fun k hk => (hb.cell (p := ⟨0, k, none⟩) (block_lt_of_cell (h k hk))).trans (h k hk)
theorem zer_of {W : World} {rest : List (String × DataW Unit)} (h : laidMet Tryd.prog (("ephemeris/numeral.zeros", Rows.laid_ephemeris_numeral_zeros) :: rest) W) : Zer W := by
  rw [zeros_datum] at h
  have ht := Lib.tabIs_of_head gZeros gZerosType Tryd.underlying168 Tryd.underlying21 (by kernel_rfl) (by kernel_rfl) h
  intro k hk
  have := World.var?_cell gZeros ht k
  rw [this]
  match k, hk with
  | 0, _ | 1, _ | 2, _ | 3, _ | 4, _ | 5, _ | 6, _ | 7, _ | 8, _ => rfl
end Go.Proofs.YtlihhlijombepaaDoor
