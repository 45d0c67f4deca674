/- NumShp -/
import Derived.Test.YtonepibojojcaaaDoorGBase
/- The library's variable that strings.Index reads. -/
namespace Go.Proofs.YtonepibojojcaaaDoor
open Go.RowKit
set_option linter.unusedVariables false

/-- the library's variable that strings.Index reads -/
def Shp (w : World) : Prop := ∃ m, w.cell? ⟨2, 0, none⟩ = some (.int .i64 m)
theorem Shp.next {w w' : World} (h : Shp w) (hb : Below w.heap.size w w') : Shp w' := by
  obtain ⟨m, hm⟩ := h
  exact ⟨m, (hb.cell (p := ⟨2, 0, none⟩) (block_lt_of_cell hm)).trans hm⟩
end Go.Proofs.YtonepibojojcaaaDoor
