/- NumShp -/
import Derived.Test.YtkkjaaognefeiaaGreatDoorGLaid
set_option maxRecDepth 100000
set_option maxHeartbeats 16000000
set_option linter.unusedVariables false
set_option linter.unusedSimpArgs false
namespace Go.Proofs.YtkkjaaognefeiaaGreatDoor
open Go.RowKit
def Shp (w:World):Prop:=∃m,w.cell? ⟨1,0,none⟩=some (.int .i64 m)
theorem Shp.next {w w':World} (h:Shp w) (hb:Below w.heap.size w w'):Shp w':=by
 obtain⟨m,hm⟩:=h
 exact⟨m,(hb.cell (p:=⟨1,0,none⟩) (block_lt_of_cell hm)).trans hm⟩
end Go.Proofs.YtkkjaaognefeiaaGreatDoor
