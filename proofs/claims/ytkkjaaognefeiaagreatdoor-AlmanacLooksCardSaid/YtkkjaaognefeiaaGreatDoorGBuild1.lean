/- Build1, Build2 -/
import Derived.Shelf.Strings.Builder1
import Derived.Shelf.Strings.BuilderK
import Derived.Test.YtkkjaaognefeiaaGreatDoorGShelf1
set_option maxRecDepth 100000
set_option maxHeartbeats 16000000
set_option linter.unusedVariables false
set_option linter.unusedSimpArgs false
namespace Go.Proofs.YtkkjaaognefeiaaGreatDoor
section
open Go.RowKit Go.Shelf
end
section
open Go.RowKit
end
end Go.Proofs.YtkkjaaognefeiaaGreatDoor
