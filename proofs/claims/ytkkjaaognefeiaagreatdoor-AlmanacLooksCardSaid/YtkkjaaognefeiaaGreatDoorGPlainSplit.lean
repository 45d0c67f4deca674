/- PlainSplit -/
import Derived.Lib.Split
import Derived.Lib.SplitLaws
import Derived.Lib.CountLaws
import Derived.Test.YtkkjaaognefeiaaGreatDoorGShelf1
set_option maxRecDepth 100000
set_option maxHeartbeats 16000000
set_option linter.unusedVariables false
set_option linter.unusedSimpArgs false
namespace Go.Proofs.YtkkjaaognefeiaaGreatDoor
open Go.Lib
theorem km (l:List UInt8) (i j:Nat):(str l).extract i j=str ((l.take j).drop i):=by
 apply ByteArray.ext
 rw[ByteArray.data_extract]
 apply Array.toList_inj.1
 simp only[str,List.take_drop,Array.toList_extract]
 by_cases h:i≤j
 ·rw[show i+(j-i)=j from by omega]
 ·rw[List.drop_eq_nil_of_le (by rw[List.length_take];omega),List.drop_eq_nil_of_le (by rw[List.length_take];omega)]
end Go.Proofs.YtkkjaaognefeiaaGreatDoor
