/- Paren1, Paren2 -/
import Derived.Lib.Replace
import Derived.Lib.Join
import Derived.Test.YtkkjaaognefeiaaGreatDoorGBack1
set_option maxRecDepth 100000
set_option maxHeartbeats 16000000
set_option linter.unusedVariables false
set_option linter.unusedSimpArgs false
namespace Go.Proofs.YtkkjaaognefeiaaGreatDoor
section
open Go.RowKit
mutual
theorem yI (y:Int):∀t:RE,jB y (jE t)=jB y t
 | .node k n A c ks=>by rw[jE,jB,jB,Jg y ks]
theorem Jg (y:Int):∀ks:List RE,zW y (xx ks)=zW y ks
 | []=>by rw[xx]
 | x::r=>by rw[xx,zW,zW,yI y x,Jg y r]
end
theorem Same.eval {t u:RE} (h:Same t u) (y:Int):jB y t=jB y u:=by rw[←yI y t,←yI y u,h]
end
section
open Go.Lib
theorem xY (c:UInt8) (k:Nat) (a r:List UInt8) (ha:∀b∈a,b≠c):splitB ⟨#[c]⟩ 0 (k+1) (str (a++c::r))=str a::splitB ⟨#[c]⟩ 0 k (str r):=by
 rw[splitB_hit _ _ _ _ a.length (by
  show index (str (a++c::r)).data.toList [c]=_
  rw[qC];exact JE c _ a ha)]
 rw[show(⟨#[c]⟩:ByteArray).size=1 from rfl,jt,km,km,List.take_length,show(a++c::r).drop (a.length+1)=r from by simp]
 simp
end
end Go.Proofs.YtkkjaaognefeiaaGreatDoor
