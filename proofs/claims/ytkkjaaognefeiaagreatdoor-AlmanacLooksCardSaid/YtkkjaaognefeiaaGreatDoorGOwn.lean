/- Own -/
import Derived.Test.YtkkjaaognefeiaaGreatDoorGFs0
set_option maxRecDepth 100000
set_option maxHeartbeats 16000000
set_option linter.unusedVariables false
set_option linter.unusedSimpArgs false
namespace Go.Proofs.YtkkjaaognefeiaaGreatDoor
open Go.RowKit
section
variable {w w':World} {base:Nat} {e:TypeId} {s:Nat} {v:Value} {n:Nat} {xs:List Value}
theorem jx (h:w.ownsRow base e s v n xs) (hh:∀b,v.ownBlock=some b→w'.heap[b]?=w.heap[b]?):w'.ownsRow base e s v n xs:=by
 refine⟨h.1,?_⟩
 rcases h.2 with hn|⟨g,cap,cur,hv,hbb,hg,rest⟩
 ·exact .inl hn
 ·exact .inr ⟨g,cap,cur,hv,hbb,(hh g (by rw[hv];rfl)).trans hg,rest⟩
theorem qq (h:w.ownsRow base e s v n xs) (b:Nat) (hb:v.ownBlock=some b):base≤b∧b<w.heap.size:=h.lt b hb
theorem jn (h:w.ownsRow base e s v n xs) (hb:Below w.heap.size w w'):w'.ownsRow base e s v n xs:=jx h fun b hv=>hb.block b (qq h b hv).2
theorem q7 (h:w.ownsRow base e s v n xs) (p:Addr) (x:Value) (hp:p.block<base):(w.setCell p x).ownsRow base e s v n xs:=jx h fun b hv=>Below.heap_setCell w p x b (by have:=(qq h b hv).1;omega)
theorem jM {base':Nat} (h:w.ownsRow base e s v n xs) (hb:base'≤base):w.ownsRow base' e s v n xs:=by
 refine⟨h.1,?_⟩
 rcases h.2 with hn|⟨g,cap,cur,hv,hbb,rest⟩
 ·exact .inl hn
 ·exact .inr ⟨g,cap,cur,hv,by omega,rest⟩
theorem jI (h:w.ownsRow base e s v n xs):∃A c,v = .slice A n c∧n≤c∧c≤maxLen:=by
 rcases h.2 with⟨rfl,rfl⟩|⟨g,cap,cur,hv,hbb,hg,h1,h2,_⟩
 ·exact⟨none,0,rfl,by omega,by unfold maxLen;omega⟩
 ·exact⟨_,cap,hv,h1,h2⟩
end
theorem Box.grown {w w':World} {g:Nat} {t:TypeId} {cs:Array Value} {row:Option Nat} (h:Box w g t cs) (hg:w.grownBy w' row) (hne:some g≠row):Box w' g t cs:=(hg.block g h.lt hne).trans h
end Go.Proofs.YtkkjaaognefeiaaGreatDoor
