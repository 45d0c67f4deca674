/- Mem, OnlyT -/
import Derived.Test.YtkkjaaognefeiaaGreatDoorGFlow
set_option maxRecDepth 100000
set_option maxHeartbeats 16000000
set_option linter.unusedVariables false
set_option linter.unusedSimpArgs false
namespace Go.Proofs.YtkkjaaognefeiaaGreatDoor
section
open Go.RowKit
theorem vX {w:World} {base:Nat} {e:TypeId} {s:Nat} {v:Value} {n:Nat} {xs:List Value} {g:Nat} {ty:TypeId} {cs:Array Value} (h:w.ownsRow base e s v n xs) (hb:Box w g ty cs) (hne:e≠ty) (b:Nat) (hv:v.ownBlock=some b):b≠g:=by
 intro e'
 subst e'
 rcases h.2 with⟨rfl,_⟩|⟨g',cap,cur,rfl,_,hg,_⟩
 ·simp[Value.ownBlock] at hv
 ·have:g'=b:=by simpa[Value.ownBlock] using hv
  subst this
  unfold Box at hb
  rw[hg] at hb
  simp at hb
  exact hne hb.2
theorem Qc {w:World} {b o:Nat} {cs:List Value} (h:∀j v,cs[j]?=some v→w.cell? ⟨b,o+j,none⟩=some v):∀j u,cs[j]?=some u→w.cell? ((⟨b,o,none⟩:Addr).add j)=some u:=fun j u hu=>by
 have:(⟨b,o,none⟩:Addr).add j=⟨b,o+j,none⟩:=by unfold Addr.add;split<;>simp_all
 rw[this];exact h j u hu
def jaY (e:TypeId) (s base n:Nat) (xs:List Value):Told:=⟨fun v=>∃A c,v = .slice A n c,fun v w=>w.ownsRow base e s v n xs⟩
section
variable {P:Program} {ops:Array Oper} {w0:World} {R:Nat→Option Told} {E:Act→World→Prop} {o:Oper} {rest:List Oper} {k:Nat} {a:Act} {L:List xK}
end
end
section
open Go.RowKit
structure Only (p:Nat→Prop) (w w':World):Prop where
 os:w'.os=w.os
 tape:w'.tape=w.tape
 output:w'.output=w.output
 size:w.heap.size≤w'.heap.size
 block:∀k,k<w.heap.size→¬p k→w'.heap[k]?=w.heap[k]?
theorem Only.trans {p:Nat→Prop} {a b c:World} (h:Only p a b) (k:Only p b c):Only p a c :=
 ⟨k.os.trans h.os,k.tape.trans h.tape,k.output.trans h.output,Nat.le_trans h.size k.size,fun i hi hp=>(k.block i (Nat.lt_of_lt_of_le hi h.size) hp).trans (h.block i hi hp)⟩
theorem jz {p:Nat→Prop} {w w':World} {row:Option Nat} (h:w.grownBy w' row) (hp:∀k,row=some k→p k):Only p w w' :=
 ⟨h.os,h.tape,h.output,h.size,fun k hk hn=>h.block k hk (fun e=>hn (hp k e.symm))⟩
theorem jH {p:Nat→Prop} {w w':World} (h:Below w.heap.size w w'):Only p w w':=⟨h.os,h.tape,h.output,h.size,fun k hk _=>h.block k hk⟩
theorem jL {p:Nat→Prop} (w:World) (g i:Nat) (v:Value) (hp:p g):Only p w (w.setCell ⟨g,i,none⟩ v) :=
 ⟨rfl,rfl,rfl,by simp,fun k hk hn=>Below.heap_setCell _ _ _ k (fun e=>hn (by have:k=g:=e;rw[this];exact hp))⟩
theorem yz {p:Nat→Prop} {w w1:World} (h:Only p w w1) (g i:Nat) (v:Value) (hg:w.heap.size≤g):Only p w (w1.setCell ⟨g,i,none⟩ v) :=
 ⟨h.os,h.tape,h.output,by simpa using h.size,fun k hk hn=>(Below.heap_setCell _ _ _ k (show k≠g by omega)).trans (h.block k hk hn)⟩
theorem Only.more {p q:Nat→Prop} {w w':World} (h:Only p w w') (hpq:∀k,k<w.heap.size→p k→q k):Only q w w':=⟨h.os,h.tape,h.output,h.size,fun k hk hn=>h.block k hk fun hp=>hn (hpq k hk hp)⟩
theorem Only.box {p:Nat→Prop} {w w':World} (h:Only p w w') {b:Nat} {t:TypeId} {cs:Array Value} (hx:Box w b t cs) (hn:¬p b):Box w' b t cs:=(h.block b hx.lt hn).trans hx
end
end Go.Proofs.YtkkjaaognefeiaaGreatDoor
