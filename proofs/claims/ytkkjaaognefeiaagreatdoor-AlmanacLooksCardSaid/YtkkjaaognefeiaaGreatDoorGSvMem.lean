/- SvMem -/
import Derived.Test.YtkkjaaognefeiaaGreatDoorGCatOk
import Derived.Test.YtkkjaaognefeiaaGreatDoorGAr1
set_option maxRecDepth 100000
set_option maxHeartbeats 16000000
set_option linter.unusedVariables false
set_option linter.unusedSimpArgs false
namespace Go.Proofs.YtkkjaaognefeiaaGreatDoor
open Go Go.RowKit
inductive ST where
 | node (k a b:Int) (nm:ByteArray) (A:Option Addr) (c:Nat) (cal:Cal) (A':Option Addr) (c':Nat) (ks:List ST)
def Ka:Cal:=⟨⟨#[]⟩,0,0,[],[],none,0,none,0⟩
def st0:ST:=.node 0 0 0 ⟨#[]⟩ none 0 Ka none 0 []
def stL (k a b:Int) (nm:ByteArray) (A:Option Addr) (n c:Nat) (cal:Cal) (A':Option Addr) (n' c':Nat):List Value :=
 [.int .i64 k,.int .i64 a,.int .i64 b,.string nm,.slice A n c,.string cal.nm,.int .i64 cal.ep,.int .i64 cal.cy,.slice cal.A1 cal.mo.length cal.c1,.slice cal.A2 cal.lp.length cal.c2,.slice A' n' c']
def stF:ST→List Value
 | .node k a b nm A c cal A' c' ks=>stL k a b nm A ks.length c cal A' ks.length c'
theorem xD (T:ST):(stF T).length=11:=by cases T;rfl
def RowAt (w:World) (p:Nat→Prop) (A:Option Addr) (cs:List Value):Prop:=cs=[]∨∃b o,A=some ⟨b,o,none⟩∧p b∧b<w.heap.size∧∀j v,cs[j]?=some v→w.cell? ⟨b,o+j,none⟩=some v
theorem Vi {w w':World} {b o:Nat} (h:w'.heap[b]?=w.heap[b]?):w'.cell? ⟨b,o,none⟩=w.cell? ⟨b,o,none⟩:=by simp[World.cell?,h]
section
variable {w w':World} {p p':Nat→Prop} {A:Option Addr} {cs:List Value}
theorem RowAt.row (h:RowAt w p A cs):Row w w.heap.size A cs:=by
 rcases h with h|⟨b,o,e,_,hb,hc⟩
 ·exact .inl h
 ·exact .inr ⟨b,o,e,hb,hc⟩
theorem RowAt.keep (h:RowAt w p A cs) (hk:∀b,p b→b<w.heap.size→w'.heap[b]?=w.heap[b]?∧p' b) (hs:w.heap.size≤w'.heap.size):RowAt w' p' A cs:=by
 rcases h with h|⟨b,o,e,hp,hb,hc⟩
 ·exact .inl h
 ·exact .inr ⟨b,o,e,(hk b hp hb).2,by omega,fun j v hv=>(Vi (hk b hp hb).1).trans (hc j v hv)⟩
theorem Row.at_ (h:Row w w.heap.size A cs) (hp:∀a,A=some a→p a.block):RowAt w p A cs:=by
 rcases h with h|⟨b,o,e,hb,hc⟩
 ·exact .inl h
 ·exact .inr ⟨b,o,e,hp _ e,hb,hc⟩
end
structure CalAt (w:World) (p:Nat→Prop) (c:Cal):Prop where
 v:CalV w c
 a1:RowAt w p c.A1 (c.mo.flatMap zp)
 a2:RowAt w p c.A2 (jZ c.lp)
theorem CalAt.keep {w w':World} {p p':Nat→Prop} {c:Cal} (h:CalAt w p c) (hk:∀b,p b→b<w.heap.size→w'.heap[b]?=w.heap[b]?∧p' b) (hs:w.heap.size≤w'.heap.size):CalAt w' p' c :=
 ⟨⟨⟨(h.a1.keep hk hs).row,(h.a2.keep hk hs).row⟩,h.v.f,h.v.ok⟩,h.a1.keep hk hs,h.a2.keep hk hs⟩
inductive StAt (w:World) (p:Nat→Prop):ST→FE→Prop
 | mk {k a b:Int} {nm:ByteArray} {A:Option Addr} {c:Nat} {cal:Cal} {A':Option Addr} {c':Nat} {ks:List ST} {A0:Option Addr} {c0:Nat} {fs:List FE}
   (hk:I64 k) (ha:I64 a) (hb:I64 b) (hs:nm.size≤maxLen) (hl:ks.length=fs.length) (row:RowAt w p A' (ks.flatMap stF))
   (hc:usN k=true→∃r∈jN,str r.nm=nm∧CalOf r cal∧CalAt w p cal) (kids:∀i,i<ks.length→StAt w p (ks.getD i st0) (fs.getD i fe0)):StAt w p (.node k a b nm A c cal A' c' ks) (.node k a b nm A0 c0 fs)
theorem StAt.keep {w w':World} {p p':Nat→Prop} {T:ST} {t:FE} (h:StAt w p T t) (hk:∀b,p b→b<w.heap.size→w'.heap[b]?=w.heap[b]?∧p' b) (hs:w.heap.size≤w'.heap.size):StAt w' p' T t:=by
 induction h with
 | mk h1 h2 h3 h4 h5 row hc kids ih =>
  refine .mk h1 h2 h3 h4 h5 (row.keep hk hs) (fun e=>?_) ih
  obtain⟨r,a,b,c,d⟩:=hc e
  exact⟨r,a,b,c,d.keep hk hs⟩
theorem StAt.next {w w':World} {p:Nat→Prop} {T:ST} {t:FE} (h:StAt w p T t) (hb:Below w.heap.size w w'):StAt w' p T t:=h.keep (fun b hp hl=>⟨hb.block b hl,hp⟩) hb.size
theorem StAt.more {w:World} {p p':Nat→Prop} {T:ST} {t:FE} (h:StAt w p T t) (hp:∀b,p b→b<w.heap.size→p' b):StAt w p' T t:=h.keep (fun b h1 h2=>⟨rfl,hp b h1 h2⟩) (Nat.le_refl _)
theorem StAt.grown {w w':World} {p:Nat→Prop} {T:ST} {t:FE} {row:Option Nat} (h:StAt w p T t) (hg:w.grownBy w' row) (hr:∀b,p b→b<w.heap.size→some b≠row):StAt w' p T t:=h.keep (fun b hp hl=>⟨hg.block b hl (hr b hp hl),hp⟩) hg.size
end Go.Proofs.YtkkjaaognefeiaaGreatDoor
