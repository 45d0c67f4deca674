/- FlowAt -/
import Derived.Test.YtkkjaaognefeiaaGreatDoorGFlowA
set_option maxRecDepth 100000
set_option maxHeartbeats 16000000
set_option linter.unusedVariables false
set_option linter.unusedSimpArgs false
namespace Go.Proofs.YtkkjaaognefeiaaGreatDoor
open Go.RowKit
section
variable {P:Program} {ops:Array Oper} {m:Nat} {row:Option Nat} {w0:World} {R:Nat→Option Told} {E:Act→World→Prop} {o:Oper} {rest:List Oper} {k:Nat} {a:Act} {L:List xK}
theorem Y5 {t:Told} {f:FuncId} {args:Array Value} (use:List Nat) (hu:yH ops k use=true) (hR:R k=some t) (hw:Region.wanted o (yielded ops a.tmps)=true) (hs:∃v,t.V v) (hst:∀v w w',w.grownBy w' row→t.F v w→t.F v w')
  (h:∀w,w0.grownBy w row→(execOp a.eval o).run P w = .ok (.enter f args) w)
  (hc:∀w,w0.grownBy w row→vy use L w→Calls P f args w fun e w'=>∃v,e = .returned v∧t.V v∧t.F v w'∧Below w.heap.size w w')
  (hr:∀v,t.V v→zL P ops m w0 row R E rest (k+1) (a.put o.dst v) ((k,t.F v)::L)):zL P ops m w0 row R E (o::rest) k a L:=by
 refine⟨t,hs,⟨fun t' ht=>(by rw[hR] at ht;exact Option.some.inj ht),fun w hc' hp=>?_,fun hk=>(by rw[hR] at hk;cases hk),fun j hne hp v w w' ht h=>hst v w w' (yc ht) h⟩,fun u hu=>?_⟩
 ·have hg:=qM hc'
  unfold Gives
  rw[if_pos hw,h w hg]
  refine Calls.mono (hc w hg (xZ L fun i hi=>hp i (zx hu i hi))) fun e w' ⟨v,he,h1,h2,h3⟩=>?_
  subst he
  exact⟨h1,h2,ze h3⟩
 ·exact wpFlow.mono _ _ _ _ _ (fun i w h=>yh i w ⟨h.1,h.2⟩) (hr u hu)
theorem ZM (use:List Nat) (hu:yH ops k use=true) (hk:k=m) (hR:R k=none) (hw:Region.wanted o (yielded ops a.tmps)=true) (s x:Operand) (t:TypeId)
  (ho:o.op = .call {callee:=.builtin .append,args:=#[s,x],argTypes:=#[t,t]}) (base:Nat) (e:TypeId) (i:TypeInfo) (z:Value) (size bytes:Nat) (ht:P.underlying t=some (.slice e)) (hi:P.info? e=some i) (hz:i.zero=some z)
  (hsize:i.size=size) (hby:i.bytes=bytes) (hzs:z.cells.size=size) (hsz:0<size)
  (v:Value) (n:Nat) (xs:List Value) (hs:a.eval s=v) (hrow:row=v.ownBlock) (hown:w0.ownsRow base e size v n xs) (hbase:base≤w0.heap.size)
  (ad:Addr) (q c:Nat) (news:List Value) (hx:a.eval x = .slice (some ad) q c) (hl:news.length=q*size) (hnews:∀w,Below w0.heap.size w0 w→vy use L w→∀j u,news[j]?=some u→w.cell? (ad.add j)=some u) (h1:∀u∈news,u.oneCell'=true)
  (Z:World→Prop) (hZ:∀w w',Below w.heap.size w w'→Z w→Z w') (hZ0:∀w,Below w0.heap.size w0 w→vy use L w→Z w)
  (D:Option Nat→World→Prop) (hD:∀b w w',Below w.heap.size w w'→D b w→D b w')
  (hD0:∀b w w',Z w→w.grownBy w' row→Below w0.heap.size w0 w→b=row∨b=some w.heap.size→D b w')
  (h63:n+q≤maxLen) (hbytes:(n+q)*bytes≤140737488355328)
  (hr:∀A c,zL P ops m w0 row R E rest (k+1) (a.put o.dst (.slice A (n+q) c)) ((k,fun w=>w.ownsRow base e size (.slice A (n+q) c) (n+q) (xs++news)∧D (Value.slice A (n+q) c).ownBlock w)::L)):zL P ops m w0 row R E (o::rest) k a L:=by
 refine kY (t:=⟨fun v=>∃A c,v = .slice A (n+q) c,fun v w=>w.ownsRow base e size v (n+q) (xs++news)∧D v.ownBlock w⟩) use hu hk hR hw ⟨_,none,0,rfl⟩ (fun v w w' hb hF=>⟨jn hF.1 hb,hD _ _ _ hb hF.2⟩) (fun w hb hl'=>?_) fun v hv=>?_
 ·obtain⟨v',w',r1,r2,r3,_,r5⟩:=run_append_own_at (P:=P) w base t o.type e i z size bytes ht hi hz hsize hby hzs hsz v n xs (jn hown hb) ad q c news hl (hnews w hb hl') h1 h63 hbytes (Nat.le_trans hbase hb.size)
  obtain⟨A,c',rfl,_⟩:=jI r2
  rw[←hrow] at r3 r5
  exact⟨_,w',JN s x t t ho _ _ _ hs hx r1,⟨A,c',rfl⟩,⟨r2,hD0 _ w w' (hZ0 w hb hl') r3 hb r5⟩,r3⟩
 ·obtain⟨A,c',rfl⟩:=hv
  exact hr A c'
end
end Go.Proofs.YtkkjaaognefeiaaGreatDoor
