/- FlowA -/
import Derived.Test.YtkkjaaognefeiaaGreatDoorGMem
set_option maxRecDepth 100000
set_option maxHeartbeats 16000000
set_option linter.unusedVariables false
set_option linter.unusedSimpArgs false
namespace Go.Proofs.YtkkjaaognefeiaaGreatDoor
open Go.RowKit
section
variable {P:Program} {ops:Array Oper} {m:Nat} {row:Option Nat} {w0:World} {R:Nat→Option Told} {E:Act→World→Prop} {o:Oper} {rest:List Oper} {k:Nat} {a:Act} {L:List xK}
theorem JN {a:Act} {o:Oper} {w w':World} (s x:Operand) (t u:TypeId) (ho:o.op = .call {callee:=.builtin .append,args:=#[s,x],argTypes:=#[t,u]}) (v xv v':Value) (hs:a.eval s=v) (hx:a.eval x=xv)
  (hr:(Builtin.append_ #[t,u] o.type #[v,xv]).run P w = .ok v' w'):(execOp a.eval o).run P w = .ok (.value v') w':=by
 unfold execOp
 simp only[ho,resolve,invoke,builtin,Sem.run_bind,Sem.run_pure,Result.andThen_ok,List.map_toArray,List.map_cons,List.map_nil,hs,hx,hr]
theorem kY {t:Told} (use:List Nat) (hu:yH ops k use=true) (hk:k=m) (hR:R k=none) (hw:Region.wanted o (yielded ops a.tmps)=true) (hs:∃v,t.V v) (hst:∀v w w',Below w.heap.size w w'→t.F v w→t.F v w')
  (h:∀w,Below w0.heap.size w0 w→vy use L w→∃v w',(execOp a.eval o).run P w = .ok (.value v) w'∧t.V v∧t.F v w'∧w.grownBy w' row)
  (hr:∀v,t.V v→zL P ops m w0 row R E rest (k+1) (a.put o.dst v) ((k,t.F v)::L)):zL P ops m w0 row R E (o::rest) k a L:=by
 subst hk
 refine⟨t,hs,⟨fun t' ht=>(by rw[hR] at ht;cases ht),fun w hc hp=>?_,fun _ w hc hp=>?_,fun j hne hp v w w' ht h=>hst v w w' (by unfold xu at ht;rw[if_neg hne] at ht;exact ht) h⟩,fun u hu=>?_⟩
 ·unfold QA at hc
  rw[if_pos rfl] at hc
  obtain⟨v,w',hrun,h1,h2,h3⟩:=h w hc (xZ L fun i hi=>hp i (zx hu i hi))
  unfold Gives;rw[if_pos hw,hrun];exact⟨h1,h2,by unfold xu;rw[if_pos rfl];exact h3⟩
 ·unfold QA at hc
  rw[if_pos rfl] at hc
  obtain⟨v,w',hrun,h1,h2,h3⟩:=h w hc (xZ L fun i hi=>hp i (zx hu i hi))
  unfold Gives0;rw[if_pos hw,hrun];exact⟨h1,h2,by unfold xu;rw[if_pos rfl];exact h3⟩
 ·exact wpFlow.mono _ _ _ _ _ (fun i w h=>yh i w ⟨h.1,h.2⟩) (hr u hu)
theorem Kv (use:List Nat) (hu:yH ops k use=true) (hk:k=m) (hR:R k=none) (hw:Region.wanted o (yielded ops a.tmps)=true) (s x:Operand) (t:TypeId)
  (ho:o.op = .call {callee:=.builtin .append,args:=#[s,x],argTypes:=#[t,t]}) (base:Nat) (e:TypeId) (i:TypeInfo) (z:Value) (size bytes:Nat) (ht:P.underlying t=some (.slice e)) (hi:P.info? e=some i) (hz:i.zero=some z)
  (hsize:i.size=size) (hby:i.bytes=bytes) (hzs:z.cells.size=size) (hsz:0<size)
  (v:Value) (n:Nat) (xs:List Value) (hs:a.eval s=v) (hrow:row=v.ownBlock) (hown:w0.ownsRow base e size v n xs) (hbase:base≤w0.heap.size)
  (ad:Addr) (q c:Nat) (news:List Value) (hx:a.eval x = .slice (some ad) q c) (hl:news.length=q*size) (hnews:∀w,Below w0.heap.size w0 w→vy use L w→∀j u,news[j]?=some u→w.cell? (ad.add j)=some u) (h1:∀u∈news,u.oneCell'=true)
  (h63:n+q≤maxLen) (hbytes:(n+q)*bytes≤140737488355328)
  (hr:∀A c,zL P ops m w0 row R E rest (k+1) (a.put o.dst (.slice A (n+q) c)) ((k,fun w=>w.ownsRow base e size (.slice A (n+q) c) (n+q) (xs++news))::L)):zL P ops m w0 row R E (o::rest) k a L:=by
 refine kY (t:=jaY e size base (n+q) (xs++news)) use hu hk hR hw ⟨_,none,0,rfl⟩ (fun v w w' hb hF=>jn hF hb) (fun w hb hl'=>?_) fun v hv=>?_
 ·obtain⟨v',w',r1,r2,r3,_⟩:=run_append_own (P:=P) w base t o.type e i z size bytes ht hi hz hsize hby hzs hsz v n xs (jn hown hb) ad q c news hl (hnews w hb hl') h1 h63 hbytes (Nat.le_trans hbase hb.size)
  obtain⟨A,c',rfl,_⟩:=jI r2
  exact⟨_,w',JN s x t t ho _ _ _ hs hx r1,⟨A,c',rfl⟩,r2,by rw[hrow];exact r3⟩
 ·obtain⟨A,c',rfl⟩:=hv
  exact hr A c'
end
end Go.Proofs.YtkkjaaognefeiaaGreatDoor
