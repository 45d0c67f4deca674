/- ReMem -/
import Derived.Test.YtkkjaaognefeiaaGreatDoorGPlainRule
set_option maxRecDepth 100000
set_option maxHeartbeats 16000000
set_option linter.unusedVariables false
set_option linter.unusedSimpArgs false
namespace Go.Proofs.YtkkjaaognefeiaaGreatDoor
open Go.RowKit
inductive ReAt (w:World) (p:Nat→Prop) (B:Nat):RE→Prop
 | mk {k n:Int} {A:Option Addr} {c:Nat} {ks:List RE} (hk:I64 k) (hn:I64 n) (hl:ks.length≤maxLen) (row:ks=[]∨∃b o,A=some ⟨b,o,none⟩∧p b∧b<B∧∀j v,(ks.flatMap reF)[j]?=some v→w.cell? ⟨b,o+j,none⟩=some v) (kids:∀x∈ks,ReAt w p B x):ReAt w p B (.node k n A c ks)
theorem ReAt.in_ {w:World} {p:Nat→Prop} {B:Nat} {t:RE} (h:ReAt w p B t):ReIn w B t:=by
 induction h with
 | mk hk hn hl row kids ih =>
  refine .mk hk hn hl ?_ ih
  rcases row with rfl|⟨b,o,e,_,hb,hc⟩
  ·exact .inl rfl
  ·exact .inr ⟨b,o,e,hb,hc⟩
theorem xR {w w':World} {b o:Nat} (h:w'.heap[b]?=w.heap[b]?):w'.cell? ⟨b,o,none⟩=w.cell? ⟨b,o,none⟩:=by simp[World.cell?,h]
theorem ReAt.keep {w w':World} {p p':Nat→Prop} {B B':Nat} {t:RE} (h:ReAt w p B t) (ha:∀b,p b→b<B→w'.heap[b]?=w.heap[b]?) (hp:∀b,p b→b<B→p' b) (hB:B≤B'):ReAt w' p' B' t:=by
 induction h with
 | mk hk hn hl row kids ih =>
  refine .mk hk hn hl ?_ ih
  rcases row with h|⟨b,o,e,hpb,hb,hc⟩
  ·exact .inl h
  ·exact .inr ⟨b,o,e,hp b hpb hb,by omega,fun j v hv=>(xR (ha b hpb hb)).trans (hc j v hv)⟩
theorem ReAt.grown {w w':World} {p:Nat→Prop} {t:RE} {row:Option Nat} (h:ReAt w p w.heap.size t) (hg:w.grownBy w' row) (hr:∀b,p b→some b≠row):ReAt w' p w'.heap.size t :=
 h.keep (fun b hb hB=>hg.block b hB (hr b hb)) (fun b hb _=>hb) hg.size
theorem ReAt.next {w w':World} {p:Nat→Prop} {t:RE} (h:ReAt w p w.heap.size t) (hb:Below w.heap.size w w'):ReAt w' p w'.heap.size t :=
 h.keep (fun b _ hB=>hb.block b hB) (fun b hb _=>hb) hb.size
theorem ReAt.set_ {w:World} {p:Nat→Prop} {t:RE} (h:ReAt w p w.heap.size t) (g i:Nat) (v:Value) (hr:¬p g):ReAt (w.setCell ⟨g,i,none⟩ v) p (w.setCell ⟨g,i,none⟩ v).heap.size t :=
 h.keep (fun b hb hB=>Below.heap_setCell _ _ _ b (fun e=>hr (by have:b=g:=e;rw[←this];exact hb))) (fun b hb _=>hb) (by simp)
theorem ReAt.more {w:World} {p p':Nat→Prop} {B:Nat} {t:RE} (h:ReAt w p B t) (hp:∀b,p b→b<B→p' b):ReAt w p' B t:=h.keep (fun _ _ _=>rfl) hp (Nat.le_refl _)
theorem ReAt.leaf (w:World) (p:Nat→Prop) (B:Nat) (k n:Int) (c:Nat) (hk:I64 k) (hn:I64 n):ReAt w p B (.node k n none c []):=.mk hk hn (by show 0≤maxLen;unfold maxLen;omega) (.inl rfl) fun x hx=>by cases hx
abbrev reC (t:RE):Array Value:=(reF t).toArray
theorem ReAt.one {w:World} {p:Nat→Prop} {gk:Nat} {x:RE} {k n:Int} {c:Nat} (h:ReAt w p w.heap.size x) (hb:Box w gk 126 (reC x)) (hp:p gk) (hk:I64 k) (hn:I64 n):ReAt w p w.heap.size (.node k n (some ⟨gk,0,none⟩) c [x]) :=
 .mk hk hn (by show 1≤maxLen;unfold maxLen;omega) (.inr ⟨gk,0,rfl,hp,hb.lt,fun j v hv=>by rw[Nat.zero_add,hb.cell j];simpa[reC] using hv⟩) fun y hy=>by obtain rfl:=List.mem_singleton.1 hy;exact h
theorem ReAt.two {w:World} {p:Nat→Prop} {gk:Nat} {x y:RE} {k n:Int} {c:Nat} (h:ReAt w p w.heap.size x) (h2:ReAt w p w.heap.size y) (hb:Box w gk 126 (reF x++reF y).toArray) (hp:p gk) (hk:I64 k) (hn:I64 n):ReAt w p w.heap.size (.node k n (some ⟨gk,0,none⟩) c [x,y]) :=
 .mk hk hn (by show 2≤maxLen;unfold maxLen;omega) (.inr ⟨gk,0,rfl,hp,hb.lt,fun j v hv=>by rw[Nat.zero_add,hb.cell j];simpa using hv⟩) fun z hz=>by
  rcases List.mem_cons.1 hz with rfl|hz
  ·exact h
  ·obtain rfl:=List.mem_singleton.1 hz;exact h2
end Go.Proofs.YtkkjaaognefeiaaGreatDoor
