/- Seq1 -/
import Derived.RangeFuncNested
import Derived.RangeFuncBound
import Derived.RangeFuncCalls
import Derived.RangeFuncLeaves
import Derived.Test.YtkkjaaognefeiaaGreatDoorGMem
set_option maxRecDepth 100000
set_option maxHeartbeats 16000000
set_option linter.unusedVariables false
set_option linter.unusedSimpArgs false
namespace Go.Proofs.YtkkjaaognefeiaaGreatDoor
open Go Go.RowKit
def SeqC {α:Type} (F:Fence) (n:Nat) (P:Program) (g:Nat) (lb:Array Value) (enc:α→Value) (own kp:Nat→Prop) (xs:List α) (W:World):Prop :=
 ∀(l:Nat) (J Jx:List α→World→Prop),(∀s A B,J s A→Only own A B→J s B)→(∀s A B,Jx s A→Only own A B→Jx s B) →
  (∀pre x rest W1,xs=pre++x::rest→J pre W1→YieldAt F (n-1) P l #[enc x] W1 fun e W' =>
   (e = .returned (.bool true)∧J (pre++[x]) W'∧Only (fun k=>¬kp k) W1 W')∨(e = .returned (.bool false)∧Jx (pre++[x]) W')) →
  J [] W →
  CallsIn F n P g (#[.func (.yield l) #[] #[]]++lb) W fun e W'=>(∃v,e = .returned v)∧(J xs W'∨∃pre,pre <+: xs∧Jx pre W')
def postC {α:Type} (p:Nat→Prop) (I:List α→World→Prop) (Ix:Code→List α→World→Prop) (xs:List α) (W:World):Exit→Act→World→Prop
 | .normal,_,W'=>Only (fun k=>¬p k) W W'∧I xs W'
 | .ret,_,W'=>Only (fun k=>¬p k) W W'∧Ix .ret xs W'
 | .exit id,_,W'=>Only (fun k=>¬p k) W W'∧Ix (.exit id) xs W'
 | .goto t,_,W'=>Only (fun k=>¬p k) W W'∧Ix (.goto t) xs W'
 | .panic _,_,_=>False
 | .outgrown,_,_=>False
theorem qG {p:Nat→Prop} (W:World) (l:Nat) (o:Obj) (hp:p l):Only p W (W.putObj l o):=jz (grownBy_putObj' W l o) (fun k e=>by cases e;exact hp)
theorem yg {p:Nat→Prop} (W:World) (o:Obj):Only p W (W.alloc o):=jz (World.grownBy_alloc W o none) (fun k e=>by cases e)
theorem Only.same {p:Nat→Prop} {A B:World} (h:Only p A B) {k:Nat} {o:Obj} (hk:A.heap[k]?=some o) (hn:¬p k):B.heap[k]?=some o:=(h.block k (Array.getElem?_eq_some_iff.1 hk).1 hn).trans hk
variable {F:Fence} {n:Nat} {P:Program}
theorem qO {α:Type} {g:Operand} {ps:Array Tmp} {assign body:Code} {Q:Exit→Act→World→Prop} {a:Act} {w:World}
  (hro:F.round=none) (h1:1≤n) {gf:Nat} {lb:Array Value} (hg:a.eval g = .func (.func gf) #[] lb) (hFg:F.fn gf) (eg:∀args w,(callFunc gf args).run P w = .ok (.enter gf args) w)
  {enc:α→Value} {own kp:Nat→Prop} {xs:List α} (hseq:∀W,Only (fun _=>False) w W→SeqC F (n-1) P gf lb enc own kp xs W) (hok:∀k,own k→kp k) (hkp:∀k,kp k→k<w.heap.size) (hps:ps.size=1)
  (I:List α→World→Prop) (Ix:Code→List α→World→Prop)
  (hI:∀s A B,I s A→Only (fun k=>own k∨k=w.heap.size∨k=w.heap.size+1) A B→I s B)
  (hIx:∀c s A B,Ix c s A→Only (fun k=>own k∨k=w.heap.size∨k=w.heap.size+1) A B→Ix c s B) (h0:I [] w) (a₁:α→Act)
  (hassign:∀(l:Nat) (x:α) (W:World) (K:Act→World→Prop),K (a₁ x) W →
   assign.wpIn (F.inRound l) (n-1-1) P (Exit.then K (fun _ _ _=>False)) {tmps:=(ps.zip #[enc x]).foldl (fun t (p,v)=>t.setIfInBounds p v) a.tmps,defers:=[]} W)
  (hbody:∀(l:Nat) (pre:List α) (x:α) (rest:List α) (W:World),xs=pre++x::rest→w.heap.size+1<W.heap.size→I pre W→body.wpIn (F.inRound l) (n-1-1) P (postC (fun k=>kp k∨k=w.heap.size∨k=w.heap.size+1) I Ix (pre++[x]) W) (a₁ x) W)
  (hdone:∀(W:World),w.heap.size+1<W.heap.size→I xs W→W.heap[w.heap.size]?=some (.deferred (some []))→Q .normal {a with defers:={target:=.collected w.heap.size,args:=#[]}::a.defers} W)
  (hstop:∀(c:Code) (pre:List α) (W:World),w.heap.size+1<W.heap.size→pre <+: xs→Ix c pre W→W.heap[w.heap.size]?=some (.deferred (some []))→c.wpIn F n P Q {a with defers:={target:=.collected w.heap.size,args:=#[]}::a.defers} W) :
  (Code.rangeFunc g ps assign body).wpIn F n P Q a w:=by
 refine wpIn_rangeFunc ?_
 intro fn hfn
 rw[hro]
 obtain⟨p,hp⟩:∃p:Nat→Prop,p=fun k=>own k∨k=w.heap.size∨k=w.heap.size+1:=⟨_,rfl⟩
 rw[←hp] at hI hIx
 obtain⟨q,hq⟩:∃q:Nat→Prop,q=fun k=>kp k∨k=w.heap.size∨k=w.heap.size+1:=⟨_,rfl⟩
 rw[←hq] at hbody
 have hqD:q w.heap.size:=by rw[hq];exact .inr (.inl rfl)
 have hqL:q (w.heap.size+1):=by rw[hq];exact .inr (.inr rfl)
 have hkq:∀k,kp k→q k:=fun k hk=>by rw[hq];exact .inl hk
 have hown:∀k,own k→k<w.heap.size:=fun k hk=>hkp k (hok k hk)
 have hkL:¬kp (w.heap.size+1):=fun h=>by have:=hkp _ h;omega
 have hpD:p w.heap.size:=by rw[hp];exact .inr (.inl rfl)
 have hpL:p (w.heap.size+1):=by rw[hp];exact .inr (.inr rfl)
 have hop:∀k,own k→p k:=fun k hk=>by rw[hp];exact .inl hk
 have hoD:¬own w.heap.size:=fun h=>by have:=hown _ h;omega
 have hoL:¬own (w.heap.size+1):=fun h=>by have:=hown _ h;omega
 clear hp hq
 obtain⟨rec,hrec⟩:∃rec:LoopState→Option Code→Loop,rec=fun st pe=>{state:=st,pending:=pe,fn,tmps:=a.tmps,params:=ps,assign,body,defers:=w.heap.size}:=⟨_,rfl⟩
 obtain⟨W1,hW1⟩:∃W1,(w.alloc (.deferred (some []))).alloc (.loop (rec .ready none))=W1:=⟨_,rfl⟩
 have hL1:W1.heap[w.heap.size+1]?=some (.loop (rec .ready none)):=by
  rw[←hW1];have:=World.alloc_heap_new (w.alloc (.deferred (some []))) (.loop (rec .ready none));rwa[World.size_alloc] at this
 have hK1:W1.heap[w.heap.size]?=some (.deferred (some [])):=by
  rw[←hW1];exact(Below.heap_alloc _ _ _ (by simp)).trans (World.alloc_heap_new w _)
 have hO1:∀q:Nat→Prop,Only q w W1:=fun q=>by rw[←hW1];exact(yg w _).trans (yg _ _)
 have hI1:I [] W1:=hI _ _ _ h0 (hO1 _)
 refine⟨w.heap.size+1,[{target:=.collected w.heap.size,args:=#[]}],W1,{target:=.fn (.func gf) lb,args:=#[.func (.yield (w.heap.size+1)) #[] #[]]},W1,gf,
  #[.func (.yield (w.heap.size+1)) #[] #[]]++lb,W1,?_,?_,?_,?_,fun _=>h1,?_⟩
 ·rw[←hW1,hrec];exact run_enterLoop_outer _ _ _ _ _
 ·simp only[resolve,hg]
  simp[go_sem]
 ·intro f' hf';simp[Target.leads] at hf';subst hf';exact hFg
 ·simp[invoke,go_sem,eg]
 ·have hlt1:w.heap.size+1<W1.heap.size:=(Array.getElem?_eq_some_iff.1 hL1).1
  refine(hseq W1 (hO1 _) (w.heap.size+1)
   (fun pre W=>I pre W∧W.heap[w.heap.size+1]?=some (.loop (rec .ready none))∧W.heap[w.heap.size]?=some (.deferred (some [])))
   (fun pre W=>∃c,Ix c pre W∧W.heap[w.heap.size+1]?=some (.loop (rec .done (some c)))∧W.heap[w.heap.size]?=some (.deferred (some [])))
   (fun s A B hs hg'=>⟨hI s A B hs.1 (hg'.more fun k _=>hop k),hg'.same hs.2.1 hoL,hg'.same hs.2.2 hoD⟩)
   (fun s A B hs hg'=>by
    obtain⟨c,hc,hl,hk⟩:=hs
    exact⟨c,hIx c s A B hc (hg'.more fun k _=>hop k),hg'.same hl hoL,hg'.same hk hoD⟩)
   ?_ ⟨hI1,hL1,hK1⟩).mono ?_
  ·rintro pre x rest W hxs ⟨hi,hl,hk⟩
   have hlt:w.heap.size+1<W.heap.size:=(Array.getElem?_eq_some_iff.1 hl).1
   have hy:=run_yield (P:=P) (args:=#[enc x]) hl (by rw[hrec];simp[hps])
   rw[hrec] at hy
   refine⟨fn,_,assign,body,hy,roundIn_of_wpIn hfn (hassign _ x W _ ⟨_,run_beginRound hl (by rw[hrec]),?_⟩)⟩
   have hl2:(W.putObj (w.heap.size+1) (.loop {rec .ready none with state:=.busy})).heap[w.heap.size+1]?=some (.loop {rec .ready none with state:=.busy}):=World.putObj_heap_same hlt
   have hk2:(W.putObj (w.heap.size+1) (.loop {rec .ready none with state:=.busy})).heap[w.heap.size]?=some (.deferred (some [])):=(World.putObj_heap_other (by omega)).trans hk
   refine wpIn_mono (hbody _ pre x rest _ hxs (by simpa using hlt) (hI _ _ _ hi (qG _ _ _ hpL))) ?_
   have fin:∀(jump:Option Code) (W3:World),Only (fun k=>¬q k) (W.putObj (w.heap.size+1) (.loop {rec .ready none with state:=.busy})) W3 →
     (Instr.endRound (w.heap.size+1) jump).run P W3 = .ok (.bool jump.isNone) (W3.putObj (w.heap.size+1) (.loop (rec (if jump.isNone then .ready else .done) jump))) ∧
     W3.heap[w.heap.size+1]?=some (.loop {rec .ready none with state:=.busy}) ∧
     (W3.putObj (w.heap.size+1) (.loop (rec (if jump.isNone then .ready else .done) jump))).heap[w.heap.size+1]?=some (.loop (rec (if jump.isNone then .ready else .done) jump)) ∧
     (W3.putObj (w.heap.size+1) (.loop (rec (if jump.isNone then .ready else .done) jump))).heap[w.heap.size]?=some (.deferred (some [])):=fun jump W3 hk3=>by
    have hl3:=hk3.same hl2 (fun h=>h hqL)
    have:=run_endRound (P:=P) jump hl3
    rw[hrec] at this ⊢
    exact⟨this,by rw[hrec] at hl3;exact hl3,World.putObj_heap_same (Array.getElem?_eq_some_iff.1 hl3).1,(World.putObj_heap_other (by omega)).trans (hk3.same hk2 (fun h=>h hqD))⟩
   have hq1:∀(A B:World),Only (fun k=>¬q k) A B→Only (fun k=>¬kp k) A B:=fun A B h=>h.more fun k _ hn ho=>hn (hkq k ho)
   have hq2:∀(A:World) o,Only (fun k=>¬kp k) A (A.putObj (w.heap.size+1) o):=fun A o=>qG _ _ _ hkL
   rintro e a3 W3 hp3
   cases e with
   | normal =>
    obtain⟨hk3,hi3⟩:=hp3
    obtain⟨hr,hl3,hl4,hk4⟩:=fin none W3 hk3
    exact⟨_,_,hr,.inl ⟨rfl,⟨hI _ _ _ hi3 (qG _ _ _ hpL),hl4,hk4⟩,((hq2 _ _).trans (hq1 _ _ hk3)).trans (hq2 _ _)⟩⟩
   | ret =>
    obtain⟨hk3,hi3⟩:=hp3
    obtain⟨hr,hl3,hl4,hk4⟩:=fin (some .ret) W3 hk3
    exact⟨_,_,hr,.inr ⟨rfl,.ret,hIx _ _ _ _ hi3 (qG _ _ _ hpL),hl4,hk4⟩⟩
   | exit id =>
    obtain⟨hk3,hi3⟩:=hp3
    obtain⟨hr,hl3,hl4,hk4⟩:=fin (some (.exit id)) W3 hk3
    exact⟨_,_,hr,.inr ⟨rfl,.exit id,hIx _ _ _ _ hi3 (qG _ _ _ hpL),hl4,hk4⟩⟩
   | goto t =>
    obtain⟨hk3,hi3⟩:=hp3
    obtain⟨hr,hl3,hl4,hk4⟩:=fin (some (.goto t)) W3 hk3
    exact⟨_,_,hr,.inr ⟨rfl,.goto t,hIx _ _ _ _ hi3 (qG _ _ _ hpL),hl4,hk4⟩⟩
   | panic ch=>exact hp3.elim
   | outgrown=>exact hp3.elim
  ·rintro e W2 ⟨⟨v,rfl⟩,(⟨hi,hl,hk⟩|⟨pre,hSp,c,hi,hl,hk⟩)⟩
   ·have hlt2:w.heap.size+1<W2.heap.size:=(Array.getElem?_eq_some_iff.1 hl).1
    exact⟨none,_,by have:=run_endLoop (P:=P) hl (by rw[hrec];simp);rw[hrec] at this;exact this,hdone _ (by simpa using hlt2) (hI _ _ _ hi (qG _ _ _ hpL)) ((World.putObj_heap_other (by omega)).trans hk)⟩
   ·have hlt2:w.heap.size+1<W2.heap.size:=(Array.getElem?_eq_some_iff.1 hl).1
    exact⟨some c,_,by have:=run_endLoop (P:=P) hl (by rw[hrec];simp);rw[hrec] at this;exact this,hstop c pre _ (by simpa using hlt2) hSp (hIx c _ _ _ hi (qG _ _ _ hpL)) ((World.putObj_heap_other (by omega)).trans hk)⟩
end Go.Proofs.YtkkjaaognefeiaaGreatDoor
