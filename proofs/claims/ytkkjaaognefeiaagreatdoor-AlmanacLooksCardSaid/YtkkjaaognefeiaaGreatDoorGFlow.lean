/- Flow, Flow2, FlowG, FlowP -/
import Derived.StillTail
import Derived.Deep.RegionHeld
import Derived.Test.YtkkjaaognefeiaaGreatDoorGOwn
set_option maxRecDepth 100000
set_option maxHeartbeats 16000000
set_option linter.unusedVariables false
set_option linter.unusedSimpArgs false
namespace Go.Proofs.YtkkjaaognefeiaaGreatDoor
section
inductive Past (ops:Array Oper):Nat→Nat→Prop
 | edge {j:Nat} {o:Oper} {e:Edge} (h:ops[j]?=some o) (he:e∈o.after) (hb:Region.binds .any e=true):Past ops e.on j
 | trans {i k j:Nat} (h:Past ops i k) (g:Past ops k j):Past ops i j
theorem Past.listed {ops:Array Oper} {n:Nat} {listed:Array Bool} (inv:HeadInv .any ops n listed) {i j:Nat} (h:Past ops i j):listed.getD j false=true→listed.getD i false=true:=by
 induction h with
 | edge h he hb=>exact fun hl=>inv.closed _ _ h hl _ he hb
 | trans h g ih1 ih2=>exact fun hl=>ih1 (ih2 hl)
theorem Past.ready {ops:Array Oper} {n:Nat} {listed:Array Bool} (inv:HeadInv .any ops n listed) {i j:Nat} (h:Past ops i j):j∈Region.ready .any ops listed→listed.getD i false=true:=by
 induction h with
 | edge h he hb =>
  intro hr
  obtain⟨_,o,ho,hall⟩:=mem_ready.1 hr
  have:o=_:=Option.some.inj (ho.symm.trans h)
  subst this
  exact hall _ he hb
 | trans h g ih1 ih2=>exact fun hr=>h.listed inv (ih2 hr)
def Zm (P:Program) (R:Value→World→Prop):Result Next→Prop
 | .ok (.value v) w'=>R v w'
 | .ok .skip w'=>R undef w'
 | .ok (.enter f args) w'=>Calls P f args w' fun e w''=>match e with | .returned v=>R v w''|_=>False
 | .ok (.row row args) w'=>Rows P row args w' R
 | _=>False
def Zp (R:Value→World→Prop):Result Next→Prop
 | .ok (.value v) w'=>R v w'
 | .ok .skip w'=>R undef w'
 | _=>False
def Gives (P:Program) (ops:Array Oper) (o:Oper) (a:Act) (w:World) (R:Value→World→Prop):Prop :=
 if Region.wanted o (yielded ops a.tmps)=true then Zm P R ((execOp a.eval o).run P w) else R undef w
def Gives0 (P:Program) (ops:Array Oper) (o:Oper) (a:Act) (w:World) (R:Value→World→Prop):Prop :=
 if Region.wanted o (yielded ops a.tmps)=true then Zp R ((execOp a.eval o).run P w) else R undef w
section
variable {P:Program} {ops:Array Oper} {Q:Exit→Act→World→Prop}
theorem Gives.wpOp {i:Nat} {o:Oper} {a:Act} {w:World} {R:Value→World→Prop} {K:Act→World→Prop} (hi:ops[i]?=some o) (h:Gives P ops o a w R) (hK:∀v w',R v w'→K (a.put o.dst v) w') :
  Go.wpOp P ops Q i K a w:=by
 unfold Go.wpOp
 simp only[hi]
 unfold Gives at h
 split
 ·rename_i hw
  rw[if_pos hw] at h
  refine .inl ?_
  unfold Oper.wp
  generalize (execOp a.eval o).run P w=r at *
  cases r with
  | ok n w' =>
   cases n<;>simp only[Oper.upon,Zm] at h ⊢
   case value v=>exact hK _ _ h
   case skip=>exact hK _ _ h
   case enter f args =>
    refine Calls.mono h fun e w'' he=>?_
    cases e with
    | returned v=>exact hK _ _ he
    | panicked c=>exact he.elim
    | outgrown=>exact he.elim
   case row row args=>exact Rows.mono h fun v w'' he=>hK _ _ he
  | halt x w'=>exact h.elim
 ·rename_i hw
  rw[if_neg hw] at h
  exact hK _ _ h
theorem Gives0.gives {o:Oper} {a:Act} {w:World} {R:Value→World→Prop} (h:Gives0 P ops o a w R):Gives P ops o a w R:=by
 unfold Gives0 at h
 unfold Gives
 split
 ·rename_i hw
  rw[if_pos hw] at h
  generalize (execOp a.eval o).run P w=r at *
  cases r with
  | ok n w'=>cases n<;>simp only[Zp,Zm] at h ⊢<;>first|exact h|exact h.elim
  | halt x w'=>exact h.elim
 ·rename_i hw
  rw[if_neg hw] at h
  exact h
theorem Gives0.all {ι:Type} (i0:ι) {o:Oper} {a:Act} {w:World} {R:ι→Value→World→Prop} (h:∀i,Gives0 P ops o a w (R i)):Gives0 P ops o a w (fun v w'=>∀i,R i v w'):=by
 unfold Gives0 at *
 split
 ·rename_i hw
  simp only[if_pos hw] at h
  generalize (execOp a.eval o).run P w=r at *
  cases r with
  | ok n w' =>
   cases n<;>simp only[Zp] at h ⊢
   case value v=>exact h
   case skip=>exact h
   all_goals exact h i0
  | halt x w'=>exact h i0
 ·rename_i hw
  simp only[if_neg hw] at h
  exact h
theorem Gives.mono {o:Oper} {a:Act} {w:World} {R R':Value→World→Prop} (hR:∀v w',R v w'→R' v w') (h:Gives P ops o a w R):Gives P ops o a w R':=by
 unfold Gives at *
 split
 ·rename_i hw
  rw[if_pos hw] at h
  generalize (execOp a.eval o).run P w=r at *
  cases r with
  | ok n w' =>
   cases n<;>simp only[Zm] at h ⊢
   case value v=>exact hR _ _ h
   case skip=>exact hR _ _ h
   case enter f args =>
    refine Calls.mono h fun e w'' he=>?_
    cases e with
    | returned v=>exact hR _ _ he
    | panicked c=>exact he
    | outgrown=>exact he
   case row row args=>exact Rows.mono h fun v w'' he=>hR _ _ he
  | halt x w'=>exact h
 ·rename_i hw
  rw[if_neg hw] at h
  exact hR _ _ h
theorem Gives0.mono {o:Oper} {a:Act} {w:World} {R R':Value→World→Prop} (hR:∀v w',R v w'→R' v w') (h:Gives0 P ops o a w R):Gives0 P ops o a w R':=by
 unfold Gives0 at *
 split
 ·rename_i hw
  rw[if_pos hw] at h
  generalize (execOp a.eval o).run P w=r at *
  cases r with
  | ok n w' =>
   cases n<;>simp only[Zp] at h ⊢
   case value v=>exact hR _ _ h
   case skip=>exact hR _ _ h
  | halt x w'=>exact h
 ·rename_i hw
  rw[if_neg hw] at h
  exact hR _ _ h
theorem Gives.put {o:Oper} {a:Act} {w:World} {R:Value→World→Prop} (d:Option Tmp) (u:Value) (hs:∀cs b,o.op≠.select cs b) (h:∀t,d=some t→t∉o.looksAt ops) :
  Gives P ops o (a.put d u) w R↔Gives P ops o a w R:=by
 unfold Gives
 rw[wanted_put o a d u h,execOp_put o hs a d u h]
theorem Gives0.put {o:Oper} {a:Act} {w:World} {R:Value→World→Prop} (d:Option Tmp) (u:Value) (hs:∀cs b,o.op≠.select cs b) (h:∀t,d=some t→t∉o.looksAt ops) :
  Gives0 P ops o (a.put d u) w R↔Gives0 P ops o a w R:=by
 unfold Gives0
 rw[wanted_put o a d u h,execOp_put o hs a d u h]
end
structure Told where
 V:Value→Prop
 F:Value→World→Prop
def kQ (L:Nat→World→Prop) (k:Nat) (p:World→Prop):Nat→World→Prop:=fun i w=>L i w∧(i=k→p w)
structure Move (P:Program) (ops:Array Oper) (T:Nat→World→World→Prop) (C:Nat→World→Prop) (R:Nat→Option Told) (k:Nat) (o:Oper) (a:Act) (L:Nat→World→Prop) (t:Told):Prop where
 told:∀t',R k=some t'→t=t'
 step:∀w,C k w→(∀i,Past ops i k→L i w)→Gives P ops o a w (fun v w'=>t.V v∧t.F v w'∧T k w w')
 quiet:R k=none→∀w,C k w→(∀i,Past ops i k→L i w)→Gives0 P ops o a w (fun v w'=>t.V v∧t.F v w'∧T k w w')
 stable:∀j,j≠k→¬Past ops j k→∀v w w',T j w w'→t.F v w→t.F v w'
def wpAnyF (P:Program) (ops:Array Oper) (T:Nat→World→World→Prop) (C:Nat→World→Prop) (R:Nat→Option Told) (n:Nat) (D:Array Bool→Act→(Nat→World→Prop)→Prop):Nat→Array Bool→Act→(Nat→World→Prop)→Prop
 | 0,listed,a,L=>D listed a L
 | f+1,listed,a,L =>
  Region.ready .any ops listed≠[]∧∀j∈Region.ready .any ops listed,j<n∧∃o,ops[j]?=some o∧∃t,Move P ops T C R j o a L t ∧
   ∀v,t.V v→wpAnyF P ops T C R n D f (listed.setIfInBounds j true) (a.put o.dst v) (kQ L j (t.F v))
section
variable {P:Program} {ops:Array Oper} {Q:Exit→Act→World→Prop} {T:Nat→World→World→Prop} {C:Nat→World→Prop} {R:Nat→Option Told} {n:Nat} {D:Array Bool→Act→(Nat→World→Prop)→Prop}
theorem Move.mono {k:Nat} {o:Oper} {a:Act} {L L':Nat→World→Prop} {t:Told} (h:Move P ops T C R k o a L t) (hL:∀i w,L' i w→L i w):Move P ops T C R k o a L' t :=
 ⟨h.told,fun w hc hp=>h.step w hc (fun i hi=>hL _ _ (hp i hi)),fun hk w hc hp=>h.quiet hk w hc (fun i hi=>hL _ _ (hp i hi)),h.stable⟩
theorem wpAnyF.mono (hD:∀listed a L L',(∀i w,L' i w→L i w)→D listed a L→D listed a L'):∀(f:Nat) (listed:Array Bool) (a:Act) (L L':Nat→World→Prop),(∀i w,L' i w→L i w)→wpAnyF P ops T C R n D f listed a L→wpAnyF P ops T C R n D f listed a L'
 | 0,_,_,_,_,hL,h=>hD _ _ _ _ hL h
 | f+1,_,_,_,_,hL,h=>⟨h.1,fun j hj=>by
  obtain⟨hn,o,ho,t,hm,hr⟩:=h.2 j hj
  exact⟨hn,o,ho,t,hm.mono hL,fun v hv=>wpAnyF.mono hD f _ _ _ _ (fun i w hi=>⟨hL _ _ hi.1,hi.2⟩) (hr v hv)⟩⟩
theorem vE {g:Nat} (hC:∀j k w w',j≠k→T j w w'→C k w→C k w') (hD:∀listed a L,D listed a L→∀w,C n w→(∀i,L i w)→wpAny P .any ops Q g listed a w) :
  ∀(f:Nat) (listed:Array Bool) (a:Act) (L:Nat→World→Prop) (w:World),HeadInv .any ops n listed→((∀k,listed.getD k true=false→C k w)∧C n w)→(∀i,L i w)→(∀i,listed.getD i false=false→∀w,L i w)→(∀i j,j≠i→¬Past ops j i→∀w w',T j w w'→L i w→L i w')→wpAnyF P ops T C R n D f listed a L→wpAny P .any ops Q (f+g) listed a w
 | 0,listed,a,L,w,_,hc,hl,_,hst,h=>by rw[Nat.zero_add];exact hD _ _ _ h w hc.2 hl
 | f+1,listed,a,L,w,inv,hc,hl,hun,hst,h=>by
  rw[show f+1+g=(f+g)+1 by omega]
  refine⟨fun h0=>absurd h0 h.1,fun j hj=>?_⟩
  obtain⟨hn,o,ho,t,hm,hr⟩:=h.2 j hj
  have hjun:=(mem_ready.1 hj).1
  refine(hm.step w (hc.1 j hjun) (fun i _=>hl i)).wpOp ho fun v w' ⟨hv,hF,hTw⟩=>?_
  have hA:∀i,L i w':=fun i=>by
   by_cases hij:listed.getD i false=false
   ·exact hun i hij w'
   ·have hil:listed.getD i false=true:=by simpa using hij
    refine hst i j (fun e=>?_) (fun hp=>?_) _ _ hTw (hl i)
    ·rw[←e,getD_both hjun] at hil;cases hil
    ·have:=hp.listed inv hil;rw[getD_both hjun] at this;cases this
  have hU:∀i,(listed.setIfInBounds j true).getD i false=false→∀w,kQ L j (t.F v) i w:=fun i hi w1=>by
   have hij:j≠i:=fun e=>by
    subst e
    have hlt:j<listed.size:=by
     rcases Nat.lt_or_ge j listed.size with h'|h'
     ·exact h'
     ·simp[Array.getElem?_eq_none h'] at hjun
    simp[hlt] at hi
   rw[getD_set_ne false hij] at hi
   exact⟨hun i hi w1,fun e=>absurd e.symm hij⟩
  have hCC:(∀k,(listed.setIfInBounds j true).getD k true=false→C k w')∧C n w':=⟨fun k hk=>by
   have hjk:j≠k:=fun e=>by
    subst e
    rcases Nat.lt_or_ge j listed.size with h'|h'
    ·simp[h'] at hk
    ·simp[Array.getElem?_eq_none (show(listed.setIfInBounds j true).size≤j by simpa using h')] at hk
   rw[getD_set_ne true hjk] at hk
   exact hC j k _ _ hjk hTw (hc.1 k hk),hC j n _ _ (by omega) hTw hc.2⟩
  exact vE hC hD f _ _ _ w' (inv.set hj hn) hCC (fun i=>⟨hA i,fun e=>hF⟩) hU (fun i k hne hnp w1 w2 h12 h1=>⟨hst i k hne hnp _ _ h12 h1.1,fun e=>hm.stable k (e▸hne) (e▸hnp) _ _ _ h12 (h1.2 e)⟩) (hr v hv)
theorem ZS {i:Nat} {oi:Oper} {t:Told} (hsome:∃v,t.V v) (hi:ops[i]?=some oi) (hsel:∀(j:Nat) (o:Oper) cs b,ops[j]?=some o→o.op≠.select cs b)
  (hw:∀(listed:Array Bool) (i:Nat),HeadInv .any ops n listed→i<n→listed.getD i true=false→∀s,n≤s→s∉Region.ready .any ops listed) (hin:i<n)
  (hmono:∀listed a L L',(∀i w,L' i w→L i w)→D listed a L→D listed a L')
  (hdone:∀listed a L,D listed a L→∀j∈Region.ready .any ops listed,n≤j) :
  ∀(f:Nat) (listed:Array Bool) (a:Act) (L:Nat→World→Prop),HeadInv .any ops n listed →
   (∀j oj,ops[j]?=some oj→j≠i→listed.getD j true=false→(∀e∈oj.after,Region.binds .any e=true→e.on≠i)→oi.apart ops oj=true) →
   i∈Region.ready .any ops listed→Move P ops T C R i oi a L t →
   (∀v,t.V v→wpAnyF P ops T C R n D f (listed.setIfInBounds i true) (a.put oi.dst v) (kQ L i (t.F v)))→wpAnyF P ops T C R n D (f+1) listed a L:=by
 intro f
 induction f with
 | zero =>
  intro listed a L inv _ hr hy H
  have hun:=(mem_ready.1 hr).1
  refine⟨fun h=>(by rw[h] at hr;cases hr),fun j hj=>?_⟩
  have hjn:j<n:=by
   rcases Nat.lt_or_ge j n with h|h
   ·exact h
   ·exact absurd hj (hw listed i inv hin hun j h)
  refine⟨hjn,?_⟩
  by_cases hji:j=i
  ·subst hji;exact⟨oi,hi,t,hy,H⟩
  ·obtain⟨v,hv⟩:=hsome
   have:=hdone _ _ _ (H v hv) j (ready_mono hj hji)
   omega
 | succ f ih =>
  intro listed a L inv hfree hr hy H
  have hun:=(mem_ready.1 hr).1
  refine⟨fun h=>(by rw[h] at hr;cases hr),fun j hj=>?_⟩
  have hjn:j<n:=by
   rcases Nat.lt_or_ge j n with h|h
   ·exact h
   ·exact absurd hj (hw listed i inv hin hun j h)
  refine⟨hjn,?_⟩
  by_cases hji:j=i
  ·subst hji;exact⟨oi,hi,t,hy,H⟩
  ·obtain⟨v1,hv1⟩:=hsome
   obtain⟨hjun,oj,hoj,hall⟩:=mem_ready.1 hj
   have hnot:∀e∈oj.after,Region.binds .any e=true→e.on≠i:=fun e he hb heq=>by
    have h1:=hall e he hb
    rw[heq,getD_both hun] at h1
    cases h1
   have hap:=hfree j oj hoj hji hjun hnot
   obtain⟨h1,h2,h3⟩:=Oper.apart_spec hap
   have hsi:=fun cs b=>hsel i oi cs b hi
   have hsj:=fun cs b=>hsel j oj cs b hoj
   have hnp:¬Past ops i j:=fun hp=>by have:=hp.ready inv hj;rw[getD_both hun] at this;cases this
   have hfree':∀k ok,ops[k]?=some ok→k≠i→(listed.setIfInBounds j true).getD k true=false →
     (∀e∈ok.after,Region.binds .any e=true→e.on≠i)→oi.apart ops ok=true:=fun k ok hk hki hun hno=>by
    refine hfree k ok hk hki ?_ hno
    by_cases hjk:j=k
    ·subst hjk;exact hjun
    ·rw[getD_set_ne true hjk] at hun;exact hun
   have HJ:∀v,t.V v→∃tj,Move P ops T C R j oj (a.put oi.dst v) (kQ L i (t.F v)) tj ∧
     ∀u,tj.V u→wpAnyF P ops T C R n D f ((listed.setIfInBounds i true).setIfInBounds j true) ((a.put oi.dst v).put oj.dst u) (kQ (kQ L i (t.F v)) j (tj.F u)):=fun v hv=>by
    obtain⟨_,oj',hoj',tj,hm,hrest⟩:=(H v hv).2 j (ready_mono hj hji)
    have:oj'=oj:=Option.some.inj (hoj'.symm.trans hoj)
    subst this
    exact⟨tj,hm,hrest⟩
   have facts:∀v w,(∀k,Past ops k j→L k w)→∀k,Past ops k j→kQ L i (t.F v) k w:=fun v w hp k hk=>⟨hp k hk,fun e=>absurd (e▸hk) hnp⟩
   have keepI:∀u (p:World→Prop),Move P ops T C R i oi (a.put oj.dst u) (kQ L j p) t:=fun u p =>
    ⟨hy.told,fun w hc hp=>(Gives.put _ _ hsi h3).2 (hy.step w hc (fun k hk=>(hp k hk).1)),fun hk w hc hp=>(Gives0.put _ _ hsi h3).2 (hy.quiet hk w hc (fun k hk=>(hp k hk).1)),hy.stable⟩
   refine⟨oj,hoj,?_⟩
   cases hR:R j with
   | some tr =>
    have hall:∀v,t.V v→∀u,tr.V u→wpAnyF P ops T C R n D f ((listed.setIfInBounds i true).setIfInBounds j true) ((a.put oi.dst v).put oj.dst u) (kQ (kQ L i (t.F v)) j (tr.F u)):=fun v hv u hu=>by
     obtain⟨tj,hm,hrest⟩:=HJ v hv
     have:=hm.told tr hR
     subst this
     exact hrest u hu
    obtain⟨tj,hm,_⟩:=HJ v1 hv1
    have:=hm.told tr hR
    subst this
    refine⟨tj,⟨hm.told,fun w hc hp=>(Gives.put _ _ hsj h1).1 (hm.step w hc (facts _ _ hp)),fun hk=>(by rw[hR] at hk;cases hk),hm.stable⟩,fun u hu=>?_⟩
    refine ih _ _ _ (inv.set hj hjn) hfree' (ready_mono hr (Ne.symm hji)) (keepI u _) fun v hv=>?_
    have:=hall v hv u hu
    rw[Array.setIfInBounds_comm _ _ hji,←Act.put_comm a v u h2]
    exact wpAnyF.mono hmono _ _ _ _ _ (fun k w hk=>⟨⟨hk.1.1,hk.2⟩,hk.1.2⟩) this
   | none =>
    let TJ:{v // t.V v}→Told:=fun v=>(HJ v.1 v.2).choose
    have hTJ:∀v:{v // t.V v},Move P ops T C R j oj (a.put oi.dst v.1) (kQ L i (t.F v.1)) (TJ v)∧_:=fun v=>(HJ v.1 v.2).choose_spec
    have hq:∀w,C j w→(∀k,Past ops k j→L k w)→Gives0 P ops oj a w (fun u w'=>(∀v:{v // t.V v},(TJ v).V u)∧(∀v:{v // t.V v},(TJ v).F u w')∧T j w w'):=fun w hc hp=>by
     have:=Gives0.all (P:=P) (ops:=ops) (o:=oj) (a:=a) (w:=w) (⟨v1,hv1⟩:{v // t.V v}) (R:=fun v u w'=>(TJ v).V u∧(TJ v).F u w'∧T j w w')
      (fun v=>(Gives0.put _ _ hsj h1).1 ((hTJ v).1.quiet hR w hc (facts _ _ hp)))
     exact this.mono fun u w' h=>⟨fun v=>(h v).1,fun v=>(h v).2.1,(h ⟨v1,hv1⟩).2.2⟩
    refine⟨⟨fun u=>∀v:{v // t.V v},(TJ v).V u,fun u w=>∀v:{v // t.V v},(TJ v).F u w⟩,⟨fun t' ht=>(by rw[hR] at ht;cases ht),fun w hc hp=>(hq w hc hp).gives,fun _=>hq,fun j' h1' h2' u w w' hTw hF v=>(hTJ v).1.stable j' h1' h2' _ _ _ hTw (hF v)⟩,fun u hu=>?_⟩
    refine ih _ _ _ (inv.set hj hjn) hfree' (ready_mono hr (Ne.symm hji)) (keepI u _) fun v hv=>?_
    have:=(hTJ ⟨v,hv⟩).2 u (hu ⟨v,hv⟩)
    rw[Array.setIfInBounds_comm _ _ hji,←Act.put_comm a v u h2]
    exact wpAnyF.mono hmono _ _ _ _ _ (fun k w hk=>⟨⟨hk.1.1,hk.2⟩,fun e=>hk.1.2 e ⟨v,hv⟩⟩) this
def wpFlow (P:Program) (ops:Array Oper) (T:Nat→World→World→Prop) (C:Nat→World→Prop) (R:Nat→Option Told) (E:Act→World→Prop):List Oper→Nat→Act→(Nat→World→Prop)→Prop
 | [],k,a,L=>∀w,C k w→(∀i,L i w)→E a w
 | o::rest,k,a,L=>∃t:Told,(∃v,t.V v)∧Move P ops T C R k o a L t∧∀v,t.V v→wpFlow P ops T C R E rest (k+1) (a.put o.dst v) (kQ L k (t.F v))
theorem wpFlow.mono {E:Act→World→Prop}:∀(l:List Oper) (k:Nat) (a:Act) (L L':Nat→World→Prop),(∀i w,L' i w→L i w)→wpFlow P ops T C R E l k a L→wpFlow P ops T C R E l k a L'
 | [],_,_,_,_,hL,h=>fun w hc hl=>h w hc (fun i=>hL _ _ (hl i))
 | _::l,_,_,_,_,hL,⟨t,hs,hm,hr⟩=>⟨t,hs,hm.mono hL,fun v hv=>wpFlow.mono l _ _ _ _ (fun i w hi=>⟨hL _ _ hi.1,hi.2⟩) (hr v hv)⟩
theorem vv {g:Nat} {E:Act→World→Prop} (hsel:Region.noSelect ops=true)
  (hw:∀(listed:Array Bool) (i:Nat),HeadInv .any ops n listed→i<n→listed.getD i true=false→∀s,n≤s→s∉Region.ready .any ops listed) :
  ∀(l:List Oper) (k:Nat) (listed:Array Bool) (a:Act) (L:Nat→World→Prop),(∀j,j<l.length→l[j]?=ops[k+j]?)→k+l.length=n→HeadInv .any ops n listed →
  Region.lexHead .any ops g l.length k listed=true→wpFlow P ops T C R E l k a L →
  wpAnyF P ops T C R n (fun listed' a' L'=>Region.seqB .any ops g n listed'=true∧∀w,C n w→(∀i,L' i w)→E a' w) l.length listed a L
 | [],k,listed,a,L,_,hk,_,hB,h=>by
  have:k=n:=by simpa using hk
  subst this
  exact⟨by simpa[Region.lexHead] using hB,h⟩
 | o::l,k,listed,a,L,hl,hk,inv,hB,⟨t,hs,hm,hrest⟩=>by
  have h0:ops[k]?=some o:=by simpa using(hl 0 (by simp)).symm
  simp only[List.length_cons,Region.lexHead,Bool.and_eq_true] at hB
  obtain⟨⟨hr,hf⟩,hB'⟩:=hB
  have hkn:k<n:=by simp only[List.length_cons] at hk;omega
  have hr':k∈Region.ready .any ops listed:=by simpa using hr
  exact ZS hs h0 (Region.noSelect_spec hsel) hw hkn (fun listed a L L' hL h=>⟨h.1,fun w hc hl=>h.2 w hc (fun i=>hL _ _ (hl i))⟩) (fun listed' a' L' hL=>seqB_ready hL.1) l.length listed a L inv (Region.free_spec h0 hf) hr' hm
   (fun v hv=>vv hsel hw l (k+1) _ _ _ (fun j hj=>by have:=hl (j+1) (by simp;omega);simpa[Nat.add_assoc,Nat.add_comm 1 j] using this) (by simp only[List.length_cons] at hk;omega) (inv.set hr' hkn) hB' (hrest v hv))
def Region.lexAllB (ops:Array Oper):Bool:=Region.noSelect ops&&Region.lexHead .any ops 0 ops.size 0 (Array.replicate ops.size false)
theorem jet {id:Nat} {a:Act} {w:World} {l:List Oper} (T:Nat→World→World→Prop) (C:Nat→World→Prop) (R:Nat→Option Told) (hm:P.follows .mixedOrders=true) (hB:Region.lexAllB l.toArray=true)
  (hC:∀j k w w',j≠k→T j w w'→C k w→C k w') (hc:∀k,C k w.drew)
  (h:wpFlow P l.toArray T C R (fun a' w'=>Q .normal a' w') l 0 a (fun _ _=>True)):(Code.region id l.toArray true).wp P Q a w:=by
 simp only[Region.lexAllB,Bool.and_eq_true] at hB
 obtain⟨hsel,hlex⟩:=hB
 have inv0:HeadInv .any l.toArray l.toArray.size (Array.replicate l.toArray.size false) :=
  ⟨by simp,fun j oj _ hl=>(by rw[getD_replicate_false] at hl;cases hl),fun t ht ht'=>absurd ht' (by omega)⟩
 have H:=vv (g:=0) (n:=l.toArray.size) hsel (fun listed i inv hi hun s hs hr=>by
  obtain⟨_,o,ho,_⟩:=mem_ready.1 hr
  have:=(Array.getElem?_eq_some_iff.1 ho).1
  omega) l 0 _ a _ (fun j _=>by simp) (by simp) inv0 (by simpa using hlex) h
 refine wp_region_any hm ?_
 have:=vE (Q:=Q) (g:=0) hC (fun listed a' L hL w' hc' hl=>by
  have hr:Region.ready .any l.toArray listed=[]:=by simpa[Region.seqB] using hL.1
  exact⟨hr,hL.2 w' hc' hl⟩) _ _ _ _ w.drew inv0 ⟨fun k _=>hc k,hc _⟩ (fun _=>trivial) (fun _ _ _=>trivial) (fun _ _ _ _ _ _ _ h=>h) H
 simpa using this
theorem vI {id:Nat} {a:Act} {w:World} {l:List Oper} (n:Nat) (T:Nat→World→World→Prop) (C:Nat→World→Prop) (R:Nat→Option Told) (hm:P.follows .mixedOrders=true) (hB:Region.lexTailB .any l.toArray n=true)
  (hC:∀j k w w',j≠k→T j w w'→C k w→C k w') (hc:∀k,C k w.drew)
  (h:wpFlow P l.toArray T C R (fun a' w'=>wpList P l.toArray Q (l.drop n) a' w') (l.take n) 0 a (fun _ _=>True)):(Code.region id l.toArray true).wp P Q a w:=by
 simp only[Region.lexTailB,Bool.and_eq_true,decide_eq_true_eq] at hB
 obtain⟨⟨⟨⟨hsel,hn⟩,hs⟩,hch⟩,hlex⟩:=hB
 have hn':n<l.length:=by simpa using hn
 have htl:(l.take n).length=n:=by simp;omega
 have hdl:(l.drop n).length=l.toArray.size-n:=by simp
 have inv0:HeadInv .any l.toArray n (Array.replicate l.toArray.size false) :=
  ⟨by simp,fun j oj _ hl=>(by rw[getD_replicate_false] at hl;cases hl),fun t _ ht=>getD_in (by simpa using ht) (getD_replicate_false _ _)⟩
 have H:=vv (g:=l.toArray.size-n) (n:=n) hsel (fun listed i inv hi hun s hs'=>tail_waits hs hch hn inv _ i rfl hi hun s hs') (l.take n) 0 _ a _ (fun j hj=>by
  have hj':j<n:=by rw[htl] at hj;exact hj
  simp[hj']) (by simpa using htl) inv0 (by rw[htl];exact hlex) h
 refine wp_region_any hm ?_
 have:=vE (Q:=Q) (g:=l.toArray.size-n) hC (fun listed a' L hL w' hc' hl=>by
  have:=wpAny_of_seq (md:=.any) (Q':=Q) (l.drop n) n listed a' w' (fun j=>by simp[List.getElem?_drop]) (by rw[hdl];exact hL.1) (hL.2 w' hc' hl)
  rwa[hdl] at this) _ _ _ _ w.drew inv0 ⟨fun k _=>hc k,hc _⟩ (fun _=>trivial) (fun _ _ _=>trivial) (fun _ _ _ _ _ _ _ h=>h) H
 rw[htl,show n+(l.toArray.size-n)=l.toArray.size by omega] at this
 exact this
end
end
section
open Go.RowKit
def Vy (ops:Array Oper):Nat→List Nat→List Nat
 | 0,S=>S
 | i+1,S=>Vy ops i (if S.any (fun x=>Region.waitsFor .any ops x i) then i::S else S)
def yH (ops:Array Oper) (j:Nat) (use:List Nat):Bool:=use.all fun i=>decide (i≠j)&&(Vy ops j [j]).contains i
theorem Jd {ops:Array Oper} {j:Nat}:∀(n:Nat) (S:List Nat),(∀x∈S,x=j∨Past ops x j)→∀x∈Vy ops n S,x=j∨Past ops x j
 | 0,_,h=>h
 | n+1,S,h=>by
  refine Jd n _ ?_
  split
  ·rename_i hs
   intro x hx
   rcases List.mem_cons.1 hx with rfl|hx
   ·obtain⟨y,hy,hw⟩:=List.any_eq_true.1 hs
    obtain⟨oj,hoj,e,he,hb,hon⟩:=Region.waitsFor_spec hw
    have hp:Past ops x y:=hon▸Past.edge hoj he hb
    rcases h y hy with rfl|h2
    ·exact .inr hp
    ·exact .inr (hp.trans h2)
   ·exact h x hx
  ·exact h
theorem zx {ops:Array Oper} {j:Nat} {use:List Nat} (h:yH ops j use=true) (i:Nat) (hi:i∈use):Past ops i j:=by
 have:=List.all_eq_true.1 h i hi
 simp only[Bool.and_eq_true,decide_eq_true_eq,List.contains_iff_mem] at this
 exact(Jd j [j] (fun x hx=>.inl (by simpa using hx)) i this.2).resolve_left this.1
abbrev xK:=Nat×(World→Prop)
def lf (l:List xK):Nat→World→Prop:=fun i w=>∀p∈l,p.1=i→p.2 w
def vy (use:List Nat):List xK→World→Prop
 | [],_=>True
 | p::l,w=>(if p.1∈use then p.2 w else True)∧vy use l w
theorem xZ {use:List Nat} {w:World}:∀(l:List xK),(∀i,i∈use→lf l i w)→vy use l w
 | [],_=>trivial
 | p::l,h=>⟨by split;· rename_i hp;exact h _ hp p (List.mem_cons_self ..) rfl
               ·trivial,xZ l fun i hi q hq e=>h i hi q (List.mem_cons_of_mem _ hq) e⟩
theorem zZ {use:List Nat} {k:Nat} {p:World→Prop} {l:List xK} {w:World} (h:vy (k::use) ((k,p)::l) w):p w:=by
 have:=h.1
 rwa[if_pos (List.mem_cons_self ..)] at this
theorem VP {use:List Nat} {k:Nat} {p:World→Prop} {w:World}:∀{l:List xK},(l.find? fun q=>q.1==k)=some (k,p)→vy (use) l w→k∈use→p w
 | [],h,_,_=>by simp at h
 | q::l,h,hu,hk=>by
  rw[List.find?_cons] at h
  split at h
  ·cases h
   have:=hu.1
   rwa[if_pos hk] at this
  ·exact VP h hu.2 hk
theorem yh {L:List xK} {k:Nat} {p:World→Prop} (i:Nat) (w:World) (h:kQ (lf L) k p i w):lf ((k,p)::L) i w:=by
 intro q hq e
 rcases List.mem_cons.1 hq with rfl|hq
 ·exact h.2 e.symm
 ·exact h.1 q hq e
def jer:List xK→World→Prop
 | [],_=>True
 | p::l,w=>p.2 w∧jer l w
theorem Zn {w:World}:∀(l:List xK),(∀i,lf l i w)→jer l w
 | [],_=>trivial
 | p::l,h=>⟨h p.1 p (List.mem_cons_self ..) rfl,Zn l fun i q hq e=>h i q (List.mem_cons_of_mem _ hq) e⟩
def bel (w w':World):Prop:=Below w.heap.size w w'
def trans (S:Nat→Option (World→World→Prop)) (j:Nat) (w w':World):Prop:=match S j with|none=>bel w w'|some T=>T w w'
theorem qN {S:Nat→Option (World→World→Prop)} {j:Nat} {w w':World} (h:S j=none) (hb:Below w.heap.size w w'):trans S j w w':=by unfold trans;rw[h];exact hb
theorem Qk {S:Nat→Option (World→World→Prop)} {j:Nat} {w w':World} {T:World→World→Prop} (h:S j=some T) (hb:T w w'):trans S j w w':=by unfold trans;rw[h];exact hb
def vp (ops:Array Oper) (S:Nat→Option (World→World→Prop)) (k:Nat) (p:World→Prop):Prop:=∀j T,S j=some T→j≠k→¬Past ops j k→∀w w',T w w'→p w→p w'
theorem xC {ops:Array Oper} {S:Nat→Option (World→World→Prop)} {k:Nat} {p:World→Prop} (hb:∀w w',Below w.heap.size w w'→p w→p w') (hk:vp ops S k p) (j:Nat) (hne:j≠k) (hp:¬Past ops j k) (w w':World) (h:trans S j w w') (hw:p w):p w':=by
 unfold trans at h
 split at h
 ·exact hb _ _ h hw
 ·rename_i T hT;exact hk j T hT hne hp _ _ h hw
abbrev qU (P:Program) (ops:Array Oper) (S:Nat→Option (World→World→Prop)) (w0:World) (R:Nat→Option Told) (E:Act→World→Prop) (l:List Oper) (k:Nat) (a:Act) (L:List xK):Prop :=
 wpFlow P ops (trans S) (fun _=>Below w0.heap.size w0) R E l k a (lf L)
def noW (_:Nat):Option (World→World→Prop):=none
abbrev zT (P:Program) (ops:Array Oper) (w0:World) (R:Nat→Option Told) (E:Act→World→Prop) (l:List Oper) (k:Nat) (a:Act) (L:List xK):Prop :=
 qU P ops noW w0 R E l k a L
theorem kR {ops:Array Oper} {k:Nat} {p:World→Prop}:vp ops noW k p:=fun j T h=>by cases h
def det (v:Value):Told:=⟨fun u=>u=v,fun _ _=>True⟩
def jy (l:List (Nat×Told)) (k:Nat):Option Told:=l.lookup k
def y9 (l:List (Nat×(World→World→Prop))) (k:Nat):Option (World→World→Prop):=l.lookup k
theorem xz {m j:Nat} {T T':World→World→Prop} (h:y9 [(m,T)] j=some T'):j=m∧T'=T:=by
 unfold y9 at h
 simp only[List.lookup] at h
 split at h
 ·rename_i e;exact⟨by simpa using e,(Option.some.inj h).symm⟩
 ·cases h
theorem xe {ops:Array Oper} {m k:Nat} {T:World→World→Prop} {p:World→Prop} (h:∀w w',T w w'→p w→p w'):vp ops (y9 [(m,T)]) k p:=fun j T' hT _ _ w w' hw hp=>by
 obtain⟨_,rfl⟩:=xz hT
 exact h _ _ hw hp
theorem QM {ops:Array Oper} {m:Nat} {T:World→World→Prop} {p:World→Prop}:vp ops (y9 [(m,T)]) m p:=fun j T' hT hne _ _ _ _ _=>absurd (xz hT).1 hne
section
variable {P:Program} {ops:Array Oper} {S:Nat→Option (World→World→Prop)} {w0:World} {R:Nat→Option Told} {E:Act→World→Prop} {o:Oper} {rest:List Oper} {k:Nat} {a:Act} {L:List xK}
theorem jo (h:∀w,Below w0.heap.size w0 w→jer L w→E a w):qU P ops S w0 R E [] k a L:=fun w hb hl=>h w hb (Zn L hl)
theorem qP {v:Value} (hS:S k=none) (hR:R k=none) (hw:Region.wanted o (yielded ops a.tmps)=true)
  (h:∀w,Below w0.heap.size w0 w→(execOp a.eval o).run P w = .ok (.value v) w) (hr:qU P ops S w0 R E rest (k+1) (a.put o.dst v) L):qU P ops S w0 R E (o::rest) k a L:=by
 refine⟨⟨fun u=>u=v,fun _ _=>True⟩,⟨v,rfl⟩,⟨fun t' ht=>(by rw[hR] at ht;cases ht),fun w hc _=>?_,fun _ w hc _=>?_,fun _ _ _ _ _ _ _ h=>h⟩,fun u hu=>?_⟩
 ·unfold Gives;rw[if_pos hw,h w hc];exact⟨rfl,trivial,qN hS (Below.refl _ _)⟩
 ·unfold Gives0;rw[if_pos hw,h w hc];exact⟨rfl,trivial,qN hS (Below.refl _ _)⟩
 ·subst hu;exact wpFlow.mono _ _ _ _ _ (fun i w h=>h.1) hr
theorem qy (hS:S k=none) (hR:R k=none) (hw:Region.wanted o (yielded ops a.tmps)=false) (hr:qU P ops S w0 R E rest (k+1) (a.put o.dst undef) L):qU P ops S w0 R E (o::rest) k a L:=by
 have hw':¬Region.wanted o (yielded ops a.tmps)=true:=by rw[hw];simp
 refine⟨⟨fun u=>u=undef,fun _ _=>True⟩,⟨undef,rfl⟩,⟨fun t' ht=>(by rw[hR] at ht;cases ht),fun w hc _=>?_,fun _ w hc _=>?_,fun _ _ _ _ _ _ _ h=>h⟩,fun u hu=>?_⟩
 ·unfold Gives;rw[if_neg hw'];exact⟨rfl,trivial,qN hS (Below.refl _ _)⟩
 ·unfold Gives0;rw[if_neg hw'];exact⟨rfl,trivial,qN hS (Below.refl _ _)⟩
 ·subst hu;exact wpFlow.mono _ _ _ _ _ (fun i w h=>h.1) hr
theorem Q9 (mk:Nat→Value) {t:TypeId} {cs:Array Value} (hK:∀g,vp ops S k (fun w=>Box w g t cs)) (hS:S k=none) (hR:R k=none) (hw:Region.wanted o (yielded ops a.tmps)=true) (hmk:∀g g',mk g=mk g'→g=g')
  (h:∀w,Below w0.heap.size w0 w→(execOp a.eval o).run P w = .ok (.value (mk w.heap.size)) (w.alloc (.cells cs t)))
  (hr:∀g,w0.heap.size≤g→qU P ops S w0 R E rest (k+1) (a.put o.dst (mk g)) ((k,fun w=>Box w g t cs)::L)):qU P ops S w0 R E (o::rest) k a L:=by
 refine⟨⟨fun u=>∃g,w0.heap.size≤g∧u=mk g,fun u w=>∀g,u=mk g→Box w g t cs⟩,⟨_,w0.heap.size,Nat.le_refl _,rfl⟩,⟨fun t' ht=>(by rw[hR] at ht;cases ht),fun w hc _=>?_,fun _ w hc _=>?_,fun j hne hp u w w' ht h g e=>xC (fun _ _ hb hx=>hx.below hb) (hK g) j hne hp _ _ ht (h g e)⟩,fun u hu=>?_⟩
 ·unfold Gives;rw[if_pos hw,h w hc];exact⟨⟨_,hc.size,rfl⟩,fun g e=>hmk _ _ e▸Box.new _ _ _,qN hS (ja _ _)⟩
 ·unfold Gives0;rw[if_pos hw,h w hc];exact⟨⟨_,hc.size,rfl⟩,fun g e=>hmk _ _ e▸Box.new _ _ _,qN hS (ja _ _)⟩
 ·obtain⟨g,hg,rfl⟩:=hu
  exact wpFlow.mono _ _ _ _ _ (fun i w h=>yh i w ⟨h.1,fun e=>h.2 e g rfl⟩) (hr g hg)
theorem jaE {t:TypeId} {cs:Array Value} (hK:∀g,vp ops S k (fun w=>Box w g t cs)) (hS:S k=none) (hR:R k=none) (hw:Region.wanted o (yielded ops a.tmps)=true)
  (h:∀w,Below w0.heap.size w0 w→(execOp a.eval o).run P w = .ok (.value (.pointer (some ⟨w.heap.size,0,none⟩))) (w.alloc (.cells cs t)))
  (hr:∀g,w0.heap.size≤g→qU P ops S w0 R E rest (k+1) (a.put o.dst (.pointer (some ⟨g,0,none⟩))) ((k,fun w=>Box w g t cs)::L)):qU P ops S w0 R E (o::rest) k a L :=
 Q9 (fun g=>.pointer (some ⟨g,0,none⟩)) hK hS hR hw (fun g g' e=>by simpa using e) h hr
theorem Vn {n c:Nat} {t:TypeId} {cs:Array Value} (hK:∀g,vp ops S k (fun w=>Box w g t cs)) (hS:S k=none) (hR:R k=none) (hw:Region.wanted o (yielded ops a.tmps)=true)
  (h:∀w,Below w0.heap.size w0 w→(execOp a.eval o).run P w = .ok (.value (.slice (some ⟨w.heap.size,0,none⟩) n c)) (w.alloc (.cells cs t)))
  (hr:∀g,w0.heap.size≤g→qU P ops S w0 R E rest (k+1) (a.put o.dst (.slice (some ⟨g,0,none⟩) n c)) ((k,fun w=>Box w g t cs)::L)):qU P ops S w0 R E (o::rest) k a L :=
 Q9 (fun g=>.slice (some ⟨g,0,none⟩) n c) hK hS hR hw (fun g g' e=>by simpa using e) h hr
theorem zA {t:Told} {f:FuncId} {args:Array Value} (use:List Nat) (hu:yH ops k use=true) (hK:∀v,vp ops S k (t.F v)) (hS:S k=none) (hR:R k=some t) (hw:Region.wanted o (yielded ops a.tmps)=true) (hs:∃v,t.V v) (hst:∀v w w',Below w.heap.size w w'→t.F v w→t.F v w')
  (h:∀w,Below w0.heap.size w0 w→(execOp a.eval o).run P w = .ok (.enter f args) w)
  (hc:∀w,Below w0.heap.size w0 w→vy use L w→Calls P f args w fun e w'=>∃v,e = .returned v∧t.V v∧t.F v w'∧Below w.heap.size w w')
  (hr:∀v,t.V v→qU P ops S w0 R E rest (k+1) (a.put o.dst v) ((k,t.F v)::L)):qU P ops S w0 R E (o::rest) k a L:=by
 refine⟨t,hs,⟨fun t' ht=>(by rw[hR] at ht;exact Option.some.inj ht),fun w hc' hp=>?_,fun hk=>(by rw[hR] at hk;cases hk),fun j hne hp v w w' ht h=>xC (hst v) (hK v) j hne hp _ _ ht h⟩,fun u hu=>?_⟩
 ·unfold Gives
  rw[if_pos hw,h w hc']
  refine Calls.mono (hc w hc' (xZ L fun i hi=>hp i (zx hu i hi))) fun e w' ⟨v,he,h1,h2,h3⟩=>?_
  subst he
  exact⟨h1,h2,qN hS h3⟩
 ·exact wpFlow.mono _ _ _ _ _ (fun i w h=>yh i w ⟨h.1,h.2⟩) (hr u hu)
theorem Y8 {v:Value} {f:FuncId} {args:Array Value} (use:List Nat) (hu:yH ops k use=true) (hS:S k=none) (hR:R k=some (det v)) (hw:Region.wanted o (yielded ops a.tmps)=true)
  (h:∀w,Below w0.heap.size w0 w→(execOp a.eval o).run P w = .ok (.enter f args) w)
  (hc:∀w,Below w0.heap.size w0 w→vy use L w→Calls P f args w fun e w'=>e = .returned v∧Below w.heap.size w w')
  (hr:qU P ops S w0 R E rest (k+1) (a.put o.dst v) L):qU P ops S w0 R E (o::rest) k a L:=by
 refine zA use hu (fun v j T _ _ _ _ _ _ h=>h) hS hR hw ⟨v,rfl⟩ (fun _ _ _ _ h=>h) h (fun w hb hl=>(hc w hb hl).mono fun e w' ⟨he,hb'⟩=>⟨v,he,rfl,trivial,hb'⟩) fun u hu=>?_
 subst hu
 exact wpFlow.mono _ _ _ _ _ (fun i w h q hq e=>h q (List.mem_cons_of_mem _ hq) e) hr
end
section
variable {P:Program} {ops:Array Oper} {w0:World} {R:Nat→Option Told} {E:Act→World→Prop} {o:Oper} {rest:List Oper} {k:Nat} {a:Act} {L:List xK}
theorem jf {v:Value} (hR:R k=none) (hw:Region.wanted o (yielded ops a.tmps)=true)
  (h:∀w,Below w0.heap.size w0 w→(execOp a.eval o).run P w = .ok (.value v) w) (hr:zT P ops w0 R E rest (k+1) (a.put o.dst v) L):zT P ops w0 R E (o::rest) k a L:=qP rfl hR hw h hr
theorem je (hR:R k=none) (hw:Region.wanted o (yielded ops a.tmps)=false) (hr:zT P ops w0 R E rest (k+1) (a.put o.dst undef) L):zT P ops w0 R E (o::rest) k a L:=qy rfl hR hw hr
theorem zH {t:TypeId} {cs:Array Value} (hR:R k=none) (hw:Region.wanted o (yielded ops a.tmps)=true)
  (h:∀w,Below w0.heap.size w0 w→(execOp a.eval o).run P w = .ok (.value (.pointer (some ⟨w.heap.size,0,none⟩))) (w.alloc (.cells cs t)))
  (hr:∀g,w0.heap.size≤g→zT P ops w0 R E rest (k+1) (a.put o.dst (.pointer (some ⟨g,0,none⟩))) ((k,fun w=>Box w g t cs)::L)):zT P ops w0 R E (o::rest) k a L:=jaE (fun _=>kR) rfl hR hw h hr
theorem kV {n c:Nat} {t:TypeId} {cs:Array Value} (hR:R k=none) (hw:Region.wanted o (yielded ops a.tmps)=true)
  (h:∀w,Below w0.heap.size w0 w→(execOp a.eval o).run P w = .ok (.value (.slice (some ⟨w.heap.size,0,none⟩) n c)) (w.alloc (.cells cs t)))
  (hr:∀g,w0.heap.size≤g→zT P ops w0 R E rest (k+1) (a.put o.dst (.slice (some ⟨g,0,none⟩) n c)) ((k,fun w=>Box w g t cs)::L)):zT P ops w0 R E (o::rest) k a L:=Vn (fun _=>kR) rfl hR hw h hr
theorem jl {t:Told} {f:FuncId} {args:Array Value} (use:List Nat) (hu:yH ops k use=true) (hR:R k=some t) (hw:Region.wanted o (yielded ops a.tmps)=true) (hs:∃v,t.V v) (hst:∀v w w',Below w.heap.size w w'→t.F v w→t.F v w')
  (h:∀w,Below w0.heap.size w0 w→(execOp a.eval o).run P w = .ok (.enter f args) w)
  (hc:∀w,Below w0.heap.size w0 w→vy use L w→Calls P f args w fun e w'=>∃v,e = .returned v∧t.V v∧t.F v w'∧Below w.heap.size w w')
  (hr:∀v,t.V v→zT P ops w0 R E rest (k+1) (a.put o.dst v) ((k,t.F v)::L)):zT P ops w0 R E (o::rest) k a L:=zA use hu (fun _=>kR) rfl hR hw hs hst h hc hr
theorem j8 {v:Value} {f:FuncId} {args:Array Value} (use:List Nat) (hu:yH ops k use=true) (hR:R k=some (det v)) (hw:Region.wanted o (yielded ops a.tmps)=true)
  (h:∀w,Below w0.heap.size w0 w→(execOp a.eval o).run P w = .ok (.enter f args) w)
  (hc:∀w,Below w0.heap.size w0 w→vy use L w→Calls P f args w fun e w'=>e = .returned v∧Below w.heap.size w w')
  (hr:zT P ops w0 R E rest (k+1) (a.put o.dst v) L):zT P ops w0 R E (o::rest) k a L:=Y8 use hu rfl hR hw h hc hr
theorem yx {id:Nat} {Q:Exit→Act→World→Prop} {w:World} {l:List Oper} (S:Nat→Option (World→World→Prop)) (R:Nat→Option Told) (hm:P.follows .mixedOrders=true) (hB:Region.lexAllB l.toArray=true)
  (hS:∀j T,S j=some T→∀w1 w2,T w1 w2→Below w.heap.size w w1→Below w.heap.size w w2)
  (h:qU P l.toArray S w R (fun a' w'=>Q .normal a' w') l 0 a []):(Code.region id l.toArray true).wp P Q a w :=
 jet (trans S) (fun _=>Below w.heap.size w) R hm hB (fun j k w1 w2 _ ht h'=>by
  unfold trans at ht
  split at ht
  ·exact jb h' ht
  ·rename_i T hT;exact hS j T hT _ _ ht h') (fun _=>jd (Below.refl _ _) 1) (wpFlow.mono _ _ _ _ _ (fun i w _ q hq=>by cases hq) h)
theorem kK {id:Nat} {Q:Exit→Act→World→Prop} {w:World} {l:List Oper} (n:Nat) (S:Nat→Option (World→World→Prop)) (R:Nat→Option Told) (hm:P.follows .mixedOrders=true) (hB:Region.lexTailB .any l.toArray n=true)
  (hS:∀j T,S j=some T→∀w1 w2,T w1 w2→Below w.heap.size w w1→Below w.heap.size w w2)
  (h:qU P l.toArray S w R (fun a' w'=>wpList P l.toArray Q (l.drop n) a' w') (l.take n) 0 a []):(Code.region id l.toArray true).wp P Q a w :=
 vI n (trans S) (fun _=>Below w.heap.size w) R hm hB (fun j k w1 w2 _ ht h'=>by
  unfold trans at ht
  split at ht
  ·exact jb h' ht
  ·rename_i T hT;exact hS j T hT _ _ ht h') (fun _=>jd (Below.refl _ _) 1) (wpFlow.mono _ _ _ _ _ (fun i w _ q hq=>by cases hq) h)
theorem ju {id:Nat} {Q:Exit→Act→World→Prop} {w:World} {l:List Oper} (R:Nat→Option Told) (hm:P.follows .mixedOrders=true) (hB:Region.lexAllB l.toArray=true)
  (h:zT P l.toArray w R (fun a' w'=>Q .normal a' w') l 0 a []):(Code.region id l.toArray true).wp P Q a w :=
 yx noW R hm hB (fun j T h=>by cases h) h
theorem jr {id:Nat} {Q:Exit→Act→World→Prop} {w:World} {l:List Oper} (n:Nat) (R:Nat→Option Told) (hm:P.follows .mixedOrders=true) (hB:Region.lexTailB .any l.toArray n=true)
  (h:zT P l.toArray w R (fun a' w'=>wpList P l.toArray Q (l.drop n) a' w') (l.take n) 0 a []):(Code.region id l.toArray true).wp P Q a w :=
 kK n noW R hm hB (fun j T h=>by cases h) h
end
end
section
open Go.RowKit
theorem jj {w w':World} {row:Option Nat} (h:Below w.heap.size w w'):w.grownBy w' row:=⟨h.os,h.tape,h.output,h.size,fun k hk _=>h.block k hk⟩
def xu (m:Nat) (row:Option Nat) (j:Nat) (w w':World):Prop:=if j=m then w.grownBy w' row else bel w w'
def QA (m:Nat) (w0:World) (row:Option Nat) (k:Nat) (w:World):Prop:=if k=m then Below w0.heap.size w0 w else w0.grownBy w row
theorem qM {m k:Nat} {w0 w:World} {row:Option Nat} (h:QA m w0 row k w):w0.grownBy w row:=by
 unfold QA at h
 split at h
 ·exact jj h
 ·exact h
theorem ze {m k:Nat} {w w':World} {row:Option Nat} (h:Below w.heap.size w w'):xu m row k w w':=by
 unfold xu
 split
 ·exact jj h
 ·exact h
theorem yc {m k:Nat} {w w':World} {row:Option Nat} (h:xu m row k w w'):w.grownBy w' row:=by
 unfold xu at h
 split at h
 ·exact h
 ·exact jj h
theorem jaj {m:Nat} {w0:World} {row:Option Nat} (j k:Nat) (w w':World) (hjk:j≠k) (ht:xu m row j w w') (h:QA m w0 row k w):QA m w0 row k w':=by
 unfold QA at *
 split
 ·rename_i e
  rw[if_pos e] at h
  unfold xu at ht
  rw[if_neg (fun e'=>hjk (e'.trans e.symm))] at ht
  exact jb h ht
 ·rename_i e
  rw[if_neg e] at h
  exact World.grownBy.trans h (yc ht)
abbrev zL (P:Program) (ops:Array Oper) (m:Nat) (w0:World) (row:Option Nat) (R:Nat→Option Told) (E:Act→World→Prop) (l:List Oper) (k:Nat) (a:Act) (L:List xK):Prop :=
 wpFlow P ops (xu m row) (QA m w0 row) R E l k a (lf L)
section
variable {P:Program} {ops:Array Oper} {m:Nat} {row:Option Nat} {w0:World} {R:Nat→Option Told} {E:Act→World→Prop} {o:Oper} {rest:List Oper} {k:Nat} {a:Act} {L:List xK}
theorem QN (h:∀w,w0.grownBy w row→jer L w→E a w):zL P ops m w0 row R E [] k a L:=fun w hb hl=>h w (qM hb) (Zn L hl)
theorem vb {v:Value} (hR:R k=none) (hw:Region.wanted o (yielded ops a.tmps)=true)
  (h:∀w,w0.grownBy w row→(execOp a.eval o).run P w = .ok (.value v) w) (hr:zL P ops m w0 row R E rest (k+1) (a.put o.dst v) L):zL P ops m w0 row R E (o::rest) k a L:=by
 refine⟨⟨fun u=>u=v,fun _ _=>True⟩,⟨v,rfl⟩,⟨fun t' ht=>(by rw[hR] at ht;cases ht),fun w hc _=>?_,fun _ w hc _=>?_,fun _ _ _ _ _ _ _ h=>h⟩,fun u hu=>?_⟩
 ·unfold Gives;rw[if_pos hw,h w (qM hc)];exact⟨rfl,trivial,ze (Below.refl _ _)⟩
 ·unfold Gives0;rw[if_pos hw,h w (qM hc)];exact⟨rfl,trivial,ze (Below.refl _ _)⟩
 ·subst hu;exact wpFlow.mono _ _ _ _ _ (fun i w h=>h.1) hr
theorem ye (hR:R k=none) (hw:Region.wanted o (yielded ops a.tmps)=false) (hr:zL P ops m w0 row R E rest (k+1) (a.put o.dst undef) L):zL P ops m w0 row R E (o::rest) k a L:=by
 have hw':¬Region.wanted o (yielded ops a.tmps)=true:=by rw[hw];simp
 refine⟨⟨fun u=>u=undef,fun _ _=>True⟩,⟨undef,rfl⟩,⟨fun t' ht=>(by rw[hR] at ht;cases ht),fun w hc _=>?_,fun _ w hc _=>?_,fun _ _ _ _ _ _ _ h=>h⟩,fun u hu=>?_⟩
 ·unfold Gives;rw[if_neg hw'];exact⟨rfl,trivial,ze (Below.refl _ _)⟩
 ·unfold Gives0;rw[if_neg hw'];exact⟨rfl,trivial,ze (Below.refl _ _)⟩
 ·subst hu;exact wpFlow.mono _ _ _ _ _ (fun i w h=>h.1) hr
theorem JF {n c:Nat} {t:TypeId} {cs:Array Value} (hrow:∀b,row=some b→b<w0.heap.size) (hR:R k=none) (hw:Region.wanted o (yielded ops a.tmps)=true)
  (h:∀w,w0.grownBy w row→(execOp a.eval o).run P w = .ok (.value (.slice (some ⟨w.heap.size,0,none⟩) n c)) (w.alloc (.cells cs t)))
  (hr:∀g,w0.heap.size≤g→zL P ops m w0 row R E rest (k+1) (a.put o.dst (.slice (some ⟨g,0,none⟩) n c)) ((k,fun w=>Box w g t cs)::L)):zL P ops m w0 row R E (o::rest) k a L:=by
 refine⟨⟨fun u=>∃g,w0.heap.size≤g∧u = .slice (some ⟨g,0,none⟩) n c,fun u w=>∀g,w0.heap.size≤g→u = .slice (some ⟨g,0,none⟩) n c→Box w g t cs⟩,⟨_,w0.heap.size,Nat.le_refl _,rfl⟩,⟨fun t' ht=>(by rw[hR] at ht;cases ht),fun w hc _=>?_,fun _ w hc _=>?_,fun j hne hp u w w' ht h g hg e=>(h g hg e).grown (yc ht) (fun e'=>absurd (hrow g e'.symm) (by omega))⟩,fun u hu=>?_⟩
 ·unfold Gives;rw[if_pos hw,h w (qM hc)];exact⟨⟨_,(qM hc).size,rfl⟩,fun g hg e=>(show w.heap.size=g from by simpa using e)▸Box.new _ _ _,ze (ja _ _)⟩
 ·unfold Gives0;rw[if_pos hw,h w (qM hc)];exact⟨⟨_,(qM hc).size,rfl⟩,fun g hg e=>(show w.heap.size=g from by simpa using e)▸Box.new _ _ _,ze (ja _ _)⟩
 ·obtain⟨g,hg,rfl⟩:=hu
  exact wpFlow.mono _ _ _ _ _ (fun i w h=>yh i w ⟨h.1,fun e=>h.2 e g hg rfl⟩) (hr g hg)
theorem xS {id:Nat} {Q:Exit→Act→World→Prop} {w:World} {l:List Oper} (n m:Nat) (row:Option Nat) (R:Nat→Option Told) (hm:P.follows .mixedOrders=true) (hB:Region.lexTailB .any l.toArray n=true)
  (h:zL P l.toArray m w row R (fun a' w'=>wpList P l.toArray Q (l.drop n) a' w') (l.take n) 0 a []):(Code.region id l.toArray true).wp P Q a w :=
 vI n (xu m row) (QA m w row) R hm hB (fun j k w1 w2 hjk ht h'=>jaj j k w1 w2 hjk ht h') (fun k=>by
  unfold QA
  split
  ·exact jd (Below.refl _ _) 1
  ·exact jj (jd (Below.refl _ _) 1)) (wpFlow.mono _ _ _ _ _ (fun i w _ q hq=>by cases hq) h)
end
end
section
open Go Go.RowKit
section
variable {P:Program} {ops:Array Oper} {w0:World} {R:Nat→Option Told} {E:Act→World→Prop} {o:Oper} {rest:List Oper} {k:Nat} {a:Act} {L:List xK}
end
def BoxN (w:World) (g:Nat) (t:TypeId) (n:Nat):Prop:=∃cs:Array Value,cs.size=n∧Box w g t cs
theorem BoxN.below {w w':World} {g:Nat} {t:TypeId} {n:Nat} (h:BoxN w g t n) (hb:Below w.heap.size w w'):BoxN w' g t n:=by
 obtain⟨cs,e,hx⟩:=h
 exact⟨cs,e,hx.below hb⟩
section
variable {P:Program} {ops:Array Oper} {S:Nat→Option (World→World→Prop)} {w0:World} {R:Nat→Option Told} {E:Act→World→Prop} {o:Oper} {rest:List Oper} {k:Nat} {a:Act} {L:List xK}
theorem Qd {t:TypeId} {cs:Array Value} {n:Nat} (hn:cs.size=n) (hK:∀g,vp ops S k (fun w=>BoxN w g t n)) (hS:S k=none) (hR:R k=none) (hw:Region.wanted o (yielded ops a.tmps)=true)
  (h:∀w,Below w0.heap.size w0 w→(execOp a.eval o).run P w = .ok (.value (.pointer (some ⟨w.heap.size,0,none⟩))) (w.alloc (.cells cs t)))
  (hr:∀g,w0.heap.size≤g→qU P ops S w0 R E rest (k+1) (a.put o.dst (.pointer (some ⟨g,0,none⟩))) ((k,fun w=>BoxN w g t n)::L)):qU P ops S w0 R E (o::rest) k a L:=by
 have hmk:∀g g':Nat,(Value.pointer (some ⟨g,0,none⟩)) = .pointer (some ⟨g',0,none⟩)→g=g':=fun g g' e=>by simpa using e
 refine⟨⟨fun u=>∃g:Nat,w0.heap.size≤g∧u = .pointer (some ⟨g,0,none⟩),fun u w=>∀g:Nat,u = .pointer (some ⟨g,0,none⟩)→BoxN w g t n⟩,⟨_,w0.heap.size,Nat.le_refl _,rfl⟩,⟨fun t' ht=>(by rw[hR] at ht;cases ht),fun w hc _=>?_,fun _ w hc _=>?_,fun j hne hp u w w' ht h g e=>xC (fun _ _ hb hx=>hx.below hb) (hK g) j hne hp _ _ ht (h g e)⟩,fun u hu=>?_⟩
 ·unfold Gives;rw[if_pos hw,h w hc];exact⟨⟨_,hc.size,rfl⟩,fun g e=>⟨cs,hn,hmk _ _ e▸Box.new _ _ _⟩,qN hS (ja _ _)⟩
 ·unfold Gives0;rw[if_pos hw,h w hc];exact⟨⟨_,hc.size,rfl⟩,fun g e=>⟨cs,hn,hmk _ _ e▸Box.new _ _ _⟩,qN hS (ja _ _)⟩
 ·obtain⟨g,hg,rfl⟩:=hu
  exact wpFlow.mono _ _ _ _ _ (fun i w h=>yh i w ⟨h.1,fun e=>h.2 e g rfl⟩) (hr g hg)
theorem Ja {F:World→Prop} {T:World→World→Prop} (use:List Nat) (hu:yH ops k use=true) (hK:vp ops S k F) (hS:S k=some T) (hR:R k=none) (hw:Region.wanted o (yielded ops a.tmps)=true) (hst:∀w w',Below w.heap.size w w'→F w→F w')
  (h:∀w,Below w0.heap.size w0 w→vy use L w→∃w',(execOp a.eval o).run P w = .ok .skip w'∧F w'∧T w w')
  (hr:qU P ops S w0 R E rest (k+1) (a.put o.dst undef) ((k,F)::L)):qU P ops S w0 R E (o::rest) k a L:=by
 refine⟨⟨fun u=>u=undef,fun _=>F⟩,⟨undef,rfl⟩,⟨fun t' ht=>(by rw[hR] at ht;cases ht),fun w hc hp=>?_,fun _ w hc hp=>?_,fun j hne hp v w w' ht h=>xC hst hK j hne hp _ _ ht h⟩,fun u hu=>?_⟩
 ·obtain⟨w',hrun,h2,h3⟩:=h w hc (xZ L fun i hi=>hp i (zx hu i hi))
  unfold Gives;rw[if_pos hw,hrun];exact⟨rfl,h2,Qk hS h3⟩
 ·obtain⟨w',hrun,h2,h3⟩:=h w hc (xZ L fun i hi=>hp i (zx hu i hi))
  unfold Gives0;rw[if_pos hw,hrun];exact⟨rfl,h2,Qk hS h3⟩
 ·subst hu
  exact wpFlow.mono _ _ _ _ _ (fun i w h=>yh i w ⟨h.1,h.2⟩) hr
end
end
end Go.Proofs.YtkkjaaognefeiaaGreatDoor
