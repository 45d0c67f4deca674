/- CatOk, CatOk2, CatOk3, FePlain -/
import Derived.Test.YtkkjaaognefeiaaGreatDoorGCatData
import Derived.Test.YtkkjaaognefeiaaGreatDoorGObs6b
import Derived.Test.YtkkjaaognefeiaaGreatDoorGPlainCal
set_option maxRecDepth 100000
set_option maxHeartbeats 16000000
set_option linter.unusedVariables false
set_option linter.unusedSimpArgs false
namespace Go.Proofs.YtkkjaaognefeiaaGreatDoor
section
open Go.RowKit
def V6 (l:List UInt8):Bool:=decide (1≤l.length)&&decide (l.length≤12)&&!(l==[121])&&!(l==[97,110,100])&&!(l==[111,114])&&!(l==[110,111,116])&&l.all (fun b=>decide (97≤b.toNat∧b.toNat≤122))
theorem Xw (s:ByteArray) (h:V6 s.data.toList=true):qo s:=by
 unfold V6 at h
 simp only[Bool.and_eq_true,decide_eq_true_eq,Bool.not_eq_true',beq_eq_false_iff_ne] at h
 obtain⟨⟨⟨⟨⟨⟨h1,h2⟩,h3⟩,h4⟩,h5⟩,h6⟩,h7⟩:=h
 have hl:s.data.toList.length=s.size:=Array.length_toList
 rw[hl] at h1 h2
 refine⟨h1,h2,?_,?_,?_,?_,fun k hk=>?_⟩
 ·rw[Lib.toList_data];exact h3
 ·rw[Lib.toList_data];exact h4
 ·rw[Lib.toList_data];exact h5
 ·rw[Lib.toList_data];exact h6
 ·have hk':k<s.data.toList.length:=by omega
  have:=List.all_eq_true.1 h7 s.data.toList[k] (List.getElem_mem hk')
  simp only[decide_eq_true_eq,Array.getElem_toList] at this
  exact this
mutual
def reB:RE→Bool
 | .node k n _ _ ks=>decide (1≤k)&&decide (k≤13)&&decide (ks.length=yt k)&&decide (0≤n)&&decide (n≤if k=1 then 2147483647 else 0)&&jeF ks
def jeF:List RE→Bool
 | []=>true
 | x::r=>reB x&&jeF r
end
mutual
theorem jbr:∀t:RE,reB t=true→ReOk t
 | .node k n A c ks,h=>by
  rw[reB] at h
  simp only[Bool.and_eq_true,decide_eq_true_eq] at h
  exact .mk ⟨h.1.1.1.1.1,h.1.1.1.1.2,h.1.1.1.2,h.1.1.2,h.1.2⟩ (VW ks h.2)
theorem VW:∀ks:List RE,jeF ks=true→∀x∈ks,ReOk x
 | [],_,x,hx=>by cases hx
 | y::r,h,x,hx=>by
  rw[jeF,Bool.and_eq_true] at h
  rcases List.mem_cons.1 hx with e|hx
  ·rw[e];exact jbr y h.1
  ·exact VW r h.2 x hx
end
def mthB (l:List Mth) (i:Nat):Bool:=V6 (l.getD i jF).nm.data.toList&&!((l.take i).any (fun x=>x.nm.data.toList==(l.getD i jF).nm.data.toList))&&decide (0≤(l.getD i jF).sh∧(l.getD i jF).sh≤400)&&decide (0≤(l.getD i jF).lo∧(l.getD i jF).lo≤400)
def jcC (l:List Mth):Bool:=decide (1≤l.length)&&decide (l.length≤20)&&(List.range l.length).all (mthB l)&&decide (qI l≠0)&&decide (zd l≠0)
theorem jbT (l:List Mth) (h:jcC l=true):MthsOk l:=by
 unfold jcC at h
 simp only[Bool.and_eq_true,decide_eq_true_eq] at h
 obtain⟨⟨⟨⟨h1,h2⟩,h3⟩,h4⟩,h5⟩:=h
 refine⟨h1,h2,fun i hi=>?_,h4,h5⟩
 have h6:=List.all_eq_true.1 h3 i (List.mem_range.2 hi)
 unfold mthB at h6
 simp only[Bool.and_eq_true,decide_eq_true_eq,Bool.not_eq_true'] at h6
 refine⟨Xw _ h6.1.1.1,?_,h6.1.2,h6.2⟩
 have:=h6.1.1.2
 simp only[Lib.toList_data]
 exact this
def trB (t:Tr):Bool:=V6 t.nm.data.toList&&decide (-4000000≤t.ep∧t.ep≤4000000)&&decide (1≤t.cy∧t.cy≤3000)&&reB t.ex&&decide (sz t.ex≤60)&&decide (ht t.ex≤12)&&jcC t.mo
theorem jfY (t:Tr) (h:trB t=true):TrOk t:=by
 unfold trB at h
 simp only[Bool.and_eq_true,decide_eq_true_eq] at h
 exact⟨⟨Xw _ h.1.1.1.1.1.1,h.1.1.1.1.1.2,h.1.1.1.1.2⟩,⟨jbr _ h.1.1.1.2,h.1.1.2,h.1.2⟩,jbT _ h.2⟩
theorem Ql (r:CatRow) (hr:r∈jN):TrOk r.t∧(zS r.t).length≤4000∧r.t.nm=str r.nm:=by
 have h:jN.all (fun r=>trB r.t&&decide ((zS r.t).length≤4000)&&r.t.nm.data.toList==r.nm)=true:=by decide +kernel
 have h1:=List.all_eq_true.1 h r hr
 simp only[Bool.and_eq_true,decide_eq_true_eq,beq_iff_eq] at h1
 refine⟨jfY _ h1.1.1,h1.1.2,?_⟩
 rw[←h1.2]
 exact(vW _).symm
theorem V3 (r r':CatRow) (hr:r∈jN) (hr':r'∈jN) (h:r.nm=r'.nm):r=r':=by
 have hd:(jN.map CatRow.nm).Nodup:=by decide +kernel
 obtain⟨i,hi,rfl⟩:=List.getElem_of_mem hr
 obtain⟨j,hj,rfl⟩:=List.getElem_of_mem hr'
 have:i=j:=(List.getElem_inj (h₀:=by simpa using hi) (h₁:=by simpa using hj) hd).1 (by simpa using h)
 subst this
 rfl
structure CalOf (r:CatRow) (c:Cal):Prop where
 nm:c.nm=str r.nm
 ep:c.ep=r.t.ep
 cy:c.cy=r.t.cy
 mo:c.mo=r.t.mo
 lp:c.lp=r.t.leaps r.t.cy.toNat
theorem jfh (r:CatRow) (hr:r∈jN) (i:Nat) (hi:(i:Int)<r.t.cy):(jB ((i:Int)+1) r.t.ex).2=0:=by
 have h:jN.all (fun r=>(List.range r.t.cy.toNat).all fun i=>(jB ((i:Int)+1) r.t.ex).2==0)=true:=by decide +kernel
 have h1:=List.all_eq_true.1 (List.all_eq_true.1 h r hr) i (List.mem_range.2 (by omega))
 simpa using h1
theorem CalOf.on {r:CatRow} {c c':Cal} (h:CalOf r c) (h':CalOf r c') (y:Int) (m:Nat) (d n:Int):IsOn c y m d n↔IsOn c' y m d n:=by
 have e1:c.ep=c'.ep:=by rw[h.ep,h'.ep]
 have e2:c.cy=c'.cy:=by rw[h.cy,h'.cy]
 have e3:c.mo=c'.mo:=by rw[h.mo,h'.mo]
 have e4:c.lp=c'.lp:=by rw[h.lp,h'.lp]
 have f1:c.lpy y=c'.lpy y:=by unfold Cal.lpy Cal.pl;rw[e2,e4]
 have f2:c.mlen y m=c'.mlen y m:=by unfold Cal.mlen;rw[f1,e3]
 have f3:c.pre y m=c'.pre y m:=by unfold Cal.pre;rw[f1,e3]
 have f4:c.ny y=c'.ny y:=by unfold Cal.ny;rw[e1,e2,e3,e4]
 exact⟨fun a=>⟨by rw[←e3];exact a.m1,a.d0,by rw[←f2];exact a.d1,by rw[←f4,←f3];exact a.on⟩,fun a=>⟨by rw[e3];exact a.m1,a.d0,by rw[f2];exact a.d1,by rw[f4,f3];exact a.on⟩⟩
end
section
open Go Go.RowKit
inductive FE where
 | node (k a b:Int) (nm:ByteArray) (A:Option Addr) (c:Nat) (ks:List FE)
def fe0:FE:=.node 0 0 0 ⟨#[]⟩ none 0 []
def feF:FE→List Value
 | .node k a b nm A c ks=>[.int .i64 k,.int .i64 a,.int .i64 b,.string nm,.slice A ks.length c]
def feC:FE→Array Value
 | .node k a b nm A c ks=>#[.int .i64 k,.int .i64 a,.int .i64 b,.string nm,.slice A ks.length c]
def feV:FE→Value
 | .node k a b nm A c ks=>.agg #[.int .i64 k,.int .i64 a,.int .i64 b,.string nm,.slice A ks.length c]
theorem qw (a:FE):(feF a).length=5:=by cases a;rfl
inductive FeIn (w:World) (B:Nat):FE→Prop
 | mk {k a b:Int} {nm:ByteArray} {A:Option Addr} {c:Nat} {ks:List FE} (hk:I64 k) (ha:I64 a) (hb:I64 b) (hs:nm.size≤maxLen) (hl:ks.length≤maxLen) (row:Row w B A (ks.flatMap feF)) (kids:∀x∈ks,FeIn w B x):FeIn w B (.node k a b nm A c ks)
theorem FeIn.next {w w':World} {B B':Nat} {t:FE} (h:FeIn w B t) (hb:Below B w w') (hB:B≤B'):FeIn w' B' t:=by
 induction h with
 | mk hk ha hb' hs hl row kids ih=>exact .mk hk ha hb' hs hl ((row.below hb).more hB) ih
def zO (k:Int):Nat:=if k=7∨k=8∨k=12 then 1 else if k=9∨k=10∨k=11 then 2 else 0
def usA (k:Int):Bool:=!(decide (k=9)||decide (k=10)||decide (k=11))
def usB (k:Int):Bool:=decide (k=1)||decide (k=12)||decide (k=4)||decide (k=6)
def usN (k:Int):Bool:=decide (k=1)||decide (k=12)||decide (k=2)
def JD (k:Int):Bool:=decide (k=8)||decide (k=12)
def js (d:Int):Prop:=-4000000≤d∧d≤4000000
def j9 (k a b:Int) (mo:Nat):Prop :=
 if k=1 then(1≤a∧a≤mo)∧(1≤b∧b≤400) else if k=2 then 1≤a∧a≤mo else if k=3∨k=8 then 0≤a∧a≤6 else if k=4 then(1≤a∧a≤100000)∧(0≤b∧b≤a-1)
 else if k=5 then js a else if k=6 then js a∧js b∧a≤b else if k=7 then -400≤a∧a≤400 else if k=12 then(-50≤a∧a≤50)∧a≠0∧(0≤b∧b≤mo) else True
structure FeNode (k a b:Int) (nm:ByteArray) (len:Nat):Prop where
 k0:1≤k
 k1:k≤12
 len:len=zO k
 ua:usA k=false→a=0
 ub:usB k=false→b=0
 un:usN k=false→nm.size=0
 rg:usN k=false→j9 k a b 0
 cal:usN k=true→∃r∈jN,str r.nm=nm∧j9 k a b r.t.mo.length
inductive FeOk:FE→Prop
 | mk {k a b:Int} {nm:ByteArray} {A:Option Addr} {c:Nat} {ks:List FE} (node:FeNode k a b nm ks.length) (kids:∀x∈ks,FeOk x):FeOk (.node k a b nm A c ks)
mutual
def fsz:FE→Nat
 | .node _ _ _ _ _ _ ks=>zK ks+1
def zK:List FE→Nat
 | []=>0
 | x::r=>fsz x+zK r
end
mutual
def fht:FE→Nat
 | .node _ _ _ _ _ _ ks=>xL ks+1
def xL:List FE→Nat
 | []=>0
 | x::r=>max (fht x) (xL r)
end
mutual
def fdh:FE→Nat
 | .node k _ _ _ _ _ ks=>vd ks+(if JD k then 1 else 0)
def vd:List FE→Nat
 | []=>0
 | x::r=>max (fdh x) (vd r)
end
structure FeGood (t:FE):Prop where
 ok:FeOk t
 sz:fsz t≤40
 ht:fht t≤10
 dh:fdh t≤2
theorem KC (ks:List FE) (k:Nat) (h:k<ks.length):zK (ks.take (k+1))=zK (ks.take k)+fsz (ks.getD k fe0):=by
 induction ks generalizing k with
 | nil=>simp at h
 | cons x r ih =>
  cases k with
  | zero=>simp[zK]
  | succ k=>simp only[List.take_succ_cons,zK];rw[ih k (by simpa using h)];simp;omega
theorem Za (ks:List FE) (k:Nat) (h:k<ks.length):xL (ks.take (k+1))=max (xL (ks.take k)) (fht (ks.getD k fe0)):=by
 induction ks generalizing k with
 | nil=>simp at h
 | cons x r ih =>
  cases k with
  | zero=>simp[xL]
  | succ k=>simp only[List.take_succ_cons,xL];rw[ih k (by simpa using h)];simp
theorem KT (ks:List FE) (k:Nat) (h:k<ks.length):vd (ks.take (k+1))=max (vd (ks.take k)) (fdh (ks.getD k fe0)):=by
 induction ks generalizing k with
 | nil=>simp at h
 | cons x r ih =>
  cases k with
  | zero=>simp[vd]
  | succ k=>simp only[List.take_succ_cons,vd];rw[ih k (by simpa using h)];simp
theorem KI (ks:List FE) (k:Nat):zK (ks.take k)≤zK ks:=by
 induction ks generalizing k with
 | nil=>simp
 | cons x r ih =>
  cases k with
  | zero=>simp[zK]
  | succ k=>simp only[List.take_succ_cons,zK];have:=ih k;omega
theorem Zf (ks:List FE) (k:Nat):xL (ks.take k)≤xL ks:=by
 induction ks generalizing k with
 | nil=>simp
 | cons x r ih =>
  cases k with
  | zero=>simp[xL]
  | succ k=>simp only[List.take_succ_cons,xL];have:=ih k;omega
theorem jaB (ks:List FE) (k:Nat):vd (ks.take k)≤vd ks:=by
 induction ks generalizing k with
 | nil=>simp
 | cons x r ih =>
  cases k with
  | zero=>simp[vd]
  | succ k=>simp only[List.take_succ_cons,vd];have:=ih k;omega
def YP (r:CatRow):Cal:=⟨str r.nm,r.t.ep,r.t.cy,r.t.mo,r.t.leaps r.t.cy.toNat,none,0,none,0⟩
theorem yN (r:CatRow):CalOf r (YP r):=⟨rfl,rfl,rfl,rfl,rfl⟩
def NthB (l:List Bool) (a:Int) (d:Nat):Prop:=l[d]?=some true∧a≠0∧(0<a→((l.take d).count true:Int)+1=a)∧(a<0→((l.drop d).count true:Int) = -a)
theorem NthB.unique {l:List Bool} {a:Int} {d e:Nat} (h:NthB l a d) (h':NthB l a e):d=e:=by
 have key:∀{d e:Nat},NthB l a d→NthB l a e→¬d<e:=by
  intro d e h h' hlt
  obtain⟨hd,h0,h1,h2⟩:=h
  obtain⟨he,_,h1',h2'⟩:=h'
  obtain⟨hdl,hdv⟩:=List.getElem?_eq_some_iff.1 hd
  have e1:l.take e=l.take d++(l.drop d).take (e-d):=by
   have:=List.take_add (l:=l) (i:=d) (j:=e-d)
   rwa[show d+(e-d)=e from by omega] at this
  have e2:(l.drop d)=true::l.drop (d+1):=by rw[List.drop_eq_getElem_cons hdl,hdv]
  have e3:l.drop d=(l.drop d).take (e-d)++l.drop e:=by
   have:=List.take_append_drop (e-d) (l.drop d)
   rw[List.drop_drop,show d+(e-d)=e from by omega] at this
   exact this.symm
  have e4:(l.drop d).take (e-d)=true::(l.drop (d+1)).take (e-d-1):=by
   rw[e2,show e-d=(e-d-1)+1 from by omega,List.take_succ_cons]
   simp
  have c1:=congrArg (List.count true) e1
  have c3:=congrArg (List.count true) e3
  rw[List.count_append,e4,List.count_cons_self] at c1
  rw[List.count_append,e4,List.count_cons_self] at c3
  by_cases hp:0<a
  ·have:=h1 hp;have:=h1' hp;omega
  ·have:=h2 (by omega);have:=h2' (by omega);omega
 have:=key h h'
 have:=key h' h
 omega
def NthP (P:Int→Prop) (f:Int) (n:Nat) (a:Int) (d:Nat):Prop:=∃l:List Bool,l.length=n∧(∀i,i<n→(l.getD i false=true↔P (f+i)))∧NthB l a d
theorem jcE {l l':List Bool} (h:l.length=l'.length) (ht:∀i,i<l.length→(l.getD i false=true↔l'.getD i false=true)):l=l':=by
 apply List.ext_getElem h
 intro i h1 h2
 have:=ht i h1
 simp only[List.getD_eq_getElem?_getD,List.getElem?_eq_getElem h1,List.getElem?_eq_getElem h2,Option.getD_some] at this
 cases h3:l[i]<;>cases h4:l'[i]<;>simp[h3,h4] at this ⊢
theorem NthP.of {P:Int→Prop} {f:Int} {n:Nat} {a:Int} {d:Nat} (h:NthP P f n a d) {l:List Bool} (hl:l.length=n) (ht:∀i,i<n→(l.getD i false=true↔P (f+i))):NthB l a d:=by
 obtain⟨l',h1,h2,h3⟩:=h
 have:l'=l:=jcE (h1.trans hl.symm) fun i hi=>(h2 i (by omega)).trans (ht i (by omega)).symm
 rw[←this];exact h3
theorem NthP.unique {P:Int→Prop} {f:Int} {n:Nat} {a:Int} {d e:Nat} (h:NthP P f n a d) (h':NthP P f n a e):d=e:=by
 obtain⟨l,h1,h2,h3⟩:=h
 exact h3.unique (h'.of h1 h2)
def vw (nm:ByteArray) (y:Int) (m:Nat) (d day:Int) (len:Int):Prop:=∃r∈jN,str r.nm=nm∧-10000≤y∧y≤10000∧IsOn (YP r) y m d day∧len=(YP r).mlen y m
def Jf (k a b:Int) (nm:ByteArray) (P:Nat→Int→Prop) (day:Int):Prop :=
 if k=1 then ∃y m d len,vw nm y m d day len∧(m:Int)+1=a∧d+1=b
 else if k=2 then ∃y m d len,vw nm y m d day len∧(m:Int)+1=a
 else if k=3 then(day-1)%7=a
 else if k=4 then(day-b)%a=0
 else if k=5 then day=a
 else if k=6 then a≤day∧day≤b
 else if k=7 then P 0 (day-a)
 else if k=8 then ∃s,P 0 s∧day=s+(a-(s-1))%7
 else if k=9 then P 0 day∨P 1 day
 else if k=10 then P 0 day∧P 1 day
 else if k=11 then P 0 day∧¬P 1 day
 else ∃y m d len,vw nm y m d day len∧(b=0∨(m:Int)+1=b)∧NthP (P 0) (day-d) len.toNat a d.toNat
mutual
def jC:FE→Int→Prop
 | .node k a b nm _ _ ks,day=>js day∧Jf k a b nm (yr ks) day
def yr:List FE→Nat→Int→Prop
 | [],_,_=>False
 | x::_,0,day=>jC x day
 | _::r,i+1,day=>yr r i day
end
theorem qY:∀(ks:List FE) (i:Nat) (day:Int),i<ks.length→(yr ks i day↔jC (ks.getD i fe0) day)
 | [],i,day,h=>absurd h (Nat.not_lt_zero i)
 | x::r,0,day,_=>by rw[yr];rfl
 | x::r,i+1,day,h=>by rw[yr];exact qY r i day (by simpa using h)
theorem Vf {r r':CatRow} (hr:r∈jN) (hr':r'∈jN) (h:str r.nm=str r'.nm):r=r' :=
 V3 r r' hr hr' (by have:=congrArg ByteArray.toList h;rwa[jv,jv] at this)
end
end Go.Proofs.YtkkjaaognefeiaaGreatDoor
