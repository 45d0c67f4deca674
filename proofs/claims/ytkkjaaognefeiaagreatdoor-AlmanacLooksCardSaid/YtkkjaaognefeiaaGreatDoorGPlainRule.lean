/- PlainRule, PlainItoa, PlainLex, PlainParse -/
import Derived.Lib.ItoaLen
import Derived.Lib.AtoiTie
import Derived.Lib.IndexMore
import Derived.Test.YtkkjaaognefeiaaGreatDoorGListArg
set_option maxRecDepth 100000
set_option maxHeartbeats 16000000
set_option linter.unusedVariables false
set_option linter.unusedSimpArgs false
namespace Go.Proofs.YtkkjaaognefeiaaGreatDoor
section
open Go.RowKit
inductive RE where
 | node (k n:Int) (A:Option Addr) (c:Nat) (ks:List RE)
def re0:RE:=.node 0 0 none 0 []
def reF:RE→List Value
 | .node k n A c ks=>[.int .i64 k,.int .i64 n,.slice A ks.length c]
def reV:RE→Value
 | .node k n A c ks=>.agg #[.int .i64 k,.int .i64 n,.slice A ks.length c]
theorem xI (a:RE):(reF a).length=3:=by cases a;rfl
def I64 (n:Int):Prop:=-9223372036854775808≤n∧n≤9223372036854775807
inductive ReIn (w:World) (B:Nat):RE→Prop
 | mk {k n:Int} {A:Option Addr} {c:Nat} {ks:List RE} (hk:I64 k) (hn:I64 n) (hl:ks.length≤maxLen) (row:Row w B A (ks.flatMap reF)) (kids:∀x∈ks,ReIn w B x):ReIn w B (.node k n A c ks)
theorem ReIn.next {w w':World} {B B':Nat} {t:RE} (h:ReIn w B t) (hb:Below B w w') (hB:B≤B'):ReIn w' B' t:=by
 induction h with
 | mk hk hn hl row kids ih=>exact .mk hk hn hl ((row.below hb).more hB) ih
def yt (k:Int):Nat:=if k=1∨k=2 then 0 else if k=3∨k=11 then 1 else 2
structure ReNode (k n:Int) (len:Nat):Prop where
 k0:1≤k
 k1:k≤13
 len:len=yt k
 n0:0≤n
 n1:n≤if k=1 then 2147483647 else 0
inductive ReOk:RE→Prop
 | mk {k n:Int} {A:Option Addr} {c:Nat} {ks:List RE} (node:ReNode k n ks.length) (kids:∀x∈ks,ReOk x):ReOk (.node k n A c ks)
mutual
def sz:RE→Nat
 | .node _ _ _ _ ks=>szL ks+1
def szL:List RE→Nat
 | []=>0
 | x::r=>sz x+szL r
end
mutual
def ht:RE→Nat
 | .node _ _ _ _ ks=>htL ks+1
def htL:List RE→Nat
 | []=>0
 | x::r=>max (ht x) (htL r)
end
def xq (b:Bool):Int:=if b then 1 else 0
def jA (k n y a b:Int):Int×Int :=
 if k=1 then(n,0) else if k=2 then(y,0) else if k=3 then(-a,0) else if k=4 then(a+b,0) else if k=5 then(a-b,0) else if k=6 then(a*b,0)
 else if k=7 then(if b=0 then(0,1) else(a.fdiv b,0)) else if k=8 then(if b=0 then(0,1) else(a.fmod b,0))
 else if k=9 then(xq (decide (a<b)),0) else if k=10 then(xq (a==b),0) else if k=11 then(xq (a==0),0) else if k=12 then(xq (a != 0&&b != 0),0) else(xq (a != 0||b != 0),0)
def ZF (p:Int×Int):Int×Int:=if p.2=0 then(if p.1 < -2147483647∨2147483647<p.1 then(0,14) else(p.1,0)) else(0,p.2)
mutual
def jB (y:Int):RE→Int×Int
 | .node k n _ _ ks=>if (zW y ks).2=0 then ZF (jA k n y ((zW y ks).1.getD 0 0) ((zW y ks).1.getD 1 0)) else(0,(zW y ks).2)
def zW (y:Int):List RE→List Int×Int
 | []=>([],0)
 | x::r=>if (jB y x).2=0 then((jB y x).1::(zW y r).1,(zW y r).2) else([],(jB y x).2)
end
theorem jeB (p:Int×Int) : -2147483647≤(ZF p).1∧(ZF p).1≤2147483647:=by
 unfold ZF
 split
 ·split<;>simp<;>omega
 ·simp
theorem Xy (y:Int) (t:RE) : -2147483647≤(jB y t).1∧(jB y t).1≤2147483647:=by
 cases t
 unfold jB
 split
 ·exact jeB _
 ·simp
theorem jaT (y:Int) (ks:List RE) (h:∀j,j<ks.length→(jB y (ks.getD j re0)).2=0):zW y ks=(ks.map (fun x=>(jB y x).1),0):=by
 induction ks with
 | nil=>unfold zW;rfl
 | cons x r ih =>
  have h0:=h 0 (by simp)
  have h1:=ih (fun j hj=>by have:=h (j+1) (by simpa using hj);simpa using this)
  unfold zW
  simp at h0
  rw[if_pos h0,h1]
  rfl
theorem KX (y:Int) (ks:List RE) (i:Nat) (hi:i<ks.length) (h:∀j,j<i→(jB y (ks.getD j re0)).2=0) (he:(jB y (ks.getD i re0)).2≠0):(zW y ks).2=(jB y (ks.getD i re0)).2:=by
 induction ks generalizing i with
 | nil=>simp at hi
 | cons x r ih =>
  cases i with
  | zero =>
   simp at he ⊢
   unfold zW
   rw[if_neg he]
  | succ i =>
   have h0:=h 0 (by omega)
   have h1:=ih i (by simpa using hi) (fun j hj=>by have:=h (j+1) (by omega);simpa using this) (by simpa using he)
   simp at h0
   unfold zW
   rw[if_pos h0]
   simpa using h1
def vAt (y:Int) (ks:List RE) (k j:Nat):Int:=if j<k then(jB y (ks.getD j re0)).1 else 0
theorem ZE (y:Int) (ks:List RE) (k j:Nat) : -2147483647≤vAt y ks k j∧vAt y ks k j≤2147483647:=by
 unfold vAt
 split
 ·exact Xy _ _
 ·omega
theorem Xg (y:Int) (ks:List RE) (j:Nat):(ks.map (fun x=>(jB y x).1)).getD j 0=vAt y ks ks.length j:=by
 unfold vAt
 by_cases h:j<ks.length
 ·simp[List.getD,h]
 ·simp[List.getD,h]
theorem jda (y k n:Int) (A:Option Addr) (c:Nat) (ks:List RE) (h:∀j,j<ks.length→(jB y (ks.getD j re0)).2=0):jB y (.node k n A c ks)=ZF (jA k n y (vAt y ks ks.length 0) (vAt y ks ks.length 1)):=by
 rw[jB,jaT y ks h]
 rw[if_pos rfl,Xg,Xg]
theorem Kw (y k n:Int) (A:Option Addr) (c:Nat) (ks:List RE) (i:Nat) (hi:i<ks.length) (h:∀j,j<i→(jB y (ks.getD j re0)).2=0) (he:(jB y (ks.getD i re0)).2≠0):jB y (.node k n A c ks)=(0,(jB y (ks.getD i re0)).2):=by
 rw[jB,KX y ks i hi h he,if_neg he]
theorem jaV (ks:List RE) (k:Nat) (h:k<ks.length):szL (ks.take (k+1))=szL (ks.take k)+sz (ks.getD k re0):=by
 induction ks generalizing k with
 | nil=>simp at h
 | cons x r ih =>
  cases k with
  | zero=>simp[szL]
  | succ k=>simp only[List.take_succ_cons,szL];rw[ih k (by simpa using h)];simp;omega
theorem jdA (ks:List RE) (k:Nat) (h:k<ks.length):htL (ks.take (k+1))=max (htL (ks.take k)) (ht (ks.getD k re0)):=by
 induction ks generalizing k with
 | nil=>simp at h
 | cons x r ih =>
  cases k with
  | zero=>simp[htL]
  | succ k=>simp only[List.take_succ_cons,htL];rw[ih k (by simpa using h)];simp
theorem jaW (ks:List RE) (k:Nat):szL (ks.take k)≤szL ks:=by
 induction ks generalizing k with
 | nil=>simp
 | cons x r ih =>
  cases k with
  | zero=>simp[szL]
  | succ k=>simp only[List.take_succ_cons,szL];have:=ih k;omega
theorem jcl (ks:List RE) (k:Nat):htL (ks.take k)≤htL ks:=by
 induction ks generalizing k with
 | nil=>simp
 | cons x r ih =>
  cases k with
  | zero=>simp[htL]
  | succ k=>simp only[List.take_succ_cons,htL];have:=ih k;omega
end
section
open Go.Lib
theorem yy:∀(l r:List UInt8) (acc:Nat),decFrom acc (l++r)=(decFrom acc l).bind (fun m=>decFrom m r)
 | [],r,acc=>rfl
 | b::l,r,acc=>by
  simp only[List.cons_append,decFrom]
  cases digitVal b with
  | none=>rfl
  | some d=>exact yy l r _
theorem vG (d:Nat) (h:d<10):(UInt8.ofNat (48+d)).toNat=48+d:=by
 rw[UInt8.toNat_ofNat']
 omega
theorem vo (d:Nat) (h:d<10):digitVal (UInt8.ofNat (48+d))=some d:=by
 unfold digitVal
 rw[vG d h,if_pos (by omega)]
 simp
theorem Jn:∀(u:Nat),decFrom 0 (decDigits u)=some u:=by
 intro u
 induction u using Nat.strongRecOn with
 | _ u ih =>
  by_cases h:u<10
  ·rw[decDigits,dif_pos h]
   simp only[decFrom,vo u h]
   simp
  ·rw[decDigits,dif_neg h,yy,ih (u/10) (by omega)]
   simp only[Option.bind_some,decFrom,vo (u%10) (by omega)]
   congr 1
   omega
theorem Y1 (u:Nat):decDigits u≠[]:=fun e=>by
 have:=decDigits_length u
 rw[e] at this
 have:=nDigits_pos u
 simp at *
 omega
theorem yZ (u:Nat):∀b∈decDigits u,48≤b.toNat∧b.toNat≤57:=by
 induction u using Nat.strongRecOn with
 | _ u ih =>
  intro b hb
  rw[decDigits] at hb
  split at hb
  ·rename_i h
   obtain rfl:=List.mem_singleton.1 hb
   rw[vG u h];omega
  ·rename_i h
   rcases List.mem_append.1 hb with hb|hb
   ·exact ih (u/10) (by omega) b hb
   ·obtain rfl:=List.mem_singleton.1 hb
    rw[vG _ (by omega)];omega
theorem KU (n:Int):∀b∈itoa n,b.toNat=45∨(48≤b.toNat∧b.toNat≤57):=by
 intro b hb
 unfold itoa at hb
 split at hb
 ·rcases List.mem_cons.1 hb with rfl|hb
  ·exact .inl rfl
  ·exact .inr (yZ _ b hb)
 ·exact .inr (yZ _ b hb)
theorem vS (n:Int):itoa n≠[]:=by
 unfold itoa
 split
 ·simp
 ·exact Y1 _
theorem KJ (n:Int):atoi (itoa n)=some n:=by
 unfold itoa
 split
 ·rename_i h
  unfold atoi
  simp only[beq_self_eq_true,if_true]
  rw[decNat,if_neg (by simpa using Y1 _),Jn]
  simp
  omega
 ·rename_i h
  have h1:=Y1 n.toNat
  have h2:=yZ n.toNat
  have h3:=Jn n.toNat
  generalize decDigits n.toNat=l at *
  cases l with
  | nil=>exact absurd rfl h1
  | cons b r =>
   have hb:=h2 b (List.mem_cons_self ..)
   unfold atoi
   have e1:(b==45)=false:=by
    rw[beq_eq_false_iff_ne];rintro rfl;simp at hb
   have e2:(b==43)=false:=by
    rw[beq_eq_false_iff_ne];rintro rfl;simp at hb
   simp only[e1,e2,Bool.false_eq_true,if_false]
   rw[decNat,if_neg (by simp),h3]
   simp
   omega
theorem ZZ (n:Int) (k:Nat) (h:n.natAbs<10^k) (hk:1≤k):(itoa n).length≤k+1:=by
 have hd:∀u:Nat,u<10^k→(decDigits u).length≤k:=fun u hu=>by
  rw[decDigits_length]
  rcases Nat.lt_or_ge k (nDigits u) with hlt|hge
  ·exfalso
   have key:∀(u m:Nat),m<nDigits u→1≤m→10^m≤u:=by
    intro u
    induction u using Nat.strongRecOn with
    | _ u ih =>
     intro m hm h1
     by_cases h:u<10
     ·rw[nDigits_small h] at hm;omega
     ·rw[nDigits_big h] at hm
      obtain⟨m',rfl⟩:∃m',m=m'+1:=⟨m-1,by omega⟩
      rw[Nat.pow_succ]
      by_cases h0:m'=0
      ·subst h0;omega
      ·have:=ih (u/10) (by omega) m' (by omega) (by omega)
       omega
   have:=key u k hlt hk
   omega
  ·exact hge
 unfold itoa
 split
 ·have:=hd n.natAbs h
  simp;omega
 ·have:=hd n.toNat (by omega)
  omega
theorem jbY (c:UInt8):∀(l:List UInt8),(∀b∈l,b≠c)→index l [c] = -1
 | [],_=>rfl
 | b::l,h=>by
  have hb:(c==b)=false:=by rw[beq_eq_false_iff_ne];exact fun e=>h b (List.mem_cons_self ..) e.symm
  have ih:=jbY c l fun x hx=>h x (List.mem_cons_of_mem _ hx)
  simp[index,List.isPrefixOf,hb,ih]
theorem JE (c:UInt8) (r:List UInt8):∀(l:List UInt8),(∀b∈l,b≠c)→index (l++c::r) [c]=(l.length:Int)
 | [],_=>by simp[index,List.isPrefixOf]
 | b::l,h=>by
  have hb:(c==b)=false:=by rw[beq_eq_false_iff_ne];exact fun e=>h b (List.mem_cons_self ..) e.symm
  have ih:=JE c r l fun x hx=>h x (List.mem_cons_of_mem _ hx)
  have hne:¬((l.length:Int) = -1):=by omega
  simp[index,List.isPrefixOf,hb,ih,hne]
theorem jbL (c:UInt8) (l r:List UInt8) (h:∀b∈l,b≠c):cut (l++c::r) [c]=(l,r,true):=by
 unfold cut
 rw[JE c r l h,if_pos (by omega)]
 simp
theorem jdR (n:Int) (c:UInt8) (h:c.toNat<45∨c.toNat=46∨c.toNat=47∨57<c.toNat):∀b∈itoa n,b≠c:=fun b hb e=>by
 have:=KU n b hb
 subst e
 omega
abbrev Tok:=List UInt8
def qk (b:UInt8):Bool:=decide (97≤b.toNat)&&decide (b.toNat≤122)
def zq (b:UInt8):Bool:=decide (48≤b.toNat)&&decide (b.toNat≤57)
def sk (l:List UInt8):List UInt8:=l.dropWhile (·==32)
def tk (l:List UInt8):Tok:=if l.takeWhile qk≠[] then l.takeWhile qk else if l.takeWhile zq≠[] then l.takeWhile zq else l.take 1
def vn:Nat→List UInt8→List Tok
 | 0,_=>[]
 | f+1,l=>if sk l=[] then[] else tk (sk l)::vn f ((sk l).drop (tk (sk l)).length)
def qD (l:List UInt8):List Tok:=vn (l.length+1) l
theorem jbb (l:List UInt8):(sk l).length≤l.length:=by
 unfold sk
 induction l with
 | nil=>simp
 | cons x l ih=>rw[List.dropWhile_cons];split<;>simp<;>omega
theorem jdc (l:List UInt8) (h:l≠[]):tk l≠[]:=by
 unfold tk
 split
 ·assumption
 split
 ·assumption
 ·cases l with
  | nil=>exact absurd rfl h
  | cons x l=>simp
theorem vh (p:UInt8→Bool) (l:List UInt8):l.takeWhile p++l.drop (l.takeWhile p).length=l:=by
 induction l with
 | nil=>rfl
 | cons x l ih =>
  rw[List.takeWhile_cons]
  split
  ·simp[ih]
  ·simp
theorem Va (l:List UInt8):tk l++l.drop (tk l).length=l:=by
 unfold tk
 split
 ·exact vh qk l
 split
 ·exact vh zq l
 ·cases l with
  | nil=>rfl
  | cons x l=>simp
theorem J4:∀(f g:Nat) (l:List UInt8),l.length<f→l.length<g→vn f l=vn g l
 | 0,_,_,h,_=>by omega
 | _,0,_,_,h=>by omega
 | f+1,g+1,l,h1,h2=>by
  unfold vn
  split
  ·rfl
  ·rename_i hs
   have hp:=congrArg List.length (Va (sk l))
   rw[List.length_append] at hp
   have ht:0<(tk (sk l)).length:=List.length_pos_iff.2 (jdc _ hs)
   have:=jbb l
   rw[J4 f g _ (by omega) (by omega)]
theorem XU (l:List UInt8) (h:sk l=[]):qD l=[]:=by unfold qD vn;rw[if_pos h]
theorem xa (l:List UInt8) (h:sk l≠[]):qD l=tk (sk l)::qD ((sk l).drop (tk (sk l)).length):=by
 unfold qD
 rw[vn,if_neg h]
 have hp:=congrArg List.length (Va (sk l))
 rw[List.length_append] at hp
 have ht:0<(tk (sk l)).length:=List.length_pos_iff.2 (jdc _ h)
 have:=jbb l
 rw[J4 _ (((sk l).drop (tk (sk l)).length).length+1) _ (by omega) (by omega)]
theorem VI (l:List UInt8):qD (sk l)=qD l:=by
 have hss:sk (sk l)=sk l:=by
  unfold sk
  induction l with
  | nil=>rfl
  | cons x l ih =>
   rw[List.dropWhile_cons]
   split
   ·exact ih
   ·rename_i h;rw[List.dropWhile_cons,if_neg h]
 by_cases h:sk l=[]
 ·rw[XU l h,h];rfl
 ·rw[xa l h,xa (sk l) (by rw[hss];exact h),hss]
theorem vr (l:List UInt8):qD (32::l)=qD l:=by
 rw[←VI (32::l),←VI l]
 rfl
def Bd (r:List UInt8):Prop:=∀b s,r=b::s→qk b=false∧zq b=false
theorem kB:Bd []:=fun b s h=>by cases h
theorem yY (b:UInt8) (s:List UInt8) (h1:qk b=false) (h2:zq b=false):Bd (b::s):=fun b' s' e=>by injection e with e1 e2;subst e1;exact⟨h1,h2⟩
theorem jbs (p:UInt8→Bool) (w r:List UInt8) (hw:∀b∈w,p b=true) (hr:∀b s,r=b::s→p b=false):(w++r).takeWhile p=w:=by
 induction w with
 | nil =>
  cases r with
  | nil=>rfl
  | cons b s=>simp[hr b s rfl]
 | cons x w ih =>
  rw[List.cons_append,List.takeWhile_cons,if_pos (hw x (List.mem_cons_self ..)),ih fun b hb=>hw b (List.mem_cons_of_mem _ hb)]
theorem ja9 (b:UInt8) (r:List UInt8) (h:(b==32)=false):sk (b::r)=b::r:=by
 unfold sk
 rw[List.dropWhile_cons,if_neg (by rw[h];simp)]
theorem zG (w r:List UInt8) (hw:∀b∈w,qk b=true) (hne:w≠[]) (hr:Bd r):qD (w++r)=w::qD r:=by
 cases w with
 | nil=>exact absurd rfl hne
 | cons x w =>
  have hx:=hw x (List.mem_cons_self ..)
  have h32:(x==32)=false:=by
   rw[beq_eq_false_iff_ne];intro e;subst e;revert hx;decide
  have hs:sk (x::w++r)=x::w++r:=ja9 x _ h32
  have ht:tk (x::w++r)=x::w:=by
   unfold tk
   rw[jbs qk (x::w) r hw fun b s e=>(hr b s e).1,if_pos (by simp)]
  rw[xa _ (by rw[hs];simp),hs,ht]
  simp
theorem Vl (w r:List UInt8) (hw:∀b∈w,zq b=true) (hne:w≠[]) (hr:Bd r):qD (w++r)=w::qD r:=by
 cases w with
 | nil=>exact absurd rfl hne
 | cons x w =>
  have hx:=hw x (List.mem_cons_self ..)
  have h32:(x==32)=false:=by
   rw[beq_eq_false_iff_ne];intro e;subst e;revert hx;decide
  have hl:qk x=false:=by
   unfold zq at hx;unfold qk
   simp at hx ⊢
   omega
  have hs:sk (x::w++r)=x::w++r:=ja9 x _ h32
  have ht:tk (x::w++r)=x::w:=by
   unfold tk
   rw[if_neg (by simp[hl]),jbs zq (x::w) r hw fun b s e=>(hr b s e).2,if_pos (by simp)]
  rw[xa _ (by rw[hs];simp),hs,ht]
  simp
theorem JV (c:UInt8) (r:List UInt8) (h1:qk c=false) (h2:zq c=false) (h3:(c==32)=false):qD (c::r)=[c]::qD r:=by
 have hs:sk (c::r)=c::r:=ja9 c _ h3
 have ht:tk (c::r)=[c]:=by
  unfold tk
  rw[if_neg (by simp[h1]),if_neg (by simp[h2])]
  rfl
 rw[xa _ (by rw[hs];simp),hs,ht]
 simp
def lev (k:Int):Nat:=if k=13 then 0 else if k=12 then 1 else if k=11 then 2 else if k=9∨k=10 then 3 else if k=4∨k=5 then 4 else if k=6∨k=7∨k=8 then 5 else if k=3 then 6 else 7
def sgn (k:Int):Tok:=if k=4 then[43] else if k=5 then[45] else if k=6 then[42] else if k=7 then[47] else if k=8 then[37] else if k=9 then[60] else if k=10 then[61] else if k=12 then[97,110,100] else if k=13 then[111,114] else[]
def fst (k:Int):Nat:=if lev k=3 then 4 else lev k
def vB (least:Nat) (p:Int×List Tok):List Tok:=if lev p.1<least then[40]::(p.2++[[41]]) else p.2
def kF (least:Nat) (p:Int×List UInt8):List UInt8:=if lev p.1<least then 40::(p.2++[41]) else p.2
mutual
def prB:RE→List Tok
 | .node k n _ _ ks=>if k=1 then[itoa n] else if k=2 then[[121]] else if k=3 then[45]::vB 6 ((prL ks).getD 0 (1,[])) else if k=11 then[110,111,116]::vB 2 ((prL ks).getD 0 (1,[]))
  else vB (fst k) ((prL ks).getD 0 (1,[]))++sgn k::vB (lev k+1) ((prL ks).getD 1 (1,[]))
def prL:List RE→List (Int×List Tok)
 | []=>[]
 | .node k n A c ks::r=>(k,prB (.node k n A c ks))::prL r
end
mutual
def shB:RE→List UInt8
 | .node k n _ _ ks=>if k=1 then itoa n else if k=2 then[121] else if k=3 then 45::kF 6 ((shL ks).getD 0 (1,[])) else if k=11 then[110,111,116,32]++kF 2 ((shL ks).getD 0 (1,[]))
  else kF (fst k) ((shL ks).getD 0 (1,[]))++32::(sgn k++32::kF (lev k+1) ((shL ks).getD 1 (1,[])))
def shL:List RE→List (Int×List UInt8)
 | []=>[]
 | .node k n A c ks::r=>(k,shB (.node k n A c ks))::shL r
end
def kd:RE→Int
 | .node k _ _ _ _=>k
theorem kn:∀(ks:List RE) (i:Nat),i<ks.length→(prL ks).getD i (1,[])=(kd (ks.getD i re0),prB (ks.getD i re0))
 | [],i,h=>by simp at h
 | .node k n A c l::r,0,_=>by simp[prL,kd]
 | .node k n A c l::r,i+1,h=>by
  have:=kn r i (by simpa using h)
  simpa[prL] using this
theorem yW:∀(ks:List RE) (i:Nat),i<ks.length→(shL ks).getD i (1,[])=(kd (ks.getD i re0),shB (ks.getD i re0))
 | [],i,h=>by simp at h
 | .node k n A c l::r,0,_=>by simp[shL,kd]
 | .node k n A c l::r,i+1,h=>by
  have:=yW r i (by simpa using h)
  simpa[shL] using this
def prT (least:Nat) (t:RE):List Tok:=vB least (kd t,prB t)
def shT (least:Nat) (t:RE):List UInt8:=kF least (kd t,shB t)
theorem zi (n:Int) (h:0≤n):∀b∈itoa n,zq b=true:=by
 intro b hb
 unfold itoa at hb
 rw[if_neg (by omega)] at hb
 have:=yZ _ b hb
 unfold zq
 simp
 omega
theorem jeD (t:RE) (hok:ReOk t):∀r,Bd r→qD (shB t++r)=prB t++qD r:=by
 induction hok with
 | @mk k n A c ks node kids ih =>
  intro r hr
  obtain⟨k0,k1,hlen,n0,n1⟩:=node
  have hpar:∀(i least:Nat),i<ks.length→∀r,Bd r→qD (kF least ((shL ks).getD i (1,[]))++r)=vB least ((prL ks).getD i (1,[]))++qD r:=by
   intro i least hi r hr
   rw[kn ks i hi,yW ks i hi]
   have hx:=ih (ks.getD i re0) (yv re0 ks i hi)
   unfold kF vB
   simp only
   split
   ·rw[List.cons_append,JV 40 _ (by decide) (by decide) (by decide),List.append_assoc,show([41]++r:List UInt8)=41::r from rfl,hx _ (yY 41 _ (by decide) (by decide)),JV 41 _ (by decide) (by decide) (by decide)]
    simp
   ·exact hx r hr
  unfold prB shB
  by_cases h1:k=1
  ·rw[if_pos h1,if_pos h1]
   exact Vl _ _ (zi n n0) (vS n) hr
  rw[if_neg h1,if_neg h1]
  by_cases h2:k=2
  ·rw[if_pos h2,if_pos h2]
   exact zG [121] r (by decide) (by simp) hr
  rw[if_neg h2,if_neg h2]
  by_cases h3:k=3
  ·rw[if_pos h3,if_pos h3,List.cons_append,JV 45 _ (by decide) (by decide) (by decide),hpar 0 6 (by rw[hlen,h3];decide) r hr]
   rfl
  rw[if_neg h3,if_neg h3]
  by_cases h4:k=11
  ·rw[if_pos h4,if_pos h4,show([110,111,116,32]:List UInt8)++kF 2 ((shL ks).getD 0 (1,[]))++r=[110,111,116]++32::(kF 2 ((shL ks).getD 0 (1,[]))++r) from by simp,zG _ _ (by decide) (by simp) (yY 32 _ (by decide) (by decide)),vr,hpar 0 2 (by rw[hlen,h4];decide) r hr]
   rfl
  rw[if_neg h4,if_neg h4]
  have hl2:ks.length=2:=by rw[hlen];unfold yt;rw[if_neg (by omega),if_neg (by omega)]
  rw[List.append_assoc,List.cons_append,hpar 0 (fst k) (by omega) _ (yY 32 _ (by decide) (by decide)),vr,List.append_assoc]
  have hs:∀q,Bd (32::q):=fun q=>yY 32 _ (by decide) (by decide)
  have hsg:qD (sgn k++(32::kF (lev k+1) ((shL ks).getD 1 (1,[]))++r))=sgn k::qD (32::kF (lev k+1) ((shL ks).getD 1 (1,[]))++r):=by
   have:k=4∨k=5∨k=6∨k=7∨k=8∨k=9∨k=10∨k=12∨k=13:=by omega
   rcases this with rfl|rfl|rfl|rfl|rfl|rfl|rfl|rfl|rfl
   all_goals first
    | exact JV _ _ (by decide) (by decide) (by decide)
    | exact zG _ _ (by decide) (by decide) (hs _)
  rw[hsg,List.cons_append,vr,hpar 1 (lev k+1) (by omega) r hr]
  simp
mutual
def jE:RE→RE
 | .node k n _ _ ks=>.node k n none 0 (xx ks)
def xx:List RE→List RE
 | []=>[]
 | x::r=>jE x::xx r
end
theorem Qo:∀ks:List RE,xx ks=ks.map jE
 | []=>rfl
 | x::r=>by rw[xx,Qo r];rfl
theorem qL (k n:Int) (A:Option Addr) (c:Nat) (ks:List RE):jE (.node k n A c ks) = .node k n none 0 (ks.map jE):=by rw[jE,Qo]
theorem jdd (t:RE):kd (jE t)=kd t:=by cases t;rw[qL];rfl
theorem jcz {t:RE} (h:ReOk t):ReOk (jE t):=by
 induction h with
 | mk node kids ih =>
  rw[qL]
  exact .mk (by rw[List.length_map];exact node) fun x hx=>by
   obtain⟨y,hy,rfl⟩:=List.mem_map.1 hx
   exact ih y hy
theorem jcJ:∀{s:RE},ReOk s→∀{t:RE},jE t=s→ReOk t:=by
 intro s h
 induction h with
 | mk node kids ih =>
  intro t ht
  cases t with
  | node k n A c ks =>
   rw[qL] at ht
   injection ht with e1 e2 e3 e4 e5
   subst e1 e2 e5
   exact .mk (by rw[List.length_map] at node;exact node) fun x hx=>ih (jE x) (List.mem_map_of_mem hx) rfl
def Same (t u:RE):Prop:=jE t=jE u
theorem Same.refl (t:RE):Same t t:=rfl
theorem kM (k n:Int) (A B:Option Addr) (c d:Nat) (ks ls:List RE) (h:ks.map jE=ls.map jE):Same (.node k n A c ks) (.node k n B d ls):=by
 unfold Same;rw[qL,qL,h]
def jT (k:Int):Prop:=(4≤k∧k≤10)∨k=12∨k=13
theorem Kf (k j:Int) (hk:jT k) (hj:jT j) (h:sgn k=sgn j):k=j:=by
 have h1:k=4∨k=5∨k=6∨k=7∨k=8∨k=9∨k=10∨k=12∨k=13:=by unfold jT at hk;omega
 have h2:j=4∨j=5∨j=6∨j=7∨j=8∨j=9∨j=10∨j=12∨j=13:=by unfold jT at hj;omega
 rcases h1 with rfl|rfl|rfl|rfl|rfl|rfl|rfl|rfl|rfl<;>rcases h2 with rfl|rfl|rfl|rfl|rfl|rfl|rfl|rfl|rfl<;>first|rfl|(revert h;decide)
theorem jbc (k:Int) (hk:jT k):sgn k≠[]:=by
 have h1:k=4∨k=5∨k=6∨k=7∨k=8∨k=9∨k=10∨k=12∨k=13:=by unfold jT at hk;omega
 rcases h1 with rfl|rfl|rfl|rfl|rfl|rfl|rfl|rfl|rfl<;>decide
def Good (L:Nat) (ts:List Tok):Prop:=∀k,jT k→ts.head?=some (sgn k)→lev k<L
theorem Good.more {L M:Nat} {ts:List Tok} (h:Good L ts) (hm:L≤M):Good M ts:=fun k hk e=>by have:=h k hk e;omega
theorem jdr (k:Int) (hk:jT k) (L:Nat) (hL:lev k=L) (ts:List Tok):Good (L+1) (sgn k::ts):=fun j hj e=>by
 have:sgn k=sgn j:=by simpa using e
 rw[←Kf k j hk hj this,hL]
 omega
theorem Vs (L:Nat) (ts:List Tok):Good L ([41]::ts):=fun k hk e=>by
 have h:([41]:Tok)=sgn k:=by simpa using e
 have h1:k=4∨k=5∨k=6∨k=7∨k=8∨k=9∨k=10∨k=12∨k=13:=by unfold jT at hk;omega
 rcases h1 with rfl|rfl|rfl|rfl|rfl|rfl|rfl|rfl|rfl<;>exact absurd h (by decide)
theorem jbk (L:Nat):Good L []:=fun k hk e=>by cases e
def qJ (L:Nat) (ps:List (Int×RE)):List Tok:=ps.flatMap fun p=>sgn p.1::prT (L+1) p.2
def xX (x:RE) (ps:List (Int×RE)):RE:=ps.foldl (fun acc p=>.node p.1 0 none 0 [acc,jE p.2]) x
theorem Xc (x:RE) (ps:List (Int×RE)) (p:Int×RE):xX x (ps++[p]) = .node p.1 0 none 0 [xX x ps,jE p.2]:=by simp[xX]
structure Chain (L:Nat) (t x:RE) (ps:List (Int×RE)):Prop where
 words:prT L t=prT (L+1) x++qJ L ps
 okx:ReOk x
 okp:∀p∈ps,jT p.1∧lev p.1=L∧ReOk p.2
 shape:xX (jE x) ps=jE t
 one:L=3→ps.length≤1
 hx:(ps=[]∧x=t∧lev (kd t)≠L)∨(ht x<ht t∧lev (kd t)=L)
 hp:∀p∈ps,ht p.2<ht t
theorem Yt (L:Nat) (t:RE) (h:lev (kd t)≠L):prT L t=prT (L+1) t:=by
 unfold prT vB
 simp only
 by_cases h1:lev (kd t)<L
 ·rw[if_pos h1,if_pos (by omega)]
 ·rw[if_neg h1,if_neg (by omega)]
theorem VA (L:Nat) (t:RE) (hok:ReOk t) (h:lev (kd t)≠L):Chain L t t [] where
 words:=by rw[Yt L t h];simp[qJ]
 okx:=hok
 okp:=fun p hp=>by cases hp
 shape:=rfl
 one:=fun _=>by simp
 hx:=.inl ⟨rfl,rfl,h⟩
 hp:=fun p hp=>by cases hp
theorem V2:∀(ks:List RE) (x:RE),x∈ks→ht x≤htL ks
 | [],x,h=>by cases h
 | y::r,x,h=>by
  rw[htL]
  rcases List.mem_cons.1 h with rfl|h
  ·omega
  ·have:=V2 r x h;omega
theorem ZV (k n:Int) (A:Option Addr) (c:Nat) (ks:List RE) (x:RE) (h:x∈ks):ht x<ht (.node k n A c ks):=by
 have:=V2 ks x h
 rw[ht]
 omega
theorem jbE {k:Int} (h0:1≤k) (h1:k≤13) (L:Nat) (hl:lev k=L) (hL:L=0∨L=1∨L=3∨L=4∨L=5):jT k:=by
 have:k=1∨k=2∨k=3∨k=4∨k=5∨k=6∨k=7∨k=8∨k=9∨k=10∨k=11∨k=12∨k=13:=by omega
 unfold jT
 rcases this with rfl|rfl|rfl|rfl|rfl|rfl|rfl|rfl|rfl|rfl|rfl|rfl|rfl<;>first|omega|(exfalso;revert hl;unfold lev;simp;omega)
theorem V5 (k n:Int) (A:Option Addr) (c:Nat) (a b:RE) (hk:jT k):prB (.node k n A c [a,b])=prT (fst k) a++sgn k::prT (lev k+1) b:=by
 have h:=hk
 unfold jT at h
 have e0:=kn [a,b] 0 (by simp)
 have e1:=kn [a,b] 1 (by simp)
 simp only[List.getD_cons_zero,List.getD_cons_succ] at e0 e1
 rw[prB,if_neg (by omega),if_neg (by omega),if_neg (by omega),if_neg (by omega),e0,e1]
 rfl
theorem ja6 (L:Nat) (hL:L=0∨L=1∨L=3∨L=4∨L=5) (t:RE) (hok:ReOk t):∃x ps,Chain L t x ps:=by
 induction hok with
 | @mk k n A c ks node kids ih =>
  by_cases hl:lev k=L
  case neg=>exact⟨_,[],VA L _ (.mk node kids) hl⟩
  have hb:=jbE node.k0 node.k1 L hl hL
  have hk:=hb
  unfold jT at hk
  have hlen:ks.length=2:=by rw[node.len];unfold yt;rw[if_neg (by omega),if_neg (by omega)]
  obtain⟨a,b,rfl⟩:∃a b,ks=[a,b]:=by
   match ks,hlen with
   | [a,b],_=>exact⟨a,b,rfl⟩
  have hn0:n=0:=by have h1:=node.n0;have h2:=node.n1;rw[if_neg (by omega)] at h2;omega
  have hword:prT L (.node k n A c [a,b])=prT (fst k) a++sgn k::prT (L+1) b:=by
   unfold prT vB
   simp only
   rw[if_neg (by show ¬lev k<L;omega),V5 k n A c a b hb,hl]
   rfl
  have hsh:∀s,s=jE a→(RE.node k 0 none 0 [s,jE b])=jE (.node k n A c [a,b]):=fun s e=>by rw[qL,e,hn0];rfl
  have hta:=ZV k n A c [a,b] a (by simp)
  have htb:=ZV k n A c [a,b] b (by simp)
  by_cases h3:L=3
  ·refine⟨a,[(k,b)],?_,kids a (by simp),fun p hp=>?_,hsh _ rfl,fun _=>by simp,.inr ⟨hta,hl⟩,fun p hp=>?_⟩
   ·rw[hword]
    unfold fst
    rw[if_pos (by omega),h3]
    simp[qJ]
   ·obtain rfl:=List.mem_singleton.1 hp;exact⟨hb,hl,kids b (by simp)⟩
   ·obtain rfl:=List.mem_singleton.1 hp;exact htb
  ·obtain⟨x,ps,C⟩:=ih a (by simp)
   refine⟨x,ps++[(k,b)],?_,C.okx,fun p hp=>?_,?_,fun h=>absurd h h3,.inr ⟨by rcases C.hx with⟨_,e,_⟩|⟨e,_⟩;(rw[e];exact hta);omega,hl⟩,fun p hp=>?_⟩
   ·rw[hword]
    unfold fst
    rw[if_neg (by omega),hl,C.words]
    simp[qJ]
   ·rcases List.mem_append.1 hp with h|h
    ·exact C.okp p h
    ·obtain rfl:=List.mem_singleton.1 h;exact⟨hb,hl,kids b (by simp)⟩
   ·rw[Xc,C.shape]
    exact hsh _ rfl
   ·rcases List.mem_append.1 hp with h|h
    ·have:=C.hp p h;omega
    ·obtain rfl:=List.mem_singleton.1 h;exact htb
theorem jfw (t:RE) (hok:ReOk t):prB t≠[]:=by
 cases hok with
 | @mk k n A c ks node kids =>
  unfold prB
  repeat' split
  all_goals simp
theorem jca (L:Nat) (t:RE) (hok:ReOk t):0<(prT L t).length:=by
 unfold prT vB
 simp only
 split
 ·simp
 ·exact List.length_pos_iff.2 (jfw t hok)
def nd (L:Nat) (t:RE):Nat:=if lev (kd t)<L then ht t else ht t-1
theorem jfk (t:RE):1≤ht t:=by cases t;rw[ht];omega
theorem Yk (L:Nat) (t:RE):nd L t≤ht t:=by unfold nd;split<;>omega
theorem J0 (t:RE) (hok:ReOk t):∀L,3≤L→∃c r,prT L t=c::r∧c≠[110,111,116]∧(L=7→c≠[45]):=by
 induction hok with
 | @mk k n A c ks node kids ih =>
  intro L hL
  by_cases hp:lev k<L
  ·refine⟨[40],prB (.node k n A c ks)++[[41]],?_,by decide,fun _=>by decide⟩
   unfold prT vB
   simp only
   rw[if_pos (show lev (kd (RE.node k n A c ks))<L from hp)]
  ·have hpr:prT L (.node k n A c ks)=prB (.node k n A c ks):=by
    unfold prT vB
    simp only
    rw[if_neg (show ¬lev (kd (RE.node k n A c ks))<L from hp)]
   rw[hpr]
   have hl3:3≤lev k:=by omega
   have hkk:k=1∨k=2∨k=3∨k=4∨k=5∨k=6∨k=7∨k=8∨k=9∨k=10∨k=11∨k=12∨k=13:=by have:=node.k0;have:=node.k1;omega
   by_cases h1:k=1
   ·refine⟨itoa n,[],by unfold prB;rw[if_pos h1],?_,fun _=>?_⟩
    ·intro e
     have:=zi n node.n0 110 (by rw[e];exact List.mem_cons_self ..)
     exact absurd this (by decide)
    ·intro e
     have:=zi n node.n0 45 (by rw[e];exact List.mem_cons_self ..)
     exact absurd this (by decide)
   by_cases h2:k=2
   ·exact⟨[121],[],by unfold prB;rw[if_neg h1,if_pos h2],by decide,fun _=>by decide⟩
   by_cases h3:k=3
   ·subst h3
    exact⟨[45],_,by unfold prB;rw[if_neg h1,if_neg h2,if_pos rfl],by decide,fun h=>absurd hl3 (by intro;exact hp (by rw[h];decide))⟩
   have hb:jT k:=by
    unfold jT
    rcases hkk with rfl|rfl|rfl|rfl|rfl|rfl|rfl|rfl|rfl|rfl|rfl|rfl|rfl<;>first|omega|exact absurd hl3 (by decide)
   have hkb:=hb
   unfold jT at hkb
   have hlen:ks.length=2:=by rw[node.len];unfold yt;rw[if_neg (by omega),if_neg (by omega)]
   obtain⟨a,b,rfl⟩:∃a b,ks=[a,b]:=by
    match ks,hlen with
    | [a,b],_=>exact⟨a,b,rfl⟩
   have hl5:lev k≤5:=by
    rcases hkk with rfl|rfl|rfl|rfl|rfl|rfl|rfl|rfl|rfl|rfl|rfl|rfl|rfl<;>first|decide|omega
   obtain⟨c',r',e,hc,_⟩:=ih a (by simp) (fst k) (by unfold fst;split<;>omega)
   refine⟨c',r'++sgn k::prT (lev k+1) b,by rw[V5 k n A c a b hb,e];rfl,hc,fun h=>by omega⟩
end
end Go.Proofs.YtkkjaaognefeiaaGreatDoor
