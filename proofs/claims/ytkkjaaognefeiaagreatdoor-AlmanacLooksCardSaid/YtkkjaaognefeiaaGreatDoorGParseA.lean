/- ParseA, ParseB, Show2, Show4 -/
import Derived.Test.YtkkjaaognefeiaaGreatDoorGRowA
import Derived.Test.YtkkjaaognefeiaaGreatDoorGRuleArg
import Derived.Test.YtkkjaaognefeiaaGreatDoorGBuild1
set_option maxRecDepth 100000
set_option maxHeartbeats 16000000
set_option linter.unusedVariables false
set_option linter.unusedSimpArgs false
namespace Go.Proofs.YtkkjaaognefeiaaGreatDoor
section
open Go.RowKit
theorem Qa (n:Int) (r:List UInt8) (hr:Bd r):qD (Lib.itoa n++r)=zF n++qD r:=by
 unfold zF
 by_cases h:n<0
 ·rw[if_pos h]
  have e:Lib.itoa n=45::Lib.itoa (-n):=by
   unfold Lib.itoa
   rw[if_pos h,if_neg (by omega),show n.natAbs=(-n).toNat from by omega]
  rw[e,List.cons_append,JV 45 _ (by decide) (by decide) (by decide),Vl _ _ (zi _ (by omega)) (vS _) hr]
  rfl
 ·rw[if_neg h,Vl _ _ (zi n (by omega)) (vS n) hr]
  rfl
structure RT where
 nm:List UInt8
 ep:Int
 cy:Int
 lt:List UInt8
 mo:List Mth
def Yv (m:Mth):List UInt8:=[109,111,110,116,104,32]++m.nm.data.toList++32::(Lib.itoa m.sh++if m.lo=m.sh then[] else 32::Lib.itoa m.lo)
def RT.line (t:RT) (k:Nat):List UInt8 :=
 if k=0 then[99,97,108,101,110,100,97,114,32]++t.nm else if k=1 then[101,112,111,99,104,32]++Lib.itoa t.ep else if k=2 then[99,121,99,108,101,32]++Lib.itoa t.cy else if k=3 then t.lt else Yv (t.mo.getD (k-4) jF)
def RT.rest (t:RT) (k:Nat):List UInt8:=(List.range' k (4+t.mo.length-k)).flatMap fun j=>t.line j++[10]
theorem RT.step (t:RT) (k:Nat) (hk:k<4+t.mo.length):t.rest k=t.line k++10::t.rest (k+1):=by
 unfold RT.rest
 rw[show 4+t.mo.length-k=(4+t.mo.length-(k+1))+1 from by omega,List.range'_succ,List.flatMap_cons]
 simp
theorem RT.done (t:RT):t.rest (4+t.mo.length)=[]:=by unfold RT.rest;simp
theorem jbu (l:List UInt8) (h:∀b∈l,qk b=true):∀b∈l,b≠10∧b≠32:=fun b hb=>by
 have:=h b hb
 constructor<;>(intro e;subst e;revert this;decide)
structure RTOk (t:RT):Prop where
 nm:∀b∈t.nm,qk b=true
 nn:t.nm≠[]
 e1 : -9999999999≤t.ep
 e2:t.ep≤9999999999
 c1 : -9999999999≤t.cy
 c2:t.cy≤9999999999
 lt:∀b∈t.lt,b≠10
 ml:t.mo.length≤20
 mo:∀i,i<t.mo.length→(∀b∈(t.mo.getD i jF).nm.data.toList,qk b=true)∧(t.mo.getD i jF).nm.data.toList≠[]∧-9999999999≤(t.mo.getD i jF).sh∧(t.mo.getD i jF).sh≤9999999999∧-9999999999≤(t.mo.getD i jF).lo∧(t.mo.getD i jF).lo≤9999999999
theorem xQ (n:Int):∀b∈Lib.itoa n,b≠10:=jdR n 10 (by decide)
theorem RTOk.no10 {t:RT} (h:RTOk t) (k:Nat) (hk:k<4+t.mo.length):∀b∈t.line k,b≠10:=by
 intro b hb
 unfold RT.line at hb
 split at hb
 ·rcases List.mem_append.1 hb with hb|hb
  ·exact(show ∀b∈([99,97,108,101,110,100,97,114,32]:List UInt8),b≠10 by decide) b hb
  ·exact(jbu t.nm h.nm b hb).1
 split at hb
 ·rcases List.mem_append.1 hb with hb|hb
  ·exact(show ∀b∈([101,112,111,99,104,32]:List UInt8),b≠10 by decide) b hb
  ·exact xQ _ b hb
 split at hb
 ·rcases List.mem_append.1 hb with hb|hb
  ·exact(show ∀b∈([99,121,99,108,101,32]:List UInt8),b≠10 by decide) b hb
  ·exact xQ _ b hb
 split at hb
 ·exact h.lt b hb
 ·unfold Yv at hb
  obtain⟨m1,_⟩:=h.mo (k-4) (by omega)
  rcases List.mem_append.1 hb with hb|hb
  ·rcases List.mem_append.1 hb with hb|hb
   ·exact(show ∀b∈([109,111,110,116,104,32]:List UInt8),b≠10 by decide) b hb
   ·exact(jbu _ m1 b hb).1
  rcases List.mem_cons.1 hb with rfl|hb
  ·decide
  rcases List.mem_append.1 hb with hb|hb
  ·exact xQ _ b hb
  split at hb
  ·cases hb
  rcases List.mem_cons.1 hb with rfl|hb
  ·decide
  ·exact xQ _ b hb
theorem Q2 (r:List UInt8):Bd (32::r):=yY 32 r (by decide) (by decide)
theorem jdW {t:RT} (h:RTOk t):qD (t.line 0)=[99,97,108,101,110,100,97,114]::[t.nm]:=by
 unfold RT.line
 rw[if_pos rfl,show([99,97,108,101,110,100,97,114,32]:List UInt8)++t.nm=[99,97,108,101,110,100,97,114]++32::(t.nm++[]) from by simp,zG _ _ (by decide) (by simp) (Q2 _),vr,zG _ _ h.nm h.nn kB]
 rfl
theorem jdS {t:RT}:qD (t.line 1)=[101,112,111,99,104]::(zF t.ep++[]):=by
 unfold RT.line
 rw[if_neg (by decide),if_pos rfl,show([101,112,111,99,104,32]:List UInt8)++Lib.itoa t.ep=[101,112,111,99,104]++32::(Lib.itoa t.ep++[]) from by simp,zG _ _ (by decide) (by simp) (Q2 _),vr,Qa _ _ kB]
 rfl
theorem jeL {t:RT}:qD (t.line 2)=[99,121,99,108,101]::(zF t.cy++[]):=by
 unfold RT.line
 rw[if_neg (by decide),if_neg (by decide),if_pos rfl,show([99,121,99,108,101,32]:List UInt8)++Lib.itoa t.cy=[99,121,99,108,101]++32::(Lib.itoa t.cy++[]) from by simp,zG _ _ (by decide) (by simp) (Q2 _),vr,Qa _ _ kB]
 rfl
theorem jdT (m:Mth) (h1:∀b∈m.nm.data.toList,qk b=true) (h2:m.nm.data.toList≠[]):qD (Yv m)=[109,111,110,116,104]::K9 m.nm.data.toList m.sh m.lo:=by
 unfold Yv K9
 rw[show([109,111,110,116,104,32]:List UInt8)++m.nm.data.toList++32::(Lib.itoa m.sh++if m.lo=m.sh then[] else 32::Lib.itoa m.lo)=[109,111,110,116,104]++32::(m.nm.data.toList++32::(Lib.itoa m.sh++if m.lo=m.sh then[] else 32::Lib.itoa m.lo)) from by simp,
  zG _ _ (by decide) (by simp) (Q2 _),vr,zG _ _ h1 h2 (Q2 _),vr]
 by_cases h:m.lo=m.sh
 ·rw[if_pos h,if_pos h,Qa _ _ kB]
  rfl
 ·rw[if_neg h,if_neg h,Qa _ _ (Q2 _),vr,←List.append_nil (Lib.itoa m.lo),Qa _ _ kB]
  simp[qD,vn,sk]
def PSt (gt:Nat) (t:RT) (lp:RE) (k:Nat) (w:World):Prop :=
 (k=0∧Box w gt 128 (zh ⟨#[]⟩ 0 0 0 0 (.slice none 0 0) (.slice none 0 0))) ∨
 (k=1∧Box w gt 128 (zh (str t.nm) 0 0 0 0 (.slice none 0 0) (.slice none 0 0))) ∨
 (k=2∧Box w gt 128 (zh (str t.nm) t.ep 0 0 0 (.slice none 0 0) (.slice none 0 0))) ∨
 (k=3∧Box w gt 128 (zh (str t.nm) t.ep t.cy 0 0 (.slice none 0 0) (.slice none 0 0))) ∨
 (4≤k∧∃(k0 n0:Int) (A:Option Addr) (c:Nat) (ks:List RE) (A1:Option Addr) (c1 M:Nat),Box w gt 128 (zh (str t.nm) t.ep t.cy k0 n0 (.slice A ks.length c) (.slice A1 (k-4) c1))∧Same (.node k0 n0 A c ks) lp∧M≤w.heap.size∧gt<M ∧
  ReAt w (fun b=>gt<b∧b<M) w.heap.size (.node k0 n0 A c ks)∧w.ownsRow M 155 3 (.slice A1 (k-4) c1) (k-4) ((t.mo.take (k-4)).flatMap zp))
theorem PSt.lt {gt:Nat} {t:RT} {lp:RE} {k:Nat} {w:World} (h:PSt gt t lp k w):gt<w.heap.size:=by
 rcases h with⟨_,h⟩|⟨_,h⟩|⟨_,h⟩|⟨_,h⟩|⟨_,_,_,_,_,_,_,_,_,h,_⟩<;>exact Box.lt h
theorem PSt.next {gt:Nat} {t:RT} {lp:RE} {k:Nat} {w w':World} (h:PSt gt t lp k w) (hb:Below w.heap.size w w'):PSt gt t lp k w':=by
 rcases h with⟨e,h⟩|⟨e,h⟩|⟨e,h⟩|⟨e,h⟩|⟨e,k0,n0,A,c,ks,A1,c1,M,h1,h2,h3,h4,h5,h6⟩
 ·exact .inl ⟨e,h.below hb⟩
 ·exact .inr (.inl ⟨e,h.below hb⟩)
 ·exact .inr (.inr (.inl ⟨e,h.below hb⟩))
 ·exact .inr (.inr (.inr (.inl ⟨e,h.below hb⟩)))
 ·exact .inr (.inr (.inr (.inr ⟨e,k0,n0,A,c,ks,A1,c1,M,h1.below hb,h2,Nat.le_trans h3 hb.size,h4,h5.next hb,jn h6 hb⟩)))
theorem Only.below {p:Nat→Prop} {w w':World} (h:Only p w w') (B:Nat) (hp:∀b,p b→B≤b) (hB:B≤w.heap.size):Below B w w' :=
 ⟨h.os,h.tape,h.output,h.size,fun k hk=>h.block k (by omega) (fun e=>by have:=hp k e;omega)⟩
def jfc (gt:Nat) (t:RT) (lp:RE) (k:Nat) (w:World) (e:Ending) (w':World):Prop:=e = .returned (.bool true)∧PSt gt t lp (k+1) w'∧Below gt w w'
theorem jbU (g gt:Nat) (t:RT) (ok:RTOk t) (lp:RE) (X:List Tok) (hX:qD t.lt=[108,101,97,112]::X) (k:Nat) (hk:k<4+t.mo.length) (w:World) (hgt:gt<g) (hf:Rd w g (str (t.line k)) 0 0 0) (hsz:(t.line k).length≤5000) (w0:World) (hp:PSt gt t lp k w0) (hbe:Below w0.heap.size w0 w) (hg0:w0.heap.size≤g)
  (hs:Sgs w) (hv:Lvs w) (hg1:4<gt) (hg2:5<gt)
  (hE:∀W S,S.size≤5000→RdOk W g S 0 X→Calls Tryz.prog 147 #[.pointer (some ⟨g,0,none⟩),.int .i64 0] W (qK g S 0 lp [] W)) :
  Calls Tryz.prog 104 #[.pointer (some ⟨g,0,none⟩),.pointer (some ⟨gt,0,none⟩),.int .i64 (k:Int)] w (jfc gt t lp k w):=by
 have hgl:g<w.heap.size:=Box.lt hf
 have hsz':(str (t.line k)).size≤5000:=by rw[jt];exact hsz
 have hfr:∀ts,qD (t.line k)=ts→JT w g (str (t.line k)) ts:=fun ts h=>⟨hf,by rw[qC];exact h,hsz'⟩
 have hob:∀{w':World},Only (fun b=>b=g∨b=gt) w w'→Below gt w w':=fun h=>h.below gt (fun b hb=>by omega) (by omega)
 rcases hp with⟨rfl,h⟩|⟨rfl,h⟩|⟨rfl,h⟩|⟨rfl,h⟩|⟨h4,k0,n0,A,c,ks,A1,c1,M,h1,h2,h3,h5,h6,h7⟩
 all_goals try replace h:=h.below hbe
 ·refine(jeQ g gt (str (t.line 0)) t.nm _ _ _ _ _ _ _ w ok.nm (by omega) (hfr _ (jdW ok)) h).mono ?_
  rintro e w' ⟨rfl,hb,ho⟩
  exact⟨rfl,.inr (.inl ⟨rfl,hb⟩),hob ho⟩
 ·refine(jef g gt (str (t.line 1)) t.ep _ _ _ _ _ _ _ w ok.e1 ok.e2 (by omega) (hfr _ jdS) h).mono ?_
  rintro e w' ⟨rfl,hb,ho⟩
  exact⟨rfl,.inr (.inr (.inl ⟨rfl,hb⟩)),hob ho⟩
 ·refine(jd9 g gt (str (t.line 2)) t.cy _ _ _ _ _ _ _ w ok.c1 ok.c2 (by omega) (hfr _ jeL) h).mono ?_
  rintro e w' ⟨rfl,hb,ho⟩
  exact⟨rfl,.inr (.inr (.inr (.inl ⟨rfl,hb⟩))),hob ho⟩
 ·have hl:t.line 3=t.lt:=by unfold RT.line;rw[if_neg (by decide),if_neg (by decide),if_neg (by decide),if_pos rfl]
  refine(jcX g gt (str (t.line 3)) X lp _ _ _ _ _ _ _ w (by omega) (hfr _ (by rw[hl];exact hX)) h hs hv (by omega) (by omega) (fun W hW=>hE W _ hsz' hW)).mono ?_
  rintro e w' ⟨k0,n0,A,c,ks,hsm,rfl,hb,ha,ho⟩
  exact⟨rfl,.inr (.inr (.inr (.inr ⟨by omega,k0,n0,A,c,ks,none,0,w'.heap.size,hb,hsm,Nat.le_refl _,by have:=ho.size;omega,ha.more fun b hb hB=>⟨by omega,hB⟩,World.ownsRow_nil _ _ _ _⟩))),hob ho⟩
 ·have hl:t.line k=Yv (t.mo.getD (k-4) jF):=by unfold RT.line;rw[if_neg (by omega),if_neg (by omega),if_neg (by omega),if_neg (by omega)]
  obtain⟨m1,m2,m3,m4,m5,m6⟩:=ok.mo (k-4) (by omega)
  have hml:=ok.ml
  replace h1:=h1.below hbe
  replace h6:=h6.next hbe
  replace h7:=jn h7 hbe
  have h3g:M≤g:=by omega
  replace h3:M≤w.heap.size:=by omega
  refine(KF g gt (str (t.line k)) k (t.mo.getD (k-4) jF).nm.data.toList (t.mo.getD (k-4) jF).sh (t.mo.getD (k-4) jF).lo _ _ _ _ _ _ A1 (k-4) c1 M _ w h4 (by omega) (by omega) (by omega) (hfr _ (by rw[hl];exact jdT _ m1 m2)) h1 h7 h3 m1 m3 m4 m5 m6).mono ?_
  rintro e w' ⟨A2,c2,rfl,hb,hw,ho⟩
  have hown:∀b,(Value.slice A1 (k-4) c1).ownBlock=some b→M≤b:=fun b hb=>jY h7 b hb
  have hk1:k+1-4=k-4+1:=by omega
  refine⟨rfl,.inr (.inr (.inr (.inr ⟨by omega,k0,n0,A,c,ks,A2,c2,M,by rw[hk1];exact hb,h2,Nat.le_trans h3 ho.size,h5,?_,?_⟩))),ho.below gt (fun b hb=>?_) (by omega)⟩
  ·exact h6.keep (fun b hb hB=>ho.block b hB (fun e=>by
    rcases e with e|e|e
    ·omega
    ·omega
    ·have:=hown b e;omega)) (fun b hb _=>hb) ho.size
  ·rw[hk1,List.take_succ_eq_append_getElem (by omega),List.flatMap_append]
   have e:t.mo[k-4]=t.mo.getD (k-4) jF:=by simp[List.getD,List.getElem?_eq_getElem (show k-4<t.mo.length by omega)]
   rw[e]
   have:=hw
   rw[show str (t.mo.getD (k-4) jF).nm.data.toList=(t.mo.getD (k-4) jF).nm from by apply ByteArray.ext;simp[str]] at this
   simpa[zp] using this
  ·rcases hb with e|e|e
   ·omega
   ·omega
   ·have:=hown b e;omega
mutual
theorem JL:∀t:RE,sz (jE t)=sz t
 | .node k n A c ks=>by rw[jE,sz,sz,QO ks]
theorem QO:∀ks:List RE,szL (xx ks)=szL ks
 | []=>rfl
 | x::r=>by rw[xx,szL,szL,JL x,QO r]
end
mutual
theorem J5:∀t:RE,ht (jE t)=ht t
 | .node k n A c ks=>by rw[jE,ht,ht,QG ks]
theorem QG:∀ks:List RE,htL (xx ks)=htL ks
 | []=>rfl
 | x::r=>by rw[xx,htL,htL,J5 x,QG r]
end
theorem Same.ok {t u:RE} (h:Same t u) (hu:ReOk u):ReOk t:=jcJ (jcz hu) h
theorem Same.sz {t u:RE} (h:Same t u):sz t=sz u:=by rw[←JL t,←JL u,h]
theorem Same.ht {t u:RE} (h:Same t u):ht t=ht u:=by rw[←J5 t,←J5 u,h]
structure ReadAs (t:RT) (lp:RE) (u:Tr):Prop where
 nm:u.nm=str t.nm
 ep:u.ep=t.ep
 cy:u.cy=t.cy
 mo:u.mo=t.mo
 ex:Same u.ex lp
structure TrNew (B:Nat) (w:World) (u:Tr):Prop where
 ex:ReAt w (fun b=>B≤b) w.heap.size u.ex
 mo:w.ownsRow B 155 3 (.slice u.A1 u.mo.length u.c1) u.mo.length (u.mo.flatMap zp)
theorem TrNew.in_ {B:Nat} {w:World} {u:Tr} (h:TrNew B w u):TrIn w u:=⟨JA h.mo,h.ex.in_⟩
def PrsN (t:RT) (lp:RE) (w:World) (e:Ending) (w':World):Prop :=
 ∃u:Tr,e = .returned (.tuple #[u.val,.int .i64 0,.int .i64 0])∧ReadAs t lp u∧TrNew w.heap.size w' u∧TrFit u∧Below w.heap.size w w'
abbrev jQ:Array Value:=#[.string ⟨#[]⟩,.int .i64 0,.int .i64 0,.int .i64 0,.int .i64 0,.slice none 0 0,.slice none 0 0]
theorem jaR (t:RT) (ok:RTOk t) (lp:RE) (X:List Tok) (hX:qD t.lt=[108,101,97,112]::X) (hlen:(t.rest 0).length≤4000) (hh:qo (str t.nm)∧(-4000000≤t.ep∧t.ep≤4000000)∧1≤t.cy∧t.cy≤3000) (hlp:ReFine lp) (hmo:MthsOk t.mo) (w:World) (hs:Sgs w) (hv:Lvs w) (hsh:Shp w)
  (hE:∀g W S,S.size≤5000→RdOk W g S 0 X→Calls Tryz.prog 147 #[.pointer (some ⟨g,0,none⟩),.int .i64 0] W (qK g S 0 lp [] W)) :
  Calls Tryz.prog 82 #[.string (str (t.rest 0))] w (PrsN t lp w):=by
 have hsz0:(str (t.rest 0)).size≤4000:=by rw[jt];exact hlen
 have t1:decide (4000<((str (t.rest 0)).size:Int))=false:=decide_eq_false (by omega)
 have t2:decide (4000<(str (t.rest 0)).size)=false:=decide_eq_false (by omega)
 have hrl:∀k,k≤4+t.mo.length→(t.rest k).length≤4000:=fun k hk=>by
  induction k with
  | zero=>exact hlen
  | succ k ih =>
   have h1:=ih (by omega)
   rw[t.step k (by omega)] at h1
   simp at h1
   omega
 have hll:∀k,k<4+t.mo.length→(t.line k).length≤4000:=fun k hk=>by
  have h1:=hrl k (by omega)
  rw[t.step k hk] at h1
  simp at h1
  omega
 have HE1:Hid (∀k,k<4+t.mo.length→(str (t.rest k)).toList.isEmpty=false):=fun k hk=>by
  rw[jv,t.step k hk]
  simp
 have HE2:Hid ((str (t.rest (4+t.mo.length))).toList.isEmpty=true):=by unfold Hid;rw[jv,t.done];rfl
 have HC:Hid (∀k,k<4+t.mo.length→∀W,Below w.heap.size w W→Calls Tryz.prog 51 #[.string (str (t.rest k)),.string ⟨#[10]⟩] W fun e w'=>e = .returned (.tuple #[.string (str (t.line k)),.string (str (t.rest (k+1))),.bool true])∧Below W.heap.size W w'):=fun k hk W hW=>by
  have h:=ka (str (t.rest k)) 10 W (by rw[jt];have:=hrl k (by omega);omega) (hsh.next hW)
  rw[qC,t.step k hk,jbL 10 _ _ (ok.no10 k hk)] at h
  rw[t.step k hk]
  exact h
 have hg1:4<w.heap.size:=block_lt_of_cell (hs 0 (by omega))
 have hg2:5<w.heap.size:=block_lt_of_cell (hv 0 (by omega))
 have HST:Hid (∀k,k<4+t.mo.length→∀(W0 W:World) (g:Nat),PSt (w.heap.size+1) t lp k W0→Below W0.heap.size W0 W→W0.heap.size≤g→Below w.heap.size w W→Rd W g (str (t.line k)) 0 0 0→Calls Tryz.prog 104 #[.pointer (some ⟨g,0,none⟩),.pointer (some ⟨w.heap.size+1,0,none⟩),.int .i64 (k:Int)] W (jfc (w.heap.size+1) t lp k W)):=fun k hk W0 W g hp0 hbe hg0 hW hrd =>
  jbU g (w.heap.size+1) t ok lp X hX k hk W (by have:=hp0.lt;omega) hrd (by have:=hll k hk;omega) W0 hp0 hbe hg0 (hs.next hW) (hv.next hW) (by omega) (by omega) (fun W' S hS h=>hE g W' S hS h)
 have HL20:=ok.ml
 have HCK:Hid (∀(u:Tr) W,ReadAs t lp u→TrIn W u→TrFit u→Calls Tryz.prog 84 #[u.val] W fun e w'=>e = .returned (.int .i64 0)∧Below W.heap.size W w'):=fun u W hu hin hft=>by
  have hok:TrOk u:=⟨by rw[hu.nm,hu.ep,hu.cy];exact hh,⟨hu.ex.ok hlp.1,by rw[hu.ex.sz];exact hlp.2,by rw[hu.ex.ht];exact hlp.3⟩,by rw[hu.mo];exact hmo⟩
  refine(Je u W hin hft).mono ?_
  rintro e w' ⟨E,he,hE',hb⟩
  obtain rfl:E=0:=hE'.2 hok
  exact⟨he,hb⟩
 have HNM:Hid ((str t.nm).size≤maxLen):=by unfold Hid;have:=hh.1.2.1;unfold maxLen;omega
 have HMN:Hid (∀x∈t.mo,x.nm.size≤maxLen):=fun x hx=>by
  obtain⟨i,hi,rfl⟩:=List.getElem_of_mem hx
  have:=(hmo.each i hi).nm.2.1
  have e:t.mo.getD i jF=t.mo[i]:=by simp[List.getD,List.getElem?_eq_getElem hi]
  rw[e] at this
  unfold maxLen
  omega
 have hX0:=(Box.new w 128 jQ).alloc (Obj.cells jQ 128)
 have hY0:=Box.new (w.alloc (Obj.cells jQ 128)) 128 jQ
 rw[show(w.alloc (Obj.cells jQ 128)).heap.size=w.heap.size+1 from by simp] at hY0
 have HB0:=hD (jh w (Obj.cells jQ 128) (Obj.cells jQ 128))
 have HZ0:=hD hX0
 have HPS:Hid (PSt (w.heap.size+1) t lp 0 ((w.alloc (Obj.cells jQ 128)).alloc (Obj.cells jQ 128))):=.inl ⟨rfl,hY0⟩
 clear hX0 hY0 hs hv hsh hE hX hlp hmo ok hh hll hrl hg1 hg2
 go_enter Tryz.func82,Tryz.ntmps82
 go_wp2_with fail
 generalize (w.alloc (Obj.cells jQ 128)).alloc (Obj.cells jQ 128)=W0 at *
 generalize hg:w.heap.size=g at *
 have HG:=hD hg
 clear hg
 have hgg:w.heap.size≤g:=by have:=HG.out;omega
 go_loopw [0,6,7,8,9,10] (fun sv lv _ _ _ _ wr=>∃k:Nat,k≤4+t.mo.length∧sv = .string (str (t.rest k))∧lv = .int .i64 (k:Int)∧Hid (PSt (g+1) t lp k wr)∧Hid (Box wr g 128 jQ)∧Hid (Below g w wr)) (fun _ lv _ _ _ _ _=>4+t.mo.length-(intOf lv).toNat)
 case atStart=>exact⟨0,by omega,rfl,rfl,HPS,HZ0,HB0⟩
 case round =>
  clear HPS HB0 HZ0
  obtain⟨k,hk,rfl,rfl,hps,hbz,hbr⟩:=hrel
  by_cases hlt:k<4+t.mo.length
  ·have he:=HE1.out k hlt
   have hCk:=hD (HC.out k hlt wr hbr.out)
   have hSk:=hD (HST.out k hlt)
   generalize str (t.rest k)=R at *
   go_wp2_with fail
   refine hCk.out.mono ?_
   rintro e w1 ⟨rfl,hb⟩
   have hp1:=hps.out.next hb
   have hz1:=hbz.out.below hb
   have hB1:Below g w w1:=hbr.out.trans (hb.mono (by have:=hbz.out.lt;omega))
   have hal:=ja w1 (Obj.cells #[.string (str (t.line k)),.int .i64 0,.int .i64 0,.int .i64 0,.int .i64 0] 172)
   have hrd:Rd (w1.alloc (Obj.cells #[.string (str (t.line k)),.int .i64 0,.int .i64 0,.int .i64 0,.int .i64 0] 172)) w1.heap.size (str (t.line k)) 0 0 0:=Box.new w1 172 #[.string (str (t.line k)),.int .i64 0,.int .i64 0,.int .i64 0,.int .i64 0]
   have hB2:Below g w (w1.alloc (Obj.cells #[.string (str (t.line k)),.int .i64 0,.int .i64 0,.int .i64 0,.int .i64 0] 172)):=hB1.trans (hal.mono (by have:=hz1.lt;omega))
   have HR:=hD (hSk.out w1 _ w1.heap.size hp1 hal (Nat.le_refl _) hB2 hrd)
   have HZ2:=hD (hz1.below hal)
   have HB2:=hD hB2
   clear hb hp1 hz1 hB1 hal hrd hB2 hCk hSk hps hbz hbr
   go_wp2_with fail
   refine HR.out.mono ?_
   rintro e w3 ⟨rfl,hp3,hb3⟩
   have HP3:=hD hp3
   have HZ3:Hid (Box w3 g 128 jQ):=HZ2.out.belowB hb3 (by omega)
   have HB3:Hid (Below g w w3):=HB2.out.trans (hb3.mono (by omega))
   clear hp3 hb3 HR HZ2 HB2
   go_wp2_with fail
   go_roundw
   case rel=>exact⟨k+1,by omega,rfl,by go_num,HP3,HZ3,HB3⟩
   case measure=>simp[intOf];omega
  ·obtain rfl:k=4+t.mo.length:=by omega
   have he:=HE2.out
   rcases hps.out with⟨e,_⟩|⟨e,_⟩|⟨e,_⟩|⟨e,_⟩|⟨_,k0,n0,A,c,ks,A1,c1,M,hb1,hs1,_,hMg,ha,hw⟩
   ·omega
   ·omega
   ·omega
   ·omega
   rw[show 4+t.mo.length-4=t.mo.length from by omega] at hb1 hw
   rw[List.take_length] at hw
   have hfit:=jI hw
   obtain⟨A1',c1',hAv,hc1,hc2⟩:=hfit
   injection hAv with hA1 hlen' hcc
   subst hA1 hcc
   have HU:Hid (ReadAs t lp ⟨str t.nm,t.ep,t.cy,k0,n0,A,c,ks,t.mo,A1,c1⟩):=⟨rfl,rfl,rfl,rfl,hs1⟩
   have HIN:Hid (TrIn wr ⟨str t.nm,t.ep,t.cy,k0,n0,A,c,ks,t.mo,A1,c1⟩):=⟨JA hw,ha.in_⟩
   have HFT:Hid (TrFit ⟨str t.nm,t.ep,t.cy,k0,n0,A,c,ks,t.mo,A1,c1⟩):=⟨HNM.out,HMN.out,hc1,hc2⟩
   have HCk:=hD (HCK.out _ wr HU.out HIN.out HFT.out)
   have x0:wr.cell? ⟨g+1,0,none⟩=some (.string (str t.nm)):=hb1.cell 0
   have x1:wr.cell? ⟨g+1,1,none⟩=some (.int .i64 t.ep):=hb1.cell 1
   have x2:wr.cell? ⟨g+1,2,none⟩=some (.int .i64 t.cy):=hb1.cell 2
   have x3:wr.cell? ⟨g+1,3,none⟩=some (.int .i64 k0):=hb1.cell 3
   have x4:wr.cell? ⟨g+1,4,none⟩=some (.int .i64 n0):=hb1.cell 4
   have x5:wr.cell? ⟨g+1,5,none⟩=some (.slice A ks.length c):=hb1.cell 5
   have x6:wr.cell? ⟨g+1,6,none⟩=some (.slice A1 t.mo.length c1):=hb1.cell 6
   have xl:g+1<wr.heap.size:=hb1.lt
   have HBX:=hD hb1
   have HHW:=hD hw
   have HHA:=hD ha
   have t4:decide (((4+t.mo.length:Nat):Int)<4)=false:=decide_eq_false (by omega)
   clear hb1 hw ha hs1 hc1 hc2 hps hlen'
   generalize str (t.rest (4+t.mo.length))=R at *
   go_wp2_with fail
   refine HCk.out.mono ?_
   rintro e w9 ⟨rfl,hb9⟩
   have hz9:=hbz.out.below hb9
   have hb9x:=HBX.out.below hb9
   have HW9:=hD (jn HHW.out hb9)
   have HA9:=hD (HHA.out.next hb9)
   have HB9:=hD (hbr.out.trans (hb9.mono (by have:=hbz.out.lt;omega)))
   clear x0 x1 x2 x3 x4 x5 x6 xl HCk HBX HHW HHA hbz hbr hb9 HIN HFT
   have x0:w9.cell? ⟨g+1,0,none⟩=some (.string (str t.nm)):=hb9x.cell 0
   have x1:w9.cell? ⟨g+1,1,none⟩=some (.int .i64 t.ep):=hb9x.cell 1
   have x2:w9.cell? ⟨g+1,2,none⟩=some (.int .i64 t.cy):=hb9x.cell 2
   have x3:w9.cell? ⟨g+1,3,none⟩=some (.int .i64 k0):=hb9x.cell 3
   have x4:w9.cell? ⟨g+1,4,none⟩=some (.int .i64 n0):=hb9x.cell 4
   have x5:w9.cell? ⟨g+1,5,none⟩=some (.slice A ks.length c):=hb9x.cell 5
   have x6:w9.cell? ⟨g+1,6,none⟩=some (.slice A1 t.mo.length c1):=hb9x.cell 6
   have xl:g+1<w9.heap.size:=hb9x.lt
   have r0:w9.cell? ⟨g,0,none⟩=some (.string ⟨#[]⟩):=hz9.cell 0
   have r1:w9.cell? ⟨g,1,none⟩=some (.int .i64 0):=hz9.cell 1
   have r2:w9.cell? ⟨g,2,none⟩=some (.int .i64 0):=hz9.cell 2
   have r3:w9.cell? ⟨g,3,none⟩=some (.int .i64 0):=hz9.cell 3
   have r4:w9.cell? ⟨g,4,none⟩=some (.int .i64 0):=hz9.cell 4
   have r5:w9.cell? ⟨g,5,none⟩=some (.slice none 0 0):=hz9.cell 5
   have r6:w9.cell? ⟨g,6,none⟩=some (.slice none 0 0):=hz9.cell 6
   have rf:∀i,w9.frozen? ⟨g,i,none⟩=false:=fun i=>hz9.free i
   have HZ9:=hD hz9
   clear hz9 hb9x
   go_wp2_with fail
   refine bodyPost_ret (v:=.tuple #[.agg #[.string (str t.nm),.int .i64 t.ep,.int .i64 t.cy,.int .i64 k0,.int .i64 n0,.slice A ks.length c,.slice A1 t.mo.length c1],.int .i64 0,.int .i64 0]) (by simp[results,Tryz.results82,go_sem,r0,r1,r2,r3,r4,r5,r6]) rfl ?_
   have hown:(((((((w9.setCell ⟨g,0,none⟩ (.string (str t.nm))).setCell ⟨g,1,none⟩ (.int .i64 t.ep)).setCell ⟨g,2,none⟩ (.int .i64 t.cy)).setCell ⟨g,3,none⟩ (.int .i64 k0)).setCell ⟨g,4,none⟩ (.int .i64 n0)).setCell ⟨g,5,none⟩ (.slice A ks.length c)).setCell ⟨g,6,none⟩ (.slice A1 t.mo.length c1)).ownsRow M 155 3 (.slice A1 t.mo.length c1) t.mo.length (t.mo.flatMap zp):=jx HW9.out fun b hb=>by
    have h:=vX HW9.out HZ9.out (by decide) b hb
    rw[Below.heap_setCell _ _ _ b h,Below.heap_setCell _ _ _ b h,Below.heap_setCell _ _ _ b h,Below.heap_setCell _ _ _ b h,Below.heap_setCell _ _ _ b h,Below.heap_setCell _ _ _ b h,Below.heap_setCell _ _ _ b h]
   have hre:ReAt (((((((w9.setCell ⟨g,0,none⟩ (.string (str t.nm))).setCell ⟨g,1,none⟩ (.int .i64 t.ep)).setCell ⟨g,2,none⟩ (.int .i64 t.cy)).setCell ⟨g,3,none⟩ (.int .i64 k0)).setCell ⟨g,4,none⟩ (.int .i64 n0)).setCell ⟨g,5,none⟩ (.slice A ks.length c)).setCell ⟨g,6,none⟩ (.slice A1 t.mo.length c1)) (fun b=>g+1<b∧b<M) (((((((w9.setCell ⟨g,0,none⟩ (.string (str t.nm))).setCell ⟨g,1,none⟩ (.int .i64 t.ep)).setCell ⟨g,2,none⟩ (.int .i64 t.cy)).setCell ⟨g,3,none⟩ (.int .i64 k0)).setCell ⟨g,4,none⟩ (.int .i64 n0)).setCell ⟨g,5,none⟩ (.slice A ks.length c)).setCell ⟨g,6,none⟩ (.slice A1 t.mo.length c1)).heap.size (.node k0 n0 A c ks):=(((((((HA9.out.set_ g 0 _ (by omega)).set_ g 1 _ (by omega)).set_ g 2 _ (by omega)).set_ g 3 _ (by omega)).set_ g 4 _ (by omega)).set_ g 5 _ (by omega)).set_ g 6 _ (by omega))
   refine⟨⟨str t.nm,t.ep,t.cy,k0,n0,A,c,ks,t.mo,A1,c1⟩,rfl,HU.out,⟨?_,?_⟩,⟨HNM.out,HMN.out,?_,?_⟩,?_⟩
   ·rw[HG.out];exact hre.more fun b hb _=>by omega
   ·rw[HG.out];exact jM hown (by omega)
   ·obtain⟨A1',c1',hAv,hc1,hc2⟩:=jI hown
    injection hAv with _ _ hcc
    subst hcc
    exact hc1
   ·obtain⟨A1',c1',hAv,hc1,hc2⟩:=jI hown
    injection hAv with _ _ hcc
    subst hcc
    exact hc2
   ·rw[HG.out]
    exact(((((((HB9.out.setCell (p:=⟨g,0,none⟩) (by exact Nat.le_refl _) _).setCell (p:=⟨g,1,none⟩) (by exact Nat.le_refl _) _).setCell (p:=⟨g,2,none⟩) (by exact Nat.le_refl _) _).setCell (p:=⟨g,3,none⟩) (by exact Nat.le_refl _) _).setCell (p:=⟨g,4,none⟩) (by exact Nat.le_refl _) _).setCell (p:=⟨g,5,none⟩) (by exact Nat.le_refl _) _).setCell (p:=⟨g,6,none⟩) (by exact Nat.le_refl _) _)
end
section
open Go.Lib
theorem ZQ (n:Int) (A:Option Addr) (c:Nat) (ks:List RE):shB (.node 1 n A c ks)=itoa n:=by rw[shB,if_pos rfl]
theorem Zl (n:Int) (A:Option Addr) (c:Nat) (ks:List RE):shB (.node 2 n A c ks)=[121]:=by rw[shB,if_neg (by omega),if_pos rfl]
theorem ZO (n:Int) (A:Option Addr) (c:Nat) (a:RE):shB (.node 3 n A c [a])=45::shT 6 a:=by
 have e0:=yW [a] 0 (by simp)
 simp only[List.getD_cons_zero] at e0
 rw[shB,if_neg (by omega),if_neg (by omega),if_pos rfl,e0]
 rfl
theorem Zs (n:Int) (A:Option Addr) (c:Nat) (a:RE):shB (.node 11 n A c [a])=[110,111,116,32]++shT 2 a:=by
 have e0:=yW [a] 0 (by simp)
 simp only[List.getD_cons_zero] at e0
 rw[shB,if_neg (by omega),if_neg (by omega),if_neg (by omega),if_pos rfl,e0]
 rfl
theorem Zw (k n:Int) (A:Option Addr) (c:Nat) (a b:RE) (hk:jT k):shB (.node k n A c [a,b])=shT (fst k) a++32::(sgn k++32::shT (lev k+1) b):=by
 have h:=hk
 unfold jT at h
 have e0:=yW [a,b] 0 (by simp)
 have e1:=yW [a,b] 1 (by simp)
 simp only[List.getD_cons_zero,List.getD_cons_succ] at e0 e1
 rw[shB,if_neg (by omega),if_neg (by omega),if_neg (by omega),if_neg (by omega),e0,e1]
 rfl
theorem JY {k n:Int} {ks:List RE} (h:ReNode k n ks.length) :
  (k=1∧ks=[])∨(k=2∧ks=[])∨(k=3∧∃a,ks=[a])∨(k=11∧∃a,ks=[a])∨(jT k∧∃a b,ks=[a,b]):=by
 have h0:=h.k0
 have h1:=h.k1
 have hl:=h.len
 have hc:k=1∨k=2∨k=3∨k=11∨jT k:=by unfold jT;omega
 rcases hc with rfl|rfl|rfl|rfl|hb
 ·exact .inl ⟨rfl,List.eq_nil_of_length_eq_zero (by rw[hl];rfl)⟩
 ·exact .inr (.inl ⟨rfl,List.eq_nil_of_length_eq_zero (by rw[hl];rfl)⟩)
 ·exact .inr (.inr (.inl ⟨rfl,List.length_eq_one_iff.1 (by rw[hl];rfl)⟩))
 ·exact .inr (.inr (.inr (.inl ⟨rfl,List.length_eq_one_iff.1 (by rw[hl];rfl)⟩)))
 ·have h2:ks.length=2:=by
   rw[hl]
   unfold jT at hb
   unfold yt
   repeat' split
   all_goals omega
  match ks,h2 with
  | [a,b],_=>exact .inr (.inr (.inr (.inr ⟨hb,a,b,rfl⟩)))
theorem QL (t:RE) (h:ReOk t):shB (jE t)=shB t:=by
 induction h with
 | @mk k n A c ks node kids ih =>
  have hT:∀x∈ks,∀L,shT L (jE x)=shT L x:=fun x hx L=>by unfold shT;rw[jdd,ih x hx]
  rw[qL]
  rcases JY node with⟨rfl,rfl⟩|⟨rfl,rfl⟩|⟨rfl,a,rfl⟩|⟨rfl,a,rfl⟩|⟨hb,a,b,rfl⟩
  ·rw[ZQ,ZQ]
  ·rw[Zl,Zl]
  ·show shB (.node 3 n none 0 [jE a])=_
   rw[ZO,ZO,hT a (by simp)]
  ·show shB (.node 11 n none 0 [jE a])=_
   rw[Zs,Zs,hT a (by simp)]
  ·show shB (.node k n none 0 [jE a,jE b])=_
   rw[Zw k _ _ _ _ _ hb,Zw k _ _ _ _ _ hb,hT a (by simp),hT b (by simp)]
end
section
open Go.RowKit
def jcy (t:Tr):List UInt8:=[99,97,108,101,110,100,97,114,32]++t.nm.data.toList++[10,101,112,111,99,104,32]++Lib.itoa t.ep++[10,99,121,99,108,101,32]++Lib.itoa t.cy++[10,108,101,97,112,32]++shB t.ex++[10]
def jfz (m:Mth):List UInt8:=Yv m++[10]
def zS (t:Tr):List UInt8:=jcy t++t.mo.flatMap jfz
def vs (t:Tr):RT:=⟨t.nm.data.toList,t.ep,t.cy,[108,101,97,112,32]++shB t.ex,t.mo⟩
theorem Kz (t:RT):∀(j k:Nat),k+j=t.mo.length→t.rest (4+k)=(t.mo.drop k).flatMap jfz:=by
 intro j
 induction j with
 | zero =>
  intro k hk
  obtain rfl:k=t.mo.length:=by omega
  rw[RT.done,List.drop_length]
  rfl
 | succ j ih =>
  intro k hk
  rw[t.step (4+k) (by omega),show 4+k+1=4+(k+1) from by omega,ih (k+1) (by omega),List.drop_eq_getElem_cons (show k<t.mo.length by omega),List.flatMap_cons]
  have e:t.line (4+k)=Yv t.mo[k]:=by
   unfold RT.line
   rw[if_neg (by omega),if_neg (by omega),if_neg (by omega),if_neg (by omega),show 4+k-4=k from by omega]
   simp[List.getD,List.getElem?_eq_getElem (show k<t.mo.length by omega)]
  rw[e]
  unfold jfz
  simp
theorem Yo (t:Tr):zS t=(vs t).rest 0:=by
 rw[(vs t).step 0 (by omega),(vs t).step 1 (by omega),(vs t).step 2 (by omega),(vs t).step 3 (by omega),show(3+1:Nat)=4+0 from rfl,Kz (vs t) _ 0 (Nat.zero_add _)]
 unfold zS jcy RT.line vs
 simp
theorem vW (s:ByteArray):str s.data.toList=s:=by simp[str]
end
end Go.Proofs.YtkkjaaognefeiaaGreatDoor
