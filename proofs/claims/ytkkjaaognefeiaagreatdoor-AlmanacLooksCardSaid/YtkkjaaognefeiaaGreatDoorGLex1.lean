/- Lex1, Lex2, Lex3 -/
import Derived.Laws.Rows
import Derived.Test.YtkkjaaognefeiaaGreatDoorGFlow
import Derived.Test.YtkkjaaognefeiaaGreatDoorGPlainSplit
set_option maxRecDepth 100000
set_option maxHeartbeats 16000000
set_option linter.unusedVariables false
set_option linter.unusedSimpArgs false
namespace Go.Proofs.YtkkjaaognefeiaaGreatDoor
open Go.RowKit
def inB (lo hi:UInt8) (b:UInt8):Bool:=decide (lo.toNat≤b.toNat)&&decide (b.toNat≤hi.toNat)
theorem VS (p:UInt8→Bool):∀(l:List UInt8) (m:Nat),m≤l.length→(∀j (h:j<l.length),j<m→p l[j]=true)→(∀h:m<l.length,p l[m]=false)→(l.takeWhile p).length=m
 | [],m,hm,_,_=>by simp at hm;subst hm;rfl
 | x::l,0,_,_,hs=>by
  have:=hs (by simp)
  simp at this
  simp[this]
 | x::l,m+1,hm,ha,hs=>by
  have h0:=ha 0 (by simp) (by omega)
  simp at h0
  have ih:=VS p l m (by simpa using hm) (fun j h hj=>by have:=ha (j+1) (by simpa using h) (by omega);simpa using this) (fun h=>by have:=hs (by simpa using h);simpa using this)
  simp[h0,ih]
def yL (lo hi:UInt8) (S:List UInt8) (n:Nat):Nat:=n+((S.drop n).takeWhile (inB lo hi)).length
theorem jac (lo hi:UInt8) (S:List UInt8) (n k:Nat) (hn:n≤k) (hk:k≤S.length) (ha:∀j (h:j<S.length),n≤j→j<k→inB lo hi S[j]=true) (hs:∀h:k<S.length,inB lo hi S[k]=false):yL lo hi S n=k:=by
 unfold yL
 rw[VS (inB lo hi) (S.drop n) (k-n) (by rw[List.length_drop];omega) (fun j h hj=>by
  rw[List.getElem_drop]
  exact ha (n+j) (by rw[List.length_drop] at h;omega) (by omega) (by omega)) (fun h=>by
  rw[List.getElem_drop]
  rw[List.length_drop] at h
  have:=hs (by omega)
  simp only[show n+(k-n)=k from by omega]
  exact this)]
 omega
theorem Zo (lo hi:UInt8) (S:List UInt8) (n:Nat) (h:n≤S.length):n≤yL lo hi S n∧yL lo hi S n≤S.length:=by
 unfold yL
 have:=(List.takeWhile_prefix (inB lo hi) (l:=S.drop n)).length_le
 rw[List.length_drop] at this
 omega
theorem ZI (S:ByteArray) (n:Nat) (lo hi:UInt8) (w:World) (hS:S.size≤5000) (hn:n≤S.size) :
  Calls Tryz.prog 177 #[.string S,.int .i64 (n:Int),.int .u8 (lo.toNat:Int),.int .u8 (hi.toNat:Int)] w fun e w'=>e = .returned (.int .i64 (yL lo hi S.data.toList n:Int))∧w=w':=by
 have hl:S.data.toList.length=S.size:=Array.length_toList
 have HR:=hD (fun k h1 h2 h3 h4=>jac lo hi S.data.toList n k h1 h2 h3 h4)
 generalize yL lo hi S.data.toList n=R at *
 go_enter Tryz.func177,Tryz.ntmps177
 go_wp2_with fail
 go_loop [1] (fun nv=>∃k:Nat,n≤k∧k≤S.size∧nv = .int .i64 (k:Int)∧Hid (∀j (h:j<S.data.toList.length),n≤j→j<k→inB lo hi S.data.toList[j]=true)) (fun nv=>S.size-(intOf nv).toNat)
 case atStart=>exact⟨n,Nat.le_refl _,hn,rfl,fun j h h1 h2=>by omega⟩
 case round =>
  obtain⟨k,hk1,hk2,rfl,hall⟩:=hrel
  by_cases hlt:k<S.size
  ·have hb:S.data.toList[k]'(by omega)=S[k]:=by simp[ByteArray.getElem_eq_getElem_data]
   by_cases hin:inB lo hi S[k]=true
   ·have HN:Hid (∀j (h:j<S.data.toList.length),n≤j→j<k+1→inB lo hi S.data.toList[j]=true):=fun j h h1 h2=>by
     by_cases e:j=k
     ·subst e;rw[hb];exact hin
     ·exact hall.out j h h1 (by omega)
    unfold inB at hin
    rw[Bool.and_eq_true,decide_eq_true_eq,decide_eq_true_eq] at hin
    obtain⟨i1,i2⟩:=hin
    have j1:decide ((lo.toNat:Int)≤(S[k].toNat:Int))=true:=decide_eq_true (by omega)
    have j2:decide ((S[k].toNat:Int)≤(hi.toNat:Int))=true:=decide_eq_true (by omega)
    have j3:decide (lo.toNat≤S[k].toNat)=true:=decide_eq_true (by omega)
    have j4:decide (S[k].toNat≤hi.toNat)=true:=decide_eq_true (by omega)
    clear hb
    go_wp2_with fail
    go_round
    case rel=>exact⟨k+1,by omega,by omega,by go_num,HN⟩
    case measure=>simp[intOf];omega
   ·have hRk:=HR.out k hk1 (by omega) hall.out (fun h=>by rw[hb];simpa using hin)
    have hin2:inB lo hi S[k]=false:=by simpa using hin
    clear hb hin
    subst hRk
    unfold inB at hin2
    rw[Bool.and_eq_false_iff,decide_eq_false_iff_not,decide_eq_false_iff_not] at hin2
    by_cases h1:lo.toNat≤S[R].toNat
    ·have h2:¬S[R].toNat≤hi.toNat:=by rcases hin2 with h|h;exact absurd h1 h;exact h
     clear hin2
     have j1:decide ((lo.toNat:Int)≤(S[R].toNat:Int))=true:=decide_eq_true (by omega)
     have j2:decide ((S[R].toNat:Int)≤(hi.toNat:Int))=false:=decide_eq_false (by omega)
     have j3:decide (lo.toNat≤S[R].toNat)=true:=decide_eq_true (by omega)
     have j4:decide (S[R].toNat≤hi.toNat)=false:=decide_eq_false (by omega)
     go_wp2_with fail
     go_ret
     exact⟨rfl,rfl⟩
    ·clear hin2
     have j1:decide ((lo.toNat:Int)≤(S[R].toNat:Int))=false:=decide_eq_false (by omega)
     have j3:decide (lo.toNat≤S[R].toNat)=false:=decide_eq_false (by omega)
     go_wp2_with fail
     go_ret
     exact⟨rfl,rfl⟩
  ·have hRk:=HR.out k hk1 (by omega) hall.out (fun h=>by omega)
   subst hRk
   go_wp2_with fail
   go_ret
   exact⟨rfl,rfl⟩
def Rd (w:World) (g:Nat) (S:ByteArray) (a n:Nat) (op:Int):Prop:=Box w g 172 #[.string S,.int .i64 (a:Int),.int .i64 (n:Int),.int .i64 op,.int .i64 0]
structure Lx (S:List UInt8) (a n:Nat) (ts:List Tok):Prop where
 an:a≤n
 ns:n≤S.length
 cur:(S.take n).drop a=ts.headD []
 rest:qD (S.drop n)=ts.tail
 ne:∀c,ts.head?=some c→c≠[]
theorem VM:∀(f:Nat) (l:List UInt8) (c:Tok),c∈vn f l→c≠[]
 | 0,l,c,h=>by cases h
 | f+1,l,c,h=>by
  unfold vn at h
  split at h
  ·cases h
  ·rename_i hs
   rcases List.mem_cons.1 h with rfl|h
   ·exact jdc _ hs
   ·exact VM f _ c h
theorem jcw (l w r:List UInt8) (h:w++r=l):l.take w.length=w:=by
 subst h
 simp
theorem jfM (b:UInt8):inB 32 32 b=(b==32):=by
 unfold inB
 rw[Bool.eq_iff_iff,Bool.and_eq_true,decide_eq_true_eq,decide_eq_true_eq,beq_iff_eq,←UInt8.toNat_inj]
 show 32≤b.toNat∧b.toNat≤32↔b.toNat=32
 omega
theorem jdK (S:List UInt8) (n:Nat) (hn:n≤S.length):sk (S.drop n)=S.drop (yL 32 32 S n):=by
 unfold yL sk
 rw[←List.drop_drop,show inB 32 32=(fun b:UInt8=>b==32) from funext jfM]
 generalize S.drop n=l
 induction l with
 | nil=>rfl
 | cons x l ih =>
  rw[List.dropWhile_cons,List.takeWhile_cons]
  split
  ·simpa using ih
  ·simp
theorem jeW (S:List UInt8) (n:Nat) (hn:n≤S.length) (ts:List Tok) (h:qD (S.drop n)=ts) (a m:Nat) (ha:a=yL 32 32 S n) (hm:m=max (yL 97 122 S a) (yL 48 57 S a)) :
  n≤a∧a≤S.length∧a≤m∧m≤S.length∧(if m=a∧a<S.length then Lx S a (m+1) ts else Lx S a m ts):=by
 have h1:=Zo 32 32 S n hn
 rw[←ha] at h1
 have h2:=Zo 97 122 S a h1.2
 have h3:=Zo 48 57 S a h1.2
 refine⟨h1.1,h1.2,by omega,by omega,?_⟩
 have hsk:=jdK S n hn
 rw[←ha] at hsk
 have hlow:yL 97 122 S a=a+((S.drop a).takeWhile qk).length:=rfl
 have hdig:yL 48 57 S a=a+((S.drop a).takeWhile zq).length:=rfl
 have hnec:∀c,ts.head?=some c→c≠[]:=fun c hc=>by
  rw[←h] at hc
  exact VM _ _ c (List.mem_of_mem_head? hc)
 by_cases hend:a=S.length
 ·have he:S.drop a=[]:=by rw[hend];simp
  rw[he] at hlow hdig hsk
  have hts:ts=[]:=by rw[←h];exact XU _ hsk
  have hma:m=a:=by simp at hlow hdig;omega
  rw[if_neg (by omega),hma,hts]
  exact⟨Nat.le_refl _,h1.2,by simp,by rw[he];rfl,fun c hc=>by cases hc⟩
 ·have hne:S.drop a≠[]:=fun e=>by have:=congrArg List.length e;rw[List.length_drop,List.length_nil] at this;omega
  have hts:ts=tk (S.drop a)::qD ((S.drop a).drop (tk (S.drop a)).length):=by
   rw[←h,xa _ (by rw[hsk];exact hne),hsk]
  have hfin:∀q,q=a+(tk (S.drop a)).length→q≤S.length→Lx S a q ts:=fun q hq hq2=>by
   refine⟨by omega,hq2,?_,?_,hnec⟩
   ·rw[hts]
    show _=tk (S.drop a)
    rw[hq,List.drop_take,show a+(tk (S.drop a)).length-a=(tk (S.drop a)).length from by omega]
    exact jcw _ _ _ (Va (S.drop a))
   ·rw[hts,hq,←List.drop_drop]
    rfl
  by_cases hl:(S.drop a).takeWhile qk=[]
  ·by_cases hd:(S.drop a).takeWhile zq=[]
   ·rw[hl] at hlow
    rw[hd] at hdig
    have hma:m=a:=by simp at hlow hdig;omega
    have htk:tk (S.drop a)=(S.drop a).take 1:=by unfold tk;rw[if_neg (by simpa using hl),if_neg (by simpa using hd)]
    rw[if_pos ⟨hma,by omega⟩]
    refine hfin (m+1) ?_ (by omega)
    rw[htk,List.length_take,List.length_drop,hma]
    omega
   ·have htk:tk (S.drop a)=(S.drop a).takeWhile zq:=by unfold tk;rw[if_neg (by simpa using hl),if_pos (by simpa using hd)]
    rw[hl] at hlow
    have hpos:=List.length_pos_iff.2 hd
    have hma:m=a+((S.drop a).takeWhile zq).length:=by simp at hlow;omega
    rw[if_neg (by omega)]
    exact hfin m (by rw[htk];exact hma) (by omega)
  ·have htk:tk (S.drop a)=(S.drop a).takeWhile qk:=by unfold tk;rw[if_pos (by simpa using hl)]
   have hd:(S.drop a).takeWhile zq=[]:=by
    cases hS:S.drop a with
    | nil=>rfl
    | cons x l =>
     rw[hS] at hl
     rw[List.takeWhile_cons] at hl ⊢
     have hx:qk x=true:=by
      by_cases hx:qk x=true
      ·exact hx
      ·rw[if_neg hx] at hl;exact absurd rfl hl
     rw[if_neg]
     unfold qk at hx;unfold zq
     simp at hx ⊢
     omega
   rw[hd] at hdig
   have hpos:=List.length_pos_iff.2 hl
   have hma:m=a+((S.drop a).takeWhile qk).length:=by simp at hdig;omega
   rw[if_neg (by omega)]
   exact hfin m (by rw[htk];exact hma) (by omega)
theorem xT (w:World) (g i:Nat) (v:Value):w.grownBy (w.setCell ⟨g,i,none⟩ v) (some g):=by
 refine⟨rfl,rfl,rfl,by simp,fun b hb hne=>?_⟩
 exact Below.heap_setCell _ _ _ b (fun e=>hne (by rw[e]))
theorem jeI {w:World} {g:Nat} {S:ByteArray} {a n:Nat} {op:Int} (h:Rd w g S a n op) (a':Nat):Rd (w.setCell ⟨g,1,none⟩ (.int .i64 (a':Int))) g S a' n op:=Box.set_ h 1 _
theorem V9 {w:World} {g:Nat} {S:ByteArray} {a n:Nat} {op:Int} (h:Rd w g S a n op) (n':Nat):Rd (w.setCell ⟨g,2,none⟩ (.int .i64 (n':Int))) g S a n' op:=Box.set_ h 2 _
theorem Zi {w w':World} {g:Nat} {S:ByteArray} {a n:Nat} {op:Int} (h:Rd w g S a n op) (hb:Below w.heap.size w w'):Rd w' g S a n op:=Box.below h hb
theorem XM (g:Nat) (S:ByteArray) (a n:Nat) (op:Int) (ts:List Tok) (w:World) (hx:Rd w g S a n op) (hS:S.size≤5000) (hn:n≤S.size) (ht:qD (S.data.toList.drop n)=ts) :
  Calls Tryz.prog 142 #[.pointer (some ⟨g,0,none⟩)] w fun e w'=>e = .returned (.tuple #[])∧∃a' n',Rd w' g S a' n' op∧Lx S.data.toList a' n' ts∧w.grownBy w' (some g):=by
 have hl:S.data.toList.length=S.size:=Array.length_toList
 obtain⟨A,hA⟩:∃A,A=yL 32 32 S.data.toList n:=⟨_,rfl⟩
 obtain⟨M1,hM1⟩:∃M1,M1=yL 97 122 S.data.toList A:=⟨_,rfl⟩
 obtain⟨M2,hM2⟩:∃M2,M2=yL 48 57 S.data.toList A:=⟨_,rfl⟩
 obtain⟨h1,h2,h3,h4,hlx⟩:=jeW S.data.toList n (by omega) ts ht A (max M1 M2) hA (by rw[hM1,hM2])
 have HR1:=hD (fun W=>ZI S n 32 32 W hS hn)
 have HR2:=hD (fun W=>ZI S A 97 122 W hS (by omega))
 have HR3:=hD (fun W=>ZI S A 48 57 W hS (by omega))
 rw[←hA] at HR1
 rw[←hM1] at HR2
 rw[←hM2] at HR3
 clear hA hM1 hM2 ht
 have HX:=hD hx
 have HLX:=hD hlx
 unfold Rd at hx
 clear hlx
 have c0:∀W,Below w.heap.size w W→W.cell? ⟨g,0,none⟩=some (.string S):=fun W hW=>(hx.below hW).cell 0
 have c2:∀W,Below w.heap.size w W→W.cell? ⟨g,2,none⟩=some (.int .i64 (n:Int)):=fun W hW=>(hx.below hW).cell 2
 clear hx
 go_enter Tryz.func142,Tryz.ntmps142
 go_wp2_with fail
 refine jr 12 (jy [(9,det (.int .i64 (A:Int)))]) (by kernel_rfl) (by kernel_rfl) ?_
 simp only[List.take_succ_cons,List.take_zero,List.drop_succ_cons,List.drop_zero]
 repeat (first|(refine jf (v:=?_) (by rfl) (by rfl) (fun w hb=>?_) ?_;rotate_left;(· go_simp<;>(repeat' apply And.intro)<;>with_reducible rfl);try simp only[pZ,Nat.reduceAdd])|(refine je (by rfl) (by rfl) ?_;try simp only[pZ,Nat.reduceAdd]))
 refine j8 (f:=?_) (args:=?_) [] (by kernel_rfl) (by rfl) (by rfl) (fun w hb=>?_) (fun w hb hu=>?_) ?_;rotate_left 2;(· go_simp<;>(repeat' apply And.intro)<;>with_reducible rfl)
 ·exact(HR1.out w).mono fun e w' ⟨he,hw⟩=>⟨he,by rw[←hw];exact Below.refl _ _⟩
 try simp only[pZ,Nat.reduceAdd]
 repeat (first|(refine jf (v:=?_) (by rfl) (by rfl) (fun w hb=>?_) ?_;rotate_left;(· go_simp<;>(repeat' apply And.intro)<;>with_reducible rfl);try simp only[pZ,Nat.reduceAdd])|(refine je (by rfl) (by rfl) ?_;try simp only[pZ,Nat.reduceAdd]))
 refine jo fun w1 hb1 _=>?_
 have hx1:=Zi HX.out hb1
 have HG1:Hid (w.grownBy w1 (some g)):=jj hb1
 have q1:w1.cell? ⟨g,1,none⟩=some (.int .i64 (a:Int)):=Box.cell hx1 1
 have qf:w1.frozen? ⟨g,1,none⟩=false:=Box.free hx1 1
 have ql:g<w1.heap.size:=Box.lt hx1
 have hx2:=jeI hx1 A
 have HG2:=hD (World.grownBy.trans HG1.out (xT w1 g 1 (.int .i64 (A:Int))))
 clear hb1 c0 c2 hx1 HX HG1
 refine wpList_step fun K hK=>?_
 rw[if_pos (by rfl)]
 go_simp
 refine hK _ _ (wpList_nil ?_)
 clear hK K q1 qf ql
 generalize w1.setCell ⟨g,1,none⟩ (.int .i64 (A:Int))=w2 at *
 go_upto_region 1 with fail
 have HX2:=hD hx2
 unfold Rd at hx2
 have c0:∀W,Below w2.heap.size w2 W→W.cell? ⟨g,0,none⟩=some (.string S):=fun W hW=>(hx2.below hW).cell 0
 have c1:∀W,Below w2.heap.size w2 W→W.cell? ⟨g,1,none⟩=some (.int .i64 (A:Int)):=fun W hW=>(hx2.below hW).cell 1
 clear hx2
 refine jr 22 (jy [(9,det (.int .i64 (M1:Int))),(18,det (.int .i64 (M2:Int)))]) (by kernel_rfl) (by kernel_rfl) ?_
 simp only[List.take_succ_cons,List.take_zero,List.drop_succ_cons,List.drop_zero]
 repeat (first|(refine jf (v:=?_) (by rfl) (by rfl) (fun w hb=>?_) ?_;rotate_left;(· go_simp<;>(repeat' apply And.intro)<;>with_reducible rfl);try simp only[pZ,Nat.reduceAdd])|(refine je (by rfl) (by rfl) ?_;try simp only[pZ,Nat.reduceAdd]))
 refine j8 (f:=?_) (args:=?_) [] (by kernel_rfl) (by rfl) (by rfl) (fun w hb=>?_) (fun w hb hu=>?_) ?_;rotate_left 2;(· go_simp<;>(repeat' apply And.intro)<;>with_reducible rfl)
 ·exact(HR2.out w).mono fun e w' ⟨he,hw⟩=>⟨he,by rw[←hw];exact Below.refl _ _⟩
 try simp only[pZ,Nat.reduceAdd]
 repeat (first|(refine jf (v:=?_) (by rfl) (by rfl) (fun w hb=>?_) ?_;rotate_left;(· go_simp<;>(repeat' apply And.intro)<;>with_reducible rfl);try simp only[pZ,Nat.reduceAdd])|(refine je (by rfl) (by rfl) ?_;try simp only[pZ,Nat.reduceAdd]))
 refine j8 (f:=?_) (args:=?_) [] (by kernel_rfl) (by rfl) (by rfl) (fun w hb=>?_) (fun w hb hu=>?_) ?_;rotate_left 2;(· go_simp<;>(repeat' apply And.intro)<;>with_reducible rfl)
 ·exact(HR3.out w).mono fun e w' ⟨he,hw⟩=>⟨he,by rw[←hw];exact Below.refl _ _⟩
 try simp only[pZ,Nat.reduceAdd]
 repeat (first|(refine jf (v:=?_) (by rfl) (by rfl) (fun w hb=>?_) ?_;rotate_left;(· go_simp<;>(repeat' apply And.intro)<;>with_reducible rfl);try simp only[pZ,Nat.reduceAdd])|(refine je (by rfl) (by rfl) ?_;try simp only[pZ,Nat.reduceAdd]))
 refine jo fun w3 hb3 _=>?_
 have hmx:max (M1:Int) (M2:Int)=((max M1 M2:Nat):Int):=by omega
 rw[hmx]
 clear hmx
 generalize max M1 M2=M at *
 have hx3:=Zi HX2.out hb3
 have HG3:=hD (World.grownBy.trans HG2.out (jj (row:=some g) hb3))
 have q1:w3.cell? ⟨g,2,none⟩=some (.int .i64 (n:Int)):=Box.cell hx3 2
 have qf:w3.frozen? ⟨g,2,none⟩=false:=Box.free hx3 2
 have ql:g<w3.heap.size:=Box.lt hx3
 have hx4:=V9 hx3 M
 have HG4:=hD (World.grownBy.trans HG3.out (xT w3 g 2 (.int .i64 (M:Int))))
 clear hb3 c0 c1 hx3 HX2 HG2 HG3
 refine wpList_step fun K hK=>?_
 rw[if_pos (by rfl)]
 go_simp
 refine hK _ _ (wpList_nil ?_)
 clear hK K q1 qf ql
 generalize w3.setCell ⟨g,2,none⟩ (.int .i64 (M:Int))=w4 at *
 go_upto_region 2 with fail
 have HX4:=hD hx4
 have x0:w4.cell? ⟨g,0,none⟩=some (.string S):=Box.cell hx4 0
 have x1:w4.cell? ⟨g,1,none⟩=some (.int .i64 (A:Int)):=Box.cell hx4 1
 have x2:w4.cell? ⟨g,2,none⟩=some (.int .i64 (M:Int)):=Box.cell hx4 2
 have xf:w4.frozen? ⟨g,2,none⟩=false:=Box.free hx4 2
 have xl:g<w4.heap.size:=Box.lt hx4
 clear hx4
 by_cases hc:M=A∧A<S.size
 ·have hLX:=HLX.out
  rw[if_pos (by rw[hl];exact hc)] at hLX
  obtain⟨hc1,hc2⟩:=hc
  have HLX2:=hD hLX
  have t1:((M:Int)==(A:Int))=true:=by rw[beq_iff_eq];omega
  have t2:decide ((A:Int)<(S.size:Int))=true:=decide_eq_true (by omega)
  have t3:decide (A<S.size)=true:=decide_eq_true hc2
  clear hLX HLX hc1
  go_quiet (fail)
  go_wp2_with fail
  go_end0
  rw[show((M:Int)+1)=((M+1:Nat):Int) from by omega]
  exact⟨rfl,A,M+1,V9 (HX4.out.drewN nq) (M+1),HLX2.out,World.grownBy.trans HG4.out (World.grownBy.trans (jj (jg w4 nq)) (xT (w4.drewN nq) g 2 _))⟩
 ·have hLX:=HLX.out
  rw[if_neg (by rw[hl];exact hc)] at hLX
  have HLX2:=hD hLX
  clear hLX HLX
  by_cases hma:M=A
  ·have hc2:¬A<S.size:=fun h=>hc ⟨hma,h⟩
   have t1:((M:Int)==(A:Int))=true:=by rw[beq_iff_eq];omega
   have t2:decide ((A:Int)<(S.size:Int))=false:=decide_eq_false (by omega)
   have t3:decide (A<S.size)=false:=decide_eq_false hc2
   clear hc hma
   go_quiet (fail)
   go_wp2_with fail
   go_end0
   exact⟨rfl,A,M,HX4.out.drewN nq,HLX2.out,World.grownBy.trans HG4.out (jj (jg w4 nq))⟩
  ·have t1:((M:Int)==(A:Int))=false:=by rw[beq_eq_false_iff_ne];omega
   clear hc hma
   go_quiet (fail)
   go_wp2_with fail
   go_end0
   exact⟨rfl,A,M,HX4.out.drewN nq,HLX2.out,World.grownBy.trans HG4.out (jj (jg w4 nq))⟩
def zn (ts:List Tok):ByteArray:=str (ts.headD [])
theorem jaM (g:Nat) (S:ByteArray) (a n:Nat) (op:Int) (ts:List Tok) (w:World) (hx:Rd w g S a n op) (hS:S.size≤5000) (hL:Lx S.data.toList a n ts) :
  Calls Tryz.prog 149 #[.pointer (some ⟨g,0,none⟩)] w fun e w'=>e = .returned (.string (zn ts))∧∃m,w'=w.drewN m:=by
 have hl:S.data.toList.length=S.size:=Array.length_toList
 have h1:=hL.an
 have h2:=hL.ns
 have hcur:=hL.cur
 have e:S.extract a n=zn ts:=by
  unfold zn
  rw[←hcur]
  have h:=km S.data.toList a n
  rw[show str S.data.toList=S from by apply ByteArray.ext;simp[str]] at h
  exact h
 rw[←e]
 have x0:w.cell? ⟨g,0,none⟩=some (.string S):=Box.cell hx 0
 have x1:w.cell? ⟨g,1,none⟩=some (.int .i64 (a:Int)):=Box.cell hx 1
 have x2:w.cell? ⟨g,2,none⟩=some (.int .i64 (n:Int)):=Box.cell hx 2
 have hn:n≤S.size:=by omega
 clear hcur hL hx e h2 hl
 go_enter Tryz.func149,Tryz.ntmps149
 go_wp2_with fail
 go_quiet (fail)
 go_wp2_with fail
 go_ret
 exact⟨rfl,_,rfl⟩
theorem jah (u:Nat) (h:u≤9999999999):(Lib.decDigits u).length≤10:=by
 by_cases h0:u=0
 ·subst h0;rw[Lib.decDigits,dif_pos (by omega)];simp
 ·have:=ZZ (-(u:Int)) 10 (Nat.lt_of_lt_of_le (show _<10000000000 by omega) (by decide)) (by omega)
  unfold Lib.itoa at this
  rw[if_pos (by omega),show(-(u:Int)).natAbs=u from by omega] at this
  simpa using this
theorem ZP (n:Int) (h1:0≤n) (h2:n≤9999999999):(Lib.itoa n).length≤10:=by
 unfold Lib.itoa
 rw[if_neg (by omega)]
 exact jah n.toNat (by omega)
def Reads (w:World) (g:Nat) (S:ByteArray) (op:Int) (ts:List Tok):Prop:=∃a n,Rd w g S a n op∧Lx S.data.toList a n ts
theorem Reads.lt {w:World} {g:Nat} {S:ByteArray} {op:Int} {ts:List Tok} (h:Reads w g S op ts):g<w.heap.size:=by
 obtain⟨a,n,h,_⟩:=h;exact Box.lt h
theorem Reads.next {w w':World} {g:Nat} {S:ByteArray} {op:Int} {ts:List Tok} (h:Reads w g S op ts) (hb:Below w.heap.size w w'):Reads w' g S op ts:=by
 obtain⟨a,n,h,h2⟩:=h;exact⟨a,n,Zi h hb,h2⟩
theorem Reads.drewN {w:World} {g:Nat} {S:ByteArray} {op:Int} {ts:List Tok} (h:Reads w g S op ts) (m:Nat):Reads (w.drewN m) g S op ts:=h.next (jg w m)
theorem jbB {w:World} {g:Nat} {S:ByteArray} {op:Int} {c:Tok} {ts:List Tok} (h:Reads w g S op (c::ts)):c≠[]:=by
 obtain⟨a,n,_,h2⟩:=h;exact h2.ne c rfl
theorem zm (g:Nat) (S:ByteArray) (op:Int) (ts:List Tok) (w:World) (h:Reads w g S op ts) (hS:S.size≤5000) :
  Calls Tryz.prog 149 #[.pointer (some ⟨g,0,none⟩)] w fun e w'=>e = .returned (.string (zn ts))∧∃m,w'=w.drewN m:=by
 obtain⟨a,n,h1,h2⟩:=h
 exact jaM g S a n op ts w h1 hS h2
theorem vQ (g:Nat) (S:ByteArray) (op:Int) (c:Tok) (ts:List Tok) (w:World) (h:Reads w g S op (c::ts)) (hS:S.size≤5000) :
  Calls Tryz.prog 142 #[.pointer (some ⟨g,0,none⟩)] w fun e w'=>e = .returned (.tuple #[])∧Reads w' g S op ts∧w.grownBy w' (some g):=by
 obtain⟨a,n,h1,h2⟩:=h
 have hl:S.data.toList.length=S.size:=Array.length_toList
 refine(XM g S a n op ts w h1 hS (by have:=h2.ns;omega) h2.rest).mono ?_
 rintro e w' ⟨he,a',n',h3,h4,h5⟩
 exact⟨he,⟨a',n',h3,h4⟩,h5⟩
def zr (g:Nat) (S:ByteArray) (op:Int) (b:Bool) (ts:List Tok) (w:World) (e:Ending) (w':World):Prop:=e = .returned (.bool b)∧Reads w' g S op ts∧w.grownBy w' (some g)
theorem qZ (g:Nat) (S:ByteArray) (op:Int) (c:Tok) (ts:List Tok) (w:World) (h:Reads w g S op (c::ts)) (hS:S.size≤5000) :
  Calls Tryz.prog 143 #[.pointer (some ⟨g,0,none⟩),.string (str c)] w (zr g S op true ts w):=by
 have HT:=hD (zm g S op (c::ts) w h hS)
 have HS:=hD (fun W (hW:Below w.heap.size w W)=>vQ g S op c ts W (h.next hW) hS)
 have e:zn (c::ts)=str c:=rfl
 rw[e] at HT
 clear e h
 unfold zr
 generalize str c=s at *
 go_enter Tryz.func143,Tryz.ntmps143
 go_wp2_with fail
 refine HT.out.mono ?_
 rintro e w1 ⟨rfl,m,rfl⟩
 have HS1:=hD (HS.out _ (jg w m))
 go_wp2_with fail
 refine HS1.out.mono ?_
 rintro e w2 ⟨rfl,hr,hg⟩
 have HR:=hD hr
 have HG:Hid (w.grownBy w2 (some g)):=World.grownBy.trans (jj (jg w m)) hg
 clear hr hg
 go_wp2_with fail
 go_ret
 exact⟨rfl,HR.out,HG.out⟩
theorem vV (g:Nat) (S:ByteArray) (op:Int) (c:Tok) (ts:List Tok) (w:World) (h:Reads w g S op ts) (hS:S.size≤5000) (hc:ts.headD []≠c) :
  Calls Tryz.prog 143 #[.pointer (some ⟨g,0,none⟩),.string (str c)] w (zr g S op false ts w):=by
 have HT:=hD (zm g S op ts w h hS)
 have HH:=hD h
 have e:((zn ts).toList==(str c).toList)=false:=by
  rw[beq_eq_false_iff_ne]
  unfold zn
  rw[jv,jv]
  exact hc
 clear h hc
 unfold zr
 generalize str c=s at *
 generalize zn ts=t at *
 go_enter Tryz.func143,Tryz.ntmps143
 go_wp2_with fail
 refine HT.out.mono ?_
 rintro e w1 ⟨rfl,m,rfl⟩
 go_wp2_with fail
 go_ret
 exact⟨rfl,HH.out.drewN m,jj (jg w m)⟩
def yo (g:Nat) (S:ByteArray) (op:Int) (v:Value) (ts:List Tok) (w:World) (e:Ending) (w':World):Prop:=e = .returned (.tuple #[v,.bool true])∧Reads w' g S op ts∧w.grownBy w' (some g)
theorem XS (g:Nat) (S:ByteArray) (op:Int) (c:Tok) (ts:List Tok) (w:World) (h:Reads w g S op (c::ts)) (hS:S.size≤5000) (hc:∀b∈c,qk b=true) :
  Calls Tryz.prog 145 #[.pointer (some ⟨g,0,none⟩)] w (yo g S op (.string (str c)) ts w):=by
 have HT:=hD (zm g S op (c::ts) w h hS)
 have HS:=hD (fun W (hW:Below w.heap.size w W)=>vQ g S op c ts W (h.next hW) hS)
 have hne:=jbB h
 have e:zn (c::ts)=str c:=rfl
 rw[e] at HT
 obtain⟨b,r,rfl⟩:∃b r,c=b::r:=by
  cases c with
  | nil=>exact absurd rfl hne
  | cons b r=>exact⟨b,r,rfl⟩
 have hb:=hc b (List.mem_cons_self ..)
 unfold qk at hb
 rw[Bool.and_eq_true,decide_eq_true_eq,decide_eq_true_eq] at hb
 have hs0:0<(str (b::r)).size:=by rw[jt];simp
 have h0:∀h:0<(str (b::r)).size,(str (b::r))[0]=b:=fun _=>rfl
 have t0:(str (b::r)).toList.isEmpty=false:=by rw[jv];rfl
 have t1:((str (b::r)).toList==[])=false:=by rw[jv];rfl
 have t2:¬(str (b::r)).toList=[]:=by rw[jv];simp
 clear e h hne hc
 unfold yo
 generalize str (b::r)=s at *
 have h00:=h0 hs0
 have h1:¬((s[0].toNat:Int)<97):=by rw[h00];omega
 have h2:¬((122:Int)<(s[0].toNat:Int)):=by rw[h00];omega
 have h3:decide (s[0].toNat<97)=false:=decide_eq_false (by omega)
 have h4:decide (122<s[0].toNat)=false:=decide_eq_false (by omega)
 clear h0 h00
 go_enter Tryz.func145,Tryz.ntmps145
 go_wp2_with fail
 refine HT.out.mono ?_
 rintro e w1 ⟨rfl,m,rfl⟩
 have HS1:=hD (HS.out _ (jg w m))
 go_wp2_with fail
 refine HS1.out.mono ?_
 rintro e w2 ⟨rfl,hr,hg⟩
 have HR:=hD hr
 have HG:Hid (w.grownBy w2 (some g)):=World.grownBy.trans (jj (jg w m)) hg
 clear hr hg
 go_wp2_with fail
 go_ret2
 exact⟨rfl,HR.out,HG.out⟩
theorem yF (g:Nat) (S:ByteArray) (op:Int) (n:Int) (ts:List Tok) (w:World) (h:Reads w g S op (Lib.itoa n::ts)) (hS:S.size≤5000) (h1:0≤n) (h2:n≤9999999999) :
  Calls Tryz.prog 178 #[.pointer (some ⟨g,0,none⟩)] w (yo g S op (.int .i64 n) ts w):=by
 have HT:=hD (zm g S op (Lib.itoa n::ts) w h hS)
 have HS:=hD (fun W (hW:Below w.heap.size w W)=>vQ g S op (Lib.itoa n) ts W (h.next hW) hS)
 have HA:=hD (fun W=>jdw n W (by omega))
 have e:zn (Lib.itoa n::ts)=str (Lib.itoa n):=rfl
 rw[e] at HT
 have hlen:(str (Lib.itoa n)).size≤10:=by
  rw[jt]
  have h:=ZP n h1 h2
  exact h
 obtain⟨b,r,hbr⟩:∃b r,Lib.itoa n=b::r:=by
  cases hi:Lib.itoa n with
  | nil=>exact absurd hi (vS n)
  | cons b r=>exact⟨b,r,rfl⟩
 have hb:=zi n h1 b (by rw[hbr];exact List.mem_cons_self ..)
 unfold zq at hb
 rw[Bool.and_eq_true,decide_eq_true_eq,decide_eq_true_eq] at hb
 have hs0:0<(str (Lib.itoa n)).size:=by rw[jt,hbr];simp
 have h0:∀h:0<(str (Lib.itoa n)).size,(str (Lib.itoa n))[0]=b:=by rw[hbr];exact fun _=>rfl
 have t0:(str (Lib.itoa n)).toList.isEmpty=false:=by rw[jv,hbr];rfl
 have t1:((str (Lib.itoa n)).toList==[])=false:=by rw[jv,hbr];rfl
 have t2:¬(str (Lib.itoa n)).toList=[]:=by rw[jv,hbr];simp
 clear e h hbr
 unfold yo
 generalize str (Lib.itoa n)=s at *
 have h00:=h0 hs0
 have h1:¬((s[0].toNat:Int)<48):=by rw[h00];omega
 have h2:¬((57:Int)<(s[0].toNat:Int)):=by rw[h00];omega
 have h3:decide (s[0].toNat<48)=false:=decide_eq_false (by omega)
 have h4:decide (57<s[0].toNat)=false:=decide_eq_false (by omega)
 have h5:decide ((10:Int)<(s.size:Int))=false:=decide_eq_false (by omega)
 clear h0 h00
 go_enter Tryz.func178,Tryz.ntmps178
 go_wp2_with fail
 refine HT.out.mono ?_
 rintro e w1 ⟨rfl,m,rfl⟩
 go_wp2_with fail
 refine(HA.out _).mono ?_
 rintro e w2 ⟨rfl,hb2⟩
 have HB2:=hD ((jg w m).trans hb2)
 have HS1:=hD (HS.out _ HB2.out)
 clear hb2
 go_wp2_with fail
 refine HS1.out.mono ?_
 rintro e w3 ⟨rfl,hr,hg⟩
 have HR:=hD hr
 have HG:Hid (w.grownBy w3 (some g)):=World.grownBy.trans (jj HB2.out) hg
 clear hr hg
 go_wp2_with fail
 go_ret2
 exact⟨rfl,HR.out,HG.out⟩
def zF (n:Int):List Tok:=if n<0 then[[45],Lib.itoa (-n)] else[Lib.itoa n]
theorem yV (g:Nat) (S:ByteArray) (op:Int) (n:Int) (ts:List Tok) (w:World) (h:Reads w g S op (zF n++ts)) (hS:S.size≤5000) (h1 : -9999999999≤n) (h2:n≤9999999999) :
  Calls Tryz.prog 146 #[.pointer (some ⟨g,0,none⟩)] w (yo g S op (.int .i64 n) ts w):=by
 unfold zF at h
 by_cases hn:n<0
 ·rw[if_pos hn] at h
  obtain⟨p,rfl⟩:∃p,n = -p:=⟨-n,by omega⟩
  rw[Int.neg_neg] at h
  have HT:=hD (qZ g S op [45] (Lib.itoa p::ts) w h hS)
  have HN:=hD (fun W (hW:Reads W g S op (Lib.itoa p::ts))=>yF g S op p ts W hW hS (by omega) (by omega))
  unfold zr at HT
  unfold yo at HN ⊢
  have hp0:0<p:=by omega
  have hp1:p≤9999999999:=by omega
  clear h h1 h2 hn
  generalize Lib.itoa p=it at *
  go_enter Tryz.func146,Tryz.ntmps146
  go_wp2_with fail
  refine HT.out.mono ?_
  rintro e w1 ⟨rfl,hr,hg⟩
  have HN1:=hD (HN.out w1 hr)
  have HG:=hD hg
  clear hr hg
  go_wp2_with fail
  refine HN1.out.mono ?_
  rintro e w2 ⟨rfl,hr,hg⟩
  have HR:=hD hr
  have HG2:Hid (w.grownBy w2 (some g)):=World.grownBy.trans HG.out hg
  clear hr hg
  go_wp2_with fail
  go_ret2
  exact⟨rfl,HR.out,HG2.out⟩
 ·rw[if_neg hn] at h
  have hne:(Lib.itoa n::ts).headD []≠[45]:=fun e=>by
   have e':Lib.itoa n=[45]:=e
   have:=zi n (by omega) 45 (by rw[e'];exact List.mem_cons_self ..)
   exact absurd this (by decide)
  have HT:=hD (vV g S op [45] (Lib.itoa n::ts) w h hS hne)
  have HN:=hD (fun W (hW:Reads W g S op (Lib.itoa n::ts))=>yF g S op n ts W hW hS (by omega) (by omega))
  unfold zr at HT
  unfold yo at HN ⊢
  clear h hn hne
  generalize Lib.itoa n=it at *
  go_enter Tryz.func146,Tryz.ntmps146
  go_wp2_with fail
  refine HT.out.mono ?_
  rintro e w1 ⟨rfl,hr,hg⟩
  have HN1:=hD (HN.out w1 hr)
  have HG:=hD hg
  clear hr hg
  go_wp2_with fail
  refine HN1.out.mono ?_
  rintro e w2 ⟨rfl,hr,hg⟩
  have HR:=hD hr
  have HG2:Hid (w.grownBy w2 (some g)):=World.grownBy.trans HG.out hg
  clear hr hg
  go_wp2_with fail
  go_ret2
  exact⟨rfl,HR.out,HG2.out⟩
def lvN (k:Nat):Nat:=if k=0 then 0 else lev (k:Int)
def Sgs (w:World):Prop:=∀k,k<14→w.cell? ⟨4,k,none⟩=some (.string (str (sgn (k:Int))))
def Lvs (w:World):Prop:=∀k,k<14→w.cell? ⟨5,k,none⟩=some (.int .i64 (lvN k:Int))
theorem Sgs.next {w w':World} (h:Sgs w) (hb:Below w.heap.size w w'):Sgs w':=fun k hk=>(hb.cell (p:=⟨4,k,none⟩) (block_lt_of_cell (h k hk))).trans (h k hk)
theorem Lvs.next {w w':World} (h:Lvs w) (hb:Below w.heap.size w w'):Lvs w':=fun k hk=>(hb.cell (p:=⟨5,k,none⟩) (block_lt_of_cell (h k hk))).trans (h k hk)
def Vt:Array Value:=#[.string ⟨#[]⟩,.string ⟨#[]⟩,.string ⟨#[]⟩,.string ⟨#[]⟩,.string ⟨#[43]⟩,.string ⟨#[45]⟩,.string ⟨#[42]⟩,.string ⟨#[47]⟩,.string ⟨#[37]⟩,.string ⟨#[60]⟩,.string ⟨#[61]⟩,.string ⟨#[]⟩,.string ⟨#[97,110,100]⟩,.string ⟨#[111,114]⟩]
theorem jeP (k:Nat) (hk:k<14) (W:World):(Instr.index 257 (.agg Vt) (.int .i64 (k:Int))).run Tryz.prog W = .ok (.string (str (sgn (k:Int)))) W:=by
 unfold Vt
 match k,hk with
 | 0,_|1,_|2,_|3,_|4,_|5,_|6,_|7,_|8,_|9,_|10,_|11,_|12,_|13,_=>(show _=_;kernel_rfl)
theorem VQ (n:Nat) (p:Nat→Bool) (k:Nat) (hk:k<n) (h1:∀j,j<k→p j=false) (h2:p k=true):(List.range n).find? p=some k:=by
 rw[List.find?_range_eq_some]
 exact⟨h2,List.mem_range.2 hk,fun j hj=>by rw[h1 j hj];rfl⟩
def Zk (c:Tok) (L:Nat):Option Nat:=(List.range 14).find? fun k=>(sgn (k:Int)==c)&&!(sgn (k:Int)).isEmpty&&(lvN k==L)
def YT (c:Tok) (L:Nat) (w:World) (e:Ending) (w':World):Prop:=(match Zk c L with|some k=>e = .returned (.tuple #[.int .i64 (k:Int),.bool true])|none=>e = .returned (.tuple #[.int .i64 0,.bool false]))∧w=w'
theorem jcf {c:Tok} {L k:Nat} {w:World} (h:Zk c L=some k):YT c L w (.returned (.tuple #[.int .i64 (k:Int),.bool true])) w:=by
 unfold YT;rw[h];exact⟨rfl,rfl⟩
theorem jbM {c:Tok} {L:Nat} {w:World} (h:Zk c L=none):YT c L w (.returned (.tuple #[.int .i64 0,.bool false])) w:=by
 unfold YT;rw[h];exact⟨rfl,rfl⟩
theorem J8 (c:Tok) (L:Nat) (hL:L<8) (w:World) (hs:Sgs w) (hv:Lvs w) :
  Calls Tryz.prog 180 #[.string (str c),.int .i64 (L:Int)] w (YT c L w):=by
 have HS:=hD hs
 have HV:=hD hv
 have s0:w.cell? ⟨4,0,none⟩=some (.string ⟨#[]⟩):=hs 0 (by omega)
 have s1:w.cell? ⟨4,1,none⟩=some (.string ⟨#[]⟩):=hs 1 (by omega)
 have s2:w.cell? ⟨4,2,none⟩=some (.string ⟨#[]⟩):=hs 2 (by omega)
 have s3:w.cell? ⟨4,3,none⟩=some (.string ⟨#[]⟩):=hs 3 (by omega)
 have s4:w.cell? ⟨4,4,none⟩=some (.string ⟨#[43]⟩):=hs 4 (by omega)
 have s5:w.cell? ⟨4,5,none⟩=some (.string ⟨#[45]⟩):=hs 5 (by omega)
 have s6:w.cell? ⟨4,6,none⟩=some (.string ⟨#[42]⟩):=hs 6 (by omega)
 have s7:w.cell? ⟨4,7,none⟩=some (.string ⟨#[47]⟩):=hs 7 (by omega)
 have s8:w.cell? ⟨4,8,none⟩=some (.string ⟨#[37]⟩):=hs 8 (by omega)
 have s9:w.cell? ⟨4,9,none⟩=some (.string ⟨#[60]⟩):=hs 9 (by omega)
 have s10:w.cell? ⟨4,10,none⟩=some (.string ⟨#[61]⟩):=hs 10 (by omega)
 have s11:w.cell? ⟨4,11,none⟩=some (.string ⟨#[]⟩):=hs 11 (by omega)
 have s12:w.cell? ⟨4,12,none⟩=some (.string ⟨#[97,110,100]⟩):=hs 12 (by omega)
 have s13:w.cell? ⟨4,13,none⟩=some (.string ⟨#[111,114]⟩):=hs 13 (by omega)
 have hfind:Hid (∀k:Nat,k<14→(∀j:Nat,j<k→((sgn (j:Int)==c)&&!(sgn (j:Int)).isEmpty&&(lvN j==L))=false)→((sgn (k:Int)==c)&&!(sgn (k:Int)).isEmpty&&(lvN k==L))=true→Zk c L=some k):=fun k hk h1 h2=>VQ 14 _ k hk h1 h2
 have hnone:Hid ((∀j:Nat,j<14→((sgn (j:Int)==c)&&!(sgn (j:Int)).isEmpty&&(lvN j==L))=false)→Zk c L=none):=fun h=>by
  unfold Zk
  rw[List.find?_eq_none]
  intro x hx
  rw[h x (List.mem_range.1 hx)]
  simp
 clear hs hv
 go_enter Tryz.func180,Tryz.ntmps180
 go_wp2_with fail
 clear s0 s1 s2 s3 s4 s5 s6 s7 s8 s9 s10 s11 s12 s13
 go_loop [6,7,9] (fun _ _ iv=>∃k:Nat,k≤14∧iv = .int .i64 (k:Int)∧Hid (∀j:Nat,j<k→((sgn (j:Int)==c)&&!(sgn (j:Int)).isEmpty&&(lvN j==L))=false)) (fun _ _ iv=>14-(intOf iv).toNat)
 case atStart=>exact⟨0,by omega,rfl,fun j hj=>by omega⟩
 case round =>
  obtain⟨k,hk,rfl,hall⟩:=hrel
  by_cases hlt:k<14
  ·have hi:=fun W=>jeP k hlt W
   unfold Vt at hi
   have hv:=HV.out k hlt
   have hfk:=hfind.out k hlt hall.out
   have HN:Hid (((sgn (k:Int)==c)&&!(sgn (k:Int)).isEmpty&&(lvN k==L))=false→∀j:Nat,j<k+1→((sgn (j:Int)==c)&&!(sgn (j:Int)).isEmpty&&(lvN j==L))=false):=fun h j hj=>by
    by_cases e:j=k
    ·subst e;exact h
    ·exact hall.out j (by omega)
   have b1:((str (sgn (k:Int))).toList==(str c).toList)=(sgn (k:Int)==c):=by rw[jv,jv]
   have b2:(str (sgn (k:Int))).toList.isEmpty=(sgn (k:Int)).isEmpty:=by rw[jv]
   have b3:((lvN k:Int)==(L:Int))=(lvN k==L):=by rw[Bool.eq_iff_iff,beq_iff_eq,beq_iff_eq];omega
   have HFK:=hD hfk
   clear hfk
   generalize str (sgn (k:Int))=sk at *
   generalize (sgn (k:Int)==c)=p1 at *
   generalize (sgn (k:Int)).isEmpty=p2 at *
   generalize (lvN k==L)=p3 at *
   have hw:=hv
   clear hv hall
   cases p1 with
   | false =>
    have HN2:=hD (HN.out rfl)
    go_wp2_with fail
    go_round
    case rel=>exact⟨k+1,by omega,by go_num,HN2.out⟩
    case measure=>simp[intOf];omega
   | true =>
    cases p2 with
    | true =>
     have HN2:=hD (HN.out rfl)
     go_wp2_with fail
     go_round
     case rel=>exact⟨k+1,by omega,by go_num,HN2.out⟩
     case measure=>simp[intOf];omega
    | false =>
     cases p3 with
     | false =>
      have HN2:=hD (HN.out rfl)
      go_wp2_with fail
      go_round
      case rel=>exact⟨k+1,by omega,by go_num,HN2.out⟩
      case measure=>simp[intOf];omega
     | true =>
      have HB2:=hD (HFK.out rfl)
      go_wp2_with fail
      go_ret2
      exact jcf HB2.out
  ·obtain rfl:k=14:=by omega
   have HB2:=hD (hnone.out hall.out)
   go_wp2_with fail
   go_ret2
   exact jbM HB2.out
theorem VJ:∀j:Nat,j<14→(sgn (j:Int)≠[]↔((4≤j∧j≤10)∨j=12∨j=13)):=by decide
theorem jeY (k:Int) (hk:jT k) (L:Nat) (hl:lev k=L):Zk (sgn k) L=some k.toNat:=by
 have hb:=hk
 unfold jT at hb
 have hkn:((k.toNat:Nat):Int)=k:=by omega
 refine VQ 14 _ k.toNat (by omega) (fun j hj=>?_) ?_
 ·by_cases h1:sgn (j:Int)=sgn k
  ·exfalso
   have hne:sgn (j:Int)≠[]:=by rw[h1];exact jbc k hk
   have:=(VJ j (by omega)).1 hne
   have:=Kf (j:Int) k (by unfold jT;omega) hk h1
   omega
  ·have:(sgn (j:Int)==sgn k)=false:=by rw[beq_eq_false_iff_ne];exact h1
   rw[this];rfl
 ·rw[hkn]
  have h1:(sgn k==sgn k)=true:=by simp
  have h2:(sgn k).isEmpty=false:=by
   have:=jbc k hk
   cases hs:sgn k with
   | nil=>exact absurd hs this
   | cons _ _=>rfl
  have h3:(lvN k.toNat==L)=true:=by
   unfold lvN
   rw[if_neg (by omega),hkn,beq_iff_eq]
   exact hl
  rw[h1,h2,h3];rfl
theorem jen (ts:List Tok) (L:Nat) (h:Good L ts):Zk (ts.headD []) L=none:=by
 unfold Zk
 rw[List.find?_eq_none]
 intro j hj hp
 rw[List.mem_range] at hj
 rw[Bool.and_eq_true,Bool.and_eq_true,beq_iff_eq,beq_iff_eq] at hp
 obtain⟨⟨h1,h2⟩,h3⟩:=hp
 have hne:sgn (j:Int)≠[]:=fun e=>by rw[e] at h2;simp at h2
 have hb:=(VJ j hj).1 hne
 have hbin:jT (j:Int):=by unfold jT;omega
 have hh:ts.head?=some (sgn (j:Int)):=by
  cases ts with
  | nil=>exact absurd h1 hne
  | cons c r=>rw[h1];rfl
 have:=h (j:Int) hbin hh
 unfold lvN at h3
 rw[if_neg (by omega)] at h3
 omega
end Go.Proofs.YtkkjaaognefeiaaGreatDoor
