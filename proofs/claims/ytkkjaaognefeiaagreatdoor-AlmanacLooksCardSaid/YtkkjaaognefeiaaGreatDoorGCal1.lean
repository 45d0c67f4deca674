/- Cal1, Cal2, Cal3, Cal4 -/
import Derived.Test.YtkkjaaognefeiaaGreatDoorGListArg
import Derived.Test.YtkkjaaognefeiaaGreatDoorGName1
set_option maxRecDepth 100000
set_option maxHeartbeats 16000000
set_option linter.unusedVariables false
set_option linter.unusedSimpArgs false
namespace Go.Proofs.YtkkjaaognefeiaaGreatDoor
open Go.RowKit
structure Mth where
 nm:ByteArray
 sh:Int
 lo:Int
def jF:Mth:=⟨⟨#[]⟩,0,0⟩
def zp (m:Mth):List Value:=[.string m.nm,.int .i64 m.sh,.int .i64 m.lo]
abbrev Mth.cells (m:Mth):Array Value:=#[.string m.nm,.int .i64 m.sh,.int .i64 m.lo]
abbrev Mth.val (m:Mth):Value:=.agg m.cells
theorem jO (m:Mth):(zp m).length=3:=rfl
theorem X5 (nm:ByteArray) (ep cy:Int) (w:World) (hs:nm.size≤maxLen) :
  Calls Tryz.prog 108 #[.string nm,.int .i64 ep,.int .i64 cy] w (Errs (qo nm∧(-4000000≤ep∧ep≤4000000)∧1≤cy∧cy≤3000) w):=by
 have HN:=hD (fun w=>vH nm w hs)
 clear hs
 go_enter Tryz.func108,Tryz.ntmps108
 go_wp2_with fail
 refine(HN.out _).mono ?_
 rintro e w' ⟨b,rfl,hb,rfl⟩
 have HB:=hD hb
 clear hb HN
 cases b with
 | false =>
  have HX:Hid (¬qo nm):=fun h=>by have:=HB.out.2 h;cases this
  clear HB
  go_wp2_with fail
  go_ret
  exact Errs.no (by omega) (fun h=>HX.out h.1) (Below.refl _ _)
 | true =>
  have HX:=hD (HB.out.1 rfl)
  clear HB
  by_cases a5 : -4000000≤ep∧ep≤4000000
  case neg =>
   have a5':ep < -4000000∨4000000<ep:=by omega
   clear a5
   go_wp2_with (go_at_call 34;refine(is_no _ _ a5').mono ?_;rintro e w' ⟨rfl,rfl⟩)
   go_ret
   exact Errs.no (by omega) (by omega) (Below.refl _ _)
  obtain⟨b1,b2⟩:=a5
  by_cases a6:cy<1
  ·have t6:decide (cy<1)=true:=decide_eq_true a6
   go_wp2_with (go_at_call 34;refine(kH _ _ b1 b2).mono ?_;rintro e w' ⟨rfl,rfl⟩)
   go_ret
   exact Errs.no (by omega) (by omega) (Below.refl _ _)
  have t6:decide (cy<1)=false:=decide_eq_false a6
  by_cases a7:3000<cy
  ·have t7:decide (3000<cy)=true:=decide_eq_true a7
   go_wp2_with (go_at_call 34;refine(kH _ _ b1 b2).mono ?_;rintro e w' ⟨rfl,rfl⟩)
   go_ret
   exact Errs.no (by omega) (by omega) (Below.refl _ _)
  have t7:decide (3000<cy)=false:=decide_eq_false a7
  go_wp2_with (go_at_call 34;refine(kH _ _ b1 b2).mono ?_;rintro e w' ⟨rfl,rfl⟩)
  go_ret
  exact Errs.ok ⟨HX.out,⟨b1,b2⟩,by omega,by omega⟩ (Below.refl _ _)
theorem vU (n:Int) (w:World):Calls Tryz.prog 159 #[.int .i64 n] w fun e w'=>e = .returned (.bool (decide (0≤n∧n≤400)))∧w=w':=by
 by_cases h1:0≤n
 ·have t1:decide (0≤n)=true:=decide_eq_true h1
  by_cases h2:n≤400
  ·have t2:decide (n≤400)=true:=decide_eq_true h2
   rw[decide_eq_true (⟨h1,h2⟩:0≤n∧n≤400)]
   go_enter Tryz.func159,Tryz.ntmps159
   go_wp2_with fail
   go_ret
   exact⟨rfl,rfl⟩
  ·have t2:decide (n≤400)=false:=decide_eq_false h2
   rw[decide_eq_false (fun h=>h2 h.2:¬(0≤n∧n≤400))]
   go_enter Tryz.func159,Tryz.ntmps159
   go_wp2_with fail
   go_ret
   exact⟨rfl,rfl⟩
 ·have t1:decide (0≤n)=false:=decide_eq_false h1
  rw[decide_eq_false (fun h=>h1 h.1:¬(0≤n∧n≤400))]
  go_enter Tryz.func159,Tryz.ntmps159
  go_wp2_with fail
  go_ret
  exact⟨rfl,rfl⟩
theorem Vx (g:Nat) (m x:Mth) (W:World) (hx:W.cell? ⟨g,0,none⟩=some (.string m.nm)) :
  Calls Tryz.prog 158 (#[x.val]++#[.pointer (some ⟨g,0,none⟩)]) W fun e w'=>e = .returned (.bool (x.nm.toList==m.nm.toList))∧Below W.heap.size W w':=by
 have hlt:g<W.heap.size:=block_lt_of_cell hx
 have hx':(W.alloc (Obj.cells x.cells 155)).cell? ⟨g,0,none⟩=some (.string m.nm):=((ja W _).cell (p:=⟨g,0,none⟩) hlt).trans hx
 have HB:=hD (ja W (Obj.cells x.cells 155))
 go_enter Tryz.func158,Tryz.ntmps158
 go_wp2_with fail
 go_ret
 exact⟨rfl,HB.out⟩
theorem Qe (g:Nat) (cb:Array Value) (p:Mth→Bool) (S:World→Prop) (A:Option Addr) (c:Nat) (l:List Mth) (w:World) (hS:S w) (hl:l.length≤1000000) (eg:∀args w,(callFunc g args).run Tryz.prog w = .ok (.enter g args) w)
  (hr:∀W,S W→Row W W.heap.size A (l.flatMap zp))
  (hf:∀W x,S W→Calls Tryz.prog g (#[Mth.val x]++cb) W fun e w'=>e = .returned (.bool (p x))∧S w') :
  Calls Tryz.prog 188 #[.slice A l.length c,.func (.func g) #[] cb] w (jf0 (l.any p=true) S):=by
 have HF:=hD hf
 have HRr:=hD hr
 have HS:=hD hS
 obtain⟨P,hP⟩:∃P:Prop,P=(l.any p=true):=⟨_,rfl⟩
 rw[←hP]
 have HP:=hD hP
 clear hP hf hr hS
 go_enter Tryz.func188,Tryz.ntmps188
 go_wp2_with fail
 go_loopw [5,8] (fun _ i wr=>∃k:Nat,k≤l.length∧i = .int .i64 (k:Int)∧Hid (∀j,j<k→p (l.getD j jF)=false)∧Hid (S wr)) (fun _ i _=>l.length-(intOf i).toNat)
 case atStart=>exact⟨0,by omega,rfl,fun j hj=>by omega,HS⟩
 case round =>
  obtain⟨k,hk,rfl,hall,HSr⟩:=hrel
  by_cases hlt:k<l.length
  ·obtain⟨b,o,rfl,_,hcs⟩:=(HRr.out _ HSr.out).open_ (qg jO (by omega) l (by omega))
   have hc0:=jm jO jF hcs k 0 hlt (by omega) _ rfl
   have hc1:=jm jO jF hcs k 1 hlt (by omega) _ rfl
   have hc2:=jm jO jF hcs k 2 hlt (by omega) _ rfl
   have hmem:Hid (l.getD k jF∈l):=by unfold Hid;simp[List.getD,List.getElem?_eq_getElem hlt]
   have HX:Hid (p (l.getD k jF)=false→∀j,j<k+1→p (l.getD j jF)=false):=fun h j hj=>by
    by_cases e:j=k
    ·subst e;exact h
    ·exact hall.out j (by omega)
   have hcall:=HF.out _ (l.getD k jF) HSr.out
   clear hcs
   generalize l.getD k jF=y at *
   rw[Nat.add_zero] at hc0
   cases hp:p y<;>rw[hp] at hcall
   ·have HPy:=hD hp
    clear hp
    have HCl:=hD hcall
    clear hcall
    go_wp2_with (go_at_fn g;refine HCl.out.mono ?_;rintro e w' ⟨rfl,hs'⟩)
    go_roundw
    case rel=>exact⟨k+1,by omega,by go_num,HX.out HPy.out,hs'⟩
    case measure=>simp[intOf];omega
   ·have HPy:=hD hp
    clear hp
    have HCl:=hD hcall
    clear hcall
    go_wp2_with (go_at_fn g;refine HCl.out.mono ?_;rintro e w' ⟨rfl,hs'⟩)
    go_ret
    exact⟨(k:Int),rfl,⟨fun _=>by rw[HP.out];exact List.any_eq_true.2 ⟨y,hmem.out,HPy.out⟩,fun _=>by omega⟩,hs'⟩
  ·go_wp2_with fail
   go_ret
   refine⟨-1,rfl,⟨fun h=>by omega,fun h=>?_⟩,HSr.out⟩
   rw[HP.out] at h
   obtain⟨y,hy,hpy⟩:=List.any_eq_true.1 h
   obtain⟨i,hi,e⟩:=List.getElem_of_mem hy
   have:=hall.out i (by omega)
   simp[List.getD,List.getElem?_eq_getElem hi,e,hpy] at this
theorem vK (g:Nat) (cb:Array Value) (p:Mth→Bool) (S:World→Prop) (A:Option Addr) (c:Nat) (l:List Mth) (w:World) (hS:S w) (hl:l.length≤1000000) (eg:∀args w,(callFunc g args).run Tryz.prog w = .ok (.enter g args) w)
  (hr:∀W,S W→Row W W.heap.size A (l.flatMap zp))
  (hf:∀W x,S W→Calls Tryz.prog g (#[Mth.val x]++cb) W fun e w'=>e = .returned (.bool (p x))∧S w') :
  Calls Tryz.prog 157 #[.slice A l.length c,.func (.func g) #[] cb] w fun e w'=>e = .returned (.bool (l.any p))∧S w':=by
 have HI:=hD (Qe g cb p S A c l w hS hl eg hr hf)
 obtain⟨R,hR⟩:∃R,R=l.any p:=⟨_,rfl⟩
 rw[←hR]
 have HR:=hD hR
 clear hR hl hS hr hf
 go_enter Tryz.func157,Tryz.ntmps157
 go_wp2_with fail
 refine HI.out.mono ?_
 rintro e w' ⟨i,rfl,hi,hs'⟩
 have HH:=hD hi
 have HS':=hD hs'
 clear hi HI hs'
 by_cases h0:0≤i
 ·go_wp2_with fail
  go_ret
  exact⟨by rw[HR.out,HH.out.1 h0];simp,HS'.out⟩
 ·have t1:decide (0≤i)=false:=decide_eq_false h0
  have hf:l.any p=false:=by
   cases h:l.any p
   ·rfl
   ·exact absurd (HH.out.2 h) h0
  have HFF:=hD hf
  clear hf
  go_wp2_with fail
  go_ret
  exact⟨by rw[HR.out,HFF.out];rfl,HS'.out⟩
def qI (l:List Mth):Int:=(l.map (·.sh)).sum
def zd (l:List Mth):Int:=(l.map (·.lo)).sum
structure MthOk (l:List Mth) (i:Nat):Prop where
 nm:qo (l.getD i jF).nm
 tw:(l.take i).any (fun x=>x.nm.toList==(l.getD i jF).nm.toList)=false
 sh:0≤(l.getD i jF).sh∧(l.getD i jF).sh≤400
 lo:0≤(l.getD i jF).lo∧(l.getD i jF).lo≤400
structure MthsOk (l:List Mth):Prop where
 n1:1≤l.length
 n2:l.length≤20
 each:∀i,i<l.length→MthOk l i
 s0:qI l≠0
 l0:zd l≠0
theorem Xu (f:Mth→Int) (l:List Mth) (k:Nat) (h:k<l.length):((l.take (k+1)).map f).sum=((l.take k).map f).sum+f (l.getD k jF):=by
 induction l generalizing k with
 | nil=>simp at h
 | cons x r ih =>
  cases k with
  | zero=>simp
  | succ k=>simp only[List.take_succ_cons,List.map_cons,List.sum_cons];rw[ih k (by simpa using h)];simp;omega
theorem yR (l:List Mth) (k:Nat) (h:k<l.length):qI (l.take (k+1))=qI (l.take k)+(l.getD k jF).sh:=Xu (·.sh) l k h
theorem va (l:List Mth) (k:Nat) (h:k<l.length):zd (l.take (k+1))=zd (l.take k)+(l.getD k jF).lo:=Xu (·.lo) l k h
theorem Zh (l:List Mth):∀k,k≤l.length→(∀j,j<k→MthOk l j)→(0≤qI (l.take k)∧qI (l.take k)≤400*k)∧(0≤zd (l.take k)∧zd (l.take k)≤400*k):=by
 intro k
 induction k with
 | zero=>intro _ _;simp[qI,zd]
 | succ k ih =>
  intro hk h
  have h1:=ih (by omega) (fun j hj=>h j (by omega))
  have h2:=(h k (by omega)).sh
  have h3:=(h k (by omega)).lo
  rw[yR l k (by omega),va l k (by omega)]
  omega
theorem jak {w:World} {B b o:Nat} {l:List Mth} (i:Nat) (hb:b<B) (h:∀j v,(l.flatMap zp)[j]?=some v→w.cell? ⟨b,o+j,none⟩=some v):Row w B (some ⟨b,o,none⟩) ((l.take i).flatMap zp) :=
 .inr ⟨b,o,rfl,hb,fun j v hv=>h j v (by
  have hp:(l.take i).flatMap zp++(l.drop i).flatMap zp=l.flatMap zp:=by rw[←List.flatMap_append,List.take_append_drop]
  rw[←hp,List.getElem?_append_left (List.getElem?_eq_some_iff.1 hv).1]
  exact hv)⟩
theorem Jm (A:Option Addr) (c:Nat) (l:List Mth) (w:World) (hr:Row w w.heap.size A (l.flatMap zp)) (hc:l.length≤c) (hm:c≤maxLen) (hn:∀x∈l,x.nm.size≤maxLen) :
  Calls Tryz.prog 110 #[.slice A l.length c] w (Errs (MthsOk l) w):=by
 have hm':=hm
 unfold maxLen at hm'
 obtain⟨Q,hQ⟩:∃Q:Prop,Q=MthsOk l:=⟨_,rfl⟩
 have NO1:Hid (l.length<1→¬Q):=fun h hq=>by have:=(hQ▸hq:MthsOk l).n1;omega
 have NO2:Hid (20<l.length→¬Q):=fun h hq=>by have:=(hQ▸hq:MthsOk l).n2;omega
 have NO:Hid (∀i,i<l.length→¬MthOk l i→¬Q):=fun i hi h hq=>h ((hQ▸hq:MthsOk l).each i hi)
 have NOS:Hid (qI l=0→¬Q):=fun h hq=>(hQ▸hq:MthsOk l).s0 h
 have NOL:Hid (zd l=0→¬Q):=fun h hq=>(hQ▸hq:MthsOk l).l0 h
 have YES:Hid (1≤l.length→l.length≤20→(∀i,i<l.length→MthOk l i)→qI l≠0→zd l≠0→Q):=fun a1 a2 a3 a4 a5=>hQ▸(⟨a1,a2,a3,a4,a5⟩:MthsOk l)
 rw[←hQ]
 clear hQ
 go_enter Tryz.func110,Tryz.ntmps110
 by_cases h1:l.length<1
 ·have t1:decide ((l.length:Int)<1)=true:=decide_eq_true (by omega)
  have t1':decide (l.length<1)=true:=decide_eq_true h1
  go_wp2_with fail
  all_goals go_ret
  all_goals exact Errs.no (by omega) (NO1.out h1) (Below.refl _ _)
 by_cases h2:20<l.length
 ·have t1:decide ((l.length:Int)<1)=false:=decide_eq_false (by omega)
  have t2:decide ((20:Int)<(l.length:Int))=true:=decide_eq_true (by omega)
  have t2':decide (20<l.length)=true:=decide_eq_true h2
  go_wp2_with fail
  all_goals go_ret
  all_goals exact Errs.no (by omega) (NO2.out h2) (Below.refl _ _)
 have t1:decide ((l.length:Int)<1)=false:=decide_eq_false (by omega)
 have t2:decide ((20:Int)<(l.length:Int))=false:=decide_eq_false (by omega)
 have t2':decide (20<l.length)=false:=decide_eq_false h2
 obtain⟨b,o,rfl,hbl,hcs0⟩:=hr.open_ (qg jO (by omega) l (by omega))
 have HCS:=hD hcs0
 clear hr hcs0
 go_wp2_with fail
 clear t1 t2 t2' NO1 NO2
 go_loopw [3,4,17] (fun s g i wr=>∃k:Nat,k≤l.length∧i = .int .i64 (k:Int)∧s = .int .i64 (qI (l.take k))∧g = .int .i64 (zd (l.take k))∧Hid (∀j,j<k→MthOk l j)∧Below w.heap.size w wr) (fun _ _ i _=>l.length-(intOf i).toNat)
 case atStart=>exact⟨0,by omega,rfl,rfl,rfl,fun j hj=>by omega,Below.refl _ _⟩
 case round =>
  obtain⟨k,hk,rfl,rfl,rfl,hall,hbr⟩:=hrel
  obtain⟨⟨s1,s2⟩,s3,s4⟩:=Zh l k hk hall.out
  by_cases hlt:k<l.length
  ·have hcs:∀j v,(l.flatMap zp)[j]?=some v→wr.cell? ⟨b,o+j,none⟩=some v:=fun j v hv=>(hbr.cell (p:=⟨b,o+j,none⟩) hbl).trans (HCS.out j v hv)
   have hc0:=jm jO jF hcs k 0 hlt (by omega) _ rfl
   have hc1:=jm jO jF hcs k 1 hlt (by omega) _ rfl
   have hc2:=jm jO jF hcs k 2 hlt (by omega) _ rfl
   rw[Nat.add_zero] at hc0
   have HNM:=hD (hn (l.getD k jF) (by simp[List.getD,List.getElem?_eq_getElem hlt]))
   have HSS:=hD (yR l k hlt)
   have HSL:=hD (va l k hlt)
   have HNO:=hD (NO.out k hlt)
   have HX:Hid (MthOk l k→∀j,j<k+1→MthOk l j):=fun h j hj=>by
    by_cases e:j=k
    ·subst e;exact h
    ·exact hall.out j (by omega)
   have HMK:Hid (∀(a:qo (l.getD k jF).nm) (b:(l.take k).any (fun x=>x.nm.toList==(l.getD k jF).nm.toList)=false) (c:0≤(l.getD k jF).sh∧(l.getD k jF).sh≤400) (d:0≤(l.getD k jF).lo∧(l.getD k jF).lo≤400),MthOk l k):=fun a b c d=>⟨a,b,c,d⟩
   have NM1:Hid (¬qo (l.getD k jF).nm→¬MthOk l k):=fun h hh=>h hh.nm
   have NM2:Hid ((l.take k).any (fun x=>x.nm.toList==(l.getD k jF).nm.toList)=true→¬MthOk l k):=fun h hh=>by rw[hh.tw] at h;cases h
   have NM3:Hid (¬(0≤(l.getD k jF).sh∧(l.getD k jF).sh≤400)→¬MthOk l k):=fun h hh=>h hh.sh
   have NM4:Hid (¬(0≤(l.getD k jF).lo∧(l.getD k jF).lo≤400)→¬MthOk l k):=fun h hh=>h hh.lo
   generalize l.getD k jF=y at *
   have HB1:=hD (jb hbr (ja wr (Obj.cells y.cells 155)))
   have HBX:=hD (Box.new wr 155 y.cells)
   have HCT:Hid (∀W,Below (wr.alloc (Obj.cells y.cells 155)).heap.size (wr.alloc (Obj.cells y.cells 155)) W→Calls Tryz.prog 157 #[.slice (some ⟨b,o,none⟩) k c,.func (.func 158) #[] #[.pointer (some ⟨wr.heap.size,0,none⟩)]] W fun e w'=>e = .returned (.bool ((l.take k).any (fun x=>x.nm.toList==y.nm.toList)))∧Below (wr.alloc (Obj.cells y.cells 155)).heap.size (wr.alloc (Obj.cells y.cells 155)) w'):=fun W hW=>by
    have:=vK 158 #[.pointer (some ⟨wr.heap.size,0,none⟩)] (fun x=>x.nm.toList==y.nm.toList) (Below (wr.alloc (Obj.cells y.cells 155)).heap.size (wr.alloc (Obj.cells y.cells 155))) (some ⟨b,o,none⟩) c (l.take k) W hW (by simp;omega) (fun _ _=>rfl)
     (fun W hW=>(jak k hbl HCS.out).next (jb HB1.out hW))
     (fun W x hW=>(Vx wr.heap.size y x W ((HBX.out.below hW).cell 0)).mono fun e w' ⟨he,hb⟩=>⟨he,jb hW hb⟩)
    rwa[show(l.take k).length=k from by simp;omega] at this
   have k0:(0:Int)≤(k:Int):=by omega
   have k1:(k:Int)≤(c:Int):=by omega
   have HIN:=hD (fun w=>vH y.nm w HNM.out)
   clear hcs NO HNM
   have MK':Hid (qo y.nm→(l.take k).any (fun x=>x.nm.toList==y.nm.toList)=false→0≤y.sh∧y.sh≤400→0≤y.lo∧y.lo≤400→∀j,j<k+1→MthOk l j):=fun a b c d=>HX.out (HMK.out a b c d)
   clear HX HMK hn
   generalize hgT:(l.take k).any (fun x=>x.nm.toList==y.nm.toList)=T at *
   clear hgT
   go_wp2_with fail
   generalize wr.alloc (Obj.cells y.cells 155)=W1 at *
   generalize wr.heap.size=gm at *
   clear hc0 hc1 hc2 hbr
   refine(HIN.out _).mono ?_
   rintro e w' ⟨bn,rfl,hbn,rfl⟩
   have HBN:=hD hbn
   clear hbn HIN
   cases bn with
   | false =>
    have HF:Hid (¬Q):=HNO.out (NM1.out (fun h=>by have:=HBN.out.2 h;cases this))
    clear HBN
    go_wp2_with fail
    go_ret
    exact Errs.no (by omega) HF.out HB1.out
   | true =>
    have HNK:=hD (HBN.out.1 rfl)
    clear HBN NM1
    go_wp2_with fail
    refine(HCT.out _ (Below.refl _ _)).mono ?_
    rintro e w2 ⟨rfl,hb2⟩
    replace HBX:=hD (HBX.out.below hb2)
    replace HB1:=hD (jb HB1.out hb2)
    clear hb2 HCT
    cases T with
    | true =>
     have HF:Hid (¬Q):=HNO.out (NM2.out rfl)
     go_wp2_with fail
     go_ret
     exact Errs.no (by omega) HF.out HB1.out
    | false =>
     have y1:w2.cell? ⟨gm,1,none⟩=some (.int .i64 y.sh):=HBX.out.cell 1
     have y2:w2.cell? ⟨gm,2,none⟩=some (.int .i64 y.lo):=HBX.out.cell 2
     have HL1:=hD (fun w=>vU y.sh w)
     have HL2:=hD (fun w=>vU y.lo w)
     by_cases a3:0≤y.sh∧y.sh≤400
     case neg =>
      have HF:Hid (¬Q):=HNO.out (NM3.out a3)
      rw[decide_eq_false a3] at HL1
      clear a3
      go_wp2_with (go_at_call 159;refine(HL1.out _).mono ?_;rintro e w' ⟨rfl,rfl⟩)
      go_ret
      exact Errs.no (by omega) HF.out HB1.out
     rw[decide_eq_true a3] at HL1
     by_cases a4:0≤y.lo∧y.lo≤400
     case neg =>
      have HF:Hid (¬Q):=HNO.out (NM4.out a4)
      rw[decide_eq_false a4] at HL2
      clear a3 a4
      go_wp2_with (first|(go_at_call 159;((with_reducible refine(HL1.out _).mono ?_));rintro e w' ⟨rfl,rfl⟩)|(go_at_call 159;((with_reducible refine(HL2.out _).mono ?_));rintro e w' ⟨rfl,rfl⟩))
      go_ret
      exact Errs.no (by omega) HF.out HB1.out
     rw[decide_eq_true a4] at HL2
     have HALL:=hD (MK'.out HNK.out rfl a3 a4)
     obtain⟨b1,b2⟩:=a3
     obtain⟨b3,b4⟩:=a4
     go_wp2_with (first|(go_at_call 159;((with_reducible refine(HL1.out _).mono ?_));rintro e w' ⟨rfl,rfl⟩)|(go_at_call 159;((with_reducible refine(HL2.out _).mono ?_));rintro e w' ⟨rfl,rfl⟩))
     clear HL1 HL2 MK' NM2 NM3 NM4 HNO HNK hall
     have e1:IntKind.i64.wrap (qI (l.take k)+y.sh)=qI (l.take k)+y.sh:=ji _ (by omega) (by omega)
     have e2:IntKind.i64.wrap (zd (l.take k)+y.lo)=zd (l.take k)+y.lo:=ji _ (by omega) (by omega)
     go_quiet (fail)
     go_wp2_with fail
     go_roundw
     case rel=>exact⟨k+1,by omega,by go_num,by rw[HSS.out],by rw[HSL.out],HALL,jd HB1.out _⟩
     case measure=>simp[intOf];omega
  ·obtain rfl:k=l.length:=by omega
   rw[List.take_length] at s1 s2 s3 s4
   have HALL:=hD hall.out
   have ht:l.take l.length=l:=List.take_length
   rw[ht]
   clear ht hn NO HCS hall
   by_cases z1:qI l=0
   ·have t1:(qI l==0)=true:=by simpa using z1
    have HF:=hD (NOS.out z1)
    clear z1
    go_wp2_with fail
    go_ret
    exact Errs.no (by omega) HF.out hbr
   have t1:(qI l==0)=false:=by simpa using z1
   by_cases z2:zd l=0
   ·have t2:(zd l==0)=true:=by simpa using z2
    have HF:=hD (NOL.out z2)
    clear z2 z1
    go_wp2_with fail
    go_ret
    exact Errs.no (by omega) HF.out hbr
   have t2:(zd l==0)=false:=by simpa using z2
   have HY:=hD (YES.out (by omega) (by omega) HALL.out z1 z2)
   clear z1 z2
   go_wp2_with fail
   go_ret
   exact Errs.ok HY.out hbr
structure Cal where
 nm:ByteArray
 ep:Int
 cy:Int
 mo:List Mth
 lp:List Int
 A1:Option Addr
 c1:Nat
 A2:Option Addr
 c2:Nat
abbrev Cal.cells (c:Cal):Array Value:=#[.string c.nm,.int .i64 c.ep,.int .i64 c.cy,.slice c.A1 c.mo.length c.c1,.slice c.A2 c.lp.length c.c2]
abbrev Cal.val (c:Cal):Value:=.agg c.cells
structure CalIn (w:World) (c:Cal):Prop where
 r1:Row w w.heap.size c.A1 (c.mo.flatMap zp)
 r2:Row w w.heap.size c.A2 (jZ c.lp)
theorem CalIn.next {w w':World} {c:Cal} (h:CalIn w c) (hb:Below w.heap.size w w'):CalIn w' c:=⟨h.r1.next hb,h.r2.next hb⟩
structure CalFit (c:Cal):Prop where
 nm:c.nm.size≤maxLen
 ns:∀x∈c.mo,x.nm.size≤maxLen
 l1:c.mo.length≤c.c1
 m1:c.c1≤maxLen
 l2:c.lp.length≤maxLen
theorem zu {W:World} {g:Nat} {c:Cal} (h:Box W g 70 c.cells):W.cell? ⟨g,0,none⟩=some (.string c.nm)∧W.cell? ⟨g,1,none⟩=some (.int .i64 c.ep)∧W.cell? ⟨g,2,none⟩=some (.int .i64 c.cy)∧W.cell? ⟨g,3,none⟩=some (.slice c.A1 c.mo.length c.c1)∧W.cell? ⟨g,4,none⟩=some (.slice c.A2 c.lp.length c.c2) :=
 ⟨h.cell 0,h.cell 1,h.cell 2,h.cell 3,h.cell 4⟩
structure CalOk (c:Cal):Prop where
 hd:qo c.nm∧(-4000000≤c.ep∧c.ep≤4000000)∧1≤c.cy∧c.cy≤3000
 mo:MthsOk c.mo
 lp:Inc c.lp 1 c.cy
theorem Vm (c:Cal) (w:World) (hr:CalIn w c) (hf:CalFit c):Calls Tryz.prog 88 #[c.val] w (Errs (CalOk c) w):=by
 have HX:=hD (Box.new w 70 c.cells)
 have HB:=hD (ja w (Obj.cells c.cells 70))
 have HR:=hD (hr.next HB.out)
 have HF:=hD hf
 have hl:=hf.l2
 unfold maxLen at hl
 obtain⟨Q,hQ⟩:∃Q:Prop,Q=CalOk c:=⟨_,rfl⟩
 have QI:Hid (Q↔(qo c.nm∧(-4000000≤c.ep∧c.ep≤4000000)∧1≤c.cy∧c.cy≤3000)∧MthsOk c.mo∧Inc c.lp 1 c.cy):=by
  unfold Hid
  rw[hQ]
  exact⟨fun h=>⟨h.hd,h.mo,h.lp⟩,fun h=>⟨h.1,h.2.1,h.2.2⟩⟩
 rw[←hQ]
 clear hr hf hQ
 go_enter Tryz.func88,Tryz.ntmps88
 go_wp2_with fail
 generalize w.alloc (Obj.cells c.cells 70)=W0 at *
 obtain⟨g,hg⟩:∃g,g=w.heap.size:=⟨_,rfl⟩
 rw[←hg] at HX
 rw[←hg]
 clear hg
 refine(X5 c.nm c.ep c.cy _ HF.out.nm).mono ?_
 rintro e w1 ⟨E1,rfl,hE1,hb1⟩
 have HE1:=hD hE1
 replace HX:=hD (HX.out.below hb1)
 replace HB:=hD (jb HB.out hb1)
 replace HR:=hD (HR.out.next hb1)
 clear hE1 hb1
 by_cases e1:E1=0
 case neg =>
  have t1:(E1 != 0)=true:=by rw[bne_iff_ne];exact e1
  have HNQ:Hid (¬Q):=fun h=>e1 (HE1.out.2 (QI.out.1 h).1)
  clear HE1
  go_wp2_with fail
  go_ret
  exact Errs.no e1 HNQ.out HB.out
 subst e1
 have HW:=hD (HE1.out.1 rfl)
 clear HE1
 obtain⟨x0,x1,x2,x3,x4⟩:=zu HX.out
 go_wp2_with fail
 refine(Jm c.A1 c.c1 c.mo _ HR.out.r1 HF.out.l1 HF.out.m1 HF.out.ns).mono ?_
 rintro e w2 ⟨E1,rfl,hE1,hb1⟩
 have HE1:=hD hE1
 replace HX:=hD (HX.out.below hb1)
 replace HB:=hD (jb HB.out hb1)
 replace HR:=hD (HR.out.next hb1)
 clear hE1 hb1 x0 x1 x2 x3 x4
 by_cases e1:E1=0
 case neg =>
  have t1:(E1 != 0)=true:=by rw[bne_iff_ne];exact e1
  have HNQ:Hid (¬Q):=fun h=>e1 (HE1.out.2 (QI.out.1 h).2.1)
  clear HE1
  go_wp2_with fail
  go_ret
  exact Errs.no e1 HNQ.out HB.out
 subst e1
 have HMo:=hD (HE1.out.1 rfl)
 clear HE1
 obtain⟨x0,x1,x2,x3,x4⟩:=zu HX.out
 have hlp:=HR.out.r2
 have NQ:Hid (∀i,i<c.lp.length→¬((1≤c.lp.getD i 0∧c.lp.getD i 0≤c.cy)∧(0<i→c.lp.getD (i-1) 0<c.lp.getD i 0))→¬Q):=fun i hi h hq=>h ((QI.out.1 hq).2.2 i hi)
 have YQ:Hid (Inc c.lp 1 c.cy→Q):=fun h=>QI.out.2 ⟨HW.out,HMo.out,h⟩
 have YI:Hid (Inc c.lp 1 c.cy=∀i,i<c.lp.length→(1≤c.lp.getD i 0∧c.lp.getD i 0≤c.cy)∧(0<i→c.lp.getD (i-1) 0<c.lp.getD i 0)):=rfl
 clear QI HW HMo HR HF
 go_wp2_with fail
 go_loop [5,6,26] (fun _ _ i=>∃k:Nat,k≤c.lp.length∧i = .int .i64 (k:Int)∧Hid (∀j,j<k→(1≤c.lp.getD j 0∧c.lp.getD j 0≤c.cy)∧(0<j→c.lp.getD (j-1) 0<c.lp.getD j 0))) (fun _ _ i=>c.lp.length-(intOf i).toNat)
 case atStart=>exact⟨0,by omega,rfl,fun j hj=>by omega⟩
 case round =>
  obtain⟨k,hk,rfl,hall⟩:=hrel
  by_cases hlt:k<c.lp.length
  ·obtain⟨b,o,hA,_,hcs⟩:=hlp.open_ (yO c.lp (by omega))
   rw[hA]
   rw[hA] at x4
   have hc:=zC hcs k hlt
   have hc':0<k→w2.cell? ⟨b,o+(k-1),none⟩=some (.int .i64 (c.lp.getD (k-1) 0)):=fun h0=>zC hcs (k-1) (by omega)
   have HNk:=hD (NQ.out k hlt)
   have HXk:Hid ((1≤c.lp.getD k 0∧c.lp.getD k 0≤c.cy)∧(0<k→c.lp.getD (k-1) 0<c.lp.getD k 0)→∀j,j<k+1→(1≤c.lp.getD j 0∧c.lp.getD j 0≤c.cy)∧(0<j→c.lp.getD (j-1) 0<c.lp.getD j 0)):=fun h j hj=>by
    by_cases e:j=k
    ·subst e;exact h
    ·exact hall.out j (by omega)
   clear hcs
   generalize c.lp.getD k 0=y at *
   generalize c.lp.getD (k-1) 0=z at *
   by_cases a1:y<1
   ·have t1:decide (y<1)=true:=decide_eq_true a1
    clear hc'
    go_wp2_with fail
    go_ret
    exact Errs.no (by omega) (HNk.out (fun h=>by omega)) HB.out
   have t1:decide (y<1)=false:=decide_eq_false a1
   by_cases a2:c.cy<y
   ·have t2:decide (c.cy<y)=true:=decide_eq_true a2
    clear hc'
    go_wp2_with fail
    go_ret
    exact Errs.no (by omega) (HNk.out (fun h=>by omega)) HB.out
   have t2:decide (c.cy<y)=false:=decide_eq_false a2
   by_cases h0:k=0
   ·subst h0
    simp only[Nat.add_zero] at hc
    have HA:=hD (HXk.out ⟨by omega,fun h=>by omega⟩)
    clear hc' HNk HXk
    go_wp2_with fail
    go_round
    case rel=>exact⟨0+1,by omega,by go_num,HA⟩
    case measure=>simp[intOf];omega
   have hcz:=hc' (by omega)
   clear hc'
   obtain⟨j,rfl⟩:∃j,k=j+1:=⟨k-1,by omega⟩
   simp only[Nat.add_sub_cancel] at hcz
   have t3:decide ((0:Int)<((j+1:Nat):Int))=true:=decide_eq_true (by omega)
   have e3:IntKind.i64.wrap (((j+1:Nat):Int)-1)=(j:Int):=by rw[show((j+1:Nat):Int)-1=(j:Int) from by omega];exact ji _ (by omega) (by omega)
   have e4:(j:Int).toNat=j:=by omega
   have e5:(0:Int)≤(j:Int):=by omega
   have e6:(j:Int)<(c.lp.length:Int):=by omega
   by_cases a3:y≤z
   ·have t4:decide (y≤z)=true:=decide_eq_true a3
    have HF:=hD (HNk.out (fun h=>by have:=h.2 (by omega);omega))
    clear HNk HXk
    go_wp2_with fail
    go_ret
    exact Errs.no (by omega) HF.out HB.out
   ·have t4:decide (y≤z)=false:=decide_eq_false a3
    have HA:=hD (HXk.out ⟨by omega,fun h=>by omega⟩)
    clear HNk HXk
    go_wp2_with fail
    go_round
    case rel=>exact⟨j+1+1,by omega,by go_num,HA⟩
    case measure=>simp[intOf];omega
  ·have HY:=hD (YQ.out (YI.out▸(fun i hi=>hall.out i (by omega))))
   clear hall NQ YQ YI
   go_wp2_with fail
   go_ret
   exact Errs.ok HY.out HB.out
theorem ZN (c:Cal) (w:World) (hr:CalIn w c) (ok:MthsOk c.mo):Calls Tryz.prog 112 #[c.val] w fun e w'=>e = .returned (.tuple #[.int .i64 (qI c.mo),.int .i64 (zd c.mo)])∧Below w.heap.size w w':=by
 have HB:=hD (ja w (Obj.cells c.cells 70))
 have hr1:=hr.r1
 have hn1:=ok.n1
 have hn2:=ok.n2
 have HOK:=hD ok
 obtain⟨b,o,hA,hbl,hcs0⟩:=hr1.open_ (qg jO (by omega) c.mo (by omega))
 have HCS:=hD hcs0
 have HA:=hD hA
 clear hr hr1 ok hcs0 hA
 have htl:Hid (c.mo.take c.mo.length=c.mo):=List.take_length
 go_enter Tryz.func112,Tryz.ntmps112
 go_wp2_with fail
 generalize w.alloc (Obj.cells c.cells 70)=W0 at *
 go_loopw [4,5,11] (fun s g i wr=>∃k:Nat,k≤c.mo.length∧i = .int .i64 (k:Int)∧s = .int .i64 (qI (c.mo.take k))∧g = .int .i64 (zd (c.mo.take k))∧Below w.heap.size w wr) (fun _ _ i _=>c.mo.length-(intOf i).toNat)
 case atStart=>exact⟨0,by omega,rfl,rfl,rfl,HB.out⟩
 case round =>
  obtain⟨k,hk,rfl,rfl,rfl,hbr⟩:=hrel
  obtain⟨⟨s1,s2⟩,s3,s4⟩:=Zh c.mo k hk (fun j hj=>HOK.out.each j (by omega))
  by_cases hlt:k<c.mo.length
  ·have hcs:∀j v,(c.mo.flatMap zp)[j]?=some v→wr.cell? ⟨b,o+j,none⟩=some v:=fun j v hv=>(hbr.cell (p:=⟨b,o+j,none⟩) hbl).trans (HCS.out j v hv)
   have hc0:=jm jO jF hcs k 0 hlt (by omega) _ rfl
   have hc1:=jm jO jF hcs k 1 hlt (by omega) _ rfl
   have hc2:=jm jO jF hcs k 2 hlt (by omega) _ rfl
   rw[Nat.add_zero] at hc0
   have HSS:=hD (yR c.mo k hlt)
   have HSL:=hD (va c.mo k hlt)
   obtain⟨b1,b2⟩:=(HOK.out.each k hlt).sh
   obtain⟨b3,b4⟩:=(HOK.out.each k hlt).lo
   clear hcs
   generalize c.mo.getD k jF=y at *
   have hB1:=jb hbr (ja wr (Obj.cells y.cells 155))
   have hbx:=Box.new wr 155 y.cells
   have y1:(wr.alloc (Obj.cells y.cells 155)).cell? ⟨wr.heap.size,1,none⟩=some (.int .i64 y.sh):=hbx.cell 1
   have y2:(wr.alloc (Obj.cells y.cells 155)).cell? ⟨wr.heap.size,2,none⟩=some (.int .i64 y.lo):=hbx.cell 2
   have e1:IntKind.i64.wrap (qI (c.mo.take k)+y.sh)=qI (c.mo.take k)+y.sh:=ji _ (by omega) (by omega)
   have e2:IntKind.i64.wrap (zd (c.mo.take k)+y.lo)=zd (c.mo.take k)+y.lo:=ji _ (by omega) (by omega)
   rw[HA.out]
   clear hbx
   go_wp2_with fail
   generalize wr.alloc (Obj.cells y.cells 155)=W1 at *
   generalize wr.heap.size=gm at *
   clear hc0 hc1 hc2 hbr
   go_quiet (fail)
   go_wp2_with fail
   go_roundw
   case rel=>exact⟨k+1,by omega,by go_num,by rw[HSS.out],by rw[HSL.out],jd hB1 _⟩
   case measure=>simp[intOf];omega
  ·obtain rfl:k=c.mo.length:=by omega
   rw[htl.out]
   clear htl s1 s2 s3 s4
   go_wp2_with fail
   go_ret2
   exact⟨rfl,hbr⟩
theorem VG (a b A B:Int) (h1:0≤a) (h2:a≤A) (h3:0≤b) (h4:b≤B):0≤a*b∧a*b≤A*B :=
 ⟨Int.mul_nonneg h1 h3,Int.mul_le_mul h2 h4 h3 (by omega)⟩
theorem Xd (n:Int) (w:World) (h1 : -10000≤n) (h2:n≤10000):Calls Tryz.prog 116 #[.int .i64 n] w fun e w'=>e = .returned (.bool true)∧w=w':=by
 have t1:decide (-10000≤n)=true:=decide_eq_true h1
 have t2:decide (n≤10000)=true:=decide_eq_true h2
 go_enter Tryz.func116,Tryz.ntmps116
 go_wp2_with fail
 go_ret
 exact⟨rfl,rfl⟩
def Cal.pl (c:Cal) (y:Int):Int:=(y-1)%c.cy+1
theorem jaN (c:Cal) (y:Int) (w:World) (hc1:1≤c.cy) (hc2:c.cy≤3000) (h1 : -100000≤y) (h2:y≤100000):Calls Tryz.prog 162 #[c.val,.int .i64 y] w fun e w'=>e = .returned (.int .i64 (c.pl y))∧Below w.heap.size w w':=by
 have HB:=hD (ja w (Obj.cells c.cells 70))
 unfold Cal.pl
 have b1:=Int.emod_nonneg (y-1) (show c.cy≠0 by omega)
 have b2:=Int.emod_lt_of_pos (y-1) (show 0<c.cy by omega)
 have HM:=hD (fun W=>jW (y-1) c.cy W (by omega) (by omega) (by omega) (by omega))
 generalize (y-1)%c.cy=q at *
 go_enter Tryz.func162,Tryz.ntmps162
 go_wp2_with (go_at_call 45;refine(HM.out _).mono ?_;rintro e w' ⟨rfl,n,rfl⟩)
 go_ret
 exact⟨rfl,jd HB.out _⟩
theorem K8 {l:List Int} {lo hi:Int} (h:Inc l lo hi) (x:Int):(decide (xJ l x<l.length)&&(l.getD (xJ l x) 0==x))=decide (x∈l):=by
 rw[Bool.eq_iff_iff]
 simp only[Bool.and_eq_true,decide_eq_true_eq,beq_iff_eq]
 constructor
 ·rintro⟨h1,h2⟩
  rw[←h2]
  simp[List.getD,List.getElem?_eq_getElem h1]
 ·intro hm
  obtain⟨i,hi,e⟩:=List.getElem_of_mem hm
  have hg:l.getD i 0=x:=by simp[List.getD,List.getElem?_eq_getElem hi,e]
  have:xJ l x=i:=jcH x l i (by omega) (fun t ht=>by rw[←hg];exact h.lt' t i ht hi) (fun t h1 h2=>by rw[←hg];exact h.le i t h1 h2)
  rw[this]
  exact⟨hi,hg⟩
theorem jbA (c:Cal) (y:Int) (w:World) (hr:CalIn w c) (hc1:1≤c.cy) (hc2:c.cy≤3000) (hlp:Inc c.lp 1 c.cy) (h1 : -100000≤y) (h2:y≤100000):Calls Tryz.prog 117 #[c.val,.int .i64 y] w fun e w'=>e = .returned (.bool (decide (c.pl y∈c.lp)))∧Below w.heap.size w w':=by
 have HB:=hD (ja w (Obj.cells c.cells 70))
 have HX:=hD (Box.new w 70 c.cells)
 have HR:=hD (hr.next HB.out)
 have HFI:=hD (K8 hlp (c.pl y))
 have hln:=hlp.len (by omega)
 have HLE:=hD hlp.le
 have HP:=hD (fun w=>jaN c y w hc1 hc2 h1 h2)
 have hcl:=jcP (c.pl y) c.lp
 obtain⟨R,hR⟩:∃R,R=decide (c.pl y∈c.lp):=⟨_,rfl⟩
 rw[←hR]
 rw[←hR] at HFI
 clear hR hr hlp
 generalize c.pl y=r at *
 go_enter Tryz.func117,Tryz.ntmps117
 go_wp2_with fail
 generalize w.alloc (Obj.cells c.cells 70)=W0 at *
 obtain⟨g,hg⟩:∃g,g=w.heap.size:=⟨_,rfl⟩
 rw[←hg] at HX
 rw[←hg]
 clear hg
 refine(HP.out _).mono ?_
 rintro e w1 ⟨rfl,hb1⟩
 replace HX:=hD (HX.out.below hb1)
 replace HB:=hD (jb HB.out hb1)
 replace HR:=hD (HR.out.next hb1)
 clear hb1
 obtain⟨x0,x1,x2,x3,x4⟩:=zu HX.out
 go_wp2_with fail
 refine(yM c.A2 c.c2 c.lp r _ HR.out.r2 (by omega) HLE.out).mono ?_
 rintro e w2 ⟨rfl,hb1⟩
 replace HX:=hD (HX.out.below hb1)
 replace HB:=hD (jb HB.out hb1)
 replace HR:=hD (HR.out.next hb1)
 clear hb1 x0 x1 x2 x3 x4
 obtain⟨x0,x1,x2,x3,x4⟩:=zu HX.out
 have hrow:=HR.out.r2
 generalize xJ c.lp r=k at *
 by_cases hlt:k<c.lp.length
 ·obtain⟨b,o,hA,_,hcs⟩:=hrow.open_ (yO c.lp (by omega))
  rw[hA] at x4
  have hc:=zC hcs k hlt
  rw[decide_eq_true hlt,Bool.true_and] at HFI
  clear hcs hrow
  generalize c.lp.getD k 0=z at *
  have t1:decide ((k:Int)<(c.lp.length:Int))=true:=decide_eq_true (by omega)
  have t2:decide (k<c.lp.length)=true:=decide_eq_true hlt
  have k0:(0:Int)≤(k:Int):=by omega
  have k1:(k:Int)<(c.lp.length:Int):=by omega
  go_wp2_with fail
  go_ret
  exact⟨by rw[←HFI.out];rfl,HB.out⟩
 ·have t1:decide ((k:Int)<(c.lp.length:Int))=false:=decide_eq_false (by omega)
  have t2:decide (k<c.lp.length)=false:=decide_eq_false hlt
  rw[decide_eq_false hlt,Bool.false_and] at HFI
  go_wp2_with fail
  go_ret
  exact⟨by rw[←HFI.out];rfl,HB.out⟩
end Go.Proofs.YtkkjaaognefeiaaGreatDoor
