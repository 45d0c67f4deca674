/- SvPl -/
import Derived.Test.YtkkjaaognefeiaaGreatDoorGSv2
set_option maxRecDepth 100000
set_option maxHeartbeats 16000000
set_option linter.unusedVariables false
set_option linter.unusedSimpArgs false
namespace Go.Proofs.YtkkjaaognefeiaaGreatDoor
open Go Go.RowKit
theorem Kg {r:CatRow} {c c':Cal} (h:CalOf r c) (h':CalOf r c') (y:Int) (m:Nat):c.mlen y m=c'.mlen y m:=by
 unfold Cal.mlen Cal.lpy Cal.pl
 rw[h.mo,h'.mo,h.cy,h'.cy,h.lp,h'.lp]
theorem zE {r:CatRow} (hr:r∈jN) {nm:ByteArray} (hn:str r.nm=nm) {c:Cal} (hof:CalOf r c) {y:Int} {m:Nat} {d day len:Int}:vw nm y m d day len↔-10000≤y∧y≤10000∧IsOn c y m d day∧len=c.mlen y m:=by
 constructor
 ·rintro⟨r',hr',hn',h1,h2,ho,hl⟩
  obtain rfl:=Vf hr hr' (hn.trans hn'.symm)
  exact⟨h1,h2,((yN r).on hof _ _ _ _).1 ho,hl.trans (Kg (yN r) hof y m)⟩
 ·rintro⟨h1,h2,ho,hl⟩
  exact⟨r,hr,hn,h1,h2,((yN r).on hof _ _ _ _).2 ho,hl.trans (Kg hof (yN r) y m)⟩
def MemR (c:Cal) (R:Int→Nat→Int→Int→Prop) (day:Int):Prop:=js day∧∃(y:Int) (m:Nat) (d:Int),-10000≤y∧y≤10000∧IsOn c y m d day∧R y m d day
theorem MemR.cand {c:Cal} (ok:CalOk c) {R:Int→Nat→Int→Int→Prop} {low high d:Int} (h:MemR c R d) (h1:low≤d) (h2:d≤high):Vd c low high d:=by
 obtain⟨hd,y,m,d',hy1,hy2,ho,_⟩:=h
 have q:=ho.year ok
 have q1:=Cal.ny_le ok hy1
 have q2:=Cal.ny_le ok (show y+1≤10001 by omega)
 exact⟨h1,h2,hd,by omega,by omega⟩
theorem MemR.step {c:Cal} (ok:CalOk c) {R:Int→Nat→Int→Int→Prop} {y:Int} {m:Nat} {first:Int} (ho:IsOn c y m 0 first) (hy1 : -10000≤y) (hy2:y≤10000) (d:Int) :
  (MemR c R d∧d<first+c.mlen y m)↔(MemR c R d∧d<first)∨(js d∧first≤d∧d<first+c.mlen y m∧R y m (d-first) d):=by
 have key:first≤d→d<first+c.mlen y m→IsOn c y m (d-first) d:=fun h1 h2=>⟨ho.m1,by omega,by omega,by have:=ho.on;omega⟩
 have hl:=(Cal.mlen_in ok y m ho.m1)
 constructor
 ·rintro⟨hm,hlt⟩
  by_cases hf:d<first
  ·exact .inl ⟨hm,hf⟩
  ·obtain⟨hd,y',m',d',_,_,ho',hR⟩:=hm
   obtain⟨rfl,rfl,rfl⟩:=(key (by omega) hlt).unique ok ho'
   exact .inr ⟨hd,by omega,hlt,hR⟩
 ·rintro(⟨hm,hf⟩|⟨hd,h1,h2,hR⟩)
  ·exact⟨hm,by have:=ho.d1;omega⟩
  ·exact⟨⟨hd,y,m,d-first,hy1,hy2,key h1 h2,hR⟩,h2⟩
def R1 (a b:Int) (y:Int) (m:Nat) (d day:Int):Prop:=(m:Int)+1=a∧d+1=b
def R2 (a:Int) (y:Int) (m:Nat) (d day:Int):Prop:=(m:Int)+1=a
def R12 (c:Cal) (P:Int→Prop) (a b:Int) (y:Int) (m:Nat) (d day:Int):Prop:=(b=0∨(m:Int)+1=b)∧NthP P (day-d) (c.mlen y m).toNat a d.toNat
theorem jcY {r:CatRow} (hr:r∈jN) {nm:ByteArray} (hn:str r.nm=nm) {c:Cal} (hof:CalOf r c) (a b:Int) (A:Option Addr) (c0:Nat) (fs:List FE) (day:Int):jC (.node 1 a b nm A c0 fs) day↔MemR c (R1 a b) day:=by
 rw[jC]
 show(js day∧∃y m d len,vw nm y m d day len∧(m:Int)+1=a∧d+1=b)↔_
 constructor
 ·rintro⟨hd,y,m,d,len,hD,h1,h2⟩
  obtain⟨q1,q2,q3,_⟩:=(zE hr hn hof).1 hD
  exact⟨hd,y,m,d,q1,q2,q3,h1,h2⟩
 ·rintro⟨hd,y,m,d,q1,q2,q3,h1,h2⟩
  exact⟨hd,y,m,d,_,(zE hr hn hof).2 ⟨q1,q2,q3,rfl⟩,h1,h2⟩
theorem Ks {r:CatRow} (hr:r∈jN) {nm:ByteArray} (hn:str r.nm=nm) {c:Cal} (hof:CalOf r c) (a b:Int) (A:Option Addr) (c0:Nat) (fs:List FE) (day:Int):jC (.node 2 a b nm A c0 fs) day↔MemR c (R2 a) day:=by
 rw[jC]
 show(js day∧∃y m d len,vw nm y m d day len∧(m:Int)+1=a)↔_
 constructor
 ·rintro⟨hd,y,m,d,len,hD,h1⟩
  obtain⟨q1,q2,q3,_⟩:=(zE hr hn hof).1 hD
  exact⟨hd,y,m,d,q1,q2,q3,h1⟩
 ·rintro⟨hd,y,m,d,q1,q2,q3,h1⟩
  exact⟨hd,y,m,d,_,(zE hr hn hof).2 ⟨q1,q2,q3,rfl⟩,h1⟩
theorem jeM {r:CatRow} (hr:r∈jN) {nm:ByteArray} (hn:str r.nm=nm) {c:Cal} (hof:CalOf r c) (a b:Int) (A:Option Addr) (c0:Nat) (fs:List FE) (day:Int):jC (.node 12 a b nm A c0 fs) day↔MemR c (R12 c (yr fs 0) a b) day:=by
 rw[jC]
 show(js day∧∃y m d len,vw nm y m d day len∧(b=0∨(m:Int)+1=b)∧NthP (yr fs 0) (day-d) len.toNat a d.toNat)↔_
 constructor
 ·rintro⟨hd,y,m,d,len,hD,h1,h2⟩
  obtain⟨q1,q2,q3,q4⟩:=(zE hr hn hof).1 hD
  rw[q4] at h2
  exact⟨hd,y,m,d,q1,q2,q3,h1,h2⟩
 ·rintro⟨hd,y,m,d,q1,q2,q3,h1,h2⟩
  exact⟨hd,y,m,d,_,(zE hr hn hof).2 ⟨q1,q2,q3,rfl⟩,h1,h2⟩
end Go.Proofs.YtkkjaaognefeiaaGreatDoor
