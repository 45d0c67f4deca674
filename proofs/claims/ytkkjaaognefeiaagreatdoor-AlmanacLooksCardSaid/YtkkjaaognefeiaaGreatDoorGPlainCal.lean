/- PlainCal, PlainCal2 -/
import Derived.Test.YtkkjaaognefeiaaGreatDoorGCal1
set_option maxRecDepth 100000
set_option maxHeartbeats 16000000
set_option linter.unusedVariables false
set_option linter.unusedSimpArgs false
namespace Go.Proofs.YtkkjaaognefeiaaGreatDoor
open Go.RowKit
def Cal.lpy (c:Cal) (y:Int):Bool:=decide (c.pl y∈c.lp)
def Cal.mlen (c:Cal) (y:Int) (m:Nat):Int:=if c.lpy y then(c.mo.getD m jF).lo else(c.mo.getD m jF).sh
def Cal.ylen (c:Cal) (y:Int):Int:=if c.lpy y then zd c.mo else qI c.mo
def Cal.pre (c:Cal) (y:Int) (m:Nat):Int:=if c.lpy y then zd (c.mo.take m) else qI (c.mo.take m)
def Cal.ny (c:Cal) (y:Int):Int:=c.ep+(y-1)/c.cy*(c.cy*qI c.mo+c.lp.length*(zd c.mo-qI c.mo))+(y-1)%c.cy*qI c.mo+xJ c.lp ((y-1)%c.cy+1)*(zd c.mo-qI c.mo)
theorem Cal.ny_step {c:Cal} (ok:CalOk c) (y:Int):c.ny (y+1)=c.ny y+c.ylen y:=by
 have hc:=ok.hd.2.2
 have h:=ok.lp
 have hr0:=Int.emod_nonneg (y-1) (show c.cy≠0 by omega)
 have hr1:=Int.emod_lt_of_pos (y-1) (show 0<c.cy by omega)
 have he:=Int.mul_ediv_add_emod (y-1) c.cy
 have hcount:∀x,c.lp.count x=if x∈c.lp then 1 else 0:=fun x=>List.Nodup.count h.nodup
 have hY:c.ylen y=qI c.mo+(c.lp.count ((y-1)%c.cy+1):Int)*(zd c.mo-qI c.mo):=by
  unfold Cal.ylen Cal.lpy Cal.pl
  rw[hcount]
  by_cases hm:(y-1)%c.cy+1∈c.lp<;>simp[hm]<;>omega
 rw[hY]
 unfold Cal.ny
 rw[show y+1-1=(y-1)+1 from by omega]
 generalize y-1=z at *
 generalize hq:z/c.cy=q at *
 generalize hrr:z%c.cy=r at *
 generalize zd c.mo-qI c.mo=D at *
 generalize qI c.mo=S at *
 by_cases hw:r+1<c.cy
 ·have h1:(z+1)/c.cy=q∧(z+1)%c.cy=r+1:=(Int.ediv_emod_unique (by omega)).2 ⟨by omega,by omega,hw⟩
  rw[h1.1,h1.2,XC,Int.natCast_add,Int.add_mul,Int.add_mul]
  omega
 ·have hr:r+1=c.cy:=by omega
  have h1:(z+1)/c.cy=q+1∧(z+1)%c.cy=0:=(Int.ediv_emod_unique (by omega)).2 ⟨by rw[Int.mul_add];omega,by omega,by omega⟩
  have h0:xJ c.lp (0+1)=0:=Yc _ _ fun y hy=>by have:=(h.mem y hy).1;omega
  have hl:(c.lp.length:Int)=xJ c.lp (r+1)+c.lp.count (r+1):=by
   rw[←Int.natCast_add,←XC,jdU _ _ fun y hy=>by have:=(h.mem y hy).2;omega]
  rw[h1.1,h1.2,h0,hl,←hr]
  simp only[Int.add_mul,Int.mul_add,Int.one_mul,Int.natCast_zero,Int.zero_mul]
  omega
theorem Cal.sums_pos {c:Cal} (ok:CalOk c):(1≤qI c.mo∧qI c.mo≤8000)∧(1≤zd c.mo∧zd c.mo≤8000):=by
 have h:=Zh c.mo c.mo.length (Nat.le_refl _) ok.mo.each
 rw[List.take_length] at h
 have:=ok.mo.n2
 have:=ok.mo.s0
 have:=ok.mo.l0
 omega
theorem Cal.ylen_in {c:Cal} (ok:CalOk c) (y:Int):1≤c.ylen y∧c.ylen y≤8000:=by
 have:=Cal.sums_pos ok
 unfold Cal.ylen
 split<;>omega
theorem Cal.ny_far {c:Cal} (ok:CalOk c) (y:Int):∀k:Nat,c.ny y+k≤c.ny (y+k)∧c.ny (y+k)≤c.ny y+8000*k:=by
 intro k
 induction k with
 | zero=>simp
 | succ k ih =>
  have h:=Cal.ny_step ok (y+k)
  have h2:=Cal.ylen_in ok (y+k)
  rw[show y+((k+1:Nat):Int)=y+k+1 from by omega,h]
  omega
theorem Cal.ny_lt {c:Cal} (ok:CalOk c) {y y':Int} (h:y<y'):c.ny y<c.ny y':=by
 have:=Cal.ny_far ok y (y'-y).toNat
 rw[show y+((y'-y).toNat:Int)=y' from by omega] at this
 omega
theorem Cal.ny_le {c:Cal} (ok:CalOk c) {y y':Int} (h:y≤y'):c.ny y≤c.ny y':=by
 by_cases e:y=y'
 ·rw[e];exact Int.le_refl _
 ·exact Int.le_of_lt (Cal.ny_lt ok (by omega))
theorem Cal.ny_one {c:Cal} (ok:CalOk c):c.ny 1=c.ep:=by
 have h0:xJ c.lp (0+1)=0:=Yc _ _ fun y hy=>by have:=(ok.lp.mem y hy).1;omega
 unfold Cal.ny
 simp only[show(1:Int)-1=0 from rfl,Int.zero_ediv,Int.zero_emod,Int.zero_mul,h0]
 simp
theorem Cal.ny_in {c:Cal} (ok:CalOk c) (y:Int) (h1 : -100000≤y) (h2:y≤100000) : -900000000≤c.ny y∧c.ny y≤900000000:=by
 have h0:=Cal.ny_one ok
 have he:=ok.hd.2.1
 by_cases h:1≤y
 ·have:=Cal.ny_far ok 1 (y-1).toNat
  rw[show(1:Int)+((y-1).toNat:Int)=y from by omega] at this
  omega
 ·have:=Cal.ny_far ok y (1-y).toNat
  rw[show y+((1-y).toNat:Int)=1 from by omega] at this
  omega
theorem Cal.pre_succ (c:Cal) (y:Int) (m:Nat) (h:m<c.mo.length):c.pre y (m+1)=c.pre y m+c.mlen y m:=by
 unfold Cal.pre Cal.mlen
 split
 ·exact va c.mo m h
 ·exact yR c.mo m h
theorem Cal.pre_zero (c:Cal) (y:Int):c.pre y 0=0:=by unfold Cal.pre;split<;>simp[zd,qI]
theorem Cal.pre_all (c:Cal) (y:Int):c.pre y c.mo.length=c.ylen y:=by unfold Cal.pre Cal.ylen;rw[List.take_length]
theorem Cal.mlen_in {c:Cal} (ok:CalOk c) (y:Int) (m:Nat) (h:m<c.mo.length):0≤c.mlen y m∧c.mlen y m≤400:=by
 have:=ok.mo.each m h
 unfold Cal.mlen
 split
 ·exact this.lo
 ·exact this.sh
theorem Cal.pre_mono {c:Cal} (ok:CalOk c) (y:Int):∀k m,m+k≤c.mo.length→c.pre y m≤c.pre y (m+k)∧c.pre y (m+k)≤c.pre y m+400*k:=by
 intro k
 induction k with
 | zero=>intro m _;simp
 | succ k ih =>
  intro m h
  have h1:=ih m (by omega)
  have h2:=Cal.mlen_in ok y (m+k) (by omega)
  rw[show m+(k+1)=m+k+1 from by omega,c.pre_succ y (m+k) (by omega)]
  omega
structure IsOn (c:Cal) (y:Int) (m:Nat) (d day:Int):Prop where
 m1:m<c.mo.length
 d0:0≤d
 d1:d<c.mlen y m
 on:day=c.ny y+c.pre y m+d
theorem IsOn.year {c:Cal} (ok:CalOk c) {y:Int} {m:Nat} {d day:Int} (h:IsOn c y m d day):c.ny y≤day∧day<c.ny (y+1):=by
 have h1:=Cal.pre_mono ok y m 0 (by have:=h.m1;omega)
 have h2:=Cal.pre_mono ok y (c.mo.length-(m+1)) (m+1) (by have:=h.m1;omega)
 rw[show m+1+(c.mo.length-(m+1))=c.mo.length from by have:=h.m1;omega,c.pre_all,c.pre_succ y m h.m1] at h2
 rw[c.pre_zero,Nat.zero_add] at h1
 rw[Cal.ny_step ok]
 have:=h.on
 have:=h.d0
 have:=h.d1
 omega
theorem IsOn.unique {c:Cal} (ok:CalOk c) {y y':Int} {m m':Nat} {d d' day:Int} (h:IsOn c y m d day) (h':IsOn c y' m' d' day):y=y'∧m=m'∧d=d':=by
 have a:=h.year ok
 have b:=h'.year ok
 have ey:y=y':=by
  by_cases h1:y<y'
  ·have:=Cal.ny_le ok (show y+1≤y' by omega);omega
  ·by_cases h2:y'<y
   ·have:=Cal.ny_le ok (show y'+1≤y by omega);omega
   ·omega
 subst ey
 have hlt:∀{a b:Nat} {s t:Int},IsOn c y a s day→IsOn c y b t day→¬a<b:=fun {a b s t} ha hb hab=>by
  have h1:=Cal.pre_mono ok y (b-(a+1)) (a+1) (by have:=hb.m1;omega)
  rw[show a+1+(b-(a+1))=b from by omega,c.pre_succ y a ha.m1] at h1
  have:=ha.on
  have:=hb.on
  have:=ha.d1
  have:=hb.d0
  omega
 have em:m=m':=by
  have:=hlt h h'
  have:=hlt h' h
  omega
 subst em
 have:=h.on
 have:=h'.on
 exact⟨rfl,rfl,by omega⟩
def NextM (c:Cal) (y:Int) (m:Nat) (y':Int) (m':Nat):Prop :=
 m'<c.mo.length∧0<c.mlen y' m'∧((y'=y∧m<m'∧∀i,m<i→i<m'→c.mlen y i=0)∨(y'=y+1∧(∀i,m<i→i<c.mo.length→c.mlen y i=0)∧∀i,i<m'→c.mlen (y+1) i=0))
theorem Cal.pre_empty (c:Cal) (y:Int) (a:Nat):∀k,a+k≤c.mo.length→(∀i,a≤i→i<a+k→c.mlen y i=0)→c.pre y (a+k)=c.pre y a:=by
 intro k
 induction k with
 | zero=>intro _ _;rfl
 | succ k ih =>
  intro h he
  rw[show a+(k+1)=a+k+1 from by omega,c.pre_succ y (a+k) (by omega),he (a+k) (by omega) (by omega),ih (by omega) fun i h1 h2=>he i h1 (by omega)]
  omega
theorem Cal.some_month {c:Cal} (ok:CalOk c) (y:Int) (h:∀i,i<c.mo.length→c.mlen y i=0):False:=by
 have h1:=c.pre_empty y 0 c.mo.length (by omega) fun i _ hi=>h i (by omega)
 rw[Nat.zero_add,c.pre_all,c.pre_zero] at h1
 have:=Cal.ylen_in ok y
 omega
theorem NextM.on {c:Cal} (ok:CalOk c) {y:Int} {m:Nat} {y':Int} {m':Nat} {d day:Int} (h:NextM c y m y' m') (ho:IsOn c y m d day) (hd:c.mlen y m≤d+1):IsOn c y' m' 0 (day+1):=by
 obtain⟨h1,h2,h3⟩:=h
 have hm:=ho.m1
 have hon:=ho.on
 have hd1:=ho.d1
 have hs:=c.pre_succ y m hm
 refine⟨h1,Int.le_refl _,h2,?_⟩
 rcases h3 with⟨rfl,h4,h5⟩|⟨rfl,h4,h5⟩
 ·have:=c.pre_empty y' (m+1) (m'-(m+1)) (by omega) fun i a b=>h5 i (by omega) (by omega)
  rw[show m+1+(m'-(m+1))=m' from by omega] at this
  omega
 ·have e1:=c.pre_empty y (m+1) (c.mo.length-(m+1)) (by omega) fun i a b=>h4 i (by omega) (by omega)
  rw[show m+1+(c.mo.length-(m+1))=c.mo.length from by omega,c.pre_all] at e1
  have e2:=c.pre_empty (y+1) 0 m' (by omega) fun i a b=>h5 i (by omega)
  rw[Nat.zero_add,c.pre_zero] at e2
  have e3:=Cal.ny_step ok y
  omega
theorem NextM.ex {c:Cal} (ok:CalOk c) (y:Int) (m:Nat):∃y' m',NextM c y m y' m':=by
 by_cases h:∃i,i<c.mo.length∧m<i∧0<c.mlen y i
 ·obtain⟨i,h1,h2,h3⟩:=h
  have key:∀n,∀i,i≤n→i<c.mo.length→m<i→0<c.mlen y i→∃j,j<c.mo.length∧m<j∧0<c.mlen y j∧∀t,m<t→t<j→c.mlen y t=0:=by
   intro n
   induction n with
   | zero=>intro i a b d e;omega
   | succ n ih =>
    intro i a b d e
    by_cases hh:∃t,m<t∧t<i∧0<c.mlen y t
    ·obtain⟨t,t1,t2,t3⟩:=hh
     exact ih t (by omega) (by omega) t1 t3
    ·refine⟨i,b,d,e,fun t t1 t2=>?_⟩
     have:=(Cal.mlen_in ok y t (by omega)).1
     by_cases hz:0<c.mlen y t
     ·exact absurd ⟨t,t1,t2,hz⟩ hh
     ·omega
  obtain⟨j,a,b,d,e⟩:=key i i (Nat.le_refl _) h1 h2 h3
  exact⟨y,j,a,d,.inl ⟨rfl,b,e⟩⟩
 ·have hn:∀i,m<i→i<c.mo.length→c.mlen y i=0:=fun i a b=>by
   have:=(Cal.mlen_in ok y i b).1
   by_cases hz:0<c.mlen y i
   ·exact absurd ⟨i,b,a,hz⟩ h
   ·omega
  by_cases h2:∃i,i<c.mo.length∧0<c.mlen (y+1) i
  ·obtain⟨i,h1,h3⟩:=h2
   have key:∀n,∀i,i≤n→i<c.mo.length→0<c.mlen (y+1) i→∃j,j<c.mo.length∧0<c.mlen (y+1) j∧∀t,t<j→c.mlen (y+1) t=0:=by
    intro n
    induction n with
    | zero=>intro i a b e;exact⟨i,b,e,fun t ht=>by omega⟩
    | succ n ih =>
     intro i a b e
     by_cases hh:∃t,t<i∧0<c.mlen (y+1) t
     ·obtain⟨t,t2,t3⟩:=hh
      exact ih t (by omega) (by omega) t3
     ·refine⟨i,b,e,fun t t2=>?_⟩
      have:=(Cal.mlen_in ok (y+1) t (by omega)).1
      by_cases hz:0<c.mlen (y+1) t
      ·exact absurd ⟨t,t2,hz⟩ hh
      ·omega
   obtain⟨j,a,b,e⟩:=key i i (Nat.le_refl _) h1 h3
   exact⟨y+1,j,a,b,.inr ⟨rfl,hn,e⟩⟩
  ·refine absurd (Cal.some_month ok (y+1) fun i hi=>?_) id
   have:=(Cal.mlen_in ok (y+1) i hi).1
   by_cases hz:0<c.mlen (y+1) i
   ·exact absurd ⟨i,hi,hz⟩ h2
   ·omega
end Go.Proofs.YtkkjaaognefeiaaGreatDoor
