/- Laid, Base, Fb, Fc -/
import Derived.Test.YtkkjaaognefeiaaGreatDoorRows
import Derived.HandedShaped
import Derived.Handed
import Derived.LaidMore
import Derived.LaidHandle
import Derived.MakeChecks
import Derived.Stop.LaidErr
import Derived.Lib.LaidTab
import Derived.Lib.AppendIntMem
import Derived.Lib.ItoaNum
import Derived.WalkKit
import Derived.WalkSpells
import Derived.WalkLawsBesides
import Derived.Deep.QuietTactic
import Derived.BigQuiet
import Derived.Lib.Hide
import Derived.Outline
import Derived.OpenShut
import Derived.IntWalk
import Derived.RegionTactic
import Derived.Test.YtkkjaaognefeiaaGreatDoorProg
import Ieee.Arith
import Derived.Laws.FloatArith
set_option maxRecDepth 100000
set_option maxHeartbeats 16000000
set_option linter.unusedVariables false
set_option linter.unusedSimpArgs false
namespace Go.Proofs.YtkkjaaognefeiaaGreatDoor
theorem hD {p:Prop} (h:p):RowKit.Hid p:=Lib.hid h
theorem pZ:(∀(a:Act) (d:Tmp) (v:Value),a.put (some d) v={a with tmps:=a.tmps.setIfInBounds d v})∧(∀(a:Act) (v:Value),a.put none v=a)∧(∀(l:List Value) (i:Nat) (a:Value),l.toArray.setIfInBounds i a=(l.set i a).toArray)∧(∀(l:List Value) (a b:Value),(a::l).set 0 b=b::l)∧(∀(l:List Value) (a b:Value) (n:Nat),(a::l).set (n+1) b=a::l.set n b):=⟨fun _ _ _=>rfl,fun _ _=>rfl,fun l i a=>List.setIfInBounds_toArray ..,fun _ _ _=>rfl,fun _ _ _ _=>rfl⟩
section
open Go.ChangeShapes Go.RowKit Go.WideShapes
theorem handed_and_shaped {H:Type} {enc:TypeId×Value→H} {a:Assume} {C:Checked} {os:Os} {f:FuncId} {fn:Func} {s:ChangeSpec} {conds:List PathCond} {apart fresh handsOn again:Bool} {X:World→Array Value→Prop}
  (hX:∀(w w':World) (args:Array Value),w.heap=w'.heap→X w args→X w' args)
  (own:ownKnob C.prog.godebug=none) (started:os.Started) (noInit:C.prog.inits.idxOf? f=none) (hfn:C.prog.funcs[f]?=some fn)
  (witness:∃(w:World) (tape:Tape) (i:Input),w.os=os∧(w.forCall tape i).Shaped C.prog∧i.vars=[]∧Input.okWide C.prog (w.forCall tape i) .any w.heap.size f i ∧
   ((s.pre enc C.prog fn conds apart (w.forCall tape i).memory i.args∧X (w.forCall tape i).memory i.args)∧sizedMet enc C.prog fn (OpenSpec.ofChange s) apart (w.forCall tape i).memory i.args)∧a.holds C.prog (lone (Frame.enter C.prog f i.args .normal) [] (w.forCall tape i)))
  (contract:∀(W:World) (base:Nat) (args:Array Value) (ds gs:List (DataW H)) (before:List MemPlace),
   (∀(j:Nat) t v,fn.params[j]?=some t→args[j]?=some v→Value.okWide C.prog W .any base t v) →
   DataW.Whole enc C.prog fn.params.toList s.vars apart W args.toList ds gs before →
   conds.all (PathCond.test C.prog ⟨fn.params.toList,ds,s.plain.varTypes C.prog,gs⟩)=true →
   W.ShapedOpen C.prog→X W args →
   Calls C.prog f args W fun e W'=>∃v,e = .returned v∧s.post enc C.prog fn apart fresh handsOn again W args v W') :
  ReturnsInHanded a C os f .any (fun w args=>(s.pre enc C.prog fn conds apart w args∧X w args)∧sizedMet enc C.prog fn (OpenSpec.ofChange s) apart w args) (s.post enc C.prog fn apart fresh handsOn again):=by
 refine returnsInHanded_of_calls own started noInit witness ?_
 intro w tape i _ hsh _ hok hpre hholds
 obtain⟨_,_,_,fn',hfn',_,_,_,_,hval⟩:=hok
 have e:fn'=fn:=Option.some.inj (hfn'.symm.trans hfn)
 subst e
 obtain⟨⟨⟨ds,gs,before,hw,hc⟩,hx⟩,hz⟩:=hpre
 have hw':=DataW.Whole.of_heap (w':=w.forCall tape i) (by rfl) hw
 refine(contract (w.forCall tape i) w.heap.size i.args ds gs before hval hw' hc hsh (hX _ _ _ (by rfl) hx)).mono fun e W' ⟨v,he,hp⟩=>?_
 subst he
 exact ChangeSpec.post_blind hp
def Pow (w:World):Prop:=Lib.TabBelow Tryz.prog w.heap.size w "internal/strconv.uint64pow10" .u64 Lib.pow10Tab
theorem Pow.next {w w':World} (h:Pow w) (hb:Below w.heap.size w w'):Pow w':=fun w2 h2=>h w2 (hb.trans (h2.mono hb.size))
end
section
open Go.RowKit
theorem jg (w:World) (n:Nat):Below w.heap.size w (w.drewN n):=⟨rfl,rfl,rfl,Nat.le_refl _,fun _ _=>rfl⟩
theorem jd {B:Nat} {a w:World} (h:Below B a w) (n:Nat):Below B a (w.drewN n):=⟨h.os,h.tape,h.output,h.size,h.block⟩
theorem ja (w:World) (A:Obj):Below w.heap.size w (w.alloc A):=(Below.refl _ _).alloc (Nat.le_refl _) _
theorem jh (w:World) (A B:Obj):Below w.heap.size w ((w.alloc A).alloc B):=(ja w A).alloc (ja w A).size _
theorem jJ (w:World) (A B C:Obj):Below w.heap.size w (((w.alloc A).alloc B).alloc C):=(jh w A B).alloc (jh w A B).size _
end
section
open Ieee
theorem jdx:Ieee.double.fractionBits=52:=rfl
theorem JR:Ieee.double.binade=2^52:=rfl
theorem V4:Ieee.double.infRung=2047*2^52:=rfl
theorem JK:Ieee.double.signWeight=2^63:=rfl
theorem QR:Ieee.double.leastPlace = -1074:=rfl
theorem VC (way:Toward) (s:Bool) (n drop N:Nat) (h:n≤N*2^drop):way.cut s n drop≤N:=by
 unfold Toward.cut
 simp only[Nat.one_shiftLeft]
 have lt:=Nat.lt_log2_self (n:=n)
 by_cases hd:drop≤n.log2+2
 ·rw[Nat.min_eq_left hd]
  generalize hg:2^drop=g at h
  have gp:0<g:=by rw[←hg];exact Nat.two_pow_pos _
  have dm:=Nat.div_add_mod n g
  have ml:=Nat.mod_lt n gp
  rcases Nat.lt_or_ge (n/g) N with hl|hl
  ·have one:∀z:Bool,n/g+z.toNat≤N:=fun z=>by cases z<;>simp<;>omega
   exact one _
  ·have e:n%g=0:=by
    have:N*g≤n/g*g:=Nat.mul_le_mul_right g hl
    have:g*(n/g)=n/g*g:=Nat.mul_comm _ _
    omega
   have le:n/g≤N:=by
    rw[Nat.div_le_iff_le_mul_add_pred gp]
    have:N*g=g*N:=Nat.mul_comm _ _
    omega
   have n1:(g==0)=false:=by simp;omega
   cases way<;>simp[e,n1]<;>exact le
 ·have hd':n.log2+2≤drop:=by omega
  rw[Nat.min_eq_right hd']
  have p1:2^(n.log2+1)*2=2^(n.log2+2):=by rw[←Nat.pow_succ]
  generalize 2^(n.log2+2)=g at p1
  have hn:n<g:=by omega
  rw[Nat.div_eq_of_lt hn,Nat.mod_eq_of_lt hn]
  have a:decide (g<2*n)=false:=by simp;omega
  have b:(g==2*n)=false:=by simp;omega
  have one:n≠0→1≤N:=fun h0=>by
   rcases Nat.eq_zero_or_pos N with h1|h1
   ·rw[h1] at h;omega
   ·exact h1
  by_cases h0:n=0
  ·subst h0
   cases way<;>simp at a b ⊢<;>omega
  ·have:=one h0
   cases way<;>cases s<;>simp[a,b]<;>first|omega|exact Nat.le_trans (Bool.toNat_le _) this
theorem jfJ (s:Bool) (n drop:Nat) (h:drop≤n.log2+2):n/2^drop≤Toward.even.cut s n drop:=by
 unfold Toward.cut
 simp only[Nat.one_shiftLeft,Nat.min_eq_left h]
 omega
theorem jb9 (s:Bool) (n:Nat):Toward.even.cut s n 0=n:=by
 unfold Toward.cut
 simp[Nat.mod_one]
theorem Zb (s:Bool) (d k:Nat) (hd:d≤2040) (hk:k≤2^53) (hl:d=0∨2^52≤k):∃m p:Nat,Ieee.double.read (Ieee.double.word s (d*2^52+k)) = .number s m ((p:Int)-1074)∧m*2^p=k*2^d:=by
 have hr:d*2^52+k<2^63:=by omega
 have e1:Ieee.double.word s (d*2^52+k)/2^63%2=s.toNat:=by
  unfold Format.word;rw[JK];cases s<;>simp<;>omega
 have e2:Ieee.double.word s (d*2^52+k)%2^63=d*2^52+k:=by
  unfold Format.word;rw[JK];cases s<;>simp<;>omega
 have e3:(Ieee.double.word s (d*2^52+k)/2^63%2==1)=s:=by rw[e1];cases s<;>rfl
 unfold Format.read
 simp only[JK,JR,V4,QR,e2,e3]
 by_cases c1:d*2^52+k<2^52
 ·rw[if_pos c1]
  have:d=0:=by omega
  subst this
  refine⟨k,0,?_,by simp⟩
  simp
 ·rw[if_neg c1,if_pos (by omega)]
  by_cases c2:k=2^53
  ·subst c2
   refine⟨2^52,d+1,?_,?_⟩
   ·have a:(d*2^52+2^53)%2^52=0:=by omega
    have b:(d*2^52+2^53)/2^52=d+2:=by omega
    have c:(-1074+((d+2-1:Nat):Int))=((d+1:Nat):Int)-1074:=by omega
    rw[a,b,c]
   ·rw[←Nat.pow_add,←Nat.pow_add]
    congr 1
    omega
  ·refine⟨k,d,?_,rfl⟩
   rcases Nat.lt_or_ge k (2^52) with c3|c3
   ·have:d=0:=by omega
    omega
   ·have a:(d*2^52+k)%2^52=k-2^52:=by omega
    have b:(d*2^52+k)/2^52=d+1:=by omega
    have e4:2^52+(k-2^52)=k:=by omega
    have c:(-1074+((d+1-1:Nat):Int))=(d:Int)-1074:=by omega
    rw[a,b,e4,c]
theorem k9 (a b c:Nat) (h:a+b=c):2^a*2^b=2^c:=by rw[←h,Nat.pow_add]
theorem yT (s:Bool) (m i c b t:Nat) (hb:b≤2^52) (ht:t≤1900) (hv:m*2^(i+1074)≤b*2^t*2^c):∃m' p:Nat,Ieee.double.read (Ieee.double.nearest s m ((i:Int)-c)) = .number s m' ((p:Int)-1074)∧m'*2^p≤b*2^t∧(m=0→m'=0):=by
 unfold Format.nearest
 by_cases hm:m=0
 ·rw[if_pos hm]
  obtain⟨m',p,e1,e2⟩:=Zb s 0 0 (by omega) (by omega) (.inl rfl)
  simp only[Nat.zero_mul,Nat.zero_add] at e1 e2
  have:m'=0:=by
   have:=Nat.two_pow_pos p
   rcases Nat.mul_eq_zero.1 e2 with h|h<;>omega
  exact⟨m',p,e1,by rw[e2];exact Nat.zero_le _,fun _=>this⟩
 rw[if_neg hm]
 have l1:=Nat.log2_self_le hm
 have l2:=Nat.lt_log2_self (n:=m)
 dsimp only
 rw[jdx,QR]
 generalize hL:m.log2=L at *
 generalize hlast:max ((i:Int)-c+L-(52:Nat)) (-1074)=last
 obtain⟨d,hd⟩:∃d:Nat,last=(d:Int)-1074:=⟨(last+1074).toNat,by omega⟩
 subst hd
 have hdn:(((d:Int)-1074) - -1074).toNat=d:=by omega
 rw[hdn,JR,V4]
 generalize hup:((i:Int)-c-(d-1074)).toNat=up
 generalize hdrop:(((d:Int)-1074)-(i-c)).toNat=drop
 have key:Toward.even.cut s (m <<< up) drop≤2^53∧(d=0∨2^52≤Toward.even.cut s (m <<< up) drop)∧Toward.even.cut s (m <<< up) drop*2^d≤b*2^t:=by
  by_cases hx:drop=0
  ·subst hx
   rw[jb9,Nat.shiftLeft_eq]
   have eu:up+d+c=i+1074:=by omega
   have ul:up+L≤52:=by omega
   refine⟨?_,?_,?_⟩
   ·have a:m*2^up≤2^(L+1)*2^up:=Nat.mul_le_mul_right _ (by omega)
    rw[←Nat.pow_add] at a
    exact Nat.le_trans a (Nat.pow_le_pow_right (by omega) (by omega))
   ·rcases Nat.eq_zero_or_pos d with h0|h0
    ·exact .inl h0
    ·right
     have:up+L=52:=by omega
     have a:2^L*2^up≤m*2^up:=Nat.mul_le_mul_right _ l1
     rw[←Nat.pow_add,Nat.add_comm,this] at a
     exact a
   ·rw[←eu,Nat.pow_add,Nat.pow_add,←Nat.mul_assoc,←Nat.mul_assoc] at hv
    exact Nat.le_of_mul_le_mul_right hv (Nat.two_pow_pos c)
  ·have hu0:up=0:=by omega
   subst hu0
   rw[Nat.shiftLeft_zero]
   have ed:drop+(i+1074)=d+c:=by omega
   have dl:L≤drop+52:=by omega
   refine⟨?_,?_,?_⟩
   ·apply VC .even
    rw[←Nat.pow_add]
    exact Nat.le_trans (Nat.le_of_lt l2) (Nat.pow_le_pow_right (by omega) (by omega))
   ·rcases Nat.eq_zero_or_pos d with h0|h0
    ·exact .inl h0
    ·right
     have e:L=drop+52:=by omega
     refine Nat.le_trans ?_ (jfJ s m drop (by omega))
     rw[Nat.le_div_iff_mul_le (Nat.two_pow_pos _),←Nat.pow_add,Nat.add_comm,←e]
     exact l1
   ·have td:d≤t:=by
     rcases Nat.eq_zero_or_pos d with h0|h0
     ·omega
     ·have e:L=drop+52:=by omega
      have a:2^(52+(d+c))≤2^(52+(t+c)):=by
       calc 2^(52+(d+c))=2^L*2^(i+1074):=by rw[←Nat.pow_add];congr 1;omega
        _≤m*2^(i+1074):=Nat.mul_le_mul_right _ l1
        _≤b*2^t*2^c:=hv
        _≤2^52*2^t*2^c:=Nat.mul_le_mul_right _ (Nat.mul_le_mul_right _ hb)
        _=2^(52+(t+c)):=by rw[←Nat.pow_add,←Nat.pow_add];congr 1;omega
      have:=(Nat.pow_le_pow_iff_right (a:=2) (by omega)).1 a
      omega
    have le:Toward.even.cut s m drop≤b*2^(t-d):=by
     apply VC .even
     have a:m*2^(i+1074)≤b*2^(t-d)*2^drop*2^(i+1074):=by
      rw[Nat.mul_assoc,←Nat.pow_add,ed,Nat.mul_assoc,←Nat.pow_add]
      rw[Nat.mul_assoc,←Nat.pow_add] at hv
      have:t-d+(d+c)=t+c:=by omega
      rw[this]
      exact hv
     exact Nat.le_of_mul_le_mul_right a (Nat.two_pow_pos _)
    calc _≤b*2^(t-d)*2^d:=Nat.mul_le_mul_right _ le
     _=b*2^t:=by rw[Nat.mul_assoc,←Nat.pow_add];congr 2;omega
 generalize Toward.even.cut s (m <<< up) drop=k at key
 obtain⟨k1,k2,k3⟩:=key
 have dd:d≤2040:=by
  rcases k2 with h|h
  ·omega
  ·have a:2^(52+d)≤2^(52+t):=by
    rw[Nat.pow_add,Nat.pow_add]
    exact Nat.le_trans (Nat.mul_le_mul_right _ h) (Nat.le_trans k3 (Nat.mul_le_mul_right _ hb))
   have:=(Nat.pow_le_pow_iff_right (a:=2) (by omega)).1 a
   omega
 rw[Nat.min_eq_left (by omega)]
 obtain⟨m',p,e1,e2⟩:=Zb s d k dd k1 k2
 exact⟨m',p,e1,by rw[e2];exact k3,fun h=>absurd h hm⟩
def Lb (B x:Nat):Prop:=∃(s:Bool) (m p:Nat),Ieee.double.read x = .number s m ((p:Int)-1074)∧m*2^p≤B
def Nn (x:Nat):Prop:=∃(s:Bool) (m:Nat) (q:Int),Ieee.double.read x = .number s m q∧(s=false∨m=0)
def Gb (B x:Nat):Prop:=∃(s:Bool) (m p:Nat),Ieee.double.read x = .number s m ((p:Int)-1074)∧0<m∧B≤m*2^p
theorem Lb.mono {A B x:Nat} (h:Lb A x) (hAB:A≤B):Lb B x:=by
 obtain⟨s,m,p,e,l⟩:=h
 exact⟨s,m,p,e,Nat.le_trans l hAB⟩
def lbOf (B x:Nat):Bool:=match Ieee.double.read x with
 | .number _ m q=>decide (-1074≤q)&&decide (m*2^(q+1074).toNat≤B)
 | _=>false
theorem qc {B x:Nat} (h:lbOf B x=true):Lb B x:=by
 unfold lbOf at h
 split at h
 ·rename_i s m q e
  simp only[Bool.and_eq_true,decide_eq_true_eq] at h
  refine⟨s,m,(q+1074).toNat,?_,h.2⟩
  rw[e]
  congr 1
  omega
 ·cases h
def gbOf (B x:Nat):Bool:=match Ieee.double.read x with
 | .number _ m q=>decide (-1074≤q)&&decide (0<m)&&decide (B≤m*2^(q+1074).toNat)
 | _=>false
theorem ja4 {B x:Nat} (h:gbOf B x=true):Gb B x:=by
 unfold gbOf at h
 split at h
 ·rename_i s m q e
  simp only[Bool.and_eq_true,decide_eq_true_eq] at h
  refine⟨s,m,(q+1074).toNat,?_,h.1.2,h.2⟩
  rw[e]
  congr 1
  omega
 ·cases h
def nnOf (x:Nat):Bool:=match Ieee.double.read x with
 | .number s m _=>!s||m==0
 | _=>false
theorem Jk {x:Nat} (h:nnOf x=true):Nn x:=by
 unfold nnOf at h
 split at h
 ·rename_i s m q e
  refine⟨s,m,q,e,?_⟩
  cases s
  ·exact .inl rfl
  ·exact .inr (by simpa using h)
 ·cases h
section
variable {A B b t x y:Nat}
theorem jV (hx:Lb A x) (hy:Lb B y) (hb:b≤2^52) (ht:t≤1900) (h:A*B≤b*2^t*2^1074):∃r,floatBits .mul .f64 x y=some r∧Lb (b*2^t) r∧(Nn x→Nn y→Nn r):=by
 obtain⟨s,m,p,e1,l1⟩:=hx
 obtain⟨u,n,q,e2,l2⟩:=hy
 have hv:m*n*2^(p+q+1074)≤b*2^t*2^2148:=by
  calc m*n*2^(p+q+1074)=(m*2^p)*(n*2^q)*2^1074:=by rw[Nat.pow_add,Nat.pow_add];simp only[Nat.mul_assoc,Nat.mul_left_comm]
   _≤A*B*2^1074:=Nat.mul_le_mul_right _ (Nat.mul_le_mul l1 l2)
   _≤b*2^t*2^1074*2^1074:=Nat.mul_le_mul_right _ h
   _=b*2^t*2^2148:=by rw[Nat.mul_assoc,k9 1074 1074 2148 rfl]
 obtain⟨m',p',e3,l3,z3⟩:=yT (s ^^ u) (m*n) (p+q) 2148 b t hb ht hv
 refine⟨_,?_,⟨_,m',p',e3,l3⟩,?_⟩
 ·show Ieee.double.mul x y=_
  unfold Format.mul
  rw[e1,e2]
  show some (Ieee.double.nearest (s ^^ u) (m*n) ((p:Int)-1074+((q:Int)-1074)))=_
  have:(p:Int)-1074+((q:Int)-1074)=((p+q:Nat):Int)-(2148:Nat):=by omega
  rw[this]
 ·intro hx hy
  obtain⟨s',m1,q1,f1,g1⟩:=hx
  obtain⟨u',n1,q2,f2,g2⟩:=hy
  rw[e1] at f1;rw[e2] at f2
  cases f1;cases f2
  refine⟨_,m',_,e3,?_⟩
  rcases g1 with g1|g1
  ·rcases g2 with g2|g2
   ·left;rw[g1,g2];rfl
   ·right;apply z3;rw[g2];rfl
  ·right;apply z3;rw[g1];simp
theorem jdh (s u:Bool) (m n p q:Nat) (hb:b≤2^52) (ht:t≤1900) (h:m*2^p+n*2^q≤b*2^t):∃d r,Datum.sum (.number s m ((p:Int)-1074)) (.number u n ((q:Int)-1074))=some d∧Ieee.double.write d=r∧Lb (b*2^t) r:=by
 have hmin:min ((p:Int)-1074) ((q:Int)-1074)=((min p q:Nat):Int)-(1074:Nat):=by omega
 refine⟨_,_,rfl,rfl,?_⟩
 rw[hmin]
 have e1:((p:Int)-1074-(((min p q:Nat):Int)-(1074:Nat))).toNat=p-min p q:=by omega
 have e2:((q:Int)-1074-(((min p q:Nat):Int)-(1074:Nat))).toNat=q-min p q:=by omega
 rw[e1,e2]
 have ab:(signed s m (p-min p q)+signed u n (q-min p q)).natAbs≤m*2^(p-min p q)+n*2^(q-min p q):=by
  unfold signed
  rw[Nat.shiftLeft_eq,Nat.shiftLeft_eq]
  generalize m*2^(p-min p q)=a
  generalize n*2^(q-min p q)=c
  cases s<;>cases u<;>simp<;>omega
 generalize (signed s m (p-min p q)+signed u n (q-min p q))=T at ab
 have hv:T.natAbs*2^(min p q+1074)≤b*2^t*2^1074:=by
  calc T.natAbs*2^(min p q+1074)≤(m*2^(p-min p q)+n*2^(q-min p q))*2^(min p q+1074):=Nat.mul_le_mul_right _ ab
   _=(m*2^p+n*2^q)*2^1074:=by
    rw[Nat.pow_add,←Nat.mul_assoc,Nat.add_mul,Nat.mul_assoc m,←Nat.pow_add,Nat.mul_assoc n,←Nat.pow_add]
    congr 3<;>congr 1<;>omega
   _≤b*2^t*2^1074:=Nat.mul_le_mul_right _ h
 obtain⟨m',p',e3,l3,_⟩:=yT (if T=0 then s&&u else decide (T<0)) T.natAbs (min p q) 1074 b t hb ht hv
 exact⟨_,m',p',e3,l3⟩
theorem qt (hx:Lb A x) (hy:Lb B y) (hb:b≤2^52) (ht:t≤1900) (h:A+B≤b*2^t):∃r,floatBits .add .f64 x y=some r∧Lb (b*2^t) r:=by
 obtain⟨s,m,p,e1,l1⟩:=hx
 obtain⟨u,n,q,e2,l2⟩:=hy
 obtain⟨d,r,f1,f2,f3⟩:=jdh s u m n p q hb ht (by omega)
 refine⟨r,?_,f3⟩
 show Ieee.double.add x y=_
 unfold Format.add
 rw[e1,e2,f1,←f2]
 rfl
theorem J6 (hx:Lb A x) (hy:Lb B y) (hb:b≤2^52) (ht:t≤1900) (h:A+B≤b*2^t):∃r,floatBits .sub .f64 x y=some r∧Lb (b*2^t) r:=by
 obtain⟨s,m,p,e1,l1⟩:=hx
 obtain⟨u,n,q,e2,l2⟩:=hy
 obtain⟨d,r,f1,f2,f3⟩:=jdh s (!u) m n p q hb ht (by omega)
 refine⟨r,?_,f3⟩
 show Ieee.double.sub x y=_
 unfold Format.sub
 rw[e1,e2]
 show((Datum.sum _ (.number (!u) n ((q:Int)-1074))).map _)=_
 rw[f1,←f2]
 rfl
theorem zy (n:Int) (hb:b≤2^52) (ht:t≤1900) (h:n.natAbs*2^1074≤b*2^t):Lb (b*2^t) (floatOfInt .f64 n)∧(0≤n→Nn (floatOfInt .f64 n)):=by
 obtain⟨m',p',e3,l3,z3⟩:=yT (decide (n<0)) n.natAbs 0 0 b t hb ht (by rw[Nat.zero_add,Nat.pow_zero,Nat.mul_one];exact h)
 refine⟨⟨_,m',p',e3,l3⟩,fun h0=>⟨_,m',_,e3,.inl (by simp;omega)⟩⟩
theorem Ju (n:Int) (b:Nat) (hb:b≤2^52) (h:n.natAbs≤b):Lb (b*2^1074) (floatOfInt .f64 n)∧(0≤n→Nn (floatOfInt .f64 n)):=by
 have g:n.natAbs*2^1074≤b*2^1074:=Nat.mul_le_mul_right _ h
 have h2:(1074:Nat)≤1900:=by decide
 have k:=zy (t:=1074) n hb h2 g
 exact k
theorem Y0 (hx:Lb A x) (hy:Gb B y) (hb:b≤2^52) (ht:t≤1900) (h:9*A*2^1074≤8*(b*2^t*B)):∃r,floatBits .quo .f64 x y=some r∧Lb (b*2^t) r∧(Nn x→Nn y→Nn r):=by
 obtain⟨s,m,p,e1,l1⟩:=hx
 obtain⟨u,n,q,e2,n0,l2⟩:=hy
 generalize hmore:54+n.log2-m.log2=more
 have hv:(2*((m <<< more)/n)+((m <<< more)%n != 0).toNat)*2^(p+1074)≤b*2^t*2^(q+more+1):=by
  rcases Nat.eq_zero_or_pos m with m0|m0
  ·subst m0;simp
  have a1:=Nat.log2_self_le (show m≠0 by omega)
  have a2:=Nat.lt_log2_self (n:=n)
  rw[Nat.shiftLeft_eq]
  have a3:4*n≤m*2^more:=by
   calc 4*n≤2^2*2^(n.log2+1):=Nat.mul_le_mul_left 4 (Nat.le_of_lt a2)
    _=2^(n.log2+3):=by rw[←Nat.pow_add];congr 1;omega
    _≤2^(m.log2+more):=Nat.pow_le_pow_right (by omega) (by omega)
    _=2^m.log2*2^more:=Nat.pow_add ..
    _≤m*2^more:=Nat.mul_le_mul_right _ a1
  have a4:4≤m*2^more/n:=(Nat.le_div_iff_mul_le n0).2 a3
  have a5:m*2^more/n*n≤m*2^more:=Nat.div_mul_le_self ..
  have a6:=Bool.toNat_le (m*2^more%n != 0)
  generalize (m*2^more%n != 0).toNat=r at a6
  generalize m*2^more/n=Q at a4 a5
  have a7:4*(2*Q+r)≤9*Q:=by omega
  refine Nat.le_of_mul_le_mul_right (c:=4*n) ?_ (by omega)
  calc (2*Q+r)*2^(p+1074)*(4*n)=4*(2*Q+r)*n*2^(p+1074):=by
        simp only[Nat.mul_assoc,Nat.mul_comm,Nat.mul_left_comm]
   _≤9*Q*n*2^(p+1074):=Nat.mul_le_mul_right _ (Nat.mul_le_mul_right _ a7)
   _=9*(Q*n)*2^(p+1074):=by rw[Nat.mul_assoc 9]
   _≤9*(m*2^more)*2^(p+1074):=Nat.mul_le_mul_right _ (Nat.mul_le_mul_left _ a5)
   _=9*(m*2^p)*2^1074*2^more:=by rw[Nat.pow_add];simp only[Nat.mul_assoc,Nat.mul_comm,Nat.mul_left_comm]
   _≤9*A*2^1074*2^more:=Nat.mul_le_mul_right _ (Nat.mul_le_mul_right _ (Nat.mul_le_mul_left _ l1))
   _≤8*(b*2^t*B)*2^more:=Nat.mul_le_mul_right _ h
   _≤8*(b*2^t*(n*2^q))*2^more:=Nat.mul_le_mul_right _ (Nat.mul_le_mul_left _ (Nat.mul_le_mul_left _ l2))
   _=b*2^t*2^(q+more+1)*(4*n):=by
    rw[Nat.pow_succ,Nat.pow_add]
    have:8=2*4:=rfl
    rw[this]
    simp only[Nat.mul_assoc,Nat.mul_comm,Nat.mul_left_comm]
 obtain⟨m',p',e3,l3,z3⟩:=yT (s ^^ u) _ p (q+more+1) b t hb ht hv
 refine⟨_,?_,⟨_,m',p',e3,l3⟩,?_⟩
 ·show Ieee.double.div x y=_
  unfold Format.div
  rw[e1,e2]
  have nn:n≠0:=by omega
  show((Datum.quotient (52+2) _ _).map _)=_
  unfold Datum.quotient
  dsimp only
  rw[if_neg nn,hmore]
  show some (Ieee.double.nearest (s ^^ u) (2*((m <<< more)/n)+((m <<< more)%n != 0).toNat) ((p:Int)-1074-((q:Int)-1074)-more-1))=_
  have:(p:Int)-1074-((q:Int)-1074)-more-1=(p:Int)-((q+more+1:Nat):Int):=by omega
  rw[this]
 ·intro hx hy
  obtain⟨s',m1,q1,f1,g1⟩:=hx
  obtain⟨u',n1,q2,f2,g2⟩:=hy
  rw[e1] at f1;rw[e2] at f2
  cases f1;cases f2
  refine⟨_,m',_,e3,?_⟩
  rcases g1 with g1|g1
  ·rcases g2 with g2|g2
   ·left;rw[g1,g2];rfl
   ·omega
  ·right;apply z3;rw[g1];simp
def rdw (neg:Bool) (rung:Nat):Datum :=
 if rung<2^52 then .number neg rung (-1074)
 else if rung<2047*2^52 then .number neg (2^52+rung%2^52) (-1074+(rung/2^52-1:Nat))
 else if rung=2047*2^52 then .infinity neg
 else .nan neg (rung-2047*2^52)
theorem JQ (x:Nat):Ieee.double.read x=rdw (x/2^63%2==1) (x%2^63):=rfl
theorem jeS (n:Bool) (r:Nat):(rdw n r).opposite=rdw (!n) r:=by
 unfold rdw
 by_cases a1:r<2^52
 ·rw[if_pos a1,if_pos a1];rfl
 ·rw[if_neg a1,if_neg a1]
  by_cases a2:r<2047*2^52
  ·rw[if_pos a2,if_pos a2];rfl
  ·rw[if_neg a2,if_neg a2]
   by_cases a3:r=2047*2^52
   ·rw[if_pos a3,if_pos a3];rfl
   ·rw[if_neg a3,if_neg a3];rfl
theorem jdg (x:Nat):Ieee.double.read (Op.negFloat .f64 x)=(Ieee.double.read x).opposite:=by
 have e0:Op.negFloat .f64 x=x ^^^ 2^63:=rfl
 have e1:(x ^^^ 2^63)%2^63=x%2^63:=by
  apply Nat.eq_of_testBit_eq
  intro i
  rw[Nat.testBit_mod_two_pow,Nat.testBit_mod_two_pow,Nat.testBit_xor,Nat.testBit_two_pow]
  by_cases h:i<63
  ·have:¬63=i:=by omega
   simp[h,this]
  ·simp[h]
 have e2:((x ^^^ 2^63)/2^63%2==1) = !(x/2^63%2==1):=by
  have f:∀y:Nat,(y/2^63%2==1)=y.testBit 63:=fun y=>by
   rw[Nat.testBit_eq_decide_div_mod_eq]
   rfl
  rw[f,f,Nat.testBit_xor,Nat.testBit_two_pow]
  simp
 rw[e0,JQ,JQ,e1,e2,jeS]
theorem Lb.neg (h:Lb B x):Lb B (Op.negFloat .f64 x):=by
 obtain⟨s,m,p,e,l⟩:=h
 exact⟨!s,m,p,by rw[jdg,e];rfl,l⟩
theorem jaQ (a b c:Int) (hc:0<c):compare (a*c) (b*c)=compare a b:=by
 rcases Int.lt_trichotomy a b with h|h|h
 ·rw[Int.compare_eq_lt.2 h,Int.compare_eq_lt.2 (Int.mul_lt_mul_of_pos_right h hc)]
 ·subst h;rw[Int.compare_eq_eq.2 rfl,Int.compare_eq_eq.2 rfl]
 ·rw[Int.compare_eq_gt.2 h,Int.compare_eq_gt.2 (Int.mul_lt_mul_of_pos_right h hc)]
def sv (s:Bool) (k:Nat):Int:=if s then -(k:Int) else k
theorem vR (s:Bool) (m p c:Nat):signed s m p*((2^c:Nat):Int)=sv s (m*2^(p+c)):=by
 unfold signed sv
 rw[Nat.shiftLeft_eq,Nat.pow_add,←Nat.mul_assoc]
 cases s<;>simp[Int.neg_mul]
theorem yE {s u:Bool} {m n p q x y:Nat} (hx:Ieee.double.read x = .number s m ((p:Int)-1074)) (hy:Ieee.double.read y = .number u n ((q:Int)-1074)):Ieee.double.order x y=some (compare (sv s (m*2^p)) (sv u (n*2^q))):=by
 unfold Format.order
 rw[hx,hy]
 unfold Datum.order
 have e1:((p:Int)-1074-min ((p:Int)-1074) ((q:Int)-1074)).toNat=p-min p q:=by omega
 have e2:((q:Int)-1074-min ((p:Int)-1074) ((q:Int)-1074)).toNat=q-min p q:=by omega
 dsimp only
 rw[e1,e2,←jaQ _ _ ((2^min p q:Nat):Int) (by exact_mod_cast Nat.two_pow_pos _),vR,vR]
 have e3:p-min p q+min p q=p:=by omega
 have e4:q-min p q+min p q=q:=by omega
 rw[e3,e4]
theorem KN:Ieee.double.read 0 = .number false 0 (((0:Nat):Int)-1074):=by decide +kernel
theorem YV (h:Lb B x):Ieee.double.order x x=some .eq:=by
 obtain⟨s,m,p,e,l⟩:=h
 rw[yE e e,Int.compare_eq_eq.2 rfl]
theorem jK (h:Lb B x) {n q:Nat} (hy:Ieee.double.read y = .number false n ((q:Int)-1074)) (hB:B<n*2^q):Ieee.double.order x y=some .lt:=by
 obtain⟨s,m,p,e,l⟩:=h
 rw[yE e hy,Int.compare_eq_lt.2]
 unfold sv
 generalize m*2^p=k at l
 generalize n*2^q=j at hB
 cases s<;>simp<;>omega
theorem Xb {C:Nat} (h:Lb B x) (way:Toward) (hB:B≤C*2^1074):∃s k,Datum.integral way (Ieee.double.read x) = .number s k 0∧k≤C∧(Nn x→s=false∨k=0):=by
 obtain⟨s,m,p,e,l⟩:=h
 rw[e]
 refine⟨s,_,rfl,?_,?_⟩
 ·apply VC
  rw[Nat.shiftLeft_eq]
  rcases Nat.lt_or_ge p 1074 with h|h
  ·have e1:((p:Int)-1074).toNat=0:=by omega
   have e2:(-((p:Int)-1074)).toNat=1074-p:=by omega
   rw[e1,e2]
   have a:m*2^p≤C*2^(1074-p)*2^p:=by
    rw[Nat.mul_assoc,←Nat.pow_add]
    have:1074-p+p=1074:=by omega
    rw[this]
    omega
   have:=Nat.le_of_mul_le_mul_right a (Nat.two_pow_pos _)
   omega
  ·have e1:((p:Int)-1074).toNat=p-1074:=by omega
   have e2:(-((p:Int)-1074)).toNat=0:=by omega
   rw[e1,e2]
   have a:m*2^(p-1074)*2^1074≤C*2^0*2^1074:=by
    rw[Nat.mul_assoc,k9 (p-1074) 1074 p (by omega)]
    omega
   exact Nat.le_of_mul_le_mul_right (c:=2^1074) a (Nat.two_pow_pos 1074)
 ·intro hn
  obtain⟨s1,m1,q1,f1,g1⟩:=hn
  rw[e] at f1
  cases f1
  rcases g1 with g|g
  ·exact .inl g
  ·right
   subst g
   unfold Toward.cut
   cases way<;>simp
end
end
end Go.Proofs.YtkkjaaognefeiaaGreatDoor
