/- PlainFrac, Frac1, Moon1, Slice1, Slice2 -/
import Derived.Lib.SliceRun
import Derived.Lib.AppendZerosOnto
import Derived.Deep.AppendSrc
import Derived.Test.YtkkjaaognefeiaaGreatDoorGName1
set_option maxRecDepth 100000
set_option maxHeartbeats 16000000
set_option linter.unusedVariables false
set_option linter.unusedSimpArgs false
namespace Go.Proofs.YtkkjaaognefeiaaGreatDoor
section
def fN (n d:Int):Int:=if d<0 then -(n/(Int.gcd n d:Int)) else n/(Int.gcd n d:Int)
def fD (n d:Int):Int:=if d<0 then -(d/(Int.gcd n d:Int)) else d/(Int.gcd n d:Int)
theorem jec (n d:Int) (hd:d≠0):∃(g n' d':Int),1≤g∧g=(Int.gcd n d:Int)∧n=g*n'∧d=g*d'∧Int.gcd n' d'=1∧n/g=n'∧d/g=d':=by
 have hp:0<Int.gcd n d:=Int.gcd_pos_of_ne_zero_right n hd
 have e:=Int.gcd_ediv (Int.gcd_dvd_left n d) (Int.gcd_dvd_right n d)
 rw[Int.natAbs_natCast,Nat.div_self hp] at e
 refine⟨(Int.gcd n d:Int),n/(Int.gcd n d:Int),d/(Int.gcd n d:Int),by omega,rfl,?_,?_,e,rfl,rfl⟩
 ·exact(Int.mul_ediv_cancel' (Int.gcd_dvd_left n d)).symm
 ·exact(Int.mul_ediv_cancel' (Int.gcd_dvd_right n d)).symm
theorem yD (g x:Int) (hg:1≤g) (h:0<g*x):0<x:=by
 rcases Int.lt_trichotomy x 0 with hx|hx|hx
 ·have:=Int.mul_neg_of_pos_of_neg (show 0<g by omega) hx;omega
 ·subst hx;omega
 ·exact hx
theorem Qs (g x:Int) (hg:1≤g):x.natAbs≤(g*x).natAbs:=by
 rw[Int.natAbs_mul]
 exact Nat.le_mul_of_pos_left _ (by omega)
theorem jfQ (n d:Int) (hd:d≠0):1≤fD n d∧(fD n d).natAbs≤d.natAbs∧(fN n d).natAbs≤n.natAbs∧Int.gcd (fN n d) (fD n d)=1∧fN n d*d=n*fD n d:=by
 obtain⟨g,n',d',hg,eg,en,ed,hc,e1,e2⟩:=jec n d hd
 unfold fN fD
 rw[←eg,e1,e2]
 have a1:=Qs g n' hg
 have a2:=Qs g d' hg
 rw[←en] at a1
 rw[←ed] at a2
 have hx:n'*d=n*d':=by rw[en,ed,←Int.mul_assoc,Int.mul_comm n' g]
 by_cases h:d<0
 ·rw[if_pos h,if_pos h]
  have hd':0 < -d':=by apply yD g _ hg;rw[Int.mul_neg];omega
  refine⟨by omega,by omega,by omega,by rw[Int.gcd_neg,Int.neg_gcd];exact hc,by rw[Int.neg_mul,Int.mul_neg,hx]⟩
 ·rw[if_neg h,if_neg h]
  have hd':0<d':=by apply yD g _ hg;omega
  exact⟨by omega,a2,a1,hc,hx⟩
theorem yu (q p x:Int) (hc:Int.gcd p q=1) (h:q∣p*x):q∣x:=by
 have h1:q.natAbs∣p.natAbs*x.natAbs:=by rw[←Int.natAbs_mul];exact Int.natAbs_dvd_natAbs.2 h
 have h2:Nat.Coprime q.natAbs p.natAbs:=by rw[Nat.coprime_comm];exact hc
 exact Int.natAbs_dvd_natAbs.1 (h2.dvd_of_dvd_mul_left h1)
theorem lowest (p q p' q':Int) (hq:1≤q) (hq':1≤q') (hc:Int.gcd p q=1) (hc':Int.gcd p' q'=1) (h:p*q'=p'*q):p=p'∧q=q':=by
 have d1:q∣q':=yu q p q' hc ⟨p',by rw[h,Int.mul_comm]⟩
 have d2:q'∣q:=yu q' p' q hc' ⟨p,by rw[←h,Int.mul_comm]⟩
 have e:q=q':=Int.le_antisymm (Int.le_of_dvd (by omega) d1) (Int.le_of_dvd (by omega) d2)
 subst e
 exact⟨Int.eq_of_mul_eq_mul_right (by omega) h,rfl⟩
structure FIn (n d:Int) (a b:Nat):Prop where
 n1:n.natAbs≤a
 d1:d.natAbs≤b
 pos:1≤d
 low:Int.gcd n d=1
theorem FIn.of (n d:Int) (a b:Nat) (hn:n.natAbs≤a) (hd:d.natAbs≤b) (h0:d≠0):FIn (fN n d) (fD n d) a b:=by
 obtain⟨h1,h2,h3,h4,_⟩:=jfQ n d h0
 exact⟨by omega,by omega,h1,h4⟩
end
section
open Go.RowKit
structure Mo where
 nm:ByteArray
 ep:Int
 sn:Int
 sd:Int
 mn:Int
 md:Int
 ln:Int
 ld:Int
 cy:Int
 lp:List Int
 av:List Int
 A1:Option Addr
 c1:Nat
 A2:Option Addr
 c2:Nat
abbrev Mo.cells (m:Mo):Array Value:=#[.string m.nm,.int .i64 m.ep,.int .i64 m.sn,.int .i64 m.sd,.int .i64 m.mn,.int .i64 m.md,.int .i64 m.ln,.int .i64 m.ld,.int .i64 m.cy,.slice m.A1 m.lp.length m.c1,.slice m.A2 m.av.length m.c2]
def MIn (w:World) (m:Mo):Prop:=Row w w.heap.size m.A1 (jZ m.lp)∧Row w w.heap.size m.A2 (jZ m.av)
theorem MIn.next {w w':World} {m:Mo} (h:MIn w m) (hb:Below w.heap.size w w'):MIn w' m:=⟨h.1.next hb,h.2.next hb⟩
structure MFit (m:Mo):Prop where
 nm:m.nm.size≤maxLen
 lp:m.lp.length≤maxLen
 av:m.av.length≤maxLen
end
section
open Go.Lib Go.RowKit
theorem vT:(Tryz.prog.info? 3).map (fun i=>(i.zero,i.size,i.bytes))=some (some (.int .i64 0),1,8):=by kernel_rfl
theorem Ya {w:World} {b o:Nat} {cs:List Value} (h:∀j v,cs[j]?=some v→w.cell? ⟨b,o+j,none⟩=some v):∀j u,cs[j]?=some u→w.cell? ((⟨b,o,none⟩:Addr).add j)=some u:=fun j u hu=>by
 have:(⟨b,o,none⟩:Addr).add j=⟨b,o+j,none⟩:=by unfold Addr.add;split<;>simp_all
 rw[this];exact h j u hu
theorem jc4 (l:List Int):∀u∈jZ l,u.oneCell'=true:=fun u hu=>by
 obtain⟨x,_,rfl⟩:=List.mem_map.1 hu;rfl
theorem vJ {P:Program} {ops:Array Oper} {rest:List Oper} {o:Oper} {a:Act} {Q:Exit→Act→World→Prop} {w w':World} (hw:Region.wanted o (yielded ops a.tmps)=true) (s x:Operand) (t u:TypeId)
  (ho:o.op = .call {callee:=.builtin .append,args:=#[s,x],argTypes:=#[t,u]}) (v xv v':Value) (hs:a.eval s=v) (hx:a.eval x=xv)
  (hr:(Builtin.append_ #[t,u] o.type #[v,xv]).run P w = .ok v' w') (h:wpList P ops Q rest (a.put o.dst v') w'):wpList P ops Q (o::rest) a w:=by
 refine wpList_step fun K hK=>?_
 rw[if_pos hw]
 unfold Oper.wp execOp
 simp only[ho,resolve,invoke,builtin,Sem.run_bind,Sem.run_pure,Result.andThen_ok,List.map_toArray,List.map_cons,List.map_nil,hs,hx,hr]
 exact hK _ _ h
theorem jG (w:World) (row:Option Nat):w.grownBy w row:=⟨rfl,rfl,rfl,Nat.le_refl _,fun _ _ _=>rfl⟩
theorem Xi {w:World} {base:Nat} {v:Value} {l1 l2:List Int} {A2:Option Addr} {B c2:Nat} (ty:TypeId) (hown:w.ownsRow base 3 1 v l1.length (jZ l1)) (hr:Row w B A2 (jZ l2)) (h1:l1.length≤1000000) (h2:l2.length≤1000000) (hbase:base≤w.heap.size) :
  ∃v' w',(Builtin.append_ #[39,39] ty #[v,.slice A2 l2.length c2]).run Tryz.prog w = .ok v' w'∧w'.ownsRow base 3 1 v' (l1++l2).length (jZ (l1++l2))∧w.grownBy w' v.ownBlock:=by
 obtain⟨i0,hi0,hz0,hz1,hz2⟩:=info_parts vT
 rw[List.length_append,show jZ (l1++l2)=jZ l1++jZ l2 from by simp[jZ]]
 cases A2 with
 | some a =>
  have hn:∀j u,(jZ l2)[j]?=some u→w.cell? (a.add j)=some u:=by
   rcases hr with h|⟨b,o,ha,_,hc⟩
   ·rw[h];intro j u hu;simp at hu
   ·cases ha
    exact Ya hc
  obtain⟨v',w',a1,a2,a3,_⟩:=run_append_own (P:=Tryz.prog) w base 39 ty 3 i0 (.int .i64 0) 1 8 Tryz.underlying39 hi0 hz0 hz1 hz2 rfl (by decide) v l1.length (jZ l1) hown a l2.length c2 (jZ l2) (by rw[kX];omega) hn (jc4 l2) (by simp only[maxLen];omega) (by omega) hbase
  exact⟨v',w',a1,a2,a3⟩
 | none =>
  have h0:l2=[]:=by
   rcases hr with h|⟨b,o,h,_⟩
   ·simpa[jZ] using h
   ·cases h
  subst h0
  refine⟨v,w,?_,by simpa[jZ] using hown,jG _ _⟩
  rcases hown.2 with⟨rfl,h0⟩|⟨g,cap,cur,rfl,hbg,hg,hnc,_⟩
  ·simp[Builtin.append_,run_underlying Tryz.underlying39,sizeOf,typeInfo,hi0,Builtin.lenOf,Builtin.firstCells]
  ·have:=run_append_room_src (P:=Tryz.prog) w 39 39 ty 3 i0 Tryz.underlying39 hi0 g 0 l1.length cap (.slice none 0 c2) 0 [] (Src.ofNil w Tryz.underlying39 c2) (by omega) (fun j hj=>by simp at hj) (fun j hj=>by simp at hj)
   simpa[World.setCells] using this
theorem Yu (A A':Option Addr) (c c':Nat) (l:List Int) (w:World) (hr:Row w w.heap.size A (jZ l)) (hr':Row w w.heap.size A' (jZ l)) (hl:l.length≤maxLen) :
  Calls Tryz.prog 10 #[.slice A l.length c,.slice A' l.length c'] w fun e w'=>e = .returned (.bool true)∧Below w.heap.size w w':=by
 unfold maxLen at hl
 go_enter Tryz.func10,Tryz.ntmps10
 go_wp2_with fail
 go_loopw [5,13] (fun _ i wr=>∃k:Nat,k≤l.length∧i = .int .i64 (k:Int)∧Below w.heap.size w wr) (fun _ i _=>l.length-(intOf i).toNat)
 case atStart=>exact⟨0,by omega,rfl,Below.refl _ _⟩
 case round =>
  obtain⟨k,hk,rfl,hbr⟩:=hrel
  by_cases hlt:k<l.length
  ·obtain⟨b,o,rfl,hb,hcs⟩:=(hr.below hbr).open_ (yO l (by omega))
   obtain⟨b',o',rfl,hb',hcs'⟩:=(hr'.below hbr).open_ (yO l (by omega))
   have h1:=zC hcs k hlt
   have h2:=zC hcs' k hlt
   have k0:(0:Int)≤(k:Int):=by omega
   have k1:(k:Int)<(l.length:Int):=by omega
   clear hcs hcs' hr hr'
   generalize l.getD k 0=y at *
   have t1:(y != y)=false:=by simp
   go_wp2_with fail
   go_quiet (fail)
   go_wp2_with fail
   go_roundw
   case rel=>exact⟨k+1,by omega,by go_num,jd hbr _⟩
   case measure=>simp[intOf];omega
  ·clear hr hr'
   go_wp2_with fail
   go_ret
   exact⟨rfl,hbr⟩
theorem Yi (A:Option Addr) (c:Nat) (l:List Int) (w:World) (hr:Row w w.heap.size A (jZ l)) (hl:l.length≤1000000) :
  Calls Tryz.prog 11 #[.slice A l.length c] w fun e w'=>∃v,e = .returned v∧w'.ownsRow w.heap.size 3 1 v l.length (jZ l)∧Below w.heap.size w w':=by
 have HO:(w.alloc (.cells #[] 3)).ownsRow w.heap.size 3 1 (.slice (some ⟨w.heap.size,0,none⟩) 0 0) ([]:List Int).length (jZ []):=World.ownsRow_made w #[] 0 (Nat.le_refl _) (by unfold maxLen;omega) (by simp)
 obtain⟨v',w',h1,h2,h3⟩:=Xi (c2:=c) 39 HO (hr.alloc _) (by simp) hl (by simp)
 have hB:Below w.heap.size w w':=(ja w _).grown h3 (by simp) (fun k hk=>by simp[Value.ownBlock] at hk;omega)
 have H2:=hD h2
 clear h2 h3 HO hr
 go_enter Tryz.func11,Tryz.ntmps11
 go_wp2_with (at_builtin;refine vJ rfl _ _ _ _ rfl _ _ _ rfl rfl h1 ?_)
 go_ret
 exact⟨v',rfl,H2.out,hB⟩
end
end Go.Proofs.YtkkjaaognefeiaaGreatDoor
