/- Sv2, Sv4, Sv5, Sv6, Sv3, Sv1 -/
import Derived.Test.YtkkjaaognefeiaaGreatDoorGSvMem
import Derived.Test.YtkkjaaognefeiaaGreatDoorGFlowAt
import Derived.Test.YtkkjaaognefeiaaGreatDoorGCat1
set_option maxRecDepth 100000
set_option maxHeartbeats 16000000
set_option linter.unusedVariables false
set_option linter.unusedSimpArgs false
namespace Go.Proofs.YtkkjaaognefeiaaGreatDoor
section
open Go Go.RowKit
attribute [local go_sem] Oper.semAt_some
def BoolsAt (w:World) (g:Nat) (low:Int) (n:Nat) (M:Int→Prop):Prop:=∃cs:Array Value,Box w g 4 cs∧cs.size=n∧∀i,i<n→∃b,cs[i]?=some (.bool b)∧(b=true↔M (low+(i:Int)))
theorem BoolsAt.same {w:World} {g:Nat} {low:Int} {n:Nat} {M M':Int→Prop} (h:BoolsAt w g low n M) (hm:∀d,low≤d→d<low+n→(M d↔M' d)):BoolsAt w g low n M':=by
 obtain⟨cs,h1,h2,h3⟩:=h
 exact⟨cs,h1,h2,fun i hi=>by obtain⟨b,h4,h5⟩:=h3 i hi;exact⟨b,h4,h5.trans (hm _ (by omega) (by omega))⟩⟩
theorem BoolsAt.set_ {w:World} {g:Nat} {low:Int} {n:Nat} {M:Int→Prop} (h:BoolsAt w g low n M) (day:Int) (h1:low≤day) (h2:day<low+n):BoolsAt (w.setCell ⟨g,(day-low).toNat,none⟩ (.bool true)) g low n (fun d=>M d∨d=day):=by
 obtain⟨cs,h3,h4,h5⟩:=h
 refine⟨_,h3.set_ _ _,by simpa using h4,fun i hi=>?_⟩
 by_cases he:(day-low).toNat=i
 ·refine⟨true,?_,fun _=>.inr (by omega),fun _=>rfl⟩
  rw[he,Array.getElem?_setIfInBounds_self_of_lt (by omega)]
 ·obtain⟨b,h6,h7⟩:=h5 i hi
  refine⟨b,by rw[Array.getElem?_setIfInBounds_ne (by omega)];exact h6,h7.trans ⟨.inl,fun h=>h.resolve_right (by omega)⟩⟩
structure SetEnv (w:World) (gl gh go gs:Nat) (low:Int) (n:Nat) (M:Int→Prop):Prop where
 bl:Box w gl 3 #[.int .i64 low]
 bh:Box w gh 3 #[.int .i64 (low+n-1)]
 bo:Box w go 67 #[.slice (some ⟨gs,0,none⟩) n n]
 bs:BoolsAt w gs low n M
 nl:gl≠gs
 nh:gh≠gs
 no:go≠gs
theorem SetEnv.same {w:World} {gl gh go gs:Nat} {low:Int} {n:Nat} {M M':Int→Prop} (h:SetEnv w gl gh go gs low n M) (hm:∀d,low≤d→d<low+n→(M d↔M' d)):SetEnv w gl gh go gs low n M':=⟨h.bl,h.bh,h.bo,h.bs.same hm,h.nl,h.nh,h.no⟩
theorem SetEnv.below {w w':World} {gl gh go gs:Nat} {low:Int} {n:Nat} {M:Int→Prop} (h:SetEnv w gl gh go gs low n M) (hb:Below w.heap.size w w'):SetEnv w' gl gh go gs low n M :=
 ⟨h.bl.below hb,h.bh.below hb,h.bo.below hb,by obtain⟨cs,h1,h2,h3⟩:=h.bs;exact⟨cs,h1.below hb,h2,h3⟩,h.nl,h.nh,h.no⟩
theorem jeu (w:World) (g i:Nat) (v:Value):w.grownBy (w.setCell ⟨g,i,none⟩ v) (some g):=⟨rfl,rfl,rfl,by simp,fun k hk hne=>Below.heap_setCell _ _ _ k (fun e=>hne (by rw[e]))⟩
theorem zk (gl gh go gs:Nat) (low:Int) (n:Nat) (M:Int→Prop) (day:Int) (w:World) (h:SetEnv w gl gh go gs low n M) (h1 : -100000000≤low) (h2:low≤100000000) (h3:n≤100000000) (h4 : -900000000≤day) (h5:day≤900000000) :
  Calls Tryz.prog 41 #[.int .i64 day,.pointer (some ⟨gl,0,none⟩),.pointer (some ⟨gh,0,none⟩),.pointer (some ⟨go,0,none⟩)] w fun e w'=>e = .returned (.tuple #[])∧SetEnv w' gl gh go gs low n (fun d=>M d∨(d=day∧js day))∧w.grownBy w' (some gs):=by
 have HS:=hD h
 have x1:w.cell? ⟨gl,0,none⟩=some (.int .i64 low):=h.bl.cell 0
 have x2:w.cell? ⟨gh,0,none⟩=some (.int .i64 (low+n-1)):=h.bh.cell 0
 have x3:w.cell? ⟨go,0,none⟩=some (.slice (some ⟨gs,0,none⟩) n n):=h.bo.cell 0
 have HD:=hD (fun W=>y6 day W)
 have HN:Hid (¬(low≤day∧day<low+n∧js day)→∀d,low≤d→d<low+n→(M d↔(M d∨(d=day∧js day)))):=fun hn d a b=>⟨.inl,fun h=>h.resolve_right (fun⟨e,f⟩=>hn ⟨by omega,by omega,f⟩)⟩
 clear h
 by_cases c1:low≤day
 case neg =>
  have t1:decide (low≤day)=false:=decide_eq_false c1
  have t1':decide (day<low)=true:=decide_eq_true (by omega)
  go_enter Tryz.func41,Tryz.ntmps41
  go_wp2_with fail
  go_end0
  exact⟨rfl,HS.out.same (HN.out fun h=>by have:=h.1;omega),jG _ _⟩
 have t1:decide (low≤day)=true:=decide_eq_true c1
 by_cases c2:day≤low+n-1
 case neg =>
  have t2:decide (day≤low+n-1)=false:=decide_eq_false c2
  go_enter Tryz.func41,Tryz.ntmps41
  go_wp2_with fail
  go_end0
  exact⟨rfl,HS.out.same (HN.out fun h=>by have:=h.2.1;omega),jG _ _⟩
 have t2:decide (day≤low+n-1)=true:=decide_eq_true c2
 by_cases c3 : -4000000≤day∧day≤4000000
 case neg =>
  rw[decide_eq_false c3] at HD
  go_enter Tryz.func41,Tryz.ntmps41
  go_wp2_with (go_at_call 34;refine(HD.out _).mono ?_;rintro e w' ⟨rfl,rfl⟩)
  go_end0
  exact⟨rfl,HS.out.same (HN.out fun h=>c3 h.2.2),jG _ _⟩
 rw[decide_eq_true c3] at HD
 obtain⟨cs,hcs,hsz,hc⟩:=HS.out.bs
 have HF:∀i,w.frozen? ⟨gs,i,none⟩=false:=fun i=>hcs.free i
 have hgl:=hcs.lt
 have hcell:∃b,w.cell? ⟨gs,(day-low).toNat,none⟩=some (.bool b):=by
  obtain⟨b,h6,_⟩:=hc (day-low).toNat (by omega)
  exact⟨b,(hcs.cell _).trans h6⟩
 obtain⟨b,hb⟩:=hcell
 have HP:=hD (HS.out.bs.set_ day c1 (by omega))
 have HQ:Hid (∀W,SetEnv W gl gh go gs low n (fun d=>M d∨d=day)→SetEnv W gl gh go gs low n (fun d=>M d∨(d=day∧js day))):=fun W h=>h.same fun d _ _=>⟨fun h=>h.imp_right fun e=>⟨e,c3⟩,fun h=>h.imp_right fun e=>e.1⟩
 clear c3 hc hcs HN
 obtain⟨j,hj⟩:∃j:Nat,(j:Int)=day-low:=⟨(day-low).toNat,by omega⟩
 have hjn:j<n:=by omega
 have hje:(day-low).toNat=j:=by omega
 rw[hje] at hb HP
 go_enter Tryz.func41,Tryz.ntmps41
 go_wp2_with (go_at_call 34;refine(HD.out _).mono ?_;rintro e w' ⟨rfl,rfl⟩)
 go_end0
 exact⟨rfl,HQ.out _ ⟨HS.out.bl.far (p:=⟨gs,j,none⟩) HS.out.nl _,HS.out.bh.far (p:=⟨gs,j,none⟩) HS.out.nh _,HS.out.bo.far (p:=⟨gs,j,none⟩) HS.out.no _,HP.out,HS.out.nl,HS.out.nh,HS.out.no⟩,jeu _ _ _ _⟩
end
section
open Go Go.RowKit
attribute [local go_sem] Oper.semAt_some
theorem zD {w:World} {g:Nat} {k a b:Int} {nm:ByteArray} {A:Option Addr} {l c:Nat} (h:Box w g 24 #[.int .i64 k,.int .i64 a,.int .i64 b,.string nm,.slice A l c]) :
  w.cell? ⟨g,0,none⟩=some (.int .i64 k)∧w.cell? ⟨g,1,none⟩=some (.int .i64 a)∧w.cell? ⟨g,2,none⟩=some (.int .i64 b)∧w.cell? ⟨g,3,none⟩=some (.string nm)∧w.cell? ⟨g,4,none⟩=some (.slice A l c):=⟨h.cell 0,h.cell 1,h.cell 2,h.cell 3,h.cell 4⟩
def jD (gl gh go:Nat):Value:=.func (.func 41) #[] #[.pointer (some ⟨gl,0,none⟩),.pointer (some ⟨gh,0,none⟩),.pointer (some ⟨go,0,none⟩)]
theorem YX (gf gm gl gh go gs:Nat) (low:Int) (n:Nat) (M:Int→Prop) (k a b:Int) (nm:ByteArray) (A:Option Addr) (l c:Nat) (mo first len:Int) (w:World) (h:SetEnv w gl gh go gs low n M)
  (hf:Box w gf 24 #[.int .i64 k,.int .i64 a,.int .i64 b,.string nm,.slice A l c]) (hm:Box w gm 97 #[jD gl gh go]) (h1 : -100000000≤low) (h2:low≤100000000) (h3:n≤100000000) (h4 : -800000000≤first) (h5:first≤800000000) (h6:len≤400) (h7:1≤b) :
  Calls Tryz.prog 43 #[.int .i64 mo,.int .i64 first,.int .i64 len,.pointer (some ⟨gf,0,none⟩),.pointer (some ⟨gm,0,none⟩)] w fun e w'=>e = .returned (.tuple #[])∧SetEnv w' gl gh go gs low n (fun d=>M d∨(mo=a∧b≤len∧d=first+b-1∧js d))∧w.grownBy w' (some gs):=by
 have HS:=hD h
 obtain⟨x0,x1,x2,_,_⟩:=zD hf
 have y0:w.cell? ⟨gm,0,none⟩=some (jD gl gh go):=hm.cell 0
 unfold jD at y0
 by_cases c1:mo=a
 case neg =>
  have t1:(mo==a)=false:=by rw[beq_eq_false_iff_ne];exact c1
  have HN:=hD (h.same (M':=fun d=>M d∨(mo=a∧b≤len∧d=first+b-1∧js d)) fun d _ _=>⟨.inl,fun h=>h.resolve_right fun h=>c1 h.1⟩)
  clear c1 h
  go_enter Tryz.func43,Tryz.ntmps43
  go_wp2_with fail
  go_end0
  exact⟨rfl,HN.out,jG _ _⟩
 have t1:(mo==a)=true:=by rw[beq_iff_eq];exact c1
 by_cases c2:b≤len
 case neg =>
  have t2:decide (b≤len)=false:=decide_eq_false c2
  have HN:=hD (h.same (M':=fun d=>M d∨(mo=a∧b≤len∧d=first+b-1∧js d)) fun d _ _=>⟨.inl,fun h=>h.resolve_right fun h=>c2 h.2.1⟩)
  clear c1 h
  go_enter Tryz.func43,Tryz.ntmps43
  go_wp2_with fail
  go_end0
  exact⟨rfl,HN.out,jG _ _⟩
 have t2:decide (b≤len)=true:=decide_eq_true c2
 have HM:=hD (zk gl gh go gs low n M (first+b-1) w h h1 h2 h3 (by omega) (by omega))
 have HN:Hid (∀W,SetEnv W gl gh go gs low n (fun d=>M d∨(d=first+b-1∧js (first+b-1)))→SetEnv W gl gh go gs low n (fun d=>M d∨(mo=a∧b≤len∧d=first+b-1∧js d))):=fun W h=>h.same fun d _ _=>⟨fun h=>h.imp_right fun e=>⟨c1,c2,e.1,by rw[e.1];exact e.2⟩,fun h=>h.imp_right fun e=>⟨e.2.2.1,by rw[←e.2.2.1];exact e.2.2.2⟩⟩
 have ew1:IntKind.i64.wrap (first+b)=first+b:=ji _ (by omega) (by omega)
 have ew2:IntKind.i64.wrap (first+b-1)=first+b-1:=ji _ (by omega) (by omega)
 clear c1 h
 go_enter Tryz.func43,Tryz.ntmps43
 go_wp2_with fail
 refine HM.out.mono ?_
 rintro e w1 ⟨rfl,hs,hg⟩
 have HG:=hD hg
 have HS1:=hD (HN.out _ hs)
 clear hs hg HM HN HS x0 x1 x2 y0
 go_wp2_with fail
 go_end0
 exact⟨rfl,HS1.out,HG.out⟩
theorem VB (gf gm gl gh go gs:Nat) (low:Int) (n:Nat) (M:Int→Prop) (k a b:Int) (nm:ByteArray) (A:Option Addr) (l c:Nat) (mo first len:Int) (w:World) (h:SetEnv w gl gh go gs low n M)
  (hf:Box w gf 24 #[.int .i64 k,.int .i64 a,.int .i64 b,.string nm,.slice A l c]) (hm:Box w gm 97 #[jD gl gh go]) (nf:gf≠gs) (nm':gm≠gs) (h1 : -100000000≤low) (h2:low≤100000000) (h3:n≤100000000) (h4 : -800000000≤first) (h5:first≤800000000) (h6:len≤400) (h7:0≤len) :
  Calls Tryz.prog 44 #[.int .i64 mo,.int .i64 first,.int .i64 len,.pointer (some ⟨gf,0,none⟩),.pointer (some ⟨gm,0,none⟩)] w fun e w'=>e = .returned (.tuple #[])∧SetEnv w' gl gh go gs low n (fun d=>M d∨(mo=a∧first≤d∧d<first+len∧js d))∧w.grownBy w' (some gs):=by
 have HS:=hD h
 have HF:=hD hf
 have HMb:=hD hm
 have HM:=hD (fun M day W (h:SetEnv W gl gh go gs low n M) (a : -900000000≤day) (b:day≤900000000)=>zk gl gh go gs low n M day W h h1 h2 h3 a b)
 obtain⟨x0,x1,x2,_,_⟩:=zD hf
 by_cases c1:mo=a
 case neg =>
  have t1:(mo==a)=false:=by rw[beq_eq_false_iff_ne];exact c1
  have HN:=hD (h.same (M':=fun d=>M d∨(mo=a∧first≤d∧d<first+len∧js d)) fun d _ _=>⟨.inl,fun h=>h.resolve_right fun h=>c1 h.1⟩)
  clear c1 h
  go_enter Tryz.func44,Tryz.ntmps44
  go_wp2_with fail
  go_loopw [8] (fun i wr=>i = .int .i64 0∧wr=w) (fun _ _=>0)
  case atStart=>exact⟨rfl,rfl⟩
  case round =>
   obtain⟨rfl,rfl⟩:=hrel
   by_cases c3:0<len
   ·have t3:decide (0<len)=true:=decide_eq_true c3
    go_wp2_with fail
    go_end0
    exact⟨rfl,HN.out,jG _ _⟩
   ·have t3:decide (0<len)=false:=decide_eq_false c3
    go_wp2_with fail
    go_end0
    exact⟨rfl,HN.out,jG _ _⟩
 have t1:(mo==a)=true:=by rw[beq_iff_eq];exact c1
 have HC:=hD c1
 clear c1 h hf hm x0 x1 x2
 go_enter Tryz.func44,Tryz.ntmps44
 go_wp2_with fail
 go_loopw [8] (fun i wr=>∃j:Nat,(j:Int)≤len∧i = .int .i64 (j:Int)∧Hid (SetEnv wr gl gh go gs low n (fun d=>M d∨(first≤d∧d<first+j∧js d)))∧Hid (w.grownBy wr (some gs))) (fun i _=>(len-intOf i).toNat)
 case atStart=>exact⟨0,by omega,rfl,HS.out.same fun d _ _=>⟨.inl,fun h=>h.resolve_right fun h=>by omega⟩,jG _ _⟩
 case round =>
  obtain⟨j,hj,rfl,hs,hg⟩:=hrel
  have HF1:=hD (HF.out.grown hg.out (fun e=>nf (by simpa using e)))
  have HM1:=hD (HMb.out.grown hg.out (fun e=>nm' (by simpa using e)))
  obtain⟨x0,x1,x2,_,_⟩:=zD HF1.out
  by_cases c3:(j:Int)<len
  ·have t3:decide ((j:Int)<len)=true:=decide_eq_true c3
   have y0:wr.cell? ⟨gm,0,none⟩=some (jD gl gh go):=HM1.out.cell 0
   unfold jD at y0
   have ew1:IntKind.i64.wrap (first+(j:Int))=first+(j:Int):=ji _ (by omega) (by omega)
   have HMk:=hD (HM.out _ (first+(j:Int)) wr hs.out (by omega) (by omega))
   clear hs
   go_wp2_with fail
   refine HMk.out.mono ?_
   rintro e w1 ⟨rfl,hs1,hg1⟩
   have HG1:=hD (World.grownBy.trans hg.out hg1)
   have HS1:=hD (hs1.same (M':=fun d=>M d∨(first≤d∧d<first+((j+1:Nat):Int)∧js d)) fun d _ _=>⟨fun h=>by
    rcases h with(h|h)|h
    ·exact .inl h
    ·exact .inr ⟨h.1,by omega,h.2.2⟩
    ·exact .inr ⟨by omega,by omega,by rw[h.1];exact h.2⟩,fun h=>by
    rcases h with h|h
    ·exact .inl (.inl h)
    ·by_cases e:d=first+(j:Int)
     ·exact .inr ⟨e,by rw[←e];exact h.2.2⟩
     ·exact .inl (.inr ⟨h.1,by omega,h.2.2⟩)⟩)
   clear hs1 hg1 HMk x0 x1 x2 y0
   go_wp2_with fail
   go_roundw
   case rel=>exact⟨j+1,by omega,by go_num,HS1,HG1⟩
   case measure=>simp[intOf];omega
  ·have t3:decide ((j:Int)<len)=false:=decide_eq_false c3
   have HN:=hD (hs.out.same (M':=fun d=>M d∨(mo=a∧first≤d∧d<first+len∧js d)) fun d _ _=>⟨fun h=>h.imp_right fun h=>⟨HC.out,h.1,by omega,h.2.2⟩,fun h=>h.imp_right fun h=>⟨h.2.1,by omega,h.2.2.2⟩⟩)
   go_wp2_with fail
   go_end0
   exact⟨rfl,HN.out,hg.out⟩
end
section
open Go Go.RowKit
attribute [local go_sem] Oper.semAt_some
def NthQ (l:List Bool) (a:Int) (w:World) (e:Ending) (w':World):Prop:=∃(d:Nat) (is:Bool),e = .returned (.tuple #[.int .i64 (d:Int),.bool is])∧(is=true→NthB l a d)∧(is=false→∀m,¬NthB l a m)∧(is=false→d=0)∧w'=w
theorem NthQ.no {l:List Bool} {a:Int} {w:World} (h:∀m,¬NthB l a m):NthQ l a w (.returned (.tuple #[.int .i64 0,.bool false])) w:=⟨0,false,rfl,fun h=>(by cases h),fun _=>h,fun _=>rfl,rfl⟩
theorem NthQ.yes {l:List Bool} {a:Int} {w:World} {d:Nat} (h:NthB l a d):NthQ l a w (.returned (.tuple #[.int .i64 (d:Int),.bool true])) w:=⟨d,true,rfl,fun _=>h,fun h=>(by cases h),fun h=>(by cases h),rfl⟩
theorem Qw (l:List Bool) (d:Nat) (h:l[d]?=some true):(l.take d).count true+1≤l.count true:=by
 have e:=List.take_append_drop d l
 have hd:l.drop d=true::l.drop (d+1):=by
  obtain⟨h1,h2⟩:=List.getElem?_eq_some_iff.1 h
  rw[List.drop_eq_getElem_cons h1,h2]
 have:=congrArg (List.count true) e
 rw[List.count_append,hd,List.count_cons_self] at this
 omega
theorem vi (l:List Bool) (d:Nat):(l.drop d).count true≤l.count true:=by
 have:=congrArg (List.count true) (List.take_append_drop d l)
 rw[List.count_append] at this
 omega
theorem Jq (l:List Bool) (i:Nat) (x:Bool) (h:l[i]?=some x):(l.take (i+1)).count true=(l.take i).count true+(if x=true then 1 else 0):=by
 rw[List.take_add_one,h,List.count_append]
 cases x<;>simp
theorem Jp (l:List Bool) (m:Nat) (x:Bool) (h:l[m]?=some x):(l.drop m).count true=(l.drop (m+1)).count true+(if x=true then 1 else 0):=by
 obtain⟨h1,h2⟩:=List.getElem?_eq_some_iff.1 h
 rw[List.drop_eq_getElem_cons h1,h2,List.count_cons]
 cases x<;>simp
theorem jbt (b o:Nat) (l:List Bool) (cp:Nat) (a:Int) (ha:0<a) (ha2:a≤1000) (hl:l.length≤100000) (w:World) (hc:∀i x,l[i]?=some x→w.cell? ⟨b,o+i,none⟩=some (.bool x)) :
  Calls Tryz.prog 47 #[.slice (some ⟨b,o,none⟩) l.length cp,.int .i64 a] w (NthQ l a w):=by
 have HC:=hD hc
 clear hc
 go_enter Tryz.func47,Tryz.ntmps47
 go_wp2_with fail
 go_loopw [1,6,7,10] (fun s1 _ _ s10 wr=>∃i:Nat,i≤l.length∧s10 = .int .i64 (i:Int)∧s1 = .int .i64 (a-((l.take i).count true:Int))∧((l.take i).count true:Int)<a∧wr=w) (fun _ _ _ i _=>l.length-(intOf i).toNat)
 case atStart=>exact⟨0,by omega,rfl,by simp,by simpa using ha,rfl⟩
 case round =>
  obtain⟨i,hi,rfl,rfl,hlt,rfl⟩:=hrel
  by_cases hil:i<l.length
  case neg =>
   have hil2:i=l.length:=by omega
   have t1:decide ((i:Int)<(l.length:Int))=false:=decide_eq_false (by omega)
   have HN:Hid (∀m,¬NthB l a m):=fun m hm=>by
    have h1:=Qw l m hm.1
    have h2:=hm.2.2.1 ha
    rw[hil2,List.take_length] at hlt
    omega
   clear hil2
   go_wp2_with fail
   go_ret2
   exact NthQ.no HN.out
  obtain⟨x,hx⟩:∃x,l[i]?=some x:=⟨_,List.getElem?_eq_getElem hil⟩
  have hcell:=HC.out i x hx
  have hs:=Jq l i x hx
  have hile:((l.take i).count true)≤l.count true:=by
   have:=congrArg (List.count true) (List.take_append_drop i l)
   rw[List.count_append] at this
   omega
  have hcl:l.count true≤l.length:=List.count_le_length
  have HX:=hD hx
  obtain⟨q,hq⟩:∃q:Int,q=a-((l.take i).count true:Int):=⟨_,rfl⟩
  have hq0:0<q:=by omega
  have hq1:q≤1000:=by omega
  have t1:decide ((i:Int)<(l.length:Int))=true:=decide_eq_true (by omega)
  have t2:decide (q<0)=false:=decide_eq_false (by omega)
  have t3:decide (0<q)=true:=decide_eq_true hq0
  have HQ:=hD hq
  have HL:=hD hlt
  have HS:=hD hs
  rw[←hq]
  clear hq hlt hs hx hile hcl
  cases x with
  | false =>
   go_wp2_with fail
   go_roundw
   case rel=>exact⟨i+1,by omega,by go_num,by rw[HS.out,HQ.out];simp,by rw[HS.out];have:=HL.out;simpa using this,trivial⟩
   case measure=>simp[intOf];omega
  | true =>
   have ew:IntKind.i64.wrap (q-1)=q-1:=ji _ (by omega) (by omega)
   by_cases hq1:q=1
   ·have t4:(q-1==0)=true:=by rw[beq_iff_eq];omega
    have HN:Hid (NthB l a i):=⟨HX.out,by omega,fun _=>by have:=HQ.out;omega,fun h=>by omega⟩
    have H1:=hD hq1
    clear hq1
    go_wp2_with fail
    go_ret2
    exact NthQ.yes HN.out
   ·have t4:(q-1==0)=false:=by rw[beq_eq_false_iff_ne];omega
    have hq2:1<q:=by omega
    clear hq1
    go_wp2_with fail
    go_roundw
    case rel=>exact⟨i+1,by omega,by go_num,by rw[HS.out,HQ.out];simp;omega,by rw[HS.out];have:=HL.out;have:=HQ.out;simp;omega,trivial⟩
    case measure=>simp[intOf];omega
theorem jc7 (b o:Nat) (l:List Bool) (cp:Nat) (a:Int) (ha:a<0) (ha2 : -1000≤a) (hl:l.length≤100000) (w:World) (hc:∀i x,l[i]?=some x→w.cell? ⟨b,o+i,none⟩=some (.bool x)) :
  Calls Tryz.prog 47 #[.slice (some ⟨b,o,none⟩) l.length cp,.int .i64 a] w (NthQ l a w):=by
 have HC:=hD hc
 clear hc
 go_enter Tryz.func47,Tryz.ntmps47
 go_wp2_with fail
 go_loopw [1,6,7,10] (fun s1 _ _ s10 wr=>∃i:Nat,i≤l.length∧s10 = .int .i64 (i:Int)∧s1 = .int .i64 (a+((l.drop (l.length-i)).count true:Int))∧a+((l.drop (l.length-i)).count true:Int)<0∧wr=w) (fun _ _ _ i _=>l.length-(intOf i).toNat)
 case atStart=>exact⟨0,by omega,rfl,by simp,by simpa using ha,rfl⟩
 case round =>
  obtain⟨i,hi,rfl,rfl,hlt,rfl⟩:=hrel
  by_cases hil:i<l.length
  case neg =>
   have hil2:i=l.length:=by omega
   have t1:decide ((i:Int)<(l.length:Int))=false:=decide_eq_false (by omega)
   have HN:Hid (∀m,¬NthB l a m):=fun m hm=>by
    have h1:=vi l m
    have h2:=hm.2.2.2 ha
    rw[hil2,Nat.sub_self,List.drop_zero] at hlt
    omega
   clear hil2
   go_wp2_with fail
   go_ret2
   exact NthQ.no HN.out
  obtain⟨m,hm⟩:∃m:Nat,m=l.length-1-i:=⟨_,rfl⟩
  have hm1:(l.length:Int)-1-(i:Int)=(m:Int):=by omega
  have hml:m<l.length:=by omega
  obtain⟨x,hx⟩:∃x,l[m]?=some x:=⟨_,List.getElem?_eq_getElem hml⟩
  have hcell:=HC.out m x hx
  have hs:=Jp l m x hx
  rw[show m+1=l.length-i from by omega] at hs
  have hsi:l.length-(i+1)=m:=by omega
  have hcl:(l.drop (l.length-i)).count true≤l.count true:=vi l _
  have hcl2:l.count true≤l.length:=List.count_le_length
  have HX:=hD hx
  obtain⟨q,hq⟩:∃q:Int,q=a+((l.drop (l.length-i)).count true:Int):=⟨_,rfl⟩
  have hq0:q<0:=by omega
  have hq1 : -1000≤q:=by omega
  have t1:decide ((i:Int)<(l.length:Int))=true:=decide_eq_true (by omega)
  have t2:decide (q<0)=true:=decide_eq_true hq0
  have t3:decide (0<q)=false:=decide_eq_false (by omega)
  have ew1:IntKind.i64.wrap ((l.length:Int)-1)=(l.length:Int)-1:=ji _ (by omega) (by omega)
  have ew2:IntKind.i64.wrap ((l.length:Int)-1-(i:Int))=(m:Int):=by rw[hm1];exact ji _ (by omega) (by omega)
  have k0:(0:Int)≤(m:Int):=by omega
  have k1:(m:Int)<(l.length:Int):=by omega
  have HQ:=hD hq
  have HL:=hD hlt
  have HS:=hD hs
  have HI:=hD hsi
  rw[←hq]
  clear hq hlt hs hx hcl hcl2 hm hm1 hsi
  cases x with
  | false =>
   go_wp2_with fail
   go_roundw
   case rel=>exact⟨i+1,by omega,by go_num,by rw[HI.out,HS.out,HQ.out];simp,by rw[HI.out,HS.out];have:=HL.out;simpa using this,trivial⟩
   case measure=>simp[intOf];omega
  | true =>
   have ew:IntKind.i64.wrap (q+1)=q+1:=ji _ (by omega) (by omega)
   by_cases hq1:q = -1
   ·have t4:(q+1==0)=true:=by rw[beq_iff_eq];omega
    have HN:Hid (NthB l a m):=⟨HX.out,by omega,fun h=>by omega,fun _=>by rw[HS.out];have:=HQ.out;simp;omega⟩
    have H1:=hD hq1
    clear hq1
    go_wp2_with fail
    go_ret2
    exact NthQ.yes HN.out
   ·have t4:(q+1==0)=false:=by rw[beq_eq_false_iff_ne];omega
    have hq2:q < -1:=by omega
    clear hq1
    go_wp2_with fail
    go_roundw
    case rel=>exact⟨i+1,by omega,by go_num,by rw[HI.out,HS.out,HQ.out];simp;omega,by rw[HI.out,HS.out];have:=HL.out;have:=HQ.out;simp;omega,trivial⟩
    case measure=>simp[intOf];omega
theorem jdO (b o:Nat) (l:List Bool) (cp:Nat) (a:Int) (ha:a≠0) (ha1 : -1000≤a) (ha2:a≤1000) (hl:l.length≤100000) (w:World) (hc:∀i x,l[i]?=some x→w.cell? ⟨b,o+i,none⟩=some (.bool x)) :
  Calls Tryz.prog 47 #[.slice (some ⟨b,o,none⟩) l.length cp,.int .i64 a] w (NthQ l a w):=by
 by_cases h:0<a
 ·exact jbt b o l cp a h ha2 hl w hc
 ·exact jc7 b o l cp a (by omega) ha1 hl w hc
open Classical in
noncomputable def nthR (l:List Bool) (a:Int):Nat×Bool:=if h:∃m,NthB l a m then(h.choose,true) else(0,false)
theorem Xe {l:List Bool} {a:Int} {m:Nat} (h:NthB l a m):nthR l a=(m,true):=by
 have hx:∃m,NthB l a m:=⟨m,h⟩
 unfold nthR
 rw[dif_pos hx]
 exact congrArg (fun m=>(m,true)) (hx.choose_spec.unique h)
theorem VH {l:List Bool} {a:Int} (h:∀m,¬NthB l a m):nthR l a=(0,false):=by
 unfold nthR
 rw[dif_neg fun⟨m,hm⟩=>h m hm]
theorem jcq (b o:Nat) (l:List Bool) (cp:Nat) (a:Int) (ha:a≠0) (ha1 : -1000≤a) (ha2:a≤1000) (hl:l.length≤100000) (w:World) (hc:∀i x,l[i]?=some x→w.cell? ⟨b,o+i,none⟩=some (.bool x)) :
  Calls Tryz.prog 47 #[.slice (some ⟨b,o,none⟩) l.length cp,.int .i64 a] w fun e w'=>e = .returned (.tuple #[.int .i64 ((nthR l a).1:Int),.bool (nthR l a).2])∧w'=w:=by
 refine(jdO b o l cp a ha ha1 ha2 hl w hc).mono ?_
 rintro e w' ⟨d,is,rfl,h1,h2,h3,rfl⟩
 refine⟨?_,rfl⟩
 cases is with
 | true=>rw[Xe (h1 rfl)]
 | false=>rw[VH (h2 rfl),h3 rfl]
def jbH (k a b:Int) (nm:ByteArray) (P:Nat→Int→Prop) (day:Int) (w:World) (e:Ending) (w':World):Prop:=∃B:Bool,e = .returned (.bool B)∧(B=true↔Jf k a b nm P day)∧Below w.heap.size w w'
theorem jaA (k a b:Int) (nm:ByteArray) (A:Option Addr) (l c:Nat) (P:Nat→Int→Prop) (day:Int) (w:World) (hk:k=3∨k=4∨k=5∨k=6) (hr:j9 k a b 0) (h1 : -900000000≤day) (h2:day≤900000000) :
  Calls Tryz.prog 48 #[.agg #[.int .i64 k,.int .i64 a,.int .i64 b,.string nm,.slice A l c],.int .i64 day] w (jbH k a b nm P day w):=by
 have HB:=hD (ja w (Obj.cells #[.int .i64 k,.int .i64 a,.int .i64 b,.string nm,.slice A l c] 24))
 have HX:=Box.new w 24 #[.int .i64 k,.int .i64 a,.int .i64 b,.string nm,.slice A l c]
 obtain⟨x0,x1,x2,_,_⟩:=zD HX
 have xl:=HX.lt
 rcases hk with rfl|rfl|rfl|rfl
 ·have HM:=hD (fun W=>jW (day-1) 7 W (by omega) (by omega) (by omega) (by omega))
  have ew:IntKind.i64.wrap (day-1)=day-1:=ji _ (by omega) (by omega)
  obtain⟨r,hr⟩:∃r,r=(day-1)%7:=⟨_,rfl⟩
  rw[←hr] at HM
  have HP:Hid (((r==a)=true↔Jf 3 a b nm P day)):=by
   show(r==a)=true↔(day-1)%7=a
   rw[beq_iff_eq,hr]
  clear hr HX
  go_enter Tryz.func48,Tryz.ntmps48
  go_upto_region 3 with fail
  go_quiet ((go_at_call 45;exact Calls.quiet_of (HM.out _)))
  go_wp2_with fail
  go_ret
  exact⟨_,rfl,HP.out,jd HB.out _⟩
 ·have hr1:(1≤a∧a≤100000)∧(0≤b∧b≤a-1):=hr
  have HM:=hD (fun W=>jW (day-b) a W (by omega) (by omega) (by omega) (by omega))
  have ew:IntKind.i64.wrap (day-b)=day-b:=ji _ (by omega) (by omega)
  obtain⟨r,hr⟩:∃r,r=(day-b)%a:=⟨_,rfl⟩
  rw[←hr] at HM
  have HP:Hid (((r==0)=true↔Jf 4 a b nm P day)):=by
   show(r==0)=true↔(day-b)%a=0
   rw[beq_iff_eq,hr]
  clear hr HX hr1
  go_enter Tryz.func48,Tryz.ntmps48
  go_wp2_with (go_at_call 45;refine(HM.out _).mono ?_;rintro e w' ⟨rfl,nq,rfl⟩)
  go_ret
  exact⟨_,rfl,HP.out,jd HB.out _⟩
 ·have HP:Hid (((day==a)=true↔Jf 5 a b nm P day)):=by
   show(day==a)=true↔day=a
   rw[beq_iff_eq]
  clear hr HX
  go_enter Tryz.func48,Tryz.ntmps48
  go_wp2_with fail
  go_ret
  exact⟨_,rfl,HP.out,HB.out⟩
 ·by_cases c1:a≤day
  ·have t1:decide (a≤day)=true:=decide_eq_true c1
   have HP:Hid ((decide (day≤b)=true↔Jf 6 a b nm P day)):=by
    show decide (day≤b)=true↔a≤day∧day≤b
    rw[decide_eq_true_eq]
    exact⟨fun h=>⟨c1,h⟩,fun h=>h.2⟩
   clear hr HX c1
   go_enter Tryz.func48,Tryz.ntmps48
   go_wp2_with fail
   go_ret
   exact⟨_,rfl,HP.out,HB.out⟩
  ·have t1:decide (a≤day)=false:=decide_eq_false c1
   have HP:Hid ((false=true↔Jf 6 a b nm P day)):=by
    show false=true↔a≤day∧day≤b
    exact⟨fun h=>(by cases h),fun h=>absurd h.1 c1⟩
   clear hr HX c1
   go_enter Tryz.func48,Tryz.ntmps48
   go_wp2_with fail
   go_ret
   exact⟨_,rfl,HP.out,HB.out⟩
end
section
open Go Go.RowKit
attribute [local go_sem] Oper.semAt_some
def Vh:Option Value→Bool
 | some (.bool b)=>b
 | _=>false
theorem BoolsAt.list {w:World} {g:Nat} {low:Int} {n:Nat} {M:Int→Prop} (h:BoolsAt w g low n M):∃L:List Bool,L.length=n∧(∀i x,L[i]?=some x→w.cell? ⟨g,i,none⟩=some (.bool x))∧∀i,i<n→(L.getD i false=true↔M (low+(i:Int))):=by
 obtain⟨cs,hb,hs,hc⟩:=h
 have hL:∀i,i<n→((List.range n).map fun i=>Vh cs[i]?)[i]?=some (Vh cs[i]?):=fun i hi=>by simp[hi]
 refine⟨(List.range n).map fun i=>Vh cs[i]?,by simp,fun i x hx=>?_,fun i hi=>?_⟩
 ·have hi:i<n:=by
   obtain⟨h1,_⟩:=List.getElem?_eq_some_iff.1 hx
   simpa using h1
  rw[hL i hi] at hx
  injection hx with hx
  obtain⟨b,h1,_⟩:=hc i hi
  rw[h1] at hx
  rw[hb.cell i,h1,←hx]
  rfl
 ·obtain⟨b,h1,h2⟩:=hc i hi
  rw[List.getD_eq_getElem?_getD,hL i hi,h1]
  exact h2
theorem Vz (gf gk gr gm gl gh go gs gq:Nat) (low:Int) (n:Nat) (M:Int→Prop) (from0:Int) (nn:Nat) (P:Int→Prop) (k a b:Int) (nm:ByteArray) (A:Option Addr) (l c:Nat) (mo first:Int) (ln:Nat) (w:World) (h:SetEnv w gl gh go gs low n M)
  (hf:Box w gf 24 #[.int .i64 k,.int .i64 a,.int .i64 b,.string nm,.slice A l c]) (hk:Box w gk 67 #[.slice (some ⟨gq,0,none⟩) nn nn]) (hr:Box w gr 3 #[.int .i64 from0]) (hm:Box w gm 97 #[jD gl gh go]) (hB:BoolsAt w gq from0 nn P)
  (h1 : -100000000≤low) (h2:low≤100000000) (h3:n≤100000000) (h4 : -800000000≤from0) (h5:first+ln≤800000000) (h6:ln≤400) (h6':1≤ln) (h7:from0≤first) (h8:first+ln≤from0+nn) (h9:nn≤100000000) (ha:a≠0) (ha1 : -50≤a) (ha2:a≤50) :
  Calls Tryz.prog 46 #[.int .i64 mo,.int .i64 first,.int .i64 (ln:Int),.pointer (some ⟨gf,0,none⟩),.pointer (some ⟨gk,0,none⟩),.pointer (some ⟨gr,0,none⟩),.pointer (some ⟨gm,0,none⟩)] w fun e w'=>e = .returned (.tuple #[])∧SetEnv w' gl gh go gs low n (fun d=>M d∨((b=0∨mo=b)∧js d∧∃j:Nat,d=first+(j:Int)∧NthP P first ln a j))∧w.grownBy w' (some gs):=by
 have HS:=hD h
 obtain⟨x0,x1,x2,_,_⟩:=zD hf
 have y0:w.cell? ⟨gm,0,none⟩=some (jD gl gh go):=hm.cell 0
 have k0:w.cell? ⟨gk,0,none⟩=some (.slice (some ⟨gq,0,none⟩) nn nn):=hk.cell 0
 have r0:w.cell? ⟨gr,0,none⟩=some (.int .i64 from0):=hr.cell 0
 unfold jD at y0
 obtain⟨L,hL,hLc,hLm⟩:=hB.list
 obtain⟨off,hoff⟩:∃off:Nat,(off:Int)=first-from0:=⟨(first-from0).toNat,by omega⟩
 obtain⟨V,hV⟩:∃V:List Bool,V=(L.drop off).take ln:=⟨_,rfl⟩
 have hVl:V.length=ln:=by rw[hV,List.length_take,List.length_drop];omega
 have hVc:∀i x,V[i]?=some x→w.cell? ⟨gq,off+i,none⟩=some (.bool x):=fun i x hx=>by
  rw[hV,List.getElem?_take] at hx
  split at hx
  ·rw[List.getElem?_drop] at hx
   exact hLc _ _ hx
  ·cases hx
 have hVm:∀i,i<ln→(V.getD i false=true↔P (first+(i:Int))):=fun i hi=>by
  have e:V.getD i false=L.getD (off+i) false:=by
   rw[List.getD_eq_getElem?_getD,List.getD_eq_getElem?_getD,hV,List.getElem?_take,if_pos hi,List.getElem?_drop]
  rw[e]
  have:=hLm (off+i) (by omega)
  rwa[show from0+((off+i:Nat):Int)=first+(i:Int) from by omega] at this
 have HN:=hD (fun q cp=>jcq gq off V cp a ha (by omega) (by omega) (by omega) (w.drewN q) (fun i x hx=>hVc i x hx))
 have HMk:=hD (fun day W (hS:SetEnv W gl gh go gs low n M) (a : -900000000≤day) (b:day≤900000000)=>zk gl gh go gs low n M day W hS h1 h2 h3 a b)
 have HNo:Hid ((∀j,¬NthB V a j)→∀W,SetEnv W gl gh go gs low n M→SetEnv W gl gh go gs low n (fun d=>M d∨((b=0∨mo=b)∧js d∧∃j:Nat,d=first+(j:Int)∧NthP P first ln a j))):=fun hno W hs=>hs.same fun d _ _=>⟨.inl,fun h=>h.resolve_right fun⟨_,_,j,_,hj⟩=>hno j (hj.of hVl hVm)⟩
 have HYe:Hid (∀j,NthB V a j→(b=0∨mo=b)→∀W,SetEnv W gl gh go gs low n (fun d=>M d∨(d=first+(j:Int)∧js (first+(j:Int))))→SetEnv W gl gh go gs low n (fun d=>M d∨((b=0∨mo=b)∧js d∧∃j:Nat,d=first+(j:Int)∧NthP P first ln a j))):=fun j hj hbm W hs=>hs.same fun d _ _=>by
  have hjn:NthP P first ln a j:=⟨V,hVl,hVm,hj⟩
  refine⟨fun h=>h.imp_right fun⟨e,hd⟩=>⟨hbm,by rw[e];exact hd,j,e,hjn⟩,fun h=>h.imp_right fun⟨_,hd,j',e,hj'⟩=>?_⟩
  obtain rfl:=hjn.unique hj'
  exact⟨e,by rw[←e];exact hd⟩
 have hjl:∀j,NthB V a j→j<ln:=fun j hj=>by
  obtain⟨q1,_⟩:=List.getElem?_eq_some_iff.1 hj.1
  omega
 have HJ:=hD hjl
 rw[hVl] at HN
 have ew1:IntKind.i64.wrap (first-from0)=(off:Int):=by rw[ji _ (by omega) (by omega)];omega
 have ew2:IntKind.i64.wrap ((off:Int)+(ln:Int))=((off+ln:Nat):Int):=by rw[ji _ (by omega) (by omega)];omega
 have hon:off+ln≤nn:=by omega
 have hno:¬nn=off:=by omega
 have HBd:=hD (And.intro h4 (And.intro h5 h7))
 clear hV hVc hVm hjl h hB hL hLc hLm hoff h8 h4 h5 h7
 by_cases hbm:b=0∨mo=b
 case neg =>
  have t1:(b==0)=false:=by rw[beq_eq_false_iff_ne];exact fun e=>hbm (.inl e)
  have t2:(mo==b)=false:=by rw[beq_eq_false_iff_ne];exact fun e=>hbm (.inr e)
  have HN2:=hD (HS.out.same (M':=fun d=>M d∨((b=0∨mo=b)∧js d∧∃j:Nat,d=first+(j:Int)∧NthP P first ln a j)) fun d _ _=>⟨.inl,fun h=>h.resolve_right fun h=>hbm h.1⟩)
  clear hbm
  go_enter Tryz.func46,Tryz.ntmps46
  go_wp2_with fail
  go_end0
  exact⟨rfl,HN2.out,jG _ _⟩
 have HBM:=hD hbm
 go_enter Tryz.func46,Tryz.ntmps46
 go_upto_region 0 with fail
 go_cut [20] (fun s wx=>s = .bool true∧wx=w)
 case first =>
  by_cases hb0:b=0
  ·have t1:(b==0)=true:=by rw[beq_iff_eq];exact hb0
   clear hb0 hbm
   go_wp2_with fail
   go_meet
   exact⟨rfl,rfl⟩
  ·have t1:(b==0)=false:=by rw[beq_eq_false_iff_ne];exact hb0
   have t2:(mo==b)=true:=by rw[beq_iff_eq];exact hbm.resolve_left hb0
   clear hb0 hbm
   go_wp2_with fail
   go_meet
   exact⟨rfl,rfl⟩
 case rest =>
 obtain⟨rfl,hwc⟩:=hcut
 subst hwc
 clear hbm
 go_upto_region 1 with fail
 go_quiet ((go_at_call 47;exact Calls.quiet_of_same (HN.out _ _)))
 have HSq:Hid (SetEnv (wc.drewN nq) gl gh go gs low n M):=HS.out.below (jg _ _)
 have y1:(wc.drewN nq).cell? ⟨gm,0,none⟩=some (.func (.func 41) #[] #[.pointer (some ⟨gl,0,none⟩),.pointer (some ⟨gh,0,none⟩),.pointer (some ⟨go,0,none⟩)]):=y0
 have HGq:Hid (wc.grownBy (wc.drewN nq) (some gs)):=jj (jg _ _)
 clear x0 x1 x2 k0 r0 y0 HN hon hno ew1 ew2
 by_cases hx:∃j,NthB V a j
 ·obtain⟨j,hj⟩:=hx
  have hj2:=HJ.out j hj
  rw[Xe hj]
  have hb:=HBd.out
  have HM1:=hD (HMk.out (first+(j:Int)) _ HSq.out (by omega) (by omega))
  have HY1:=hD (HYe.out j hj HBM.out)
  have ew:IntKind.i64.wrap (first+(j:Int))=first+(j:Int):=ji _ (by omega) (by omega)
  clear hj hb HMk HYe HNo
  generalize wc.drewN nq=w1 at *
  go_wp2_with fail
  refine HM1.out.mono ?_
  rintro e w2 ⟨rfl,hs,hg⟩
  have HG2:=hD (World.grownBy.trans HGq.out hg)
  have HS2:=hD (HY1.out _ hs)
  clear hs hg HM1 HY1 HSq HGq y1
  go_wp2_with fail
  go_end0
  exact⟨rfl,HS2.out,HG2.out⟩
 ·have hn:∀j,¬NthB V a j:=fun j hj=>hx ⟨j,hj⟩
  rw[VH hn]
  have HS2:=hD (HNo.out hn _ HSq.out)
  clear hn hx HMk HYe HNo HSq
  generalize wc.drewN nq=w1 at *
  go_wp2_with fail
  go_end0
  exact⟨rfl,HS2.out,HGq.out⟩
end
section
open Go Go.RowKit
attribute [local go_sem] Oper.semAt_some
theorem ja1 (c:Cal) (w:World) (h:CalV w c):Calls Tryz.prog 64 #[c.val] w fun e w'=>e = .returned (.tuple #[.int .i64 (c.ny (-10000)),.int .i64 (c.ny 10001-1)])∧Below w.heap.size w w':=by
 have HB:=hD (ja w (Obj.cells c.cells 70))
 have HX:=hD (Box.new w 70 c.cells)
 have HV:=hD (h.next HB.out)
 have HN1:=hD (fun W (hV:CalV W c)=>xH c (-10000) W hV.r hV.ok (by omega) (by omega))
 have HN2:=hD (fun W (hV:CalV W c)=>xH c 10001 W hV.r hV.ok (by omega) (by omega))
 have hb1:=Cal.ny_in h.ok 10001 (by omega) (by omega)
 clear h
 generalize c.ny (-10000)=N1 at *
 generalize c.ny 10001=N2 at *
 have ew:IntKind.i64.wrap (N2-1)=N2-1:=ji _ (by omega) (by omega)
 go_enter Tryz.func64,Tryz.ntmps64
 go_upto_region 1 with fail
 generalize w.alloc (Obj.cells c.cells 70)=W0 at *
 generalize hg:w.heap.size=g at *
 have HG:=hD hg
 clear hg
 have z0:∀W,Below W0.heap.size W0 W→W.cell? ⟨g,0,none⟩=some (.string c.nm):=fun w hb=>(HX.out.below hb).cell 0
 have z1:∀W,Below W0.heap.size W0 W→W.cell? ⟨g,1,none⟩=some (.int .i64 c.ep):=fun w hb=>(HX.out.below hb).cell 1
 have z2:∀W,Below W0.heap.size W0 W→W.cell? ⟨g,2,none⟩=some (.int .i64 c.cy):=fun w hb=>(HX.out.below hb).cell 2
 have z3:∀W,Below W0.heap.size W0 W→W.cell? ⟨g,3,none⟩=some (.slice c.A1 c.mo.length c.c1):=fun w hb=>(HX.out.below hb).cell 3
 have z4:∀W,Below W0.heap.size W0 W→W.cell? ⟨g,4,none⟩=some (.slice c.A2 c.lp.length c.c2):=fun w hb=>(HX.out.below hb).cell 4
 refine ju (jy [(1,det (.int .i64 N1)),(3,det (.int .i64 N2))]) (by kernel_rfl) (by kernel_rfl) ?_
 repeat (first|(refine jf (v:=?_) (by rfl) (by rfl) (fun w hb=>?_) ?_;rotate_left;(· go_simp<;>(repeat' apply And.intro)<;>with_reducible rfl);try simp only[pZ,Nat.reduceAdd])|(refine je (by rfl) (by rfl) ?_;try simp only[pZ,Nat.reduceAdd]))
 refine j8 (f:=?_) (args:=?_) [] (by kernel_rfl) (by rfl) (by rfl) (fun w hb=>?_) (fun w hb hu=>?_) ?_;rotate_left 2;(· go_simp<;>(repeat' apply And.intro)<;>with_reducible rfl)
 ·exact HN1.out w (HV.out.next hb)
 try simp only[pZ,Nat.reduceAdd]
 repeat (first|(refine jf (v:=?_) (by rfl) (by rfl) (fun w hb=>?_) ?_;rotate_left;(· go_simp<;>(repeat' apply And.intro)<;>with_reducible rfl);try simp only[pZ,Nat.reduceAdd])|(refine je (by rfl) (by rfl) ?_;try simp only[pZ,Nat.reduceAdd]))
 refine j8 (f:=?_) (args:=?_) [] (by kernel_rfl) (by rfl) (by rfl) (fun w hb=>?_) (fun w hb hu=>?_) ?_;rotate_left 2;(· go_simp<;>(repeat' apply And.intro)<;>with_reducible rfl)
 ·exact HN2.out w (HV.out.next hb)
 try simp only[pZ,Nat.reduceAdd]
 repeat (first|(refine jf (v:=?_) (by rfl) (by rfl) (fun w hb=>?_) ?_;rotate_left;(· go_simp<;>(repeat' apply And.intro)<;>with_reducible rfl);try simp only[pZ,Nat.reduceAdd])|(refine je (by rfl) (by rfl) ?_;try simp only[pZ,Nat.reduceAdd]))
 refine jo fun w1 hb1 _=>?_
 have HB1:Hid (Below g w w1):=HB.out.trans (hb1.mono (by have:=HX.out.lt;omega))
 clear hb1 z0 z1 z2 z3 z4
 go_wp2_with fail
 go_ret2
 exact⟨rfl,by rw[HG.out];exact HB1.out⟩
theorem Yr {w:World} {g:Nat} {k a b:Int} {nm:ByteArray} {A:Option Addr} {n c:Nat} {cal:Cal} {A':Option Addr} {n' c':Nat} (h:Box w g 73 (stL k a b nm A n c cal A' n' c').toArray) :
  w.cell? ⟨g,5,none⟩=some (.string cal.nm)∧w.cell? ⟨g,6,none⟩=some (.int .i64 cal.ep)∧w.cell? ⟨g,7,none⟩=some (.int .i64 cal.cy)∧w.cell? ⟨g,8,none⟩=some (.slice cal.A1 cal.mo.length cal.c1)∧w.cell? ⟨g,9,none⟩=some (.slice cal.A2 cal.lp.length cal.c2):=⟨h.cell 5,h.cell 6,h.cell 7,h.cell 8,h.cell 9⟩
def Vd (c:Cal) (low high d:Int):Prop:=low≤d∧d≤high∧js d∧c.ny (-10000)≤d∧d<c.ny 10001
theorem vu (k a b:Int) (nm:ByteArray) (A:Option Addr) (n cc:Nat) (c:Cal) (A':Option Addr) (n' c':Nat) (low high:Int) (g:Nat) (cb:Array Value) (gs:Nat) (S:Int→World→Prop) (w:World)
  (hlo : -100000000≤low) (hhi:high≤100000000) (hlo2:low≤100000000) (hhi2 : -100000000≤high) (hgs:gs<w.heap.size) (hv:CalV w c) (eg:∀args w,(callFunc g args).run Tryz.prog w = .ok (.enter g args) w)
  (hst:∀x W W',S x W→Below W.heap.size W W'→S x W') (hcal:∀W,w.grownBy W (some gs)→CalV W c)
  (hS:∀x,(∀d,Vd c low high d→x≤d)→S x w)
  (hf:∀W y m first,w.grownBy W (some gs)→S first W→IsOn c y m 0 first→-10000≤y→y≤10000→first≤high→low<first+c.mlen y m→Calls Tryz.prog g (#[.int .i64 ((m:Int)+1),.int .i64 first,.int .i64 (c.mlen y m)]++cb) W fun e w'=>e = .returned (.tuple #[])∧S (first+c.mlen y m) w'∧W.grownBy w' (some gs)) :
  Calls Tryz.prog 42 #[.agg (stL k a b nm A n cc c A' n' c').toArray,.int .i64 low,.int .i64 high,.func (.func g) #[] cb] w fun e w'=>e = .returned (.tuple #[])∧(∃x,S x w'∧∀d,Vd c low high d→d<x)∧w.grownBy w' (some gs):=by
 have HB:=hD (jj (row:=some gs) (ja w (Obj.cells (stL k a b nm A n cc c A' n' c').toArray 73)))
 have HB0:=hD (ja w (Obj.cells (stL k a b nm A n cc c A' n' c').toArray 73))
 have HX:=hD (Box.new w 73 (stL k a b nm A n cc c A' n' c').toArray)
 have HEn:=hD (fun W (h:CalV W c)=>ja1 c W h)
 have HFd:=hD (fun day W (h:CalV W c)=>Xh c day W h)
 have HMo:=hD (fun y m (hm:m<c.mo.length) W (h:CalV W c) (h1 : -10000≤y) (h2:y≤10000)=>K6 c y m hm W h h1 h2)
 have HOK:=hD hv.ok
 have HCal:=hD hcal
 have HS:=hD hS
 have HSt:=hD hst
 have HF:=hD hf
 have HN1:=Cal.ny_in hv.ok (-10000) (by omega) (by omega)
 have HN2:=Cal.ny_in hv.ok 10001 (by omega) (by omega)
 obtain⟨N1,hn1⟩:∃N1,N1=c.ny (-10000):=⟨_,rfl⟩
 obtain⟨N2,hn2⟩:∃N2,N2=c.ny 10001:=⟨_,rfl⟩
 rw[←hn1] at HEn HN1
 rw[←hn2] at HEn HN2
 have HC:Hid (∀d,Vd c low high d↔(low≤d∧d≤high∧(-4000000≤d∧d≤4000000)∧N1≤d∧d<N2)):=fun d=>by rw[hn1,hn2];exact Iff.rfl
 have HNe:=hD (And.intro hn1 hn2)
 clear hv hcal hS hst hf hn1 hn2
 go_enter Tryz.func42,Tryz.ntmps42
 go_upto_region 1 with fail
 generalize w.alloc (Obj.cells (stL k a b nm A n cc c A' n' c').toArray 73)=W0 at *
 obtain⟨gt,hgt⟩:∃gt,gt=w.heap.size:=⟨_,rfl⟩
 rw[←hgt] at HX hgs ⊢
 have HG:=hD hgt
 clear hgt
 obtain⟨x5,x6,x7,x8,x9⟩:=Yr HX.out
 go_wp2_with fail
 refine(HEn.out _ (HCal.out _ HB.out)).mono ?_
 rintro e w1 ⟨rfl,hb1⟩
 have HB1:=hD (World.grownBy.trans HB.out (jj (row:=some gs) hb1))
 have HBel:=hD (HB0.out.trans (hb1.mono HB0.out.size))
 have HX1:=hD (HX.out.below hb1)
 clear hb1 HB HX HEn x5 x6 x7 x8 x9
 obtain⟨L1,e1⟩:∃L1,(if low<N1 then N1 else low)=L1:=⟨_,rfl⟩
 obtain⟨L0,e2⟩:∃L0,(if L1 < -4000000 then -4000000 else L1)=L0:=⟨_,rfl⟩
 obtain⟨H1,e3⟩:∃H1,(if N2-1<high then N2-1 else high)=H1:=⟨_,rfl⟩
 obtain⟨H0,e4⟩:∃H0,(if 4000000<H1 then 4000000 else H1)=H0:=⟨_,rfl⟩
 have q1:low≤L0∧N1≤L0∧-4000000≤L0∧(L0=low∨L0=N1∨L0 = -4000000):=by split at e1<;>split at e2<;>omega
 have q2:H0≤high∧H0<N2∧H0≤4000000∧(H0=high∨H0=N2-1∨H0=4000000):=by split at e3<;>split at e4<;>omega
 have HCd:Hid (∀d,Vd c low high d↔(L0≤d∧d≤H0)):=fun d=>(HC.out d).trans ⟨fun h=>by omega,fun h=>by omega⟩
 go_upto_region 3 with fail
 clear e1 e2 e3 e4 HC
 go_loopw [1,10,11,12,13,14] (fun lo _ _ _ _ _ wr=>∃l:Int,lo = .int .i64 l∧L0≤l∧l≤900000000∧Hid (l≤H0→∀y m d,IsOn c y m d l→S (l-d) wr)∧Hid (H0<l→∃x,S x wr∧∀d,Vd c low high d→d<x)∧Hid (w.grownBy wr (some gs))∧Hid (Box wr gt 73 (stL k a b nm A n cc c A' n' c').toArray)) (fun lo _ _ _ _ _ _=>(H0+1-intOf lo).toNat)
 case atStart =>
  have HS1:∀x,(∀d,Vd c low high d→x≤d)→S x w1:=fun x hx=>HSt.out _ _ _ (HS.out x hx) HBel.out
  exact⟨L0,rfl,by omega,by omega,fun h y m d ho=>HS1 _ fun x hx=>by have:=(HCd.out x).1 hx;have:=ho.d0;omega,fun h=>⟨high+1,HS1 _ fun x hx=>by have:=(HCd.out x).1 hx;omega,fun x hx=>by have:=(HCd.out x).1 hx;omega⟩,HB1,HX1⟩
 case round =>
  obtain⟨l,rfl,hl1,hl2,hs1,hs2,hg,hx⟩:=hrel
  clear HS HB1 HX1
  by_cases hlt:l≤H0
  case neg =>
   have t1:decide (l≤H0)=false:=decide_eq_false hlt
   have t1':decide (H0<l)=true:=decide_eq_true (by omega)
   have HE:=hD (hs2.out (by omega))
   clear hs1 hs2 hlt
   go_wp2_with fail
   go_end0
   exact⟨rfl,HE.out,hg.out⟩
  have t1:decide (l≤H0)=true:=decide_eq_true hlt
  obtain⟨x5,x6,x7,x8,x9⟩:=Yr hx.out
  have hdom : -4000000≤l∧l≤4000000∧N1≤l∧l<N2:=by omega
  have HFl:=hD (HFd.out l wr (HCal.out _ hg.out))
  unfold jeA at HFl
  have HD:=hD (show -4000000≤l∧l≤4000000∧c.ny (-10000)≤l∧l<c.ny 10001 by have:=HNe.out.1;have:=HNe.out.2;omega)
  have HS1:=hD (hs1.out hlt)
  clear hs1 hs2
  go_wp2_with fail
  refine HFl.out.mono ?_
  rintro e w2 ⟨hb2,hfd⟩
  rcases hfd with⟨y,m,d,hy1,hy2,ho,rfl⟩|⟨hno,_⟩
  case inr=>exact absurd HD.out hno
  have HG2:=hD (World.grownBy.trans hg.out (jj (row:=some gs) hb2))
  have HX2:=hD (hx.out.below hb2)
  have HS2:=hD (HSt.out _ _ _ (HS1.out y m d ho) hb2)
  have hm:=ho.m1
  have hd0:=ho.d0
  have hd1:=ho.d1
  have hml:=Cal.mlen_in HOK.out y m hm
  have HO:=hD ho
  clear HFl HD HS1 x5 x6 x7 x8 x9 hb2 hg hx ho
  go_upto_region 5 with fail
  have HG3:Hid (w.grownBy (w2.alloc (Obj.cells (Yb y ((m:Int)+1) (d+1)) 78)) (some gs)):=World.grownBy.trans HG2.out (jj (row:=some gs) (ja _ _))
  have HX3:=hD (HX2.out.alloc (Obj.cells (Yb y ((m:Int)+1) (d+1)) 78))
  have HD3:=hD (Box.new w2 78 (Yb y ((m:Int)+1) (d+1)))
  have HS3:=hD (HSt.out _ _ _ HS2.out (ja w2 (Obj.cells (Yb y ((m:Int)+1) (d+1)) 78)))
  obtain⟨gd,hgd⟩:∃gd,gd=w2.heap.size:=⟨_,rfl⟩
  rw[←hgd] at HD3 ⊢
  have hgd2:gt<gd:=by rw[hgd];exact HX2.out.lt
  clear HG2 HX2 HS2 hgd
  generalize w2.alloc (Obj.cells (Yb y ((m:Int)+1) (d+1)) 78)=w3 at *
  obtain⟨x5,x6,x7,x8,x9⟩:=Yr HX3.out
  have y0:w3.cell? ⟨gd,0,none⟩=some (.int .i64 y):=HD3.out.cell 0
  have y1:w3.cell? ⟨gd,1,none⟩=some (.int .i64 ((m:Int)+1)):=HD3.out.cell 1
  go_wp2_with fail
  refine(HMo.out y m hm w3 (HCal.out _ HG3.out) hy1 hy2).mono ?_
  rintro e w4 ⟨rfl,hb4⟩
  have HG4:=hD (World.grownBy.trans HG3.out (jj (row:=some gs) hb4))
  have HX4:=hD (HX3.out.below hb4)
  have HD4:=hD (HD3.out.below hb4)
  have HS4:=hD (HSt.out _ _ _ HS3.out hb4)
  clear hb4 HG3 HX3 HD3 HS3 x5 x6 x7 x8 x9 y0 y1
  obtain⟨L,hL⟩:∃L,L=c.mlen y m:=⟨_,rfl⟩
  obtain⟨f,hf⟩:∃f,f=l-d:=⟨_,rfl⟩
  rw[←hf] at HS4
  have HV:=hD (HF.out w4 y m f HG4.out HS4.out ⟨hm,Int.le_refl _,by omega,by have:=HO.out.on;omega⟩ hy1 hy2 (by omega) (by omega))
  have HNx:Hid (∀y' m' d',IsOn c y' m' d' (f+L)→d'=0):=fun y' m' d' ho'=>by
   obtain⟨y2,m2,hn⟩:=NextM.ex HOK.out y m
   have h1:IsOn c y m (L-1) (f+L-1):=⟨hm,by omega,by omega,by have:=HO.out.on;omega⟩
   have h2:=hn.on HOK.out h1 (by omega)
   rw[show f+L-1+1=f+L from by omega] at h2
   exact(ho'.unique HOK.out h2).2.2
  rw[←hL] at hml hd1 HV
  rw[←hL]
  have y1:w4.cell? ⟨gd,1,none⟩=some (.int .i64 ((m:Int)+1)):=HD4.out.cell 1
  have y2:w4.cell? ⟨gd,2,none⟩=some (.int .i64 (d+1)):=HD4.out.cell 2
  have ew1:IntKind.i64.wrap (l-(d+1))=l-(d+1):=ji _ (by omega) (by omega)
  have ew2:IntKind.i64.wrap (l-(d+1)+1)=f:=by rw[ji _ (by omega) (by omega)];omega
  have ew3:IntKind.i64.wrap (f+L)=f+L:=ji _ (by omega) (by omega)
  have hfl:f≤l∧l<f+L:=by omega
  clear hL hf HO HF
  go_wp2_with (go_at_fn g;refine HV.out.mono ?_;rintro e w5 ⟨rfl,hs5,hg5⟩;have HS5:=hD hs5;have HG5:=hD (World.grownBy.trans HG4.out hg5);have HX5:=hD (HX4.out.grown hg5 (by simp;omega));clear hs5 hg5 HV HG4 HX4 HD4 y1 y2)
  go_roundw
  case rel=>exact⟨f+L,rfl,by omega,by omega,fun h y' m' d' ho'=>by rw[HNx.out y' m' d' ho',Int.sub_zero];exact HS5.out,fun h=>⟨f+L,HS5.out,fun x hx=>by have:=(HCd.out x).1 hx;omega⟩,HG5,HX5⟩
  case measure=>simp[intOf];omega
end
section
open Go Go.RowKit
attribute [local go_sem] Oper.semAt_some
def zTr:Array Value:=#[.int .i64 0,.int .i64 0,.int .i64 0,.string ⟨#[]⟩,.slice none 0 0,.string ⟨#[]⟩,.int .i64 0,.int .i64 0,.slice none 0 0,.slice none 0 0,.slice none 0 0]
theorem KD:(Tryz.prog.info? 73).map (fun i=>(i.zero,i.size,i.bytes))=some (some (.agg zTr),11,168):=by kernel_rfl
def trC (k a b:Int) (nm:ByteArray) (A:Option Addr) (n c:Nat) (cal:Cal) (v:Value):Array Value :=
 #[.int .i64 k,.int .i64 a,.int .i64 b,.string nm,.slice A n c,.string cal.nm,.int .i64 cal.ep,.int .i64 cal.cy,.slice cal.A1 cal.mo.length cal.c1,.slice cal.A2 cal.lp.length cal.c2,v]
theorem jb6 (s:ByteArray):s.toList.isEmpty=decide (s.size=0):=by
 rw[Lib.toList_data,Bool.eq_iff_iff,List.isEmpty_iff,decide_eq_true_eq]
 constructor
 ·intro h
  have:=congrArg List.length h
  simpa using this
 ·intro h
  exact List.eq_nil_of_length_eq_zero (by simpa using h)
theorem jfg {k a b:Int} {nm:ByteArray} {len:Nat} (h:FeNode k a b nm len):(nm.size=0)=(usN k=false):=by
 apply propext
 constructor
 ·intro h0
  cases hu:usN k with
  | false=>rfl
  | true =>
   obtain⟨r,hr,hn,_⟩:=h.cal hu
   have h1:(str r.nm).size=r.nm.length:=jt _
   rw[hn,h0] at h1
   have h2:=(Ql r hr).2.1
   have h3:∀r∈jN,r.nm≠[]:=by decide +kernel
   exact absurd (List.eq_nil_of_length_eq_zero h1.symm) (h3 r hr)
 ·exact h.un
def Qv (gt:Nat) (v:Value) (b:Nat):Prop:=gt<b∧v.ownBlock≠some b
def CalT (w:World) (p:Nat→Prop) (k:Int) (nm:ByteArray) (cal:Cal):Prop:=usN k=true→∃r∈jN,str r.nm=nm∧CalOf r cal∧CalAt w p cal
theorem CalT.keep {w w':World} {p p':Nat→Prop} {k:Int} {nm:ByteArray} {cal:Cal} (h:CalT w p k nm cal) (hk:∀b,p b→b<w.heap.size→w'.heap[b]?=w.heap[b]?∧p' b) (hs:w.heap.size≤w'.heap.size):CalT w' p' k nm cal:=fun e=>by
 obtain⟨r,a,b,c,d⟩:=h e
 exact⟨r,a,b,c,d.keep hk hs⟩
theorem jS {w w1:World} {g:Nat} (h:w.grownBy w1 (some g)) (i:Nat) (v:Value):w.grownBy (w1.setCell ⟨g,i,none⟩ v) (some g):=World.grownBy.trans h ⟨rfl,rfl,rfl,by simp,fun k hk hne=>Below.heap_setCell _ _ _ k (fun e=>hne (by rw[e]))⟩
theorem jaq {w:World} {base:Nat} {e:TypeId} {s:Nat} {A:Option Addr} {n c:Nat} {xs:List Value} (h:w.ownsRow base e s (.slice A n c) n xs):RowAt w (fun b=>base≤b) A xs:=by
 by_cases hn:0<n
 ·obtain⟨g,cap,hv,hb,hlt⟩:=h.form hn
  have hA:A=some ⟨g,0,none⟩:=by injection hv
  subst hA
  refine .inr ⟨g,0,rfl,hb,hlt,fun j v hv=>?_⟩
  have:=h.cells (g:=g) rfl j v hv
  rw[Nat.zero_add]
  rw[xM,Nat.zero_add] at this
  exact this
 ·have h0:n=0:=by omega
  subst h0
  have:=h.1
  exact .inl (List.eq_nil_of_length_eq_zero (by simpa using this))
def je8 (x:FE) (p:Nat→Prop):Told:=⟨fun v=>∃T:ST,v = .agg (stF T).toArray,fun v w=>∀T:ST,v = .agg (stF T).toArray→∃T':ST,stF T'=stF T∧StAt w p T' x⟩
theorem jcW {T T2:ST} (h:Value.agg (stF T).toArray = .agg (stF T2).toArray):stF T=stF T2:=by
 injection h with h
 have:=congrArg Array.toList h
 simpa using this
def Yl (t:FE) (w:World) (e:Ending) (w':World):Prop:=∃T:ST,e = .returned (.agg (stF T).toArray)∧StAt w' (fun b=>w.heap.size≤b) T t∧Below w.heap.size w w'
theorem V7 {w:World} {g:Nat} {k a b:Int} {nm:ByteArray} {A:Option Addr} {l c:Nat} (h:Box w g 24 #[.int .i64 k,.int .i64 a,.int .i64 b,.string nm,.slice A l c]) :
  w.cell? ⟨g,0,none⟩=some (.int .i64 k)∧w.cell? ⟨g,1,none⟩=some (.int .i64 a)∧w.cell? ⟨g,2,none⟩=some (.int .i64 b)∧w.cell? ⟨g,3,none⟩=some (.string nm)∧w.cell? ⟨g,4,none⟩=some (.slice A l c):=⟨h.cell 0,h.cell 1,h.cell 2,h.cell 3,h.cell 4⟩
theorem Z3 (w0:World) (hv:Env w0) (t:FE) (hin:FeIn w0 w0.heap.size t):FeOk t→∀w,Below w0.heap.size w0 w→Calls Tryz.prog 23 #[feV t] w (Yl t w):=by
 obtain⟨i0,hi0,hz0,hz1,hz2⟩:=info_parts KD
 have HE0:=hD (fun W (h:Below w0.heap.size w0 W)=>hv.next h)
 clear hv
 induction hin with
 | @mk k a b nm A c ks hk ha hb hs hl row kids ih =>
  intro hok w hw0
  obtain⟨hnode,hkids⟩:FeNode k a b nm ks.length∧∀x∈ks,FeOk x:=by cases hok with|mk n k=>exact⟨n,k⟩
  have hlen:ks.length≤2:=by rw[hnode.len];unfold zO;split<;>(try split)<;>omega
  have IH:=hD (fun x hx=>ih x hx (hkids x hx))
  have HNode:=hD hnode
  have HRow:=hD row
  have HK:=hD (And.intro hk (And.intro ha (And.intro hb hs)))
  have HW0:=hD hw0
  have hsz0:=hw0.size
  have HE:Hid (∀W,Below w.heap.size w W→Env W):=fun W h=>HE0.out W (hw0.trans (h.mono hw0.size))
  clear ih hkids kids hnode row hk ha hb hs hl hok hw0
  unfold Yl
  show Calls Tryz.prog 23 #[.agg #[.int .i64 k,.int .i64 a,.int .i64 b,.string nm,.slice A ks.length c]] w _
  have HB:=hD (jJ w (Obj.cells #[.int .i64 k,.int .i64 a,.int .i64 b,.string nm,.slice A ks.length c] 24) (Obj.cells zTr 73) (Obj.cells #[.int .i64 k,.int .i64 a,.int .i64 b,.string nm,.slice A ks.length c,.string ⟨#[]⟩,.int .i64 0,.int .i64 0,.slice none 0 0,.slice none 0 0,.slice none 0 0] 73))
  have HX:=hD (((Box.new w 24 #[.int .i64 k,.int .i64 a,.int .i64 b,.string nm,.slice A ks.length c]).alloc (Obj.cells zTr 73)).alloc (Obj.cells #[.int .i64 k,.int .i64 a,.int .i64 b,.string nm,.slice A ks.length c,.string ⟨#[]⟩,.int .i64 0,.int .i64 0,.slice none 0 0,.slice none 0 0,.slice none 0 0] 73))
  have hr:=(Box.new (w.alloc (Obj.cells #[.int .i64 k,.int .i64 a,.int .i64 b,.string nm,.slice A ks.length c] 24)) 73 zTr).alloc (Obj.cells #[.int .i64 k,.int .i64 a,.int .i64 b,.string nm,.slice A ks.length c,.string ⟨#[]⟩,.int .i64 0,.int .i64 0,.slice none 0 0,.slice none 0 0,.slice none 0 0] 73)
  have ht:=Box.new ((w.alloc (Obj.cells #[.int .i64 k,.int .i64 a,.int .i64 b,.string nm,.slice A ks.length c] 24)).alloc (Obj.cells zTr 73)) 73 #[.int .i64 k,.int .i64 a,.int .i64 b,.string nm,.slice A ks.length c,.string ⟨#[]⟩,.int .i64 0,.int .i64 0,.slice none 0 0,.slice none 0 0,.slice none 0 0]
  simp only[World.size_alloc] at hr ht
  have HR:Hid (Box (((w.alloc (Obj.cells #[.int .i64 k,.int .i64 a,.int .i64 b,.string nm,.slice A ks.length c] 24)).alloc (Obj.cells zTr 73)).alloc (Obj.cells #[.int .i64 k,.int .i64 a,.int .i64 b,.string nm,.slice A ks.length c,.string ⟨#[]⟩,.int .i64 0,.int .i64 0,.slice none 0 0,.slice none 0 0,.slice none 0 0] 73)) (w.heap.size+1) 73 zTr):=hr
  have HT:Hid (Box (((w.alloc (Obj.cells #[.int .i64 k,.int .i64 a,.int .i64 b,.string nm,.slice A ks.length c] 24)).alloc (Obj.cells zTr 73)).alloc (Obj.cells #[.int .i64 k,.int .i64 a,.int .i64 b,.string nm,.slice A ks.length c,.string ⟨#[]⟩,.int .i64 0,.int .i64 0,.slice none 0 0,.slice none 0 0,.slice none 0 0] 73)) (w.heap.size+1+1) 73 (trC k a b nm A ks.length c Ka (.slice none 0 0))):=ht
  clear hr ht
  unfold zTr at HB HX HR HT
  go_enter Tryz.func23,Tryz.ntmps23
  go_upto_region 2 with fail
  generalize ((w.alloc (Obj.cells #[.int .i64 k,.int .i64 a,.int .i64 b,.string nm,.slice A ks.length c] 24)).alloc (Obj.cells #[.int .i64 0,.int .i64 0,.int .i64 0,.string ⟨#[]⟩,.slice none 0 0,.string ⟨#[]⟩,.int .i64 0,.int .i64 0,.slice none 0 0,.slice none 0 0,.slice none 0 0] 73)).alloc (Obj.cells #[.int .i64 k,.int .i64 a,.int .i64 b,.string nm,.slice A ks.length c,.string ⟨#[]⟩,.int .i64 0,.int .i64 0,.slice none 0 0,.slice none 0 0,.slice none 0 0] 73)=W3 at *
  obtain⟨gf,hgf⟩:∃gf,gf=w.heap.size:=⟨_,rfl⟩
  rw[←hgf] at HX HR HT hsz0 ⊢
  obtain⟨gr,hgr⟩:∃gr,gr=gf+1:=⟨_,rfl⟩
  rw[←hgr] at HR HT ⊢
  obtain⟨gt,hgt⟩:∃gt,gt=gr+1:=⟨_,rfl⟩
  rw[←hgt] at HT ⊢
  have HGF:=hD hgf
  have hg1:gf<gr:=by omega
  have hg2:gr<gt:=by omega
  have hw1:w.heap.size≤gf:=by omega
  clear hgf hgr hgt
  have hst:=HT.out.lt
  obtain⟨x0,x1,x2,x3,x4⟩:=V7 HX.out
  have hE:=jb6 nm
  have hU:=jfg HNode.out
  have HU:=hD hU
  obtain⟨E,hEe⟩:∃E:Bool,E=decide (nm.size=0):=⟨_,rfl⟩
  rw[←hEe] at hE
  have HEe:=hD hEe
  clear hEe hU
  have HCal:=hD (fun r hr W (h:Env W)=>ki r hr W h)
  unfold ja2 at HCal
  go_upto_if 10 with fail
  go_cut [] (fun wx=>∃cal:Cal,Hid (Box wx gt 73 (trC k a b nm A ks.length c cal (.slice none 0 0)))∧Hid (Box wx gr 73 zTr)∧Hid (Box wx gf 24 #[.int .i64 k,.int .i64 a,.int .i64 b,.string nm,.slice A ks.length c])∧Hid (CalT wx (fun b=>gt<b) k nm cal)∧Hid (Below w.heap.size w wx))
  case first =>
   cases E with
   | true =>
    have hu:usN k=false:=by
     have h:=of_decide_eq_true HEe.out.symm
     rw[HU.out] at h
     exact h
    have HC:Hid (CalT W3 (fun b=>gt<b) k nm Ka):=fun e=>by rw[hu] at e;cases e
    clear hu HCal
    go_wp2_with fail
    go_meet
    exact⟨Ka,HT,HR,HX,HC,HB⟩
   | false =>
    have hu:usN k=true:=by
     have h:=of_decide_eq_false HEe.out.symm
     rw[HU.out] at h
     cases e:usN k with
     | true=>rfl
     | false=>exact absurd e h
    obtain⟨r,hr,hnm,_⟩:=HNode.out.cal hu
    have HCn:=hD (HCal.out r hr W3 (HE.out _ HB.out))
    rw[hnm] at HCn
    have HNm:=hD (And.intro hr hnm)
    clear HCal hu hr hnm
    go_wp2_with fail
    refine Calls.mono HCn.out ?_
    rintro e w4 ⟨cal,rfl,hof,hcv,ha1,ha2,hb4⟩
    have HX4:=hD (HX.out.below hb4)
    have HR4:=hD (HR.out.below hb4)
    have HT4:=hD (HT.out.below hb4)
    have HB4:Hid (Below w.heap.size w w4):=HB.out.trans (hb4.mono HB.out.size)
    have HCA:Hid (CalT w4 (fun b=>gt<b) k nm cal):=fun _=>⟨r,HNm.out.1,HNm.out.2,hof,hcv,hcv.r.r1.at_ fun a ha=>by have:=ha1 a ha;omega,hcv.r.r2.at_ fun a ha=>by have:=ha2 a ha;omega⟩
    have hl4:=HT4.out.lt
    have f4:∀i,w4.frozen? ⟨gt,i,none⟩=false:=fun i=>HT4.out.free i
    have z5:w4.cell? ⟨gt,5,none⟩=some (.string ⟨#[]⟩):=HT4.out.cell 5
    have z6:w4.cell? ⟨gt,6,none⟩=some (.int .i64 0):=HT4.out.cell 6
    have z7:w4.cell? ⟨gt,7,none⟩=some (.int .i64 0):=HT4.out.cell 7
    have z8:w4.cell? ⟨gt,8,none⟩=some (.slice none 0 0):=HT4.out.cell 8
    have z9:w4.cell? ⟨gt,9,none⟩=some (.slice none 0 0):=HT4.out.cell 9
    clear hof hcv ha1 ha2 hb4 HX HR HT HB HCn x0 x1 x2 x3 x4 hst
    go_wp2_with fail
    go_meet
    have hk:∀b,gt<b→b<w4.heap.size→(((((w4.setCell ⟨gt,5,none⟩ (.string cal.nm)).setCell ⟨gt,6,none⟩ (.int .i64 cal.ep)).setCell ⟨gt,7,none⟩ (.int .i64 cal.cy)).setCell ⟨gt,8,none⟩ (.slice cal.A1 cal.mo.length cal.c1)).setCell ⟨gt,9,none⟩ (.slice cal.A2 cal.lp.length cal.c2)).heap[b]?=w4.heap[b]?∧gt<b:=fun b hb _=>by
     have h:b≠gt:=by omega
     exact⟨by rw[Below.heap_setCell _ _ _ b h,Below.heap_setCell _ _ _ b h,Below.heap_setCell _ _ _ b h,Below.heap_setCell _ _ _ b h,Below.heap_setCell _ _ _ b h],hb⟩
    exact⟨cal,((((HT4.out.set_ 5 _).set_ 6 _).set_ 7 _).set_ 8 _).set_ 9 _,((((HR4.out.far (p:=⟨gt,5,none⟩) (by show gr≠gt;omega) _).far (p:=⟨gt,6,none⟩) (by show gr≠gt;omega) _).far (p:=⟨gt,7,none⟩) (by show gr≠gt;omega) _).far (p:=⟨gt,8,none⟩) (by show gr≠gt;omega) _).far (p:=⟨gt,9,none⟩) (by show gr≠gt;omega) _,((((HX4.out.far (p:=⟨gt,5,none⟩) (by show gf≠gt;omega) _).far (p:=⟨gt,6,none⟩) (by show gf≠gt;omega) _).far (p:=⟨gt,7,none⟩) (by show gf≠gt;omega) _).far (p:=⟨gt,8,none⟩) (by show gf≠gt;omega) _).far (p:=⟨gt,9,none⟩) (by show gf≠gt;omega) _,HCA.out.keep hk (by simp),((((HB4.out.setCell (p:=⟨gt,5,none⟩) (by show w.heap.size≤gt;omega) _).setCell (p:=⟨gt,6,none⟩) (by show w.heap.size≤gt;omega) _).setCell (p:=⟨gt,7,none⟩) (by show w.heap.size≤gt;omega) _).setCell (p:=⟨gt,8,none⟩) (by show w.heap.size≤gt;omega) _).setCell (p:=⟨gt,9,none⟩) (by show w.heap.size≤gt;omega) _⟩
  case rest =>
  clear HX HR HT HB x0 x1 x2 x3 x4 hst hE HEe HCal HU
  obtain⟨cal,HT,HR,HX,HC,HB⟩:=hcut
  obtain⟨x0,x1,x2,x3,x4⟩:=V7 HX.out
  go_wp2_with fail
  clear x0 x1 x2 x3 x4 HX
  go_loopw [5,21] (fun _ i wr=>∃j:Nat,j≤ks.length∧i = .int .i64 (j:Int)∧∃(Ts:List ST) (A':Option Addr) (c':Nat),Ts.length=j∧Hid (Box wr gt 73 (trC k a b nm A ks.length c cal (.slice A' j c')))∧Hid (wr.ownsRow (gt+1) 73 11 (.slice A' j c') j (Ts.flatMap stF))∧Hid (∀i,i<j→StAt wr (Qv gt (.slice A' j c')) (Ts.getD i st0) (ks.getD i fe0))∧Hid (CalT wr (Qv gt (.slice A' j c')) k nm cal)∧Hid (Box wr gr 73 zTr)∧Hid (Below w.heap.size w wr)) (fun _ i _=>ks.length-(intOf i).toNat)
  case atStart=>exact⟨0,by omega,rfl,[],none,0,rfl,HT,World.ownsRow_nil _ _ _ _,(fun i hi=>by omega),HC.out.keep (fun b hb _=>⟨rfl,hb,fun e=>by cases e⟩) (Nat.le_refl _),HR,HB⟩
  case round =>
   obtain⟨j,hj,rfl,Ts,A',c',hTs,hT,hO,hS,hC2,hR2,hbr⟩:=hrel
   clear HT HR HC HB
   have hszr:=hbr.out.size
   have hw00:w0.heap.size≤w.heap.size:=HW0.out.size
   by_cases hlt:j<ks.length
   ·obtain⟨bb,o,rfl,hb,hc⟩:=HRow.out.open_ (qg qw (by omega) ks (by omega))
    have hc':∀i v,(ks.flatMap feF)[i]?=some v→wr.cell? ⟨bb,o+i,none⟩=some v:=fun i v hv=>((HW0.out.trans (hbr.out.mono hw00)).cell (p:=⟨bb,o+i,none⟩) hb).trans (hc i v hv)
    have hmem:ks.getD j fe0∈ks:=by
     rw[List.getD_eq_getElem?_getD,List.getElem?_eq_getElem hlt]
     exact List.getElem_mem hlt
    have HI0:=IH.out _ hmem
    generalize hx:ks.getD j fe0=x at *
    obtain⟨k',a',b',nm',A2,c2,ks'⟩:=x
    have y0:=jm qw fe0 hc' j 0 hlt (by omega) (.int .i64 k') (by rw[hx];rfl)
    have y1:=jm qw fe0 hc' j 1 hlt (by omega) (.int .i64 a') (by rw[hx];rfl)
    have y2:=jm qw fe0 hc' j 2 hlt (by omega) (.int .i64 b') (by rw[hx];rfl)
    have y3:=jm qw fe0 hc' j 3 hlt (by omega) (.string nm') (by rw[hx];rfl)
    have y4:=jm qw fe0 hc' j 4 hlt (by omega) (.slice A2 ks'.length c2) (by rw[hx];rfl)
    rw[Nat.add_zero] at y0
    have hbl:bb<wr.heap.size:=by omega
    have HI:Hid (∀W,Below w0.heap.size w0 W→Calls Tryz.prog 23 #[.agg #[.int .i64 k',.int .i64 a',.int .i64 b',.string nm',.slice A2 ks'.length c2]] W (Yl (.node k' a' b' nm' A2 c2 ks') W)):=HI0
    have HX:=hD hx
    have hba:=ja wr (Obj.cells #[.int .i64 k',.int .i64 a',.int .i64 b',.string nm',.slice A2 ks'.length c2] 24)
    have HB4:Hid (Below w.heap.size w (wr.alloc (Obj.cells #[.int .i64 k',.int .i64 a',.int .i64 b',.string nm',.slice A2 ks'.length c2] 24))):=hbr.out.alloc (by omega) _
    have HT4:=hD (hT.out.below hba)
    have HO4:=hD (jn hO.out hba)
    have HR4:=hD (hR2.out.below hba)
    have HX4:=hD (Box.new wr 24 #[.int .i64 k',.int .i64 a',.int .i64 b',.string nm',.slice A2 ks'.length c2])
    have HA4:=hD hba
    have hl4:(wr.alloc (Obj.cells #[.int .i64 k',.int .i64 a',.int .i64 b',.string nm',.slice A2 ks'.length c2] 24)).heap.size=wr.heap.size+1:=World.size_alloc _ _
    clear hc hc' HI0 hx hmem hba
    go_upto_region 7 with fail
    clear y0 y1 y2 y3 y4
    generalize wr.alloc (Obj.cells #[.int .i64 k',.int .i64 a',.int .i64 b',.string nm',.slice A2 ks'.length c2] 24)=w4 at *
    obtain⟨g5,hg5⟩:∃g5,g5=wr.heap.size:=⟨_,rfl⟩
    rw[←hg5] at HX4 hl4 ⊢
    have HG5:=hD hg5
    have hg5l:wr.heap.size≤g5:=by omega
    clear hg5
    have hown:=HO4.out
    obtain⟨row,hrow⟩:∃row,row=(Value.slice A' j c').ownBlock:=⟨_,rfl⟩
    have hlr:∀b,row=some b→gt+1≤b∧b<wr.heap.size:=fun b hb=>qq hO.out b (by rw[←hrow];exact hb)
    have HRw:=hD hrow
    clear hrow
    have hbl4:∀b,row=some b→b<w4.heap.size:=fun b hb=>by have:=hlr b hb;omega
    have d10:∀W,w4.grownBy W row→W.cell? ⟨gt,10,none⟩=some (.slice A' j c'):=fun W hW=>(HT4.out.grown hW (fun e=>by have:=hlr gt e.symm;omega)).cell 10
    have m5:∀W,w4.grownBy W row→Box W g5 24 #[.int .i64 k',.int .i64 a',.int .i64 b',.string nm',.slice A2 ks'.length c2]:=fun W hW=>HX4.out.grown hW (fun e=>by have:=hlr g5 e.symm;omega)
    have m0:∀W,w4.grownBy W row→W.cell? ⟨g5,0,none⟩=some (.int .i64 k'):=fun W hW=>(m5 W hW).cell 0
    have m1:∀W,w4.grownBy W row→W.cell? ⟨g5,1,none⟩=some (.int .i64 a'):=fun W hW=>(m5 W hW).cell 1
    have m2:∀W,w4.grownBy W row→W.cell? ⟨g5,2,none⟩=some (.int .i64 b'):=fun W hW=>(m5 W hW).cell 2
    have m3:∀W,w4.grownBy W row→W.cell? ⟨g5,3,none⟩=some (.string nm'):=fun W hW=>(m5 W hW).cell 3
    have m4:∀W,w4.grownBy W row→W.cell? ⟨g5,4,none⟩=some (.slice A2 ks'.length c2):=fun W hW=>(m5 W hW).cell 4
    have hb4:gt+1≤w4.heap.size:=by have:=HT4.out.lt;omega
    have hsz4:w.heap.size≤w4.heap.size:=by omega
    have hlrg:∀k,row=some k→w.heap.size≤k:=fun k hk=>by have:=hlr k hk;omega
    clear m5
    refine xS 7 5 row (jy [(3,je8 (.node k' a' b' nm' A2 c2 ks') (Qv gt (.slice A' j c')))]) (by kernel_rfl) (by kernel_rfl) ?_
    simp only[List.take_succ_cons,List.take_zero,List.drop_succ_cons,List.drop_zero]
    repeat (first|(refine vb (v:=?_) (by rfl) (by rfl) (fun w hb=>?_) ?_;rotate_left;(· go_simp<;>(repeat' apply And.intro)<;>with_reducible rfl);try simp only[pZ,Nat.reduceAdd])|(refine ye (by rfl) (by rfl) ?_;try simp only[pZ,Nat.reduceAdd]))
    refine Y5 (f:=?_) (args:=?_) (t:=je8 (.node k' a' b' nm' A2 c2 ks') (Qv gt (.slice A' j c'))) [] (by kernel_rfl) (by rfl) (by rfl) ⟨_,st0,rfl⟩ (fun v w w' hg h T e=>by obtain⟨T',e',hs⟩:=h T e;exact⟨T',e',hs.grown hg (fun b hp _ e=>hp.2 (by rw[←HRw.out];exact e.symm))⟩) (fun w hb=>?_) (fun w hb hu=>?_) ?_;rotate_left 2;(· go_simp<;>(repeat' apply And.intro)<;>with_reducible rfl)
    ·refine(HI.out _ ((HW0.out.trans ((HB4.out.grown hb hsz4 hlrg).mono hw00)))).mono ?_
     rintro e w' ⟨T,he,hs,hb'⟩
     have hsw:=hb.size
     exact⟨_,he,⟨T,rfl⟩,fun T2 e2=>⟨T,jcW e2,hs.more (fun b hp hl=>⟨by omega,fun e3=>by have:=hlr b (by rw[HRw.out];exact e3);omega⟩)⟩,hb'⟩
    rintro v ⟨T,rfl⟩
    obtain⟨k3,a3,b3,nm3,A3,c3,cal3,A4,c4,ks3⟩:=T
    dsimp only[stF,stL]
    try simp only[pZ,Nat.reduceAdd]
    refine JF (n:=?_) (c:=?_) (t:=?_) (cs:=?_) hbl4 (by rfl) (by rfl) (fun w hb=>?_) (fun g4 hg4=>?_);rotate_left 4;(· go_simp<;>(repeat' apply And.intro)<;>with_reducible rfl);try simp only[pZ,Nat.reduceAdd]
    refine ZM [4,3] (by kernel_rfl) rfl (by rfl) (by rfl) (.tmp 26) (.tmp 29) 71 rfl (gt+1) 73 i0 (.agg zTr) 11 168 Tryz.underlying71 hi0 hz0 hz1 hz2 rfl (by decide) (.slice A' j c') j (Ts.flatMap stF) rfl HRw.out hown hb4 ⟨g4,0,none⟩ 1 1 (stL k3 a3 b3 nm3 A3 ks3.length c3 cal3 A4 ks3.length c4) rfl rfl (fun w hb hu=>World.news_of_block (cs:=(stL k3 a3 b3 nm3 A3 ks3.length c3 cal3 A4 ks3.length c4).toArray) (t:=73) (fr:=(0,0)) (zZ hu)) (by simp[Value.oneCell',stL]) (fun w=>∃T':ST,stF T'=stL k3 a3 b3 nm3 A3 ks3.length c3 cal3 A4 ks3.length c4∧StAt w (Qv gt (.slice A' j c')) T' (.node k' a' b' nm' A2 c2 ks')) (fun w w' hb ⟨T',e,h⟩=>⟨T',e,h.next hb⟩) (fun w hb hu=>(VP (k:=3) rfl hu (by decide)) (.node k3 a3 b3 nm3 A3 c3 cal3 A4 c4 ks3) rfl)
     (fun r w=>(∃T':ST,stF T'=stL k3 a3 b3 nm3 A3 ks3.length c3 cal3 A4 ks3.length c4∧StAt w (fun b=>gt<b∧r≠some b) T' (.node k' a' b' nm' A2 c2 ks'))∧(r=row∨∃n,r=some n∧w4.heap.size≤n)) (fun r w w' hb ⟨⟨T',e,h⟩,h2⟩=>⟨⟨T',e,h.next hb⟩,h2⟩)
     (fun r w w' ⟨T',e,h⟩ hg hb hr=>⟨⟨T',e,h.keep (fun b hp hl=>⟨hg.block b hl (fun e=>hp.2 (by rw[←HRw.out];exact e.symm)),hp.1,fun e=>by
      rcases hr with hr|hr
      ·exact hp.2 (by rw[←HRw.out,←hr];exact e)
      ·rw[hr] at e;injection e with e;omega⟩) hg.size⟩,hr.imp id fun h=>⟨_,h,hb.size⟩⟩) (by simp only[maxLen];omega) (by omega) fun A8 cap=>?_
    try simp only[pZ,Nat.reduceAdd]
    repeat (first|(refine vb (v:=?_) (by rfl) (by rfl) (fun w hb=>?_) ?_;rotate_left;(· go_simp<;>(repeat' apply And.intro)<;>with_reducible rfl);try simp only[pZ,Nat.reduceAdd])|(refine ye (by rfl) (by rfl) ?_;try simp only[pZ,Nat.reduceAdd]))
    refine QN fun w7 hgrow hf=>?_
    obtain⟨hown7,⟨T',eT,hsT⟩,hrow7⟩:=hf.1
    have hx7:=HT4.out.grown hgrow (fun e=>by have:=hlr gt e.symm;omega)
    have hg7:gt<w7.heap.size:=hx7.lt
    have hf7:w7.frozen? ⟨gt,10,none⟩=false:=hx7.free 10
    have hc7:w7.cell? ⟨gt,10,none⟩=some (.slice A' j c'):=hx7.cell 10
    have hs7:=hgrow.size
    have hk8:∀b,b≠gt→(w7.setCell ⟨gt,10,none⟩ (.slice A8 (j+1) cap)).heap[b]?=w7.heap[b]?:=fun b hb=>Below.heap_setCell _ _ _ b hb
    have hs8:(w7.setCell ⟨gt,10,none⟩ (.slice A8 (j+1) cap)).heap.size=w7.heap.size:=by simp
    have HT8:Hid (Box (w7.setCell ⟨gt,10,none⟩ (.slice A8 (j+1) cap)) gt 73 (trC k a b nm (some ⟨bb,o,none⟩) ks.length c cal (.slice A8 (j+1) cap))):=hx7.set_ 10 _
    have HO8:Hid ((w7.setCell ⟨gt,10,none⟩ (.slice A8 (j+1) cap)).ownsRow (gt+1) 73 11 (.slice A8 (j+1) cap) (j+1) ((Ts++[T']).flatMap stF)):=by
     have e:(Ts++[T']).flatMap stF=Ts.flatMap stF++stL k3 a3 b3 nm3 A3 ks3.length c3 cal3 A4 ks3.length c4:=by rw[List.flatMap_append,←eT];simp
     unfold Hid
     rw[e]
     exact jx hown7 fun b hb=>hk8 b (by have:=(qq hown7 b hb).1;omega)
    have hkeep:∀b,Qv gt (.slice A' j c') b→b<wr.heap.size→(w7.setCell ⟨gt,10,none⟩ (.slice A8 (j+1) cap)).heap[b]?=wr.heap[b]?∧Qv gt (.slice A8 (j+1) cap) b:=fun b hp hl=>by
     have h1:=hp.1
     refine⟨(hk8 b (by omega)).trans ((hgrow.block b (by omega) (fun e=>hp.2 (by rw[←HRw.out];exact e.symm))).trans (HA4.out.block b hl)),h1,fun e=>?_⟩
     rcases hrow7 with h|⟨n,h,hn⟩
     ·exact hp.2 (by rw[←HRw.out,←h];exact e)
     ·rw[h] at e;injection e with e;omega
    have hkt:∀b,(gt<b∧(Value.slice A8 (j+1) cap).ownBlock≠some b)→b<w7.heap.size→(w7.setCell ⟨gt,10,none⟩ (.slice A8 (j+1) cap)).heap[b]?=w7.heap[b]?∧Qv gt (.slice A8 (j+1) cap) b:=fun b hp hl=>⟨hk8 b (by have:=hp.1;omega),hp⟩
    have HS8:Hid (∀i,i<j+1→StAt (w7.setCell ⟨gt,10,none⟩ (.slice A8 (j+1) cap)) (Qv gt (.slice A8 (j+1) cap)) ((Ts++[T']).getD i st0) (ks.getD i fe0)):=fun i hi=>by
     by_cases hij:i<j
     ·have e:(Ts++[T']).getD i st0=Ts.getD i st0:=by simp[List.getD_eq_getElem?_getD,List.getElem?_append_left (show i<Ts.length by omega)]
      rw[e]
      exact(hS.out i hij).keep hkeep (by omega)
     ·obtain rfl:i=j:=by omega
      have e:(Ts++[T']).getD i st0=T':=by simp[List.getD_eq_getElem?_getD,←hTs]
      rw[e,HX.out]
      exact hsT.keep hkt (by omega)
    have HC8:=hD (hC2.out.keep hkeep (by omega))
    have HR8:Hid (Box (w7.setCell ⟨gt,10,none⟩ (.slice A8 (j+1) cap)) gr 73 zTr):=(HR4.out.grown hgrow (fun e=>by have:=hlr gr e.symm;omega)).far (p:=⟨gt,10,none⟩) (by show gr≠gt;omega) _
    have HB8:Hid (Below w.heap.size w (w7.setCell ⟨gt,10,none⟩ (.slice A8 (j+1) cap))):=(HB4.out.grown hgrow hsz4 hlrg).setCell (p:=⟨gt,10,none⟩) (by show w.heap.size≤gt;omega) _
    clear hown7 hsT hrow7 hgrow hf hx7 hkeep hkt hk8 hs8 d10 m0 m1 m2 m3 m4 hS hC2 hR2 hT hO hbr HT4 HO4 HR4 HX4 HA4 HB4 hown hlr hlrg hbl4
    refine wpList_step fun K hK=>?_
    rw[if_pos (by rfl)]
    go_simp
    refine hK _ _ (wpList_nil ?_)
    clear hK K hg7 hf7 hc7
    generalize w7.setCell ⟨gt,10,none⟩ (.slice A8 (j+1) cap)=w8 at *
    go_wp2_with fail
    go_roundw
    case rel=>exact⟨j+1,by omega,by go_num,Ts++[T'],A8,cap,by simp[hTs],HT8,HO8,HS8,HC8,HR8,HB8⟩
    case measure=>simp[intOf];omega
   ·obtain rfl:j=ks.length:=by omega
    have hTl:=hT.out.lt
    have hRl:=hR2.out.lt
    have z0:wr.cell? ⟨gt,0,none⟩=some (.int .i64 k):=hT.out.cell 0
    have z1:wr.cell? ⟨gt,1,none⟩=some (.int .i64 a):=hT.out.cell 1
    have z2:wr.cell? ⟨gt,2,none⟩=some (.int .i64 b):=hT.out.cell 2
    have z3:wr.cell? ⟨gt,3,none⟩=some (.string nm):=hT.out.cell 3
    have z4:wr.cell? ⟨gt,4,none⟩=some (.slice A ks.length c):=hT.out.cell 4
    have z5:wr.cell? ⟨gt,5,none⟩=some (.string cal.nm):=hT.out.cell 5
    have z6:wr.cell? ⟨gt,6,none⟩=some (.int .i64 cal.ep):=hT.out.cell 6
    have z7:wr.cell? ⟨gt,7,none⟩=some (.int .i64 cal.cy):=hT.out.cell 7
    have z8:wr.cell? ⟨gt,8,none⟩=some (.slice cal.A1 cal.mo.length cal.c1):=hT.out.cell 8
    have z9:wr.cell? ⟨gt,9,none⟩=some (.slice cal.A2 cal.lp.length cal.c2):=hT.out.cell 9
    have z10:wr.cell? ⟨gt,10,none⟩=some (.slice A' ks.length c'):=hT.out.cell 10
    have rf:∀i,wr.frozen? ⟨gr,i,none⟩=false:=fun i=>hR2.out.free i
    have r0:wr.cell? ⟨gr,0,none⟩=some (.int .i64 0):=hR2.out.cell 0
    have r1:wr.cell? ⟨gr,1,none⟩=some (.int .i64 0):=hR2.out.cell 1
    have r2:wr.cell? ⟨gr,2,none⟩=some (.int .i64 0):=hR2.out.cell 2
    have r3:wr.cell? ⟨gr,3,none⟩=some (.string ⟨#[]⟩):=hR2.out.cell 3
    have r4:wr.cell? ⟨gr,4,none⟩=some (.slice none 0 0):=hR2.out.cell 4
    have r5:wr.cell? ⟨gr,5,none⟩=some (.string ⟨#[]⟩):=hR2.out.cell 5
    have r6:wr.cell? ⟨gr,6,none⟩=some (.int .i64 0):=hR2.out.cell 6
    have r7:wr.cell? ⟨gr,7,none⟩=some (.int .i64 0):=hR2.out.cell 7
    have r8:wr.cell? ⟨gr,8,none⟩=some (.slice none 0 0):=hR2.out.cell 8
    have r9:wr.cell? ⟨gr,9,none⟩=some (.slice none 0 0):=hR2.out.cell 9
    have r10:wr.cell? ⟨gr,10,none⟩=some (.slice none 0 0):=hR2.out.cell 10
    have HTs:=hD hTs
    clear hTs
    go_wp2_with fail
    refine bodyPost_ret (v:=.agg (stF (.node k a b nm A c cal A' c' Ts)).toArray) (by rw[stF,HTs.out];simp[stL,results,Tryz.results23,go_sem,r0,r1,r2,r3,r4,r5,r6,r7,r8,r9,r10]) rfl ?_
    have hg9:=jS (jS (jS (jS (jS (jS (jS (jS (jS (jS (jS (g:=gr) (jG wr (some gr)) 0 (.int .i64 k)) 1 (.int .i64 a)) 2 (.int .i64 b)) 3 (.string nm)) 4 (.slice A ks.length c)) 5 (.string cal.nm)) 6 (.int .i64 cal.ep)) 7 (.int .i64 cal.cy)) 8 (.slice cal.A1 cal.mo.length cal.c1)) 9 (.slice cal.A2 cal.lp.length cal.c2)) 10 (.slice A' ks.length c')
    have hk9:∀b,Qv gt (.slice A' ks.length c') b→b<wr.heap.size→_∧w.heap.size≤b:=fun b hp hl=>⟨hg9.block b hl (fun e=>by injection e with e;have:=hp.1;omega),by have:=hp.1;omega⟩
    have hrow9:RowAt wr (fun b=>gt+1≤b) A' (Ts.flatMap stF):=jaq hO.out
    refine⟨.node k a b nm A c cal A' c' Ts,rfl,.mk HK.out.1 HK.out.2.1 HK.out.2.2.1 HK.out.2.2.2 HTs.out (hrow9.keep (fun b hp hl=>⟨hg9.block b hl (fun e=>by injection e with e;omega),by omega⟩) hg9.size) (fun e=>?_) (fun i hi=>(hS.out i (by rw[←HTs.out];exact hi)).keep hk9 hg9.size),hbr.out.grown hg9 (by omega) (fun k hk=>by injection hk with hk;omega)⟩
    obtain⟨r,q1,q2,q3,q4⟩:=hC2.out e
    exact⟨r,q1,q2,q3,q4.keep hk9 hg9.size⟩
end
end Go.Proofs.YtkkjaaognefeiaaGreatDoor
