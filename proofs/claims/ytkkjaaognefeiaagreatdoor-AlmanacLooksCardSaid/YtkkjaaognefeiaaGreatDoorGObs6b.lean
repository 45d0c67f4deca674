/- Cal5, Obs6b, Cal6, Cal7, Cal8 -/
import Derived.Deep.OwnRows
import Derived.Test.YtkkjaaognefeiaaGreatDoorGRuleArg
import Derived.Test.YtkkjaaognefeiaaGreatDoorGPlainFrac
set_option maxRecDepth 100000
set_option maxHeartbeats 16000000
set_option linter.unusedVariables false
set_option linter.unusedSimpArgs false
namespace Go.Proofs.YtkkjaaognefeiaaGreatDoor
section
open Go.Lib Go.RowKit
theorem jew:(Tryz.prog.info? 155).map (fun i=>(i.zero,i.size,i.bytes))=some (some (.agg #[.string ⟨#[]⟩,.int .i64 0,.int .i64 0]),3,32):=by kernel_rfl
theorem ja0 (l:List Mth):∀u∈l.flatMap zp,u.oneCell'=true:=fun u hu=>by
 obtain⟨x,_,hx⟩:=List.mem_flatMap.1 hu
 simp[zp] at hx
 rcases hx with rfl|rfl|rfl<;>rfl
theorem Vg (A:Option Addr) (c:Nat) (l:List Mth) (w:World) (hr:Row w w.heap.size A (l.flatMap zp)) (h0:0<l.length) (hn:l.length≤1000000) :
  Calls Tryz.prog 85 #[.slice A l.length c] w fun e w'=>∃v,e = .returned v∧w'.ownsRow w.heap.size 155 3 v l.length (l.flatMap zp)∧Below w.heap.size w w':=by
 obtain⟨i0,hi0,hz0,hz1,hz2⟩:=info_parts jew
 obtain⟨b,o,rfl,hb,hcs⟩:=hr.open_ (qg jO (by omega) l h0)
 have HN:=hD (Ya (w:=w.alloc (.cells #[] 155)) (fun j v hv=>(World.cell?_alloc_lt w _ ⟨b,o+j,none⟩ hb).trans (hcs j v hv)))
 have HO:Hid ((w.alloc (.cells #[] 155)).ownsRow w.heap.size 155 3 (.slice (some ⟨w.heap.size,0,none⟩) 0 0) 0 []):=World.ownsRow_made w #[] 0 (Nat.le_refl _) (by unfold maxLen;omega) (by simp)
 have hil:=hD (yC jO l)
 clear hcs hr
 have hnil:∀w,(binOp .eql 68 (.slice (some ⟨b,o,none⟩) l.length c) (.slice none 0 0)).run Tryz.prog w = .ok (.bool false) w:=fun w=>Lib.run_eql_slice_nil w 68 _ _ _ _ _ _ Tryz.underlying68
 go_enter Tryz.func85,Tryz.ntmps85
 go_wp2_with (at_builtin;refine wpList_append_own _ rfl (.tmp 5) (.tmp 6) 68 rfl w.heap.size 155 i0 (.agg #[.string ⟨#[]⟩,.int .i64 0,.int .i64 0]) 3 32 Tryz.underlying68 hi0 hz0 hz1 hz2 rfl (by decide) _ 0 [] rfl HO.out ⟨b,o,none⟩ l.length c (l.flatMap zp) rfl ?c0 ?c1 ?c2 ?c3 ?c4 ?c5 ?_)
 case c0=>rw[hil.out]
 case c1=>exact HN.out
 case c2=>exact ja0 l
 case c3=>simp only[maxLen];omega
 case c4=>omega
 case c5=>simp
 intro v' w3 hown' hgrow _
 have hB:Below w.heap.size w w3:=(ja w _).grown hgrow (by simp) (fun k hk=>by simp[Value.ownBlock] at hk;omega)
 try simp only[Nat.zero_add,List.nil_append] at hown'
 clear hgrow
 go_wp2_with fail
 go_ret
 exact⟨v',rfl,hown',hB⟩
def jcn (lp:List Int) (n:Nat):List Bool:=(List.range n).map fun(i:Nat)=>decide ((i:Int)+1∈lp)
structure OnlyAt (B n:Nat) (w w':World):Prop where
 be:Below B w w'
 sz:w.heap.size≤w'.heap.size
 bl:∀b,b<w.heap.size→w'.heap[b]?=w.heap[b]?∨∃cs x,w.heap[b]?=some (.cells cs 3 (0,0))∧w'.heap[b]?=some (.cells (cs.setIfInBounds n x) 3 (0,0))∧n<cs.size
section
variable {B n:Nat} {w w':World}
theorem OnlyAt.box (h:OnlyAt B n w w') {g:Nat} {t:TypeId} {cs:Array Value} (hx:Box w g t cs) (hn:t≠3∨cs.size≤n):Box w' g t cs:=by
 rcases h.bl g hx.lt with e|⟨cs',x,e1,e2,e3⟩
 ·exact e.trans hx
 ·have:=hx.symm.trans e1
  simp at this
  rcases hn with hn|hn
  ·exact absurd this.2 hn
  ·rw[this.1] at hn;omega
theorem OnlyAt.own (h:OnlyAt B n w w') {base m:Nat} {v:Value} {xs:List Value} (ho:w.ownsRow base 3 1 v m xs) (hm:m≤n):w'.ownsRow base 3 1 v m xs:=by
 refine⟨ho.1,?_⟩
 rcases ho.2 with hn|⟨g,cap,cur,hv,hbb,hg,h1,h2,h3,h4⟩
 ·exact .inl hn
 ·have hlt:g<w.heap.size:=by
   rcases Nat.lt_or_ge g w.heap.size with h'|h'
   ·exact h'
   ·simp[Array.getElem?_eq_none h'] at hg
  rcases h.bl g hlt with e|⟨cs',x,e1,e2,e3⟩
  ·exact .inr ⟨g,cap,cur,hv,hbb,e.trans hg,h1,h2,h3,h4⟩
  ·have:=hg.symm.trans e1
   simp at this
   subst this
   refine .inr ⟨g,cap,cur.setIfInBounds n x,hv,hbb,e2,h1,h2,by simpa using h3,?_⟩
   rw[←h4]
   simp only[Array.toList_setIfInBounds,Nat.mul_one]
   rw[List.take_set_of_le hm]
end
section
variable {P:Program} {ops:Array Oper} {S:Nat→Option (World→World→Prop)} {w0:World} {R:Nat→Option Told} {E:Act→World→Prop} {o:Oper} {rest:List Oper} {k:Nat} {a:Act} {L:List xK}
end
end
section
open Go.RowKit
theorem Q8 {w:World} {base:Nat} {e:TypeId} {s:Nat} {v:Value} {n:Nat} {xs:List Value} {g:Nat} {ty:TypeId} {cs:Array Value} (h:w.ownsRow base e s v n xs) (hb:Box w g ty cs) (hne:e≠ty) (b:Nat) (hv:v.ownBlock=some b):b≠g:=by
 intro e'
 subst e'
 rcases h.2 with⟨rfl,_⟩|⟨g',cap,cur,rfl,_,hg,_⟩
 ·simp[Value.ownBlock] at hv
 ·have:g'=b:=by simpa[Value.ownBlock] using hv
  subst this
  unfold Box at hb
  rw[hg] at hb
  simp at hb
  exact hne hb.2
def Per (lp:List Int) (N n:Nat):Prop:=N%n=0∧(jcn lp N).drop n=(jcn lp N).take (N-n)
structure IsLeast (lp:List Int) (N n:Nat):Prop where
 n1:1≤n
 n2:n≤N
 per:Per lp N n
 min:∀m,1≤m→m<n→¬Per lp N m
def JI (e:TypeId) (s base n:Nat) (xs:List Value):Told:=⟨fun v=>∃A c,v = .slice A n c,fun v w=>w.ownsRow base e s v n xs⟩
section
variable {P:Program} {ops:Array Oper} {w0:World} {R:Nat→Option Told} {E:Act→World→Prop} {o:Oper} {rest:List Oper} {k:Nat} {a:Act} {L:List xK}
theorem jaX {e:TypeId} {s base n:Nat} {xs:List Value} {f:FuncId} {args:Array Value} (use:List Nat) (hu:yH ops k use=true) (hR:R k=some (JI e s base n xs)) (hw:Region.wanted o (yielded ops a.tmps)=true)
  (h:∀w,Below w0.heap.size w0 w→(execOp a.eval o).run P w = .ok (.enter f args) w)
  (hc:∀w,Below w0.heap.size w0 w→vy use L w→Calls P f args w fun e' w'=>∃v,e' = .returned v∧w'.ownsRow base e s v n xs∧Below w.heap.size w w')
  (hr:∀A c,zT P ops w0 R E rest (k+1) (a.put o.dst (.slice A n c)) ((k,fun w=>w.ownsRow base e s (.slice A n c) n xs)::L)):zT P ops w0 R E (o::rest) k a L:=by
 refine jl (t:=JI e s base n xs) use hu hR hw ⟨_,none,0,rfl⟩ (fun v w w' hb hF=>jn hF hb) h (fun w hb hl=>(hc w hb hl).mono fun e' w' ⟨v,he,ho,hb'⟩=>⟨v,he,?_,ho,hb'⟩) fun v hv=>?_
 ·obtain⟨A,c,rfl,_⟩:=jI ho
  exact⟨A,c,rfl⟩
 ·obtain⟨A,c,rfl⟩:=hv
  exact hr A c
end
theorem oneI (x:Int):∀u∈[Value.int .i64 x],u.oneCell'=true:=fun u hu=>by simp at hu;subst hu;rfl
abbrev qn:Array Value:=#[.string ⟨#[]⟩,.int .i64 0,.int .i64 0,.slice none 0 0,.slice none 0 0]
end
section
open Go.RowKit
def yrs (n:Nat):List Int:=(List.range n).map fun(i:Nat)=>(i:Int)+1
theorem jdf (n:Nat):yrs (n+1)=yrs n++[(n:Int)+1]:=by simp[yrs,List.range_succ]
theorem jdE (n:Nat):(yrs n).length=n:=by simp[yrs]
theorem jfu {l:List Int} {lo hi:Int} (hp:l.Pairwise (·<·)) (hm:∀x∈l,lo≤x∧x≤hi):Inc l lo hi:=fun i hi'=>by
 have e:∀j (hj:j<l.length),l.getD j 0=l[j]:=fun j hj=>by simp[List.getD,List.getElem?_eq_getElem hj]
 refine⟨by rw[e i hi'];exact hm _ (List.getElem_mem hi'),fun h0=>?_⟩
 rw[e i hi',e (i-1) (by omega)]
 exact List.pairwise_iff_getElem.1 hp (i-1) i (by omega) hi' (by omega)
theorem jdX (n:Nat) (p:Int→Bool):Inc ((yrs n).filter p) 1 n:=by
 refine jfu (List.Pairwise.filter _ ?_) (fun x hx=>?_)
 ·unfold yrs
  rw[List.pairwise_map]
  exact List.pairwise_lt_range.imp fun h=>by omega
 ·obtain⟨h,_⟩:=List.mem_filter.1 hx
  unfold yrs at h
  obtain⟨i,hi,rfl⟩:=List.mem_map.1 h
  have:=List.mem_range.1 hi
  omega
def Tr.leaps (t:Tr) (n:Nat):List Int:=(yrs n).filter fun y=>(jB y t.ex).1 != 0
abbrev jb0:Cal:=⟨⟨#[]⟩,0,0,[],[],none,0,none,0⟩
def je0 (t:Tr) (w:World) (e:Ending) (w':World):Prop :=
 ∃(c:Cal) (E:Int),e = .returned (.tuple #[c.val,.int .i64 E])∧Below w.heap.size w w'∧(E=0→(TrOk t∧c.nm=t.nm∧c.ep=t.ep∧c.cy=t.cy∧c.mo=t.mo∧c.lp=t.leaps t.cy.toNat∧CalIn w' c∧CalFit c∧CalOk c∧(∀a,c.A1=some a→w.heap.size≤a.block)∧(∀a,c.A2=some a→w.heap.size≤a.block))∧∀i:Nat,(i:Int)<t.cy→(jB ((i:Int)+1) t.ex).2=0) ∧
  (E≠0→TrOk t→c=jb0∧∃j:Nat,(j:Int)<t.cy∧E=(jB ((j:Int)+1) t.ex).2∧∀i:Nat,i<j→(jB ((i:Int)+1) t.ex).2=0)
theorem Zy (t:Tr) (w:World) (hr:TrIn w t) (hf:TrFit t):Calls Tryz.prog 63 #[t.val] w (je0 t w):=by
 have hx:=(Box.new w 128 t.cells).alloc (Obj.cells qn 70)
 have hz:=Box.new (w.alloc (Obj.cells t.cells 128)) 70 qn
 rw[World.size_alloc] at hz
 have HB:=hD (jh w (Obj.cells t.cells 128) (Obj.cells qn 70))
 have HR:=hD (hr.next HB.out)
 have HX:=hD hx
 have HZ:=hD hz
 have HF:=hD hf
 clear hr hf hx hz
 go_enter Tryz.func63,Tryz.ntmps63
 go_wp2_with fail
 generalize (w.alloc (Obj.cells t.cells 128)).alloc (Obj.cells qn 70)=W0 at *
 obtain⟨g,hg⟩:∃g,g=w.heap.size:=⟨_,rfl⟩
 rw[←hg] at HX HZ
 rw[←hg]
 have hgw:w.heap.size≤g+1:=by omega
 clear hg
 refine(Je t _ HR.out HF.out).mono ?_
 rintro e w1 ⟨E1,rfl,hE1,hb1⟩
 have HE1:=hD hE1
 replace HX:=hD (HX.out.below hb1)
 replace HZ:=hD (HZ.out.below hb1)
 replace HB:=hD (jb HB.out hb1)
 replace HR:=hD (HR.out.next hb1)
 clear hE1 hb1
 by_cases e1:E1=0
 case neg =>
  have t1:(E1 != 0)=true:=by rw[bne_iff_ne];exact e1
  obtain⟨r0,r1,r2,r3,r4⟩:w1.cell? ⟨g+1,0,none⟩=some (.string ⟨#[]⟩)∧w1.cell? ⟨g+1,1,none⟩=some (.int .i64 0)∧w1.cell? ⟨g+1,2,none⟩=some (.int .i64 0)∧w1.cell? ⟨g+1,3,none⟩=some (.slice none 0 0)∧w1.cell? ⟨g+1,4,none⟩=some (.slice none 0 0):=⟨HZ.out.cell 0,HZ.out.cell 1,HZ.out.cell 2,HZ.out.cell 3,HZ.out.cell 4⟩
  have rf:=fun i=>HZ.out.free i
  have HBB:=hD ((((((HB.out).setCell (p:=⟨g+1,0,none⟩) hgw (.string ⟨#[]⟩)).setCell (p:=⟨g+1,1,none⟩) hgw (.int .i64 0)).setCell (p:=⟨g+1,2,none⟩) hgw (.int .i64 0)).setCell (p:=⟨g+1,3,none⟩) hgw (.slice none 0 0)).setCell (p:=⟨g+1,4,none⟩) hgw (.slice none 0 0))
  have HN:Hid (¬TrOk t):=fun hq=>e1 (HE1.out.2 hq)
  clear HE1
  go_wp2_with fail
  refine bodyPost_ret (v:=.tuple #[jb0.val,.int .i64 E1]) (by simp[results,Tryz.results63,go_sem,r0,r1,r2,r3,r4]) rfl ?_
  exact⟨jb0,E1,rfl,HBB.out,fun h=>absurd h e1,fun _ hq=>absurd hq HN.out⟩
 subst e1
 have HOK:=hD (HE1.out.1 rfl)
 clear HE1
 obtain⟨_,_,hcy1,hcy2⟩:=HOK.out.hd
 go_upto_region 4 with fail
 have c0:=fun W hb=>Jt (t:=t) (HX.out.below (w':=W) hb)
 refine jr 11 (jy [(8,JI 155 3 w1.heap.size t.mo.length (t.mo.flatMap zp))]) (by kernel_rfl) (by kernel_rfl) ?_
 simp only[List.take_succ_cons,List.take_zero,List.drop_succ_cons,List.drop_zero]
 repeat (first|(refine jf (v:=?_) (by rfl) (by rfl) (fun w hb=>?_) ?_;rotate_left;(· go_simp<;>(repeat' apply And.intro)<;>with_reducible rfl);try simp only[pZ,Nat.reduceAdd])|(refine je (by rfl) (by rfl) ?_;try simp only[pZ,Nat.reduceAdd]))
 refine jaX (f:=?_) (args:=?_) [] (by kernel_rfl) (by rfl) (by rfl) (fun w hb=>?_) (fun w hb hu=>?_) (fun A7 c7=>?_);rotate_left 2;(· go_simp<;>(repeat' apply And.intro)<;>with_reducible rfl)
 ·exact(Vg t.A1 t.c1 t.mo w (HR.out.r1.next hb) HOK.out.mo.n1 (by have:=HOK.out.mo.n2;omega)).mono fun e w' ⟨v,he,ho,hb'⟩=>⟨v,he,jM ho hb.size,hb'⟩
 try simp only[pZ,Nat.reduceAdd]
 repeat (first|(refine jf (v:=?_) (by rfl) (by rfl) (fun w hb=>?_) ?_;rotate_left;(· go_simp<;>(repeat' apply And.intro)<;>with_reducible rfl);try simp only[pZ,Nat.reduceAdd])|(refine je (by rfl) (by rfl) ?_;try simp only[pZ,Nat.reduceAdd]))
 refine zH (t:=?_) (cs:=?_) (by rfl) (by rfl) (fun w hb=>?_) (fun g9 hg9=>?_);rotate_left 2;(· go_simp<;>(repeat' apply And.intro)<;>with_reducible rfl);try simp only[pZ,Nat.reduceAdd]
 refine jo fun w4 hb4 hf=>?_
 have hb9:=hf.1
 have ho7:=hf.2.1
 clear hf
 obtain⟨z0,z1,z2,z3,z4⟩:w4.cell? ⟨g9,0,none⟩=some (.string ⟨#[]⟩)∧w4.cell? ⟨g9,1,none⟩=some (.int .i64 0)∧w4.cell? ⟨g9,2,none⟩=some (.int .i64 0)∧w4.cell? ⟨g9,3,none⟩=some (.slice none 0 0)∧w4.cell? ⟨g9,4,none⟩=some (.slice none 0 0):=⟨hb9.cell 0,hb9.cell 1,hb9.cell 2,hb9.cell 3,hb9.cell 4⟩
 have zf:=fun i=>hb9.free i
 have hb5:Box (((((w4.setCell ⟨g9,0,none⟩ (.string t.nm)).setCell ⟨g9,1,none⟩ (.int .i64 t.ep)).setCell ⟨g9,2,none⟩ (.int .i64 t.cy)).setCell ⟨g9,3,none⟩ (.slice A7 t.mo.length c7)).setCell ⟨g9,4,none⟩ (.slice none 0 0)) g9 70 #[.string t.nm,.int .i64 t.ep,.int .i64 t.cy,.slice A7 t.mo.length c7,.slice none 0 0]:=((((hb9.set_ 0 (.string t.nm)).set_ 1 (.int .i64 t.ep)).set_ 2 (.int .i64 t.cy)).set_ 3 (.slice A7 t.mo.length c7)).set_ 4 (.slice none 0 0)
 have HB5:=hD (((((hb4.setCell (p:=⟨g9,0,none⟩) hg9 (.string t.nm)).setCell (p:=⟨g9,1,none⟩) hg9 (.int .i64 t.ep)).setCell (p:=⟨g9,2,none⟩) hg9 (.int .i64 t.cy)).setCell (p:=⟨g9,3,none⟩) hg9 (.slice A7 t.mo.length c7)).setCell (p:=⟨g9,4,none⟩) hg9 (.slice none 0 0))
 have hne:∀b,(Value.slice A7 t.mo.length c7).ownBlock=some b→b≠g9:=fun b hb=>Q8 ho7 hb9 (by decide) b hb
 have HO7:Hid ((((((w4.setCell ⟨g9,0,none⟩ (.string t.nm)).setCell ⟨g9,1,none⟩ (.int .i64 t.ep)).setCell ⟨g9,2,none⟩ (.int .i64 t.cy)).setCell ⟨g9,3,none⟩ (.slice A7 t.mo.length c7)).setCell ⟨g9,4,none⟩ (.slice none 0 0)).ownsRow w1.heap.size 155 3 (.slice A7 t.mo.length c7) t.mo.length (t.mo.flatMap zp)):=jx ho7 fun b hb=>by
  have h:=hne b hb
  rw[Below.heap_setCell _ _ _ b h,Below.heap_setCell _ _ _ b h,Below.heap_setCell _ _ _ b h,Below.heap_setCell _ _ _ b h,Below.heap_setCell _ _ _ b h]
 have HBX:=hD hb5
 clear ho7 hb9 hb4 c0 hne hb5
 refine wpList_step fun K hK=>?_
 rw[if_pos (by rfl)]
 go_simp
 refine hK _ _ (wpList_nil ?_)
 clear hK K z0 z1 z2 z3 z4 zf
 generalize ((((w4.setCell ⟨g9,0,none⟩ (.string t.nm)).setCell ⟨g9,1,none⟩ (.int .i64 t.ep)).setCell ⟨g9,2,none⟩ (.int .i64 t.cy)).setCell ⟨g9,3,none⟩ (.slice A7 t.mo.length c7)).setCell ⟨g9,4,none⟩ (.slice none 0 0)=W5 at *
 go_wp2_with fail
 obtain⟨LB,hLB⟩:∃LB,LB=W5.heap.size:=⟨_,rfl⟩
 have HLB:=hD hLB
 have h9L:g9<LB:=by rw[hLB];exact HBX.out.lt
 have h3L:w1.heap.size≤LB:=by rw[hLB];exact HB5.out.size
 have h7L:Hid (∀b,(Value.slice A7 t.mo.length c7).ownBlock=some b→b<LB):=fun b hb=>by rw[hLB];exact(qq HO7.out b hb).2
 clear hLB
 obtain⟨i0,hi0,hz0,hz1,hz2⟩:=info_parts vT
 go_loopw [6] (fun i wr=>∃(j:Nat) (lv:Value),(j:Int)≤t.cy∧i = .int .i64 ((j:Int)+1)∧Hid (Box wr g9 70 #[.string t.nm,.int .i64 t.ep,.int .i64 t.cy,.slice A7 t.mo.length c7,lv])∧Hid (wr.ownsRow LB 3 1 lv (t.leaps j).length (jZ (t.leaps j)))∧Hid (wr.ownsRow w1.heap.size 155 3 (.slice A7 t.mo.length c7) t.mo.length (t.mo.flatMap zp))∧Hid (Below w1.heap.size w1 wr)∧LB≤wr.heap.size∧Hid (∀i:Nat,i<j→(jB ((i:Int)+1) t.ex).2=0)) (fun i _=>(t.cy+1-intOf i).toNat)
 case atStart=>exact⟨0,.slice none 0 0,by omega,rfl,HBX,World.ownsRow_nil _ _ _ _,HO7,HB5,by rw[HLB.out];omega,fun i h=>absurd h (Nat.not_lt_zero i)⟩
 case round =>
  clear HBX HO7 HB5 HLB
  obtain⟨j,lv,hj,rfl,hbx,hlv,ho7,hb5,hLw,hev⟩:=hrel
  have hfl:(t.leaps j).length≤j:=by
   have:=List.length_filter_le (fun y=>(jB y t.ex).1 != 0) (yrs j)
   rw[jdE] at this
   exact this
  obtain⟨x0,x1,x2,x3,x4,x5,x6⟩:=Jt (t:=t) (HX.out.below hb5.out)
  by_cases hlt:(j:Int)+1≤t.cy
  ·have t0:decide ((j:Int)+1≤t.cy)=true:=decide_eq_true hlt
   have HEv:=hD (KH ((j:Int)+1) t.ex wr (HR.out.next hb5.out).ex (by omega) (by omega))
   have hst:Hid (t.leaps (j+1)=t.leaps j++(if (jB ((j:Int)+1) t.ex).1 != 0 then[(j:Int)+1] else[])):=by
    unfold Hid Tr.leaps
    rw[jdf,List.filter_append]
    simp only[List.filter_cons,List.filter_nil]
   go_wp2_with fail
   refine HEv.out.mono ?_
   rintro e w5 ⟨v,E,rfl,hbe,hcase⟩
   clear HEv x0 x1 x2 x3 x4 x5 x6
   replace hbx:=hD (hbx.out.below hbe)
   replace hlv:=hD (jn hlv.out hbe)
   replace ho7:=hD (jn ho7.out hbe)
   replace hb5:=hD (jb hb5.out hbe)
   replace hLw:LB≤w5.heap.size:=Nat.le_trans hLw hbe.size
   clear hbe
   have hEv:(v,E)=jB ((j:Int)+1) t.ex:=by
    rcases hcase with⟨_,h⟩|⟨h,_⟩
    ·exact h
    ·exact absurd HOK.out.ex h
   have hv1:Hid (v=(jB ((j:Int)+1) t.ex).1):=congrArg Prod.fst hEv
   have hE2:Hid (E=(jB ((j:Int)+1) t.ex).2):=congrArg Prod.snd hEv
   clear hcase hEv
   rw[←hv1.out] at hst
   by_cases hE:E=0
   case neg =>
    have t1:(E != 0)=true:=by rw[bne_iff_ne];exact hE
    have hz1':=HZ.out.below hb5.out
    obtain⟨r0,r1,r2,r3,r4⟩:w5.cell? ⟨g+1,0,none⟩=some (.string ⟨#[]⟩)∧w5.cell? ⟨g+1,1,none⟩=some (.int .i64 0)∧w5.cell? ⟨g+1,2,none⟩=some (.int .i64 0)∧w5.cell? ⟨g+1,3,none⟩=some (.slice none 0 0)∧w5.cell? ⟨g+1,4,none⟩=some (.slice none 0 0):=⟨hz1'.cell 0,hz1'.cell 1,hz1'.cell 2,hz1'.cell 3,hz1'.cell 4⟩
    have rf:=fun i=>hz1'.free i
    have HBB:=hD (((((((jb HB.out hb5.out)).setCell (p:=⟨g+1,0,none⟩) hgw (.string ⟨#[]⟩)).setCell (p:=⟨g+1,1,none⟩) hgw (.int .i64 0)).setCell (p:=⟨g+1,2,none⟩) hgw (.int .i64 0)).setCell (p:=⟨g+1,3,none⟩) hgw (.slice none 0 0)).setCell (p:=⟨g+1,4,none⟩) hgw (.slice none 0 0))
    clear hz1' hst hv1
    go_wp2_with fail
    refine bodyPost_ret (v:=.tuple #[jb0.val,.int .i64 E]) (by simp[results,Tryz.results63,go_sem,r0,r1,r2,r3,r4]) rfl ?_
    exact⟨jb0,E,rfl,HBB.out,fun h=>absurd h hE,fun _ _=>⟨rfl,j,by omega,hE2.out,hev.out⟩⟩
   subst hE
   have hev2:Hid (∀i:Nat,i<j+1→(jB ((i:Int)+1) t.ex).2=0):=fun i hi=>by
    by_cases h:i<j
    ·exact hev.out i h
    ·obtain rfl:i=j:=by omega
     exact hE2.out.symm
   clear hev hE2
   have e3:IntKind.i64.wrap ((j:Int)+1+1)=(j:Int)+1+1:=ji _ (by omega) (by omega)
   have e4:Hid (((j+1:Nat):Int)+1=(j:Int)+1+1):=by unfold Hid;omega
   by_cases hv0:v=0
   ·have t1:(v != 0)=false:=by simpa using hv0
    have hst2:Hid (t.leaps (j+1)=t.leaps j):=by unfold Hid;rw[hst.out,t1];simp
    clear hst hv1 hv0
    go_wp2_with fail
    go_roundw
    case rel=>exact⟨j+1,lv,by omega,by rw[e4.out],hbx,by rw[hst2.out];exact hlv,ho7,hb5,hLw,hev2⟩
    case measure=>simp[intOf];omega
   ·have t1:(v != 0)=true:=by simpa using hv0
    have hst2:Hid (t.leaps (j+1)=t.leaps j++[(j:Int)+1]):=by unfold Hid;rw[hst.out,t1];simp
    clear hst hv1 hv0
    generalize t.leaps j=fl at *
    have z4:w5.cell? ⟨g9,4,none⟩=some lv:=hbx.out.cell 4
    go_wp2_with (at_builtin;refine wpList_append_own _ rfl (.tmp 45) (.tmp 47) 39 rfl LB 3 i0 (.int .i64 0) 1 8 Tryz.underlying39 hi0 hz0 hz1 hz2 rfl (by decide) lv fl.length _ rfl (hlv.out.alloc _) ⟨w5.heap.size,0,none⟩ 1 1 [.int .i64 ((j:Int)+1)] rfl rfl (cell_one_new _ _ _) (oneI _) ?c3 ?c4 ?c5 ?_)
    try (case c3=>first|omega|(simp only[maxLen];omega)|(simp;omega))
    try (case c4=>first|omega|(simp only[maxLen];omega)|(simp;omega))
    try (case c5=>first|omega|(simp only[maxLen];omega)|(simp;omega))
    intro v' w6 hown' hgrow _
    obtain⟨Av,cv,rfl,_,_⟩:=jI hown'
    have hlb:=jY hlv.out
    have hbx6:=(hbx.out.alloc (.cells #[.int .i64 ((j:Int)+1)] 3)).grown hgrow (fun e=>by have:=hlb g9 e.symm;omega)
    have ho76:w6.ownsRow w1.heap.size 155 3 (.slice A7 t.mo.length c7) t.mo.length (t.mo.flatMap zp):=jx (jn ho7.out (ja w5 (.cells #[.int .i64 ((j:Int)+1)] 3))) fun b hb=>hgrow.block b (by have:=h7L.out b hb;simp;omega) (fun e=>by have:=hlb b e.symm;have:=h7L.out b hb;omega)
    have hb6:Below w1.heap.size w1 w6:=(hb5.out.alloc (by omega) _).grown hgrow (by simp;omega) (fun q hq=>by have:=hlb q hq;omega)
    have hL6:LB≤w6.heap.size:=by have:=hgrow.size;simp at this;omega
    have q4:w6.cell? ⟨g9,4,none⟩=some lv:=hbx6.cell 4
    have qf:=hbx6.free 4
    have HBX7:=hD (hbx6.set_ 4 (.slice Av (fl.length+1) cv))
    have HLV7:Hid ((w6.setCell ⟨g9,4,none⟩ (.slice Av (fl.length+1) cv)).ownsRow LB 3 1 (.slice Av (fl.length+1) cv) (t.leaps (j+1)).length (jZ (t.leaps (j+1)))):=by
     unfold Hid
     rw[hst2.out,jay,List.length_append]
     exact q7 hown' _ _ (by show g9<LB;exact h9L)
    have HO77:Hid ((w6.setCell ⟨g9,4,none⟩ (.slice Av (fl.length+1) cv)).ownsRow w1.heap.size 155 3 (.slice A7 t.mo.length c7) t.mo.length (t.mo.flatMap zp)):=jx ho76 fun b hb=>Below.heap_setCell _ _ _ b (Q8 ho76 hbx6 (by decide) b hb)
    have HB7:=hD (hb6.setCell (p:=⟨g9,4,none⟩) hg9 (.slice Av (fl.length+1) cv))
    clear hown' hgrow hbx6 ho76 hb6 hbx hlv ho7 hb5 z4 hlb hst2
    go_wp2_with fail
    go_roundw
    case rel=>exact⟨j+1,.slice Av (fl.length+1) cv,by omega,by rw[e4.out],HBX7,HLV7,HO77,HB7,by simpa using hL6,hev2⟩
    case measure=>simp[intOf];omega
  ·have t0:decide ((j:Int)+1≤t.cy)=false:=decide_eq_false hlt
   have hjc:t.cy.toNat=j:=by omega
   obtain⟨A8,c8,rfl,hc8,hc8'⟩:=jI hlv.out
   have hz1':=HZ.out.below hb5.out
   obtain⟨r0,r1,r2,r3,r4⟩:wr.cell? ⟨g+1,0,none⟩=some (.string ⟨#[]⟩)∧wr.cell? ⟨g+1,1,none⟩=some (.int .i64 0)∧wr.cell? ⟨g+1,2,none⟩=some (.int .i64 0)∧wr.cell? ⟨g+1,3,none⟩=some (.slice none 0 0)∧wr.cell? ⟨g+1,4,none⟩=some (.slice none 0 0):=⟨hz1'.cell 0,hz1'.cell 1,hz1'.cell 2,hz1'.cell 3,hz1'.cell 4⟩
   have rf:=fun i=>hz1'.free i
   obtain⟨z0,z1,z2,z3,z4⟩:wr.cell? ⟨g9,0,none⟩=some (.string t.nm)∧wr.cell? ⟨g9,1,none⟩=some (.int .i64 t.ep)∧wr.cell? ⟨g9,2,none⟩=some (.int .i64 t.cy)∧wr.cell? ⟨g9,3,none⟩=some (.slice A7 t.mo.length c7)∧wr.cell? ⟨g9,4,none⟩=some (.slice A8 _ c8):=⟨hbx.out.cell 0,hbx.out.cell 1,hbx.out.cell 2,hbx.out.cell 3,hbx.out.cell 4⟩
   have hgl:g+1<w1.heap.size:=HZ.out.lt
   have HM:=hD (jI ho7.out)
   have hw1:=HB.out.size
   have HG1:Hid (∀a,A7=some a→w.heap.size≤a.block):=fun a ha=>by have:=(qq ho7.out a.block (by rw[ha];rfl)).1;omega
   have HG2:Hid (∀a,A8=some a→w.heap.size≤a.block):=fun a ha=>by have:=(qq hlv.out a.block (by rw[ha];rfl)).1;omega
   have H7:=hD (q7 (q7 (q7 (q7 (q7 ho7.out ⟨g+1,0,none⟩ (.string t.nm) hgl) ⟨g+1,1,none⟩ (.int .i64 t.ep) hgl) ⟨g+1,2,none⟩ (.int .i64 t.cy) hgl) ⟨g+1,3,none⟩ (.slice A7 t.mo.length c7) hgl) ⟨g+1,4,none⟩ (.slice A8 (t.leaps j).length c8) hgl)
   have H8:=hD (q7 (q7 (q7 (q7 (q7 hlv.out ⟨g+1,0,none⟩ (.string t.nm) (Nat.lt_of_lt_of_le hgl h3L)) ⟨g+1,1,none⟩ (.int .i64 t.ep) (Nat.lt_of_lt_of_le hgl h3L)) ⟨g+1,2,none⟩ (.int .i64 t.cy) (Nat.lt_of_lt_of_le hgl h3L)) ⟨g+1,3,none⟩ (.slice A7 t.mo.length c7) (Nat.lt_of_lt_of_le hgl h3L)) ⟨g+1,4,none⟩ (.slice A8 (t.leaps j).length c8) (Nat.lt_of_lt_of_le hgl h3L))
   have HBB:=hD (((((((jb HB.out hb5.out)).setCell (p:=⟨g+1,0,none⟩) hgw (.string t.nm)).setCell (p:=⟨g+1,1,none⟩) hgw (.int .i64 t.ep)).setCell (p:=⟨g+1,2,none⟩) hgw (.int .i64 t.cy)).setCell (p:=⟨g+1,3,none⟩) hgw (.slice A7 t.mo.length c7)).setCell (p:=⟨g+1,4,none⟩) hgw (.slice A8 (t.leaps j).length c8))
   have HFL:Hid ((t.leaps j).length≤maxLen):=by unfold Hid maxLen;omega
   have HIN:Hid (Inc (t.leaps j) 1 t.cy):=by
    have:=jdX j (fun y=>(jB y t.ex).1 != 0)
    rw[show((j:Nat):Int)=t.cy from by omega] at this
    exact this
   have HLJ:Hid (t.leaps j=t.leaps t.cy.toNat):=by unfold Hid;rw[hjc]
   clear hz1' hbx hlv ho7 hb5
   generalize t.leaps j=fl at *
   go_wp2_with fail
   refine bodyPost_ret (v:=.tuple #[.agg #[.string t.nm,.int .i64 t.ep,.int .i64 t.cy,.slice A7 t.mo.length c7,.slice A8 fl.length c8],.int .i64 0]) (by simp[results,Tryz.results63,go_sem,r0,r1,r2,r3,r4]) rfl ?_
   obtain⟨A',c',hAc,hm1,hm2⟩:=HM.out
   obtain⟨rfl,rfl⟩:A7=A'∧c7=c':=by simpa using hAc
   exact⟨⟨t.nm,t.ep,t.cy,t.mo,fl,A7,c7,A8,c8⟩,0,rfl,HBB.out,fun _=>⟨⟨HOK.out,rfl,rfl,rfl,rfl,HLJ.out,⟨JA H7.out,JA H8.out⟩,⟨HF.out.nm,HF.out.ns,hm1,hm2,HFL.out⟩,⟨HOK.out.hd,HOK.out.mo,HIN.out⟩,HG1.out,HG2.out⟩,fun i hi=>hev.out i (by omega)⟩,fun h=>absurd rfl h⟩
end
end Go.Proofs.YtkkjaaognefeiaaGreatDoor
