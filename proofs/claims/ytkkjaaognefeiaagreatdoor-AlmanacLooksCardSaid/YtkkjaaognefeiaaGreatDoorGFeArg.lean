/- FeArg, WAlmanacLooks -/
import Derived.Test.YtkkjaaognefeiaaGreatDoorGAmA
set_option maxRecDepth 100000
set_option maxHeartbeats 16000000
set_option linter.unusedVariables false
set_option linter.unusedSimpArgs false
namespace Go.Proofs.YtkkjaaognefeiaaGreatDoor
section
open Go.ChangeShapes Go.Deep Go.Joins Go.RowKit Go.WideShapes
section
variable {H:Type} {enc:TypeId×Value→H} {W:World}
theorem Vv:∀(N n:Nat) (cs:List Value) (y:DataW H×List MemPlace),n<N→DataW.trod enc Tryz.prog W 0 (fun _=>true) true n 24 cs=some y→∃t:FE,cs=feF t∧FeIn W W.heap.size t:=by
 intro N
 induction N with
 | zero=>intro n cs y h;omega
 | succ N ih =>
  intro n cs y hn h
  obtain⟨xs,m,hm,_,hlen,hxl,hf⟩:=DataW.trod_struct Tryz.underlying24 h
  have hC:Tryz.prog.cellsOf 24=5:=by kernel_rfl
  rw[hC] at hlen
  match cs,hlen with
  | [c0,c1,c2,c3,c4],_ =>
   have e0:Tryz.prog.cellsOf 3=1:=by kernel_rfl
   have e1:Tryz.prog.cellsOf 9=1:=by kernel_rfl
   have e2:Tryz.prog.cellsOf 22=1:=by kernel_rfl
   have h0:=hf 0 _ rfl
   have h1:=hf 1 _ rfl
   have h2:=hf 2 _ rfl
   have h3:=hf 3 _ rfl
   have h4:=hf 4 _ rfl
   match xs,hxl with
   | [x0,x1,x2,x3,x4],_ =>
    simp[e0,e1,e2] at h0 h1 h2 h3 h4
    obtain⟨k,ek,_,wk⟩:=DataW.trod_int Tryz.underlying3 h0
    obtain⟨a,ea,_,wa⟩:=DataW.trod_int Tryz.underlying3 h1
    obtain⟨b,eb,_,wb⟩:=DataW.trod_int Tryz.underlying3 h2
    obtain⟨nm,en,_,wn⟩:=DataW.trod_string Tryz.underlying9 h3
    simp at ek ea eb en
    subst ek ea eb en
    obtain⟨A,ks,c,e,k1,k2,row,kids⟩:=Vk fe0 qw (by omega) Tryz.underlying22 hC (fun m' cs y hm' hh=>ih m' cs y (by omega) hh) h4
    subst e
    exact⟨.node k a b nm A c ks,rfl,.mk (bounds_i64 wk) (bounds_i64 wa) (bounds_i64 wb) wn (by omega) row kids⟩
theorem jeG {base:Nat} {v:Value} {d:DataW H} {p:List MemPlace} (hv:Value.okWide Tryz.prog W .any base 24 v) (h:DataW.Trod enc Tryz.prog W 0 (fun _=>true) true 24 v d p) :
  ∃t:FE,v=feV t∧FeIn W W.heap.size t:=by
 have hC:Tryz.prog.cellsOf 24=5:=by kernel_rfl
 obtain⟨cs,rfl,hsz⟩:=okWide_struct Tryz.underlying24 hv
 obtain⟨l⟩:=cs
 match l,hsz.trans hC with
 | [c0,c1,c2,c3,c4],_ =>
  obtain⟨m',hm'⟩:=h
  obtain⟨t,e,ht⟩:=Vv _ m' _ _ (Nat.lt_succ_self _) hm'
  refine⟨t,?_,ht⟩
  obtain⟨k,a,b,nm,A,c,ks⟩:=t
  have hc:(Value.agg ⟨[c0,c1,c2,c3,c4]⟩).cells.toList=[c0,c1,c2,c3,c4]:=rfl
  rw[hc] at e
  simp only[feF,List.cons.injEq,and_true] at e
  obtain⟨rfl,rfl,rfl,rfl,rfl⟩:=e
  rfl
end
end
namespace almanacLooks
open Go Go.Lib Go.RowKit Go.Shelf
def Jr:ByteArray:=⟨#[116,101,110,116,104]⟩
def kJ:ByteArray:=⟨#[102,101,97,115,116]⟩
theorem jdP:qo Jr:=by
 refine⟨by decide,by decide,by rw[Jr,Lib.toList_data];decide,by rw[Jr,Lib.toList_data];decide,by rw[Jr,Lib.toList_data];decide,by rw[Jr,Lib.toList_data];decide,fun k hk=>?_⟩
 have:k=0∨k=1∨k=2∨k=3∨k=4:=by
  have:Jr.size=5:=by decide
  omega
 rcases this with rfl|rfl|rfl|rfl|rfl<;>decide +revert
theorem jev:qo kJ:=by
 refine⟨by decide,by decide,by rw[kJ,Lib.toList_data];decide,by rw[kJ,Lib.toList_data];decide,by rw[kJ,Lib.toList_data];decide,by rw[kJ,Lib.toList_data];decide,fun k hk=>?_⟩
 have:k=0∨k=1∨k=2∨k=3∨k=4:=by
  have:kJ.size=5:=by decide
  omega
 rcases this with rfl|rfl|rfl|rfl|rfl<;>decide +revert
theorem core (t:FE) (fr0 n0:Int) (w:World) (hv:Env w) (hT:SkyT w) (ht:FeIn w w.heap.size t) :
  Calls Tryz.prog 3 #[feV t,.int .i64 fr0,.int .i64 n0] w fun e w'=>e = .returned (.bool true)∧Below w.heap.size w w':=by
 obtain⟨t0,ht0⟩:∃t0,t0=t:=⟨_,rfl⟩
 obtain⟨k,a,b,nm,A,c,ks⟩:=t
 have e1:feV t0 = .agg #[.int .i64 k,.int .i64 a,.int .i64 b,.string nm,.slice A ks.length c]:=by rw[ht0];rfl
 have HFc:Hid (feC t0=#[.int .i64 k,.int .i64 a,.int .i64 b,.string nm,.slice A ks.length c]):=by unfold Hid;rw[ht0];rfl
 have HFe:=hD e1
 have HV:=hD (fun W (h:Below w.heap.size w W)=>hv.next h)
 have HS:=hD (fun W (h:Below w.heap.size w W)=>hT.next h)
 rw[ht0.symm] at ht
 have HIn:=hD (fun W (h:Below w.heap.size w W)=>ht.next h h.size)
 rw[ht0.symm]
 rw[e1]
 clear hv hT ht e1 ht0
 have HTe:=hD (fun W=>jan W)
 have HCut1:=hD (fun W=>Kb fr0 1 700000 W (by omega) (by omega) (by omega) (by omega))
 have HCut2:=hD (fun W=>Kb n0 0 4 W (by omega) (by omega) (by omega) (by omega))
 obtain⟨fr,hfr⟩:∃fr,fr=1+fr0%700000:=⟨_,rfl⟩
 obtain⟨m,hm⟩:∃m:Nat,(m:Int)=0+n0%4:=⟨(n0%4).toNat,by omega⟩
 have r0:1≤fr:=by omega
 have r1:fr≤700000:=by omega
 have r2:m≤3:=by omega
 rw[←hfr] at HCut1
 rw[←hm] at HCut2
 clear hfr hm
 have HX:=hD (Box.new w 24 #[.int .i64 k,.int .i64 a,.int .i64 b,.string nm,.slice A ks.length c])
 have HB:=hD (ja w (Obj.cells #[.int .i64 k,.int .i64 a,.int .i64 b,.string nm,.slice A ks.length c] 24))
 go_enter Tryz.func3,Tryz.ntmps3
 go_upto_region 1 with fail
 obtain⟨g,hgw⟩:∃g,g=w.heap.size:=⟨_,rfl⟩
 have hw1:(w.alloc (Obj.cells #[.int .i64 k,.int .i64 a,.int .i64 b,.string nm,.slice A ks.length c] 24)).heap.size=g+1:=by rw[World.size_alloc,hgw]
 rw[←hgw] at HX HB HV HS HIn ⊢
 generalize w.alloc (Obj.cells #[.int .i64 k,.int .i64 a,.int .i64 b,.string nm,.slice A ks.length c] 24)=W1 at *
 have HG:=hD hgw
 have HW1:=hD hw1
 clear hgw hw1
 go_upto_region 2 with(go_at_call 4;refine(HTe.out _).mono ?_;rintro e w2 ⟨rfl,hb2⟩;have HB2:=hD hb2;clear hb2)
 have hbx1:=Box.new W1 9 #[.string Jr]
 have hb1:=ja W1 (Obj.cells #[.string Jr] 9)
 have hs1:(W1.alloc (Obj.cells #[.string ⟨#[116,101,110,116,104]⟩] 9)).heap.size=W1.heap.size+1:=World.size_alloc ..
 have hbA:=jb (jb (jb hb1 HB2.out) (ja w2 (Obj.cells #[.int .i64 4,.int .i64 10,.int .i64 0,.string ⟨#[]⟩,.slice none 0 0] 24))) (ja _ (Obj.cells #[.slice none 0 0,.slice (some ⟨W1.heap.size,0,none⟩) 1 1,.slice (some ⟨w2.heap.size,0,none⟩) 1 1] 28))
 have hpl:PlIn ((w2.alloc (Obj.cells #[.int .i64 4,.int .i64 10,.int .i64 0,.string ⟨#[]⟩,.slice none 0 0] 24)).alloc (Obj.cells #[.slice none 0 0,.slice (some ⟨W1.heap.size,0,none⟩) 1 1,.slice (some ⟨w2.heap.size,0,none⟩) 1 1] 28)) W1.heap.size w2.heap.size Jr xG:=⟨((hbx1.below HB2.out).alloc _).alloc _,(Box.new w2 24 #[.int .i64 4,.int .i64 10,.int .i64 0,.string ⟨#[]⟩,.slice none 0 0]).alloc _,jcI _ _⟩
 have hgp:=Box.new (w2.alloc (Obj.cells #[.int .i64 4,.int .i64 10,.int .i64 0,.string ⟨#[]⟩,.slice none 0 0] 24)) 28 #[.slice none 0 0,.slice (some ⟨W1.heap.size,0,none⟩) 1 1,.slice (some ⟨w2.heap.size,0,none⟩) 1 1]
 rw[World.size_alloc] at hgp
 have hgx:=HX.out.below hbA
 have hbw:Below g w _:=HB.out.trans (hbA.mono (by rw[HW1.out];omega))
 have hgp1:g+1≤w2.heap.size+1:=by have:=HB2.out.size;rw[hs1,HW1.out] at this;omega
 generalize (w2.alloc (Obj.cells #[.int .i64 4,.int .i64 10,.int .i64 0,.string ⟨#[]⟩,.slice none 0 0] 24)).alloc (Obj.cells #[.slice none 0 0,.slice (some ⟨W1.heap.size,0,none⟩) 1 1,.slice (some ⟨w2.heap.size,0,none⟩) 1 1] 28)=W3 at *
 clear hbA hbx1 hb1 hs1 HB2 HX HB HTe
 have hW3:g≤W3.heap.size:=by have:=hgx.lt;omega
 generalize w2.heap.size+1=gp at *
 obtain⟨bf,hbf⟩:∃bf,bf=w2.heap.size:=⟨_,rfl⟩
 obtain⟨bt,hbt⟩:∃bt,bt=W1.heap.size:=⟨_,rfl⟩
 rw[←hbf,←hbt] at hgp hpl ⊢
 clear hbf hbt HW1
 have HPl:=hD hpl
 have HGp:=hD hgp
 have HX:=hD hgx
 have HB3:=hD hbw
 clear hpl hgp hgx hbw
 have p0:∀W,Below W3.heap.size W3 W→W.cell? ⟨gp,0,none⟩=some (.slice none 0 0):=fun W h=>(HGp.out.below h).cell 0
 have p1:∀W,Below W3.heap.size W3 W→W.cell? ⟨gp,1,none⟩=some (.slice (some ⟨bt,0,none⟩) 1 1):=fun W h=>(HGp.out.below h).cell 1
 have p2:∀W,Below W3.heap.size W3 W→W.cell? ⟨gp,2,none⟩=some (.slice (some ⟨bf,0,none⟩) 1 1):=fun W h=>(HGp.out.below h).cell 2
 refine yx (y9 [(8,AlmT W3.heap.size)]) (jy [(0,⟨fun v=>∃gr:Nat,v = .pointer (some ⟨gr,0,none⟩),fun v W=>∀gr:Nat,v = .pointer (some ⟨gr,0,none⟩)→Box W gr 64 #[.slice none 0 0,.slice none 0 0]⟩),(3,⟨Ve,fun v W=>BuiltV xG Jr 9 1 W3.heap.size v W⟩)]) (by kernel_rfl) (by kernel_rfl) ?_ ?_
 ·intro j T hT w1 w2 h12 hb
  obtain⟨_,rfl⟩:=xz hT
  exact h12.bel hb
 repeat (first|(refine qP (v:=?_) (by rfl) (by rfl) (by rfl) (fun w hb=>?_) ?_;rotate_left;(· go_simp<;>(repeat' apply And.intro)<;>with_reducible rfl);try simp only[pZ,Nat.reduceAdd])|(refine qy (by rfl) (by rfl) (by rfl) ?_;try simp only[pZ,Nat.reduceAdd]))
 refine zA (f:=?_) (args:=?_) [] (by kernel_rfl) ?_ (by rfl) (by rfl) (by rfl) ?_ ?_ (fun w hb=>?_) (fun w hb hu=>?_) ?_;rotate_left 5;(· go_simp<;>(repeat' apply And.intro)<;>with_reducible rfl)
 ·refine(VT w).mono ?_
  rintro e w' ⟨rfl,hx,hb'⟩
  exact⟨_,rfl,⟨_,rfl⟩,fun gr hgr=>by injection hgr with hgr;injection hgr with hgr;injection hgr with hgr;rw[←hgr];exact hx,hb'⟩
 ·rintro v ⟨gr,rfl⟩
  try simp only[pZ,Nat.reduceAdd]
  repeat (first|(refine qP (v:=?_) (by rfl) (by rfl) (by rfl) (fun w hb=>?_) ?_;rotate_left;(· go_simp<;>(repeat' apply And.intro)<;>with_reducible rfl);try simp only[pZ,Nat.reduceAdd])|(refine qy (by rfl) (by rfl) (by rfl) ?_;try simp only[pZ,Nat.reduceAdd]))
  refine zA (f:=?_) (args:=?_) [0] (by kernel_rfl) ?_ (by rfl) (by rfl) (by rfl) ?_ ?_ (fun w hb=>?_) (fun w hb hu=>?_) ?_;rotate_left 5;(· go_simp<;>(repeat' apply And.intro)<;>with_reducible rfl)
  ·have hbox:=(zZ hu) gr rfl
   have hcall:=Zg gr bt bf Jr xG 9 1 W3.heap.size w (HV.out w (HB3.out.trans (hb.mono (by omega)))) (HS.out w (HB3.out.trans (hb.mono (by omega)))) hbox (HPl.out.next hb) jdP (by decide) (by decide) (by decide) hb.size
   rw[show(9:Int)+((1:Nat):Int)=10 from rfl] at hcall
   exact hcall
  ·rintro v ⟨A1,A2,A3,n1,c1,n2,c2,n3,c3,E,rfl⟩
   try simp only[pZ,Nat.reduceAdd]
   repeat (first|(refine qP (v:=?_) (by rfl) (by rfl) (by rfl) (fun w hb=>?_) ?_;rotate_left;(· go_simp<;>(repeat' apply And.intro)<;>with_reducible rfl);try simp only[pZ,Nat.reduceAdd])|(refine qy (by rfl) (by rfl) (by rfl) ?_;try simp only[pZ,Nat.reduceAdd]))
   refine Qd (t:=31) (cs:=#[.slice none 0 0,.slice none 0 0,.slice none 0 0,.slice none 0 0]) (n:=4) (by rfl) (fun _=>xe fun _ _ h hx=>h.boxN hx) (by rfl) (by rfl) (by rfl) (fun w hb=>?_) (fun ga hga=>?_);(· go_simp<;>(repeat' apply And.intro)<;>with_reducible rfl)
   try simp only[pZ,Nat.reduceAdd]
   refine Ja (F:=fun w=>Box w ga 31 #[.slice none 0 0,.slice A1 n1 c1,.slice A2 n2 c2,.slice A3 n3 c3]) [7] (by kernel_rfl) QM (by rfl) (by rfl) (by rfl) (fun w w' hb h=>h.below hb) (fun w hb hu=>?_) ?_
   ·obtain⟨v0,v1,v2,v3,hbx⟩:=kw (zZ hu)
    have q0:w.cell? ⟨ga,0,none⟩=some v0:=hbx.cell 0
    have q1:w.cell? ⟨ga,1,none⟩=some v1:=hbx.cell 1
    have q2:w.cell? ⟨ga,2,none⟩=some v2:=hbx.cell 2
    have q3:w.cell? ⟨ga,3,none⟩=some v3:=hbx.cell 3
    have qf:∀i,w.frozen? ⟨ga,i,none⟩=false:=fun i=>hbx.free i
    have ql:=hbx.lt
    exact⟨(((w.setCell ⟨ga,0,none⟩ (.slice none 0 0)).setCell ⟨ga,1,none⟩ (.slice A1 n1 c1)).setCell ⟨ga,2,none⟩ (.slice A2 n2 c2)).setCell ⟨ga,3,none⟩ (.slice A3 n3 c3),by go_simp,vC hbx _ _ _ _,⟨ga,_,_,_,_,hga,⟨_,rfl,hbx⟩,rfl⟩⟩
   repeat (first|(refine qP (v:=?_) (by rfl) (by rfl) (by rfl) (fun w hb=>?_) ?_;rotate_left;(· go_simp<;>(repeat' apply And.intro)<;>with_reducible rfl);try simp only[pZ,Nat.reduceAdd])|(refine qy (by rfl) (by rfl) (by rfl) ?_;try simp only[pZ,Nat.reduceAdd]))
   refine jo fun w5 hb5 hf=>?_
   have HA5:=hD hf.1
   have HBu:=hD hf.2.2.1
   have HB5:=hD hb5
   have hs5:=hb5.size
   clear hb5 hf p0 p1 p2
   rcases HBu.out with⟨E',hE',hv',hno⟩|⟨B1,B2,B3,e1,m2,e2,e3,ds,hv',hgd,hdl,hown,hdays⟩
   ·exact absurd Y4 hno
   ·simp at hv'
    obtain⟨⟨⟨rfl,rfl,rfl⟩,⟨rfl,rfl,rfl⟩,⟨rfl,rfl,rfl⟩⟩,rfl⟩:=hv'
    have HHv:=hD (JM (.slice A1 1 c1) (.slice A2 n2 c2) A3 c3 ds W3.heap.size xG Jr 9 w5 rfl rfl (zP hown) hdays (by omega))
    have hdd:daysF xG 9 ds.length=[10]:=by rw[hdl];exact YM
    rw[hdd] at HHv
    rw[hdl] at HHv
    have HA5':Hid (Box w5 ga 31 #[.slice none 0 0,.slice A1 1 c1,.slice A2 n2 c2,.slice A3 2 c3]):=by have h:=HA5.out;rw[hdl] at h;exact h
    have a0:w5.cell? ⟨ga,0,none⟩=some (.slice none 0 0):=HA5'.out.cell 0
    have a1:w5.cell? ⟨ga,1,none⟩=some (.slice A1 1 c1):=HA5'.out.cell 1
    have a2:w5.cell? ⟨ga,2,none⟩=some (.slice A2 n2 c2):=HA5'.out.cell 2
    have a3:w5.cell? ⟨ga,3,none⟩=some (.slice A3 2 c3):=HA5'.out.cell 3
    clear hgd hown hdays hdd hdl HBu HA5
    go_upto_region 5 with(go_at_call 7;refine HHv.out.mono ?_;rintro e w6 ⟨A6,c6,rfl,_,hb6⟩;have HB6:=hD hb6;have hz6:=hb6.size;clear hb6)
    have hXg:=HX.out.below (jb HB5.out HB6.out)
    have hGp:=HGp.out.below (jb HB5.out HB6.out)
    have hB6:Below g w w6:=HB3.out.trans ((jb HB5.out HB6.out).mono (by omega))
    clear HX HGp HB3 HPl HB5 HB6 HHv HA5' a0 a1 a2 a3
    obtain⟨y0,y1,y2,y3,y4⟩:=jR hXg
    have gxl:=hXg.lt
    have gp0:g+1≤gp:=hgp1
    have gpl:=hGp.lt
    have u0:w6.cell? ⟨gp,0,none⟩=some (.slice none 0 0):=hGp.cell 0
    have u1:w6.cell? ⟨gp,1,none⟩=some (.slice (some ⟨bt,0,none⟩) 1 1):=hGp.cell 1
    have u2:w6.cell? ⟨gp,2,none⟩=some (.slice (some ⟨bf,0,none⟩) 1 1):=hGp.cell 2
    have uf:∀i,w6.frozen? ⟨gp,i,none⟩=false:=fun i=>hGp.free i
    go_upto_region 6 with fail
    clear y0 y1 y2 y3 y4 u0 u1 u2 uf
    have hss:(((w6.setCell ⟨gp,0,none⟩ (.slice none 0 0)).setCell ⟨gp,1,none⟩ (.slice (some ⟨w6.heap.size,0,none⟩) 1 1)).setCell ⟨gp,2,none⟩ (.slice (some ⟨w6.heap.size+1,0,none⟩) 1 1)).heap.size=w6.heap.size:=by rw[World.size_setCell,World.size_setCell,World.size_setCell]
    have hG3:Box (((w6.setCell ⟨gp,0,none⟩ (.slice none 0 0)).setCell ⟨gp,1,none⟩ (.slice (some ⟨w6.heap.size,0,none⟩) 1 1)).setCell ⟨gp,2,none⟩ (.slice (some ⟨w6.heap.size+1,0,none⟩) 1 1)) gp 28 #[.slice none 0 0,.slice (some ⟨w6.heap.size,0,none⟩) 1 1,.slice (some ⟨w6.heap.size+1,0,none⟩) 1 1]:=((hGp.set_ 0 (.slice none 0 0)).set_ 1 (.slice (some ⟨w6.heap.size,0,none⟩) 1 1)).set_ 2 (.slice (some ⟨w6.heap.size+1,0,none⟩) 1 1)
    have hX3:Box (((w6.setCell ⟨gp,0,none⟩ (.slice none 0 0)).setCell ⟨gp,1,none⟩ (.slice (some ⟨w6.heap.size,0,none⟩) 1 1)).setCell ⟨gp,2,none⟩ (.slice (some ⟨w6.heap.size+1,0,none⟩) 1 1)) g 24 #[.int .i64 k,.int .i64 a,.int .i64 b,.string nm,.slice A ks.length c]:=((hXg.far (p:=⟨gp,0,none⟩) (by show g≠gp;omega) _).far (p:=⟨gp,1,none⟩) (by show g≠gp;omega) _).far (p:=⟨gp,2,none⟩) (by show g≠gp;omega) _
    have hB3:Below g w (((w6.setCell ⟨gp,0,none⟩ (.slice none 0 0)).setCell ⟨gp,1,none⟩ (.slice (some ⟨w6.heap.size,0,none⟩) 1 1)).setCell ⟨gp,2,none⟩ (.slice (some ⟨w6.heap.size+1,0,none⟩) 1 1)):=((hB6.setCell (p:=⟨gp,0,none⟩) (by show g≤gp;omega) _).setCell (p:=⟨gp,1,none⟩) (by show g≤gp;omega) _).setCell (p:=⟨gp,2,none⟩) (by show g≤gp;omega) _
    have hT7:Box (((((w6.setCell ⟨gp,0,none⟩ (.slice none 0 0)).setCell ⟨gp,1,none⟩ (.slice (some ⟨w6.heap.size,0,none⟩) 1 1)).setCell ⟨gp,2,none⟩ (.slice (some ⟨w6.heap.size+1,0,none⟩) 1 1)).alloc (Obj.cells #[.string ⟨#[102,101,97,115,116]⟩] 9)).alloc (Obj.cells #[.int .i64 k,.int .i64 a,.int .i64 b,.string nm,.slice A ks.length c] 24)) (((w6.setCell ⟨gp,0,none⟩ (.slice none 0 0)).setCell ⟨gp,1,none⟩ (.slice (some ⟨w6.heap.size,0,none⟩) 1 1)).setCell ⟨gp,2,none⟩ (.slice (some ⟨w6.heap.size+1,0,none⟩) 1 1)).heap.size 9 #[.string kJ]:=(Box.new (((w6.setCell ⟨gp,0,none⟩ (.slice none 0 0)).setCell ⟨gp,1,none⟩ (.slice (some ⟨w6.heap.size,0,none⟩) 1 1)).setCell ⟨gp,2,none⟩ (.slice (some ⟨w6.heap.size+1,0,none⟩) 1 1)) 9 #[.string ⟨#[102,101,97,115,116]⟩]).alloc (Obj.cells #[.int .i64 k,.int .i64 a,.int .i64 b,.string nm,.slice A ks.length c] 24)
    have hF7:=Box.new ((((w6.setCell ⟨gp,0,none⟩ (.slice none 0 0)).setCell ⟨gp,1,none⟩ (.slice (some ⟨w6.heap.size,0,none⟩) 1 1)).setCell ⟨gp,2,none⟩ (.slice (some ⟨w6.heap.size+1,0,none⟩) 1 1)).alloc (Obj.cells #[.string ⟨#[102,101,97,115,116]⟩] 9)) 24 #[.int .i64 k,.int .i64 a,.int .i64 b,.string nm,.slice A ks.length c]
    have hG7:=(hG3.alloc (Obj.cells #[.string ⟨#[102,101,97,115,116]⟩] 9)).alloc (Obj.cells #[.int .i64 k,.int .i64 a,.int .i64 b,.string nm,.slice A ks.length c] 24)
    have hX7:=(hX3.alloc (Obj.cells #[.string ⟨#[102,101,97,115,116]⟩] 9)).alloc (Obj.cells #[.int .i64 k,.int .i64 a,.int .i64 b,.string nm,.slice A ks.length c] 24)
    have hB7:Below g w (((((w6.setCell ⟨gp,0,none⟩ (.slice none 0 0)).setCell ⟨gp,1,none⟩ (.slice (some ⟨w6.heap.size,0,none⟩) 1 1)).setCell ⟨gp,2,none⟩ (.slice (some ⟨w6.heap.size+1,0,none⟩) 1 1)).alloc (Obj.cells #[.string ⟨#[102,101,97,115,116]⟩] 9)).alloc (Obj.cells #[.int .i64 k,.int .i64 a,.int .i64 b,.string nm,.slice A ks.length c] 24)):=(hB3.alloc (by rw[hss];omega) _).alloc (by rw[World.size_alloc,hss];omega) _
    rw[World.size_alloc,hss] at hF7
    rw[hss] at hT7
    generalize (((((w6.setCell ⟨gp,0,none⟩ (.slice none 0 0)).setCell ⟨gp,1,none⟩ (.slice (some ⟨w6.heap.size,0,none⟩) 1 1)).setCell ⟨gp,2,none⟩ (.slice (some ⟨w6.heap.size+1,0,none⟩) 1 1)).alloc (Obj.cells #[.string ⟨#[102,101,97,115,116]⟩] 9)).alloc (Obj.cells #[.int .i64 k,.int .i64 a,.int .i64 b,.string nm,.slice A ks.length c] 24))=W7 at *
    clear hG3 hX3 hB3 hss hXg hGp hB6
    generalize w6.heap.size+1=bf2 at *
    generalize w6.heap.size=bt2 at *
    have hPl:PlIn W7 bt2 bf2 kJ t0:=⟨hT7,by rw[HFc.out];exact hF7,HIn.out W7 hB7⟩
    have HPl:=hD hPl
    have HX:=hD hX7
    have HGp:=hD hG7
    have HB4:=hD hB7
    have hW7:g≤W7.heap.size:=by have:=hX7.lt;omega
    clear hT7 hF7 hG7 hX7 hB7 hPl gxl gp0 gpl
    have ew:IntKind.i64.wrap (fr+(m:Int))=fr+(m:Int):=ji _ (by omega) (by omega)
    go_upto_region 7 with(go_at_call 8;first|(with_reducible refine(HCut1.out _).mono ?_;rintro e w' ⟨rfl,hh⟩;subst hh)|(with_reducible refine(HCut2.out _).mono ?_;rintro e w' ⟨rfl,hh⟩;subst hh))
    clear HCut1 HCut2
    have p0:∀W,Below W7.heap.size W7 W→W.cell? ⟨gp,0,none⟩=some (.slice none 0 0):=fun W h=>(HGp.out.below h).cell 0
    have p1:∀W,Below W7.heap.size W7 W→W.cell? ⟨gp,1,none⟩=some (.slice (some ⟨bt2,0,none⟩) 1 1):=fun W h=>(HGp.out.below h).cell 1
    have p2:∀W,Below W7.heap.size W7 W→W.cell? ⟨gp,2,none⟩=some (.slice (some ⟨bf2,0,none⟩) 1 1):=fun W h=>(HGp.out.below h).cell 2
    refine yx (y9 [(12,AlmT W7.heap.size)]) (jy [(0,⟨fun v=>∃gr:Nat,v = .pointer (some ⟨gr,0,none⟩),fun v W=>∀gr:Nat,v = .pointer (some ⟨gr,0,none⟩)→Box W gr 64 #[.slice none 0 0,.slice none 0 0]⟩),(7,⟨Ve,fun v W=>BuiltV t0 kJ fr m W7.heap.size v W⟩)]) (by kernel_rfl) (by kernel_rfl) ?_ ?_
    ·intro j T hT w1 w2 h12 hb
     obtain⟨_,rfl⟩:=xz hT
     exact h12.bel hb
    repeat (first|(refine qP (v:=?_) (by rfl) (by rfl) (by rfl) (fun w hb=>?_) ?_;rotate_left;(· go_simp<;>(repeat' apply And.intro)<;>with_reducible rfl);try simp only[pZ,Nat.reduceAdd])|(refine qy (by rfl) (by rfl) (by rfl) ?_;try simp only[pZ,Nat.reduceAdd]))
    refine zA (f:=?_) (args:=?_) [] (by kernel_rfl) ?_ (by rfl) (by rfl) (by rfl) ?_ ?_ (fun w hb=>?_) (fun w hb hu=>?_) ?_;rotate_left 5;(· go_simp<;>(repeat' apply And.intro)<;>with_reducible rfl)
    ·refine(VT w).mono ?_
     rintro e w' ⟨rfl,hx,hb'⟩
     exact⟨_,rfl,⟨_,rfl⟩,fun gr hgr=>by injection hgr with hgr;injection hgr with hgr;injection hgr with hgr;rw[←hgr];exact hx,hb'⟩
    ·rintro v ⟨gr,rfl⟩
     try simp only[pZ,Nat.reduceAdd]
     repeat (first|(refine qP (v:=?_) (by rfl) (by rfl) (by rfl) (fun w hb=>?_) ?_;rotate_left;(· go_simp<;>(repeat' apply And.intro)<;>with_reducible rfl);try simp only[pZ,Nat.reduceAdd])|(refine qy (by rfl) (by rfl) (by rfl) ?_;try simp only[pZ,Nat.reduceAdd]))
     refine zA (f:=?_) (args:=?_) [0] (by kernel_rfl) ?_ (by rfl) (by rfl) (by rfl) ?_ ?_ (fun w hb=>?_) (fun w hb hu=>?_) ?_;rotate_left 5;(· go_simp<;>(repeat' apply And.intro)<;>with_reducible rfl)
     ·have hbox:=(zZ hu) gr rfl
      have hcall:=Zg gr bt2 bf2 kJ t0 fr m W7.heap.size w (HV.out w (HB4.out.trans (hb.mono (by omega)))) (HS.out w (HB4.out.trans (hb.mono (by omega)))) hbox (HPl.out.next hb) jev r0 (by omega) (by omega) hb.size
      exact hcall
     ·rintro v ⟨A1,A2,A3,n1,c1,n2,c2,n3,c3,E,rfl⟩
      try simp only[pZ,Nat.reduceAdd]
      repeat (first|(refine qP (v:=?_) (by rfl) (by rfl) (by rfl) (fun w hb=>?_) ?_;rotate_left;(· go_simp<;>(repeat' apply And.intro)<;>with_reducible rfl);try simp only[pZ,Nat.reduceAdd])|(refine qy (by rfl) (by rfl) (by rfl) ?_;try simp only[pZ,Nat.reduceAdd]))
      refine Qd (t:=31) (cs:=#[.slice none 0 0,.slice none 0 0,.slice none 0 0,.slice none 0 0]) (n:=4) (by rfl) (fun _=>xe fun _ _ h hx=>h.boxN hx) (by rfl) (by rfl) (by rfl) (fun w hb=>?_) (fun ga hga=>?_);(· go_simp<;>(repeat' apply And.intro)<;>with_reducible rfl)
      try simp only[pZ,Nat.reduceAdd]
      refine Ja (F:=fun w=>Box w ga 31 #[.slice none 0 0,.slice A1 n1 c1,.slice A2 n2 c2,.slice A3 n3 c3]) [11] (by kernel_rfl) QM (by rfl) (by rfl) (by rfl) (fun w w' hb h=>h.below hb) (fun w hb hu=>?_) ?_
      ·obtain⟨v0,v1,v2,v3,hbx⟩:=kw (zZ hu)
       have q0:w.cell? ⟨ga,0,none⟩=some v0:=hbx.cell 0
       have q1:w.cell? ⟨ga,1,none⟩=some v1:=hbx.cell 1
       have q2:w.cell? ⟨ga,2,none⟩=some v2:=hbx.cell 2
       have q3:w.cell? ⟨ga,3,none⟩=some v3:=hbx.cell 3
       have qf:∀i,w.frozen? ⟨ga,i,none⟩=false:=fun i=>hbx.free i
       have ql:=hbx.lt
       exact⟨(((w.setCell ⟨ga,0,none⟩ (.slice none 0 0)).setCell ⟨ga,1,none⟩ (.slice A1 n1 c1)).setCell ⟨ga,2,none⟩ (.slice A2 n2 c2)).setCell ⟨ga,3,none⟩ (.slice A3 n3 c3),by go_simp,vC hbx _ _ _ _,⟨ga,_,_,_,_,hga,⟨_,rfl,hbx⟩,rfl⟩⟩
      repeat (first|(refine qP (v:=?_) (by rfl) (by rfl) (by rfl) (fun w hb=>?_) ?_;rotate_left;(· go_simp<;>(repeat' apply And.intro)<;>with_reducible rfl);try simp only[pZ,Nat.reduceAdd])|(refine qy (by rfl) (by rfl) (by rfl) ?_;try simp only[pZ,Nat.reduceAdd]))
      refine jo fun w5 hb5 hf=>?_
      have HA6:=hD hf.1
      have HBu:=hD hf.2.2.1
      have HB6:=hD hb5
      have hs6:=hb5.size
      clear hb5 hf p0 p1 p2
      rcases HBu.out with⟨E',hE',hv',hno⟩|⟨B1,B2,B3,e1,m2,e2,e3,ds,hv',hgd,hdl,hown,hdays⟩
      ·have hEE:E=E':=by simp at hv';omega
       have hE0:E≠0:=by rw[hEE];exact hE'
       have tE:decide (E=0)=false:=decide_eq_false hE0
       have tE2:(E != 0)=true:=by rw[bne_iff_ne];exact hE0
       clear hv'
       go_wp2_with fail
       go_ret
       exact⟨rfl,by rw[←HG.out];exact HB4.out.trans (HB6.out.mono (by omega))⟩
      ·simp at hv'
       obtain⟨⟨⟨rfl,rfl,rfl⟩,⟨rfl,rfl,rfl⟩,⟨rfl,rfl,rfl⟩⟩,rfl⟩:=hv'
       have hd1:m<ds.length:=by omega
       have hd2:ds.length≤m+1:=by omega
       have HHv:=hD (fun W (h:Below w5.heap.size w5 W)=>JM (.slice A1 1 c1) (.slice A2 n2 c2) A3 c3 ds W7.heap.size t0 kJ fr W rfl rfl (zP (jn hown h)) ⟨hdays.d,fun y hy=>(hdays.k y hy).next h⟩ (by omega))
       have HLk:=hD (fun(j:Nat) (hj:j<ds.length) W (h:Below w5.heap.size w5 W)=>jby (.slice A1 1 c1) (.slice A2 n2 c2) A3 c3 ds W7.heap.size t0 kJ fr j W rfl rfl (zP (jn hown h)) ⟨hdays.d,fun y hy=>(hdays.k y hy).next h⟩ (by omega) hj (by omega) (by omega))
       have HBW:Hid (Below g w w5):=HB4.out.trans (HB6.out.mono (by omega))
       have HBg:Hid (xE t0 fr (fr+(m:Int))):=⟨hgd,⟨by omega,by omega⟩,⟨by omega,by omega⟩,by omega,by omega⟩
       have HBt:=hD (Xo t0 fr (fr+(m:Int)) w5 (HV.out w5 HBW.out) (HIn.out w5 HBW.out))
       have HMem:=hD (fun(j:Nat) (hj:j<ds.length)=>(show(fr+(j:Int)∈daysF t0 fr ds.length↔jC t0 (fr+(j:Int))) from by rw[jaa];exact⟨fun h=>h.2.2,fun h=>⟨by omega,by omega,h⟩⟩))
       have HLl:=hD (kN t0 fr ds.length)
       have hfv:feV t0 = .agg #[.int .i64 k,.int .i64 a,.int .i64 b,.string nm,.slice A ks.length c]:=by rw[HFe.out]
       unfold BetQ at HBt
       rw[hfv] at HBt
       clear hfv
       rw[show(fr+(m:Int)-fr+1).toNat=ds.length from by omega] at HBt
       obtain⟨L,hL⟩:∃L,L=daysF t0 fr ds.length:=⟨_,rfl⟩
       rw[←hL] at HHv HMem HBt HLl
       have hXg:=HX.out.below HB6.out
       obtain⟨y0,y1,y2,y3,y4⟩:=jR hXg
       clear hL hown hdays hgd hdl HBu
       go_wp2_with fail
       refine HBt.out.mono ?_
       rintro e w6b ⟨hb6,⟨E2,_,_,hno⟩|⟨Ab,lb,cb,rfl,_,hlb,hob⟩⟩
       ·exact absurd HBg.out hno
       ·subst hlb
        have HB7:=hD hb6
        have hs7:=hb6.size
        have HXa:=hD (HA6.out.below hb6)
        have HRb:=hD (zP hob)
        have a0:w6b.cell? ⟨ga,0,none⟩=some (.slice none 0 0):=HXa.out.cell 0
        have a1:w6b.cell? ⟨ga,1,none⟩=some (.slice A1 1 c1):=HXa.out.cell 1
        have a2:w6b.cell? ⟨ga,2,none⟩=some (.slice A2 n2 c2):=HXa.out.cell 2
        have a3:w6b.cell? ⟨ga,3,none⟩=some (.slice A3 ds.length c3):=HXa.out.cell 3
        clear y0 y1 y2 y3 y4 hXg hb6 hob HBt
        go_wp2_with fail
        refine(HHv.out _ HB7.out).mono ?_
        rintro e w8 ⟨A8,c8,rfl,ho8,hb8⟩
        have HR8:=hD (zP ho8)
        have HRb8:=hD (HRb.out.next hb8)
        have HB8:=hD (jb HB7.out hb8)
        have hs8:=hb8.size
        clear a0 a1 a2 a3 ho8 hb8 HRb HB7
        go_wp2_with fail
        refine(Yi A8 c8 L w8 HR8.out (by have:=HLl.out;omega)).mono ?_
        rintro e w9 ⟨v9,rfl,ho9,hb9⟩
        obtain⟨A9,c9,rfl,_,_⟩:=jI ho9
        have HR9:=hD (zP ho9)
        have HRb9:=hD (HRb8.out.next hb9)
        have HB9:=hD (jb HB8.out hb9)
        have hs9:=hb9.size
        clear ho9 hb9 HRb8 HB8 HR8
        go_wp2_with fail
        refine(Yi Ab cb L w9 HRb9.out (by have:=HLl.out;omega)).mono ?_
        rintro e w10 ⟨v10,rfl,ho10,hb10⟩
        obtain⟨A10,c10,rfl,_,_⟩:=jI ho10
        have HR10:=hD (zP ho10)
        have HRb10:=hD (HRb9.out.next hb10)
        have HR910:=hD (HR9.out.next hb10)
        have HB10:=hD (jb HB9.out hb10)
        have hs10:=hb10.size
        clear ho10 hb10 HRb9 HB9 HR9
        go_wp2_with fail
        refine(Yu A9 A10 c9 c10 L w10 HR910.out HR10.out (by have:=HLl.out;unfold maxLen;omega)).mono ?_
        rintro e w11 ⟨rfl,hb11⟩
        have HRb11:=hD (HRb10.out.next (hb11))
        have HB11:=hD (jb HB10.out hb11)
        have HXa11:=hD (HA6.out.below HB11.out)
        have hs11:=HB11.out.size
        clear hb11 HRb10 HB10 HR910 HR10 HXa HHv HA6
        go_wp2_with fail
        go_loopw [14,15,16] (fun d _ _ wr=>∃j:Nat,j≤m+1∧d = .int .i64 (fr+(j:Int))∧Hid (Below w11.heap.size w11 wr)) (fun d _ _ _=>m+1-(RowKit.intOf d-fr).toNat)
        case atStart=>exact⟨0,by omega,by simp,Below.refl _ _⟩
        case round =>
         obtain⟨j,hj,rfl,HBr⟩:=hrel
         by_cases hlt:j<ds.length
         ·have t1:decide (fr+(j:Int)≤fr+(m:Int))=true:=decide_eq_true (by omega)
          have HBc:Hid (Below w5.heap.size w5 wr):=jb HB11.out HBr.out
          have HXc:=hD (HXa11.out.below HBr.out)
          have HRc:=hD (HRb11.out.next HBr.out)
          have a0:wr.cell? ⟨ga,0,none⟩=some (.slice none 0 0):=HXc.out.cell 0
          have a1:wr.cell? ⟨ga,1,none⟩=some (.slice A1 1 c1):=HXc.out.cell 1
          have a2:wr.cell? ⟨ga,2,none⟩=some (.slice A2 n2 c2):=HXc.out.cell 2
          have a3:wr.cell? ⟨ga,3,none⟩=some (.slice A3 ds.length c3):=HXc.out.cell 3
          go_wp2_with fail
          refine(HLk.out j hlt wr HBc.out).mono ?_
          rintro e w12 ⟨⟨xd,xw,xA,xn,xc,x1,x2,x3,x4,xs,xp⟩,rfl,hxd,hok,hb12⟩
          obtain⟨b,hbm,hrow⟩:=hok
          have hbA:=ja w12 (Obj.cells #[.int .i64 xd,.int .i64 xw,.slice none 0 0,.slice xA xn xc,.int .i64 x1,.int .i64 x2,.int .i64 x3,.int .i64 x4,.int .i64 xs,.int .i64 xp] 50)
          have hmem:b=true↔fr+(j:Int)∈L:=by
           rw[HMem.out j hlt,hbm]
           show jC t0 xd↔_
           rw[show xd=fr+(j:Int) from hxd]
          have HM:=hD hmem
          have HRow:=hD (jn hrow hbA)
          have HRd:=hD ((HRc.out.next hb12).next hbA)
          have HBd:=hD (jb (jb HBr.out hb12) hbA)
          clear hmem hrow hbm hxd hb12 hbA HRc HXc a0 a1 a2 a3 HBc HBr
          go_wp2_with fail
          refine(QY b kJ xA xn xc _ _ HRow.out).mono ?_
          rintro e w13 ⟨rfl,hh⟩
          subst hh
          go_wp2_with fail
          refine(jau Ab cb L (fr+(j:Int)) _ HRd.out (by have:=HLl.out;omega)).mono ?_
          rintro e w14 ⟨b2,rfl,hb2,hh⟩
          subst hh
          have hbb:b=b2:=by
           have h1:=HM.out
           cases b<;>cases b2<;>simp_all
          subst hbb
          have tb:(b != b)=false:=by simp
          clear hb2
          go_wp2_with fail
          go_roundw
          case rel=>exact⟨j+1,by omega,by go_num,HBd⟩
          case measure=>simp[RowKit.intOf];omega
         ·have t1:decide (fr+(j:Int)≤fr+(m:Int))=false:=decide_eq_false (by omega)
          go_wp2_with fail
          go_ret
          exact⟨rfl,by rw[←HG.out];exact HBW.out.trans ((jb HB11.out HBr.out).mono (by omega))⟩
     ·exact fun v=>xe fun w w' ht h=>h.alm ht
     ·exact⟨_,none,none,none,0,0,0,0,0,0,0,rfl⟩
     ·exact fun v w w' hb h=>h.next hb
    ·exact fun v=>xe fun w w' ht h gr hgr=>ht.box (h gr hgr) (by decide)
    ·exact⟨.pointer (some ⟨0,0,none⟩),0,rfl⟩
    ·exact fun v w w' hb h gr hgr=>(h gr hgr).below hb
  ·exact fun v=>xe fun w w' ht h=>h.alm ht
  ·exact⟨_,none,none,none,0,0,0,0,0,0,0,rfl⟩
  ·exact fun v w w' hb h=>h.next hb
 ·exact fun v=>xe fun w w' ht h gr hgr=>ht.box (h gr hgr) (by decide)
 ·exact⟨.pointer (some ⟨0,0,none⟩),0,rfl⟩
 ·exact fun v w w' hb h gr hgr=>(h gr hgr).below hb
theorem walk {H:Type} {enc:TypeId×Value→H} {base:Nat} {W:World} (v0:Value) (d0:DataW H) (p0:List MemPlace) (hv0:Value.okWide Tryz.prog W .any base 24 v0) (h0:DataW.Trod enc Tryz.prog W 0 (fun _=>true) true 24 v0 d0 p0)
  (a1:Int) (w1:(Lit.int .i64 a1).wf=true) (a2:Int) (w2:(Lit.int .i64 a2).wf=true)
  (hL:laidMet Tryz.prog Rows.almanacLooksRow.laid W) (hsh:W.ShapedOpen Tryz.prog) :
  Calls Tryz.prog 3 #[v0,.int .i64 a1,.int .i64 a2] W fun e w'=>e = .returned (.bool true)∧Below W.heap.size W w':=by
 obtain⟨t,rfl,ht⟩:=jeG hv0 h0
 exact core t a1 a2 W ⟨jfI hL.tail.tail.tail.tail.tail.tail.tail.tail.tail.tail.tail,jfj hL.tail.tail.tail.tail.tail.tail.tail.tail.tail.tail,Shp.of hsh⟩ ⟨jdL hL.tail.tail.tail.tail,jfr hL.tail.tail.tail.tail.tail.tail.tail⟩ ht
end almanacLooks
end Go.Proofs.YtkkjaaognefeiaaGreatDoor
