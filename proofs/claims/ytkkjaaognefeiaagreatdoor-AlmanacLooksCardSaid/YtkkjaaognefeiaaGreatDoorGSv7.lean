/- Sv7, Sv8, Sv9, Sv10, Sv11, Sv12, Sv13, Sv14, Sv15, Sv16, Sv19 -/
import Derived.Laws.EntriesVeiled
import Derived.Test.YtkkjaaognefeiaaGreatDoorGSvPl
import Derived.Test.YtkkjaaognefeiaaGreatDoorGFe1
set_option maxRecDepth 100000
set_option maxHeartbeats 16000000
set_option linter.unusedVariables false
set_option linter.unusedSimpArgs false
namespace Go.Proofs.YtkkjaaognefeiaaGreatDoor
section
open Go Go.RowKit
attribute [local go_sem] Oper.semAt_some
theorem zX (w:World) (cs:Array Value) (low high:Int):∃W3 g gl gh,Hid (((w.alloc (Obj.cells cs 73)).alloc (Obj.cells #[.int .i64 low] 3)).alloc (Obj.cells #[.int .i64 high] 3)=W3)∧Hid (Below w.heap.size w W3)∧Hid (g=w.heap.size∧gl=g+1∧gh=gl+1∧W3.heap.size=gh+1)∧Hid (Box W3 g 73 cs)∧Hid (Box W3 gl 3 #[.int .i64 low])∧Hid (Box W3 gh 3 #[.int .i64 high]):=by
 obtain⟨W,g,h1,h2,h3,h4,h5,h6⟩:=Xk w 73 cs 3 #[.int .i64 low] 3 #[.int .i64 high]
 exact⟨W,g,g+1,g+1+1,h1,hD (by rw[h2.out];exact h6.out),hD ⟨h2.out.symm,rfl,rfl,by rw[←h1.out,World.size_alloc,World.size_alloc,World.size_alloc,h2.out]⟩,h3,h4,h5⟩
theorem qi:(Tryz.prog.info? 4).map (fun i=>(i.zero,i.size,i.bytes))=some (some (.bool false),1,1):=by kernel_rfl
def xj (t:FE) (low:Int) (n:Nat) (w:World) (e:Ending) (w':World):Prop:=∃gs,e = .returned (.slice (some ⟨gs,0,none⟩) n n)∧BoolsAt w' gs low n (jC t)∧w.heap.size≤gs∧Below w.heap.size w w'
structure SetS0 (w W:World) (g gl gh go gs:Nat) (low:Int) (n:Nat) (tc:Array Value) (M:Int→Prop):Prop where
 env:SetEnv W gl gh go gs low n M
 tr:Box W g 73 tc
 ng:g≠gs
 lo:w.heap.size≤gs
 bl:Below w.heap.size w W
theorem SetS0.next {w W W':World} {g gl gh go gs:Nat} {low:Int} {n:Nat} {tc:Array Value} {M:Int→Prop} (h:SetS0 w W g gl gh go gs low n tc M) (hb:Below W.heap.size W W'):SetS0 w W' g gl gh go gs low n tc M :=
 ⟨h.env.below hb,h.tr.below hb,h.ng,h.lo,jb h.bl hb⟩
structure SetSt (w W:World) (g gl gh go gs gm gf:Nat) (low:Int) (n:Nat) (tc fc:Array Value) (M:Int→Prop):Prop where
 s:SetS0 w W g gl gh go gs low n tc M
 mq:Box W gm 97 #[jD gl gh go]
 fe:Box W gf 24 fc
 nm:gm≠gs
 nf:gf≠gs
theorem SetSt.grown {w W W':World} {g gl gh go gs gm gf:Nat} {low:Int} {n:Nat} {tc fc:Array Value} {M M':Int→Prop} (h:SetSt w W g gl gh go gs gm gf low n tc fc M) (hg:W.grownBy W' (some gs)) (he:SetEnv W' gl gh go gs low n M'):SetSt w W' g gl gh go gs gm gf low n tc fc M' :=
 ⟨⟨he,h.s.tr.grown hg (fun e=>h.s.ng (by simpa using e)),h.s.ng,h.s.lo,h.s.bl.grown hg h.s.bl.size (fun k hk=>by injection hk with hk;have:=h.s.lo;omega)⟩,h.mq.grown hg (fun e=>h.nm (by simpa using e)),h.fe.grown hg (fun e=>h.nf (by simpa using e)),h.nm,h.nf⟩
theorem SetSt.next {w W W':World} {g gl gh go gs gm gf:Nat} {low:Int} {n:Nat} {tc fc:Array Value} {M:Int→Prop} (h:SetSt w W g gl gh go gs gm gf low n tc fc M) (hb:Below W.heap.size W W'):SetSt w W' g gl gh go gs gm gf low n tc fc M :=
 ⟨h.s.next hb,h.mq.below hb,h.fe.below hb,h.nm,h.nf⟩
theorem SetSt.same {w W:World} {g gl gh go gs gm gf:Nat} {low:Int} {n:Nat} {tc fc:Array Value} {M M':Int→Prop} (h:SetSt w W g gl gh go gs gm gf low n tc fc M) (hm:∀d,low≤d→d<low+n→(M d↔M' d)):SetSt w W g gl gh go gs gm gf low n tc fc M' :=
 ⟨⟨h.s.env.same hm,h.s.tr,h.s.ng,h.s.lo,h.s.bl⟩,h.mq,h.fe,h.nm,h.nf⟩
theorem Kl (n:Nat):(madeCells #[.bool false] n).size=n:=by simp[madeCells]
theorem jbh (n i:Nat) (h:i<n):(madeCells #[.bool false] n)[i]?=some (.bool false):=by
 simp[madeCells,h,Nat.mod_one]
theorem qQ (W3 w:World) (g gl gh:Nat) (low high:Int) (n:Nat) {tc:Array Value} (ht:Box W3 g 73 tc) (hl:Box W3 gl 3 #[.int .i64 low]) (hh:Box W3 gh 3 #[.int .i64 high]) (e1:g=w.heap.size) (e2:gl=g+1) (e3:gh=gl+1) (e4:W3.heap.size=gh+1) (e5:high=low+n-1) (hb:Below w.heap.size w W3) :
  SetS0 w ((W3.alloc (Obj.cells (madeCells #[.bool false] n) 4)).alloc (Obj.cells #[.slice (some ⟨W3.heap.size,0,none⟩) n n] 67)) g gl gh (W3.heap.size+1) W3.heap.size low n tc (fun _=>False):=by
 have hb2:=jh W3 (Obj.cells (madeCells #[.bool false] n) 4) (Obj.cells #[.slice (some ⟨W3.heap.size,0,none⟩) n n] 67)
 have hs:=(Box.new W3 4 (madeCells #[.bool false] n)).alloc (Obj.cells #[.slice (some ⟨W3.heap.size,0,none⟩) n n] 67)
 have ho:=Box.new (W3.alloc (Obj.cells (madeCells #[.bool false] n) 4)) 67 #[.slice (some ⟨W3.heap.size,0,none⟩) n n]
 rw[World.size_alloc] at ho
 subst e5
 exact⟨⟨hl.below hb2,hh.below hb2,ho,⟨_,hs,Kl n,fun i hi=>⟨false,jbh n i hi,⟨fun h=>(by cases h),fun h=>h.elim⟩⟩⟩,by omega,by omega,by omega⟩,ht.below hb2,by omega,hb.size,jb hb hb2⟩
theorem q8 {w:World} {g:Nat} {k a b:Int} {nm:ByteArray} {A:Option Addr} {n c:Nat} {cal:Cal} {v:Value} (h:Box w g 73 #[.int .i64 k,.int .i64 a,.int .i64 b,.string nm,.slice A n c,.string cal.nm,.int .i64 cal.ep,.int .i64 cal.cy,.slice cal.A1 cal.mo.length cal.c1,.slice cal.A2 cal.lp.length cal.c2,v]) :
  w.cell? ⟨g,0,none⟩=some (.int .i64 k)∧w.cell? ⟨g,1,none⟩=some (.int .i64 a)∧w.cell? ⟨g,2,none⟩=some (.int .i64 b)∧w.cell? ⟨g,3,none⟩=some (.string nm)∧w.cell? ⟨g,4,none⟩=some (.slice A n c):=⟨h.cell 0,h.cell 1,h.cell 2,h.cell 3,h.cell 4⟩
theorem ZX {w:World} {g:Nat} {k a b:Int} {nm:ByteArray} {A:Option Addr} {n c:Nat} {cal:Cal} {v:Value} (h:Box w g 73 #[.int .i64 k,.int .i64 a,.int .i64 b,.string nm,.slice A n c,.string cal.nm,.int .i64 cal.ep,.int .i64 cal.cy,.slice cal.A1 cal.mo.length cal.c1,.slice cal.A2 cal.lp.length cal.c2,v]) :
  w.cell? ⟨g,5,none⟩=some (.string cal.nm)∧w.cell? ⟨g,6,none⟩=some (.int .i64 cal.ep)∧w.cell? ⟨g,7,none⟩=some (.int .i64 cal.cy)∧w.cell? ⟨g,8,none⟩=some (.slice cal.A1 cal.mo.length cal.c1)∧w.cell? ⟨g,9,none⟩=some (.slice cal.A2 cal.lp.length cal.c2)∧w.cell? ⟨g,10,none⟩=some v:=⟨h.cell 5,h.cell 6,h.cell 7,h.cell 8,h.cell 9,h.cell 10⟩
theorem CalAt.nx {w W:World} {p:Nat→Prop} {c:Cal} (h:CalAt w p c) (hb:Below w.heap.size w W):CalV W c:=h.v.next hb
theorem jc5 (a b:Int) (nm:ByteArray) (A:Option Addr) (c:Nat) (cal:Cal) (A':Option Addr) (c':Nat) (ks:List ST) (A0:Option Addr) (c0:Nat) (fs:List FE) (low high:Int) (n:Nat) (w:World) (hhigh:high=low+n-1) (hlo : -90000000≤low) (hhi:high≤90000000) (hn:1≤n) (hn2:n≤1000000)
  {p:Nat→Prop} (r:CatRow) (hr:r∈jN) (hnm:str r.nm=nm) (hof:CalOf r cal) (hc:CalAt w p cal) (hb:1≤b∧b≤400) :
  Calls Tryz.prog 24 #[.agg #[.int .i64 1,.int .i64 a,.int .i64 b,.string nm,.slice A ks.length c,.string cal.nm,.int .i64 cal.ep,.int .i64 cal.cy,.slice cal.A1 cal.mo.length cal.c1,.slice cal.A2 cal.lp.length cal.c2,.slice A' ks.length c'],.int .i64 low,.int .i64 high] w (xj (.node 1 a b nm A0 c0 fs) low n w):=by
 have HMem:=hD (fun d=>jcY hr hnm hof a b A0 c0 fs d)
 have HOk:=hD hc.v.ok
 have HCal:=hD hc
 have HN:=hD (show -90000000≤low∧high≤90000000∧high=low+n-1∧n≤1000000 from⟨hlo,hhi,hhigh,hn2⟩)
 have hlo2:low≤100000000:=by omega
 have hhi2 : -100000000≤high:=by omega
 clear hc hof hnm hr
 obtain⟨W3,g,gl,gh,hW3,HB3,HGs,HT3,HL3,HH3⟩:=zX w #[.int .i64 1,.int .i64 a,.int .i64 b,.string nm,.slice A ks.length c,.string cal.nm,.int .i64 cal.ep,.int .i64 cal.cy,.slice cal.A1 cal.mo.length cal.c1,.slice cal.A2 cal.lp.length cal.c2,.slice A' ks.length c'] low high
 have hmk:=fun W=>run_make_row' (P:=Tryz.prog) 67 4 (.bool false) 1 Tryz.underlying67 qi rfl .i64 .i64 n (by omega) (by omega) W
 have ew1:IntKind.i64.wrap (high-low)=(n:Int)-1:=by rw[ji _ (by omega) (by omega)];omega
 have ew2:IntKind.i64.wrap ((n:Int)-1+1)=(n:Int):=by rw[ji _ (by omega) (by omega)];omega
 have HHigh:=hD hhigh
 clear hhigh
 go_enter Tryz.func24,Tryz.ntmps24
 go_upto_region 1 with fail
 rw[hW3.out,←HGs.out.1,←HGs.out.2.1,←HGs.out.2.2.1]
 have l0:W3.cell? ⟨gl,0,none⟩=some (.int .i64 low):=HL3.out.cell 0
 have h0:W3.cell? ⟨gh,0,none⟩=some (.int .i64 high):=HH3.out.cell 0
 clear hW3
 go_upto_region 2 with fail
 have hst:=qQ W3 w g gl gh low high n HT3.out HL3.out HH3.out HGs.out.1 HGs.out.2.1 HGs.out.2.2.1 HGs.out.2.2.2 HHigh.out HB3.out
 generalize (W3.alloc (Obj.cells (madeCells #[.bool false] n) 4)).alloc (Obj.cells #[.slice (some ⟨W3.heap.size,0,none⟩) n n] 67)=W5 at *
 obtain⟨gs,hgs⟩:∃gs,gs=W3.heap.size:=⟨_,rfl⟩
 rw[←hgs] at hst ⊢
 obtain⟨go,hgo⟩:∃go,go=gs+1:=⟨_,rfl⟩
 rw[←hgo] at hst ⊢
 have HSt:=hD hst
 have HGo:=hD (And.intro hgs hgo)
 clear l0 h0 hst hgs hgo hmk ew1 ew2 HB3 HT3 HL3 HH3 HGs
 go_upto_region 3 with fail
 have HM6:=hD (Box.new W5 97 #[jD gl gh go])
 have hb6:=ja W5 (Obj.cells #[jD gl gh go] 97)
 unfold jD at HM6 hb6
 have hst6:=HSt.out.next hb6
 have nm6:W5.heap.size≠gs:=by have:=HSt.out.env.bs;obtain⟨_,q,_⟩:=this;have:=q.lt;omega
 generalize W5.alloc (Obj.cells #[.func (.func 41) #[] #[.pointer (some ⟨gl,0,none⟩),.pointer (some ⟨gh,0,none⟩),.pointer (some ⟨go,0,none⟩)]] 97)=W6 at *
 generalize W5.heap.size=gm at *
 have HSt6:=hD hst6
 clear hst6 hb6 HSt
 obtain⟨z0,z1,z2,z3,z4⟩:=q8 HSt6.out.tr
 go_upto_region 4 with fail
 have hb7:=ja W6 (Obj.cells #[.int .i64 1,.int .i64 a,.int .i64 b,.string nm,.slice A ks.length c] 24)
 have hf7:=Box.new W6 24 #[.int .i64 1,.int .i64 a,.int .i64 b,.string nm,.slice A ks.length c]
 have nf7:W6.heap.size≠gs:=by have:=HSt6.out.env.bs;obtain⟨_,q,_⟩:=this;have:=q.lt;omega
 have HK:Hid (SetSt w (W6.alloc (Obj.cells #[.int .i64 1,.int .i64 a,.int .i64 b,.string nm,.slice A ks.length c] 24)) g gl gh go gs gm W6.heap.size low n #[.int .i64 1,.int .i64 a,.int .i64 b,.string nm,.slice A ks.length c,.string cal.nm,.int .i64 cal.ep,.int .i64 cal.cy,.slice cal.A1 cal.mo.length cal.c1,.slice cal.A2 cal.lp.length cal.c2,.slice A' ks.length c'] #[.int .i64 1,.int .i64 a,.int .i64 b,.string nm,.slice A ks.length c] (fun _=>False)):=⟨HSt6.out.next hb7,HM6.out.below hb7,hf7,nm6,nf7⟩
 clear z0 z1 z2 z3 z4 hb7 hf7 nm6 nf7 HM6 HSt6
 generalize W6.alloc (Obj.cells #[.int .i64 1,.int .i64 a,.int .i64 b,.string nm,.slice A ks.length c] 24)=w7 at *
 generalize W6.heap.size=gf at *
 obtain⟨z0,z1,z2,z3,z4⟩:=q8 HK.out.s.tr
 obtain⟨z5,z6,z7,z8,z9,z10⟩:=ZX HK.out.s.tr
 have l0:w7.cell? ⟨gl,0,none⟩=some (.int .i64 low):=HK.out.s.env.bl.cell 0
 have h0:w7.cell? ⟨gh,0,none⟩=some (.int .i64 high):=by have:=HK.out.s.env.bh.cell 0;rw[HHigh.out];exact this
 obtain⟨x0,x1,x2,x3,x4⟩:=zD HK.out.fe
 have hgsl:gs<w7.heap.size:=by obtain⟨_,q,_⟩:=HK.out.s.env.bs;exact q.lt
 have HMo:=hD (vu 1 a b nm A ks.length c cal A' ks.length c' low high 43 #[.pointer (some ⟨gf,0,none⟩),.pointer (some ⟨gm,0,none⟩)] gs
  (fun x W=>SetSt w W g gl gh go gs gm gf low n #[.int .i64 1,.int .i64 a,.int .i64 b,.string nm,.slice A ks.length c,.string cal.nm,.int .i64 cal.ep,.int .i64 cal.cy,.slice cal.A1 cal.mo.length cal.c1,.slice cal.A2 cal.lp.length cal.c2,.slice A' ks.length c'] #[.int .i64 1,.int .i64 a,.int .i64 b,.string nm,.slice A ks.length c] (fun d=>MemR cal (R1 a b) d∧d<x)) w7
  (by omega) (by omega) (by omega) (by omega) hgsl (HCal.out.nx HK.out.s.bl) (fun _ _=>rfl) (fun x W W' h hb=>h.next hb)
  (fun W hW=>HCal.out.nx (HK.out.s.bl.grown hW HK.out.s.bl.size (fun k hk=>by injection hk with hk;have:=HK.out.s.lo;omega)))
  (fun x hx=>HK.out.same fun d h1 h2=>⟨fun h=>h.elim,fun h=>by have:=hx d (h.1.cand HOk.out h1 (by have:=HN.out;omega));omega⟩)
  (fun W y m first hW hS ho hy1 hy2 hfh hfl=>by
   have hml:=Cal.mlen_in HOk.out y m ho.m1
   have hnn:=HN.out
   refine(YX gf gm gl gh go gs low n _ 1 a b nm A ks.length c ((m:Int)+1) first (cal.mlen y m) W hS.s.env hS.fe hS.mq (by omega) (by omega) (by omega) (by omega) (by omega) (by omega) (by omega)).mono ?_
   rintro e w' ⟨rfl,hs,hg⟩
   refine⟨rfl,hS.grown hg (hs.same fun d h1 h2=>?_),hg⟩
   refine Iff.trans ?_ (MemR.step HOk.out ho hy1 hy2 d).symm
   refine or_congr Iff.rfl ⟨fun h=>⟨h.2.2.2,by omega,by omega,h.1,by omega⟩,fun h=>?_⟩
   obtain⟨q1,q2,q3,q4,q5⟩:=h
   exact⟨q4,by omega,by omega,q1⟩))
 clear hlo hhi hlo2 hhi2 HHigh
 go_wp2_with (go_at_call 42;refine HMo.out.mono ?_;rintro e w8 ⟨rfl,⟨x,hs8,hx⟩,hg8⟩;have HS8:=hD hs8;have HX:=hD hx;clear hs8 hx hg8 HMo z0 z1 z2 z3 z4 z5 z6 z7 z8 z9 z10 l0 h0 x0 x1 x2 x3 x4;have o8:w8.cell? ⟨go,0,none⟩=some (.slice (some ⟨gs,0,none⟩) n n):=HS8.out.s.env.bo.cell 0)
 go_ret
 exact⟨gs,rfl,HS8.out.s.env.bs.same fun d h1 h2=>⟨fun h=>(HMem.out d).2 h.1,fun h=>⟨(HMem.out d).1 h,HX.out d (((HMem.out d).1 h).cand HOk.out h1 (by have:=HN.out;omega))⟩⟩,HS8.out.s.lo,HS8.out.s.bl⟩
theorem Ko (a b:Int) (nm:ByteArray) (A:Option Addr) (c:Nat) (cal:Cal) (A':Option Addr) (c':Nat) (ks:List ST) (A0:Option Addr) (c0:Nat) (fs:List FE) (low high:Int) (n:Nat) (w:World) (hhigh:high=low+n-1) (hlo : -90000000≤low) (hhi:high≤90000000) (hn:1≤n) (hn2:n≤1000000)
  {p:Nat→Prop} (r:CatRow) (hr:r∈jN) (hnm:str r.nm=nm) (hof:CalOf r cal) (hc:CalAt w p cal)  :
  Calls Tryz.prog 24 #[.agg #[.int .i64 2,.int .i64 a,.int .i64 b,.string nm,.slice A ks.length c,.string cal.nm,.int .i64 cal.ep,.int .i64 cal.cy,.slice cal.A1 cal.mo.length cal.c1,.slice cal.A2 cal.lp.length cal.c2,.slice A' ks.length c'],.int .i64 low,.int .i64 high] w (xj (.node 2 a b nm A0 c0 fs) low n w):=by
 have HMem:=hD (fun d=>Ks hr hnm hof a b A0 c0 fs d)
 have HOk:=hD hc.v.ok
 have HCal:=hD hc
 have HN:=hD (show -90000000≤low∧high≤90000000∧high=low+n-1∧n≤1000000 from⟨hlo,hhi,hhigh,hn2⟩)
 have hlo2:low≤100000000:=by omega
 have hhi2 : -100000000≤high:=by omega
 clear hc hof hnm hr
 obtain⟨W3,g,gl,gh,hW3,HB3,HGs,HT3,HL3,HH3⟩:=zX w #[.int .i64 2,.int .i64 a,.int .i64 b,.string nm,.slice A ks.length c,.string cal.nm,.int .i64 cal.ep,.int .i64 cal.cy,.slice cal.A1 cal.mo.length cal.c1,.slice cal.A2 cal.lp.length cal.c2,.slice A' ks.length c'] low high
 have hmk:=fun W=>run_make_row' (P:=Tryz.prog) 67 4 (.bool false) 1 Tryz.underlying67 qi rfl .i64 .i64 n (by omega) (by omega) W
 have ew1:IntKind.i64.wrap (high-low)=(n:Int)-1:=by rw[ji _ (by omega) (by omega)];omega
 have ew2:IntKind.i64.wrap ((n:Int)-1+1)=(n:Int):=by rw[ji _ (by omega) (by omega)];omega
 have HHigh:=hD hhigh
 clear hhigh
 go_enter Tryz.func24,Tryz.ntmps24
 go_upto_region 1 with fail
 rw[hW3.out,←HGs.out.1,←HGs.out.2.1,←HGs.out.2.2.1]
 have l0:W3.cell? ⟨gl,0,none⟩=some (.int .i64 low):=HL3.out.cell 0
 have h0:W3.cell? ⟨gh,0,none⟩=some (.int .i64 high):=HH3.out.cell 0
 clear hW3
 go_upto_region 2 with fail
 have hst:=qQ W3 w g gl gh low high n HT3.out HL3.out HH3.out HGs.out.1 HGs.out.2.1 HGs.out.2.2.1 HGs.out.2.2.2 HHigh.out HB3.out
 generalize (W3.alloc (Obj.cells (madeCells #[.bool false] n) 4)).alloc (Obj.cells #[.slice (some ⟨W3.heap.size,0,none⟩) n n] 67)=W5 at *
 obtain⟨gs,hgs⟩:∃gs,gs=W3.heap.size:=⟨_,rfl⟩
 rw[←hgs] at hst ⊢
 obtain⟨go,hgo⟩:∃go,go=gs+1:=⟨_,rfl⟩
 rw[←hgo] at hst ⊢
 have HSt:=hD hst
 have HGo:=hD (And.intro hgs hgo)
 clear l0 h0 hst hgs hgo hmk ew1 ew2 HB3 HT3 HL3 HH3 HGs
 go_upto_region 3 with fail
 have HM6:=hD (Box.new W5 97 #[jD gl gh go])
 have hb6:=ja W5 (Obj.cells #[jD gl gh go] 97)
 unfold jD at HM6 hb6
 have hst6:=HSt.out.next hb6
 have nm6:W5.heap.size≠gs:=by have:=HSt.out.env.bs;obtain⟨_,q,_⟩:=this;have:=q.lt;omega
 generalize W5.alloc (Obj.cells #[.func (.func 41) #[] #[.pointer (some ⟨gl,0,none⟩),.pointer (some ⟨gh,0,none⟩),.pointer (some ⟨go,0,none⟩)]] 97)=W6 at *
 generalize W5.heap.size=gm at *
 have HSt6:=hD hst6
 clear hst6 hb6 HSt
 obtain⟨z0,z1,z2,z3,z4⟩:=q8 HSt6.out.tr
 go_upto_region 4 with fail
 have hb7:=ja W6 (Obj.cells #[.int .i64 2,.int .i64 a,.int .i64 b,.string nm,.slice A ks.length c] 24)
 have hf7:=Box.new W6 24 #[.int .i64 2,.int .i64 a,.int .i64 b,.string nm,.slice A ks.length c]
 have nf7:W6.heap.size≠gs:=by have:=HSt6.out.env.bs;obtain⟨_,q,_⟩:=this;have:=q.lt;omega
 have HK:Hid (SetSt w (W6.alloc (Obj.cells #[.int .i64 2,.int .i64 a,.int .i64 b,.string nm,.slice A ks.length c] 24)) g gl gh go gs gm W6.heap.size low n #[.int .i64 2,.int .i64 a,.int .i64 b,.string nm,.slice A ks.length c,.string cal.nm,.int .i64 cal.ep,.int .i64 cal.cy,.slice cal.A1 cal.mo.length cal.c1,.slice cal.A2 cal.lp.length cal.c2,.slice A' ks.length c'] #[.int .i64 2,.int .i64 a,.int .i64 b,.string nm,.slice A ks.length c] (fun _=>False)):=⟨HSt6.out.next hb7,HM6.out.below hb7,hf7,nm6,nf7⟩
 clear z0 z1 z2 z3 z4 hb7 hf7 nm6 nf7 HM6 HSt6
 generalize W6.alloc (Obj.cells #[.int .i64 2,.int .i64 a,.int .i64 b,.string nm,.slice A ks.length c] 24)=w7 at *
 generalize W6.heap.size=gf at *
 obtain⟨z0,z1,z2,z3,z4⟩:=q8 HK.out.s.tr
 obtain⟨z5,z6,z7,z8,z9,z10⟩:=ZX HK.out.s.tr
 have l0:w7.cell? ⟨gl,0,none⟩=some (.int .i64 low):=HK.out.s.env.bl.cell 0
 have h0:w7.cell? ⟨gh,0,none⟩=some (.int .i64 high):=by have:=HK.out.s.env.bh.cell 0;rw[HHigh.out];exact this
 obtain⟨x0,x1,x2,x3,x4⟩:=zD HK.out.fe
 have hgsl:gs<w7.heap.size:=by obtain⟨_,q,_⟩:=HK.out.s.env.bs;exact q.lt
 have HMo:=hD (vu 2 a b nm A ks.length c cal A' ks.length c' low high 44 #[.pointer (some ⟨gf,0,none⟩),.pointer (some ⟨gm,0,none⟩)] gs
  (fun x W=>SetSt w W g gl gh go gs gm gf low n #[.int .i64 2,.int .i64 a,.int .i64 b,.string nm,.slice A ks.length c,.string cal.nm,.int .i64 cal.ep,.int .i64 cal.cy,.slice cal.A1 cal.mo.length cal.c1,.slice cal.A2 cal.lp.length cal.c2,.slice A' ks.length c'] #[.int .i64 2,.int .i64 a,.int .i64 b,.string nm,.slice A ks.length c] (fun d=>MemR cal (R2 a) d∧d<x)) w7
  (by omega) (by omega) (by omega) (by omega) hgsl (HCal.out.nx HK.out.s.bl) (fun _ _=>rfl) (fun x W W' h hb=>h.next hb)
  (fun W hW=>HCal.out.nx (HK.out.s.bl.grown hW HK.out.s.bl.size (fun k hk=>by injection hk with hk;have:=HK.out.s.lo;omega)))
  (fun x hx=>HK.out.same fun d h1 h2=>⟨fun h=>h.elim,fun h=>by have:=hx d (h.1.cand HOk.out h1 (by have:=HN.out;omega));omega⟩)
  (fun W y m first hW hS ho hy1 hy2 hfh hfl=>by
   have hml:=Cal.mlen_in HOk.out y m ho.m1
   have hnn:=HN.out
   refine(VB gf gm gl gh go gs low n _ 2 a b nm A ks.length c ((m:Int)+1) first (cal.mlen y m) W hS.s.env hS.fe hS.mq hS.nf hS.nm (by omega) (by omega) (by omega) (by omega) (by omega) (by omega) (by omega)).mono ?_
   rintro e w' ⟨rfl,hs,hg⟩
   refine⟨rfl,hS.grown hg (hs.same fun d h1 h2=>?_),hg⟩
   refine Iff.trans ?_ (MemR.step HOk.out ho hy1 hy2 d).symm
   exact or_congr Iff.rfl ⟨fun h=>⟨h.2.2.2,h.2.1,h.2.2.1,h.1⟩,fun h=>⟨h.2.2.2,h.2.1,h.2.2.1,h.1⟩⟩))
 clear hlo hhi hlo2 hhi2 HHigh
 go_wp2_with (go_at_call 42;refine HMo.out.mono ?_;rintro e w8 ⟨rfl,⟨x,hs8,hx⟩,hg8⟩;have HS8:=hD hs8;have HX:=hD hx;clear hs8 hx hg8 HMo z0 z1 z2 z3 z4 z5 z6 z7 z8 z9 z10 l0 h0 x0 x1 x2 x3 x4;have o8:w8.cell? ⟨go,0,none⟩=some (.slice (some ⟨gs,0,none⟩) n n):=HS8.out.s.env.bo.cell 0)
 go_ret
 exact⟨gs,rfl,HS8.out.s.env.bs.same fun d h1 h2=>⟨fun h=>(HMem.out d).2 h.1,fun h=>⟨(HMem.out d).1 h,HX.out d (((HMem.out d).1 h).cand HOk.out h1 (by have:=HN.out;omega))⟩⟩,HS8.out.s.lo,HS8.out.s.bl⟩
end
section
open Go Go.RowKit
attribute [local go_sem] Oper.semAt_some
theorem jad (k:Int) (hk:k=3∨k=4∨k=5∨k=6) (a b:Int) (nm:ByteArray) (A:Option Addr) (c:Nat) (cal:Cal) (A':Option Addr) (c':Nat) (ks:List ST) (A0:Option Addr) (c0:Nat) (fs:List FE) (low high:Int) (n:Nat) (w:World) (hhigh:high=low+n-1) (hlo : -90000000≤low) (hhi:high≤90000000) (hn:1≤n) (hn2:n≤1000000) (hr:j9 k a b 0) :
  Calls Tryz.prog 24 #[.agg #[.int .i64 k,.int .i64 a,.int .i64 b,.string nm,.slice A ks.length c,.string cal.nm,.int .i64 cal.ep,.int .i64 cal.cy,.slice cal.A1 cal.mo.length cal.c1,.slice cal.A2 cal.lp.length cal.c2,.slice A' ks.length c'],.int .i64 low,.int .i64 high] w (xj (.node k a b nm A0 c0 fs) low n w):=by
 have HMem:Hid (∀d,jC (.node k a b nm A0 c0 fs) d↔js d∧Jf k a b nm (yr fs) d):=fun d=>by rw[jC]
 have HPl:=hD (fun day W (h1 : -900000000≤day) (h2:day≤900000000)=>jaA k a b nm A ks.length c (yr fs) day W hk hr h1 h2)
 unfold jbH at HPl
 have HN:=hD (show -90000000≤low∧high≤90000000∧high≤low+n-1∧low+n-1≤high∧n≤1000000 from⟨hlo,hhi,by omega,by omega,hn2⟩)
 have e1:(k==1)=false:=by rw[beq_eq_false_iff_ne];omega
 have e2:(k==2)=false:=by rw[beq_eq_false_iff_ne];omega
 have e7:(k==7)=false:=by rw[beq_eq_false_iff_ne];omega
 have e8:(k==8)=false:=by rw[beq_eq_false_iff_ne];omega
 have e9:(k==9)=false:=by rw[beq_eq_false_iff_ne];omega
 have e10:(k==10)=false:=by rw[beq_eq_false_iff_ne];omega
 have e11:(k==11)=false:=by rw[beq_eq_false_iff_ne];omega
 have e12:(k==12)=false:=by rw[beq_eq_false_iff_ne];omega
 obtain⟨MF,hMF⟩:∃MF,MF=jC (.node k a b nm A0 c0 fs):=⟨_,rfl⟩
 rw[←hMF] at HMem
 have HMF:=hD hMF
 clear hMF
 clear hk hr
 obtain⟨W3,g,gl,gh,hW3,HB3,HGs,HT3,HL3,HH3⟩:=zX w #[.int .i64 k,.int .i64 a,.int .i64 b,.string nm,.slice A ks.length c,.string cal.nm,.int .i64 cal.ep,.int .i64 cal.cy,.slice cal.A1 cal.mo.length cal.c1,.slice cal.A2 cal.lp.length cal.c2,.slice A' ks.length c'] low high
 have hmk:=fun W=>run_make_row' (P:=Tryz.prog) 67 4 (.bool false) 1 Tryz.underlying67 qi rfl .i64 .i64 n (by omega) (by omega) W
 have ew1:IntKind.i64.wrap (high-low)=(n:Int)-1:=by rw[ji _ (by omega) (by omega)];omega
 have ew2:IntKind.i64.wrap ((n:Int)-1+1)=(n:Int):=by rw[ji _ (by omega) (by omega)];omega
 have HHigh:=hD hhigh
 clear hhigh
 go_enter Tryz.func24,Tryz.ntmps24
 go_upto_region 1 with fail
 rw[hW3.out,←HGs.out.1,←HGs.out.2.1,←HGs.out.2.2.1]
 have l0:W3.cell? ⟨gl,0,none⟩=some (.int .i64 low):=HL3.out.cell 0
 have h0:W3.cell? ⟨gh,0,none⟩=some (.int .i64 high):=HH3.out.cell 0
 clear hW3
 go_upto_region 2 with fail
 have hst:=qQ W3 w g gl gh low high n HT3.out HL3.out HH3.out HGs.out.1 HGs.out.2.1 HGs.out.2.2.1 HGs.out.2.2.2 HHigh.out HB3.out
 generalize (W3.alloc (Obj.cells (madeCells #[.bool false] n) 4)).alloc (Obj.cells #[.slice (some ⟨W3.heap.size,0,none⟩) n n] 67)=W5 at *
 obtain⟨gs,hgs⟩:∃gs,gs=W3.heap.size:=⟨_,rfl⟩
 rw[←hgs] at hst ⊢
 obtain⟨go,hgo⟩:∃go,go=gs+1:=⟨_,rfl⟩
 rw[←hgo] at hst ⊢
 have HSt:=hD hst
 have HGo:=hD (And.intro hgs hgo)
 clear l0 h0 hst hgs hgo hmk ew1 ew2 HB3 HT3 HL3 HH3 HGs
 go_upto_region 3 with fail
 have HM6:=hD (Box.new W5 97 #[jD gl gh go])
 have hb6:=ja W5 (Obj.cells #[jD gl gh go] 97)
 unfold jD at HM6 hb6
 have hst6:=HSt.out.next hb6
 have nm6:W5.heap.size≠gs:=by have:=HSt.out.env.bs;obtain⟨_,q,_⟩:=this;have:=q.lt;omega
 generalize W5.alloc (Obj.cells #[.func (.func 41) #[] #[.pointer (some ⟨gl,0,none⟩),.pointer (some ⟨gh,0,none⟩),.pointer (some ⟨go,0,none⟩)]] 97)=W6 at *
 generalize W5.heap.size=gm at *
 have HSt6:=hD hst6
 clear hst6 hb6 HSt
 obtain⟨z0,z1,z2,z3,z4⟩:=q8 HSt6.out.tr
 go_upto_region 4 with fail
 have hb7:=ja W6 (Obj.cells #[.int .i64 k,.int .i64 a,.int .i64 b,.string nm,.slice A ks.length c] 24)
 have hf7:=Box.new W6 24 #[.int .i64 k,.int .i64 a,.int .i64 b,.string nm,.slice A ks.length c]
 have nf7:W6.heap.size≠gs:=by have:=HSt6.out.env.bs;obtain⟨_,q,_⟩:=this;have:=q.lt;omega
 have HK:Hid (SetSt w (W6.alloc (Obj.cells #[.int .i64 k,.int .i64 a,.int .i64 b,.string nm,.slice A ks.length c] 24)) g gl gh go gs gm W6.heap.size low n #[.int .i64 k,.int .i64 a,.int .i64 b,.string nm,.slice A ks.length c,.string cal.nm,.int .i64 cal.ep,.int .i64 cal.cy,.slice cal.A1 cal.mo.length cal.c1,.slice cal.A2 cal.lp.length cal.c2,.slice A' ks.length c'] #[.int .i64 k,.int .i64 a,.int .i64 b,.string nm,.slice A ks.length c] (fun _=>False)):=⟨HSt6.out.next hb7,HM6.out.below hb7,hf7,nm6,nf7⟩
 clear z0 z1 z2 z3 z4 hb7 hf7 nm6 nf7 HM6 HSt6
 generalize W6.alloc (Obj.cells #[.int .i64 k,.int .i64 a,.int .i64 b,.string nm,.slice A ks.length c] 24)=w7 at *
 generalize W6.heap.size=gf at *
 have l0:w7.cell? ⟨gl,0,none⟩=some (.int .i64 low):=HK.out.s.env.bl.cell 0
 obtain⟨x0,x1,x2,x3,x4⟩:=zD HK.out.fe
 go_wp2_with fail
 clear l0 x0 x1 x2 x3 x4 e1 e2 e7 e8 e9 e10 e11 e12
 go_loopw [20] (fun s wr=>∃j:Nat,j≤n∧s = .int .i64 (low+(j:Int))∧Hid (SetSt w wr g gl gh go gs gm gf low n #[.int .i64 k,.int .i64 a,.int .i64 b,.string nm,.slice A ks.length c,.string cal.nm,.int .i64 cal.ep,.int .i64 cal.cy,.slice cal.A1 cal.mo.length cal.c1,.slice cal.A2 cal.lp.length cal.c2,.slice A' ks.length c'] #[.int .i64 k,.int .i64 a,.int .i64 b,.string nm,.slice A ks.length c] (fun d=>MF d∧d<low+(j:Int)))) (fun s _=>(high+1-intOf s).toNat)
 case atStart=>exact⟨0,by omega,by simp,HK.out.same fun d h1 h2=>⟨fun h=>h.elim,fun h=>by omega⟩⟩
 case round =>
  obtain⟨j,hj,rfl,hS⟩:=hrel
  clear HK
  have hnn:=HN.out
  have h0:wr.cell? ⟨gh,0,none⟩=some (.int .i64 high):=by have:=hS.out.s.env.bh.cell 0;rw[HHigh.out];exact this
  obtain⟨x0,x1,x2,x3,x4⟩:=zD hS.out.fe
  by_cases hlt:j<n
  case neg =>
   have t1:decide (low+(j:Int)≤high)=false:=decide_eq_false (by omega)
   have t1':decide (high<low+(j:Int))=true:=decide_eq_true (by omega)
   have o0:wr.cell? ⟨go,0,none⟩=some (.slice (some ⟨gs,0,none⟩) n n):=hS.out.s.env.bo.cell 0
   have hje:n≤j:=by omega
   clear hlt
   go_wp2_with fail
   go_ret
   exact⟨gs,rfl,by rw[←HMF.out];exact hS.out.s.env.bs.same fun d h1 h2=>⟨fun h=>h.1,fun h=>⟨h,by omega⟩⟩,hS.out.s.lo,hS.out.s.bl⟩
  have t1:decide (low+(j:Int)≤high)=true:=decide_eq_true (by omega)
  have ew:IntKind.i64.wrap (low+(j:Int)+1)=low+(j:Int)+1:=ji _ (by omega) (by omega)
  have HP:=hD (HPl.out (low+(j:Int)) wr (by omega) (by omega))
  go_wp2_with fail
  refine HP.out.mono ?_
  rintro e w8 ⟨B,rfl,hB,hb8⟩
  have HB:=hD hB
  have HS8:=hD (hS.out.next hb8)
  clear hb8 hB HP hS h0 x0 x1 x2 x3 x4
  cases B with
  | false =>
   have HS9:Hid (SetSt w w8 g gl gh go gs gm gf low n #[.int .i64 k,.int .i64 a,.int .i64 b,.string nm,.slice A ks.length c,.string cal.nm,.int .i64 cal.ep,.int .i64 cal.cy,.slice cal.A1 cal.mo.length cal.c1,.slice cal.A2 cal.lp.length cal.c2,.slice A' ks.length c'] #[.int .i64 k,.int .i64 a,.int .i64 b,.string nm,.slice A ks.length c] (fun d=>MF d∧d<low+((j+1:Nat):Int))):=HS8.out.same fun d h1 h2=>⟨fun h=>⟨h.1,by omega⟩,fun h=>⟨h.1,by
    by_cases e:d=low+(j:Int)
    ·have:=HB.out.2 (by rw[←e];exact((HMem.out d).1 h.1).2);cases this
    ·omega⟩⟩
   clear HS8 HB
   go_wp2_with fail
   go_roundw
   case rel=>exact⟨j+1,by omega,by rw[show low+((j+1:Nat):Int)=low+(j:Int)+1 from by omega],HS9⟩
   case measure=>simp[intOf];omega
  | true =>
   have m0:w8.cell? ⟨gm,0,none⟩=some (jD gl gh go):=HS8.out.mq.cell 0
   unfold jD at m0
   have HMk:=hD (zk gl gh go gs low n _ (low+(j:Int)) w8 HS8.out.s.env (by omega) (by omega) (by omega) (by omega) (by omega))
   go_wp2_with fail
   refine HMk.out.mono ?_
   rintro e w9 ⟨rfl,hs9,hg9⟩
   have HS9:Hid (SetSt w w9 g gl gh go gs gm gf low n #[.int .i64 k,.int .i64 a,.int .i64 b,.string nm,.slice A ks.length c,.string cal.nm,.int .i64 cal.ep,.int .i64 cal.cy,.slice cal.A1 cal.mo.length cal.c1,.slice cal.A2 cal.lp.length cal.c2,.slice A' ks.length c'] #[.int .i64 k,.int .i64 a,.int .i64 b,.string nm,.slice A ks.length c] (fun d=>MF d∧d<low+((j+1:Nat):Int))):=HS8.out.grown hg9 (hs9.same fun d h1 h2=>⟨fun h=>by
    rcases h with h|h
    ·exact⟨h.1,by omega⟩
    ·exact⟨(HMem.out d).2 ⟨by rw[h.1];exact h.2,by rw[h.1];exact HB.out.1 trivial⟩,by omega⟩,fun h=>by
    by_cases e:d=low+(j:Int)
    ·exact .inr ⟨e,by rw[←e];exact((HMem.out d).1 h.1).1⟩
    ·exact .inl ⟨h.1,by omega⟩⟩)
   clear hs9 hg9 HMk HS8 HB m0
   go_wp2_with fail
   go_roundw
   case rel=>exact⟨j+1,by omega,by rw[show low+((j+1:Nat):Int)=low+(j:Int)+1 from by omega],HS9⟩
   case measure=>simp[intOf];omega
end
section
open Go Go.RowKit
attribute [local go_sem] Oper.semAt_some
def qR (t:FE) (low:Int) (n B:Nat):Told:=⟨fun v=>∃gq,v = .slice (some ⟨gq,0,none⟩) n n,fun v w=>∀gq,v = .slice (some ⟨gq,0,none⟩) n n→B≤gq∧BoolsAt w gq low n (jC t)⟩
theorem BoolsAt.next {w w':World} {g:Nat} {low:Int} {n:Nat} {M:Int→Prop} (h:BoolsAt w g low n M) (hb:Below w.heap.size w w'):BoolsAt w' g low n M:=by
 obtain⟨cs,h1,h2,h3⟩:=h
 exact⟨cs,h1.below hb,h2,h3⟩
theorem BoolsAt.grown {w w':World} {g:Nat} {low:Int} {n:Nat} {M:Int→Prop} {row:Option Nat} (h:BoolsAt w g low n M) (hg:w.grownBy w' row) (hr:some g≠row):BoolsAt w' g low n M:=by
 obtain⟨cs,h1,h2,h3⟩:=h
 exact⟨cs,h1.grown hg hr,h2,h3⟩
theorem qx (t:FE) (low:Int) (n B:Nat) (v:Value) (w w':World) (hb:Below w.heap.size w w') (h:(qR t low n B).F v w):(qR t low n B).F v w':=fun gq e=>⟨(h gq e).1,(h gq e).2.next hb⟩
theorem zj {t:FE} {low:Int} {n B:Nat} {w w':World} {e:Ending} (hB:B≤w.heap.size) (h:xj t low n w e w'):∃v,e = .returned v∧(qR t low n B).V v∧(qR t low n B).F v w'∧Below w.heap.size w w':=by
 obtain⟨gs,rfl,hq,hs,hb⟩:=h
 exact⟨_,rfl,⟨gs,rfl⟩,fun gq e=>by injection e with e;injection e with e;injection e with e;subst e;exact⟨by omega,hq⟩,hb⟩
theorem Qm {W W2:World} (hb:Below W.heap.size W W2) {a0 a1 a2 a3 a4 a5 a6 a7 a8 a9 a10:Addr} {v0 v1 v2 v3 v4 v5 v6 v7 v8 v9 v10:Option Value} (h:(∀W',Below W.heap.size W W'→W'.cell? a0=v0)∧(∀W',Below W.heap.size W W'→W'.cell? a1=v1)∧(∀W',Below W.heap.size W W'→W'.cell? a2=v2)∧(∀W',Below W.heap.size W W'→W'.cell? a3=v3)∧(∀W',Below W.heap.size W W'→W'.cell? a4=v4)∧(∀W',Below W.heap.size W W'→W'.cell? a5=v5)∧(∀W',Below W.heap.size W W'→W'.cell? a6=v6)∧(∀W',Below W.heap.size W W'→W'.cell? a7=v7)∧(∀W',Below W.heap.size W W'→W'.cell? a8=v8)∧(∀W',Below W.heap.size W W'→W'.cell? a9=v9)∧(∀W',Below W.heap.size W W'→W'.cell? a10=v10)):(∀W',Below W2.heap.size W2 W'→W'.cell? a0=v0)∧(∀W',Below W2.heap.size W2 W'→W'.cell? a1=v1)∧(∀W',Below W2.heap.size W2 W'→W'.cell? a2=v2)∧(∀W',Below W2.heap.size W2 W'→W'.cell? a3=v3)∧(∀W',Below W2.heap.size W2 W'→W'.cell? a4=v4)∧(∀W',Below W2.heap.size W2 W'→W'.cell? a5=v5)∧(∀W',Below W2.heap.size W2 W'→W'.cell? a6=v6)∧(∀W',Below W2.heap.size W2 W'→W'.cell? a7=v7)∧(∀W',Below W2.heap.size W2 W'→W'.cell? a8=v8)∧(∀W',Below W2.heap.size W2 W'→W'.cell? a9=v9)∧(∀W',Below W2.heap.size W2 W'→W'.cell? a10=v10):=by
 obtain⟨h0,h1,h2,h3,h4,h5,h6,h7,h8,h9,h10⟩:=h
 exact⟨fun w hw=>h0 w (jb hb hw),fun w hw=>h1 w (jb hb hw),fun w hw=>h2 w (jb hb hw),fun w hw=>h3 w (jb hb hw),fun w hw=>h4 w (jb hb hw),fun w hw=>h5 w (jb hb hw),fun w hw=>h6 w (jb hb hw),fun w hw=>h7 w (jb hb hw),fun w hw=>h8 w (jb hb hw),fun w hw=>h9 w (jb hb hw),fun w hw=>h10 w (jb hb hw)⟩
theorem jaO {W:World} {bk ok:Nat} {ks:List ST} (hb:bk<W.heap.size) (hk:∀j v,(ks.flatMap stF)[j]?=some v→W.cell? ⟨bk,ok+j,none⟩=some v) (hl:0<ks.length) {k a b:Int} {nm:ByteArray} {A:Option Addr} {c:Nat} {cal:Cal} {B:Option Addr} {d:Nat} {ys:List ST} (he:ks.getD 0 st0 = .node k a b nm A c cal B d ys) :
  (∀W',Below W.heap.size W W'→W'.cell? ⟨bk,ok,none⟩=some (.int .i64 k))∧(∀W',Below W.heap.size W W'→W'.cell? ⟨bk,ok+1,none⟩=some (.int .i64 a))∧(∀W',Below W.heap.size W W'→W'.cell? ⟨bk,ok+2,none⟩=some (.int .i64 b))∧(∀W',Below W.heap.size W W'→W'.cell? ⟨bk,ok+3,none⟩=some (.string nm))∧(∀W',Below W.heap.size W W'→W'.cell? ⟨bk,ok+4,none⟩=some (.slice A ys.length c))∧(∀W',Below W.heap.size W W'→W'.cell? ⟨bk,ok+5,none⟩=some (.string cal.nm))∧(∀W',Below W.heap.size W W'→W'.cell? ⟨bk,ok+6,none⟩=some (.int .i64 cal.ep))∧(∀W',Below W.heap.size W W'→W'.cell? ⟨bk,ok+7,none⟩=some (.int .i64 cal.cy))∧(∀W',Below W.heap.size W W'→W'.cell? ⟨bk,ok+8,none⟩=some (.slice cal.A1 cal.mo.length cal.c1))∧(∀W',Below W.heap.size W W'→W'.cell? ⟨bk,ok+9,none⟩=some (.slice cal.A2 cal.lp.length cal.c2))∧(∀W',Below W.heap.size W W'→W'.cell? ⟨bk,ok+10,none⟩=some (.slice B ys.length d)):=by
 have key:∀(q:Nat) (v:Value) (hq:q<11),(stF (.node k a b nm A c cal B d ys))[q]?=some v→∀W',Below W.heap.size W W'→W'.cell? ⟨bk,ok+(0+q),none⟩=some v:=fun q v hq hv W' hW=>by
  refine(hW.cell (p:=⟨bk,ok+(0+q),none⟩) hb).trans ?_
  have:=jm xD st0 hk 0 q hl hq v (by rw[he];exact hv)
  rwa[show ok+0*11+q=ok+(0+q) from by omega] at this
 exact⟨key 0 _ (by omega) rfl,key 1 _ (by omega) rfl,key 2 _ (by omega) rfl,key 3 _ (by omega) rfl,key 4 _ (by omega) rfl,key 5 _ (by omega) rfl,key 6 _ (by omega) rfl,key 7 _ (by omega) rfl,key 8 _ (by omega) rfl,key 9 _ (by omega) rfl,key 10 _ (by omega) rfl⟩
theorem jfP {W:World} {bk ok:Nat} {ks:List ST} (hb:bk<W.heap.size) (hk:∀j v,(ks.flatMap stF)[j]?=some v→W.cell? ⟨bk,ok+j,none⟩=some v) (hl:1<ks.length) {k a b:Int} {nm:ByteArray} {A:Option Addr} {c:Nat} {cal:Cal} {B:Option Addr} {d:Nat} {ys:List ST} (he:ks.getD 1 st0 = .node k a b nm A c cal B d ys) :
  (∀W',Below W.heap.size W W'→W'.cell? ⟨bk,ok+11,none⟩=some (.int .i64 k))∧(∀W',Below W.heap.size W W'→W'.cell? ⟨bk,ok+12,none⟩=some (.int .i64 a))∧(∀W',Below W.heap.size W W'→W'.cell? ⟨bk,ok+13,none⟩=some (.int .i64 b))∧(∀W',Below W.heap.size W W'→W'.cell? ⟨bk,ok+14,none⟩=some (.string nm))∧(∀W',Below W.heap.size W W'→W'.cell? ⟨bk,ok+15,none⟩=some (.slice A ys.length c))∧(∀W',Below W.heap.size W W'→W'.cell? ⟨bk,ok+16,none⟩=some (.string cal.nm))∧(∀W',Below W.heap.size W W'→W'.cell? ⟨bk,ok+17,none⟩=some (.int .i64 cal.ep))∧(∀W',Below W.heap.size W W'→W'.cell? ⟨bk,ok+18,none⟩=some (.int .i64 cal.cy))∧(∀W',Below W.heap.size W W'→W'.cell? ⟨bk,ok+19,none⟩=some (.slice cal.A1 cal.mo.length cal.c1))∧(∀W',Below W.heap.size W W'→W'.cell? ⟨bk,ok+20,none⟩=some (.slice cal.A2 cal.lp.length cal.c2))∧(∀W',Below W.heap.size W W'→W'.cell? ⟨bk,ok+21,none⟩=some (.slice B ys.length d)):=by
 have key:∀(q:Nat) (v:Value) (hq:q<11),(stF (.node k a b nm A c cal B d ys))[q]?=some v→∀W',Below W.heap.size W W'→W'.cell? ⟨bk,ok+(11+q),none⟩=some v:=fun q v hq hv W' hW=>by
  refine(hW.cell (p:=⟨bk,ok+(11+q),none⟩) hb).trans ?_
  have:=jm xD st0 hk 1 q hl hq v (by rw[he];exact hv)
  rwa[show ok+1*11+q=ok+(11+q) from by omega] at this
 exact⟨key 0 _ (by omega) rfl,key 1 _ (by omega) rfl,key 2 _ (by omega) rfl,key 3 _ (by omega) rfl,key 4 _ (by omega) rfl,key 5 _ (by omega) rfl,key 6 _ (by omega) rfl,key 7 _ (by omega) rfl,key 8 _ (by omega) rfl,key 9 _ (by omega) rfl,key 10 _ (by omega) rfl⟩
theorem Kx (a b:Int) (nm:ByteArray) (A:Option Addr) (c:Nat) (cal:Cal) (A':Option Addr) (c':Nat) (ks:List ST) (A0:Option Addr) (c0:Nat) (fs:List FE) (low high:Int) (n:Nat) (w:World) (hhigh:high=low+n-1) (hlo : -90000000≤low) (hhi:high≤90000000) (hn:1≤n) (hn2:n≤1000000) {p:Nat→Prop} (hrow:RowAt w p A' (ks.flatMap stF)) (hkl:ks.length=1) (hfl:fs.length=1) (hr : -400≤a∧a≤400)
  (IH0:∀W,Below w.heap.size w W→Calls Tryz.prog 24 #[.agg (stF (ks.getD 0 st0)).toArray,.int .i64 (low-a),.int .i64 (high-a)] W (xj (fs.getD 0 fe0) (low-a) n W)) :
  Calls Tryz.prog 24 #[.agg #[.int .i64 7,.int .i64 a,.int .i64 b,.string nm,.slice A ks.length c,.string cal.nm,.int .i64 cal.ep,.int .i64 cal.cy,.slice cal.A1 cal.mo.length cal.c1,.slice cal.A2 cal.lp.length cal.c2,.slice A' ks.length c'],.int .i64 low,.int .i64 high] w (xj (.node 7 a b nm A0 c0 fs) low n w):=by
 have HMem:Hid (∀d,jC (.node 7 a b nm A0 c0 fs) d↔js d∧jC (fs.getD 0 fe0) (d-a)):=fun d=>by
  rw[jC]
  show(js d∧yr fs 0 (d-a))↔_
  rw[qY fs 0 (d-a) (by omega)]
 have HIH:=hD IH0
 have HN:=hD (show -90000000≤low∧high≤90000000∧high≤low+n-1∧low+n-1≤high∧n≤1000000∧1≤n from⟨hlo,hhi,by omega,by omega,hn2,hn⟩)
 have ne:ks.flatMap stF≠[]:=qg xD (by omega) ks (by omega)
 obtain⟨bk,ok,rfl,_,hbk,hkc⟩:=hrow.resolve_left ne
 have ew3:IntKind.i64.wrap (low-a)=low-a:=ji _ (by omega) (by omega)
 have ew4:IntKind.i64.wrap (high-a)=high-a:=ji _ (by omega) (by omega)
 have kz:(0:Int)<(ks.length:Int):=by omega
 have kz':0<ks.length:=by omega
 obtain⟨MF,hMF⟩:∃MF,MF=jC (.node 7 a b nm A0 c0 fs):=⟨_,rfl⟩
 rw[←hMF] at HMem
 have HMF:=hD hMF
 clear hMF
 generalize fs.getD 0 fe0=F0 at *
 generalize hk0_3:ks.getD 0 st0=K0 at *
 obtain⟨k3,a3,b3,nm3,A3,c3,cal3,B3,d3,ks3⟩:=K0
 have HKl:=hD hkl
 clear IH0 hrow ne hr hkl hfl
 obtain⟨W3,g,gl,gh,hW3,HB3,HGs,HT3,HL3,HH3⟩:=zX w #[.int .i64 7,.int .i64 a,.int .i64 b,.string nm,.slice A ks.length c,.string cal.nm,.int .i64 cal.ep,.int .i64 cal.cy,.slice cal.A1 cal.mo.length cal.c1,.slice cal.A2 cal.lp.length cal.c2,.slice (some ⟨bk,ok,none⟩) ks.length c'] low high
 have hmk:=fun W=>run_make_row' (P:=Tryz.prog) 67 4 (.bool false) 1 Tryz.underlying67 qi rfl .i64 .i64 n (by omega) (by omega) W
 have ew1:IntKind.i64.wrap (high-low)=(n:Int)-1:=by rw[ji _ (by omega) (by omega)];omega
 have ew2:IntKind.i64.wrap ((n:Int)-1+1)=(n:Int):=by rw[ji _ (by omega) (by omega)];omega
 have HHigh:=hD hhigh
 clear hhigh
 go_enter Tryz.func24,Tryz.ntmps24
 go_upto_region 1 with fail
 rw[hW3.out,←HGs.out.1,←HGs.out.2.1,←HGs.out.2.2.1]
 have l0:W3.cell? ⟨gl,0,none⟩=some (.int .i64 low):=HL3.out.cell 0
 have h0:W3.cell? ⟨gh,0,none⟩=some (.int .i64 high):=HH3.out.cell 0
 clear hW3
 go_upto_region 2 with fail
 have hst:=qQ W3 w g gl gh low high n HT3.out HL3.out HH3.out HGs.out.1 HGs.out.2.1 HGs.out.2.2.1 HGs.out.2.2.2 HHigh.out HB3.out
 generalize (W3.alloc (Obj.cells (madeCells #[.bool false] n) 4)).alloc (Obj.cells #[.slice (some ⟨W3.heap.size,0,none⟩) n n] 67)=W5 at *
 obtain⟨gs,hgs⟩:∃gs,gs=W3.heap.size:=⟨_,rfl⟩
 rw[←hgs] at hst ⊢
 obtain⟨go,hgo⟩:∃go,go=gs+1:=⟨_,rfl⟩
 rw[←hgo] at hst ⊢
 have HSt:=hD hst
 have HGo:=hD (And.intro hgs hgo)
 clear l0 h0 hst hgs hgo hmk ew1 ew2 HB3 HT3 HL3 HH3 HGs
 go_upto_region 3 with fail
 have HM6:=hD (Box.new W5 97 #[jD gl gh go])
 have hb6:=ja W5 (Obj.cells #[jD gl gh go] 97)
 unfold jD at HM6 hb6
 have hst6:=HSt.out.next hb6
 have nm6:W5.heap.size≠gs:=by have:=HSt.out.env.bs;obtain⟨_,q,_⟩:=this;have:=q.lt;omega
 generalize W5.alloc (Obj.cells #[.func (.func 41) #[] #[.pointer (some ⟨gl,0,none⟩),.pointer (some ⟨gh,0,none⟩),.pointer (some ⟨go,0,none⟩)]] 97)=W6 at *
 generalize W5.heap.size=gm at *
 have HSt6:=hD hst6
 clear hst6 hb6 HSt
 obtain⟨z0,z1,z2,z3,z4⟩:=q8 HSt6.out.tr
 go_upto_region 4 with fail
 have hb7:=ja W6 (Obj.cells #[.int .i64 7,.int .i64 a,.int .i64 b,.string nm,.slice A ks.length c] 24)
 have hf7:=Box.new W6 24 #[.int .i64 7,.int .i64 a,.int .i64 b,.string nm,.slice A ks.length c]
 have nf7:W6.heap.size≠gs:=by have:=HSt6.out.env.bs;obtain⟨_,q,_⟩:=this;have:=q.lt;omega
 have HK:Hid (SetSt w (W6.alloc (Obj.cells #[.int .i64 7,.int .i64 a,.int .i64 b,.string nm,.slice A ks.length c] 24)) g gl gh go gs gm W6.heap.size low n #[.int .i64 7,.int .i64 a,.int .i64 b,.string nm,.slice A ks.length c,.string cal.nm,.int .i64 cal.ep,.int .i64 cal.cy,.slice cal.A1 cal.mo.length cal.c1,.slice cal.A2 cal.lp.length cal.c2,.slice (some ⟨bk,ok,none⟩) ks.length c'] #[.int .i64 7,.int .i64 a,.int .i64 b,.string nm,.slice A ks.length c] (fun _=>False)):=⟨HSt6.out.next hb7,HM6.out.below hb7,hf7,nm6,nf7⟩
 clear z0 z1 z2 z3 z4 hb7 hf7 nm6 nf7 HM6 HSt6
 generalize W6.alloc (Obj.cells #[.int .i64 7,.int .i64 a,.int .i64 b,.string nm,.slice A ks.length c] 24)=w7 at *
 generalize W6.heap.size=gf at *
 have y0:w7.cell? ⟨gf,0,none⟩=some (.int .i64 7):=HK.out.fe.cell 0
 go_upto_region 15 with fail
 clear y0
 have dl:∀W,Below w7.heap.size w7 W→W.cell? ⟨gl,0,none⟩=some (.int .i64 low):=fun W hW=>(HK.out.s.env.bl.below hW).cell 0
 have dh:∀W,Below w7.heap.size w7 W→W.cell? ⟨gh,0,none⟩=some (.int .i64 high):=fun W hW=>by have:=(HK.out.s.env.bh.below hW).cell 0;rw[HHigh.out];exact this
 have f1:∀W,Below w7.heap.size w7 W→W.cell? ⟨gf,1,none⟩=some (.int .i64 a):=fun W hW=>(HK.out.fe.below hW).cell 1
 have t10:∀W,Below w7.heap.size w7 W→W.cell? ⟨g,10,none⟩=some (.slice (some ⟨bk,ok,none⟩) ks.length c'):=fun W hW=>(HK.out.s.tr.below hW).cell 10
 have hbk3:bk<w7.heap.size:=Nat.lt_of_lt_of_le hbk HK.out.s.bl.size
 have HKd3:=hD (jaO (W:=w7) hbk3 (fun j v hv=>(HK.out.s.bl.cell (p:=⟨bk,ok+j,none⟩) hbk).trans (hkc j v hv)) (by have:=HKl.out;omega) hk0_3)
 obtain⟨p3_0,p3_1,p3_2,p3_3,p3_4,p3_5,p3_6,p3_7,p3_8,p3_9,p3_10⟩:=HKd3.out
 clear hkc hk0_3
 refine ju (jy [(12,qR F0 (low-a) n w7.heap.size)]) (by kernel_rfl) (by kernel_rfl) ?_
 repeat (first|(refine jf (v:=?_) (by rfl) (by rfl) (fun w hb=>?_) ?_;rotate_left;(· go_simp<;>(repeat' apply And.intro)<;>with_reducible rfl);try simp only[pZ,Nat.reduceAdd])|(refine je (by rfl) (by rfl) ?_;try simp only[pZ,Nat.reduceAdd]))
 refine jl (f:=?_) (args:=?_) (t:=qR F0 (low-a) n w7.heap.size) [] (by kernel_rfl) (by rfl) (by rfl) ⟨_,0,rfl⟩ (qx _ _ _ _) (fun w hb=>?_) (fun w hb hu=>?_) ?_;rotate_left 2;(· go_simp<;>(repeat' apply And.intro)<;>with_reducible rfl)
 ·exact(HIH.out _ (HK.out.s.bl.trans (hb.mono HK.out.s.bl.size))).mono fun e w' h=>zj hb.size h
 rintro v ⟨gq,rfl⟩
 try simp only[pZ,Nat.reduceAdd]
 repeat (first|(refine jf (v:=?_) (by rfl) (by rfl) (fun w hb=>?_) ?_;rotate_left;(· go_simp<;>(repeat' apply And.intro)<;>with_reducible rfl);try simp only[pZ,Nat.reduceAdd])|(refine je (by rfl) (by rfl) ?_;try simp only[pZ,Nat.reduceAdd]))
 refine jo fun w8 hb8 hf=>?_
 have hq8:=hf.1 gq rfl
 have HQ8:=hD hq8.2
 have hqg:gq≠gs:=by obtain⟨_,q,_⟩:=HK.out.s.env.bs;have:=q.lt;have:=hq8.1;omega
 have HS8:=hD (HK.out.next hb8)
 clear hq8 hf hb8 HK dl dh f1 t10 p3_0 p3_1 p3_2 p3_3 p3_4 p3_5 p3_6 p3_7 p3_8 p3_9 p3_10 hbk hbk3 HIH kz kz' ew3 ew4
 obtain⟨L,hL,hLc,hLm⟩:=HQ8.out.list
 have HLc:=hD (And.intro hLc hLm)
 clear hLc hLm
 go_wp2_with fail
 go_loopw [10,11,73] (fun _ _ i wr=>∃j:Nat,j≤n∧i = .int .i64 (j:Int)∧Hid (w8.grownBy wr (some gs))∧Hid (SetSt w wr g gl gh go gs gm gf low n #[.int .i64 7,.int .i64 a,.int .i64 b,.string nm,.slice A ks.length c,.string cal.nm,.int .i64 cal.ep,.int .i64 cal.cy,.slice cal.A1 cal.mo.length cal.c1,.slice cal.A2 cal.lp.length cal.c2,.slice (some ⟨bk,ok,none⟩) ks.length c'] #[.int .i64 7,.int .i64 a,.int .i64 b,.string nm,.slice A ks.length c] (fun d=>MF d∧d<low+(j:Int)))) (fun _ _ i _=>n-(intOf i).toNat)
 case atStart=>exact⟨0,by omega,rfl,jG _ _,HS8.out.same fun d h1 h2=>⟨fun h=>h.elim,fun h=>by omega⟩⟩
 case round =>
  obtain⟨j,hj,rfl,hg,hS⟩:=hrel
  clear HS8
  have hnn:=HN.out
  by_cases hlt:j<n
  case neg =>
   have o0:wr.cell? ⟨go,0,none⟩=some (.slice (some ⟨gs,0,none⟩) n n):=hS.out.s.env.bo.cell 0
   have t1:decide ((j:Int)<(n:Int))=false:=decide_eq_false (by omega)
   go_wp2_with fail
   go_ret
   exact⟨gs,rfl,by rw[←HMF.out];exact hS.out.s.env.bs.same fun d h1 h2=>⟨fun h=>h.1,fun h=>⟨h,by omega⟩⟩,hS.out.s.lo,hS.out.s.bl⟩
  obtain⟨B,hB⟩:∃B,L[j]?=some B:=⟨_,List.getElem?_eq_getElem (by omega)⟩
  have hbx:wr.cell? ⟨gq,j,none⟩=some (.bool B):=by
   obtain⟨cs,h1,h2,h3⟩:=HQ8.out
   rw[(h1.grown hg.out (fun e=>hqg (by simpa using e))).cell j,←h1.cell j]
   exact HLc.out.1 j B hB
  have hBm:B=true↔jC F0 (low-a+(j:Int)):=by
   have:=HLc.out.2 j hlt
   rwa[List.getD_eq_getElem?_getD,hB] at this
  have HB:=hD hBm
  have ew:IntKind.i64.wrap (low+(j:Int))=low+(j:Int):=ji _ (by omega) (by omega)
  clear hBm hB
  cases B with
  | false =>
   have HS9:Hid (SetSt w wr g gl gh go gs gm gf low n #[.int .i64 7,.int .i64 a,.int .i64 b,.string nm,.slice A ks.length c,.string cal.nm,.int .i64 cal.ep,.int .i64 cal.cy,.slice cal.A1 cal.mo.length cal.c1,.slice cal.A2 cal.lp.length cal.c2,.slice (some ⟨bk,ok,none⟩) ks.length c'] #[.int .i64 7,.int .i64 a,.int .i64 b,.string nm,.slice A ks.length c] (fun d=>MF d∧d<low+((j+1:Nat):Int))):=hS.out.same fun d h1 h2=>⟨fun h=>⟨h.1,by omega⟩,fun h=>⟨h.1,by
    by_cases e:d=low+(j:Int)
    ·have:=HB.out.2 (by have:=((HMem.out d).1 h.1).2;rwa[show d-a=low-a+(j:Int) from by omega] at this);cases this
    ·omega⟩⟩
   clear hS HB
   go_wp2_with fail
   go_roundw
   case rel=>exact⟨j+1,by omega,by go_num,hg,HS9⟩
   case measure=>simp[intOf];omega
  | true =>
   have m0:wr.cell? ⟨gm,0,none⟩=some (jD gl gh go):=hS.out.mq.cell 0
   have l0:wr.cell? ⟨gl,0,none⟩=some (.int .i64 low):=hS.out.s.env.bl.cell 0
   unfold jD at m0
   have HMk:=hD (zk gl gh go gs low n _ (low+(j:Int)) wr hS.out.s.env (by omega) (by omega) (by omega) (by omega) (by omega))
   go_wp2_with fail
   refine HMk.out.mono ?_
   rintro e w9 ⟨rfl,hs9,hg9⟩
   have HS9:Hid (SetSt w w9 g gl gh go gs gm gf low n #[.int .i64 7,.int .i64 a,.int .i64 b,.string nm,.slice A ks.length c,.string cal.nm,.int .i64 cal.ep,.int .i64 cal.cy,.slice cal.A1 cal.mo.length cal.c1,.slice cal.A2 cal.lp.length cal.c2,.slice (some ⟨bk,ok,none⟩) ks.length c'] #[.int .i64 7,.int .i64 a,.int .i64 b,.string nm,.slice A ks.length c] (fun d=>MF d∧d<low+((j+1:Nat):Int))):=hS.out.grown hg9 (hs9.same fun d h1 h2=>⟨fun h=>by
    rcases h with h|h
    ·exact⟨h.1,by omega⟩
    ·exact⟨(HMem.out d).2 ⟨by rw[h.1];exact h.2,by rw[show d-a=low-a+(j:Int) from by omega];exact HB.out.1 trivial⟩,by omega⟩,fun h=>by
    by_cases e:d=low+(j:Int)
    ·exact .inr ⟨e,by rw[←e];exact((HMem.out d).1 h.1).1⟩
    ·exact .inl ⟨h.1,by omega⟩⟩)
   have HG9:=hD (World.grownBy.trans hg.out hg9)
   clear hs9 hg9 HMk hS HB m0 l0 hbx hg
   go_wp2_with fail
   go_roundw
   case rel=>exact⟨j+1,by omega,by go_num,HG9,HS9⟩
   case measure=>simp[intOf];omega
end
section
open Go Go.RowKit
attribute [local go_sem] Oper.semAt_some
theorem jfo (a b:Int) (nm:ByteArray) (A:Option Addr) (c:Nat) (cal:Cal) (A':Option Addr) (c':Nat) (ks:List ST) (A0:Option Addr) (c0:Nat) (fs:List FE) (low high:Int) (n:Nat) (w:World) (hhigh:high=low+n-1) (hlo : -90000000≤low) (hhi:high≤90000000) (hn:1≤n) (hn2:n≤1000000) {p:Nat→Prop} (hrow:RowAt w p A' (ks.flatMap stF)) (hkl:ks.length=1) (hfl:fs.length=1) (hr:0≤a∧a≤6)
  (IH0:∀W,Below w.heap.size w W→Calls Tryz.prog 24 #[.agg (stF (ks.getD 0 st0)).toArray,.int .i64 (low-6),.int .i64 high] W (xj (fs.getD 0 fe0) (low-6) (n+6) W)) :
  Calls Tryz.prog 24 #[.agg #[.int .i64 8,.int .i64 a,.int .i64 b,.string nm,.slice A ks.length c,.string cal.nm,.int .i64 cal.ep,.int .i64 cal.cy,.slice cal.A1 cal.mo.length cal.c1,.slice cal.A2 cal.lp.length cal.c2,.slice A' ks.length c'],.int .i64 low,.int .i64 high] w (xj (.node 8 a b nm A0 c0 fs) low n w):=by
 have HMem:Hid (∀d,jC (.node 8 a b nm A0 c0 fs) d↔js d∧∃s,jC (fs.getD 0 fe0) s∧d=s+(a-(s-1))%7):=fun d=>by
  rw[jC]
  show(js d∧∃s,yr fs 0 s∧d=s+(a-(s-1))%7)↔_
  simp only[qY fs 0 _ (show 0<fs.length by omega)]
 have HIH0:=hD IH0
 have HN:=hD (show -90000000≤low∧high≤90000000∧high≤low+n-1∧low+n-1≤high∧n≤1000000∧1≤n from⟨hlo,hhi,by omega,by omega,hn2,hn⟩)
 have ne:ks.flatMap stF≠[]:=qg xD (by omega) ks (by omega)
 obtain⟨bk,ok,rfl,_,hbk,hkc⟩:=hrow.resolve_left ne
 have ew3:IntKind.i64.wrap (low-6)=low-6:=ji _ (by omega) (by omega)
 have kz:(0:Int)<(ks.length:Int):=by omega
 have kz':0<ks.length:=by omega
 obtain⟨MF,hMF⟩:∃MF,MF=jC (.node 8 a b nm A0 c0 fs):=⟨_,rfl⟩
 rw[←hMF] at HMem
 have HMF:=hD hMF
 have HKl:=hD hkl
 clear hMF hkl hfl hrow ne IH0
 generalize fs.getD 0 fe0=F0 at *
 generalize hk0_3:ks.getD 0 st0=K0 at *
 obtain⟨k3,a3,b3,nm3,A3,c3,cal3,B3,d3,ks3⟩:=K0
 obtain⟨W3,g,gl,gh,hW3,HB3,HGs,HT3,HL3,HH3⟩:=zX w #[.int .i64 8,.int .i64 a,.int .i64 b,.string nm,.slice A ks.length c,.string cal.nm,.int .i64 cal.ep,.int .i64 cal.cy,.slice cal.A1 cal.mo.length cal.c1,.slice cal.A2 cal.lp.length cal.c2,.slice (some ⟨bk,ok,none⟩) ks.length c'] low high
 have hmk:=fun W=>run_make_row' (P:=Tryz.prog) 67 4 (.bool false) 1 Tryz.underlying67 qi rfl .i64 .i64 n (by omega) (by omega) W
 have ew1:IntKind.i64.wrap (high-low)=(n:Int)-1:=by rw[ji _ (by omega) (by omega)];omega
 have ew2:IntKind.i64.wrap ((n:Int)-1+1)=(n:Int):=by rw[ji _ (by omega) (by omega)];omega
 have HHigh:=hD hhigh
 clear hhigh
 go_enter Tryz.func24,Tryz.ntmps24
 go_upto_region 1 with fail
 rw[hW3.out,←HGs.out.1,←HGs.out.2.1,←HGs.out.2.2.1]
 have l0:W3.cell? ⟨gl,0,none⟩=some (.int .i64 low):=HL3.out.cell 0
 have h0:W3.cell? ⟨gh,0,none⟩=some (.int .i64 high):=HH3.out.cell 0
 clear hW3
 go_upto_region 2 with fail
 have hst:=qQ W3 w g gl gh low high n HT3.out HL3.out HH3.out HGs.out.1 HGs.out.2.1 HGs.out.2.2.1 HGs.out.2.2.2 HHigh.out HB3.out
 generalize (W3.alloc (Obj.cells (madeCells #[.bool false] n) 4)).alloc (Obj.cells #[.slice (some ⟨W3.heap.size,0,none⟩) n n] 67)=W5 at *
 obtain⟨gs,hgs⟩:∃gs,gs=W3.heap.size:=⟨_,rfl⟩
 rw[←hgs] at hst ⊢
 obtain⟨go,hgo⟩:∃go,go=gs+1:=⟨_,rfl⟩
 rw[←hgo] at hst ⊢
 have HSt:=hD hst
 have HGo:=hD (And.intro hgs hgo)
 clear l0 h0 hst hgs hgo hmk ew1 ew2 HB3 HT3 HL3 HH3 HGs
 go_upto_region 3 with fail
 have HM6:=hD (Box.new W5 97 #[jD gl gh go])
 have hb6:=ja W5 (Obj.cells #[jD gl gh go] 97)
 unfold jD at HM6 hb6
 have hst6:=HSt.out.next hb6
 have nm6:W5.heap.size≠gs:=by have:=HSt.out.env.bs;obtain⟨_,q,_⟩:=this;have:=q.lt;omega
 generalize W5.alloc (Obj.cells #[.func (.func 41) #[] #[.pointer (some ⟨gl,0,none⟩),.pointer (some ⟨gh,0,none⟩),.pointer (some ⟨go,0,none⟩)]] 97)=W6 at *
 generalize W5.heap.size=gm at *
 have HSt6:=hD hst6
 clear hst6 hb6 HSt
 obtain⟨z0,z1,z2,z3,z4⟩:=q8 HSt6.out.tr
 go_upto_region 4 with fail
 have hb7:=ja W6 (Obj.cells #[.int .i64 8,.int .i64 a,.int .i64 b,.string nm,.slice A ks.length c] 24)
 have hf7:=Box.new W6 24 #[.int .i64 8,.int .i64 a,.int .i64 b,.string nm,.slice A ks.length c]
 have nf7:W6.heap.size≠gs:=by have:=HSt6.out.env.bs;obtain⟨_,q,_⟩:=this;have:=q.lt;omega
 have HK:Hid (SetSt w (W6.alloc (Obj.cells #[.int .i64 8,.int .i64 a,.int .i64 b,.string nm,.slice A ks.length c] 24)) g gl gh go gs gm W6.heap.size low n #[.int .i64 8,.int .i64 a,.int .i64 b,.string nm,.slice A ks.length c,.string cal.nm,.int .i64 cal.ep,.int .i64 cal.cy,.slice cal.A1 cal.mo.length cal.c1,.slice cal.A2 cal.lp.length cal.c2,.slice (some ⟨bk,ok,none⟩) ks.length c'] #[.int .i64 8,.int .i64 a,.int .i64 b,.string nm,.slice A ks.length c] (fun _=>False)):=⟨HSt6.out.next hb7,HM6.out.below hb7,hf7,nm6,nf7⟩
 clear z0 z1 z2 z3 z4 hb7 hf7 nm6 nf7 HM6 HSt6
 generalize W6.alloc (Obj.cells #[.int .i64 8,.int .i64 a,.int .i64 b,.string nm,.slice A ks.length c] 24)=w7 at *
 generalize W6.heap.size=gf at *
 have y0:w7.cell? ⟨gf,0,none⟩=some (.int .i64 8):=HK.out.fe.cell 0
 go_upto_region 22 with fail
 clear y0
 have dl:∀W,Below w7.heap.size w7 W→W.cell? ⟨gl,0,none⟩=some (.int .i64 low):=fun W hW=>(HK.out.s.env.bl.below hW).cell 0
 have dh:∀W,Below w7.heap.size w7 W→W.cell? ⟨gh,0,none⟩=some (.int .i64 high):=fun W hW=>by have:=(HK.out.s.env.bh.below hW).cell 0;rw[HHigh.out];exact this
 have f1:∀W,Below w7.heap.size w7 W→W.cell? ⟨gf,1,none⟩=some (.int .i64 a):=fun W hW=>(HK.out.fe.below hW).cell 1
 have t10:∀W,Below w7.heap.size w7 W→W.cell? ⟨g,10,none⟩=some (.slice (some ⟨bk,ok,none⟩) ks.length c'):=fun W hW=>(HK.out.s.tr.below hW).cell 10
 have hbk3:bk<w7.heap.size:=Nat.lt_of_lt_of_le hbk HK.out.s.bl.size
 have HKd3:=hD (jaO (W:=w7) hbk3 (fun j v hv=>(HK.out.s.bl.cell (p:=⟨bk,ok+j,none⟩) hbk).trans (hkc j v hv)) (by have:=HKl.out;omega) hk0_3)
 obtain⟨p3_0,p3_1,p3_2,p3_3,p3_4,p3_5,p3_6,p3_7,p3_8,p3_9,p3_10⟩:=HKd3.out
 clear hkc hk0_3
 refine ju (jy [(7,qR F0 (low-6) (n+6) w7.heap.size)]) (by kernel_rfl) (by kernel_rfl) ?_
 repeat (first|(refine jf (v:=?_) (by rfl) (by rfl) (fun w hb=>?_) ?_;rotate_left;(· go_simp<;>(repeat' apply And.intro)<;>with_reducible rfl);try simp only[pZ,Nat.reduceAdd])|(refine je (by rfl) (by rfl) ?_;try simp only[pZ,Nat.reduceAdd]))
 refine jl (f:=?_) (args:=?_) (t:=qR F0 (low-6) (n+6) w7.heap.size) [] (by kernel_rfl) (by rfl) (by rfl) ⟨_,0,rfl⟩ (qx _ _ _ _) (fun w hb=>?_) (fun w hb hu=>?_) ?_;rotate_left 2;(· go_simp<;>(repeat' apply And.intro)<;>with_reducible rfl)
 ·exact(HIH0.out _ (HK.out.s.bl.trans (hb.mono HK.out.s.bl.size))).mono fun e w' h=>zj hb.size h
 rintro v ⟨gq,rfl⟩
 try simp only[pZ,Nat.reduceAdd]
 repeat (first|(refine jf (v:=?_) (by rfl) (by rfl) (fun w hb=>?_) ?_;rotate_left;(· go_simp<;>(repeat' apply And.intro)<;>with_reducible rfl);try simp only[pZ,Nat.reduceAdd])|(refine je (by rfl) (by rfl) ?_;try simp only[pZ,Nat.reduceAdd]))
 refine jo fun w8 hb8 hf=>?_
 have hq8:=hf.1 gq rfl
 have HQ8:=hD hq8.2
 have hqg:gq≠gs:=by obtain⟨_,q,_⟩:=HK.out.s.env.bs;have:=q.lt;have:=hq8.1;omega
 have HS8:=hD (HK.out.next hb8)
 clear hq8 hf hb8 HK dl dh f1 t10 p3_0 p3_1 p3_2 p3_3 p3_4 p3_5 p3_6 p3_7 p3_8 p3_9 p3_10 hbk hbk3 HIH0 kz kz'
 obtain⟨L,hL,hLc,hLm⟩:=HQ8.out.list
 have HLc:=hD (And.intro hLc hLm)
 clear hLc hLm
 go_wp2_with fail
 go_loopw [12,13,14,96] (fun _ _ _ i wr=>∃j:Nat,j≤n+6∧i = .int .i64 (j:Int)∧Hid (w8.grownBy wr (some gs))∧Hid (SetSt w wr g gl gh go gs gm gf low n #[.int .i64 8,.int .i64 a,.int .i64 b,.string nm,.slice A ks.length c,.string cal.nm,.int .i64 cal.ep,.int .i64 cal.cy,.slice cal.A1 cal.mo.length cal.c1,.slice cal.A2 cal.lp.length cal.c2,.slice (some ⟨bk,ok,none⟩) ks.length c'] #[.int .i64 8,.int .i64 a,.int .i64 b,.string nm,.slice A ks.length c] (fun d=>js d∧∃i:Nat,i<j∧jC F0 (low-6+(i:Int))∧d=low-6+(i:Int)+(a-(low-6+(i:Int)-1))%7))) (fun _ _ _ i _=>n+6-(intOf i).toNat)
 case atStart=>exact⟨0,by omega,rfl,jG _ _,HS8.out.same fun d h1 h2=>⟨fun h=>h.elim,fun h=>by obtain⟨_,i,h,_⟩:=h;omega⟩⟩
 case round =>
  obtain⟨j,hj,rfl,hg,hS⟩:=hrel
  clear HS8
  have hnn:=HN.out
  have cN:((n+6:Nat):Int)=(n:Int)+6:=by omega
  by_cases hlt:j<n+6
  case neg =>
   have o0:wr.cell? ⟨go,0,none⟩=some (.slice (some ⟨gs,0,none⟩) n n):=hS.out.s.env.bo.cell 0
   have t1:decide ((j:Int)<(n:Int)+6)=false:=decide_eq_false (by omega)
   have hje:n+6≤j:=by omega
   have HEnd:Hid (BoolsAt wr gs low n MF):=hS.out.s.env.bs.same fun d h1 h2=>by
    refine⟨fun h=>?_,fun h=>?_⟩
    ·obtain⟨hd,i,_,q1,q2⟩:=h
     exact(HMem.out d).2 ⟨hd,_,q1,q2⟩
    ·obtain⟨hd,s,q1,q2⟩:=(HMem.out d).1 h
     refine⟨hd,(s-(low-6)).toNat,by omega,?_,?_⟩
     ·rw[show low-6+((s-(low-6)).toNat:Int)=s from by omega];exact q1
     ·rw[show low-6+((s-(low-6)).toNat:Int)=s from by omega];exact q2
   go_wp2_with fail
   go_ret
   exact⟨gs,rfl,by rw[←HMF.out];exact HEnd.out,hS.out.s.lo,hS.out.s.bl⟩
  obtain⟨B,hB⟩:∃B,L[j]?=some B:=⟨_,List.getElem?_eq_getElem (by omega)⟩
  have hbx:wr.cell? ⟨gq,j,none⟩=some (.bool B):=by
   obtain⟨cs,h1,h2,h3⟩:=HQ8.out
   rw[(h1.grown hg.out (fun e=>hqg (by simpa using e))).cell j,←h1.cell j]
   exact HLc.out.1 j B hB
  have hBm:B=true↔jC F0 (low-6+(j:Int)):=by
   have:=HLc.out.2 j hlt
   rwa[List.getD_eq_getElem?_getD,hB] at this
  have HB:=hD hBm
  have l0:wr.cell? ⟨gl,0,none⟩=some (.int .i64 low):=hS.out.s.env.bl.cell 0
  have ew:IntKind.i64.wrap (low-6+(j:Int))=low-6+(j:Int):=ji _ (by omega) (by omega)
  have tj:decide ((j:Int)<(n:Int)+6)=true:=decide_eq_true (by omega)
  clear hBm hB
  cases B with
  | false =>
   have HS9:Hid (SetSt w wr g gl gh go gs gm gf low n #[.int .i64 8,.int .i64 a,.int .i64 b,.string nm,.slice A ks.length c,.string cal.nm,.int .i64 cal.ep,.int .i64 cal.cy,.slice cal.A1 cal.mo.length cal.c1,.slice cal.A2 cal.lp.length cal.c2,.slice (some ⟨bk,ok,none⟩) ks.length c'] #[.int .i64 8,.int .i64 a,.int .i64 b,.string nm,.slice A ks.length c] (fun d=>js d∧∃i:Nat,i<j+1∧jC F0 (low-6+(i:Int))∧d=low-6+(i:Int)+(a-(low-6+(i:Int)-1))%7)):=hS.out.same fun d h1 h2=>⟨fun h=>⟨h.1,by obtain⟨_,i,q0,q1,q2⟩:=h;exact⟨i,by omega,q1,q2⟩⟩,fun h=>⟨h.1,by
    obtain⟨_,i,q0,q1,q2⟩:=h
    by_cases e:i=j
    ·subst e;have:=HB.out.2 q1;cases this
    ·exact⟨i,by omega,q1,q2⟩⟩⟩
   clear hS HB
   go_wp2_with fail
   go_roundw
   case rel=>exact⟨j+1,by omega,by go_num,hg,HS9⟩
   case measure=>simp[intOf];omega
  | true =>
   have m0:wr.cell? ⟨gm,0,none⟩=some (jD gl gh go):=hS.out.mq.cell 0
   obtain⟨x0,x1,x2,x3,x4⟩:=zD hS.out.fe
   unfold jD at m0
   have m1:∀W,Below wr.heap.size wr W→W.cell? ⟨gm,0,none⟩=some (.func (.func 41) #[] #[.pointer (some ⟨gl,0,none⟩),.pointer (some ⟨gh,0,none⟩),.pointer (some ⟨go,0,none⟩)]):=fun W hW=>(hS.out.mq.below hW).cell 0
   have f1:∀W,Below wr.heap.size wr W→W.cell? ⟨gf,1,none⟩=some (.int .i64 a):=fun W hW=>(hS.out.fe.below hW).cell 1
   have hs1 : -90000006≤low-6+(j:Int)∧low-6+(j:Int)≤90000000:=by omega
   go_upto_region 27 with fail
   clear ew
   obtain⟨s,hs⟩:∃s,s=low-6+(j:Int):=⟨_,rfl⟩
   rw[←hs] at HB hs1 ⊢
   have hsx:=hD hs
   clear hs
   obtain⟨v,hv⟩:∃v,v=(a-(s-1))%7:=⟨_,rfl⟩
   have hv1:0≤v∧v<7:=by omega
   have HMd:=hD (fun W=>jW (a-(s-1)) 7 W (by omega) (by omega) (by omega) (by omega))
   rw[←hv] at HMd
   have HV:=hD hv
   have HMk:=hD (fun(M:Int→Prop) W (h:SetEnv W gl gh go gs low n M)=>zk gl gh go gs low n M (s+v) W h (by omega) (by omega) (by omega) (by omega) (by omega))
   have ew5:IntKind.i64.wrap (s-1)=s-1:=ji _ (by omega) (by omega)
   have ew6:IntKind.i64.wrap (a-(s-1))=a-(s-1):=ji _ (by omega) (by omega)
   have ew7:IntKind.i64.wrap (s+v)=s+v:=ji _ (by omega) (by omega)
   clear hv
   clear m0 x0 x1 x2 x3 x4 l0 hbx
   refine jr 9 (jy [(7,det (.int .i64 v))]) (by kernel_rfl) (by kernel_rfl) ?_
   simp only[List.take_succ_cons,List.take_zero,List.drop_succ_cons,List.drop_zero]
   repeat (first|(refine jf (v:=?_) (by rfl) (by rfl) (fun w hb=>?_) ?_;rotate_left;(· go_simp<;>(repeat' apply And.intro)<;>with_reducible rfl);try simp only[pZ,Nat.reduceAdd])|(refine je (by rfl) (by rfl) ?_;try simp only[pZ,Nat.reduceAdd]))
   refine j8 (f:=?_) (args:=?_) [] (by kernel_rfl) (by rfl) (by rfl) (fun w hb=>?_) (fun w hb hu=>?_) ?_;rotate_left 2;(· go_simp<;>(repeat' apply And.intro)<;>with_reducible rfl)
   ·exact(HMd.out w).mono fun e w' ⟨he,nq,hw⟩=>⟨he,by rw[hw];exact jg _ _⟩
   try simp only[pZ,Nat.reduceAdd]
   repeat (first|(refine jf (v:=?_) (by rfl) (by rfl) (fun w hb=>?_) ?_;rotate_left;(· go_simp<;>(repeat' apply And.intro)<;>with_reducible rfl);try simp only[pZ,Nat.reduceAdd])|(refine je (by rfl) (by rfl) ?_;try simp only[pZ,Nat.reduceAdd]))
   refine jo fun wb hbb _=>?_
   have HSb:=hD (hS.out.next hbb)
   have HGb:=hD (World.grownBy.trans hg.out (jj (row:=some gs) hbb))
   have HM1:=hD (HMk.out _ wb HSb.out.s.env)
   clear hbb m1 f1 HMk HMd hS hg
   refine wpList_step fun K hK=>?_
   rw[if_pos (by rfl)]
   go_simp
   refine HM1.out.mono ?_
   rintro e w9 ⟨rfl,hs9,hg9⟩
   have HS9:Hid (SetSt w w9 g gl gh go gs gm gf low n #[.int .i64 8,.int .i64 a,.int .i64 b,.string nm,.slice A ks.length c,.string cal.nm,.int .i64 cal.ep,.int .i64 cal.cy,.slice cal.A1 cal.mo.length cal.c1,.slice cal.A2 cal.lp.length cal.c2,.slice (some ⟨bk,ok,none⟩) ks.length c'] #[.int .i64 8,.int .i64 a,.int .i64 b,.string nm,.slice A ks.length c] (fun d=>js d∧∃i:Nat,i<j+1∧jC F0 (low-6+(i:Int))∧d=low-6+(i:Int)+(a-(low-6+(i:Int)-1))%7)):=HSb.out.grown hg9 (hs9.same fun d h1 h2=>⟨fun h=>by
    rcases h with h|h
    ·exact⟨h.1,by obtain⟨_,i,q0,q1,q2⟩:=h;exact⟨i,by omega,q1,q2⟩⟩
    ·exact⟨by rw[h.1];exact h.2,j,by omega,by rw[←hsx.out];exact HB.out.1 rfl,by rw[←hsx.out,←HV.out];exact h.1⟩,fun h=>by
    obtain⟨hd,i,q0,q1,q2⟩:=h
    by_cases e:i=j
    ·subst e
     rw[←hsx.out,←HV.out] at q2
     exact .inr ⟨q2,by rw[←q2];exact hd⟩
    ·exact .inl ⟨hd,i,by omega,q1,q2⟩⟩)
   have HG9:=hD (World.grownBy.trans HGb.out hg9)
   clear hs9 hg9 HM1 HSb HGb
   refine hK _ _ (wpList_nil ?_)
   clear hK K
   go_wp2_with fail
   go_roundw
   case rel=>exact⟨j+1,by omega,by go_num,HG9,HS9⟩
   case measure=>simp[intOf];omega
end
section
open Go Go.RowKit
attribute [local go_sem] Oper.semAt_some
theorem jf2 (a b:Int) (nm:ByteArray) (A:Option Addr) (c:Nat) (cal:Cal) (A':Option Addr) (c':Nat) (ks:List ST) (A0:Option Addr) (c0:Nat) (fs:List FE) (low high:Int) (n:Nat) (w:World) (hhigh:high=low+n-1) (hlo : -90000000≤low) (hhi:high≤90000000) (hn:1≤n) (hn2:n≤1000000) {p:Nat→Prop} (hrow:RowAt w p A' (ks.flatMap stF)) (hkl:ks.length=2) (hfl:fs.length=2)
  (IH0:∀W,Below w.heap.size w W→Calls Tryz.prog 24 #[.agg (stF (ks.getD 0 st0)).toArray,.int .i64 low,.int .i64 high] W (xj (fs.getD 0 fe0) low n W))
  (IH1:∀W,Below w.heap.size w W→Calls Tryz.prog 24 #[.agg (stF (ks.getD 1 st0)).toArray,.int .i64 low,.int .i64 high] W (xj (fs.getD 1 fe0) low n W)) :
  Calls Tryz.prog 24 #[.agg #[.int .i64 9,.int .i64 a,.int .i64 b,.string nm,.slice A ks.length c,.string cal.nm,.int .i64 cal.ep,.int .i64 cal.cy,.slice cal.A1 cal.mo.length cal.c1,.slice cal.A2 cal.lp.length cal.c2,.slice A' ks.length c'],.int .i64 low,.int .i64 high] w (xj (.node 9 a b nm A0 c0 fs) low n w):=by
 have HMem:Hid (∀d,jC (.node 9 a b nm A0 c0 fs) d↔js d∧(jC (fs.getD 0 fe0) d∨jC (fs.getD 1 fe0) d)):=fun d=>by
  rw[jC]
  show(js d∧(yr fs 0 d∨yr fs 1 d))↔_
  rw[qY fs 0 d (by omega),qY fs 1 d (by omega)]
 have HIH0:=hD IH0
 have HIH1:=hD IH1
 have HN:=hD (show -90000000≤low∧high≤90000000∧high≤low+n-1∧low+n-1≤high∧n≤1000000∧1≤n from⟨hlo,hhi,by omega,by omega,hn2,hn⟩)
 have ne:ks.flatMap stF≠[]:=qg xD (by omega) ks (by omega)
 obtain⟨bk,ok,rfl,_,hbk,hkc⟩:=hrow.resolve_left ne
 have kz:(0:Int)<(ks.length:Int):=by omega
 have kz':0<ks.length:=by omega
 have kz1:(1:Int)<(ks.length:Int):=by omega
 have kz1':1<ks.length:=by omega
 obtain⟨MF,hMF⟩:∃MF,MF=jC (.node 9 a b nm A0 c0 fs):=⟨_,rfl⟩
 rw[←hMF] at HMem
 have HMF:=hD hMF
 have HKl:=hD hkl
 clear hMF hkl hfl hrow ne IH0 IH1
 generalize fs.getD 0 fe0=F0 at *
 generalize fs.getD 1 fe0=F1 at *
 generalize hk0_3:ks.getD 0 st0=K0 at *
 obtain⟨k3,a3,b3,nm3,A3,c3,cal3,B3,d3,ks3⟩:=K0
 generalize hk0_5:ks.getD 1 st0=K1 at *
 obtain⟨k5,a5,b5,nm5,A5,c5,cal5,B5,d5,ks5⟩:=K1
 obtain⟨W3,g,gl,gh,hW3,HB3,HGs,HT3,HL3,HH3⟩:=zX w #[.int .i64 9,.int .i64 a,.int .i64 b,.string nm,.slice A ks.length c,.string cal.nm,.int .i64 cal.ep,.int .i64 cal.cy,.slice cal.A1 cal.mo.length cal.c1,.slice cal.A2 cal.lp.length cal.c2,.slice (some ⟨bk,ok,none⟩) ks.length c'] low high
 have hmk:=fun W=>run_make_row' (P:=Tryz.prog) 67 4 (.bool false) 1 Tryz.underlying67 qi rfl .i64 .i64 n (by omega) (by omega) W
 have ew1:IntKind.i64.wrap (high-low)=(n:Int)-1:=by rw[ji _ (by omega) (by omega)];omega
 have ew2:IntKind.i64.wrap ((n:Int)-1+1)=(n:Int):=by rw[ji _ (by omega) (by omega)];omega
 have HHigh:=hD hhigh
 clear hhigh
 go_enter Tryz.func24,Tryz.ntmps24
 go_upto_region 1 with fail
 rw[hW3.out,←HGs.out.1,←HGs.out.2.1,←HGs.out.2.2.1]
 have l0:W3.cell? ⟨gl,0,none⟩=some (.int .i64 low):=HL3.out.cell 0
 have h0:W3.cell? ⟨gh,0,none⟩=some (.int .i64 high):=HH3.out.cell 0
 clear hW3
 go_upto_region 2 with fail
 have hst:=qQ W3 w g gl gh low high n HT3.out HL3.out HH3.out HGs.out.1 HGs.out.2.1 HGs.out.2.2.1 HGs.out.2.2.2 HHigh.out HB3.out
 generalize (W3.alloc (Obj.cells (madeCells #[.bool false] n) 4)).alloc (Obj.cells #[.slice (some ⟨W3.heap.size,0,none⟩) n n] 67)=W5 at *
 obtain⟨gs,hgs⟩:∃gs,gs=W3.heap.size:=⟨_,rfl⟩
 rw[←hgs] at hst ⊢
 obtain⟨go,hgo⟩:∃go,go=gs+1:=⟨_,rfl⟩
 rw[←hgo] at hst ⊢
 have HSt:=hD hst
 have HGo:=hD (And.intro hgs hgo)
 clear l0 h0 hst hgs hgo hmk ew1 ew2 HB3 HT3 HL3 HH3 HGs
 go_upto_region 3 with fail
 have HM6:=hD (Box.new W5 97 #[jD gl gh go])
 have hb6:=ja W5 (Obj.cells #[jD gl gh go] 97)
 unfold jD at HM6 hb6
 have hst6:=HSt.out.next hb6
 have nm6:W5.heap.size≠gs:=by have:=HSt.out.env.bs;obtain⟨_,q,_⟩:=this;have:=q.lt;omega
 generalize W5.alloc (Obj.cells #[.func (.func 41) #[] #[.pointer (some ⟨gl,0,none⟩),.pointer (some ⟨gh,0,none⟩),.pointer (some ⟨go,0,none⟩)]] 97)=W6 at *
 generalize W5.heap.size=gm at *
 have HSt6:=hD hst6
 clear hst6 hb6 HSt
 obtain⟨z0,z1,z2,z3,z4⟩:=q8 HSt6.out.tr
 go_upto_region 4 with fail
 have hb7:=ja W6 (Obj.cells #[.int .i64 9,.int .i64 a,.int .i64 b,.string nm,.slice A ks.length c] 24)
 have hf7:=Box.new W6 24 #[.int .i64 9,.int .i64 a,.int .i64 b,.string nm,.slice A ks.length c]
 have nf7:W6.heap.size≠gs:=by have:=HSt6.out.env.bs;obtain⟨_,q,_⟩:=this;have:=q.lt;omega
 have HK:Hid (SetSt w (W6.alloc (Obj.cells #[.int .i64 9,.int .i64 a,.int .i64 b,.string nm,.slice A ks.length c] 24)) g gl gh go gs gm W6.heap.size low n #[.int .i64 9,.int .i64 a,.int .i64 b,.string nm,.slice A ks.length c,.string cal.nm,.int .i64 cal.ep,.int .i64 cal.cy,.slice cal.A1 cal.mo.length cal.c1,.slice cal.A2 cal.lp.length cal.c2,.slice (some ⟨bk,ok,none⟩) ks.length c'] #[.int .i64 9,.int .i64 a,.int .i64 b,.string nm,.slice A ks.length c] (fun _=>False)):=⟨HSt6.out.next hb7,HM6.out.below hb7,hf7,nm6,nf7⟩
 clear z0 z1 z2 z3 z4 hb7 hf7 nm6 nf7 HM6 HSt6
 generalize W6.alloc (Obj.cells #[.int .i64 9,.int .i64 a,.int .i64 b,.string nm,.slice A ks.length c] 24)=w7 at *
 generalize W6.heap.size=gf at *
 have y0:w7.cell? ⟨gf,0,none⟩=some (.int .i64 9):=HK.out.fe.cell 0
 go_upto_region 32 with fail
 clear y0
 have dl:∀W,Below w7.heap.size w7 W→W.cell? ⟨gl,0,none⟩=some (.int .i64 low):=fun W hW=>(HK.out.s.env.bl.below hW).cell 0
 have dh:∀W,Below w7.heap.size w7 W→W.cell? ⟨gh,0,none⟩=some (.int .i64 high):=fun W hW=>by have:=(HK.out.s.env.bh.below hW).cell 0;rw[HHigh.out];exact this
 have f1:∀W,Below w7.heap.size w7 W→W.cell? ⟨gf,1,none⟩=some (.int .i64 a):=fun W hW=>(HK.out.fe.below hW).cell 1
 have t10:∀W,Below w7.heap.size w7 W→W.cell? ⟨g,10,none⟩=some (.slice (some ⟨bk,ok,none⟩) ks.length c'):=fun W hW=>(HK.out.s.tr.below hW).cell 10
 have hbk3:bk<w7.heap.size:=Nat.lt_of_lt_of_le hbk HK.out.s.bl.size
 have HKd3:=hD (jaO (W:=w7) hbk3 (fun j v hv=>(HK.out.s.bl.cell (p:=⟨bk,ok+j,none⟩) hbk).trans (hkc j v hv)) (by have:=HKl.out;omega) hk0_3)
 obtain⟨p3_0,p3_1,p3_2,p3_3,p3_4,p3_5,p3_6,p3_7,p3_8,p3_9,p3_10⟩:=HKd3.out
 have hbk5:bk<w7.heap.size:=Nat.lt_of_lt_of_le hbk HK.out.s.bl.size
 have HKd5:=hD (jfP (W:=w7) hbk5 (fun j v hv=>(HK.out.s.bl.cell (p:=⟨bk,ok+j,none⟩) hbk).trans (hkc j v hv)) (by have:=HKl.out;omega) hk0_5)
 obtain⟨p5_0,p5_1,p5_2,p5_3,p5_4,p5_5,p5_6,p5_7,p5_8,p5_9,p5_10⟩:=HKd5.out
 clear hkc hk0_3 hk0_5
 refine ju (jy [(6,qR F1 (low) n w7.heap.size)]) (by kernel_rfl) (by kernel_rfl) ?_
 repeat (first|(refine jf (v:=?_) (by rfl) (by rfl) (fun w hb=>?_) ?_;rotate_left;(· go_simp<;>(repeat' apply And.intro)<;>with_reducible rfl);try simp only[pZ,Nat.reduceAdd])|(refine je (by rfl) (by rfl) ?_;try simp only[pZ,Nat.reduceAdd]))
 refine jl (f:=?_) (args:=?_) (t:=qR F1 (low) n w7.heap.size) [] (by kernel_rfl) (by rfl) (by rfl) ⟨_,0,rfl⟩ (qx _ _ _ _) (fun w hb=>?_) (fun w hb hu=>?_) ?_;rotate_left 2;(· go_simp<;>(repeat' apply And.intro)<;>with_reducible rfl)
 ·exact(HIH1.out _ (HK.out.s.bl.trans (hb.mono HK.out.s.bl.size))).mono fun e w' h=>zj hb.size h
 rintro v ⟨g1,rfl⟩
 try simp only[pZ,Nat.reduceAdd]
 repeat (first|(refine jf (v:=?_) (by rfl) (by rfl) (fun w hb=>?_) ?_;rotate_left;(· go_simp<;>(repeat' apply And.intro)<;>with_reducible rfl);try simp only[pZ,Nat.reduceAdd])|(refine je (by rfl) (by rfl) ?_;try simp only[pZ,Nat.reduceAdd]))
 refine jo fun w8 hb8 hf=>?_
 have hq8:=hf.1 g1 rfl
 have HQ8:=hD hq8.2
 have hqg1:g1≠gs:=by obtain⟨_,q,_⟩:=HK.out.s.env.bs;have:=q.lt;have:=hq8.1;omega
 have HS8:=hD (HK.out.next hb8)
 have HB8:=hD hb8
 clear hq8 hf HIH1 p5_0 p5_1 p5_2 p5_3 p5_4 p5_5 p5_6 p5_7 p5_8 p5_9 p5_10
 go_upto_region 33 with fail
 have dl8:∀W,Below w8.heap.size w8 W→W.cell? ⟨gl,0,none⟩=some (.int .i64 low):=fun W hW=>dl W (jb HB8.out hW)
 have dh8:∀W,Below w8.heap.size w8 W→W.cell? ⟨gh,0,none⟩=some (.int .i64 high):=fun W hW=>dh W (jb HB8.out hW)
 have t108:∀W,Below w8.heap.size w8 W→W.cell? ⟨g,10,none⟩=some (.slice (some ⟨bk,ok,none⟩) ks.length c'):=fun W hW=>t10 W (jb HB8.out hW)
 obtain⟨p8_0,p8_1,p8_2,p8_3,p8_4,p8_5,p8_6,p8_7,p8_8,p8_9,p8_10⟩:=Qm HB8.out HKd3.out
 clear p3_0 p3_1 p3_2 p3_3 p3_4 p3_5 p3_6 p3_7 p3_8 p3_9 p3_10 dl dh t10 f1 HK hb8
 refine ju (jy [(6,qR F0 low n w8.heap.size)]) (by kernel_rfl) (by kernel_rfl) ?_
 repeat (first|(refine jf (v:=?_) (by rfl) (by rfl) (fun w hb=>?_) ?_;rotate_left;(· go_simp<;>(repeat' apply And.intro)<;>with_reducible rfl);try simp only[pZ,Nat.reduceAdd])|(refine je (by rfl) (by rfl) ?_;try simp only[pZ,Nat.reduceAdd]))
 refine jl (f:=?_) (args:=?_) (t:=qR F0 low n w8.heap.size) [] (by kernel_rfl) (by rfl) (by rfl) ⟨_,0,rfl⟩ (qx _ _ _ _) (fun w hb=>?_) (fun w hb hu=>?_) ?_;rotate_left 2;(· go_simp<;>(repeat' apply And.intro)<;>with_reducible rfl)
 ·exact(HIH0.out _ (HS8.out.s.bl.trans (hb.mono HS8.out.s.bl.size))).mono fun e w' h=>zj hb.size h
 rintro v ⟨g0,rfl⟩
 try simp only[pZ,Nat.reduceAdd]
 repeat (first|(refine jf (v:=?_) (by rfl) (by rfl) (fun w hb=>?_) ?_;rotate_left;(· go_simp<;>(repeat' apply And.intro)<;>with_reducible rfl);try simp only[pZ,Nat.reduceAdd])|(refine je (by rfl) (by rfl) ?_;try simp only[pZ,Nat.reduceAdd]))
 refine jo fun w9 hb9 hf=>?_
 have hq9:=hf.1 g0 rfl
 have HQ9:=hD hq9.2
 have hqg0:g0≠gs:=by obtain⟨_,q,_⟩:=HS8.out.s.env.bs;have:=q.lt;have:=hq9.1;omega
 have HS9:=hD (HS8.out.next hb9)
 have HQ1:=hD (HQ8.out.next hb9)
 clear hq9 hf hb9 HQ8 HS8 HB8 dl8 dh8 t108 p8_0 p8_1 p8_2 p8_3 p8_4 p8_5 p8_6 p8_7 p8_8 p8_9 p8_10 hbk hbk3 hbk5 HIH0 kz kz' kz1 kz1'
 obtain⟨L0,hL0,hLc0,hLm0⟩:=HQ9.out.list
 obtain⟨L1,hL1,hLc1,hLm1⟩:=HQ1.out.list
 have HLc:=hD (And.intro (And.intro hLc0 hLm0) (And.intro hLc1 hLm1))
 clear hLc0 hLm0 hLc1 hLm1
 go_wp2_with fail
 go_loopw [16,17,136] (fun _ _ i wr=>∃j:Nat,j≤n∧i = .int .i64 (j:Int)∧Hid (w9.grownBy wr (some gs))∧Hid (SetSt w wr g gl gh go gs gm gf low n #[.int .i64 9,.int .i64 a,.int .i64 b,.string nm,.slice A ks.length c,.string cal.nm,.int .i64 cal.ep,.int .i64 cal.cy,.slice cal.A1 cal.mo.length cal.c1,.slice cal.A2 cal.lp.length cal.c2,.slice (some ⟨bk,ok,none⟩) ks.length c'] #[.int .i64 9,.int .i64 a,.int .i64 b,.string nm,.slice A ks.length c] (fun d=>MF d∧d<low+(j:Int)))) (fun _ _ i _=>n-(intOf i).toNat)
 case atStart=>exact⟨0,by omega,rfl,jG _ _,HS9.out.same fun d h1 h2=>⟨fun h=>h.elim,fun h=>by omega⟩⟩
 case round =>
  obtain⟨j,hj,rfl,hg,hS⟩:=hrel
  clear HS9
  have hnn:=HN.out
  by_cases hlt:j<n
  case neg =>
   have o0:wr.cell? ⟨go,0,none⟩=some (.slice (some ⟨gs,0,none⟩) n n):=hS.out.s.env.bo.cell 0
   have t1:decide ((j:Int)<(n:Int))=false:=decide_eq_false (by omega)
   go_wp2_with fail
   go_ret
   exact⟨gs,rfl,by rw[←HMF.out];exact hS.out.s.env.bs.same fun d h1 h2=>⟨fun h=>h.1,fun h=>⟨h,by omega⟩⟩,hS.out.s.lo,hS.out.s.bl⟩
  obtain⟨X,hX⟩:∃X,L0[j]?=some X:=⟨_,List.getElem?_eq_getElem (by omega)⟩
  obtain⟨Y,hY⟩:∃Y,L1[j]?=some Y:=⟨_,List.getElem?_eq_getElem (by omega)⟩
  have hbx:wr.cell? ⟨g0,j,none⟩=some (.bool X):=by
   obtain⟨cs,h1,h2,h3⟩:=HQ9.out
   rw[(h1.grown hg.out (fun e=>hqg0 (by simpa using e))).cell j,←h1.cell j]
   exact HLc.out.1.1 j X hX
  have hby:wr.cell? ⟨g1,j,none⟩=some (.bool Y):=by
   obtain⟨cs,h1,h2,h3⟩:=HQ1.out
   rw[(h1.grown hg.out (fun e=>hqg1 (by simpa using e))).cell j,←h1.cell j]
   exact HLc.out.2.1 j Y hY
  have hXm:X=true↔jC F0 (low+(j:Int)):=by
   have:=HLc.out.1.2 j hlt
   rwa[List.getD_eq_getElem?_getD,hX] at this
  have hYm:Y=true↔jC F1 (low+(j:Int)):=by
   have:=HLc.out.2.2 j hlt
   rwa[List.getD_eq_getElem?_getD,hY] at this
  have ew:IntKind.i64.wrap (low+(j:Int))=low+(j:Int):=ji _ (by omega) (by omega)
  obtain⟨z0,z1,z2,z3,z4⟩:=zD hS.out.fe
  have m0:wr.cell? ⟨gm,0,none⟩=some (jD gl gh go):=hS.out.mq.cell 0
  have l0:wr.cell? ⟨gl,0,none⟩=some (.int .i64 low):=hS.out.s.env.bl.cell 0
  unfold jD at m0
  have HBn:Hid ((X||Y)=false→SetSt w wr g gl gh go gs gm gf low n #[.int .i64 9,.int .i64 a,.int .i64 b,.string nm,.slice A ks.length c,.string cal.nm,.int .i64 cal.ep,.int .i64 cal.cy,.slice cal.A1 cal.mo.length cal.c1,.slice cal.A2 cal.lp.length cal.c2,.slice (some ⟨bk,ok,none⟩) ks.length c'] #[.int .i64 9,.int .i64 a,.int .i64 b,.string nm,.slice A ks.length c] (fun d=>MF d∧d<low+((j+1:Nat):Int))):=fun hv=>hS.out.same fun d h1 h2=>⟨fun h=>⟨h.1,by omega⟩,fun h=>⟨h.1,by
    by_cases e:d=low+(j:Int)
    ·exfalso
     have:=((HMem.out d).1 h.1).2
     rw[e,←hXm,←hYm] at this
     revert this hv
     cases X<;>cases Y<;>simp
    ·omega⟩⟩
  have HMk:=hD (zk gl gh go gs low n _ (low+(j:Int)) wr hS.out.s.env (by omega) (by omega) (by omega) (by omega) (by omega))
  have HBy:Hid ((X||Y)=true→∀w10,SetEnv w10 gl gh go gs low n (fun d=>(MF d∧d<low+(j:Int))∨(d=low+(j:Int)∧js (low+(j:Int))))→wr.grownBy w10 (some gs)→SetSt w w10 g gl gh go gs gm gf low n #[.int .i64 9,.int .i64 a,.int .i64 b,.string nm,.slice A ks.length c,.string cal.nm,.int .i64 cal.ep,.int .i64 cal.cy,.slice cal.A1 cal.mo.length cal.c1,.slice cal.A2 cal.lp.length cal.c2,.slice (some ⟨bk,ok,none⟩) ks.length c'] #[.int .i64 9,.int .i64 a,.int .i64 b,.string nm,.slice A ks.length c] (fun d=>MF d∧d<low+((j+1:Nat):Int))):=fun hv w10 hs9 hg9=>hS.out.grown hg9 (hs9.same fun d h1 h2=>⟨fun h=>by
    rcases h with h|h
    ·exact⟨h.1,by omega⟩
    ·refine⟨(HMem.out d).2 ⟨by rw[h.1];exact h.2,?_⟩,by omega⟩
     rw[h.1,←hXm,←hYm]
     revert hv
     cases X<;>cases Y<;>simp,fun h=>by
    by_cases e:d=low+(j:Int)
    ·exact .inr ⟨e,by rw[←e];exact((HMem.out d).1 h.1).1⟩
    ·exact .inl ⟨h.1,by omega⟩⟩)
  clear hXm hYm hX hY hS
  cases X<;>cases Y
  all_goals
   first
   | (have HS10:=hD (HBn.out rfl)
      clear HBn HBy HMk
      go_wp2_with fail
      go_roundw
      case rel=>exact⟨j+1,by omega,by go_num,hg,HS10⟩
      case measure=>simp[intOf];omega)
   | (have HBy1:=hD (HBy.out rfl)
      clear HBn HBy
      go_wp2_with fail
      refine HMk.out.mono ?_
      rintro e w10 ⟨rfl,hs10,hg10⟩
      have HS10:=hD (HBy1.out w10 hs10 hg10)
      have HG10:=hD (World.grownBy.trans hg.out hg10)
      clear hs10 hg10 HMk HBy1 hbx hby z0 z1 z2 z3 z4 m0 l0 hg
      go_wp2_with fail
      go_roundw
      case rel=>exact⟨j+1,by omega,by go_num,HG10,HS10⟩
      case measure=>simp[intOf];omega)
end
section
open Go Go.RowKit
attribute [local go_sem] Oper.semAt_some
theorem jex (a b:Int) (nm:ByteArray) (A:Option Addr) (c:Nat) (cal:Cal) (A':Option Addr) (c':Nat) (ks:List ST) (A0:Option Addr) (c0:Nat) (fs:List FE) (low high:Int) (n:Nat) (w:World) (hhigh:high=low+n-1) (hlo : -90000000≤low) (hhi:high≤90000000) (hn:1≤n) (hn2:n≤1000000) {p:Nat→Prop} (hrow:RowAt w p A' (ks.flatMap stF)) (hkl:ks.length=2) (hfl:fs.length=2)
  (IH0:∀W,Below w.heap.size w W→Calls Tryz.prog 24 #[.agg (stF (ks.getD 0 st0)).toArray,.int .i64 low,.int .i64 high] W (xj (fs.getD 0 fe0) low n W))
  (IH1:∀W,Below w.heap.size w W→Calls Tryz.prog 24 #[.agg (stF (ks.getD 1 st0)).toArray,.int .i64 low,.int .i64 high] W (xj (fs.getD 1 fe0) low n W)) :
  Calls Tryz.prog 24 #[.agg #[.int .i64 10,.int .i64 a,.int .i64 b,.string nm,.slice A ks.length c,.string cal.nm,.int .i64 cal.ep,.int .i64 cal.cy,.slice cal.A1 cal.mo.length cal.c1,.slice cal.A2 cal.lp.length cal.c2,.slice A' ks.length c'],.int .i64 low,.int .i64 high] w (xj (.node 10 a b nm A0 c0 fs) low n w):=by
 have HMem:Hid (∀d,jC (.node 10 a b nm A0 c0 fs) d↔js d∧(jC (fs.getD 0 fe0) d∧jC (fs.getD 1 fe0) d)):=fun d=>by
  rw[jC]
  show(js d∧(yr fs 0 d∧yr fs 1 d))↔_
  rw[qY fs 0 d (by omega),qY fs 1 d (by omega)]
 have HIH0:=hD IH0
 have HIH1:=hD IH1
 have HN:=hD (show -90000000≤low∧high≤90000000∧high≤low+n-1∧low+n-1≤high∧n≤1000000∧1≤n from⟨hlo,hhi,by omega,by omega,hn2,hn⟩)
 have ne:ks.flatMap stF≠[]:=qg xD (by omega) ks (by omega)
 obtain⟨bk,ok,rfl,_,hbk,hkc⟩:=hrow.resolve_left ne
 have kz:(0:Int)<(ks.length:Int):=by omega
 have kz':0<ks.length:=by omega
 have kz1:(1:Int)<(ks.length:Int):=by omega
 have kz1':1<ks.length:=by omega
 obtain⟨MF,hMF⟩:∃MF,MF=jC (.node 10 a b nm A0 c0 fs):=⟨_,rfl⟩
 rw[←hMF] at HMem
 have HMF:=hD hMF
 have HKl:=hD hkl
 clear hMF hkl hfl hrow ne IH0 IH1
 generalize fs.getD 0 fe0=F0 at *
 generalize fs.getD 1 fe0=F1 at *
 generalize hk0_3:ks.getD 0 st0=K0 at *
 obtain⟨k3,a3,b3,nm3,A3,c3,cal3,B3,d3,ks3⟩:=K0
 generalize hk0_5:ks.getD 1 st0=K1 at *
 obtain⟨k5,a5,b5,nm5,A5,c5,cal5,B5,d5,ks5⟩:=K1
 obtain⟨W3,g,gl,gh,hW3,HB3,HGs,HT3,HL3,HH3⟩:=zX w #[.int .i64 10,.int .i64 a,.int .i64 b,.string nm,.slice A ks.length c,.string cal.nm,.int .i64 cal.ep,.int .i64 cal.cy,.slice cal.A1 cal.mo.length cal.c1,.slice cal.A2 cal.lp.length cal.c2,.slice (some ⟨bk,ok,none⟩) ks.length c'] low high
 have hmk:=fun W=>run_make_row' (P:=Tryz.prog) 67 4 (.bool false) 1 Tryz.underlying67 qi rfl .i64 .i64 n (by omega) (by omega) W
 have ew1:IntKind.i64.wrap (high-low)=(n:Int)-1:=by rw[ji _ (by omega) (by omega)];omega
 have ew2:IntKind.i64.wrap ((n:Int)-1+1)=(n:Int):=by rw[ji _ (by omega) (by omega)];omega
 have HHigh:=hD hhigh
 clear hhigh
 go_enter Tryz.func24,Tryz.ntmps24
 go_upto_region 1 with fail
 rw[hW3.out,←HGs.out.1,←HGs.out.2.1,←HGs.out.2.2.1]
 have l0:W3.cell? ⟨gl,0,none⟩=some (.int .i64 low):=HL3.out.cell 0
 have h0:W3.cell? ⟨gh,0,none⟩=some (.int .i64 high):=HH3.out.cell 0
 clear hW3
 go_upto_region 2 with fail
 have hst:=qQ W3 w g gl gh low high n HT3.out HL3.out HH3.out HGs.out.1 HGs.out.2.1 HGs.out.2.2.1 HGs.out.2.2.2 HHigh.out HB3.out
 generalize (W3.alloc (Obj.cells (madeCells #[.bool false] n) 4)).alloc (Obj.cells #[.slice (some ⟨W3.heap.size,0,none⟩) n n] 67)=W5 at *
 obtain⟨gs,hgs⟩:∃gs,gs=W3.heap.size:=⟨_,rfl⟩
 rw[←hgs] at hst ⊢
 obtain⟨go,hgo⟩:∃go,go=gs+1:=⟨_,rfl⟩
 rw[←hgo] at hst ⊢
 have HSt:=hD hst
 have HGo:=hD (And.intro hgs hgo)
 clear l0 h0 hst hgs hgo hmk ew1 ew2 HB3 HT3 HL3 HH3 HGs
 go_upto_region 3 with fail
 have HM6:=hD (Box.new W5 97 #[jD gl gh go])
 have hb6:=ja W5 (Obj.cells #[jD gl gh go] 97)
 unfold jD at HM6 hb6
 have hst6:=HSt.out.next hb6
 have nm6:W5.heap.size≠gs:=by have:=HSt.out.env.bs;obtain⟨_,q,_⟩:=this;have:=q.lt;omega
 generalize W5.alloc (Obj.cells #[.func (.func 41) #[] #[.pointer (some ⟨gl,0,none⟩),.pointer (some ⟨gh,0,none⟩),.pointer (some ⟨go,0,none⟩)]] 97)=W6 at *
 generalize W5.heap.size=gm at *
 have HSt6:=hD hst6
 clear hst6 hb6 HSt
 obtain⟨z0,z1,z2,z3,z4⟩:=q8 HSt6.out.tr
 go_upto_region 4 with fail
 have hb7:=ja W6 (Obj.cells #[.int .i64 10,.int .i64 a,.int .i64 b,.string nm,.slice A ks.length c] 24)
 have hf7:=Box.new W6 24 #[.int .i64 10,.int .i64 a,.int .i64 b,.string nm,.slice A ks.length c]
 have nf7:W6.heap.size≠gs:=by have:=HSt6.out.env.bs;obtain⟨_,q,_⟩:=this;have:=q.lt;omega
 have HK:Hid (SetSt w (W6.alloc (Obj.cells #[.int .i64 10,.int .i64 a,.int .i64 b,.string nm,.slice A ks.length c] 24)) g gl gh go gs gm W6.heap.size low n #[.int .i64 10,.int .i64 a,.int .i64 b,.string nm,.slice A ks.length c,.string cal.nm,.int .i64 cal.ep,.int .i64 cal.cy,.slice cal.A1 cal.mo.length cal.c1,.slice cal.A2 cal.lp.length cal.c2,.slice (some ⟨bk,ok,none⟩) ks.length c'] #[.int .i64 10,.int .i64 a,.int .i64 b,.string nm,.slice A ks.length c] (fun _=>False)):=⟨HSt6.out.next hb7,HM6.out.below hb7,hf7,nm6,nf7⟩
 clear z0 z1 z2 z3 z4 hb7 hf7 nm6 nf7 HM6 HSt6
 generalize W6.alloc (Obj.cells #[.int .i64 10,.int .i64 a,.int .i64 b,.string nm,.slice A ks.length c] 24)=w7 at *
 generalize W6.heap.size=gf at *
 have y0:w7.cell? ⟨gf,0,none⟩=some (.int .i64 10):=HK.out.fe.cell 0
 go_upto_region 32 with fail
 clear y0
 have dl:∀W,Below w7.heap.size w7 W→W.cell? ⟨gl,0,none⟩=some (.int .i64 low):=fun W hW=>(HK.out.s.env.bl.below hW).cell 0
 have dh:∀W,Below w7.heap.size w7 W→W.cell? ⟨gh,0,none⟩=some (.int .i64 high):=fun W hW=>by have:=(HK.out.s.env.bh.below hW).cell 0;rw[HHigh.out];exact this
 have f1:∀W,Below w7.heap.size w7 W→W.cell? ⟨gf,1,none⟩=some (.int .i64 a):=fun W hW=>(HK.out.fe.below hW).cell 1
 have t10:∀W,Below w7.heap.size w7 W→W.cell? ⟨g,10,none⟩=some (.slice (some ⟨bk,ok,none⟩) ks.length c'):=fun W hW=>(HK.out.s.tr.below hW).cell 10
 have hbk3:bk<w7.heap.size:=Nat.lt_of_lt_of_le hbk HK.out.s.bl.size
 have HKd3:=hD (jaO (W:=w7) hbk3 (fun j v hv=>(HK.out.s.bl.cell (p:=⟨bk,ok+j,none⟩) hbk).trans (hkc j v hv)) (by have:=HKl.out;omega) hk0_3)
 obtain⟨p3_0,p3_1,p3_2,p3_3,p3_4,p3_5,p3_6,p3_7,p3_8,p3_9,p3_10⟩:=HKd3.out
 have hbk5:bk<w7.heap.size:=Nat.lt_of_lt_of_le hbk HK.out.s.bl.size
 have HKd5:=hD (jfP (W:=w7) hbk5 (fun j v hv=>(HK.out.s.bl.cell (p:=⟨bk,ok+j,none⟩) hbk).trans (hkc j v hv)) (by have:=HKl.out;omega) hk0_5)
 obtain⟨p5_0,p5_1,p5_2,p5_3,p5_4,p5_5,p5_6,p5_7,p5_8,p5_9,p5_10⟩:=HKd5.out
 clear hkc hk0_3 hk0_5
 refine ju (jy [(6,qR F1 (low) n w7.heap.size)]) (by kernel_rfl) (by kernel_rfl) ?_
 repeat (first|(refine jf (v:=?_) (by rfl) (by rfl) (fun w hb=>?_) ?_;rotate_left;(· go_simp<;>(repeat' apply And.intro)<;>with_reducible rfl);try simp only[pZ,Nat.reduceAdd])|(refine je (by rfl) (by rfl) ?_;try simp only[pZ,Nat.reduceAdd]))
 refine jl (f:=?_) (args:=?_) (t:=qR F1 (low) n w7.heap.size) [] (by kernel_rfl) (by rfl) (by rfl) ⟨_,0,rfl⟩ (qx _ _ _ _) (fun w hb=>?_) (fun w hb hu=>?_) ?_;rotate_left 2;(· go_simp<;>(repeat' apply And.intro)<;>with_reducible rfl)
 ·exact(HIH1.out _ (HK.out.s.bl.trans (hb.mono HK.out.s.bl.size))).mono fun e w' h=>zj hb.size h
 rintro v ⟨g1,rfl⟩
 try simp only[pZ,Nat.reduceAdd]
 repeat (first|(refine jf (v:=?_) (by rfl) (by rfl) (fun w hb=>?_) ?_;rotate_left;(· go_simp<;>(repeat' apply And.intro)<;>with_reducible rfl);try simp only[pZ,Nat.reduceAdd])|(refine je (by rfl) (by rfl) ?_;try simp only[pZ,Nat.reduceAdd]))
 refine jo fun w8 hb8 hf=>?_
 have hq8:=hf.1 g1 rfl
 have HQ8:=hD hq8.2
 have hqg1:g1≠gs:=by obtain⟨_,q,_⟩:=HK.out.s.env.bs;have:=q.lt;have:=hq8.1;omega
 have HS8:=hD (HK.out.next hb8)
 have HB8:=hD hb8
 clear hq8 hf HIH1 p5_0 p5_1 p5_2 p5_3 p5_4 p5_5 p5_6 p5_7 p5_8 p5_9 p5_10
 go_upto_region 33 with fail
 have dl8:∀W,Below w8.heap.size w8 W→W.cell? ⟨gl,0,none⟩=some (.int .i64 low):=fun W hW=>dl W (jb HB8.out hW)
 have dh8:∀W,Below w8.heap.size w8 W→W.cell? ⟨gh,0,none⟩=some (.int .i64 high):=fun W hW=>dh W (jb HB8.out hW)
 have t108:∀W,Below w8.heap.size w8 W→W.cell? ⟨g,10,none⟩=some (.slice (some ⟨bk,ok,none⟩) ks.length c'):=fun W hW=>t10 W (jb HB8.out hW)
 obtain⟨p8_0,p8_1,p8_2,p8_3,p8_4,p8_5,p8_6,p8_7,p8_8,p8_9,p8_10⟩:=Qm HB8.out HKd3.out
 clear p3_0 p3_1 p3_2 p3_3 p3_4 p3_5 p3_6 p3_7 p3_8 p3_9 p3_10 dl dh t10 f1 HK hb8
 refine ju (jy [(6,qR F0 low n w8.heap.size)]) (by kernel_rfl) (by kernel_rfl) ?_
 repeat (first|(refine jf (v:=?_) (by rfl) (by rfl) (fun w hb=>?_) ?_;rotate_left;(· go_simp<;>(repeat' apply And.intro)<;>with_reducible rfl);try simp only[pZ,Nat.reduceAdd])|(refine je (by rfl) (by rfl) ?_;try simp only[pZ,Nat.reduceAdd]))
 refine jl (f:=?_) (args:=?_) (t:=qR F0 low n w8.heap.size) [] (by kernel_rfl) (by rfl) (by rfl) ⟨_,0,rfl⟩ (qx _ _ _ _) (fun w hb=>?_) (fun w hb hu=>?_) ?_;rotate_left 2;(· go_simp<;>(repeat' apply And.intro)<;>with_reducible rfl)
 ·exact(HIH0.out _ (HS8.out.s.bl.trans (hb.mono HS8.out.s.bl.size))).mono fun e w' h=>zj hb.size h
 rintro v ⟨g0,rfl⟩
 try simp only[pZ,Nat.reduceAdd]
 repeat (first|(refine jf (v:=?_) (by rfl) (by rfl) (fun w hb=>?_) ?_;rotate_left;(· go_simp<;>(repeat' apply And.intro)<;>with_reducible rfl);try simp only[pZ,Nat.reduceAdd])|(refine je (by rfl) (by rfl) ?_;try simp only[pZ,Nat.reduceAdd]))
 refine jo fun w9 hb9 hf=>?_
 have hq9:=hf.1 g0 rfl
 have HQ9:=hD hq9.2
 have hqg0:g0≠gs:=by obtain⟨_,q,_⟩:=HS8.out.s.env.bs;have:=q.lt;have:=hq9.1;omega
 have HS9:=hD (HS8.out.next hb9)
 have HQ1:=hD (HQ8.out.next hb9)
 clear hq9 hf hb9 HQ8 HS8 HB8 dl8 dh8 t108 p8_0 p8_1 p8_2 p8_3 p8_4 p8_5 p8_6 p8_7 p8_8 p8_9 p8_10 hbk hbk3 hbk5 HIH0 kz kz' kz1 kz1'
 obtain⟨L0,hL0,hLc0,hLm0⟩:=HQ9.out.list
 obtain⟨L1,hL1,hLc1,hLm1⟩:=HQ1.out.list
 have HLc:=hD (And.intro (And.intro hLc0 hLm0) (And.intro hLc1 hLm1))
 clear hLc0 hLm0 hLc1 hLm1
 go_wp2_with fail
 go_loopw [16,17,136] (fun _ _ i wr=>∃j:Nat,j≤n∧i = .int .i64 (j:Int)∧Hid (w9.grownBy wr (some gs))∧Hid (SetSt w wr g gl gh go gs gm gf low n #[.int .i64 10,.int .i64 a,.int .i64 b,.string nm,.slice A ks.length c,.string cal.nm,.int .i64 cal.ep,.int .i64 cal.cy,.slice cal.A1 cal.mo.length cal.c1,.slice cal.A2 cal.lp.length cal.c2,.slice (some ⟨bk,ok,none⟩) ks.length c'] #[.int .i64 10,.int .i64 a,.int .i64 b,.string nm,.slice A ks.length c] (fun d=>MF d∧d<low+(j:Int)))) (fun _ _ i _=>n-(intOf i).toNat)
 case atStart=>exact⟨0,by omega,rfl,jG _ _,HS9.out.same fun d h1 h2=>⟨fun h=>h.elim,fun h=>by omega⟩⟩
 case round =>
  obtain⟨j,hj,rfl,hg,hS⟩:=hrel
  clear HS9
  have hnn:=HN.out
  by_cases hlt:j<n
  case neg =>
   have o0:wr.cell? ⟨go,0,none⟩=some (.slice (some ⟨gs,0,none⟩) n n):=hS.out.s.env.bo.cell 0
   have t1:decide ((j:Int)<(n:Int))=false:=decide_eq_false (by omega)
   go_wp2_with fail
   go_ret
   exact⟨gs,rfl,by rw[←HMF.out];exact hS.out.s.env.bs.same fun d h1 h2=>⟨fun h=>h.1,fun h=>⟨h,by omega⟩⟩,hS.out.s.lo,hS.out.s.bl⟩
  obtain⟨X,hX⟩:∃X,L0[j]?=some X:=⟨_,List.getElem?_eq_getElem (by omega)⟩
  obtain⟨Y,hY⟩:∃Y,L1[j]?=some Y:=⟨_,List.getElem?_eq_getElem (by omega)⟩
  have hbx:wr.cell? ⟨g0,j,none⟩=some (.bool X):=by
   obtain⟨cs,h1,h2,h3⟩:=HQ9.out
   rw[(h1.grown hg.out (fun e=>hqg0 (by simpa using e))).cell j,←h1.cell j]
   exact HLc.out.1.1 j X hX
  have hby:wr.cell? ⟨g1,j,none⟩=some (.bool Y):=by
   obtain⟨cs,h1,h2,h3⟩:=HQ1.out
   rw[(h1.grown hg.out (fun e=>hqg1 (by simpa using e))).cell j,←h1.cell j]
   exact HLc.out.2.1 j Y hY
  have hXm:X=true↔jC F0 (low+(j:Int)):=by
   have:=HLc.out.1.2 j hlt
   rwa[List.getD_eq_getElem?_getD,hX] at this
  have hYm:Y=true↔jC F1 (low+(j:Int)):=by
   have:=HLc.out.2.2 j hlt
   rwa[List.getD_eq_getElem?_getD,hY] at this
  have ew:IntKind.i64.wrap (low+(j:Int))=low+(j:Int):=ji _ (by omega) (by omega)
  obtain⟨z0,z1,z2,z3,z4⟩:=zD hS.out.fe
  have m0:wr.cell? ⟨gm,0,none⟩=some (jD gl gh go):=hS.out.mq.cell 0
  have l0:wr.cell? ⟨gl,0,none⟩=some (.int .i64 low):=hS.out.s.env.bl.cell 0
  unfold jD at m0
  have HBn:Hid ((X&&Y)=false→SetSt w wr g gl gh go gs gm gf low n #[.int .i64 10,.int .i64 a,.int .i64 b,.string nm,.slice A ks.length c,.string cal.nm,.int .i64 cal.ep,.int .i64 cal.cy,.slice cal.A1 cal.mo.length cal.c1,.slice cal.A2 cal.lp.length cal.c2,.slice (some ⟨bk,ok,none⟩) ks.length c'] #[.int .i64 10,.int .i64 a,.int .i64 b,.string nm,.slice A ks.length c] (fun d=>MF d∧d<low+((j+1:Nat):Int))):=fun hv=>hS.out.same fun d h1 h2=>⟨fun h=>⟨h.1,by omega⟩,fun h=>⟨h.1,by
    by_cases e:d=low+(j:Int)
    ·exfalso
     have:=((HMem.out d).1 h.1).2
     rw[e,←hXm,←hYm] at this
     revert this hv
     cases X<;>cases Y<;>simp
    ·omega⟩⟩
  have HMk:=hD (zk gl gh go gs low n _ (low+(j:Int)) wr hS.out.s.env (by omega) (by omega) (by omega) (by omega) (by omega))
  have HBy:Hid ((X&&Y)=true→∀w10,SetEnv w10 gl gh go gs low n (fun d=>(MF d∧d<low+(j:Int))∨(d=low+(j:Int)∧js (low+(j:Int))))→wr.grownBy w10 (some gs)→SetSt w w10 g gl gh go gs gm gf low n #[.int .i64 10,.int .i64 a,.int .i64 b,.string nm,.slice A ks.length c,.string cal.nm,.int .i64 cal.ep,.int .i64 cal.cy,.slice cal.A1 cal.mo.length cal.c1,.slice cal.A2 cal.lp.length cal.c2,.slice (some ⟨bk,ok,none⟩) ks.length c'] #[.int .i64 10,.int .i64 a,.int .i64 b,.string nm,.slice A ks.length c] (fun d=>MF d∧d<low+((j+1:Nat):Int))):=fun hv w10 hs9 hg9=>hS.out.grown hg9 (hs9.same fun d h1 h2=>⟨fun h=>by
    rcases h with h|h
    ·exact⟨h.1,by omega⟩
    ·refine⟨(HMem.out d).2 ⟨by rw[h.1];exact h.2,?_⟩,by omega⟩
     rw[h.1,←hXm,←hYm]
     revert hv
     cases X<;>cases Y<;>simp,fun h=>by
    by_cases e:d=low+(j:Int)
    ·exact .inr ⟨e,by rw[←e];exact((HMem.out d).1 h.1).1⟩
    ·exact .inl ⟨h.1,by omega⟩⟩)
  clear hXm hYm hX hY hS
  cases X<;>cases Y
  all_goals
   first
   | (have HS10:=hD (HBn.out rfl)
      clear HBn HBy HMk
      go_wp2_with fail
      go_roundw
      case rel=>exact⟨j+1,by omega,by go_num,hg,HS10⟩
      case measure=>simp[intOf];omega)
   | (have HBy1:=hD (HBy.out rfl)
      clear HBn HBy
      go_wp2_with fail
      refine HMk.out.mono ?_
      rintro e w10 ⟨rfl,hs10,hg10⟩
      have HS10:=hD (HBy1.out w10 hs10 hg10)
      have HG10:=hD (World.grownBy.trans hg.out hg10)
      clear hs10 hg10 HMk HBy1 hbx hby z0 z1 z2 z3 z4 m0 l0 hg
      go_wp2_with fail
      go_roundw
      case rel=>exact⟨j+1,by omega,by go_num,HG10,HS10⟩
      case measure=>simp[intOf];omega)
end
section
open Go Go.RowKit
attribute [local go_sem] Oper.semAt_some
theorem jdG (a b:Int) (nm:ByteArray) (A:Option Addr) (c:Nat) (cal:Cal) (A':Option Addr) (c':Nat) (ks:List ST) (A0:Option Addr) (c0:Nat) (fs:List FE) (low high:Int) (n:Nat) (w:World) (hhigh:high=low+n-1) (hlo : -90000000≤low) (hhi:high≤90000000) (hn:1≤n) (hn2:n≤1000000) {p:Nat→Prop} (hrow:RowAt w p A' (ks.flatMap stF)) (hkl:ks.length=2) (hfl:fs.length=2)
  (IH0:∀W,Below w.heap.size w W→Calls Tryz.prog 24 #[.agg (stF (ks.getD 0 st0)).toArray,.int .i64 low,.int .i64 high] W (xj (fs.getD 0 fe0) low n W))
  (IH1:∀W,Below w.heap.size w W→Calls Tryz.prog 24 #[.agg (stF (ks.getD 1 st0)).toArray,.int .i64 low,.int .i64 high] W (xj (fs.getD 1 fe0) low n W)) :
  Calls Tryz.prog 24 #[.agg #[.int .i64 11,.int .i64 a,.int .i64 b,.string nm,.slice A ks.length c,.string cal.nm,.int .i64 cal.ep,.int .i64 cal.cy,.slice cal.A1 cal.mo.length cal.c1,.slice cal.A2 cal.lp.length cal.c2,.slice A' ks.length c'],.int .i64 low,.int .i64 high] w (xj (.node 11 a b nm A0 c0 fs) low n w):=by
 have HMem:Hid (∀d,jC (.node 11 a b nm A0 c0 fs) d↔js d∧(jC (fs.getD 0 fe0) d∧¬jC (fs.getD 1 fe0) d)):=fun d=>by
  rw[jC]
  show(js d∧(yr fs 0 d∧¬yr fs 1 d))↔_
  rw[qY fs 0 d (by omega),qY fs 1 d (by omega)]
 have HIH0:=hD IH0
 have HIH1:=hD IH1
 have HN:=hD (show -90000000≤low∧high≤90000000∧high≤low+n-1∧low+n-1≤high∧n≤1000000∧1≤n from⟨hlo,hhi,by omega,by omega,hn2,hn⟩)
 have ne:ks.flatMap stF≠[]:=qg xD (by omega) ks (by omega)
 obtain⟨bk,ok,rfl,_,hbk,hkc⟩:=hrow.resolve_left ne
 have kz:(0:Int)<(ks.length:Int):=by omega
 have kz':0<ks.length:=by omega
 have kz1:(1:Int)<(ks.length:Int):=by omega
 have kz1':1<ks.length:=by omega
 obtain⟨MF,hMF⟩:∃MF,MF=jC (.node 11 a b nm A0 c0 fs):=⟨_,rfl⟩
 rw[←hMF] at HMem
 have HMF:=hD hMF
 have HKl:=hD hkl
 clear hMF hkl hfl hrow ne IH0 IH1
 generalize fs.getD 0 fe0=F0 at *
 generalize fs.getD 1 fe0=F1 at *
 generalize hk0_3:ks.getD 0 st0=K0 at *
 obtain⟨k3,a3,b3,nm3,A3,c3,cal3,B3,d3,ks3⟩:=K0
 generalize hk0_5:ks.getD 1 st0=K1 at *
 obtain⟨k5,a5,b5,nm5,A5,c5,cal5,B5,d5,ks5⟩:=K1
 obtain⟨W3,g,gl,gh,hW3,HB3,HGs,HT3,HL3,HH3⟩:=zX w #[.int .i64 11,.int .i64 a,.int .i64 b,.string nm,.slice A ks.length c,.string cal.nm,.int .i64 cal.ep,.int .i64 cal.cy,.slice cal.A1 cal.mo.length cal.c1,.slice cal.A2 cal.lp.length cal.c2,.slice (some ⟨bk,ok,none⟩) ks.length c'] low high
 have hmk:=fun W=>run_make_row' (P:=Tryz.prog) 67 4 (.bool false) 1 Tryz.underlying67 qi rfl .i64 .i64 n (by omega) (by omega) W
 have ew1:IntKind.i64.wrap (high-low)=(n:Int)-1:=by rw[ji _ (by omega) (by omega)];omega
 have ew2:IntKind.i64.wrap ((n:Int)-1+1)=(n:Int):=by rw[ji _ (by omega) (by omega)];omega
 have HHigh:=hD hhigh
 clear hhigh
 go_enter Tryz.func24,Tryz.ntmps24
 go_upto_region 1 with fail
 rw[hW3.out,←HGs.out.1,←HGs.out.2.1,←HGs.out.2.2.1]
 have l0:W3.cell? ⟨gl,0,none⟩=some (.int .i64 low):=HL3.out.cell 0
 have h0:W3.cell? ⟨gh,0,none⟩=some (.int .i64 high):=HH3.out.cell 0
 clear hW3
 go_upto_region 2 with fail
 have hst:=qQ W3 w g gl gh low high n HT3.out HL3.out HH3.out HGs.out.1 HGs.out.2.1 HGs.out.2.2.1 HGs.out.2.2.2 HHigh.out HB3.out
 generalize (W3.alloc (Obj.cells (madeCells #[.bool false] n) 4)).alloc (Obj.cells #[.slice (some ⟨W3.heap.size,0,none⟩) n n] 67)=W5 at *
 obtain⟨gs,hgs⟩:∃gs,gs=W3.heap.size:=⟨_,rfl⟩
 rw[←hgs] at hst ⊢
 obtain⟨go,hgo⟩:∃go,go=gs+1:=⟨_,rfl⟩
 rw[←hgo] at hst ⊢
 have HSt:=hD hst
 have HGo:=hD (And.intro hgs hgo)
 clear l0 h0 hst hgs hgo hmk ew1 ew2 HB3 HT3 HL3 HH3 HGs
 go_upto_region 3 with fail
 have HM6:=hD (Box.new W5 97 #[jD gl gh go])
 have hb6:=ja W5 (Obj.cells #[jD gl gh go] 97)
 unfold jD at HM6 hb6
 have hst6:=HSt.out.next hb6
 have nm6:W5.heap.size≠gs:=by have:=HSt.out.env.bs;obtain⟨_,q,_⟩:=this;have:=q.lt;omega
 generalize W5.alloc (Obj.cells #[.func (.func 41) #[] #[.pointer (some ⟨gl,0,none⟩),.pointer (some ⟨gh,0,none⟩),.pointer (some ⟨go,0,none⟩)]] 97)=W6 at *
 generalize W5.heap.size=gm at *
 have HSt6:=hD hst6
 clear hst6 hb6 HSt
 obtain⟨z0,z1,z2,z3,z4⟩:=q8 HSt6.out.tr
 go_upto_region 4 with fail
 have hb7:=ja W6 (Obj.cells #[.int .i64 11,.int .i64 a,.int .i64 b,.string nm,.slice A ks.length c] 24)
 have hf7:=Box.new W6 24 #[.int .i64 11,.int .i64 a,.int .i64 b,.string nm,.slice A ks.length c]
 have nf7:W6.heap.size≠gs:=by have:=HSt6.out.env.bs;obtain⟨_,q,_⟩:=this;have:=q.lt;omega
 have HK:Hid (SetSt w (W6.alloc (Obj.cells #[.int .i64 11,.int .i64 a,.int .i64 b,.string nm,.slice A ks.length c] 24)) g gl gh go gs gm W6.heap.size low n #[.int .i64 11,.int .i64 a,.int .i64 b,.string nm,.slice A ks.length c,.string cal.nm,.int .i64 cal.ep,.int .i64 cal.cy,.slice cal.A1 cal.mo.length cal.c1,.slice cal.A2 cal.lp.length cal.c2,.slice (some ⟨bk,ok,none⟩) ks.length c'] #[.int .i64 11,.int .i64 a,.int .i64 b,.string nm,.slice A ks.length c] (fun _=>False)):=⟨HSt6.out.next hb7,HM6.out.below hb7,hf7,nm6,nf7⟩
 clear z0 z1 z2 z3 z4 hb7 hf7 nm6 nf7 HM6 HSt6
 generalize W6.alloc (Obj.cells #[.int .i64 11,.int .i64 a,.int .i64 b,.string nm,.slice A ks.length c] 24)=w7 at *
 generalize W6.heap.size=gf at *
 have y0:w7.cell? ⟨gf,0,none⟩=some (.int .i64 11):=HK.out.fe.cell 0
 go_upto_region 32 with fail
 clear y0
 have dl:∀W,Below w7.heap.size w7 W→W.cell? ⟨gl,0,none⟩=some (.int .i64 low):=fun W hW=>(HK.out.s.env.bl.below hW).cell 0
 have dh:∀W,Below w7.heap.size w7 W→W.cell? ⟨gh,0,none⟩=some (.int .i64 high):=fun W hW=>by have:=(HK.out.s.env.bh.below hW).cell 0;rw[HHigh.out];exact this
 have f1:∀W,Below w7.heap.size w7 W→W.cell? ⟨gf,1,none⟩=some (.int .i64 a):=fun W hW=>(HK.out.fe.below hW).cell 1
 have t10:∀W,Below w7.heap.size w7 W→W.cell? ⟨g,10,none⟩=some (.slice (some ⟨bk,ok,none⟩) ks.length c'):=fun W hW=>(HK.out.s.tr.below hW).cell 10
 have hbk3:bk<w7.heap.size:=Nat.lt_of_lt_of_le hbk HK.out.s.bl.size
 have HKd3:=hD (jaO (W:=w7) hbk3 (fun j v hv=>(HK.out.s.bl.cell (p:=⟨bk,ok+j,none⟩) hbk).trans (hkc j v hv)) (by have:=HKl.out;omega) hk0_3)
 obtain⟨p3_0,p3_1,p3_2,p3_3,p3_4,p3_5,p3_6,p3_7,p3_8,p3_9,p3_10⟩:=HKd3.out
 have hbk5:bk<w7.heap.size:=Nat.lt_of_lt_of_le hbk HK.out.s.bl.size
 have HKd5:=hD (jfP (W:=w7) hbk5 (fun j v hv=>(HK.out.s.bl.cell (p:=⟨bk,ok+j,none⟩) hbk).trans (hkc j v hv)) (by have:=HKl.out;omega) hk0_5)
 obtain⟨p5_0,p5_1,p5_2,p5_3,p5_4,p5_5,p5_6,p5_7,p5_8,p5_9,p5_10⟩:=HKd5.out
 clear hkc hk0_3 hk0_5
 refine ju (jy [(6,qR F1 (low) n w7.heap.size)]) (by kernel_rfl) (by kernel_rfl) ?_
 repeat (first|(refine jf (v:=?_) (by rfl) (by rfl) (fun w hb=>?_) ?_;rotate_left;(· go_simp<;>(repeat' apply And.intro)<;>with_reducible rfl);try simp only[pZ,Nat.reduceAdd])|(refine je (by rfl) (by rfl) ?_;try simp only[pZ,Nat.reduceAdd]))
 refine jl (f:=?_) (args:=?_) (t:=qR F1 (low) n w7.heap.size) [] (by kernel_rfl) (by rfl) (by rfl) ⟨_,0,rfl⟩ (qx _ _ _ _) (fun w hb=>?_) (fun w hb hu=>?_) ?_;rotate_left 2;(· go_simp<;>(repeat' apply And.intro)<;>with_reducible rfl)
 ·exact(HIH1.out _ (HK.out.s.bl.trans (hb.mono HK.out.s.bl.size))).mono fun e w' h=>zj hb.size h
 rintro v ⟨g1,rfl⟩
 try simp only[pZ,Nat.reduceAdd]
 repeat (first|(refine jf (v:=?_) (by rfl) (by rfl) (fun w hb=>?_) ?_;rotate_left;(· go_simp<;>(repeat' apply And.intro)<;>with_reducible rfl);try simp only[pZ,Nat.reduceAdd])|(refine je (by rfl) (by rfl) ?_;try simp only[pZ,Nat.reduceAdd]))
 refine jo fun w8 hb8 hf=>?_
 have hq8:=hf.1 g1 rfl
 have HQ8:=hD hq8.2
 have hqg1:g1≠gs:=by obtain⟨_,q,_⟩:=HK.out.s.env.bs;have:=q.lt;have:=hq8.1;omega
 have HS8:=hD (HK.out.next hb8)
 have HB8:=hD hb8
 clear hq8 hf HIH1 p5_0 p5_1 p5_2 p5_3 p5_4 p5_5 p5_6 p5_7 p5_8 p5_9 p5_10
 go_upto_region 33 with fail
 have dl8:∀W,Below w8.heap.size w8 W→W.cell? ⟨gl,0,none⟩=some (.int .i64 low):=fun W hW=>dl W (jb HB8.out hW)
 have dh8:∀W,Below w8.heap.size w8 W→W.cell? ⟨gh,0,none⟩=some (.int .i64 high):=fun W hW=>dh W (jb HB8.out hW)
 have t108:∀W,Below w8.heap.size w8 W→W.cell? ⟨g,10,none⟩=some (.slice (some ⟨bk,ok,none⟩) ks.length c'):=fun W hW=>t10 W (jb HB8.out hW)
 obtain⟨p8_0,p8_1,p8_2,p8_3,p8_4,p8_5,p8_6,p8_7,p8_8,p8_9,p8_10⟩:=Qm HB8.out HKd3.out
 clear p3_0 p3_1 p3_2 p3_3 p3_4 p3_5 p3_6 p3_7 p3_8 p3_9 p3_10 dl dh t10 f1 HK hb8
 refine ju (jy [(6,qR F0 low n w8.heap.size)]) (by kernel_rfl) (by kernel_rfl) ?_
 repeat (first|(refine jf (v:=?_) (by rfl) (by rfl) (fun w hb=>?_) ?_;rotate_left;(· go_simp<;>(repeat' apply And.intro)<;>with_reducible rfl);try simp only[pZ,Nat.reduceAdd])|(refine je (by rfl) (by rfl) ?_;try simp only[pZ,Nat.reduceAdd]))
 refine jl (f:=?_) (args:=?_) (t:=qR F0 low n w8.heap.size) [] (by kernel_rfl) (by rfl) (by rfl) ⟨_,0,rfl⟩ (qx _ _ _ _) (fun w hb=>?_) (fun w hb hu=>?_) ?_;rotate_left 2;(· go_simp<;>(repeat' apply And.intro)<;>with_reducible rfl)
 ·exact(HIH0.out _ (HS8.out.s.bl.trans (hb.mono HS8.out.s.bl.size))).mono fun e w' h=>zj hb.size h
 rintro v ⟨g0,rfl⟩
 try simp only[pZ,Nat.reduceAdd]
 repeat (first|(refine jf (v:=?_) (by rfl) (by rfl) (fun w hb=>?_) ?_;rotate_left;(· go_simp<;>(repeat' apply And.intro)<;>with_reducible rfl);try simp only[pZ,Nat.reduceAdd])|(refine je (by rfl) (by rfl) ?_;try simp only[pZ,Nat.reduceAdd]))
 refine jo fun w9 hb9 hf=>?_
 have hq9:=hf.1 g0 rfl
 have HQ9:=hD hq9.2
 have hqg0:g0≠gs:=by obtain⟨_,q,_⟩:=HS8.out.s.env.bs;have:=q.lt;have:=hq9.1;omega
 have HS9:=hD (HS8.out.next hb9)
 have HQ1:=hD (HQ8.out.next hb9)
 clear hq9 hf hb9 HQ8 HS8 HB8 dl8 dh8 t108 p8_0 p8_1 p8_2 p8_3 p8_4 p8_5 p8_6 p8_7 p8_8 p8_9 p8_10 hbk hbk3 hbk5 HIH0 kz kz' kz1 kz1'
 obtain⟨L0,hL0,hLc0,hLm0⟩:=HQ9.out.list
 obtain⟨L1,hL1,hLc1,hLm1⟩:=HQ1.out.list
 have HLc:=hD (And.intro (And.intro hLc0 hLm0) (And.intro hLc1 hLm1))
 clear hLc0 hLm0 hLc1 hLm1
 go_wp2_with fail
 go_loopw [16,17,136] (fun _ _ i wr=>∃j:Nat,j≤n∧i = .int .i64 (j:Int)∧Hid (w9.grownBy wr (some gs))∧Hid (SetSt w wr g gl gh go gs gm gf low n #[.int .i64 11,.int .i64 a,.int .i64 b,.string nm,.slice A ks.length c,.string cal.nm,.int .i64 cal.ep,.int .i64 cal.cy,.slice cal.A1 cal.mo.length cal.c1,.slice cal.A2 cal.lp.length cal.c2,.slice (some ⟨bk,ok,none⟩) ks.length c'] #[.int .i64 11,.int .i64 a,.int .i64 b,.string nm,.slice A ks.length c] (fun d=>MF d∧d<low+(j:Int)))) (fun _ _ i _=>n-(intOf i).toNat)
 case atStart=>exact⟨0,by omega,rfl,jG _ _,HS9.out.same fun d h1 h2=>⟨fun h=>h.elim,fun h=>by omega⟩⟩
 case round =>
  obtain⟨j,hj,rfl,hg,hS⟩:=hrel
  clear HS9
  have hnn:=HN.out
  by_cases hlt:j<n
  case neg =>
   have o0:wr.cell? ⟨go,0,none⟩=some (.slice (some ⟨gs,0,none⟩) n n):=hS.out.s.env.bo.cell 0
   have t1:decide ((j:Int)<(n:Int))=false:=decide_eq_false (by omega)
   go_wp2_with fail
   go_ret
   exact⟨gs,rfl,by rw[←HMF.out];exact hS.out.s.env.bs.same fun d h1 h2=>⟨fun h=>h.1,fun h=>⟨h,by omega⟩⟩,hS.out.s.lo,hS.out.s.bl⟩
  obtain⟨X,hX⟩:∃X,L0[j]?=some X:=⟨_,List.getElem?_eq_getElem (by omega)⟩
  obtain⟨Y,hY⟩:∃Y,L1[j]?=some Y:=⟨_,List.getElem?_eq_getElem (by omega)⟩
  have hbx:wr.cell? ⟨g0,j,none⟩=some (.bool X):=by
   obtain⟨cs,h1,h2,h3⟩:=HQ9.out
   rw[(h1.grown hg.out (fun e=>hqg0 (by simpa using e))).cell j,←h1.cell j]
   exact HLc.out.1.1 j X hX
  have hby:wr.cell? ⟨g1,j,none⟩=some (.bool Y):=by
   obtain⟨cs,h1,h2,h3⟩:=HQ1.out
   rw[(h1.grown hg.out (fun e=>hqg1 (by simpa using e))).cell j,←h1.cell j]
   exact HLc.out.2.1 j Y hY
  have hXm:X=true↔jC F0 (low+(j:Int)):=by
   have:=HLc.out.1.2 j hlt
   rwa[List.getD_eq_getElem?_getD,hX] at this
  have hYm:Y=true↔jC F1 (low+(j:Int)):=by
   have:=HLc.out.2.2 j hlt
   rwa[List.getD_eq_getElem?_getD,hY] at this
  have ew:IntKind.i64.wrap (low+(j:Int))=low+(j:Int):=ji _ (by omega) (by omega)
  obtain⟨z0,z1,z2,z3,z4⟩:=zD hS.out.fe
  have m0:wr.cell? ⟨gm,0,none⟩=some (jD gl gh go):=hS.out.mq.cell 0
  have l0:wr.cell? ⟨gl,0,none⟩=some (.int .i64 low):=hS.out.s.env.bl.cell 0
  unfold jD at m0
  have HBn:Hid ((X&&!Y)=false→SetSt w wr g gl gh go gs gm gf low n #[.int .i64 11,.int .i64 a,.int .i64 b,.string nm,.slice A ks.length c,.string cal.nm,.int .i64 cal.ep,.int .i64 cal.cy,.slice cal.A1 cal.mo.length cal.c1,.slice cal.A2 cal.lp.length cal.c2,.slice (some ⟨bk,ok,none⟩) ks.length c'] #[.int .i64 11,.int .i64 a,.int .i64 b,.string nm,.slice A ks.length c] (fun d=>MF d∧d<low+((j+1:Nat):Int))):=fun hv=>hS.out.same fun d h1 h2=>⟨fun h=>⟨h.1,by omega⟩,fun h=>⟨h.1,by
    by_cases e:d=low+(j:Int)
    ·exfalso
     have:=((HMem.out d).1 h.1).2
     rw[e,←hXm,←hYm] at this
     revert this hv
     cases X<;>cases Y<;>simp
    ·omega⟩⟩
  have HMk:=hD (zk gl gh go gs low n _ (low+(j:Int)) wr hS.out.s.env (by omega) (by omega) (by omega) (by omega) (by omega))
  have HBy:Hid ((X&&!Y)=true→∀w10,SetEnv w10 gl gh go gs low n (fun d=>(MF d∧d<low+(j:Int))∨(d=low+(j:Int)∧js (low+(j:Int))))→wr.grownBy w10 (some gs)→SetSt w w10 g gl gh go gs gm gf low n #[.int .i64 11,.int .i64 a,.int .i64 b,.string nm,.slice A ks.length c,.string cal.nm,.int .i64 cal.ep,.int .i64 cal.cy,.slice cal.A1 cal.mo.length cal.c1,.slice cal.A2 cal.lp.length cal.c2,.slice (some ⟨bk,ok,none⟩) ks.length c'] #[.int .i64 11,.int .i64 a,.int .i64 b,.string nm,.slice A ks.length c] (fun d=>MF d∧d<low+((j+1:Nat):Int))):=fun hv w10 hs9 hg9=>hS.out.grown hg9 (hs9.same fun d h1 h2=>⟨fun h=>by
    rcases h with h|h
    ·exact⟨h.1,by omega⟩
    ·refine⟨(HMem.out d).2 ⟨by rw[h.1];exact h.2,?_⟩,by omega⟩
     rw[h.1,←hXm,←hYm]
     revert hv
     cases X<;>cases Y<;>simp,fun h=>by
    by_cases e:d=low+(j:Int)
    ·exact .inr ⟨e,by rw[←e];exact((HMem.out d).1 h.1).1⟩
    ·exact .inl ⟨h.1,by omega⟩⟩)
  clear hXm hYm hX hY hS
  cases X<;>cases Y
  all_goals
   first
   | (have HS10:=hD (HBn.out rfl)
      clear HBn HBy HMk
      go_wp2_with fail
      go_roundw
      case rel=>exact⟨j+1,by omega,by go_num,hg,HS10⟩
      case measure=>simp[intOf];omega)
   | (have HBy1:=hD (HBy.out rfl)
      clear HBn HBy
      go_wp2_with fail
      refine HMk.out.mono ?_
      rintro e w10 ⟨rfl,hs10,hg10⟩
      have HS10:=hD (HBy1.out w10 hs10 hg10)
      have HG10:=hD (World.grownBy.trans hg.out hg10)
      clear hs10 hg10 HMk HBy1 hbx hby z0 z1 z2 z3 z4 m0 l0 hg
      go_wp2_with fail
      go_roundw
      case rel=>exact⟨j+1,by omega,by go_num,HG10,HS10⟩
      case measure=>simp[intOf];omega)
end
section
open Go Go.RowKit
attribute [local go_sem] Oper.semAt_some
theorem NthP.lt {P:Int→Prop} {f:Int} {n:Nat} {a:Int} {d:Nat} (h:NthP P f n a d):d<n:=by
 obtain⟨l,h1,_,h3⟩:=h
 obtain⟨q,_⟩:=List.getElem?_eq_some_iff.1 h3.1
 omega
theorem jeV (a b:Int) (nm:ByteArray) (A:Option Addr) (c:Nat) (cal:Cal) (A':Option Addr) (c':Nat) (ks:List ST) (A0:Option Addr) (c0:Nat) (fs:List FE) (low high:Int) (n:Nat) (w:World) (hhigh:high=low+n-1) (hlo : -90000000≤low) (hhi:high≤90000000) (hn:1≤n) (hn2:n≤1000000) {p:Nat→Prop} (r:CatRow) (hr:r∈jN) (hnm:str r.nm=nm) (hof:CalOf r cal) (hc:CalAt w p cal) (hrow:RowAt w p A' (ks.flatMap stF)) (hkl:ks.length=1) (hfl:fs.length=1) (ha:(-50≤a∧a≤50)∧a≠0)
  (IH0:∀W,Below w.heap.size w W→Calls Tryz.prog 24 #[.agg (stF (ks.getD 0 st0)).toArray,.int .i64 (low-400),.int .i64 (high+400)] W (xj (fs.getD 0 fe0) (low-400) (n+800) W)) :
  Calls Tryz.prog 24 #[.agg #[.int .i64 12,.int .i64 a,.int .i64 b,.string nm,.slice A ks.length c,.string cal.nm,.int .i64 cal.ep,.int .i64 cal.cy,.slice cal.A1 cal.mo.length cal.c1,.slice cal.A2 cal.lp.length cal.c2,.slice A' ks.length c'],.int .i64 low,.int .i64 high] w (xj (.node 12 a b nm A0 c0 fs) low n w):=by
 have HMem:Hid (∀d,jC (.node 12 a b nm A0 c0 fs) d↔MemR cal (R12 cal (jC (fs.getD 0 fe0)) a b) d):=fun d=>by
  have h:=jeM hr hnm hof a b A0 c0 fs d
  rwa[show yr fs 0=jC (fs.getD 0 fe0) from funext fun x=>propext (qY fs 0 x (by omega))] at h
 have HOk:=hD hc.v.ok
 have HCal:=hD hc
 have HNy:=hD (Cal.ny_in hc.v.ok (-10000) (by omega) (by omega))
 have HA:=hD ha
 have HIH0:=hD IH0
 have HN:=hD (show -90000000≤low∧high≤90000000∧high≤low+n-1∧low+n-1≤high∧n≤1000000∧1≤n from⟨hlo,hhi,by omega,by omega,hn2,hn⟩)
 have ne:ks.flatMap stF≠[]:=qg xD (by omega) ks (by omega)
 obtain⟨bk,ok,rfl,_,hbk,hkc⟩:=hrow.resolve_left ne
 have ew3:IntKind.i64.wrap (low-400)=low-400:=ji _ (by omega) (by omega)
 have ew4:IntKind.i64.wrap (high+400)=high+400:=ji _ (by omega) (by omega)
 have kz:(0:Int)<(ks.length:Int):=by omega
 have kz':0<ks.length:=by omega
 have HKl:=hD hkl
 clear hkl hfl hrow ne IH0 hc hof hnm hr ha
 obtain⟨MF,hMF⟩:∃MF,MF=jC (.node 12 a b nm A0 c0 fs):=⟨_,rfl⟩
 rw[←hMF] at HMem
 have HMF:=hD hMF
 clear hMF
 generalize fs.getD 0 fe0=F0 at *
 generalize hk0_3:ks.getD 0 st0=K0 at *
 obtain⟨k3,a3,b3,nm3,A3,c3,cal3,B3,d3,ks3⟩:=K0
 obtain⟨W3,g,gl,gh,hW3,HB3,HGs,HT3,HL3,HH3⟩:=zX w #[.int .i64 12,.int .i64 a,.int .i64 b,.string nm,.slice A ks.length c,.string cal.nm,.int .i64 cal.ep,.int .i64 cal.cy,.slice cal.A1 cal.mo.length cal.c1,.slice cal.A2 cal.lp.length cal.c2,.slice (some ⟨bk,ok,none⟩) ks.length c'] low high
 have hmk:=fun W=>run_make_row' (P:=Tryz.prog) 67 4 (.bool false) 1 Tryz.underlying67 qi rfl .i64 .i64 n (by omega) (by omega) W
 have ew1:IntKind.i64.wrap (high-low)=(n:Int)-1:=by rw[ji _ (by omega) (by omega)];omega
 have ew2:IntKind.i64.wrap ((n:Int)-1+1)=(n:Int):=by rw[ji _ (by omega) (by omega)];omega
 have HHigh:=hD hhigh
 clear hhigh
 go_enter Tryz.func24,Tryz.ntmps24
 go_upto_region 1 with fail
 rw[hW3.out,←HGs.out.1,←HGs.out.2.1,←HGs.out.2.2.1]
 have l0:W3.cell? ⟨gl,0,none⟩=some (.int .i64 low):=HL3.out.cell 0
 have h0:W3.cell? ⟨gh,0,none⟩=some (.int .i64 high):=HH3.out.cell 0
 clear hW3
 go_upto_region 2 with fail
 have hst:=qQ W3 w g gl gh low high n HT3.out HL3.out HH3.out HGs.out.1 HGs.out.2.1 HGs.out.2.2.1 HGs.out.2.2.2 HHigh.out HB3.out
 generalize (W3.alloc (Obj.cells (madeCells #[.bool false] n) 4)).alloc (Obj.cells #[.slice (some ⟨W3.heap.size,0,none⟩) n n] 67)=W5 at *
 obtain⟨gs,hgs⟩:∃gs,gs=W3.heap.size:=⟨_,rfl⟩
 rw[←hgs] at hst ⊢
 obtain⟨go,hgo⟩:∃go,go=gs+1:=⟨_,rfl⟩
 rw[←hgo] at hst ⊢
 have HSt:=hD hst
 have HGo:=hD (And.intro hgs hgo)
 clear l0 h0 hst hgs hgo hmk ew1 ew2 HB3 HT3 HL3 HH3 HGs
 go_upto_region 3 with fail
 have HM6:=hD (Box.new W5 97 #[jD gl gh go])
 have hb6:=ja W5 (Obj.cells #[jD gl gh go] 97)
 unfold jD at HM6 hb6
 have hst6:=HSt.out.next hb6
 have nm6:W5.heap.size≠gs:=by have:=HSt.out.env.bs;obtain⟨_,q,_⟩:=this;have:=q.lt;omega
 generalize W5.alloc (Obj.cells #[.func (.func 41) #[] #[.pointer (some ⟨gl,0,none⟩),.pointer (some ⟨gh,0,none⟩),.pointer (some ⟨go,0,none⟩)]] 97)=W6 at *
 generalize W5.heap.size=gm at *
 have HSt6:=hD hst6
 clear hst6 hb6 HSt
 obtain⟨z0,z1,z2,z3,z4⟩:=q8 HSt6.out.tr
 go_upto_region 4 with fail
 have hb7:=ja W6 (Obj.cells #[.int .i64 12,.int .i64 a,.int .i64 b,.string nm,.slice A ks.length c] 24)
 have hf7:=Box.new W6 24 #[.int .i64 12,.int .i64 a,.int .i64 b,.string nm,.slice A ks.length c]
 have nf7:W6.heap.size≠gs:=by have:=HSt6.out.env.bs;obtain⟨_,q,_⟩:=this;have:=q.lt;omega
 have HK:Hid (SetSt w (W6.alloc (Obj.cells #[.int .i64 12,.int .i64 a,.int .i64 b,.string nm,.slice A ks.length c] 24)) g gl gh go gs gm W6.heap.size low n #[.int .i64 12,.int .i64 a,.int .i64 b,.string nm,.slice A ks.length c,.string cal.nm,.int .i64 cal.ep,.int .i64 cal.cy,.slice cal.A1 cal.mo.length cal.c1,.slice cal.A2 cal.lp.length cal.c2,.slice (some ⟨bk,ok,none⟩) ks.length c'] #[.int .i64 12,.int .i64 a,.int .i64 b,.string nm,.slice A ks.length c] (fun _=>False)):=⟨HSt6.out.next hb7,HM6.out.below hb7,hf7,nm6,nf7⟩
 clear z0 z1 z2 z3 z4 hb7 hf7 nm6 nf7 HM6 HSt6
 generalize W6.alloc (Obj.cells #[.int .i64 12,.int .i64 a,.int .i64 b,.string nm,.slice A ks.length c] 24)=w7 at *
 generalize W6.heap.size=gf at *
 have y0:w7.cell? ⟨gf,0,none⟩=some (.int .i64 12):=HK.out.fe.cell 0
 have l0:w7.cell? ⟨gl,0,none⟩=some (.int .i64 low):=HK.out.s.env.bl.cell 0
 go_upto_region 41 with fail
 clear y0 l0
 have hb8:=ja w7 (Obj.cells #[.int .i64 (low-400)] 3)
 have HR8:=hD (Box.new w7 3 #[.int .i64 (low-400)])
 have hng:w7.heap.size≠gs:=by obtain⟨_,q,_⟩:=HK.out.s.env.bs;have:=q.lt;omega
 replace HK:=hD (HK.out.next hb8)
 clear hb8
 generalize w7.alloc (Obj.cells #[.int .i64 (low-400)] 3)=w8 at *
 generalize w7.heap.size=g18 at *
 have dh:∀W,Below w8.heap.size w8 W→W.cell? ⟨gh,0,none⟩=some (.int .i64 high):=fun W hW=>by have:=(HK.out.s.env.bh.below hW).cell 0;rw[HHigh.out];exact this
 have d18:∀W,Below w8.heap.size w8 W→W.cell? ⟨g18,0,none⟩=some (.int .i64 (low-400)):=fun W hW=>(HR8.out.below hW).cell 0
 have t10:∀W,Below w8.heap.size w8 W→W.cell? ⟨g,10,none⟩=some (.slice (some ⟨bk,ok,none⟩) ks.length c'):=fun W hW=>(HK.out.s.tr.below hW).cell 10
 have hbk3:bk<w8.heap.size:=Nat.lt_of_lt_of_le hbk HK.out.s.bl.size
 have HKd3:=hD (jaO (W:=w8) hbk3 (fun j v hv=>(HK.out.s.bl.cell (p:=⟨bk,ok+j,none⟩) hbk).trans (hkc j v hv)) (by have:=HKl.out;omega) hk0_3)
 obtain⟨p3_0,p3_1,p3_2,p3_3,p3_4,p3_5,p3_6,p3_7,p3_8,p3_9,p3_10⟩:=HKd3.out
 clear hkc hk0_3
 refine jr 9 (jy [(7,qR F0 (low-400) (n+800) w8.heap.size)]) (by kernel_rfl) (by kernel_rfl) ?_
 simp only[List.take_succ_cons,List.take_zero,List.drop_succ_cons,List.drop_zero]
 repeat (first|(refine jf (v:=?_) (by rfl) (by rfl) (fun w hb=>?_) ?_;rotate_left;(· go_simp<;>(repeat' apply And.intro)<;>with_reducible rfl);try simp only[pZ,Nat.reduceAdd])|(refine je (by rfl) (by rfl) ?_;try simp only[pZ,Nat.reduceAdd]))
 refine jl (f:=?_) (args:=?_) (t:=qR F0 (low-400) (n+800) w8.heap.size) [] (by kernel_rfl) (by rfl) (by rfl) ⟨_,0,rfl⟩ (qx _ _ _ _) (fun w hb=>?_) (fun w hb hu=>?_) ?_;rotate_left 2;(· go_simp<;>(repeat' apply And.intro)<;>with_reducible rfl)
 ·exact(HIH0.out _ (HK.out.s.bl.trans (hb.mono HK.out.s.bl.size))).mono fun e w' h=>zj hb.size h
 rintro v ⟨gq,rfl⟩
 try simp only[pZ,Nat.reduceAdd]
 refine zH (t:=?_) (cs:=?_) (by rfl) (by rfl) (fun w hb=>?_) (fun g19 hg19=>?_);rotate_left 2;(· go_simp<;>(repeat' apply And.intro)<;>with_reducible rfl);try simp only[pZ,Nat.reduceAdd]
 refine jo fun w9 hb9 hf=>?_
 have hbx:Box w9 g19 67 #[.slice none 0 0]:=hf.1
 have hq9:=hf.2.1 gq rfl
 have hqb:=hq9.2
 have hgq19:gq≠g19:=fun e=>by
  obtain⟨cs,q,_⟩:=hqb
  rw[e] at q
  have h:=hbx.symm.trans q
  injection h with h
  injection h with h1 h2
  revert h2
  decide
 have hqg:gq≠gs:=by obtain⟨_,q,_⟩:=HK.out.s.env.bs;have:=q.lt;have:=hq9.1;omega
 have h19g:g19≠gs:=by obtain⟨_,q,_⟩:=HK.out.s.env.bs;have:=q.lt;omega
 have s0:w9.cell? ⟨g19,0,none⟩=some (.slice none 0 0):=hbx.cell 0
 have sf:w9.frozen? ⟨g19,0,none⟩=false:=hbx.free 0
 have sl:g19<w9.heap.size:=hbx.lt
 have HB10:Hid (Below w8.heap.size w8 (w9.setCell ⟨g19,0,none⟩ (.slice (some ⟨gq,0,none⟩) (n+800) (n+800)))):=hb9.setCell (p:=⟨g19,0,none⟩) (by show w8.heap.size≤g19;omega) _
 have HX10:Hid (Box (w9.setCell ⟨g19,0,none⟩ (.slice (some ⟨gq,0,none⟩) (n+800) (n+800))) g19 67 #[.slice (some ⟨gq,0,none⟩) (n+800) (n+800)]):=hbx.set_ 0 _
 have HQ10:Hid (BoolsAt (w9.setCell ⟨g19,0,none⟩ (.slice (some ⟨gq,0,none⟩) (n+800) (n+800))) gq (low-400) (n+800) (jC F0)):=by
  obtain⟨cs,q1,q2,q3⟩:=hqb
  exact⟨cs,q1.far (p:=⟨g19,0,none⟩) hgq19 _,q2,q3⟩
 clear hq9 hqb hf hbx hb9 hgq19 dh d18 t10 p3_0 p3_1 p3_2 p3_3 p3_4 p3_5 p3_6 p3_7 p3_8 p3_9 p3_10 hbk hbk3 HIH0 kz kz'
 refine wpList_step fun K hK=>?_
 rw[if_pos (by rfl)]
 go_simp
 refine hK _ _ (wpList_nil ?_)
 clear hK K s0 sf sl
 generalize w9.setCell ⟨g19,0,none⟩ (.slice (some ⟨gq,0,none⟩) (n+800) (n+800))=w10 at *
 have HS:=hD (HK.out.next HB10.out)
 have HR:=hD (HR8.out.below HB10.out)
 clear HK HR8 HB10
 obtain⟨z0,z1,z2,z3,z4⟩:=q8 HS.out.s.tr
 obtain⟨z5,z6,z7,z8,z9,z10⟩:=ZX HS.out.s.tr
 have l0:w10.cell? ⟨gl,0,none⟩=some (.int .i64 low):=HS.out.s.env.bl.cell 0
 have h0:w10.cell? ⟨gh,0,none⟩=some (.int .i64 high):=by have:=HS.out.s.env.bh.cell 0;rw[HHigh.out];exact this
 have hgsl:gs<w10.heap.size:=by obtain⟨_,q,_⟩:=HS.out.s.env.bs;exact q.lt
 have hnn0:=HN.out
 have HMo:=hD (vu 12 a b nm A ks.length c cal (some ⟨bk,ok,none⟩) ks.length c' low high 46 #[.pointer (some ⟨gf,0,none⟩),.pointer (some ⟨g19,0,none⟩),.pointer (some ⟨g18,0,none⟩),.pointer (some ⟨gm,0,none⟩)] gs
  (fun x W=>(SetSt w W g gl gh go gs gm gf low n #[.int .i64 12,.int .i64 a,.int .i64 b,.string nm,.slice A ks.length c,.string cal.nm,.int .i64 cal.ep,.int .i64 cal.cy,.slice cal.A1 cal.mo.length cal.c1,.slice cal.A2 cal.lp.length cal.c2,.slice (some ⟨bk,ok,none⟩) ks.length c'] #[.int .i64 12,.int .i64 a,.int .i64 b,.string nm,.slice A ks.length c] (fun d=>MemR cal (R12 cal (jC F0) a b) d∧d<x))∧Box W g19 67 #[.slice (some ⟨gq,0,none⟩) (n+800) (n+800)]∧Box W g18 3 #[.int .i64 (low-400)]∧BoolsAt W gq (low-400) (n+800) (jC F0)) w10
  (by omega) (by omega) (by omega) (by omega) hgsl (HCal.out.nx HS.out.s.bl) (fun _ _=>rfl) (fun x W W' h hb=>⟨h.1.next hb,h.2.1.below hb,h.2.2.1.below hb,h.2.2.2.next hb⟩)
  (fun W hW=>HCal.out.nx (HS.out.s.bl.grown hW HS.out.s.bl.size (fun k hk=>by injection hk with hk;have:=HS.out.s.lo;omega)))
  (fun x hx=>⟨HS.out.same fun d h1 h2=>⟨fun h=>h.elim,fun h=>by have:=hx d (h.1.cand HOk.out h1 (by have:=HN.out;omega));omega⟩,HX10.out,HR.out,HQ10.out⟩)
  (fun W y m first hW hS ho hy1 hy2 hfh hfl=>by
   have hml:=Cal.mlen_in HOk.out y m ho.m1
   have hnn:=HN.out
   have hl1:=ho.d1
   obtain⟨ln,hln⟩:∃ln:Nat,(ln:Int)=cal.mlen y m:=⟨(cal.mlen y m).toNat,by omega⟩
   have hst:=fun d=>MemR.step (R:=R12 cal (jC F0) a b) HOk.out ho hy1 hy2 d
   have hlt:(cal.mlen y m).toNat=ln:=by omega
   rw[←hln] at hst hfl hml hl1 ⊢
   refine(Vz gf g19 g18 gm gl gh go gs gq low n _ (low-400) (n+800) (jC F0) 12 a b nm A ks.length c ((m:Int)+1) first ln W hS.1.s.env hS.1.fe hS.2.1 hS.2.2.1 hS.1.mq hS.2.2.2 (by omega) (by omega) (by omega) (by omega) (by omega) (by omega) (by omega) (by omega) (by omega) (by omega) HA.out.2 HA.out.1.1 HA.out.1.2).mono ?_
   rintro e w' ⟨rfl,hs,hg⟩
   refine⟨rfl,⟨hS.1.grown hg (hs.same fun d h1 h2=>?_),hS.2.1.grown hg (fun e=>h19g (by simpa using e)),hS.2.2.1.grown hg (fun e=>hng (by simpa using e)),hS.2.2.2.grown hg (fun e=>hqg (by simpa using e))⟩,hg⟩
   refine Iff.trans ?_ (hst d).symm
   refine or_congr Iff.rfl ⟨fun h=>?_,fun h=>?_⟩
   ·obtain⟨q1,q2,j,q3,q4⟩:=h
    have hj:=q4.lt
    refine⟨q2,by omega,by omega,q1,?_⟩
    rw[hlt,show d-(d-first)=first from by omega,show(d-first).toNat=j from by omega]
    exact q4
   ·obtain⟨q1,q2,q3,q4,q5⟩:=h
    rw[hlt,show d-(d-first)=first from by omega] at q5
    exact⟨q4,q1,_,by omega,q5⟩))
 clear hnn0 hlo hhi HHigh HX10 HR HQ10
 go_wp2_with (go_at_call 42;refine HMo.out.mono ?_;rintro e w11 ⟨rfl,⟨x,hs8,hx⟩,hg8⟩;have HS8:=hD hs8.1;have HX:=hD hx;clear hs8 hx hg8 HMo z0 z1 z2 z3 z4 z5 z6 z7 z8 z9 z10 l0 h0;have o8:w11.cell? ⟨go,0,none⟩=some (.slice (some ⟨gs,0,none⟩) n n):=HS8.out.s.env.bo.cell 0)
 go_ret
 exact⟨gs,rfl,by rw[←HMF.out];exact HS8.out.s.env.bs.same fun d h1 h2=>⟨fun h=>(HMem.out d).2 h.1,fun h=>⟨(HMem.out d).1 h,HX.out d (((HMem.out d).1 h).cand HOk.out h1 (by have:=HN.out;omega))⟩⟩,HS8.out.s.lo,HS8.out.s.bl⟩
end
section
open Go Go.RowKit
theorem jbX (fs:List FE) (i:Nat) (h:i<fs.length):fht (fs.getD i fe0)≤xL fs:=by
 have h1:=Za fs i h
 have h2:=Zf fs (i+1)
 omega
theorem Yh {fs:List FE} {i:Nat} (h:i<fs.length):fs.getD i fe0∈fs:=by
 rw[List.getD_eq_getElem?_getD,List.getElem?_eq_getElem h]
 exact List.getElem_mem h
theorem VZ {w0:World} {p:Nat→Prop} {T:ST} {t:FE} (h:StAt w0 p T t):FeOk t→∀(w:World) (low high:Int) (n:Nat),Below w0.heap.size w0 w→high=low+n-1→-90000000+1000*(fht t:Int)≤low→high≤90000000-1000*(fht t:Int)→1≤n→n+1000*fht t≤1000000 →
  Calls Tryz.prog 24 #[.agg (stF T).toArray,.int .i64 low,.int .i64 high] w (xj t low n w):=by
 induction h with
 | @mk k a b nm A c cal A' c' ks A0 c0 fs hk ha hb hs hl row hc kids ih =>
  intro hok w low high n hw hhigh hlo hhi hn hn2
  obtain⟨node,okids⟩:FeNode k a b nm fs.length∧∀x∈fs,FeOk x:=by cases hok with|mk n k=>exact⟨n,k⟩
  have e0:fht (.node k a b nm A0 c0 fs)=xL fs+1:=by rw[fht]
  rw[e0] at hlo hhi hn2
  have row':RowAt w p A' (ks.flatMap stF):=row.keep (fun b hp hl=>⟨hw.block b hl,hp⟩) hw.size
  have hc':usN k=true→∃r∈jN,str r.nm=nm∧CalOf r cal∧CalAt w p cal:=fun e=>by
   obtain⟨r,q1,q2,q3,q4⟩:=hc e
   exact⟨r,q1,q2,q3,q4.keep (fun b hp hl=>⟨hw.block b hl,hp⟩) hw.size⟩
  have hcal:usN k=true→∃r∈jN,str r.nm=nm∧CalOf r cal∧CalAt w p cal∧j9 k a b r.t.mo.length:=fun e=>by
   obtain⟨r,q1,q2,q3,q4⟩:=hc' e
   obtain⟨r',p1,p2,p3⟩:=node.cal e
   obtain rfl:=Vf q1 p1 (q2.trans p2.symm)
   exact⟨r,q1,q2,q3,q4,p3⟩
  have IH:∀i,i<ks.length→∀(W:World) (lo hi:Int) (m:Nat),Below w.heap.size w W→hi=lo+m-1→-90000000+1000*(xL fs:Int)≤lo→hi≤90000000-1000*(xL fs:Int)→1≤m→m+1000*xL fs≤1000000→Calls Tryz.prog 24 #[.agg (stF (ks.getD i st0)).toArray,.int .i64 lo,.int .i64 hi] W (xj (fs.getD i fe0) lo m W):=fun i hi W lo hh m hW h1 h2 h3 h4 h5=>by
   have hg:=jbX fs i (by omega)
   exact ih i hi (okids _ (Yh (by omega))) W lo hh m (hw.trans (hW.mono hw.size)) h1 (by omega) (by omega) h4 (by omega)
  have k0:=node.k0
  have k1:=node.k1
  have hlen:=node.len
  have hrg:=node.rg
  have hkk:k=1∨k=2∨(k=3∨k=4∨k=5∨k=6)∨k=7∨k=8∨k=9∨k=10∨k=11∨k=12:=by omega
  clear ih kids hc hok okids row hc' node
  rcases hkk with rfl|rfl|h|rfl|rfl|rfl|rfl|rfl|rfl
  ·obtain⟨r,q1,q2,q3,q4,q5⟩:=hcal rfl
   exact jc5 a b nm A c cal A' c' ks A0 c0 fs low high n w hhigh (by omega) (by omega) hn (by omega) r q1 q2 q3 q4 q5.2
  ·obtain⟨r,q1,q2,q3,q4,q5⟩:=hcal rfl
   exact Ko a b nm A c cal A' c' ks A0 c0 fs low high n w hhigh (by omega) (by omega) hn (by omega) r q1 q2 q3 q4
  ·have hu:usN k=false:=by rcases h with rfl|rfl|rfl|rfl<;>rfl
   exact jad k h a b nm A c cal A' c' ks A0 c0 fs low high n w hhigh (by omega) (by omega) hn (by omega) (hrg hu)
  ·have hr : -400≤a∧a≤400:=hrg rfl
   have h1:fs.length=1:=hlen
   exact Kx a b nm A c cal A' c' ks A0 c0 fs low high n w hhigh (by omega) (by omega) hn (by omega) row' (by omega) h1 hr (fun W hW=>IH 0 (by omega) W _ _ n hW (by omega) (by omega) (by omega) hn (by omega))
  ·have hr:0≤a∧a≤6:=hrg rfl
   have h1:fs.length=1:=hlen
   exact jfo a b nm A c cal A' c' ks A0 c0 fs low high n w hhigh (by omega) (by omega) hn (by omega) row' (by omega) h1 hr (fun W hW=>IH 0 (by omega) W _ _ (n+6) hW (by omega) (by omega) (by omega) (by omega) (by omega))
  ·have h1:fs.length=2:=hlen
   exact jf2 a b nm A c cal A' c' ks A0 c0 fs low high n w hhigh (by omega) (by omega) hn (by omega) row' (by omega) h1 (fun W hW=>IH 0 (by omega) W _ _ n hW (by omega) (by omega) (by omega) hn (by omega)) (fun W hW=>IH 1 (by omega) W _ _ n hW (by omega) (by omega) (by omega) hn (by omega))
  ·have h1:fs.length=2:=hlen
   exact jex a b nm A c cal A' c' ks A0 c0 fs low high n w hhigh (by omega) (by omega) hn (by omega) row' (by omega) h1 (fun W hW=>IH 0 (by omega) W _ _ n hW (by omega) (by omega) (by omega) hn (by omega)) (fun W hW=>IH 1 (by omega) W _ _ n hW (by omega) (by omega) (by omega) hn (by omega))
  ·have h1:fs.length=2:=hlen
   exact jdG a b nm A c cal A' c' ks A0 c0 fs low high n w hhigh (by omega) (by omega) hn (by omega) row' (by omega) h1 (fun W hW=>IH 0 (by omega) W _ _ n hW (by omega) (by omega) (by omega) hn (by omega)) (fun W hW=>IH 1 (by omega) W _ _ n hW (by omega) (by omega) (by omega) hn (by omega))
  ·obtain⟨r,q1,q2,q3,q4,q5⟩:=hcal rfl
   have h5:(-50≤a∧a≤50)∧a≠0∧(0≤b∧b≤r.t.mo.length):=q5
   have h1:fs.length=1:=hlen
   exact jeV a b nm A c cal A' c' ks A0 c0 fs low high n w hhigh (by omega) (by omega) hn (by omega) r q1 q2 q3 q4 row' (by omega) h1 ⟨h5.1,h5.2.1⟩ (fun W hW=>IH 0 (by omega) W _ _ (n+800) hW (by omega) (by omega) (by omega) (by omega) (by omega))
attribute [local go_sem] Oper.semAt_some
def jfZ (t:FE) (ds:List Int) (w:World) (e:Ending) (w':World):Prop:=∃E:Int,e = .returned (.int .i64 E)∧(E=0↔FeGood t∧∀d∈ds,js d)∧Below w.heap.size w w'
theorem QZ (t:FE) (ds:List Int) (b0 o0 cp:Nat) (w:World) (hv:Env w) (hin:FeIn w w.heap.size t) (hb0:b0<w.heap.size) (hc0:∀j,j<ds.length→w.cell? ⟨b0,o0+j,none⟩=some (.int .i64 (ds.getD j 0))) (hl:ds.length≤100) :
  Calls Tryz.prog 22 #[feV t,.slice (some ⟨b0,o0,none⟩) ds.length cp] w (jfZ t ds w):=by
 obtain⟨k,a,b,nm,A,c,ks⟩:=t
 show Calls Tryz.prog 22 #[.agg #[.int .i64 k,.int .i64 a,.int .i64 b,.string nm,.slice A ks.length c],.slice (some ⟨b0,o0,none⟩) ds.length cp] w _
 have hba:=ja w (Obj.cells #[.int .i64 k,.int .i64 a,.int .i64 b,.string nm,.slice A ks.length c] 24)
 have HX:=hD (Box.new w 24 #[.int .i64 k,.int .i64 a,.int .i64 b,.string nm,.slice A ks.length c])
 have HCk:=hD (JJ (.node k a b nm A c ks) (w.alloc (Obj.cells #[.int .i64 k,.int .i64 a,.int .i64 b,.string nm,.slice A ks.length c] 24)) (hv.next hba) (hin.next hba hba.size))
 have HB:=hD hba
 have HC0:=hD hc0
 have HD:=hD (fun n W=>y6 n W)
 unfold ZB at HCk
 obtain⟨G,hG⟩:∃G:Prop,G=FeGood (.node k a b nm A c ks):=⟨_,rfl⟩
 rw[←hG] at HCk
 have HGe:=hD hG
 clear hba hv hin hc0 hG
 go_enter Tryz.func22,Tryz.ntmps22
 go_upto_region 1 with fail
 generalize w.alloc (Obj.cells #[.int .i64 k,.int .i64 a,.int .i64 b,.string nm,.slice A ks.length c] 24)=W1 at *
 obtain⟨x0,x1,x2,x3,x4⟩:=jR HX.out
 go_wp2_with fail
 refine HCk.out.mono ?_
 rintro e w2 ⟨E,rfl,hE,hb2⟩
 have HB2:=hD (jb HB.out hb2)
 have HE:=hD hE
 clear hb2 hE HCk HB x0 x1 x2 x3 x4 HX
 by_cases hE0:E=0
 case neg =>
  have t1:(E != 0)=true:=by rw[bne_iff_ne];exact hE0
  have HR:Hid (E=0↔FeGood (.node k a b nm A c ks)∧∀d∈ds,js d):=⟨fun h=>absurd h hE0,fun h=>HE.out.2 (by rw[HGe.out];exact h.1)⟩
  clear hE0 HE
  go_wp2_with fail
  go_ret
  exact⟨E,rfl,HR.out,HB2.out⟩
 subst hE0
 have HGd:=hD (HE.out.1 rfl)
 clear HE
 go_wp2_with fail
 go_loopw [7,15] (fun _ i wr=>∃j:Nat,j≤ds.length∧i = .int .i64 (j:Int)∧wr=w2∧Hid (∀i,i<j→js (ds.getD i 0))) (fun _ i _=>ds.length-(intOf i).toNat)
 case atStart=>exact⟨0,by omega,rfl,rfl,fun i hi=>by omega⟩
 case round =>
  obtain⟨j,hj,rfl,rfl,hall⟩:=hrel
  by_cases hlt:j<ds.length
  case neg =>
   have hje:ds.length≤j:=by omega
   have HR:Hid (FeGood (.node k a b nm A c ks)∧∀d∈ds,js d):=⟨by rw[←HGe.out];exact HGd.out,fun d hd=>by
    obtain⟨i,hi,rfl⟩:=List.getElem_of_mem hd
    have:=hall.out i (by omega)
    simpa[List.getD,hi] using this⟩
   go_wp2_with fail
   go_ret
   exact⟨0,rfl,⟨fun _=>HR.out,fun _=>rfl⟩,HB2.out⟩
  have hcell:=(HB2.out.cell (p:=⟨b0,o0+j,none⟩) hb0).trans (HC0.out j hlt)
  have hmem:ds.getD j 0∈ds:=by
   rw[List.getD_eq_getElem?_getD,List.getElem?_eq_getElem hlt]
   exact List.getElem_mem hlt
  have HMm:=hD hmem
  obtain⟨d,hd⟩:∃d,d=ds.getD j 0:=⟨_,rfl⟩
  rw[←hd] at hcell HMm
  have HDe:=hD hd
  have HD1:=hD (fun W=>HD.out d W)
  clear hmem hd
  by_cases hdd : -4000000≤d∧d≤4000000
  ·rw[decide_eq_true hdd] at HD1
   have HAll:Hid (∀i,i<j+1→js (ds.getD i 0)):=fun i hi=>by
    by_cases e:i=j
    ·rw[e,←HDe.out];exact hdd
    ·exact hall.out i (by omega)
   clear hdd hall
   go_wp2_with (go_at_call 34;refine(HD1.out _).mono ?_;rintro e w' ⟨rfl,rfl⟩)
   go_roundw
   case rel=>exact⟨j+1,by omega,by go_num,by first|rfl|trivial,HAll⟩
   case measure=>simp[intOf];omega
  ·rw[decide_eq_false hdd] at HD1
   have HR:Hid (¬(FeGood (.node k a b nm A c ks)∧∀d∈ds,js d)):=fun h=>hdd (h.2 d HMm.out)
   clear hdd hall
   go_wp2_with (go_at_call 34;refine(HD1.out _).mono ?_;rintro e w' ⟨rfl,rfl⟩)
   go_ret
   exact⟨3,rfl,⟨fun h=>by omega,fun h=>absurd h HR.out⟩,HB2.out⟩
theorem jff (day:Int) (g1:Nat) (W:World) (hc:W.cell? ⟨g1,0,none⟩=some (.int .i64 day)):∀j,j<[day].length→W.cell? ⟨g1,0+j,none⟩=some (.int .i64 ([day].getD j 0)):=by
 intro j hj
 obtain rfl:j=0:=by simpa using hj
 exact hc
def HasQ (t:FE) (day:Int) (w:World) (e:Ending) (w':World):Prop:=∃(is:Bool) (E:Int),e = .returned (.tuple #[.bool is,.int .i64 E])∧(E=0↔FeGood t∧js day)∧(E=0→(is=true↔jC t day))∧(E≠0→is=false)∧Below w.heap.size w w'
theorem jdF (t:FE) (day:Int) (w:World) (hv:Env w) (hin:FeIn w w.heap.size t):Calls Tryz.prog 37 #[feV t,.int .i64 day] w (HasQ t day w):=by
 have HV:=hD (fun W (h:Below w.heap.size w W)=>hv.next h)
 have HIn:=hD (fun W (h:Below w.heap.size w W)=>hin.next h h.size)
 clear hv hin
 obtain⟨t0,ht0⟩:∃t0,t0=t:=⟨_,rfl⟩
 obtain⟨k,a,b,nm,A,c,ks⟩:=t
 have HCk:=hD (fun g1 W (h:Below w.heap.size w W) (hg:g1<W.heap.size) (hc:W.cell? ⟨g1,0,none⟩=some (.int .i64 day))=>QZ (.node k a b nm A c ks) [day] g1 0 1 W (HV.out W h) (HIn.out W h) hg (jff day g1 W hc) (by simp))
 have HOp:=hD (fun(hok:FeOk (.node k a b nm A c ks)) W (h:Below w.heap.size w W)=>Z3 W (HV.out W h) (.node k a b nm A c ks) (HIn.out W h) hok W (Below.refl _ _))
 have HSt:=hD (fun(hg:FeGood (.node k a b nm A c ks)) (hd:js day) (T:ST) (p:Nat→Prop) W (h:StAt W p T (.node k a b nm A c ks))=>VZ h hg.ok W day day 1 (Below.refl _ _) (by omega) (by have:=hg.ht;have:=hd.1;omega) (by have:=hg.ht;have:=hd.2;omega) (by omega) (by have:=hg.ht;omega))
 rw[←ht0] at HCk HOp HSt ⊢
 have HT0:=hD ht0
 have hfe:feV t0 = .agg #[.int .i64 k,.int .i64 a,.int .i64 b,.string nm,.slice A ks.length c]:=by rw[ht0];rfl
 rw[hfe] at HCk HOp ⊢
 have HB:=hD (jh w (Obj.cells #[.int .i64 k,.int .i64 a,.int .i64 b,.string nm,.slice A ks.length c] 24) (Obj.cells #[.int .i64 day] 3))
 have HX:=hD ((Box.new w 24 #[.int .i64 k,.int .i64 a,.int .i64 b,.string nm,.slice A ks.length c]).alloc (Obj.cells #[.int .i64 day] 3))
 have hY:=Box.new (w.alloc (Obj.cells #[.int .i64 k,.int .i64 a,.int .i64 b,.string nm,.slice A ks.length c] 24)) 3 #[.int .i64 day]
 rw[World.size_alloc] at hY
 have HY:=hD hY
 have xb:=Box.new w 24 #[.int .i64 k,.int .i64 a,.int .i64 b,.string nm,.slice A ks.length c]
 obtain⟨x0,x1,x2,x3,x4⟩:=jR xb
 unfold jfZ at HCk
 unfold Yl at HOp
 unfold xj at HSt
 clear ht0 hfe hY
 go_enter Tryz.func37,Tryz.ntmps37
 go_wp2_with fail
 clear x0 x1 x2 x3 x4 xb
 generalize (w.alloc (Obj.cells #[.int .i64 k,.int .i64 a,.int .i64 b,.string nm,.slice A ks.length c] 24)).alloc (Obj.cells #[.int .i64 day] 3)=W2 at *
 refine(HCk.out _ W2 HB.out HY.out.lt (HY.out.cell 0)).mono ?_
 rintro e w3 ⟨E,rfl,hE,hb3⟩
 have HB3:=hD (jb HB.out hb3)
 have HX3:=hD (HX.out.below hb3)
 have HE:=hD hE
 clear hb3 hE HCk HB HX HY
 by_cases hE0:E=0
 case neg =>
  have t1:(E != 0)=true:=by rw[bne_iff_ne];exact hE0
  have HR:Hid ((E=0↔FeGood t0∧js day)∧E≠0):=⟨⟨fun h=>absurd h hE0,fun h=>HE.out.2 ⟨h.1,fun d hd=>by rw[List.mem_singleton] at hd;rw[hd];exact h.2⟩⟩,hE0⟩
  clear hE0 HE
  go_wp2_with fail
  go_ret2
  exact⟨false,E,rfl,HR.out.1,fun h=>absurd h HR.out.2,fun _=>rfl,HB3.out⟩
 subst hE0
 have HGd:=hD (HE.out.1 rfl)
 have hok:=HGd.out.1.ok
 have HOk:=hD hok
 clear HE hok
 obtain⟨x0,x1,x2,x3,x4⟩:=jR HX3.out
 go_wp2_with fail
 refine(HOp.out HOk.out w3 HB3.out).mono ?_
 rintro e w4 ⟨T,rfl,hT,hb4⟩
 have HB4:=hD (jb HB3.out hb4)
 have HS4:=hD (HSt.out HGd.out.1 (HGd.out.2 day (by simp)) T _ w4 hT)
 clear hT hb4 HOp HSt HX3 x0 x1 x2 x3 x4
 go_wp2_with fail
 refine HS4.out.mono ?_
 rintro e w5 ⟨gs,rfl,hbs,_,hb5⟩
 have HB5:=hD (jb HB4.out hb5)
 obtain⟨L,hL,hLc,hLm⟩:=hbs.list
 obtain⟨x,hx⟩:∃x,L[0]?=some x:=⟨_,List.getElem?_eq_getElem (by omega)⟩
 have hcx:w5.cell? ⟨gs,0,none⟩=some (.bool x):=hLc 0 x hx
 have hxm:x=true↔jC t0 day:=by
  have:=hLm 0 (by omega)
  rw[List.getD_eq_getElem?_getD,hx] at this
  simpa using this
 have HXm:=hD hxm
 have HR:Hid (FeGood t0∧js day):=⟨HGd.out.1,HGd.out.2 day (by simp)⟩
 clear hb5 HB4 HS4 hLc hLm hx hxm hbs
 go_wp2_with fail
 go_ret2
 exact⟨x,0,rfl,⟨fun _=>HR.out,fun _=>rfl⟩,fun _=>HXm.out,fun h=>absurd rfl h,HB5.out⟩
end
section
open Go Go.RowKit
attribute [local go_sem] Oper.semAt_some
open Classical in
noncomputable def daysF (t:FE) (a:Int) (n:Nat):List Int:=((List.range n).map fun(i:Nat)=>a+(i:Int)).filter fun d=>decide (jC t d)
open Classical in
theorem kI (t:FE) (a:Int) (n m:Nat):daysF t a (n+m)=daysF t a n++daysF t (a+n) m:=by
 unfold daysF
 rw[List.range_add,List.map_append,List.filter_append,List.map_map]
 congr 2
 apply List.map_congr_left
 intro i _
 simp[Int.add_assoc]
open Classical in
theorem yU (t:FE) (a:Int):daysF t a 1=if jC t a then[a] else[]:=by
 unfold daysF
 by_cases h:jC t a<;>simp[h]
theorem QT {t:FE} {a:Int} {n:Nat} (h:jC t (a+n)):daysF t a (n+1)=daysF t a n++[a+(n:Int)]:=by rw[kI,yU,if_pos h]
theorem XW {t:FE} {a:Int} {n:Nat} (h:¬jC t (a+n)):daysF t a (n+1)=daysF t a n:=by rw[kI,yU,if_neg h,List.append_nil]
theorem kN (t:FE) (a:Int) (n:Nat):(daysF t a n).length≤n:=by
 unfold daysF
 refine Nat.le_trans (List.length_filter_le _ _) ?_
 simp
theorem jaa (t:FE) (a:Int) (n:Nat) (d:Int):d∈daysF t a n↔a≤d∧d<a+n∧jC t d:=by
 unfold daysF
 simp only[List.mem_filter,List.mem_map,List.mem_range,decide_eq_true_eq]
 constructor
 ·rintro⟨⟨i,hi,rfl⟩,h⟩
  exact⟨by omega,by omega,h⟩
 ·rintro⟨h1,h2,h3⟩
  exact⟨⟨(d-a).toNat,by omega,by omega⟩,h3⟩
def xE (t:FE) (a b:Int):Prop:=FeGood t∧js a∧js b∧a≤b∧b-a≤3000
def BetQ (t:FE) (a b:Int) (w:World) (e:Ending) (w':World):Prop:=Below w.heap.size w w'∧((∃E:Int,E≠0∧e = .returned (.tuple #[.slice none 0 0,.int .i64 E])∧¬xE t a b) ∨
 (∃(A:Option Addr) (l c:Nat),e = .returned (.tuple #[.slice A l c,.int .i64 0])∧xE t a b∧l=(daysF t a (b-a+1).toNat).length∧w'.ownsRow w.heap.size 3 1 (.slice A l c) l (jZ (daysF t a (b-a+1).toNat))))
theorem BetQ.no {t:FE} {a b:Int} {w w':World} {E:Int} (h:¬xE t a b) (hE:E≠0) (hb:Below w.heap.size w w'):BetQ t a b w (.returned (.tuple #[.slice none 0 0,.int .i64 E])) w':=⟨hb,.inl ⟨E,hE,rfl,h⟩⟩
theorem jfH (a b:Int) (g1:Nat) (W:World) (h0:W.cell? ⟨g1,0,none⟩=some (.int .i64 a)) (h1:W.cell? ⟨g1,1,none⟩=some (.int .i64 b)):∀j,j<[a,b].length→W.cell? ⟨g1,0+j,none⟩=some (.int .i64 ([a,b].getD j 0)):=by
 intro j hj
 have:j=0∨j=1:=by simp at hj;omega
 rcases this with rfl|rfl
 ·exact h0
 ·exact h1
theorem jbV (x:Int):∀u∈[Value.int .i64 x],u.oneCell'=true:=fun u hu=>by simp at hu;subst hu;rfl
theorem Xo (t:FE) (lo hi:Int) (w:World) (hv:Env w) (hin:FeIn w w.heap.size t):Calls Tryz.prog 9 #[feV t,.int .i64 lo,.int .i64 hi] w (BetQ t lo hi w):=by
 obtain⟨i0,hi0,hz0,hz1,hz2⟩:=info_parts vT
 have HV:=hD (fun W (h:Below w.heap.size w W)=>hv.next h)
 have HIn:=hD (fun W (h:Below w.heap.size w W)=>hin.next h h.size)
 clear hv hin
 obtain⟨t0,ht0⟩:∃t0,t0=t:=⟨_,rfl⟩
 obtain⟨k,a,b,nm,A,c,ks⟩:=t
 have HCk:=hD (fun g1 W (h:Below w.heap.size w W) (hg:g1<W.heap.size) (h0:W.cell? ⟨g1,0,none⟩=some (.int .i64 lo)) (h1:W.cell? ⟨g1,1,none⟩=some (.int .i64 hi))=>QZ (.node k a b nm A c ks) [lo,hi] g1 0 2 W (HV.out W h) (HIn.out W h) hg (jfH lo hi g1 W h0 h1) (by simp))
 have HOp:=hD (fun(hok:FeOk (.node k a b nm A c ks)) W (h:Below w.heap.size w W)=>Z3 W (HV.out W h) (.node k a b nm A c ks) (HIn.out W h) hok W (Below.refl _ _))
 have HSt:=hD (fun(hg:FeGood (.node k a b nm A c ks)) (h1:js lo) (h2:js hi) (n:Nat) (hn:hi=lo+n-1) (hn1:1≤n) (hn2:n≤3001) (T:ST) (p:Nat→Prop) W (h:StAt W p T (.node k a b nm A c ks))=>VZ h hg.ok W lo hi n (Below.refl _ _) hn (by have:=hg.ht;have:=h1.1;omega) (by have:=hg.ht;have:=h2.2;omega) hn1 (by have:=hg.ht;omega))
 rw[←ht0] at HCk HOp HSt ⊢
 have HT0:=hD ht0
 have hfe:feV t0 = .agg #[.int .i64 k,.int .i64 a,.int .i64 b,.string nm,.slice A ks.length c]:=by rw[ht0];rfl
 rw[hfe] at HCk HOp ⊢
 have HB:=hD (jh w (Obj.cells #[.int .i64 k,.int .i64 a,.int .i64 b,.string nm,.slice A ks.length c] 24) (Obj.cells #[.int .i64 lo,.int .i64 hi] 3))
 have HX:=hD ((Box.new w 24 #[.int .i64 k,.int .i64 a,.int .i64 b,.string nm,.slice A ks.length c]).alloc (Obj.cells #[.int .i64 lo,.int .i64 hi] 3))
 have hY:=Box.new (w.alloc (Obj.cells #[.int .i64 k,.int .i64 a,.int .i64 b,.string nm,.slice A ks.length c] 24)) 3 #[.int .i64 lo,.int .i64 hi]
 rw[World.size_alloc] at hY
 have HY:=hD hY
 have xb:=Box.new w 24 #[.int .i64 k,.int .i64 a,.int .i64 b,.string nm,.slice A ks.length c]
 obtain⟨x0,x1,x2,x3,x4⟩:=jR xb
 unfold jfZ at HCk
 unfold Yl at HOp
 unfold xj at HSt
 clear ht0 hfe hY
 go_enter Tryz.func9,Tryz.ntmps9
 go_wp2_with fail
 clear x0 x1 x2 x3 x4 xb
 generalize (w.alloc (Obj.cells #[.int .i64 k,.int .i64 a,.int .i64 b,.string nm,.slice A ks.length c] 24)).alloc (Obj.cells #[.int .i64 lo,.int .i64 hi] 3)=W2 at *
 refine(HCk.out _ W2 HB.out HY.out.lt (HY.out.cell 0) (HY.out.cell 1)).mono ?_
 rintro e w3 ⟨E,rfl,hE,hb3⟩
 have HB3:=hD (jb HB.out hb3)
 have HX3:=hD (HX.out.below hb3)
 have HE:=hD hE
 clear hb3 hE HCk HB HX HY
 by_cases hE0:E=0
 case neg =>
  have t1:(E != 0)=true:=by rw[bne_iff_ne];exact hE0
  have HR:Hid (E≠0∧¬xE t0 lo hi):=⟨hE0,fun h=>hE0 (HE.out.2 ⟨h.1,fun d hd=>by
   simp only[List.mem_cons,List.not_mem_nil,or_false] at hd
   rcases hd with rfl|rfl
   ·exact h.2.1
   ·exact h.2.2.1⟩)⟩
  clear hE0 HE
  go_wp2_with fail
  go_ret2
  exact BetQ.no HR.out.2 HR.out.1 HB3.out
 subst hE0
 have HGd:=hD (HE.out.1 rfl)
 have hd1:js lo:=HGd.out.2 lo (by simp)
 have hd2:js hi:=HGd.out.2 hi (by simp)
 have HDs:=hD (And.intro hd1 hd2)
 unfold js at hd1 hd2
 clear HE
 by_cases hgt:hi<lo
 ·have t2:decide (hi<lo)=true:=decide_eq_true hgt
  have HR:Hid (¬xE t0 lo hi):=fun h=>by have:=h.2.2.2.1;omega
  go_wp2_with fail
  go_ret2
  exact BetQ.no HR.out (by omega) HB3.out
 have t2:decide (hi<lo)=false:=decide_eq_false hgt
 have ew:IntKind.i64.wrap (hi-lo)=hi-lo:=ji _ (by omega) (by omega)
 by_cases hlg:3000<hi-lo
 ·have t3:decide (3000<hi-lo)=true:=decide_eq_true hlg
  have HR:Hid (¬xE t0 lo hi):=fun h=>by have:=h.2.2.2.2;omega
  go_wp2_with fail
  go_ret2
  exact BetQ.no HR.out (by omega) HB3.out
 have t3:decide (3000<hi-lo)=false:=decide_eq_false hlg
 have HOk:=hD HGd.out.1.ok
 obtain⟨n,hn⟩:∃n:Nat,n=(hi-lo+1).toNat:=⟨_,rfl⟩
 have hnn:(n:Int)≤hi-lo+1∧hi-lo+1≤n:=by omega
 have hn1:1≤n∧n≤3001:=by omega
 have HNe:=hD hn
 have HGB:Hid (xE t0 lo hi):=⟨HGd.out.1,HDs.out.1,HDs.out.2,by omega,by omega⟩
 clear hn hgt hlg
 obtain⟨x0,x1,x2,x3,x4⟩:=jR HX3.out
 go_wp2_with fail
 refine(HOp.out HOk.out w3 HB3.out).mono ?_
 rintro e w4 ⟨T,rfl,hT,hb4⟩
 have HB4:=hD (jb HB3.out hb4)
 have HS4:=hD (HSt.out HGd.out.1 HDs.out.1 HDs.out.2 n (by omega) (by omega) (by omega) T _ w4 hT)
 clear hT hb4 HOp HSt HX3 x0 x1 x2 x3 x4
 go_wp2_with fail
 refine HS4.out.mono ?_
 rintro e w5 ⟨gs,rfl,hbs,hgs,hb5⟩
 have HB5:=hD (jb HB4.out hb5)
 obtain⟨L,hL,hLc,hLm⟩:=hbs.list
 have HL:=hD (And.intro hLc hLm)
 have hgl:gs<w5.heap.size:=by obtain⟨_,q,_⟩:=hbs;exact q.lt
 clear hb5 HB4 HS4 hLc hLm hbs t2 t3 ew
 go_wp2_with fail
 go_loopw [9,10,11,33] (fun s9 _ _ i wr=>∃j:Nat,j≤n∧i = .int .i64 (j:Int)∧Hid (wr.ownsRow w5.heap.size 3 1 s9 (daysF t0 lo j).length (jZ (daysF t0 lo j)))∧Hid (Below w5.heap.size w5 wr)) (fun _ _ _ i _=>n-(intOf i).toNat)
 case atStart=>exact⟨0,by omega,rfl,World.ownsRow_nil _ _ _ _,Below.refl _ _⟩
 case round =>
  obtain⟨j,hj,rfl,hown,hbr⟩:=hrel
  have hln:=kN t0 lo j
  by_cases hlt:j<n
  case neg =>
   have hje:n≤j:=by omega
   have hjn:j=n:=by omega
   obtain⟨A9,c9,rfl,_⟩:=jI hown.out
   have HO:Hid (wr.ownsRow w.heap.size 3 1 (.slice A9 (daysF t0 lo j).length c9) (daysF t0 lo j).length (jZ (daysF t0 lo j))):=jM hown.out HB5.out.size
   have HJ:Hid (j=(hi-lo+1).toNat):=by unfold Hid;rw[hjn];exact HNe.out
   have HBw:=hD (jb HB5.out hbr.out)
   clear hjn hown hbr
   go_wp2_with fail
   go_ret2
   refine⟨HBw.out,.inr ⟨A9,_,c9,rfl,HGB.out,by rw[HJ.out],?_⟩⟩
   rw[←HJ.out]
   exact HO.out
  obtain⟨x,hx⟩:∃x,L[j]?=some x:=⟨_,List.getElem?_eq_getElem (by omega)⟩
  have hcx:=(hbr.out.cell (p:=⟨gs,j,none⟩) hgl).trans (HL.out.1 j x hx)
  have hxm:x=true↔jC t0 (lo+(j:Int)):=by
   have:=HL.out.2 j hlt
   rwa[List.getD_eq_getElem?_getD,hx] at this
  have HXm:=hD hxm
  have ew3:IntKind.i64.wrap (lo+(j:Int))=lo+(j:Int):=ji _ (by omega) (by omega)
  have hszr:=hbr.out.size
  clear hx hxm
  cases x with
  | false =>
   have hno:¬jC t0 (lo+(j:Int)):=fun h=>by have:=HXm.out.2 h;cases this
   have HO:Hid (wr.ownsRow w5.heap.size 3 1 u9 (daysF t0 lo (j+1)).length (jZ (daysF t0 lo (j+1)))):=by unfold Hid;rw[XW hno];exact hown.out
   clear hno HXm hown
   go_wp2_with fail
   go_roundw
   case rel=>exact⟨j+1,by omega,by go_num,HO,hbr⟩
   case measure=>simp[intOf];omega
  | true =>
   have HYs:=hD (QT (HXm.out.1 rfl))
   have hown':=hown.out
   obtain⟨l9,hl9⟩:∃l9,l9=(daysF t0 lo j).length:=⟨_,rfl⟩
   go_wp2_with (at_builtin;refine wpList_append_own _ rfl (.tmp 39) (.tmp 43) 39 rfl w5.heap.size 3 i0 (.int .i64 0) 1 8 Tryz.underlying39 hi0 hz0 hz1 hz2 rfl (by decide) u9 (daysF t0 lo j).length _ rfl (hown'.alloc _) ⟨wr.heap.size,0,none⟩ 1 1 [.int .i64 (lo+(j:Int))] rfl rfl (cell_one_new _ _ _) (jbV _) ?c3 ?c4 ?c5 ?_)
   case c3=>first|omega|(simp only[maxLen];omega)|(simp;omega)
   case c4=>first|omega|(simp only[maxLen];omega)|(simp;omega)
   case c5=>first|omega|(simp only[World.size_alloc];omega)|(simp;omega)
   intro v' w6 hown6 hgrow _
   have HO:Hid (w6.ownsRow w5.heap.size 3 1 v' (daysF t0 lo (j+1)).length (jZ (daysF t0 lo (j+1)))):=by
    unfold Hid
    rw[HYs.out,List.length_append]
    have e:jZ (daysF t0 lo j++[lo+(j:Int)])=jZ (daysF t0 lo j)++[.int .i64 (lo+(j:Int))]:=by simp[jZ]
    rw[e]
    exact hown6
   have HB6:Hid (Below w5.heap.size w5 w6):=(hbr.out.alloc hszr _).grown hgrow (by simp only[World.size_alloc];omega) (fun k hk=>(qq hown' k hk).1)
   clear hown6 hgrow hown' hown hbr HYs HXm hl9
   go_wp2_with fail
   go_roundw
   case rel=>exact⟨j+1,by omega,by go_num,HO,HB6⟩
   case measure=>simp[intOf];omega
end
end Go.Proofs.YtkkjaaognefeiaaGreatDoor
