/- RowA, RowB, RowC, RowD -/
import Derived.Test.YtkkjaaognefeiaaGreatDoorGExpr1
import Derived.Test.YtkkjaaognefeiaaGreatDoorGFlowA
set_option maxRecDepth 100000
set_option maxHeartbeats 16000000
set_option linter.unusedVariables false
set_option linter.unusedSimpArgs false
namespace Go.Proofs.YtkkjaaognefeiaaGreatDoor
open Go.RowKit
def K9 (c:Tok) (sh lo:Int):List Tok:=c::(zF sh++if lo=sh then[] else zF lo)
def jfl (g:Nat) (S:ByteArray) (v:Value) (w:World) (e:Ending) (w':World):Prop:=e = .returned (.tuple #[v,.bool true])∧Reads w' g S 0 []∧w.grownBy w' (some g)
abbrev yK:Array Value:=#[.string ⟨#[]⟩,.int .i64 0,.int .i64 0]
theorem jeZ (n:Int):∃c r,zF n=c::r∧c≠[]:=by
 unfold zF
 split
 ·exact⟨_,_,rfl,by simp⟩
 ·exact⟨_,_,rfl,vS n⟩
theorem jcd (g:Nat) (S:ByteArray) (c:Tok) (sh lo:Int) (w:World) (hS:S.size≤5000) (hc:∀b∈c,qk b=true) (h1 : -9999999999≤sh) (h2:sh≤9999999999) (h3 : -9999999999≤lo) (h4:lo≤9999999999) (h:Reads w g S 0 (K9 c sh lo)) :
  Calls Tryz.prog 148 #[.pointer (some ⟨g,0,none⟩)] w (jfl g S (.agg #[.string (str c),.int .i64 sh,.int .i64 lo]) w):=by
 have HB0:=hD (jh w (Obj.cells yK 155) (Obj.cells yK 155))
 have HX0:=hD ((Box.new w 155 yK).alloc (Obj.cells yK 155))
 have HY0:=hD (Box.new (w.alloc (Obj.cells yK 155)) 155 yK)
 rw[show(w.alloc (Obj.cells yK 155)).heap.size=w.heap.size+1 from by simp] at HY0
 have HW:=hD (XS g S 0 c _ _ (h.next HB0.out) hS hc)
 have HN1:=hD (fun W (hr:Reads W g S 0 (zF sh++if lo=sh then[] else zF lo))=>yV g S 0 sh (if lo=sh then[] else zF lo) W hr hS h1 h2)
 have HN2:=hD (fun W (hr:Reads W g S 0 (zF lo++[]))=>yV g S 0 lo [] W hr hS h3 h4)
 have HT:=hD (fun W (hr:Reads W g S 0 (if lo=sh then[] else zF lo))=>zm g S 0 (if lo=sh then[] else zF lo) W hr hS)
 have hgl:=h.lt
 unfold yo at HW HN1 HN2
 unfold jfl
 clear h hc h1 h2 h3 h4
 go_enter Tryz.func148,Tryz.ntmps148
 go_wp2_with fail
 refine HW.out.mono ?_
 rintro e w1 ⟨rfl,hr,hg⟩
 generalize hg4:w.heap.size=g4 at *
 have HG4:=hD hg4
 clear hg4
 have hx1:=HX0.out.grown hg (by simp;omega)
 have hy1:=HY0.out.grown hg (by simp;omega)
 have hg1:w.grownBy w1 (some g):=World.grownBy.trans (jj (by rw[HG4.out];exact HB0.out)) hg
 have HX1:=hD (Box.far hx1 (p:=⟨g4+1,0,none⟩) (by show g4≠g4+1;omega) (.string (str c)))
 have HY1:Hid (Box (w1.setCell ⟨g4+1,0,none⟩ (.string (str c))) (g4+1) 155 #[.string (str c),.int .i64 0,.int .i64 0]):=hy1.set_ 0 _
 have HR1:=hD (jp hr (g4+1) 0 (.string (str c)) (by omega))
 have HG1:=hD (jq hg1 (g4+1) 0 (.string (str c)) (by have:=HG4.out;omega))
 have q0:w1.cell? ⟨g4+1,0,none⟩=some (.string ⟨#[]⟩):=hy1.cell 0
 have qf:∀i,w1.frozen? ⟨g4+1,i,none⟩=false:=fun i=>hy1.free i
 have ql:g4+1<w1.heap.size:=hy1.lt
 clear hx1 hy1 hg1 hr hg HX0 HY0 HB0 HW
 go_upto_region 6 with fail
 clear q0 qf ql
 generalize w1.setCell ⟨g4+1,0,none⟩ (.string (str c))=w2 at *
 have HN1b:=hD (HN1.out w2 HR1.out)
 clear HN1
 have ql2:g4+1<w2.heap.size:=HY1.out.lt
 go_wp2_with fail
 refine HN1b.out.mono ?_
 rintro e w3 ⟨rfl,hr,hg⟩
 have hx3:=HX1.out.grown hg (by simp;omega)
 have hy3:=HY1.out.grown hg (by simp;omega)
 have hg3:w.grownBy w3 (some g):=World.grownBy.trans HG1.out hg
 have HX3:=hD (Box.far (Box.far hx3 (p:=⟨g4+1,1,none⟩) (by show g4≠g4+1;omega) (.int .i64 sh)) (p:=⟨g4+1,2,none⟩) (by show g4≠g4+1;omega) (.int .i64 sh))
 have HY3:Hid (Box ((w3.setCell ⟨g4+1,1,none⟩ (.int .i64 sh)).setCell ⟨g4+1,2,none⟩ (.int .i64 sh)) (g4+1) 155 #[.string (str c),.int .i64 sh,.int .i64 sh]):=(hy3.set_ 1 _).set_ 2 _
 have HR3:=hD (jp (jp hr (g4+1) 1 (.int .i64 sh) (by omega)) (g4+1) 2 (.int .i64 sh) (by omega))
 have HG3:=hD (jq (jq hg3 (g4+1) 1 (.int .i64 sh) (by have:=HG4.out;omega)) (g4+1) 2 (.int .i64 sh) (by have:=HG4.out;omega))
 have q1:w3.cell? ⟨g4+1,1,none⟩=some (.int .i64 0):=hy3.cell 1
 have q2:w3.cell? ⟨g4+1,2,none⟩=some (.int .i64 0):=hy3.cell 2
 have qf:∀i,w3.frozen? ⟨g4+1,i,none⟩=false:=fun i=>hy3.free i
 have ql:g4+1<w3.heap.size:=hy3.lt
 clear hx3 hy3 hg3 hr hg HX1 HY1 HG1 HR1 HN1b ql2
 go_upto_region 10 with fail
 clear q1 q2 qf ql
 generalize (w3.setCell ⟨g4+1,1,none⟩ (.int .i64 sh)).setCell ⟨g4+1,2,none⟩ (.int .i64 sh)=w4 at *
 have HT4:=hD (HT.out w4 HR3.out)
 clear HT
 by_cases hls:lo=sh
 ·subst hls
  rw[if_pos rfl] at HT4 HR3
  rw[show zn []=⟨#[]⟩ from rfl] at HT4
  go_wp2_with fail
  refine HT4.out.mono ?_
  rintro e w5 ⟨rfl,m,rfl⟩
  have hx5:=HX3.out.drewN m
  have hy5:=HY3.out.drewN m
  have HR5:=hD (HR3.out.drewN m)
  have HG5:Hid (w.grownBy (w4.drewN m) (some g)):=World.grownBy.trans HG3.out (jj (jg w4 m))
  clear HX3 HY3 HR3 HG3 HT4
  generalize w4.drewN m=w6 at *
  have y0:w6.cell? ⟨g4+1,0,none⟩=some (.string (str c)):=hy5.cell 0
  have y1:w6.cell? ⟨g4+1,1,none⟩=some (.int .i64 lo):=hy5.cell 1
  have y2:w6.cell? ⟨g4+1,2,none⟩=some (.int .i64 lo):=hy5.cell 2
  have yl:g4+1<w6.heap.size:=hy5.lt
  have r0:w6.cell? ⟨g4,0,none⟩=some (.string ⟨#[]⟩):=hx5.cell 0
  have r1:w6.cell? ⟨g4,1,none⟩=some (.int .i64 0):=hx5.cell 1
  have r2:w6.cell? ⟨g4,2,none⟩=some (.int .i64 0):=hx5.cell 2
  have rf:∀i,w6.frozen? ⟨g4,i,none⟩=false:=fun i=>hx5.free i
  have rl:g4<w6.heap.size:=hx5.lt
  clear hx5 hy5
  go_wp2_with fail
  refine bodyPost_ret (v:=.tuple #[.agg #[.string (str c),.int .i64 lo,.int .i64 lo],.bool true]) (by simp[results,Tryz.results148,go_sem,r0,r1,r2]) rfl ?_
  exact⟨rfl,jp (jp (jp HR5.out g4 0 _ (by omega)) g4 1 _ (by omega)) g4 2 _ (by omega),jq (jq (jq HG5.out g4 0 _ (by have:=HG4.out;omega)) g4 1 _ (by have:=HG4.out;omega)) g4 2 _ (by have:=HG4.out;omega)⟩
 ·rw[if_neg hls] at HT4 HR3
  obtain⟨cc,rr,hcr,hcne⟩:=jeZ lo
  have t0:(zn (zF lo)).toList.isEmpty=false:=by rw[hcr];unfold zn;rw[jv];cases cc with|nil=>exact absurd rfl hcne|cons _ _=>rfl
  have t1:¬(zn (zF lo)).toList=[]:=by rw[hcr];unfold zn;rw[jv];exact hcne
  have HN2b:=hD (fun m=>HN2.out (w4.drewN m) (by rw[List.append_nil];exact HR3.out.drewN m))
  clear HN2 hcr hcne
  generalize zn (zF lo)=tkS at *
  go_wp2_with fail
  refine HT4.out.mono ?_
  rintro e w5 ⟨rfl,m,rfl⟩
  have HN2c:=hD (HN2b.out m)
  have ql:g4+1<(w4.drewN m).heap.size:=(HY3.out.drewN m).lt
  clear HN2b HT4
  go_wp2_with fail
  refine HN2c.out.mono ?_
  rintro e w6 ⟨rfl,hr,hg⟩
  have hx6:=(HX3.out.drewN m).grown hg (by simp;omega)
  have hy6:=(HY3.out.drewN m).grown hg (by simp;omega)
  have HR6:=hD hr
  have HG6:Hid (w.grownBy w6 (some g)):=World.grownBy.trans HG3.out (World.grownBy.trans (jj (jg w4 m)) hg)
  have y0:w6.cell? ⟨g4+1,0,none⟩=some (.string (str c)):=hy6.cell 0
  have y1:w6.cell? ⟨g4+1,1,none⟩=some (.int .i64 sh):=hy6.cell 1
  have y2:w6.cell? ⟨g4+1,2,none⟩=some (.int .i64 sh):=hy6.cell 2
  have yf:∀i,w6.frozen? ⟨g4+1,i,none⟩=false:=fun i=>hy6.free i
  have yl:g4+1<w6.heap.size:=hy6.lt
  have r0:w6.cell? ⟨g4,0,none⟩=some (.string ⟨#[]⟩):=hx6.cell 0
  have r1:w6.cell? ⟨g4,1,none⟩=some (.int .i64 0):=hx6.cell 1
  have r2:w6.cell? ⟨g4,2,none⟩=some (.int .i64 0):=hx6.cell 2
  have rf:∀i,w6.frozen? ⟨g4,i,none⟩=false:=fun i=>hx6.free i
  have rl:g4<w6.heap.size:=hx6.lt
  clear hx6 hy6 hr hg HX3 HY3 HR3 HG3 HN2c ql
  go_wp2_with fail
  refine bodyPost_ret (v:=.tuple #[.agg #[.string (str c),.int .i64 sh,.int .i64 lo],.bool true]) (by simp[results,Tryz.results148,go_sem,r0,r1,r2]) rfl ?_
  have hgw:=HG4.out
  exact⟨rfl,jp (jp (jp (jp HR6.out (g4+1) 2 _ (by omega)) g4 0 _ (by omega)) g4 1 _ (by omega)) g4 2 _ (by omega),jq (jq (jq (jq HG6.out (g4+1) 2 _ (by omega)) g4 0 _ (by omega)) g4 1 _ (by omega)) g4 2 _ (by omega)⟩
def JT (w:World) (g:Nat) (S:ByteArray) (ts:List Tok):Prop:=Rd w g S 0 0 0∧qD S.data.toList=ts∧S.size≤5000
theorem xk (g:Nat) (S:ByteArray) (ts:List Tok) (w:World) (h:JT w g S ts) :
  Calls Tryz.prog 142 #[.pointer (some ⟨g,0,none⟩)] w fun e w'=>e = .returned (.tuple #[])∧Reads w' g S 0 ts∧w.grownBy w' (some g):=by
 obtain⟨h1,h2,h3⟩:=h
 refine(XM g S 0 0 0 ts w h1 h3 (by omega) (by rw[List.drop_zero];exact h2)).mono ?_
 rintro e w' ⟨he,a',n',h4,h5,h6⟩
 exact⟨he,⟨a',n',h4,h5⟩,h6⟩
abbrev zh (nm:ByteArray) (ep cy k n:Int) (ks:Value) (mo:Value):Array Value:=#[.string nm,.int .i64 ep,.int .i64 cy,.int .i64 k,.int .i64 n,ks,mo]
def jaL (gt:Nat) (cs:Array Value) (p:Nat→Prop) (w:World) (e:Ending) (w':World):Prop:=e = .returned (.bool true)∧Box w' gt 128 cs∧Only p w w'
theorem jeQ (g gt:Nat) (S:ByteArray) (c:Tok) (nm:ByteArray) (ep cy k n:Int) (ks mo:Value) (w:World) (hc:∀b∈c,qk b=true) (hgt:gt≠g) (h:JT w g S ([99,97,108,101,110,100,97,114]::[c])) (hb:Box w gt 128 (zh nm ep cy k n ks mo)) :
  Calls Tryz.prog 104 #[.pointer (some ⟨g,0,none⟩),.pointer (some ⟨gt,0,none⟩),.int .i64 0] w (jaL gt (zh (str c) ep cy k n ks mo) (fun k=>k=g∨k=gt) w):=by
 have hS:=h.2.2
 have HSC:=hD (xk g S _ w h)
 have HT:=hD (fun W (hr:Reads W g S 0 ([99,97,108,101,110,100,97,114]::[c]))=>qZ g S 0 [99,97,108,101,110,100,97,114] ([c]) W hr hS)
 have HC:=hD (fun W (hr:Reads W g S 0 ([c]))=>XS g S 0 c [] W hr hS hc)
 have HK:=hD (fun W (hr:Reads W g S 0 [])=>zm g S 0 [] W hr hS)
 rw[show zn []=⟨#[]⟩ from rfl] at HK
 have HB:=hD hb
 have hgl:gt<w.heap.size:=hb.lt
 unfold zr at HT
 unfold yo at HC
 unfold jaL
 clear h hb hc
 have hmin:min (0:Int) 4=0:=by omega
 go_enter Tryz.func104,Tryz.ntmps104
 go_wp2_with fail
 refine HSC.out.mono ?_
 rintro e w1 ⟨rfl,hr,hg⟩
 have HO1:=hD (jz (p:=fun k=>k=g∨k=gt) hg (fun k e=>by injection e with e;exact .inl e.symm))
 have HB1:=hD (HB.out.grown hg (by simp;omega))
 have HR1:=hD hr
 clear hr hg HSC HB
 go_upto_region 4 with fail
 obtain⟨Wx,hWx⟩:∃Wx,Wx=w1.alloc (Obj.cells #[.string ⟨#[99,97,108,101,110,100,97,114]⟩,.string ⟨#[101,112,111,99,104]⟩,.string ⟨#[99,121,99,108,101]⟩,.string ⟨#[108,101,97,112]⟩,.string ⟨#[109,111,110,116,104]⟩] 9):=⟨_,rfl⟩
 have hal:Below w1.heap.size w1 Wx:=by rw[hWx];exact ja _ _
 rw[←hWx]
 have HO2:Hid (Only (fun k=>k=g∨k=gt) w Wx):=HO1.out.trans (jH hal)
 have HB2:=hD (HB1.out.below hal)
 have HT2:=hD (HT.out Wx (HR1.out.next hal))
 clear hWx hal HO1 HB1 HR1 HT
 go_wp2_with fail
 refine HT2.out.mono ?_
 rintro e w3 ⟨rfl,hr,hg⟩
 have HO3:Hid (Only (fun k=>k=g∨k=gt) w w3):=HO2.out.trans (jz hg (fun k e=>by injection e with e;exact .inl e.symm))
 have HB3:=hD (HB2.out.grown hg (by simp;omega))
 have HC3:=hD (HC.out w3 hr)
 clear hr hg HO2 HB2 HT2 HC
 go_wp2_with fail
 refine HC3.out.mono ?_
 rintro e w4 ⟨rfl,hr,hg⟩
 have hb4:=HB3.out.grown hg (by simp;omega)
 have HO4:Hid (Only (fun k=>k=g∨k=gt) w (w4.setCell ⟨gt,0,none⟩ (.string (str c)))):=(HO3.out.trans (jz hg (fun k e=>by injection e with e;exact .inl e.symm))).trans (jL w4 gt 0 _ (.inr rfl))
 have HB4:Hid (Box (w4.setCell ⟨gt,0,none⟩ (.string (str c))) gt 128 (zh (str c) ep cy k n ks mo)):=hb4.set_ 0 _
 have HK4:=hD (HK.out _ (jp hr gt 0 (.string (str c)) hgt))
 have q0:w4.cell? ⟨gt,0,none⟩=some (.string nm):=hb4.cell 0
 have qf:w4.frozen? ⟨gt,0,none⟩=false:=hb4.free 0
 have ql:gt<w4.heap.size:=hb4.lt
 clear hr hg hb4 HO3 HB3 HC3 HK
 go_upto_region 18 with fail
 clear q0 qf ql
 generalize w4.setCell ⟨gt,0,none⟩ (.string (str c))=w5 at *
 go_wp2_with fail
 refine HK4.out.mono ?_
 rintro e w6 ⟨rfl,m,rfl⟩
 go_wp2_with fail
 go_ret
 exact⟨rfl,HB4.out.drewN m,HO4.out.trans (jH (jg w5 m))⟩
theorem jef (g gt:Nat) (S:ByteArray) (v:Int) (nm:ByteArray) (ep cy k n:Int) (ks mo:Value) (w:World) (h1 : -9999999999≤v) (h2:v≤9999999999) (hgt:gt≠g) (h:JT w g S ([101,112,111,99,104]::zF v++[])) (hb:Box w gt 128 (zh nm ep cy k n ks mo)) :
  Calls Tryz.prog 104 #[.pointer (some ⟨g,0,none⟩),.pointer (some ⟨gt,0,none⟩),.int .i64 1] w (jaL gt (zh nm v cy k n ks mo) (fun k=>k=g∨k=gt) w):=by
 have hS:=h.2.2
 have HSC:=hD (xk g S _ w h)
 have HT:=hD (fun W (hr:Reads W g S 0 ([101,112,111,99,104]::zF v++[]))=>qZ g S 0 [101,112,111,99,104] (zF v++[]) W hr hS)
 have HC:=hD (fun W (hr:Reads W g S 0 (zF v++[]))=>yV g S 0 v [] W hr hS h1 h2)
 have HK:=hD (fun W (hr:Reads W g S 0 [])=>zm g S 0 [] W hr hS)
 rw[show zn []=⟨#[]⟩ from rfl] at HK
 have HB:=hD hb
 have hgl:gt<w.heap.size:=hb.lt
 unfold zr at HT
 unfold yo at HC
 unfold jaL
 clear h hb h1 h2
 have hmin:min (1:Int) 4=1:=by omega
 go_enter Tryz.func104,Tryz.ntmps104
 go_wp2_with fail
 refine HSC.out.mono ?_
 rintro e w1 ⟨rfl,hr,hg⟩
 have HO1:=hD (jz (p:=fun k=>k=g∨k=gt) hg (fun k e=>by injection e with e;exact .inl e.symm))
 have HB1:=hD (HB.out.grown hg (by simp;omega))
 have HR1:=hD hr
 clear hr hg HSC HB
 go_upto_region 4 with fail
 obtain⟨Wx,hWx⟩:∃Wx,Wx=w1.alloc (Obj.cells #[.string ⟨#[99,97,108,101,110,100,97,114]⟩,.string ⟨#[101,112,111,99,104]⟩,.string ⟨#[99,121,99,108,101]⟩,.string ⟨#[108,101,97,112]⟩,.string ⟨#[109,111,110,116,104]⟩] 9):=⟨_,rfl⟩
 have hal:Below w1.heap.size w1 Wx:=by rw[hWx];exact ja _ _
 rw[←hWx]
 have HO2:Hid (Only (fun k=>k=g∨k=gt) w Wx):=HO1.out.trans (jH hal)
 have HB2:=hD (HB1.out.below hal)
 have HT2:=hD (HT.out Wx (HR1.out.next hal))
 clear hWx hal HO1 HB1 HR1 HT
 go_wp2_with fail
 refine HT2.out.mono ?_
 rintro e w3 ⟨rfl,hr,hg⟩
 have HO3:Hid (Only (fun k=>k=g∨k=gt) w w3):=HO2.out.trans (jz hg (fun k e=>by injection e with e;exact .inl e.symm))
 have HB3:=hD (HB2.out.grown hg (by simp;omega))
 have HC3:=hD (HC.out w3 hr)
 clear hr hg HO2 HB2 HT2 HC
 go_wp2_with fail
 refine HC3.out.mono ?_
 rintro e w4 ⟨rfl,hr,hg⟩
 have hb4:=HB3.out.grown hg (by simp;omega)
 have HO4:Hid (Only (fun k=>k=g∨k=gt) w (w4.setCell ⟨gt,1,none⟩ (.int .i64 v))):=(HO3.out.trans (jz hg (fun k e=>by injection e with e;exact .inl e.symm))).trans (jL w4 gt 1 _ (.inr rfl))
 have HB4:Hid (Box (w4.setCell ⟨gt,1,none⟩ (.int .i64 v)) gt 128 (zh nm v cy k n ks mo)):=hb4.set_ 1 _
 have HK4:=hD (HK.out _ (jp hr gt 1 (.int .i64 v) hgt))
 have q0:w4.cell? ⟨gt,1,none⟩=some (.int .i64 ep):=hb4.cell 1
 have qf:w4.frozen? ⟨gt,1,none⟩=false:=hb4.free 1
 have ql:gt<w4.heap.size:=hb4.lt
 clear hr hg hb4 HO3 HB3 HC3 HK
 go_upto_region 18 with fail
 clear q0 qf ql
 generalize w4.setCell ⟨gt,1,none⟩ (.int .i64 v)=w5 at *
 go_wp2_with fail
 refine HK4.out.mono ?_
 rintro e w6 ⟨rfl,m,rfl⟩
 go_wp2_with fail
 go_ret
 exact⟨rfl,HB4.out.drewN m,HO4.out.trans (jH (jg w5 m))⟩
theorem jd9 (g gt:Nat) (S:ByteArray) (v:Int) (nm:ByteArray) (ep cy k n:Int) (ks mo:Value) (w:World) (h1 : -9999999999≤v) (h2:v≤9999999999) (hgt:gt≠g) (h:JT w g S ([99,121,99,108,101]::zF v++[])) (hb:Box w gt 128 (zh nm ep cy k n ks mo)) :
  Calls Tryz.prog 104 #[.pointer (some ⟨g,0,none⟩),.pointer (some ⟨gt,0,none⟩),.int .i64 2] w (jaL gt (zh nm ep v k n ks mo) (fun k=>k=g∨k=gt) w):=by
 have hS:=h.2.2
 have HSC:=hD (xk g S _ w h)
 have HT:=hD (fun W (hr:Reads W g S 0 ([99,121,99,108,101]::zF v++[]))=>qZ g S 0 [99,121,99,108,101] (zF v++[]) W hr hS)
 have HC:=hD (fun W (hr:Reads W g S 0 (zF v++[]))=>yV g S 0 v [] W hr hS h1 h2)
 have HK:=hD (fun W (hr:Reads W g S 0 [])=>zm g S 0 [] W hr hS)
 rw[show zn []=⟨#[]⟩ from rfl] at HK
 have HB:=hD hb
 have hgl:gt<w.heap.size:=hb.lt
 unfold zr at HT
 unfold yo at HC
 unfold jaL
 clear h hb h1 h2
 have hmin:min (2:Int) 4=2:=by omega
 go_enter Tryz.func104,Tryz.ntmps104
 go_wp2_with fail
 refine HSC.out.mono ?_
 rintro e w1 ⟨rfl,hr,hg⟩
 have HO1:=hD (jz (p:=fun k=>k=g∨k=gt) hg (fun k e=>by injection e with e;exact .inl e.symm))
 have HB1:=hD (HB.out.grown hg (by simp;omega))
 have HR1:=hD hr
 clear hr hg HSC HB
 go_upto_region 4 with fail
 obtain⟨Wx,hWx⟩:∃Wx,Wx=w1.alloc (Obj.cells #[.string ⟨#[99,97,108,101,110,100,97,114]⟩,.string ⟨#[101,112,111,99,104]⟩,.string ⟨#[99,121,99,108,101]⟩,.string ⟨#[108,101,97,112]⟩,.string ⟨#[109,111,110,116,104]⟩] 9):=⟨_,rfl⟩
 have hal:Below w1.heap.size w1 Wx:=by rw[hWx];exact ja _ _
 rw[←hWx]
 have HO2:Hid (Only (fun k=>k=g∨k=gt) w Wx):=HO1.out.trans (jH hal)
 have HB2:=hD (HB1.out.below hal)
 have HT2:=hD (HT.out Wx (HR1.out.next hal))
 clear hWx hal HO1 HB1 HR1 HT
 go_wp2_with fail
 refine HT2.out.mono ?_
 rintro e w3 ⟨rfl,hr,hg⟩
 have HO3:Hid (Only (fun k=>k=g∨k=gt) w w3):=HO2.out.trans (jz hg (fun k e=>by injection e with e;exact .inl e.symm))
 have HB3:=hD (HB2.out.grown hg (by simp;omega))
 have HC3:=hD (HC.out w3 hr)
 clear hr hg HO2 HB2 HT2 HC
 go_wp2_with fail
 refine HC3.out.mono ?_
 rintro e w4 ⟨rfl,hr,hg⟩
 have hb4:=HB3.out.grown hg (by simp;omega)
 have HO4:Hid (Only (fun k=>k=g∨k=gt) w (w4.setCell ⟨gt,2,none⟩ (.int .i64 v))):=(HO3.out.trans (jz hg (fun k e=>by injection e with e;exact .inl e.symm))).trans (jL w4 gt 2 _ (.inr rfl))
 have HB4:Hid (Box (w4.setCell ⟨gt,2,none⟩ (.int .i64 v)) gt 128 (zh nm ep v k n ks mo)):=hb4.set_ 2 _
 have HK4:=hD (HK.out _ (jp hr gt 2 (.int .i64 v) hgt))
 have q0:w4.cell? ⟨gt,2,none⟩=some (.int .i64 cy):=hb4.cell 2
 have qf:w4.frozen? ⟨gt,2,none⟩=false:=hb4.free 2
 have ql:gt<w4.heap.size:=hb4.lt
 clear hr hg hb4 HO3 HB3 HC3 HK
 go_upto_region 18 with fail
 clear q0 qf ql
 generalize w4.setCell ⟨gt,2,none⟩ (.int .i64 v)=w5 at *
 go_wp2_with fail
 refine HK4.out.mono ?_
 rintro e w6 ⟨rfl,m,rfl⟩
 go_wp2_with fail
 go_ret
 exact⟨rfl,HB4.out.drewN m,HO4.out.trans (jH (jg w5 m))⟩
def RowLQ (g gt:Nat) (nm:ByteArray) (ep cy:Int) (mo:Value) (t:RE) (w:World) (e:Ending) (w':World):Prop :=
 ∃(k n:Int) (A:Option Addr) (c:Nat) (ks:List RE),Same (.node k n A c ks) t∧e = .returned (.bool true)∧Box w' gt 128 (zh nm ep cy k n (.slice A ks.length c) mo)∧ReAt w' (fun b=>w.heap.size≤b) w'.heap.size (.node k n A c ks)∧Only (fun k=>k=g∨k=gt) w w'
theorem jcX (g gt:Nat) (S:ByteArray) (X:List Tok) (t:RE) (nm:ByteArray) (ep cy k n:Int) (ks mo:Value) (w:World) (hgt:gt≠g) (h:JT w g S ([108,101,97,112]::X)) (hb:Box w gt 128 (zh nm ep cy k n ks mo)) (hs:Sgs w) (hv:Lvs w)
  (hg1:g≠4) (hg2:g≠5)
  (hE:∀W,RdOk W g S 0 X→Calls Tryz.prog 147 #[.pointer (some ⟨g,0,none⟩),.int .i64 0] W (qK g S 0 t [] W)) :
  Calls Tryz.prog 104 #[.pointer (some ⟨g,0,none⟩),.pointer (some ⟨gt,0,none⟩),.int .i64 3] w (RowLQ g gt nm ep cy mo t w):=by
 have hS:=h.2.2
 have HSC:=hD (xk g S _ w h)
 have HT:=hD (fun W (hr:Reads W g S 0 ([108,101,97,112]::X))=>qZ g S 0 [108,101,97,112] X W hr hS)
 have HE:=hD hE
 have HK:=hD (fun W (hr:Reads W g S 0 [])=>zm g S 0 [] W hr hS)
 rw[show zn []=⟨#[]⟩ from rfl] at HK
 have HB:=hD hb
 have hgl:gt<w.heap.size:=hb.lt
 have HSG:=hD hs
 have HLV:=hD hv
 unfold zr at HT
 clear h hb hs hv hE
 have hmin:min (3:Int) 4=3:=by omega
 go_enter Tryz.func104,Tryz.ntmps104
 go_wp2_with fail
 refine HSC.out.mono ?_
 rintro e w1 ⟨rfl,hr,hg⟩
 have HO1:=hD (jz (p:=fun k=>k=g∨k=gt) hg (fun k e=>by injection e with e;exact .inl e.symm))
 have HB1:=hD (HB.out.grown hg (by simp;omega))
 have HR1:=hD hr
 have HS1:=hD (HSG.out.grown hg hg1)
 have HV1:=hD (HLV.out.grown hg hg2)
 clear hr hg HSC HB HSG HLV
 go_upto_region 4 with fail
 obtain⟨Wx,hWx⟩:∃Wx,Wx=w1.alloc (Obj.cells #[.string ⟨#[99,97,108,101,110,100,97,114]⟩,.string ⟨#[101,112,111,99,104]⟩,.string ⟨#[99,121,99,108,101]⟩,.string ⟨#[108,101,97,112]⟩,.string ⟨#[109,111,110,116,104]⟩] 9):=⟨_,rfl⟩
 have hal:Below w1.heap.size w1 Wx:=by rw[hWx];exact ja _ _
 rw[←hWx]
 have HO2:Hid (Only (fun k=>k=g∨k=gt) w Wx):=HO1.out.trans (jH hal)
 have HB2:=hD (HB1.out.below hal)
 have HT2:=hD (HT.out Wx (HR1.out.next hal))
 have HS2:=hD (HS1.out.next hal)
 have HV2:=hD (HV1.out.next hal)
 clear hWx hal HO1 HB1 HR1 HT HS1 HV1
 go_wp2_with fail
 refine HT2.out.mono ?_
 rintro e w3 ⟨rfl,hr,hg⟩
 have HO3:Hid (Only (fun k=>k=g∨k=gt) w w3):=HO2.out.trans (jz hg (fun k e=>by injection e with e;exact .inl e.symm))
 have HB3:=hD (HB2.out.grown hg (by simp;omega))
 have HC3:=hD (HE.out w3 ⟨hr,HS2.out.grown hg hg1,HV2.out.grown hg hg2,hg1,hg2⟩)
 clear hr hg HO2 HB2 HT2 HE HS2 HV2
 go_wp2_with fail
 refine HC3.out.mono ?_
 rintro e w4 ⟨t',hsm,rfl,ha,hr,hg⟩
 cases t' with
 | node k2 n2 A2 c2 ks2 =>
 rw[show reV (.node k2 n2 A2 c2 ks2) = .agg #[.int .i64 k2,.int .i64 n2,.slice A2 ks2.length c2] from rfl]
 have HSM:=hD hsm
 have hb4:=HB3.out.grown hg (by simp;omega)
 have HO4:Hid (Only (fun k=>k=g∨k=gt) w (((w4.setCell ⟨gt,3,none⟩ (.int .i64 k2)).setCell ⟨gt,4,none⟩ (.int .i64 n2)).setCell ⟨gt,5,none⟩ (.slice A2 ks2.length c2))):=(((HO3.out.trans (jz hg (fun k e=>by injection e with e;exact .inl e.symm))).trans (jL w4 gt 3 _ (.inr rfl))).trans (jL _ gt 4 _ (.inr rfl))).trans (jL _ gt 5 _ (.inr rfl))
 have HB4:Hid (Box (((w4.setCell ⟨gt,3,none⟩ (.int .i64 k2)).setCell ⟨gt,4,none⟩ (.int .i64 n2)).setCell ⟨gt,5,none⟩ (.slice A2 ks2.length c2)) gt 128 (zh nm ep cy k2 n2 (.slice A2 ks2.length c2) mo)):=((hb4.set_ 3 _).set_ 4 _).set_ 5 _
 have ha':=ha.more (p':=fun b=>w.heap.size≤b) fun b hb _=>by have:=HO3.out.size;omega
 have HA4:=hD (((ha'.set_ gt 3 (.int .i64 k2) (by omega)).set_ gt 4 (.int .i64 n2) (by omega)).set_ gt 5 (.slice A2 ks2.length c2) (by omega))
 have HK4:=hD (HK.out _ (jp (jp (jp hr gt 3 (.int .i64 k2) hgt) gt 4 (.int .i64 n2) hgt) gt 5 (.slice A2 ks2.length c2) hgt))
 have q3:w4.cell? ⟨gt,3,none⟩=some (.int .i64 k):=hb4.cell 3
 have q4:w4.cell? ⟨gt,4,none⟩=some (.int .i64 n):=hb4.cell 4
 have q5:w4.cell? ⟨gt,5,none⟩=some ks:=hb4.cell 5
 have qf:∀i,w4.frozen? ⟨gt,i,none⟩=false:=fun i=>hb4.free i
 have ql:gt<w4.heap.size:=hb4.lt
 clear hr hg hb4 HO3 HB3 HC3 HK hsm ha ha'
 go_upto_region 18 with fail
 clear q3 q4 q5 qf ql
 generalize ((w4.setCell ⟨gt,3,none⟩ (.int .i64 k2)).setCell ⟨gt,4,none⟩ (.int .i64 n2)).setCell ⟨gt,5,none⟩ (.slice A2 ks2.length c2)=w5 at *
 go_wp2_with fail
 refine HK4.out.mono ?_
 rintro e w6 ⟨rfl,m,rfl⟩
 go_wp2_with fail
 go_ret
 exact⟨k2,n2,A2,c2,ks2,HSM.out,rfl,HB4.out.drewN m,HA4.out.next (jg w5 m),HO4.out.trans (jH (jg w5 m))⟩
theorem KQ:(Tryz.prog.info? 155).map (fun i=>(i.zero,i.size,i.bytes))=some (some (.agg #[.string ⟨#[]⟩,.int .i64 0,.int .i64 0]),3,32):=by kernel_rfl
def RowMQ (g gt:Nat) (nm:ByteArray) (ep cy k n:Int) (ks mo:Value) (base len:Nat) (xs:List Value) (w:World) (e:Ending) (w':World):Prop :=
 ∃(A:Option Addr) (c:Nat),e = .returned (.bool true)∧Box w' gt 128 (zh nm ep cy k n ks (.slice A (len+1) c))∧w'.ownsRow base 155 3 (.slice A (len+1) c) (len+1) xs∧Only (fun b=>b=g∨b=gt∨mo.ownBlock=some b) w w'
theorem KF (g gt:Nat) (S:ByteArray) (i:Nat) (c:Tok) (sh lo:Int) (nm:ByteArray) (ep cy k n:Int) (ks:Value) (A:Option Addr) (len cp base:Nat) (xs:List Value) (w:World) (hi:4≤i) (hi2:i≤1000) (hlen:len≤1000) (hgt:gt≠g) (h:JT w g S ([109,111,110,116,104]::K9 c sh lo)) (hb:Box w gt 128 (zh nm ep cy k n ks (.slice A len cp)))
  (hown:w.ownsRow base 155 3 (.slice A len cp) len xs) (hbase:base≤w.heap.size) (hc:∀b∈c,qk b=true) (h1 : -9999999999≤sh) (h2:sh≤9999999999) (h3 : -9999999999≤lo) (h4:lo≤9999999999) :
  Calls Tryz.prog 104 #[.pointer (some ⟨g,0,none⟩),.pointer (some ⟨gt,0,none⟩),.int .i64 (i:Int)] w (RowMQ g gt nm ep cy k n ks (.slice A len cp) base len (xs++[.string (str c),.int .i64 sh,.int .i64 lo]) w):=by
 obtain⟨i0,hi0,hz0,hz1,hz2⟩:=info_parts KQ
 have hS:=h.2.2
 have HSC:=hD (xk g S _ w h)
 have HT:=hD (fun W (hr:Reads W g S 0 ([109,111,110,116,104]::K9 c sh lo))=>qZ g S 0 [109,111,110,116,104] _ W hr hS)
 have HC:=hD (fun W (hr:Reads W g S 0 (K9 c sh lo))=>jcd g S c sh lo W hS hc h1 h2 h3 h4 hr)
 have HK:=hD (fun W (hr:Reads W g S 0 [])=>zm g S 0 [] W hr hS)
 rw[show zn []=⟨#[]⟩ from rfl] at HK
 have HB:=hD hb
 have hgl:gt<w.heap.size:=hb.lt
 have HW:=hD hown
 unfold zr at HT
 unfold jfl at HC
 have hrd:=h.1
 have hg0:¬(Value.slice A len cp).ownBlock=some g:=fun e=>vX hown (show Box w g _ _ from hrd) (by decide) g e rfl
 have hgt0:¬(Value.slice A len cp).ownBlock=some gt:=fun e=>vX hown hb (by decide) gt e rfl
 have HG0:=hD hg0
 have HGT0:=hD hgt0
 clear h hb hown hc h1 h2 h3 h4 hrd hg0 hgt0
 have hmin:min (i:Int) 4=4:=by omega
 have e0:((i:Int)==0)=false:=by rw[beq_eq_false_iff_ne];omega
 have e1:((i:Int)==1)=false:=by rw[beq_eq_false_iff_ne];omega
 have e2:((i:Int)==2)=false:=by rw[beq_eq_false_iff_ne];omega
 have e3:((i:Int)==3)=false:=by rw[beq_eq_false_iff_ne];omega
 go_enter Tryz.func104,Tryz.ntmps104
 go_wp2_with fail
 refine HSC.out.mono ?_
 rintro e w1 ⟨rfl,hr,hg⟩
 have HO1:=hD (jz (p:=fun b=>b=g∨b=gt∨(Value.slice A len cp).ownBlock=some b) hg (fun k e=>by injection e with e;exact .inl e.symm))
 have HB1:=hD (HB.out.grown hg (by simp;omega))
 have HW1:=hD (jx HW.out (w':=w1) fun b hb=>hg.block b (qq HW.out b hb).2 (fun e=>HG0.out (by rw[hb];simpa using e)))
 have HR1:=hD hr
 clear hr hg HSC HB HW
 go_upto_region 4 with fail
 obtain⟨Wx,hWx⟩:∃Wx,Wx=w1.alloc (Obj.cells #[.string ⟨#[99,97,108,101,110,100,97,114]⟩,.string ⟨#[101,112,111,99,104]⟩,.string ⟨#[99,121,99,108,101]⟩,.string ⟨#[108,101,97,112]⟩,.string ⟨#[109,111,110,116,104]⟩] 9):=⟨_,rfl⟩
 have hal:Below w1.heap.size w1 Wx:=by rw[hWx];exact ja _ _
 rw[←hWx]
 have HO2:Hid (Only (fun b=>b=g∨b=gt∨(Value.slice A len cp).ownBlock=some b) w Wx):=HO1.out.trans (jH hal)
 have HB2:=hD (HB1.out.below hal)
 have HW2:=hD (jn HW1.out hal)
 have HT2:=hD (HT.out Wx (HR1.out.next hal))
 clear hWx hal HO1 HB1 HR1 HT HW1
 go_wp2_with fail
 refine HT2.out.mono ?_
 rintro e w3 ⟨rfl,hr,hg⟩
 have HO3:Hid (Only (fun b=>b=g∨b=gt∨(Value.slice A len cp).ownBlock=some b) w w3):=HO2.out.trans (jz hg (fun k e=>by injection e with e;exact .inl e.symm))
 have HB3:=hD (HB2.out.grown hg (by simp;omega))
 have HW3:=hD (jx HW2.out (w':=w3) fun b hb=>hg.block b (qq HW2.out b hb).2 (fun e=>HG0.out (by rw[hb];simpa using e)))
 have hal:=ja w3 (Obj.cells yK 155)
 have HC3:=hD (HC.out _ (hr.next hal))
 have HO4:Hid (Only (fun b=>b=g∨b=gt∨(Value.slice A len cp).ownBlock=some b) w (w3.alloc (Obj.cells yK 155))):=HO3.out.trans (jH hal)
 have HB4:=hD (HB3.out.below hal)
 have HW4:=hD (jn HW3.out hal)
 have HM4:=hD (Box.new w3 155 yK)
 have HLT:Hid (∀b,(Value.slice A len cp).ownBlock=some b→b<w3.heap.size):=fun b hb=>(qq HW3.out b hb).2
 have hgs:gt<w3.heap.size:=HB3.out.lt
 have hgg:g<w3.heap.size:=hr.lt
 have hgw:w.heap.size≤w3.heap.size:=HO3.out.size
 clear hr hg hal HO2 HB2 HT2 HC HW2 HO3 HB3 HW3
 go_wp2_with fail
 generalize w3.alloc (Obj.cells yK 155)=W4 at *
 generalize w3.heap.size=g9 at *
 refine HC3.out.mono ?_
 rintro e w5 ⟨rfl,hr,hg⟩
 have hm5:=HM4.out.grown hg (by simp;omega)
 have hb5:=HB4.out.grown hg (by simp;omega)
 have hw5:=jx HW4.out (w':=w5) fun b hb=>hg.block b (qq HW4.out b hb).2 (fun e=>HG0.out (by rw[hb];simpa using e))
 have HM5:Hid (Box (((w5.setCell ⟨g9,0,none⟩ (.string (str c))).setCell ⟨g9,1,none⟩ (.int .i64 sh)).setCell ⟨g9,2,none⟩ (.int .i64 lo)) g9 155 #[.string (str c),.int .i64 sh,.int .i64 lo]):=((hm5.set_ 0 _).set_ 1 _).set_ 2 _
 have HB5:=hD (Box.far (Box.far (Box.far hb5 (p:=⟨g9,0,none⟩) (by show gt≠g9;omega) (.string (str c))) (p:=⟨g9,1,none⟩) (by show gt≠g9;omega) (.int .i64 sh)) (p:=⟨g9,2,none⟩) (by show gt≠g9;omega) (.int .i64 lo))
 have HW5:Hid ((((w5.setCell ⟨g9,0,none⟩ (.string (str c))).setCell ⟨g9,1,none⟩ (.int .i64 sh)).setCell ⟨g9,2,none⟩ (.int .i64 lo)).ownsRow base 155 3 (.slice A len cp) len xs):=jx hw5 fun b hb=>by
  have h:b≠g9:=by have:=HLT.out b hb;omega
  rw[Below.heap_setCell _ _ _ b h,Below.heap_setCell _ _ _ b h,Below.heap_setCell _ _ _ b h]
 have HR5:=hD (jp (jp (jp hr g9 0 (.string (str c)) (by omega)) g9 1 (.int .i64 sh) (by omega)) g9 2 (.int .i64 lo) (by omega))
 have HO5:Hid (Only (fun b=>b=g∨b=gt∨(Value.slice A len cp).ownBlock=some b) w (((w5.setCell ⟨g9,0,none⟩ (.string (str c))).setCell ⟨g9,1,none⟩ (.int .i64 sh)).setCell ⟨g9,2,none⟩ (.int .i64 lo))) :=
  yz (yz (yz (HO4.out.trans (jz hg (fun k e=>by injection e with e;exact .inl e.symm))) g9 0 _ hgw) g9 1 _ hgw) g9 2 _ hgw
 have q0:w5.cell? ⟨g9,0,none⟩=some (.string ⟨#[]⟩):=hm5.cell 0
 have q1:w5.cell? ⟨g9,1,none⟩=some (.int .i64 0):=hm5.cell 1
 have q2:w5.cell? ⟨g9,2,none⟩=some (.int .i64 0):=hm5.cell 2
 have qf:∀i,w5.frozen? ⟨g9,i,none⟩=false:=fun i=>hm5.free i
 have ql:g9<w5.heap.size:=hm5.lt
 clear hr hg hm5 hb5 hw5 HM4 HB4 HW4 HC3
 go_upto_region 9 with fail
 clear q0 q1 q2 qf ql
 generalize ((w5.setCell ⟨g9,0,none⟩ (.string (str c))).setCell ⟨g9,1,none⟩ (.int .i64 sh)).setCell ⟨g9,2,none⟩ (.int .i64 lo)=w6 at *
 have hW6:=HW5.out
 have hbl:∀b,(Value.slice A len cp).ownBlock=some b→b<w6.heap.size:=fun b hb=>(qq hW6 b hb).2
 have d6:∀W,w6.grownBy W (Value.slice A len cp).ownBlock→W.cell? ⟨gt,6,none⟩=some (.slice A len cp):=fun W hW=>(HB5.out.grown hW (fun e=>HGT0.out e.symm)).cell 6
 have m0:∀W,w6.grownBy W (Value.slice A len cp).ownBlock→W.cell? ⟨g9,0,none⟩=some (.string (str c)):=fun W hW=>(HM5.out.grown hW (fun e=>by have:=HLT.out g9 e.symm;omega)).cell 0
 have m1:∀W,w6.grownBy W (Value.slice A len cp).ownBlock→W.cell? ⟨g9,1,none⟩=some (.int .i64 sh):=fun W hW=>(HM5.out.grown hW (fun e=>by have:=HLT.out g9 e.symm;omega)).cell 1
 have m2:∀W,w6.grownBy W (Value.slice A len cp).ownBlock→W.cell? ⟨g9,2,none⟩=some (.int .i64 lo):=fun W hW=>(HM5.out.grown hW (fun e=>by have:=HLT.out g9 e.symm;omega)).cell 2
 have hb6:base≤w6.heap.size:=by have:=HO5.out.size;omega
 refine xS 10 7 (Value.slice A len cp).ownBlock (jy []) (by kernel_rfl) (by kernel_rfl) ?_
 simp only[List.take_succ_cons,List.take_zero,List.drop_succ_cons,List.drop_zero]
 repeat (first|(refine vb (v:=?_) (by rfl) (by rfl) (fun w hb=>?_) ?_;rotate_left;(· go_simp<;>(repeat' apply And.intro)<;>with_reducible rfl);try simp only[pZ,Nat.reduceAdd])|(refine ye (by rfl) (by rfl) ?_;try simp only[pZ,Nat.reduceAdd]))
 refine JF (n:=?_) (c:=?_) (t:=?_) (cs:=?_) hbl (by rfl) (by rfl) (fun w hb=>?_) (fun g6 hg6=>?_);rotate_left 4;(· go_simp<;>(repeat' apply And.intro)<;>with_reducible rfl);try simp only[pZ,Nat.reduceAdd]
 refine Kv [6] (by kernel_rfl) rfl (by rfl) (by rfl) (.tmp 33) (.tmp 35) 68 rfl base 155 i0 (.agg #[.string ⟨#[]⟩,.int .i64 0,.int .i64 0]) 3 32 Tryz.underlying68 hi0 hz0 hz1 hz2 rfl (by decide) (.slice A len cp) len xs rfl rfl hW6 hb6 ⟨g6,0,none⟩ 1 1 [.string (str c),.int .i64 sh,.int .i64 lo] rfl rfl (fun w hb hu=>World.news_of_block (cs:=#[.string (str c),.int .i64 sh,.int .i64 lo]) (t:=155) (fr:=(0,0)) (zZ hu)) (by simp[Value.oneCell']) (by simp only[maxLen];omega) (by omega) fun A7 cap=>?_
 try simp only[pZ,Nat.reduceAdd]
 repeat (first|(refine vb (v:=?_) (by rfl) (by rfl) (fun w hb=>?_) ?_;rotate_left;(· go_simp<;>(repeat' apply And.intro)<;>with_reducible rfl);try simp only[pZ,Nat.reduceAdd])|(refine ye (by rfl) (by rfl) ?_;try simp only[pZ,Nat.reduceAdd]))
 refine QN fun w7 hgrow hf=>?_
 have hown7:w7.ownsRow base 155 3 (.slice A7 (len+1) cap) (len+1) (xs++[.string (str c),.int .i64 sh,.int .i64 lo]):=hf.1
 have hx7:=HB5.out.grown hgrow (fun e=>HGT0.out e.symm)
 have hg7:gt<w7.heap.size:=hx7.lt
 have hf7:w7.frozen? ⟨gt,6,none⟩=false:=hx7.free 6
 have hc7:w7.cell? ⟨gt,6,none⟩=some (.slice A len cp):=hx7.cell 6
 have HX8:Hid (Box (w7.setCell ⟨gt,6,none⟩ (.slice A7 (len+1) cap)) gt 128 (zh nm ep cy k n ks (.slice A7 (len+1) cap))):=hx7.set_ 6 _
 have HW8:Hid ((w7.setCell ⟨gt,6,none⟩ (.slice A7 (len+1) cap)).ownsRow base 155 3 (.slice A7 (len+1) cap) (len+1) (xs++[.string (str c),.int .i64 sh,.int .i64 lo])):=jx hown7 fun b hb=>by
  have h:=vX hown7 hx7 (by decide) b hb
  rw[Below.heap_setCell _ _ _ b h]
 have HO8:Hid (Only (fun b=>b=g∨b=gt∨(Value.slice A len cp).ownBlock=some b) w (w7.setCell ⟨gt,6,none⟩ (.slice A7 (len+1) cap))):=(HO5.out.trans (jz hgrow (fun k e=>.inr (.inr e)))).trans (jL w7 gt 6 _ (.inr (.inl rfl)))
 have hgr7:Reads w7 g S 0 []:=by
  obtain⟨a',n',hx,hl⟩:=HR5.out
  exact⟨a',n',Box.grown (show Box w6 g _ _ from hx) hgrow (fun e=>HG0.out e.symm),hl⟩
 have HK8:=hD (HK.out _ (jp hgr7 gt 6 (.slice A7 (len+1) cap) hgt))
 clear hown7 hgrow hx7 hW6 hf d6 m0 m1 m2 hgr7 HB5 HM5 HW5 HR5 HO5 hbl
 refine wpList_step fun K hK=>?_
 rw[if_pos (by rfl)]
 go_simp
 refine hK _ _ (wpList_nil ?_)
 clear hK K hg7 hf7 hc7
 generalize w7.setCell ⟨gt,6,none⟩ (.slice A7 (len+1) cap)=w8 at *
 go_wp2_with fail
 refine HK8.out.mono ?_
 rintro e w9 ⟨rfl,m,rfl⟩
 go_wp2_with fail
 go_ret
 exact⟨A7,cap,rfl,HX8.out.drewN m,jn HW8.out (jg w8 m),HO8.out.trans (jH (jg w8 m))⟩
end Go.Proofs.YtkkjaaognefeiaaGreatDoor
