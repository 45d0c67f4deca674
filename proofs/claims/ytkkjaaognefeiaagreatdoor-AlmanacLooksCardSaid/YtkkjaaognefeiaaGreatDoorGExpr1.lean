/- Expr1, Expr2, Expr3, Expr4, Expr5, Expr6 -/
import Derived.Test.YtkkjaaognefeiaaGreatDoorGLex1
import Derived.Test.YtkkjaaognefeiaaGreatDoorGReMem
set_option maxRecDepth 100000
set_option maxHeartbeats 16000000
set_option linter.unusedVariables false
set_option linter.unusedSimpArgs false
namespace Go.Proofs.YtkkjaaognefeiaaGreatDoor
open Go.RowKit
def qK (g:Nat) (S:ByteArray) (op:Int) (t:RE) (ts:List Tok) (w:World) (e:Ending) (w':World):Prop :=
 ∃t':RE,Same t' t∧e = .returned (.tuple #[reV t',.bool true])∧ReAt w' (fun b=>w.heap.size≤b) w'.heap.size t'∧Reads w' g S op ts∧w.grownBy w' (some g)
structure RdOk (w:World) (g:Nat) (S:ByteArray) (op:Int) (ts:List Tok):Prop where
 rd:Reads w g S op ts
 sg:Sgs w
 lv:Lvs w
 g1:g≠4
 g2:g≠5
theorem Sgs.grown {w w':World} {g:Nat} (h:Sgs w) (hg:w.grownBy w' (some g)) (h1:g≠4):Sgs w':=fun k hk=>(xR (hg.block _ (block_lt_of_cell (h k hk)) (by simp;exact fun e=>h1 e.symm))).trans (h k hk)
theorem Lvs.grown {w w':World} {g:Nat} (h:Lvs w) (hg:w.grownBy w' (some g)) (h1:g≠5):Lvs w':=fun k hk=>(xR (hg.block _ (block_lt_of_cell (h k hk)) (by simp;exact fun e=>h1 e.symm))).trans (h k hk)
theorem RdOk.next {w w':World} {g:Nat} {S:ByteArray} {op:Int} {ts:List Tok} (h:RdOk w g S op ts) (hb:Below w.heap.size w w'):RdOk w' g S op ts:=⟨h.rd.next hb,h.sg.next hb,h.lv.next hb,h.g1,h.g2⟩
theorem RdOk.go {w w':World} {g:Nat} {S:ByteArray} {op op':Int} {ts ts':List Tok} (h:RdOk w g S op ts) (hg:w.grownBy w' (some g)) (hr:Reads w' g S op' ts'):RdOk w' g S op' ts':=⟨hr,h.sg.grown hg h.g1,h.lv.grown hg h.g2,h.g1,h.g2⟩
theorem RdOk.set_ {w:World} {g:Nat} {S:ByteArray} {op:Int} {ts:List Tok} (h:RdOk w g S op ts) (b i:Nat) (v:Value) (h0:b≠g) (h1:b≠4) (h2:b≠5):RdOk (w.setCell ⟨b,i,none⟩ v) g S op ts:=by
 obtain⟨a,n,hx,hl⟩:=h.rd
 refine⟨⟨a,n,Box.far hx (fun e=>h0 e.symm) v,hl⟩,fun k hk=>?_,fun k hk=>?_,h.g1,h.g2⟩
 ·exact(xR (Below.heap_setCell _ _ _ _ (fun e=>h1 (show b=_ from e.symm)))).trans (h.sg k hk)
 ·exact(xR (Below.heap_setCell _ _ _ _ (fun e=>h2 (show b=_ from e.symm)))).trans (h.lv k hk)
def kl (L:Nat) (g:Nat) (S:ByteArray) (op:Int) (t:RE) (ts:List Tok) (w:World):Prop :=
 if L=7 then Calls Tryz.prog 179 #[.pointer (some ⟨g,0,none⟩)] w (qK g S op t ts w)
 else Calls Tryz.prog 147 #[.pointer (some ⟨g,0,none⟩),.int .i64 (L:Int)] w (qK g S op t ts w)
def IHyp (g:Nat) (S:ByteArray) (m:Nat):Prop:=∀L t op ts w,8*(prT L t).length+(7-L)<m→L≤7→ReOk t→0≤op→op+(nd L t:Int)≤12→Good L ts→RdOk w g S op (prT L t++ts)→kl L g S op t ts w
theorem je6 {w:World} {g:Nat} {S:ByteArray} {op:Int} {ts:List Tok} (h:Reads w g S op ts):w.cell? ⟨g,3,none⟩=some (.int .i64 op)∧w.frozen? ⟨g,3,none⟩=false:=by
 obtain⟨a,n,h,_⟩:=h
 exact⟨Box.cell h 3,Box.free h 3⟩
theorem Yp {w:World} {g:Nat} {S:ByteArray} {op:Int} {ts:List Tok} (h:Reads w g S op ts) (op':Int):Reads (w.setCell ⟨g,3,none⟩ (.int .i64 op')) g S op' ts:=by
 obtain⟨a,n,h,h2⟩:=h
 exact⟨a,n,Box.set_ h 3 _,h2⟩
abbrev jX:Array Value:=#[.int .i64 0,.int .i64 0,.slice none 0 0]
theorem jq {w w1:World} {row:Option Nat} (h:w.grownBy w1 row) (g4 i:Nat) (v:Value) (hg:w.heap.size≤g4):w.grownBy (w1.setCell ⟨g4,i,none⟩ v) row :=
 ⟨h.os,h.tape,h.output,by simpa using h.size,fun k hk hne=>(Below.heap_setCell _ _ _ k (show k≠g4 by omega)).trans (h.block k hk hne)⟩
theorem jp {w:World} {g:Nat} {S:ByteArray} {op:Int} {ts:List Tok} (h:Reads w g S op ts) (b i:Nat) (v:Value) (h0:b≠g):Reads (w.setCell ⟨b,i,none⟩ v) g S op ts:=by
 obtain⟨a,n,hx,hl⟩:=h
 exact⟨a,n,Box.far hx (fun e=>h0 e.symm) v,hl⟩
abbrev kC (w:World) (g4:Nat) (k n:Int) (s:Value):World:=((w.setCell ⟨g4,0,none⟩ (.int .i64 k)).setCell ⟨g4,1,none⟩ (.int .i64 n)).setCell ⟨g4,2,none⟩ s
theorem zB {g:Nat} {S:ByteArray} {op:Int} {t:RE} {ts:List Tok} {w w1:World} {g4:Nat} {k n:Int} {A:Option Addr} {c:Nat} {ks:List RE} (hg4:w.heap.size=g4) (hgg:g<g4) (hr:Reads w1 g S op ts) (hg:w.grownBy w1 (some g)) (hs:Same (.node k n A c ks) t)
  (ha:ReAt w1 (fun b=>g4<b) w1.heap.size (.node k n A c ks)):qK g S op t ts w (.returned (.tuple #[.agg #[.int .i64 k,.int .i64 n,.slice A ks.length c],.bool true])) (kC w1 g4 k n (.slice A ks.length c)):=by
 refine⟨_,hs,rfl,?_,?_,?_⟩
 ·have h1:=ha.set_ g4 0 (.int .i64 k) (by omega)
  have h2:=h1.set_ g4 1 (.int .i64 n) (by omega)
  have h3:=h2.set_ g4 2 (.slice A ks.length c) (by omega)
  exact h3.more fun b hb _=>by omega
 ·exact jp (jp (jp hr g4 0 _ (by omega)) g4 1 _ (by omega)) g4 2 _ (by omega)
 ·exact jq (jq (jq hg g4 0 _ (by omega)) g4 1 _ (by omega)) g4 2 _ (by omega)
theorem jat (g:Nat) (S:ByteArray) (op:Int) (A:Option Addr) (c:Nat) (ts:List Tok) (w:World) (hS:S.size≤5000) (h:RdOk w g S op ([121]::ts)) :
  Calls Tryz.prog 179 #[.pointer (some ⟨g,0,none⟩)] w (qK g S op (.node 2 0 A c []) ts w):=by
 have HB0:=hD (ja w (Obj.cells jX 126))
 have HX0:=hD (Box.new w 126 jX)
 have HT:=hD (qZ g S op [121] ts _ (h.next HB0.out).rd hS)
 have hgl:=h.rd.lt
 unfold zr at HT
 clear h
 go_enter Tryz.func179,Tryz.ntmps179
 go_wp2_with fail
 refine HT.out.mono ?_
 rintro e w1 ⟨rfl,hr,hg⟩
 generalize hg4:w.heap.size=g4 at *
 have HG4:=hD hg4
 clear hg4
 have hx1:=HX0.out.grown hg (by simp;omega)
 have HR:=hD hr
 have HG:Hid (w.grownBy w1 (some g)):=World.grownBy.trans (jj (by rw[HG4.out];exact HB0.out)) hg
 have r0:w1.cell? ⟨g4,0,none⟩=some (.int .i64 0):=hx1.cell 0
 have r1:w1.cell? ⟨g4,1,none⟩=some (.int .i64 0):=hx1.cell 1
 have r2:w1.cell? ⟨g4,2,none⟩=some (.slice none 0 0):=hx1.cell 2
 have rf:∀i,w1.frozen? ⟨g4,i,none⟩=false:=fun i=>hx1.free i
 have rl:g4<w1.heap.size:=hx1.lt
 clear hr hg hx1 HX0 HB0 HT
 go_wp2_with fail
 refine bodyPost_ret (v:=.tuple #[.agg #[.int .i64 2,.int .i64 0,.slice none 0 0],.bool true]) (by simp[results,Tryz.results179,go_sem,r0,r1,r2]) rfl ?_
 exact zB (ks:=[]) HG4.out hgl HR.out HG.out (kM 2 0 none A 0 c [] [] rfl) (ReAt.leaf _ _ _ 2 0 0 (by unfold I64;omega) (by unfold I64;omega))
theorem jc1 (g:Nat) (S:ByteArray) (op:Int) (n:Int) (A:Option Addr) (c:Nat) (ts:List Tok) (w:World) (hS:S.size≤5000) (h1:0≤n) (h2:n≤2147483647) (h:RdOk w g S op (Lib.itoa n::ts)) :
  Calls Tryz.prog 179 #[.pointer (some ⟨g,0,none⟩)] w (qK g S op (.node 1 n A c []) ts w):=by
 have HB0:=hD (ja w (Obj.cells jX 126))
 have HX0:=hD (Box.new w 126 jX)
 have hn1:(Lib.itoa n::ts).headD []≠[121]:=fun e=>by
  have e':Lib.itoa n=[121]:=e
  have:=zi n h1 121 (by rw[e'];exact List.mem_cons_self ..)
  exact absurd this (by decide)
 have hn2:((zn (Lib.itoa n::ts)).toList==[40])=false:=by
  rw[beq_eq_false_iff_ne]
  unfold zn
  rw[jv]
  intro e'
  have e':Lib.itoa n=[40]:=e'
  have:=zi n h1 40 (by rw[e'];exact List.mem_cons_self ..)
  exact absurd this (by decide)
 have hn3:¬(zn (Lib.itoa n::ts)).toList=[40]:=by simpa using hn2
 have HT:=hD (vV g S op [121] (Lib.itoa n::ts) _ (h.next HB0.out).rd hS hn1)
 have HK:=hD (fun W (hr:Reads W g S op (Lib.itoa n::ts))=>zm g S op (Lib.itoa n::ts) W hr hS)
 have HN:=hD (fun W (hr:Reads W g S op (Lib.itoa n::ts))=>yF g S op n ts W hr hS h1 (by omega))
 have hgl:=h.rd.lt
 unfold zr at HT
 unfold yo at HN
 clear h hn1
 generalize zn (Lib.itoa n::ts)=tk0 at *
 go_enter Tryz.func179,Tryz.ntmps179
 go_wp2_with fail
 refine HT.out.mono ?_
 rintro e w1 ⟨rfl,hr,hg⟩
 generalize hg4:w.heap.size=g4 at *
 have HG4:=hD hg4
 clear hg4
 have HX1:=hD (HX0.out.grown hg (by simp;omega))
 have HR:=hD hr
 have HG:Hid (w.grownBy w1 (some g)):=World.grownBy.trans (jj (by rw[HG4.out];exact HB0.out)) hg
 clear hr hg HX0 HB0 HT
 go_wp2_with fail
 refine(HK.out w1 HR.out).mono ?_
 rintro e w2 ⟨rfl,m,rfl⟩
 have HR2:=hD (HR.out.drewN m)
 have HN2:=hD (HN.out _ HR2.out)
 go_wp2_with fail
 refine HN2.out.mono ?_
 rintro e w3 ⟨rfl,hr,hg⟩
 have hx3:=(HX1.out.drewN m).grown hg (by simp;omega)
 have HR3:=hD hr
 have HG3:Hid (w.grownBy w3 (some g)):=World.grownBy.trans HG.out (World.grownBy.trans (jj (jg w1 m)) hg)
 have r0:w3.cell? ⟨g4,0,none⟩=some (.int .i64 0):=hx3.cell 0
 have r1:w3.cell? ⟨g4,1,none⟩=some (.int .i64 0):=hx3.cell 1
 have r2:w3.cell? ⟨g4,2,none⟩=some (.slice none 0 0):=hx3.cell 2
 have rf:∀i,w3.frozen? ⟨g4,i,none⟩=false:=fun i=>hx3.free i
 have rl:g4<w3.heap.size:=hx3.lt
 clear hr hg hx3 HX1 HR HG HR2 HN2 HN HK
 go_wp2_with fail
 refine bodyPost_ret (v:=.tuple #[.agg #[.int .i64 1,.int .i64 n,.slice none 0 0],.bool true]) (by simp[results,Tryz.results179,go_sem,r0,r1,r2]) rfl ?_
 exact zB (ks:=[]) HG4.out hgl HR3.out HG3.out (kM 1 n none A 0 c [] [] rfl) (ReAt.leaf _ _ _ 1 n 0 (by unfold I64;omega) (by unfold I64;omega))
theorem jbi (g:Nat) (S:ByteArray) (op:Int) (t:RE) (ts:List Tok) (w:World) (hS:S.size≤5000) (h0:0≤op) (h12:op<12) (h:RdOk w g S op ([40]::(prT 0 t++[41]::ts)))
  (hI:∀W,RdOk W g S (op+1) (prT 0 t++[41]::ts)→Calls Tryz.prog 147 #[.pointer (some ⟨g,0,none⟩),.int .i64 0] W (qK g S (op+1) t ([41]::ts) W)) :
  Calls Tryz.prog 179 #[.pointer (some ⟨g,0,none⟩)] w (qK g S op t ts w):=by
 have HB0:=hD (ja w (Obj.cells jX 126))
 have HX0:=hD (Box.new w 126 jX)
 have HT:=hD (vV g S op [121] ([40]::(prT 0 t++[41]::ts)) _ (h.next HB0.out).rd hS (by show([40]:Tok)≠[121];decide))
 have HK:=hD (fun W (hr:Reads W g S op ([40]::(prT 0 t++[41]::ts)))=>zm g S op ([40]::(prT 0 t++[41]::ts)) W hr hS)
 rw[show zn ([40]::(prT 0 t++[41]::ts))=⟨#[40]⟩ from rfl] at HK
 have HSC:=hD (fun W (hr:Reads W g S (op+1) ([40]::(prT 0 t++[41]::ts)))=>vQ g S (op+1) [40] (prT 0 t++[41]::ts) W hr hS)
 have HE:=hD hI
 have HT2:=hD (fun W (hr:Reads W g S (op+1) ([41]::ts))=>qZ g S (op+1) [41] ts W hr hS)
 have hgl:=h.rd.lt
 have t12:decide (12<op+1)=false:=decide_eq_false (by omega)
 have HOK:=hD h
 unfold zr at HT HT2
 clear h hI
 go_enter Tryz.func179,Tryz.ntmps179
 go_wp2_with fail
 refine HT.out.mono ?_
 rintro e w1 ⟨rfl,hr,hg⟩
 generalize hg4:w.heap.size=g4 at *
 have HG4:=hD hg4
 clear hg4
 have HX1:=hD (HX0.out.grown hg (by simp;omega))
 have HR1:=hD hr
 have HG1:Hid (w.grownBy w1 (some g)):=World.grownBy.trans (jj (by rw[HG4.out];exact HB0.out)) hg
 clear hr hg HX0 HB0 HT
 go_wp2_with fail
 refine(HK.out w1 HR1.out).mono ?_
 rintro e w2 ⟨rfl,m,rfl⟩
 obtain⟨o1,o2⟩:=je6 (HR1.out.drewN m)
 have ol:g<(w1.drewN m).heap.size:=(HR1.out.drewN m).lt
 have HX2:=hD (Box.far (HX1.out.drewN m) (p:=⟨g,3,none⟩) (by show g4≠g;omega) (.int .i64 (op+1)))
 have HR2:=hD (Yp (HR1.out.drewN m) (op+1))
 have HG2:Hid (w.grownBy ((w1.drewN m).setCell ⟨g,3,none⟩ (.int .i64 (op+1))) (some g)):=World.grownBy.trans HG1.out (World.grownBy.trans (jj (jg w1 m)) (xT _ g 3 _))
 clear HX1 HR1 HG1 HK
 have HS2:=hD (HSC.out _ HR2.out)
 clear HSC
 go_wp2_with fail
 refine HS2.out.mono ?_
 rintro e w3 ⟨rfl,hr,hg⟩
 have HX3:=hD (HX2.out.grown hg (by simp;omega))
 have HG3:Hid (w.grownBy w3 (some g)):=World.grownBy.trans HG2.out hg
 have HE3:=hD (HE.out w3 (HOK.out.go HG3.out hr))
 have hs3:g4<w3.heap.size:=HX3.out.lt
 clear hr hg HX2 HR2 HG2 HS2 HE o1 o2 ol
 go_wp2_with fail
 refine HE3.out.mono ?_
 rintro e w4 ⟨t',hs,rfl,ha,hr,hg⟩
 cases t' with
 | node k n A c ks =>
 rw[show reV (.node k n A c ks) = .agg #[.int .i64 k,.int .i64 n,.slice A ks.length c] from rfl]
 have HSM:=hD hs
 have HX4:=hD (HX3.out.grown hg (by simp;omega))
 have HR4:=hD hr
 have HG4b:Hid (w.grownBy w4 (some g)):=World.grownBy.trans HG3.out hg
 have hsz:g4<w4.heap.size:=HX4.out.lt
 have HA4:=hD (ha.more (p':=fun b=>g4<b∧b<w4.heap.size) fun b hb hB=>⟨by omega,hB⟩)
 clear hs ha hr hg HX3 HE3
 have HB5:=hD (ja w4 (Obj.cells #[.int .i64 k,.int .i64 n,.slice A ks.length c] 126))
 have HX5:=hD (HX4.out.alloc (Obj.cells #[.int .i64 k,.int .i64 n,.slice A ks.length c] 126))
 have HY5:=hD (Box.new w4 126 #[.int .i64 k,.int .i64 n,.slice A ks.length c])
 have HR5:=hD (HR4.out.next HB5.out)
 have HG5:Hid (w.grownBy (w4.alloc (Obj.cells #[.int .i64 k,.int .i64 n,.slice A ks.length c] 126)) (some g)):=World.grownBy.trans HG4b.out (jj HB5.out)
 have HA5:Hid (ReAt (w4.alloc (Obj.cells #[.int .i64 k,.int .i64 n,.slice A ks.length c] 126)) (fun b=>g4<b∧b<w4.heap.size) (w4.alloc (Obj.cells #[.int .i64 k,.int .i64 n,.slice A ks.length c] 126)).heap.size (.node k n A c ks)):=HA4.out.next HB5.out
 clear HX4 HR4 HG4b HA4 HB5
 have HT5:=hD (HT2.out _ HR5.out)
 clear HT2
 go_wp2_with fail
 generalize w4.alloc (Obj.cells #[.int .i64 k,.int .i64 n,.slice A ks.length c] 126)=W5 at *
 generalize w4.heap.size=g6 at *
 refine HT5.out.mono ?_
 rintro e w6 ⟨rfl,hr,hg⟩
 obtain⟨o1,o2⟩:=je6 hr
 have ol:g<w6.heap.size:=hr.lt
 have hx6:=HX5.out.grown hg (by simp;omega)
 have hy6:=HY5.out.grown hg (by simp;omega)
 have HA6:Hid (ReAt w6 (fun b=>g4<b∧b<g6) w6.heap.size (.node k n A c ks)):=HA5.out.grown hg (fun b hb=>by simp;omega)
 have HX7:=hD (Box.far hx6 (p:=⟨g,3,none⟩) (by show g4≠g;omega) (.int .i64 op))
 have HY7:=hD (Box.far hy6 (p:=⟨g,3,none⟩) (by show g6≠g;omega) (.int .i64 op))
 have HR7:=hD (Yp hr op)
 have HG7:Hid (w.grownBy (w6.setCell ⟨g,3,none⟩ (.int .i64 op)) (some g)):=World.grownBy.trans HG5.out (World.grownBy.trans hg (xT _ g 3 _))
 have HA7:=hD (HA6.out.set_ g 3 (.int .i64 op) (by omega))
 have y0:w6.cell? ⟨g6,0,none⟩=some (.int .i64 k):=hy6.cell 0
 have y1:w6.cell? ⟨g6,1,none⟩=some (.int .i64 n):=hy6.cell 1
 have y2:w6.cell? ⟨g6,2,none⟩=some (.slice A ks.length c):=hy6.cell 2
 have yl:g6<w6.heap.size:=hy6.lt
 have r0:w6.cell? ⟨g4,0,none⟩=some (.int .i64 0):=hx6.cell 0
 have r1:w6.cell? ⟨g4,1,none⟩=some (.int .i64 0):=hx6.cell 1
 have r2:w6.cell? ⟨g4,2,none⟩=some (.slice none 0 0):=hx6.cell 2
 have rf:∀i,w6.frozen? ⟨g4,i,none⟩=false:=fun i=>hx6.free i
 have rl:g4<w6.heap.size:=hx6.lt
 have hoo:op+1-1=op:=by omega
 clear hr hg hx6 hy6 HX5 HY5 HR5 HG5 HA5 HT5 HA6
 go_wp2_with fail
 refine bodyPost_ret (v:=.tuple #[.agg #[.int .i64 k,.int .i64 n,.slice A ks.length c],.bool true]) (by simp[results,Tryz.results179,go_sem,r0,r1,r2]) rfl ?_
 exact zB HG4.out hgl HR7.out HG7.out HSM.out (HA7.out.more fun b hb _=>hb.1)
theorem Qq {g:Nat} {S:ByteArray} {op:Int} {a x:RE} {ts:List Tok} {w W5:World} {g4:Nat} {k:Int} {A0:Option Addr} {c0:Nat} (hg4:w.heap.size=g4) (hgg:g<g4) (hgs:g4<W5.heap.size) (hr:Reads W5 g S op ts) (hg:w.grownBy W5 (some g)) (hs:Same x a)
  (ha:ReAt W5 (fun b=>g4<b) W5.heap.size x) (hk:I64 k):qK g S op (.node k 0 A0 c0 [a]) ts w (.returned (.tuple #[.agg #[.int .i64 k,.int .i64 0,.slice (some ⟨W5.heap.size,0,none⟩) 1 1],.bool true])) ((kC W5 g4 k 0 (.slice (some ⟨W5.heap.size,0,none⟩) 1 1)).alloc (.cells (reC x) 126)):=by
 have hsz:(kC W5 g4 k 0 (.slice (some ⟨W5.heap.size,0,none⟩) 1 1)).heap.size=W5.heap.size:=by simp[kC]
 have h1:=ha.set_ g4 0 (.int .i64 k) (by omega)
 have h2:=h1.set_ g4 1 (.int .i64 0) (by omega)
 have h3:=h2.set_ g4 2 (.slice (some ⟨W5.heap.size,0,none⟩) 1 1) (by omega)
 have hb:=ja (kC W5 g4 k 0 (.slice (some ⟨W5.heap.size,0,none⟩) 1 1)) (Obj.cells (reC x) 126)
 have hbx:=Box.new (kC W5 g4 k 0 (.slice (some ⟨W5.heap.size,0,none⟩) 1 1)) 126 (reC x)
 rw[hsz] at hbx
 refine⟨.node k 0 (some ⟨W5.heap.size,0,none⟩) 1 [x],kM _ _ _ _ _ _ _ _ (by simp only[List.map_cons,List.map_nil];rw[show jE x=jE a from hs]),rfl,?_,?_,?_⟩
 ·exact((h3.next hb).one hbx (show g4<W5.heap.size from hgs) hk (by unfold I64;omega)).more fun b hb' _=>by omega
 ·exact(jp (jp (jp hr g4 0 _ (by omega)) g4 1 _ (by omega)) g4 2 _ (by omega)).next hb
 ·exact World.grownBy.trans (jq (jq (jq hg g4 0 _ (by omega)) g4 1 _ (by omega)) g4 2 _ (by omega)) (jj hb)
theorem ja8 (g:Nat) (S:ByteArray) (op:Int) (a:RE) (A0:Option Addr) (c0:Nat) (ts:List Tok) (w:World) (hS:S.size≤5000) (h:RdOk w g S op ([110,111,116]::(prT 2 a++ts)))
  (hI:∀W,RdOk W g S op (prT 2 a++ts)→Calls Tryz.prog 147 #[.pointer (some ⟨g,0,none⟩),.int .i64 2] W (qK g S op a ts W)) :
  Calls Tryz.prog 147 #[.pointer (some ⟨g,0,none⟩),.int .i64 2] w (qK g S op (.node 11 0 A0 c0 [a]) ts w):=by
 have HB0:=hD (ja w (Obj.cells jX 126))
 have HX0:=hD (Box.new w 126 jX)
 have HT:=hD (qZ g S op [110,111,116] (prT 2 a++ts) _ (h.next HB0.out).rd hS)
 have HE:=hD hI
 have hgl:=h.rd.lt
 have HOK:=hD h
 unfold zr at HT
 clear h hI
 go_enter Tryz.func147,Tryz.ntmps147
 go_wp2_with fail
 refine HT.out.mono ?_
 rintro e w1 ⟨rfl,hr,hg⟩
 generalize hg4:w.heap.size=g4 at *
 have HG4:=hD hg4
 clear hg4
 have HX1:=hD (HX0.out.grown hg (by simp;omega))
 have HG1:Hid (w.grownBy w1 (some g)):=World.grownBy.trans (jj (by rw[HG4.out];exact HB0.out)) hg
 have HE1:=hD (HE.out w1 (HOK.out.go HG1.out hr))
 have hs1:g4<w1.heap.size:=HX1.out.lt
 clear hr hg HX0 HB0 HT HE
 go_wp2_with fail
 refine HE1.out.mono ?_
 rintro e w4 ⟨t',hs,rfl,ha,hr,hg⟩
 cases t' with
 | node k n A c ks =>
 rw[show reV (.node k n A c ks) = .agg #[.int .i64 k,.int .i64 n,.slice A ks.length c] from rfl]
 have HSM:=hD hs
 have HX4:=hD (HX1.out.grown hg (by simp;omega))
 have HR4:=hD hr
 have HG4b:Hid (w.grownBy w4 (some g)):=World.grownBy.trans HG1.out hg
 have hsz:g4<w4.heap.size:=HX4.out.lt
 have HA4:=hD (ha.more (p':=fun b=>g4<b) fun b hb hB=>by omega)
 clear hs ha hr hg HX1 HE1
 go_upto_region 6 with fail
 have HB5:=hD (ja w4 (Obj.cells #[.int .i64 k,.int .i64 n,.slice A ks.length c] 126))
 have hx5:=HX4.out.alloc (Obj.cells #[.int .i64 k,.int .i64 n,.slice A ks.length c] 126)
 have hy5:=Box.new w4 126 #[.int .i64 k,.int .i64 n,.slice A ks.length c]
 have HR5:=hD (HR4.out.next HB5.out)
 have HG5:Hid (w.grownBy (w4.alloc (Obj.cells #[.int .i64 k,.int .i64 n,.slice A ks.length c] 126)) (some g)):=World.grownBy.trans HG4b.out (jj HB5.out)
 have HA5:=hD (HA4.out.next HB5.out)
 clear HX4 HR4 HG4b HA4 HB5
 generalize w4.alloc (Obj.cells #[.int .i64 k,.int .i64 n,.slice A ks.length c] 126)=W5 at *
 generalize w4.heap.size=g6 at *
 have y0:W5.cell? ⟨g6,0,none⟩=some (.int .i64 k):=hy5.cell 0
 have y1:W5.cell? ⟨g6,1,none⟩=some (.int .i64 n):=hy5.cell 1
 have y2:W5.cell? ⟨g6,2,none⟩=some (.slice A ks.length c):=hy5.cell 2
 have yl:g6<W5.heap.size:=hy5.lt
 have r0:W5.cell? ⟨g4,0,none⟩=some (.int .i64 0):=hx5.cell 0
 have r1:W5.cell? ⟨g4,1,none⟩=some (.int .i64 0):=hx5.cell 1
 have r2:W5.cell? ⟨g4,2,none⟩=some (.slice none 0 0):=hx5.cell 2
 have rf:∀i,W5.frozen? ⟨g4,i,none⟩=false:=fun i=>hx5.free i
 have rl:g4<W5.heap.size:=hx5.lt
 clear hx5 hy5
 go_wp2_with fail
 refine bodyPost_ret (v:=.tuple #[.agg #[.int .i64 11,.int .i64 0,.slice (some ⟨W5.heap.size,0,none⟩) 1 1],.bool true]) (by simp[results,Tryz.results147,go_sem,r0,r1,r2,rl]) rfl ?_
 exact Qq HG4.out hgl rl HR5.out HG5.out HSM.out HA5.out (by unfold I64;omega)
theorem jdo (g:Nat) (S:ByteArray) (op:Int) (a:RE) (A0:Option Addr) (c0:Nat) (ts:List Tok) (w:World) (hS:S.size≤5000) (h:RdOk w g S op ([45]::(prT 6 a++ts)))
  (hI:∀W,RdOk W g S op (prT 6 a++ts)→Calls Tryz.prog 147 #[.pointer (some ⟨g,0,none⟩),.int .i64 6] W (qK g S op a ts W)) :
  Calls Tryz.prog 147 #[.pointer (some ⟨g,0,none⟩),.int .i64 6] w (qK g S op (.node 3 0 A0 c0 [a]) ts w):=by
 have HB0:=hD (ja w (Obj.cells jX 126))
 have HX0:=hD (Box.new w 126 jX)
 have HT:=hD (qZ g S op [45] (prT 6 a++ts) _ (h.next HB0.out).rd hS)
 have HE:=hD hI
 have hgl:=h.rd.lt
 have HOK:=hD h
 unfold zr at HT
 clear h hI
 go_enter Tryz.func147,Tryz.ntmps147
 go_wp2_with fail
 refine HT.out.mono ?_
 rintro e w1 ⟨rfl,hr,hg⟩
 generalize hg4:w.heap.size=g4 at *
 have HG4:=hD hg4
 clear hg4
 have HX1:=hD (HX0.out.grown hg (by simp;omega))
 have HG1:Hid (w.grownBy w1 (some g)):=World.grownBy.trans (jj (by rw[HG4.out];exact HB0.out)) hg
 have HE1:=hD (HE.out w1 (HOK.out.go HG1.out hr))
 have hs1:g4<w1.heap.size:=HX1.out.lt
 clear hr hg HX0 HB0 HT HE
 go_wp2_with fail
 refine HE1.out.mono ?_
 rintro e w4 ⟨t',hs,rfl,ha,hr,hg⟩
 cases t' with
 | node k n A c ks =>
 rw[show reV (.node k n A c ks) = .agg #[.int .i64 k,.int .i64 n,.slice A ks.length c] from rfl]
 have HSM:=hD hs
 have HX4:=hD (HX1.out.grown hg (by simp;omega))
 have HR4:=hD hr
 have HG4b:Hid (w.grownBy w4 (some g)):=World.grownBy.trans HG1.out hg
 have hsz:g4<w4.heap.size:=HX4.out.lt
 have HA4:=hD (ha.more (p':=fun b=>g4<b) fun b hb hB=>by omega)
 clear hs ha hr hg HX1 HE1
 go_upto_region 11 with fail
 have HB5:=hD (ja w4 (Obj.cells #[.int .i64 k,.int .i64 n,.slice A ks.length c] 126))
 have hx5:=HX4.out.alloc (Obj.cells #[.int .i64 k,.int .i64 n,.slice A ks.length c] 126)
 have hy5:=Box.new w4 126 #[.int .i64 k,.int .i64 n,.slice A ks.length c]
 have HR5:=hD (HR4.out.next HB5.out)
 have HG5:Hid (w.grownBy (w4.alloc (Obj.cells #[.int .i64 k,.int .i64 n,.slice A ks.length c] 126)) (some g)):=World.grownBy.trans HG4b.out (jj HB5.out)
 have HA5:=hD (HA4.out.next HB5.out)
 clear HX4 HR4 HG4b HA4 HB5
 generalize w4.alloc (Obj.cells #[.int .i64 k,.int .i64 n,.slice A ks.length c] 126)=W5 at *
 generalize w4.heap.size=g6 at *
 have y0:W5.cell? ⟨g6,0,none⟩=some (.int .i64 k):=hy5.cell 0
 have y1:W5.cell? ⟨g6,1,none⟩=some (.int .i64 n):=hy5.cell 1
 have y2:W5.cell? ⟨g6,2,none⟩=some (.slice A ks.length c):=hy5.cell 2
 have yl:g6<W5.heap.size:=hy5.lt
 have r0:W5.cell? ⟨g4,0,none⟩=some (.int .i64 0):=hx5.cell 0
 have r1:W5.cell? ⟨g4,1,none⟩=some (.int .i64 0):=hx5.cell 1
 have r2:W5.cell? ⟨g4,2,none⟩=some (.slice none 0 0):=hx5.cell 2
 have rf:∀i,W5.frozen? ⟨g4,i,none⟩=false:=fun i=>hx5.free i
 have rl:g4<W5.heap.size:=hx5.lt
 clear hx5 hy5
 go_wp2_with fail
 refine bodyPost_ret (v:=.tuple #[.agg #[.int .i64 3,.int .i64 0,.slice (some ⟨W5.heap.size,0,none⟩) 1 1],.bool true]) (by simp[results,Tryz.results147,go_sem,r0,r1,r2,rl]) rfl ?_
 exact Qq HG4.out hgl rl HR5.out HG5.out HSM.out HA5.out (by unfold I64;omega)
theorem jcv (g:Nat) (S:ByteArray) (op:Int) (t:RE) (tk0:List Tok) (ts:List Tok) (w:World) (hS:S.size≤5000) (h:RdOk w g S op tk0) (hne:tk0.headD []≠[110,111,116])
  (hI:∀W,RdOk W g S op tk0→Calls Tryz.prog 147 #[.pointer (some ⟨g,0,none⟩),.int .i64 3] W (qK g S op t ts W)) :
  Calls Tryz.prog 147 #[.pointer (some ⟨g,0,none⟩),.int .i64 2] w (qK g S op t ts w):=by
 have HB0:=hD (ja w (Obj.cells jX 126))
 have HX0:=hD (Box.new w 126 jX)
 have HT:=hD (vV g S op [110,111,116] tk0 _ (h.next HB0.out).rd hS hne)
 have HE:=hD hI
 have hgl:=h.rd.lt
 have HOK:=hD h
 unfold zr at HT
 clear h hI hne
 go_enter Tryz.func147,Tryz.ntmps147
 go_wp2_with fail
 refine HT.out.mono ?_
 rintro e w1 ⟨rfl,hr,hg⟩
 generalize hg4:w.heap.size=g4 at *
 have HG4:=hD hg4
 clear hg4
 have HX1:=hD (HX0.out.grown hg (by simp;omega))
 have HG1:Hid (w.grownBy w1 (some g)):=World.grownBy.trans (jj (by rw[HG4.out];exact HB0.out)) hg
 have HE1:=hD (HE.out w1 (HOK.out.go HG1.out hr))
 have hs1:g4<w1.heap.size:=HX1.out.lt
 clear hr hg HX0 HB0 HT HE
 go_wp2_with fail
 refine HE1.out.mono ?_
 rintro e w4 ⟨t',hs,rfl,ha,hr,hg⟩
 cases t' with
 | node k n A c ks =>
 rw[show reV (.node k n A c ks) = .agg #[.int .i64 k,.int .i64 n,.slice A ks.length c] from rfl]
 have HSM:=hD hs
 have hx4:=HX1.out.grown hg (by simp;omega)
 have HR4:=hD hr
 have HG4b:Hid (w.grownBy w4 (some g)):=World.grownBy.trans HG1.out hg
 have HA4:=hD (ha.more (p':=fun b=>g4<b) fun b hb hB=>by omega)
 have r0:w4.cell? ⟨g4,0,none⟩=some (.int .i64 0):=hx4.cell 0
 have r1:w4.cell? ⟨g4,1,none⟩=some (.int .i64 0):=hx4.cell 1
 have r2:w4.cell? ⟨g4,2,none⟩=some (.slice none 0 0):=hx4.cell 2
 have rf:∀i,w4.frozen? ⟨g4,i,none⟩=false:=fun i=>hx4.free i
 have rl:g4<w4.heap.size:=hx4.lt
 clear hs ha hr hg HX1 HE1 hx4
 go_wp2_with fail
 refine bodyPost_ret (v:=.tuple #[.agg #[.int .i64 k,.int .i64 n,.slice A ks.length c],.bool true]) (by simp[results,Tryz.results147,go_sem,r0,r1,r2]) rfl ?_
 exact zB HG4.out hgl HR4.out HG4b.out HSM.out HA4.out
theorem jbW (g:Nat) (S:ByteArray) (op:Int) (t:RE) (tk0:List Tok) (ts:List Tok) (w:World) (hS:S.size≤5000) (h:RdOk w g S op tk0) (hne:tk0.headD []≠[45])
  (hI:∀W,RdOk W g S op tk0→Calls Tryz.prog 179 #[.pointer (some ⟨g,0,none⟩)] W (qK g S op t ts W)) :
  Calls Tryz.prog 147 #[.pointer (some ⟨g,0,none⟩),.int .i64 6] w (qK g S op t ts w):=by
 have HB0:=hD (ja w (Obj.cells jX 126))
 have HX0:=hD (Box.new w 126 jX)
 have HT:=hD (vV g S op [45] tk0 _ (h.next HB0.out).rd hS hne)
 have HE:=hD hI
 have hgl:=h.rd.lt
 have HOK:=hD h
 unfold zr at HT
 clear h hI hne
 go_enter Tryz.func147,Tryz.ntmps147
 go_wp2_with fail
 refine HT.out.mono ?_
 rintro e w1 ⟨rfl,hr,hg⟩
 generalize hg4:w.heap.size=g4 at *
 have HG4:=hD hg4
 clear hg4
 have HX1:=hD (HX0.out.grown hg (by simp;omega))
 have HG1:Hid (w.grownBy w1 (some g)):=World.grownBy.trans (jj (by rw[HG4.out];exact HB0.out)) hg
 have HE1:=hD (HE.out w1 (HOK.out.go HG1.out hr))
 have hs1:g4<w1.heap.size:=HX1.out.lt
 clear hr hg HX0 HB0 HT HE
 go_wp2_with fail
 refine HE1.out.mono ?_
 rintro e w4 ⟨t',hs,rfl,ha,hr,hg⟩
 cases t' with
 | node k n A c ks =>
 rw[show reV (.node k n A c ks) = .agg #[.int .i64 k,.int .i64 n,.slice A ks.length c] from rfl]
 have HSM:=hD hs
 have hx4:=HX1.out.grown hg (by simp;omega)
 have HR4:=hD hr
 have HG4b:Hid (w.grownBy w4 (some g)):=World.grownBy.trans HG1.out hg
 have HA4:=hD (ha.more (p':=fun b=>g4<b) fun b hb hB=>by omega)
 have r0:w4.cell? ⟨g4,0,none⟩=some (.int .i64 0):=hx4.cell 0
 have r1:w4.cell? ⟨g4,1,none⟩=some (.int .i64 0):=hx4.cell 1
 have r2:w4.cell? ⟨g4,2,none⟩=some (.slice none 0 0):=hx4.cell 2
 have rf:∀i,w4.frozen? ⟨g4,i,none⟩=false:=fun i=>hx4.free i
 have rl:g4<w4.heap.size:=hx4.lt
 clear hs ha hr hg HX1 HE1 hx4
 go_wp2_with fail
 refine bodyPost_ret (v:=.tuple #[.agg #[.int .i64 k,.int .i64 n,.slice A ks.length c],.bool true]) (by simp[results,Tryz.results147,go_sem,r0,r1,r2]) rfl ?_
 exact zB HG4.out hgl HR4.out HG4b.out HSM.out HA4.out
structure BinSt (g g4 g10:Nat) (S:ByteArray) (op:Int) (L:Nat) (t:RE) (ts:List Tok) (w wr:World) (rem:List (Int×RE)) (xt:RE):Prop where
 b4:Box wr g4 126 jX
 b10:Box wr g10 126 (reC xt)
 at_:ReAt wr (fun b=>g4<b∧b≠g10) wr.heap.size xt
 rd:Reads wr g S op (qJ L rem++ts)
 gr:w.grownBy wr (some g)
 sh:xX (jE xt) rem=jE t
 one:L=3→rem.length≤1
def Kc (g:Nat) (S:ByteArray) (w:World):Nat:=(qD (S.data.toList.drop (match w.cell? ⟨g,2,none⟩ with|some (.int _ n)=>n.toNat|_=>0))).length
theorem XX {w:World} {g:Nat} {S:ByteArray} {op:Int} {ts:List Tok} (h:Reads w g S op ts):Kc g S w=ts.tail.length:=by
 obtain⟨a,n,hx,hl⟩:=h
 have e:w.cell? ⟨g,2,none⟩=some (.int .i64 (n:Int)):=Box.cell hx 2
 unfold Kc
 rw[e]
 simp only[Int.toNat_natCast]
 rw[hl.rest]
theorem Z8 (L:Nat) (rem:List (Int×RE)) (ts:List Tok) (hok:∀p∈rem,jT p.1∧lev p.1=L) (h:Good L ts):Good (L+1) (qJ L rem++ts):=by
 cases rem with
 | nil=>exact h.more (by omega)
 | cons p r =>
  obtain⟨h1,h2⟩:=hok p (List.mem_cons_self ..)
  exact jdr p.1 h1 L h2 _
theorem Kk (L:Nat) (p:Int×RE) (r:List (Int×RE)) (ts:List Tok):qJ L (p::r)++ts=sgn p.1::(prT (L+1) p.2++(qJ L r++ts)):=by
 simp[qJ]
theorem jfB (ts:List Tok) (L:Nat) (hL:L<8) (w:World) (hs:Sgs w) (hv:Lvs w) (h:Good L ts):Calls Tryz.prog 180 #[.string (zn ts),.int .i64 (L:Int)] w fun e w'=>e = .returned (.tuple #[.int .i64 0,.bool false])∧w=w':=by
 refine(J8 (ts.headD []) L hL w hs hv).mono ?_
 rintro e w' h'
 unfold YT at h'
 rw[jen ts L h] at h'
 exact h'
theorem jfq (k:Int) (hk:jT k) (L:Nat) (hl:lev k=L) (hL:L<8) (w:World) (hs:Sgs w) (hv:Lvs w):Calls Tryz.prog 180 #[.string (str (sgn k)),.int .i64 (L:Int)] w fun e w'=>e = .returned (.tuple #[.int .i64 k,.bool true])∧w=w':=by
 refine(J8 (sgn k) L hL w hs hv).mono ?_
 rintro e w' h'
 unfold YT at h'
 rw[jeY k hk L hl] at h'
 have hkn:((k.toNat:Nat):Int)=k:=by unfold jT at hk;omega
 simp only[hkn] at h'
 exact h'
theorem jbP {g g4 g10:Nat} {S:ByteArray} {op:Int} {L:Nat} {t:RE} {ts:List Tok} {w W8:World} {rem:List (Int×RE)} {xt y:RE} {kp k n:Int} {s:Value} (h4:Box W8 g4 126 jX) (h10:Box W8 g10 126 #[.int .i64 k,.int .i64 n,s])
  (hx:ReAt W8 (fun b=>g4<b∧b≠g10) W8.heap.size xt) (hy:ReAt W8 (fun b=>g4<b∧b≠g10) W8.heap.size y) (hr:Reads W8 g S op (qJ L rem++ts)) (hg:w.grownBy W8 (some g)) (e1:g<g4) (e2:g4<g10) (e3:w.heap.size≤g4) (hk:I64 kp)
  (sh:xX (.node kp 0 none 0 [jE xt,jE y]) rem=jE t) (one:L=3→rem.length≤1) :
  BinSt g g4 g10 S op L t ts w ((kC W8 g10 kp 0 (.slice (some ⟨W8.heap.size,0,none⟩) 2 2)).alloc (.cells (reF xt++reF y).toArray 126)) rem (.node kp 0 (some ⟨W8.heap.size,0,none⟩) 2 [xt,y]):=by
 have hl10:=h10.lt
 have hsz:(kC W8 g10 kp 0 (.slice (some ⟨W8.heap.size,0,none⟩) 2 2)).heap.size=W8.heap.size:=by simp[kC]
 have hb:=ja (kC W8 g10 kp 0 (.slice (some ⟨W8.heap.size,0,none⟩) 2 2)) (Obj.cells (reF xt++reF y).toArray 126)
 have hbx:=Box.new (kC W8 g10 kp 0 (.slice (some ⟨W8.heap.size,0,none⟩) 2 2)) 126 (reF xt++reF y).toArray
 rw[hsz] at hbx
 have hset:∀{z:RE},ReAt W8 (fun b=>g4<b∧b≠g10) W8.heap.size z→ReAt (kC W8 g10 kp 0 (.slice (some ⟨W8.heap.size,0,none⟩) 2 2)) (fun b=>g4<b∧b≠g10) (kC W8 g10 kp 0 (.slice (some ⟨W8.heap.size,0,none⟩) 2 2)).heap.size z:=fun h=>((h.set_ g10 0 _ (by simp)).set_ g10 1 _ (by simp)).set_ g10 2 _ (by simp)
 refine⟨?_,?_,?_,?_,?_,?_,one⟩
 ·exact(Box.far (Box.far (Box.far h4 (by show g4≠g10;omega) _) (by show g4≠g10;omega) _) (by show g4≠g10;omega) _).alloc _
 ·exact(((h10.set_ 0 (.int .i64 kp)).set_ 1 (.int .i64 0)).set_ 2 (.slice (some ⟨W8.heap.size,0,none⟩) 2 2)).alloc _
 ·exact((hset hx).next hb).two ((hset hy).next hb) hbx ⟨by omega,by omega⟩ hk (by unfold I64;omega)
 ·exact(jp (jp (jp hr g10 0 _ (by omega)) g10 1 _ (by omega)) g10 2 _ (by omega)).next hb
 ·exact World.grownBy.trans (jq (jq (jq hg g10 0 _ (by omega)) g10 1 _ (by omega)) g10 2 _ (by omega)) (jj hb)
 ·rw[qL];exact sh
theorem jbf (g:Nat) (S:ByteArray) (op:Int) (L:Nat) (hL:L=0∨L=1∨L=3∨L=4∨L=5) (t x:RE) (X:List Tok) (ps:List (Int×RE)) (hokp:∀p∈ps,jT p.1∧lev p.1=L∧ReOk p.2) (hsh:xX (jE x) ps=jE t) (hone:L=3→ps.length≤1) (ts:List Tok) (w:World) (hS:S.size≤5000) (hw:RdOk w g S op (X++(qJ L ps++ts))) (hgd:Good L ts)
  (hI0:∀W r,Good (L+1) r→RdOk W g S op (X++r)→Calls Tryz.prog 147 #[.pointer (some ⟨g,0,none⟩),.int .i64 ((L:Int)+1)] W (qK g S op x r W))
  (hIy:∀p∈ps,∀W r,Good (L+1) r→RdOk W g S op (prT (L+1) p.2++r)→Calls Tryz.prog 147 #[.pointer (some ⟨g,0,none⟩),.int .i64 ((L:Int)+1)] W (qK g S op p.2 r W)) :
  Calls Tryz.prog 147 #[.pointer (some ⟨g,0,none⟩),.int .i64 (L:Int)] w (qK g S op t ts w):=by
 have HB0:=hD (ja w (Obj.cells jX 126))
 have HX0:=hD (Box.new w 126 jX)
 have HOKP:=hD hokp
 have hg0:=Z8 L ps ts (fun p hp=>⟨(hokp p hp).1,(hokp p hp).2.1⟩) hgd
 have HE:=hD (hI0 _ _ hg0 (hw.next HB0.out))
 have HEY:=hD hIy
 have hgl:=hw.rd.lt
 have HOK:=hD hw
 have HGD:=hD hgd
 have HC1:=hD hsh
 have HC2:=hD hone
 have hL8:L≤5:=by omega
 have l2:((L:Int)==2)=false:=by rw[beq_eq_false_iff_ne];omega
 have l6:((L:Int)==6)=false:=by rw[beq_eq_false_iff_ne];omega
 clear hw hI0 hIy hsh hone hokp hg0 hgd
 go_enter Tryz.func147,Tryz.ntmps147
 go_wp2_with fail
 refine HE.out.mono ?_
 rintro e w1 ⟨x',hs,rfl,ha,hr,hg⟩
 cases x' with
 | node k n A c ks =>
 rw[show reV (.node k n A c ks) = .agg #[.int .i64 k,.int .i64 n,.slice A ks.length c] from rfl]
 generalize hg4:w.heap.size=g4 at *
 have HG4:=hD hg4
 clear hg4
 have hsz0:(w.alloc (Obj.cells jX 126)).heap.size=g4+1:=by simp;exact HG4.out
 have hx1:=HX0.out.grown hg (by simp;omega)
 have hg1:w.grownBy w1 (some g):=World.grownBy.trans (jj (by rw[HG4.out];exact HB0.out)) hg
 have hal:=ja w1 (Obj.cells #[.int .i64 k,.int .i64 n,.slice A ks.length c] 126)
 have HST:Hid (BinSt g g4 w1.heap.size S op L t ts w (w1.alloc (Obj.cells #[.int .i64 k,.int .i64 n,.slice A ks.length c] 126)) ps (.node k n A c ks)) :=
  ⟨hx1.alloc _,Box.new _ _ _,(ha.more (p':=fun b=>g4<b∧b≠w1.heap.size) fun b hb hB=>⟨by omega,by omega⟩).next hal,hr.next hal,World.grownBy.trans hg1 (jj hal),by rw[show jE (.node k n A c ks)=jE x from hs];exact HC1.out,HC2.out⟩
 have hs1:g4<w1.heap.size:=hx1.lt
 clear hsz0 hx1 hg1 hal hs ha hr hg HX0 HB0 HE HC1 HC2
 go_wp2_with fail
 have HOP:=hD (fun p (hp:p∈ps)=>(⟨(HOKP.out p hp).1,(HOKP.out p hp).2.1⟩:jT p.1∧lev p.1=L))
 have HMEM:Hid (∀p∈ps,p∈ps):=fun p hp=>hp
 generalize w1.alloc (Obj.cells #[.int .i64 k,.int .i64 n,.slice A ks.length c] 126)=W2 at *
 generalize w1.heap.size=g10 at *
 go_loopw [11,12,13,14] (fun iv _ _ _ wr=>∃(rem:List (Int×RE)) (xt:RE),iv = .bool true∧Hid (∀p∈rem,p∈ps)∧Hid (BinSt g g4 g10 S op L t ts w wr rem xt)) (fun _ _ _ _ wr=>Kc g S wr)
 case atStart=>exact⟨ps,_,rfl,HMEM,HST⟩
 case round =>
  clear HST HMEM
  obtain⟨rem,xt,rfl,hmem,hst⟩:=hrel
  cases rem with
  | nil =>
   have HK:=hD (zm g S op ts wr (by have:=hst.out.rd;simpa[qJ] using this) hS)
   have HBI:=hD (fun W hs hv=>jfB ts L (by omega) W hs hv HGD.out)
   have hro:=hD (HOK.out.go hst.out.gr hst.out.rd)
   have HBI2:=hD (fun m=>HBI.out (wr.drewN m) (hro.out.sg.next (jg wr m)) (hro.out.lv.next (jg wr m)))
   clear HBI hro
   generalize zn ts=tkS at *
   go_wp2_with fail
   refine HK.out.mono ?_
   rintro e w3 ⟨rfl,m,rfl⟩
   go_wp2_with fail
   refine(HBI2.out m).mono ?_
   rintro e w4 ⟨rfl,rfl⟩
   cases xt with
   | node k n A c ks =>
   have hx4:=hst.out.b4.drewN m
   have hx10:=hst.out.b10.drewN m
   have r0:(wr.drewN m).cell? ⟨g4,0,none⟩=some (.int .i64 0):=hx4.cell 0
   have r1:(wr.drewN m).cell? ⟨g4,1,none⟩=some (.int .i64 0):=hx4.cell 1
   have r2:(wr.drewN m).cell? ⟨g4,2,none⟩=some (.slice none 0 0):=hx4.cell 2
   have rf:∀i,(wr.drewN m).frozen? ⟨g4,i,none⟩=false:=fun i=>hx4.free i
   have rl:g4<(wr.drewN m).heap.size:=hx4.lt
   have y0:(wr.drewN m).cell? ⟨g10,0,none⟩=some (.int .i64 k):=hx10.cell 0
   have y1:(wr.drewN m).cell? ⟨g10,1,none⟩=some (.int .i64 n):=hx10.cell 1
   have y2:(wr.drewN m).cell? ⟨g10,2,none⟩=some (.slice A ks.length c):=hx10.cell 2
   have yl:g10<(wr.drewN m).heap.size:=hx10.lt
   have HR9:=hD (show Reads (wr.drewN m) g S op ts by have:=hst.out.rd.drewN m;simpa[qJ] using this)
   have HG9:Hid (w.grownBy (wr.drewN m) (some g)):=World.grownBy.trans hst.out.gr (jj (jg wr m))
   have HA9:Hid (ReAt (wr.drewN m) (fun b=>g4<b) (wr.drewN m).heap.size (.node k n A c ks)):=(hst.out.at_.next (jg wr m)).more fun b hb _=>hb.1
   have HS9:Hid (Same (.node k n A c ks) t):=hst.out.sh
   clear hx4 hx10 hst hmem HK HBI2
   generalize wr.drewN m=W9 at *
   go_wp2_with fail
   refine bodyPost_ret (v:=.tuple #[.agg #[.int .i64 k,.int .i64 n,.slice A ks.length c],.bool true]) (by simp[results,Tryz.results147,go_sem,r0,r1,r2]) rfl ?_
   exact zB HG4.out hgl HR9.out HG9.out HS9.out HA9.out
  | cons p rem =>
   have hp:=hmem.out p (List.mem_cons_self ..)
   have HP2:Hid (∀q∈rem,q∈ps):=fun q hq=>hmem.out q (List.mem_cons_of_mem _ hq)
   obtain⟨hb1,hb2⟩:=HOP.out p hp
   have hrd:Reads wr g S op (sgn p.1::(prT (L+1) p.2++(qJ L rem++ts))):=by have:=hst.out.rd;rw[Kk] at this;exact this
   have HM:Hid (Kc g S wr=(prT (L+1) p.2++(qJ L rem++ts)).length):=XX hrd
   have hgr:=Z8 L rem ts (fun q hq=>HOP.out q (HP2.out q hq)) HGD.out
   have HK:=hD (zm g S op _ wr hrd hS)
   have HBI:=hD (fun W hs hv=>jfq p.1 hb1 L hb2 (by omega) W hs hv)
   have hro:=hD (HOK.out.go hst.out.gr hrd)
   have HBI2:=hD (fun m=>HBI.out (wr.drewN m) (hro.out.sg.next (jg wr m)) (hro.out.lv.next (jg wr m)))
   have HSC:=hD (fun m=>vQ g S op (sgn p.1) _ (wr.drewN m) (hrd.drewN m) hS)
   have HEp:=hD (fun W (hW:RdOk W g S op (prT (L+1) p.2++(qJ L rem++ts)))=>HEY.out p hp W (qJ L rem++ts) hgr hW)
   have hk0:0≤p.1∧p.1≤13:=by unfold jT at hb1;omega
   have HPL:=hD (jca (L+1) p.2 (HOKP.out p hp).2.2)
   rw[show zn (sgn p.1::(prT (L+1) p.2++(qJ L rem++ts)))=str (sgn p.1) from rfl] at HK
   clear HBI hrd hgr hb1 hb2 hp hmem
   generalize str (sgn p.1)=tkS at *
   generalize hKp:p.1=kp at *
   have HKP:=hD hKp
   clear hKp
   go_wp2_with fail
   refine HK.out.mono ?_
   rintro e w3 ⟨rfl,m,rfl⟩
   go_wp2_with fail
   refine(HBI2.out m).mono ?_
   rintro e w4 ⟨rfl,rfl⟩
   have HS1:=hD (HSC.out m)
   clear HK HBI2 HSC
   go_wp2_with fail
   refine HS1.out.mono ?_
   rintro e w5 ⟨rfl,hr5,hg5⟩
   have hx4:=(hst.out.b4.drewN m).grown hg5 (by simp;omega)
   have hx10:=(hst.out.b10.drewN m).grown hg5 (by simp;omega)
   have hgr5:w.grownBy w5 (some g):=World.grownBy.trans hst.out.gr (World.grownBy.trans (jj (jg wr m)) hg5)
   have hat5:ReAt w5 (fun b=>g4<b∧b≠g10) w5.heap.size xt:=(hst.out.at_.next (jg wr m)).grown hg5 (fun b hb=>by simp;omega)
   have hal:=ja w5 (Obj.cells jX 126)
   have HX6:=hD (hx4.alloc (Obj.cells jX 126))
   have HY6:=hD (hx10.alloc (Obj.cells jX 126))
   have HZ6:=hD (Box.new w5 126 jX)
   have HA6:=hD ((hat5.more (p':=fun b=>(g4<b∧b≠g10)∧b≠w5.heap.size) fun b hb hB=>⟨hb,by omega⟩).next hal)
   have HG6:Hid (w.grownBy (w5.alloc (Obj.cells jX 126)) (some g)):=World.grownBy.trans hgr5 (jj hal)
   have HE6:=hD (HEp.out _ (HOK.out.go HG6.out (hr5.next hal)))
   have HSH:Hid (xX (.node kp 0 none 0 [jE xt,jE p.2]) rem=jE t):=by have:=hst.out.sh;rw[xX,List.foldl_cons,HKP.out] at this;exact this
   have HONE:Hid (L=3→rem=[]):=fun h=>by
    have:=hst.out.one h
    simp at this;exact this
   have h105:g10<w5.heap.size:=hx10.lt
   clear hr5 hg5 hx4 hx10 hgr5 hat5 hal HS1 HEp hst
   go_wp2_with fail
   generalize w5.alloc (Obj.cells jX 126)=W6 at *
   generalize w5.heap.size=g14 at *
   refine HE6.out.mono ?_
   rintro e w7 ⟨y',hs7,rfl,ha7,hr7,hg7⟩
   cases y' with
   | node k2 n2 A2 c2 ks2 =>
   rw[show reV (.node k2 n2 A2 c2 ks2) = .agg #[.int .i64 k2,.int .i64 n2,.slice A2 ks2.length c2] from rfl]
   have hz6:g14<W6.heap.size:=HZ6.out.lt
   have hx7:=HX6.out.grown hg7 (by simp;omega)
   have hy7:=HY6.out.grown hg7 (by simp;omega)
   have hz7:=HZ6.out.grown hg7 (by simp;omega)
   have HX7:=hD (Box.far (Box.far (Box.far hx7 (p:=⟨g14,0,none⟩) (by show g4≠g14;omega) (.int .i64 k2)) (p:=⟨g14,1,none⟩) (by show g4≠g14;omega) (.int .i64 n2)) (p:=⟨g14,2,none⟩) (by show g4≠g14;omega) (.slice A2 ks2.length c2))
   have HY7:=hD (Box.far (Box.far (Box.far hy7 (p:=⟨g14,0,none⟩) (by show g10≠g14;omega) (.int .i64 k2)) (p:=⟨g14,1,none⟩) (by show g10≠g14;omega) (.int .i64 n2)) (p:=⟨g14,2,none⟩) (by show g10≠g14;omega) (.slice A2 ks2.length c2))
   have HZ7:Hid (Box (((w7.setCell ⟨g14,0,none⟩ (.int .i64 k2)).setCell ⟨g14,1,none⟩ (.int .i64 n2)).setCell ⟨g14,2,none⟩ (.slice A2 ks2.length c2)) g14 126 #[.int .i64 k2,.int .i64 n2,.slice A2 ks2.length c2]):=((hz7.set_ 0 _).set_ 1 _).set_ 2 _
   have hax7:=HA6.out.grown hg7 (fun b hb=>by simp;omega)
   have hay7:=ha7.more (p':=fun b=>(g4<b∧b≠g10)∧b≠g14) fun b hb hB=>⟨⟨by omega,by omega⟩,by omega⟩
   have HAX:=hD ((((hax7.set_ g14 0 (.int .i64 k2) (by simp)).set_ g14 1 (.int .i64 n2) (by simp)).set_ g14 2 (.slice A2 ks2.length c2) (by simp)).more (p':=fun b=>g4<b∧b≠g10) fun b hb _=>hb.1)
   have HAY:=hD ((((hay7.set_ g14 0 (.int .i64 k2) (by simp)).set_ g14 1 (.int .i64 n2) (by simp)).set_ g14 2 (.slice A2 ks2.length c2) (by simp)).more (p':=fun b=>g4<b∧b≠g10) fun b hb _=>hb.1)
   have HR8:=hD (jp (jp (jp hr7 g14 0 (.int .i64 k2) (by omega)) g14 1 (.int .i64 n2) (by omega)) g14 2 (.slice A2 ks2.length c2) (by omega))
   have hgr7:w.grownBy w7 (some g):=World.grownBy.trans HG6.out hg7
   have HG8:=hD (jq (jq (jq hgr7 g14 0 (.int .i64 k2) (by have:=HG4.out;omega)) g14 1 (.int .i64 n2) (by have:=HG4.out;omega)) g14 2 (.slice A2 ks2.length c2) (by have:=HG4.out;omega))
   have q0:w7.cell? ⟨g14,0,none⟩=some (.int .i64 0):=hz7.cell 0
   have q1:w7.cell? ⟨g14,1,none⟩=some (.int .i64 0):=hz7.cell 1
   have q2:w7.cell? ⟨g14,2,none⟩=some (.slice none 0 0):=hz7.cell 2
   have qf:∀i,w7.frozen? ⟨g14,i,none⟩=false:=fun i=>hz7.free i
   have ql:g14<w7.heap.size:=hz7.lt
   have HSM:=hD hs7
   clear hs7 ha7 hr7 hg7 hx7 hy7 hz7 hax7 hay7 hgr7 HX6 HY6 HZ6 HA6 HG6 HE6 hz6
   go_upto_region 19 with fail
   clear q0 q1 q2 qf ql
   generalize ((w7.setCell ⟨g14,0,none⟩ (.int .i64 k2)).setCell ⟨g14,1,none⟩ (.int .i64 n2)).setCell ⟨g14,2,none⟩ (.slice A2 ks2.length c2)=W8 at *
   cases xt with
   | node k n A c ks =>
   have y0:W8.cell? ⟨g10,0,none⟩=some (.int .i64 k):=HY7.out.cell 0
   have y1:W8.cell? ⟨g10,1,none⟩=some (.int .i64 n):=HY7.out.cell 1
   have y2:W8.cell? ⟨g10,2,none⟩=some (.slice A ks.length c):=HY7.out.cell 2
   have yf:∀i,W8.frozen? ⟨g10,i,none⟩=false:=fun i=>HY7.out.free i
   have yl:g10<W8.heap.size:=HY7.out.lt
   have z0:W8.cell? ⟨g14,0,none⟩=some (.int .i64 k2):=HZ7.out.cell 0
   have z1:W8.cell? ⟨g14,1,none⟩=some (.int .i64 n2):=HZ7.out.cell 1
   have z2:W8.cell? ⟨g14,2,none⟩=some (.slice A2 ks2.length c2):=HZ7.out.cell 2
   have zl:g14<W8.heap.size:=HZ7.out.lt
   have HST9:Hid (BinSt g g4 g10 S op L t ts w ((((W8.setCell ⟨g10,0,none⟩ (.int .i64 kp)).setCell ⟨g10,1,none⟩ (.int .i64 0)).setCell ⟨g10,2,none⟩ (.slice (some ⟨W8.heap.size,0,none⟩) 2 2)).alloc (Obj.cells #[.int .i64 k,.int .i64 n,.slice A ks.length c,.int .i64 k2,.int .i64 n2,.slice A2 ks2.length c2] 126)) rem (.node kp 0 (some ⟨W8.heap.size,0,none⟩) 2 [.node k n A c ks,.node k2 n2 A2 c2 ks2])) :=
    jbP HX7.out HY7.out HAX.out HAY.out HR8.out HG8.out hgl (by omega) (by have:=HG4.out;omega) (by unfold I64;omega) (by have h1:=HSH.out;rw[show jE p.2=jE (.node k2 n2 A2 c2 ks2) from HSM.out.symm] at h1;exact h1) (fun h=>by rw[HONE.out h];simp)
   clear HX7 HY7 HZ7 HAX HAY HR8 HG8 HSH HSM
   go_upto_region 20 with fail
   clear y0 y1 y2 yf yl z0 z1 z2 zl
   generalize hW9:((((W8.setCell ⟨g10,0,none⟩ (.int .i64 kp)).setCell ⟨g10,1,none⟩ (.int .i64 0)).setCell ⟨g10,2,none⟩ (.slice (some ⟨W8.heap.size,0,none⟩) 2 2)).alloc (Obj.cells #[.int .i64 k,.int .i64 n,.slice A ks.length c,.int .i64 k2,.int .i64 n2,.slice A2 ks2.length c2] 126))=W9 at *
   generalize W8.heap.size=gk at *
   clear hW9
   have HRD:=hD (XX HST9.out.rd)
   by_cases h3:L=3
   ·have hrem:=HONE.out h3
    subst hrem
    have l3:((L:Int)==3)=true:=by rw[beq_iff_eq];omega
    have hx9:=HST9.out.b4
    have hy9:=HST9.out.b10
    have r0:W9.cell? ⟨g4,0,none⟩=some (.int .i64 0):=hx9.cell 0
    have r1:W9.cell? ⟨g4,1,none⟩=some (.int .i64 0):=hx9.cell 1
    have r2:W9.cell? ⟨g4,2,none⟩=some (.slice none 0 0):=hx9.cell 2
    have rf:∀i,W9.frozen? ⟨g4,i,none⟩=false:=fun i=>hx9.free i
    have rl:g4<W9.heap.size:=hx9.lt
    have y0:W9.cell? ⟨g10,0,none⟩=some (.int .i64 kp):=hy9.cell 0
    have y1:W9.cell? ⟨g10,1,none⟩=some (.int .i64 0):=hy9.cell 1
    have y2:W9.cell? ⟨g10,2,none⟩=some (.slice (some ⟨gk,0,none⟩) 2 2):=hy9.cell 2
    have yl:g10<W9.heap.size:=hy9.lt
    have HR9:=hD (show Reads W9 g S op ts by have:=HST9.out.rd;simpa[qJ] using this)
    have HG9:=hD HST9.out.gr
    have HA9:=hD (HST9.out.at_.more (p':=fun b=>g4<b) fun b hb _=>hb.1)
    have HS9:Hid (Same (.node kp 0 (some ⟨gk,0,none⟩) 2 [.node k n A c ks,.node k2 n2 A2 c2 ks2]) t):=HST9.out.sh
    clear hx9 hy9 HST9 h3 HRD
    go_wp2_with fail
    refine bodyPost_ret (v:=.tuple #[.agg #[.int .i64 kp,.int .i64 0,.slice (some ⟨gk,0,none⟩) 2 2],.bool true]) (by simp[results,Tryz.results147,go_sem,r0,r1,r2]) rfl ?_
    exact zB (ks:=[.node k n A c ks,.node k2 n2 A2 c2 ks2]) HG4.out hgl HR9.out HG9.out HS9.out HA9.out
   ·have l3:((L:Int)==3)=false:=by rw[beq_eq_false_iff_ne];omega
    go_wp2_with fail
    go_roundw
    case rel=>exact⟨rem,_,rfl,HP2,HST9⟩
    case measure =>
     rw[HRD.out,HM.out,List.length_append,List.length_tail]
     have:=HPL.out
     omega
theorem jbK (L:Nat) (t:RE) (h:lev (kd t)≠L):nd (L+1) t=nd L t:=by
 unfold nd
 by_cases h1:lev (kd t)<L
 ·rw[if_pos (by omega),if_pos h1]
 ·rw[if_neg (by omega),if_neg h1]
theorem jfF (k:Int):lev k≤7:=by
 unfold lev
 repeat' split
 all_goals omega
theorem kS (k:Int) (h0:1≤k) (h1:k≤13):(lev k=7↔k=1∨k=2)∧(lev k=6↔k=3)∧(lev k=2↔k=11):=by
 have:k=1∨k=2∨k=3∨k=4∨k=5∨k=6∨k=7∨k=8∨k=9∨k=10∨k=11∨k=12∨k=13:=by omega
 rcases this with rfl|rfl|rfl|rfl|rfl|rfl|rfl|rfl|rfl|rfl|rfl|rfl|rfl<;>decide
theorem Qi (t:RE):prT 0 t=prB t:=by unfold prT vB;simp
theorem Zt (L:Nat) (t:RE) (h:L≤lev (kd t)):prT L t=prB t:=by unfold prT vB;simp only;rw[if_neg (by omega)]
theorem jdY (L:Nat) (t:RE) (h:lev (kd t)<L):prT L t=[40]::(prB t++[[41]]):=by unfold prT vB;simp only;rw[if_pos h]
theorem VK (k n:Int) (A:Option Addr) (c:Nat) (a:RE) (hk:k=3∨k=11):prB (.node k n A c [a])=(if k=3 then[45] else[110,111,116])::prT (if k=3 then 6 else 2) a:=by
 have e0:=kn [a] 0 (by simp)
 simp only[List.getD_cons_zero] at e0
 rcases hk with rfl|rfl
 ·unfold prB
  rw[if_neg (by decide),if_neg (by decide),if_pos rfl,e0,if_pos rfl,if_pos rfl]
  rfl
 ·unfold prB
  rw[if_neg (by decide),if_neg (by decide),if_neg (by decide),if_pos rfl,e0,if_neg (by decide),if_neg (by decide)]
  rfl
theorem jcV (g:Nat) (S:ByteArray) (hS:S.size≤5000):∀m,IHyp g S m:=by
 intro m
 induction m with
 | zero=>intro L t op ts w hm;omega
 | succ m ih =>
  intro L t op ts w hm hL hok h0 hnd hgd h
  have hEx:∀{M:Nat} {u:RE} {o:Int} {r:List Tok} {W:World},M≠7→kl M g S o u r W→Calls Tryz.prog 147 #[.pointer (some ⟨g,0,none⟩),.int .i64 (M:Int)] W (qK g S o u r W):=fun hM hC=>by
   unfold kl at hC;rw[if_neg hM] at hC;exact hC
  have hcase:L=7∨L=6∨L=2∨(L=0∨L=1∨L=3∨L=4∨L=5):=by omega
  rcases hcase with rfl|rfl|rfl|hLb
  ·unfold kl
   rw[if_pos rfl]
   have hok':=hok
   cases hok with
   | @mk k n A c ks node kids =>
    have hlc:=kS k node.k0 node.k1
    by_cases h7:lev k=7
    ·have hks:ks=[]:=List.eq_nil_of_length_eq_zero (by rw[node.len];unfold yt;rw[if_pos (hlc.1.1 h7)])
     subst hks
     rw[Zt 7 _ (by show 7≤lev k;omega)] at h
     rcases hlc.1.1 h7 with rfl|rfl
     ·rw[show prB (.node 1 n A c [])=[Lib.itoa n] from by unfold prB;rw[if_pos rfl]] at h
      have h2:=node.n1
      rw[if_pos rfl] at h2
      exact jc1 g S op n A c ts w hS node.n0 h2 h
     ·have hn:n=0:=by have h1:=node.n0;have h2:=node.n1;rw[if_neg (by decide)] at h2;omega
      subst hn
      rw[show prB (.node 2 0 A c [])=[[121]] from by unfold prB;rw[if_neg (by decide),if_pos rfl]] at h
      exact jat g S op A c ts w hS h
    ·have hlt:lev (kd (RE.node k n A c ks))<7:=by have:=jfF k;show lev k<7;omega
     rw[jdY 7 _ hlt] at h hm
     simp only[List.length_cons,List.length_append,List.length_nil] at hm
     have e:nd 7 (.node k n A c ks)=ht (.node k n A c ks):=by unfold nd;rw[if_pos hlt]
     have e0:nd 0 (.node k n A c ks)=ht (.node k n A c ks)-1:=by unfold nd;rw[if_neg (by omega)]
     have hp:=jfk (.node k n A c ks)
     rw[e] at hnd
     refine jbi g S op (.node k n A c ks) ts w hS h0 (by omega) (by rw[Qi];simpa using h) fun W hW=>?_
     exact hEx (M:=0) (by omega) (ih 0 _ (op+1) ([41]::ts) W (by rw[Qi];omega) (by omega) hok' (by omega) (by rw[e0];omega) (Vs 0 ts) hW)
  ·unfold kl
   rw[if_neg (by omega)]
   have hok':=hok
   cases hok with
   | @mk k n A c ks node kids =>
    have hlc:=kS k node.k0 node.k1
    by_cases h6:lev k=6
    ·obtain rfl:=hlc.2.1.1 h6
     have hl1:ks.length=1:=by rw[node.len];decide
     obtain⟨a,rfl⟩:∃a,ks=[a]:=by
      match ks,hl1 with
      | [a],_=>exact⟨a,rfl⟩
     have hn:n=0:=by have h1:=node.n0;have h2:=node.n1;rw[if_neg (by decide)] at h2;omega
     subst hn
     rw[Zt 6 _ (by show 6≤lev 3;decide),VK 3 0 A c a (.inl rfl),if_pos rfl,if_pos rfl] at h hm
     simp only[List.length_cons] at hm
     have hta:=ZV 3 0 A c [a] a (by simp)
     have hnl:=Yk 6 a
     have e:nd 6 (.node 3 0 A c [a])=ht (.node 3 0 A c [a])-1:=by unfold nd;rw[if_neg (by show ¬lev 3<6;decide)]
     rw[e] at hnd
     refine jdo g S op a A c ts w hS h fun W hW=>?_
     exact hEx (M:=6) (by omega) (ih 6 a op ts W (by omega) (by omega) (kids a (by simp)) h0 (by omega) hgd hW)
    ·have hne:lev (kd (RE.node k n A c ks))≠6:=h6
     obtain⟨c1,r1,e1,_,e2⟩:=J0 _ hok' 7 (by omega)
     have hup:prT 6 (.node k n A c ks)=prT 7 (.node k n A c ks):=Yt 6 _ hne
     rw[hup] at h hm
     refine jbW g S op (.node k n A c ks) (prT 7 (.node k n A c ks)++ts) ts w hS h (by rw[e1];exact e2 rfl) fun W hW=>?_
     have hC:=ih 7 (.node k n A c ks) op ts W (by omega) (by omega) hok' h0 (by rw[jbK 6 _ hne];exact hnd) (hgd.more (by omega)) hW
     unfold kl at hC
     rw[if_pos rfl] at hC
     exact hC
  ·unfold kl
   rw[if_neg (by omega)]
   have hok':=hok
   cases hok with
   | @mk k n A c ks node kids =>
    have hlc:=kS k node.k0 node.k1
    by_cases h2:lev k=2
    ·obtain rfl:=hlc.2.2.1 h2
     have hl1:ks.length=1:=by rw[node.len];decide
     obtain⟨a,rfl⟩:∃a,ks=[a]:=by
      match ks,hl1 with
      | [a],_=>exact⟨a,rfl⟩
     have hn:n=0:=by have h1:=node.n0;have h2:=node.n1;rw[if_neg (by decide)] at h2;omega
     subst hn
     rw[Zt 2 _ (by show 2≤lev 11;decide),VK 11 0 A c a (.inr rfl),if_neg (by decide),if_neg (by decide)] at h hm
     simp only[List.length_cons] at hm
     have hta:=ZV 11 0 A c [a] a (by simp)
     have hnl:=Yk 2 a
     have e:nd 2 (.node 11 0 A c [a])=ht (.node 11 0 A c [a])-1:=by unfold nd;rw[if_neg (by show ¬lev 11<2;decide)]
     rw[e] at hnd
     refine ja8 g S op a A c ts w hS h fun W hW=>?_
     exact hEx (M:=2) (by omega) (ih 2 a op ts W (by omega) (by omega) (kids a (by simp)) h0 (by omega) hgd hW)
    ·have hne:lev (kd (RE.node k n A c ks))≠2:=h2
     obtain⟨c1,r1,e1,e2,_⟩:=J0 _ hok' 3 (by omega)
     have hup:prT 2 (.node k n A c ks)=prT 3 (.node k n A c ks):=Yt 2 _ hne
     rw[hup] at h hm
     refine jcv g S op (.node k n A c ks) (prT 3 (.node k n A c ks)++ts) ts w hS h (by rw[e1];exact e2) fun W hW=>?_
     exact hEx (M:=3) (by omega) (ih 3 (.node k n A c ks) op ts W (by omega) (by omega) hok' h0 (by rw[jbK 2 _ hne];exact hnd) (hgd.more (by omega)) hW)
  ·unfold kl
   rw[if_neg (by omega)]
   obtain⟨x,ps,C⟩:=ja6 L hLb t hok
   have hwl:=congrArg List.length C.words
   rw[List.length_append] at hwl
   have hndx:nd (L+1) x≤nd L t:=by
    rcases C.hx with⟨_,e,hne⟩|⟨hlt,hl⟩
    ·rw[e,jbK L t hne];exact Nat.le_refl _
    ·have:=Yk (L+1) x
     unfold nd
     rw[if_neg (show ¬lev (kd t)<L by omega)]
     have h1:nd (L+1) x≤ht t-1:=by omega
     unfold nd at h1
     exact h1
   have hcast:((L+1:Nat):Int)=(L:Int)+1:=by omega
   rw[C.words,List.append_assoc] at h
   refine jbf g S op L hLb t x (prT (L+1) x) ps C.okp C.shape C.one ts w hS h hgd (fun W r hg hW=>?_) (fun p hp W r hg hW=>?_)
   ·have:=hEx (M:=L+1) (by omega) (ih (L+1) x op r W (by omega) (by omega) C.okx h0 (by omega) hg hW)
    rw[hcast] at this
    exact this
   ·have hndp:nd (L+1) p.2≤nd L t:=by
     have h1:=C.hp p hp
     have h2:=Yk (L+1) p.2
     rcases C.hx with⟨e,_,_⟩|⟨_,hl⟩
     ·rw[e] at hp;cases hp
     ·have h3:nd L t=ht t-1:=by unfold nd;rw[if_neg (by omega)]
      omega
    have hpl:(prT (L+1) p.2).length<(prT L t).length:=by
     have h1:0<(prT (L+1) x).length:=jca _ x C.okx
     have h2:(prT (L+1) p.2).length≤(qJ L ps).length:=by
      have:∀(l:List (Int×RE)),p∈l→(prT (L+1) p.2).length≤(qJ L l).length:=by
       intro l
       induction l with
       | nil=>intro h;cases h
       | cons q l ihl =>
        intro h
        have e:(qJ L (q::l)).length=(prT (L+1) q.2).length+1+(qJ L l).length:=by simp[qJ];omega
        rcases List.mem_cons.1 h with rfl|h
        ·omega
        ·have:=ihl h;omega
      exact this ps hp
     omega
    have:=hEx (M:=L+1) (by omega) (ih (L+1) p.2 op r W (by omega) (by omega) (C.okp p hp).2.2 h0 (by omega) hg hW)
    rw[hcast] at this
    exact this
theorem Kt (g:Nat) (S:ByteArray) (hS:S.size≤5000) (t:RE) (hok:ReOk t) (hht:ht t≤12) (ts:List Tok) (hgd:Good 0 ts) (w:World) (h:RdOk w g S 0 (prB t++ts)) :
  Calls Tryz.prog 147 #[.pointer (some ⟨g,0,none⟩),.int .i64 0] w (qK g S 0 t ts w):=by
 have hn:nd 0 t≤12:=by have:=Yk 0 t;omega
 have hC:=jcV g S hS _ 0 t 0 ts w (Nat.lt_succ_self _) (by omega) hok (by omega) (by omega) hgd (by rw[Qi];exact h)
 unfold kl at hC
 rw[if_neg (by omega)] at hC
 exact hC
end Go.Proofs.YtkkjaaognefeiaaGreatDoor
