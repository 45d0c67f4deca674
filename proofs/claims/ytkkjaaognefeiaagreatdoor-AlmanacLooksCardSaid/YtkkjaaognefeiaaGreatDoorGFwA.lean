/- FwA, FwB, FwC, FwD, FwE, FwF, FwG -/
import Derived.Test.YtkkjaaognefeiaaGreatDoorGFvA
set_option maxRecDepth 100000
set_option maxHeartbeats 16000000
set_option linter.unusedVariables false
set_option linter.unusedSimpArgs false
namespace Go.Proofs.YtkkjaaognefeiaaGreatDoor
open Go Go.RowKit
theorem jaK (i:Int) (i0 : -300000000000000≤i) (i1:i≤300000000000000) (w:World) (hT:TrigT w):Calls Tryz.prog 74 #[.int .i64 i] w (Sp3Q w):=by
 obtain⟨z,_,_,hc⟩:=Qr i i0 i1 w hT
 obtain⟨za,zb⟩:=z
 have HC:=hD hc
 have HT:=hD hT
 clear hc hT
 obtain⟨W1,g,hW1,HG,HX0,HX1,HB⟩:=vA w 48 #[.int .i64 0,.int .i64 0] 48 #[.int .i64 0,.int .i64 0]
 go_enter Tryz.func74,Tryz.ntmps74
 go_upto_region 1 with fail
 rw[hW1.out,HG.out]
 clear hW1
 have HT1:=hD (HT.out.next (HG.out▸HB.out))
 clear HT
 go_upto_region 4 with(go_at_call 96;refine(HC.out _ HT1.out).mono ?_;rintro e w2 ⟨rfl,hb2⟩)
 have hb3:=jb hb2 (ja w2 (Obj.cells #[.int .i64 za,.int .i64 zb] 48))
 have lg:=HX1.out.lt
 have HR0:=hD (HX0.out.below hb3)
 have HR1:=hD (HX1.out.below hb3)
 have HS1:=hD (Box.new w2 48 #[.int .i64 za,.int .i64 zb])
 have HT2:=hD (HT1.out.next hb3)
 have HB2:=hD (HB.out.trans (hb3.mono (by omega)))
 clear hb2 hb3 HX0 HX1 HB HT1 lg
 generalize w2.alloc (Obj.cells #[.int .i64 za,.int .i64 zb] 48)=w3 at *
 generalize w2.heap.size=g2 at *
 have x0:w3.cell? ⟨g2,0,none⟩=some (.int .i64 za):=HS1.out.cell 0
 have x1:w3.cell? ⟨g2,1,none⟩=some (.int .i64 zb):=HS1.out.cell 1
 have l0:=HR1.out.lt
 have lift:∀w9,Below w3.heap.size w3 w9→Box w9 g 48 #[.int .i64 0,.int .i64 0]∧Box w9 (g+1) 48 #[.int .i64 0,.int .i64 0]∧Below g w w9:=fun w9 b9=>⟨HR0.out.below b9,HR1.out.below b9,HB2.out.trans (b9.mono (by omega))⟩
 have HL:=hD lift
 clear lift l0 HR0 HR1 HB2
 go_wp2_with (go_at_call 97;refine(Z5 _ _ _ HT2.out).mono ?_;rintro e w9 ⟨a,b,c,d,er,rfl,hin,hb9⟩;obtain⟨HF,HG2,HH⟩:=HL.out _ hb9;replace HF:=hD HF;replace HG2:=hD HG2;replace HH:=hD HH;have p0:w9.cell? ⟨g,0,none⟩=some (.int .i64 0):=HF.out.cell 0;have pf0:w9.frozen? ⟨g,0,none⟩=false:=HF.out.free 0;have p1:w9.cell? ⟨g,1,none⟩=some (.int .i64 0):=HF.out.cell 1;have pf1:w9.frozen? ⟨g,1,none⟩=false:=HF.out.free 1;have q0:w9.cell? ⟨g+1,0,none⟩=some (.int .i64 0):=HG2.out.cell 0;have qf0:w9.frozen? ⟨g+1,0,none⟩=false:=HG2.out.free 0;have q1:w9.cell? ⟨g+1,1,none⟩=some (.int .i64 0):=HG2.out.cell 1;have qf1:w9.frozen? ⟨g+1,1,none⟩=false:=HG2.out.free 1;clear hb9 HL x0 x1)
 have HF0:=sqr (sqs HF (.int .i64 (a)) (.int .i64 (b))) (show g≠g+1 by omega) (.int .i64 (c)) (.int .i64 (d))
 have HF1:=sqs (sqr HG2 (show g+1≠g by omega) (.int .i64 (a)) (.int .i64 (b))) (.int .i64 (c)) (.int .i64 (d))
 have HFB:=sqb (sqb HH (show g≤g by omega) (.int .i64 (a)) (.int .i64 (b))) (show g≤g+1 by omega) (.int .i64 (c)) (.int .i64 (d))
 generalize ((((w9.setCell ⟨g,0,none⟩ (.int .i64 (a))).setCell ⟨g,1,none⟩ (.int .i64 (b))).setCell ⟨g+1,0,none⟩ (.int .i64 (c))).setCell ⟨g+1,1,none⟩ (.int .i64 (d)))=w6 at *
 obtain⟨v0,v1⟩:=sqc HF0
 obtain⟨v2,v3⟩:=sqc HF1
 refine bodyPost_ret (v:=.tuple #[.agg #[.int .i64 (a),.int .i64 (b)],.agg #[.int .i64 (c),.int .i64 (d)],.int .i64 er]) (by simp[results,Tryz.results74,go_sem,v0,v1,v2,v3]) rfl ⟨_,_,_,_,_,rfl,hin,?_⟩
 rw[HG.out]
 exact HFB.out
theorem YW (w:World):Calls Tryz.prog 165 #[.agg #[.int .i64 275313108,.int .i64 1002737909350806,.slice none 0 0,.int .i64 0]] w fun e w'=>e = .returned (.int .i64 0)∧Below w.heap.size w w':=by
 have HI1:=hD (fun w=>yS 275313108 1000000000 w (by decide) (by decide) (by decide) (by decide))
 have HI2:=hD (fun w=>yS 1002737909350806 4000000000000000 w (by decide) (by decide) (by decide) (by decide))
 obtain⟨W1,g,hW1,HG,HX0,HB⟩:=J2 w 187 #[.int .i64 275313108,.int .i64 1002737909350806,.slice none 0 0,.int .i64 0]
 go_enter Tryz.func165,Tryz.ntmps165
 go_upto_region 1 with fail
 rw[hW1.out,HG.out]
 clear hW1
 have x0:W1.cell? ⟨g,0,none⟩=some (.int .i64 275313108):=HX0.out.cell 0
 have x1:W1.cell? ⟨g,1,none⟩=some (.int .i64 1002737909350806):=HX0.out.cell 1
 have x2:W1.cell? ⟨g,2,none⟩=some (.slice none 0 0):=HX0.out.cell 2
 have x3:W1.cell? ⟨g,3,none⟩=some (.int .i64 0):=HX0.out.cell 3
 go_wp2_with (go_at_call 190;first|(with_reducible refine(HI1.out _).mono ?_;rintro e w' ⟨rfl,rfl⟩)|(with_reducible refine(HI2.out _).mono ?_;rintro e w' ⟨rfl,rfl⟩))
 refine wp_loop_once ?_
 go_wp2_with fail
 go_ret
 exact⟨rfl,by rw[HG.out];exact HB.out⟩
theorem YA (i:Int) (w:World):Calls Tryz.prog 175 #[.agg #[.int .i64 275313108,.int .i64 1002737909350806,.slice none 0 0,.int .i64 0],.int .i64 i] w (zI (fun a b=>a=275313108∧b=275313108) w):=by
 obtain⟨W1,g,hW1,HG,HX0,HX1,HB⟩:=vA w 187 #[.int .i64 275313108,.int .i64 1002737909350806,.slice none 0 0,.int .i64 0] 48 #[.int .i64 0,.int .i64 0]
 go_enter Tryz.func175,Tryz.ntmps175
 go_upto_region 1 with fail
 rw[hW1.out,HG.out]
 clear hW1
 have x0:W1.cell? ⟨g,0,none⟩=some (.int .i64 275313108):=HX0.out.cell 0
 have x1:W1.cell? ⟨g,1,none⟩=some (.int .i64 1002737909350806):=HX0.out.cell 1
 have x2:W1.cell? ⟨g,2,none⟩=some (.slice none 0 0):=HX0.out.cell 2
 have x3:W1.cell? ⟨g,3,none⟩=some (.int .i64 0):=HX0.out.cell 3
 obtain⟨q0,u0,q1,u1⟩:=sqf HX1
 have lgl:=HX0.out.lt
 go_upto_region 11 with fail
 have hb3:=ja W1 (Obj.cells #[.int .i64 275313108,.int .i64 275313108] 48)
 have lg:=HX1.out.lt
 have HR0:=hD (HX0.out.below hb3)
 have HR1:=hD (HX1.out.below hb3)
 have HS1:=hD (Box.new W1 48 #[.int .i64 275313108,.int .i64 275313108])
 have HB2:=hD (HB.out.trans (hb3.mono (by omega)))
 clear hb3 x0 x1 x2 x3 q0 q1 u0 u1 HX0 HX1 HB
 generalize W1.alloc (Obj.cells #[.int .i64 275313108,.int .i64 275313108] 48)=w3 at *
 generalize W1.heap.size=g2 at *
 have x0:w3.cell? ⟨g,0,none⟩=some (.int .i64 275313108):=HR0.out.cell 0
 have x1:w3.cell? ⟨g,1,none⟩=some (.int .i64 1002737909350806):=HR0.out.cell 1
 have x2:w3.cell? ⟨g,2,none⟩=some (.slice none 0 0):=HR0.out.cell 2
 have x3:w3.cell? ⟨g,3,none⟩=some (.int .i64 0):=HR0.out.cell 3
 obtain⟨q0,u0,q1,u1⟩:=sqf HR1
 have y0:w3.cell? ⟨g2,0,none⟩=some (.int .i64 275313108):=HS1.out.cell 0
 have y1:w3.cell? ⟨g2,1,none⟩=some (.int .i64 275313108):=HS1.out.cell 1
 go_wp2_with fail
 obtain⟨W4,h4,v0,v1,hb4⟩:=sqt HR1 HB2 (by omega) (.int .i64 275313108) (.int .i64 275313108)
 clear q0 q1 u0 u1
 rw[h4.out]
 refine bodyPost_ret (v:=.agg #[.int .i64 275313108,.int .i64 275313108]) (by simp[results,Tryz.results175,go_sem,v0,v1]) rfl ⟨_,_,rfl,⟨rfl,rfl⟩,?_⟩
 rw[HG.out]
 exact hb4
def kf (a b:Int):Prop:=(0≤a∧a<1000000000)∧(0≤b∧b≤2000000000)
theorem Vq (i:Int) (i0 : -300000000000000≤i) (i1:i≤300000000000000) (w:World):Calls Tryz.prog 167 #[.agg #[.int .i64 275313108,.int .i64 1002737909350806,.slice none 0 0,.int .i64 0],.int .i64 i] w (zI kf w):=by
 have HGr:=hD (fun w=>kv 1002737909350806 i w (by decide) (by decide) i0 i1)
 have q0 : -13888888888888890≤1002737909350806*i/86400000000000∧1002737909350806*i/86400000000000≤13888888888888890:=by omega
 have HMo:=hD (fun w=>jW (1002737909350806*i/86400000000000) 1000000000 w (by omega) (by omega) (by decide) (by decide))
 have Q0:0≤1002737909350806*i/86400000000000%1000000000:=Int.emod_nonneg _ (by decide)
 have Q1:1002737909350806*i/86400000000000%1000000000<1000000000:=Int.emod_lt_of_pos _ (by decide)
 generalize 1002737909350806*i/86400000000000%1000000000=Q at *
 generalize 1002737909350806*i/86400000000000=q at *
 generalize 1002737909350806*i%86400000000000=R at *
 have HN0:=hD (fun w=>yA (275313108+Q) (275313108+Q) w (by omega) (by omega) (by omega) (by omega))
 have HN1:=hD (fun w=>yA (275313108+Q) (275313109+Q) w (by omega) (by omega) (by omega) (by omega))
 have Z0:Hid (kf (j7 (275313108+Q) (275313108+Q)).1 (j7 (275313108+Q) (275313108+Q)).2):=by unfold Hid kf j7;dsimp only;omega
 have Z1:Hid (kf (j7 (275313108+Q) (275313109+Q)).1 (j7 (275313108+Q) (275313109+Q)).2):=by unfold Hid kf j7;dsimp only;omega
 generalize j7 (275313108+Q) (275313108+Q)=Y at *
 generalize j7 (275313108+Q) (275313109+Q)=Y' at *
 obtain⟨W1,g,hW1,HG,HX0,HX1,HB⟩:=vA w 187 #[.int .i64 275313108,.int .i64 1002737909350806,.slice none 0 0,.int .i64 0] 48 #[.int .i64 0,.int .i64 0]
 go_enter Tryz.func167,Tryz.ntmps167
 go_upto_region 1 with fail
 rw[hW1.out,HG.out]
 clear hW1
 have x0:W1.cell? ⟨g,0,none⟩=some (.int .i64 275313108):=HX0.out.cell 0
 have x1:W1.cell? ⟨g,1,none⟩=some (.int .i64 1002737909350806):=HX0.out.cell 1
 have x2:W1.cell? ⟨g,2,none⟩=some (.slice none 0 0):=HX0.out.cell 2
 have x3:W1.cell? ⟨g,3,none⟩=some (.int .i64 0):=HX0.out.cell 3
 go_upto_region 2 with(go_at_call 175;refine(YA _ _).mono ?_;rintro e w2 ⟨u,v,rfl,⟨rfl,rfl⟩,hb2⟩)
 have hb3:=jb hb2 (ja w2 (Obj.cells #[.int .i64 275313108,.int .i64 275313108] 48))
 have lg:=HX1.out.lt
 have ls:=hb2.size
 have HX2:=hD (HX0.out.below hb3)
 have HR2:=hD (HX1.out.below hb3)
 have HA2:=hD (Box.new w2 48 #[.int .i64 275313108,.int .i64 275313108])
 have HB2:=hD (HB.out.trans (hb3.mono (by omega)))
 clear hb2 hb3 HX0 HX1 HB x0 x1 x2 x3
 generalize w2.alloc (Obj.cells #[.int .i64 275313108,.int .i64 275313108] 48)=W2 at *
 generalize w2.heap.size=ga at *
 have hne:g+1<ga:=by omega
 clear lg ls
 have x1:W2.cell? ⟨g,1,none⟩=some (.int .i64 1002737909350806):=HX2.out.cell 1
 have z0:W2.cell? ⟨ga,0,none⟩=some (.int .i64 275313108):=HA2.out.cell 0
 have z1:W2.cell? ⟨ga,1,none⟩=some (.int .i64 275313108):=HA2.out.cell 1
 have q0':W2.frozen? ⟨ga,1,none⟩=false:=HA2.out.free 1
 by_cases hR:0<R
 ·have tR:decide (0<R)=true:=decide_eq_true hR
  go_upto_region 6 with first
   | (go_at_call 191;refine(HGr.out _).mono ?_;rintro e w' ⟨rfl,n1,rfl⟩)
   | (go_at_call 45;refine(HMo.out _).mono ?_;rintro e w' ⟨rfl,n2,rfl⟩)
  have HX3:=hD (HX2.out)
  have HR3:=hD (((HR2.out.drewN n1).far (p:=⟨ga,1,none⟩) (by show g+1≠ga;omega) (.int .i64 275313109)).drewN n2)
  have HA3:=hD (((HA2.out.drewN n1).set_ 1 (.int .i64 275313109)).drewN n2)
  have HB3:=hD (jd ((jd HB2.out n1).setCell (p:=⟨ga,1,none⟩) (by show g≤ga;omega) (.int .i64 275313109)) n2)
  clear HX2 HR2 HA2 HB2 x1 z0 z1 q0' tR
  generalize ((W2.drewN n1).setCell ⟨ga,1,none⟩ (.int .i64 275313109)).drewN n2=W3 at *
  have z0:W3.cell? ⟨ga,0,none⟩=some (.int .i64 275313108):=HA3.out.cell 0
  have z1:W3.cell? ⟨ga,1,none⟩=some (.int .i64 275313109):=HA3.out.cell 1
  have l3:=HR3.out.lt
  have lift:∀w4,Below W3.heap.size W3 w4→Box w4 (g+1) 48 #[.int .i64 0,.int .i64 0]∧Below g w w4:=fun w4 b4=>⟨HR3.out.below b4,HB3.out.trans (b4.mono (by omega))⟩
  have HL:=hD lift
  clear lift HR3 HB3 HA3 l3
  go_wp2_with (go_at_call 173;refine(HN1.out _).mono ?_;rintro e w3 ⟨rfl,hb3⟩;obtain⟨HR,HB⟩:=HL.out _ hb3;have q0:w3.frozen? ⟨g+1,0,none⟩=false:=HR.free 0;have q1:w3.frozen? ⟨g+1,1,none⟩=false:=HR.free 1;have u0:w3.cell? ⟨g+1,0,none⟩=some (.int .i64 0):=HR.cell 0;have u1:w3.cell? ⟨g+1,1,none⟩=some (.int .i64 0):=HR.cell 1;replace HR:=hD HR;replace HB:=hD HB;clear hb3 HL)
  have HR4:=hD ((HR.out.set_ 0 (.int .i64 Y'.1)).set_ 1 (.int .i64 Y'.2))
  have HB4:=hD ((HB.out.setCell (p:=⟨g+1,0,none⟩) (by show g≤g+1;omega) (.int .i64 Y'.1)).setCell (p:=⟨g+1,1,none⟩) (by show g≤g+1;omega) (.int .i64 Y'.2))
  clear HR HB q0 q1 u0 u1
  generalize (w3.setCell ⟨g+1,0,none⟩ (.int .i64 Y'.1)).setCell ⟨g+1,1,none⟩ (.int .i64 Y'.2)=W4 at *
  have v0:W4.cell? ⟨g+1,0,none⟩=some (.int .i64 Y'.1):=HR4.out.cell 0
  have v1:W4.cell? ⟨g+1,1,none⟩=some (.int .i64 Y'.2):=HR4.out.cell 1
  refine bodyPost_ret (v:=.agg #[.int .i64 Y'.1,.int .i64 Y'.2]) (by simp[results,Tryz.results167,go_sem,v0,v1]) rfl ⟨_,_,rfl,Z1.out,?_⟩
  rw[HG.out]
  exact HB4.out
 ·have tR:decide (0<R)=false:=decide_eq_false hR
  go_upto_region 6 with first
   | (go_at_call 191;refine(HGr.out _).mono ?_;rintro e w' ⟨rfl,n1,rfl⟩)
   | (go_at_call 45;refine(HMo.out _).mono ?_;rintro e w' ⟨rfl,n2,rfl⟩)
  have HR3:=hD (HR2.out.drewN (n1+n2))
  have HA3:=hD (HA2.out.drewN (n1+n2))
  have HB3:=hD (jd HB2.out (n1+n2))
  clear HX2 HR2 HA2 HB2 x1 z0 z1 q0' tR
  generalize W2.drewN (n1+n2)=W3 at *
  have z0:W3.cell? ⟨ga,0,none⟩=some (.int .i64 275313108):=HA3.out.cell 0
  have z1:W3.cell? ⟨ga,1,none⟩=some (.int .i64 275313108):=HA3.out.cell 1
  have l3:=HR3.out.lt
  have lift:∀w4,Below W3.heap.size W3 w4→Box w4 (g+1) 48 #[.int .i64 0,.int .i64 0]∧Below g w w4:=fun w4 b4=>⟨HR3.out.below b4,HB3.out.trans (b4.mono (by omega))⟩
  have HL:=hD lift
  clear lift HR3 HB3 HA3 l3
  go_wp2_with (go_at_call 173;refine(HN0.out _).mono ?_;rintro e w3 ⟨rfl,hb3⟩;obtain⟨HR,HB⟩:=HL.out _ hb3;have q0:w3.frozen? ⟨g+1,0,none⟩=false:=HR.free 0;have q1:w3.frozen? ⟨g+1,1,none⟩=false:=HR.free 1;have u0:w3.cell? ⟨g+1,0,none⟩=some (.int .i64 0):=HR.cell 0;have u1:w3.cell? ⟨g+1,1,none⟩=some (.int .i64 0):=HR.cell 1;replace HR:=hD HR;replace HB:=hD HB;clear hb3 HL)
  have HR4:=hD ((HR.out.set_ 0 (.int .i64 Y.1)).set_ 1 (.int .i64 Y.2))
  have HB4:=hD ((HB.out.setCell (p:=⟨g+1,0,none⟩) (by show g≤g+1;omega) (.int .i64 Y.1)).setCell (p:=⟨g+1,1,none⟩) (by show g≤g+1;omega) (.int .i64 Y.2))
  clear HR HB q0 q1 u0 u1
  generalize (w3.setCell ⟨g+1,0,none⟩ (.int .i64 Y.1)).setCell ⟨g+1,1,none⟩ (.int .i64 Y.2)=W4 at *
  have v0:W4.cell? ⟨g+1,0,none⟩=some (.int .i64 Y.1):=HR4.out.cell 0
  have v1:W4.cell? ⟨g+1,1,none⟩=some (.int .i64 Y.2):=HR4.out.cell 1
  refine bodyPost_ret (v:=.agg #[.int .i64 Y.1,.int .i64 Y.2]) (by simp[results,Tryz.results167,go_sem,v0,v1]) rfl ⟨_,_,rfl,Z0.out,?_⟩
  rw[HG.out]
  exact HB4.out
theorem YY (i:Int) (i0 : -300000000000000≤i) (i1:i≤300000000000000) (w:World):Calls Tryz.prog 123 #[.agg #[.int .i64 275313108,.int .i64 1002737909350806,.slice none 0 0,.int .i64 0],.int .i64 i] w fun e w'=>∃a b:Int,e = .returned (.tuple #[.agg #[.int .i64 a,.int .i64 b],.int .i64 0])∧kf a b∧Below w.heap.size w w':=by
 have HI:=hD (fun w=>JZ i w i0 i1)
 obtain⟨W1,g,hW1,HG,HX0,HX1,HB⟩:=vA w 187 #[.int .i64 275313108,.int .i64 1002737909350806,.slice none 0 0,.int .i64 0] 48 #[.int .i64 0,.int .i64 0]
 go_enter Tryz.func123,Tryz.ntmps123
 go_upto_region 1 with fail
 rw[hW1.out,HG.out]
 clear hW1
 have x0:W1.cell? ⟨g,0,none⟩=some (.int .i64 275313108):=HX0.out.cell 0
 have x1:W1.cell? ⟨g,1,none⟩=some (.int .i64 1002737909350806):=HX0.out.cell 1
 have x2:W1.cell? ⟨g,2,none⟩=some (.slice none 0 0):=HX0.out.cell 2
 have x3:W1.cell? ⟨g,3,none⟩=some (.int .i64 0):=HX0.out.cell 3
 go_upto_region 2 with(go_at_call 165;refine(YW _).mono ?_;rintro e w2 ⟨rfl,hb2⟩)
 have HX2:=hD (HX0.out.below hb2)
 have HR2:=hD (HX1.out.below hb2)
 have HB2:=hD (HB.out.trans (hb2.mono (by have:=HX1.out.lt;omega)))
 clear hb2 HX0 HX1 HB x0 x1 x2 x3
 go_upto_region 6 with(go_at_call 166;refine(HI.out _).mono ?_;rintro e w' ⟨rfl,n1,rfl⟩)
 have HX3:=hD (HX2.out.drewN n1)
 have HR3:=hD (HR2.out.drewN n1)
 have HB3:=hD (jd HB2.out n1)
 clear HX2 HR2 HB2
 generalize w2.drewN n1=w3 at *
 have x0:w3.cell? ⟨g,0,none⟩=some (.int .i64 275313108):=HX3.out.cell 0
 have x1:w3.cell? ⟨g,1,none⟩=some (.int .i64 1002737909350806):=HX3.out.cell 1
 have x2:w3.cell? ⟨g,2,none⟩=some (.slice none 0 0):=HX3.out.cell 2
 have x3:w3.cell? ⟨g,3,none⟩=some (.int .i64 0):=HX3.out.cell 3
 have l3:=HR3.out.lt
 have lift:∀w9,Below w3.heap.size w3 w9→Box w9 (g+1) 48 #[.int .i64 0,.int .i64 0]∧Below g w w9:=fun w9 b9=>⟨HR3.out.below b9,HB3.out.trans (b9.mono (by omega))⟩
 have HL:=hD lift
 clear lift l3
 go_wp2_with (go_at_call 167;refine(Vq i i0 i1 _).mono ?_;rintro e w9 ⟨u',v',rfl,hin,hb9⟩;obtain⟨HR9,HB9⟩:=HL.out _ hb9;replace HR9:=hD HR9;replace HB9:=hD HB9;have q0:w9.frozen? ⟨g+1,0,none⟩=false:=HR9.out.free 0;have q1:w9.frozen? ⟨g+1,1,none⟩=false:=HR9.out.free 1;have u0:w9.cell? ⟨g+1,0,none⟩=some (.int .i64 0):=HR9.out.cell 0;have u1:w9.cell? ⟨g+1,1,none⟩=some (.int .i64 0):=HR9.out.cell 1;clear hb9 HL x0 x1 x2 x3)
 obtain⟨v0,v1⟩:=jk (a:=.int .i64 u') (b:=.int .i64 v') HR9.out
 refine bodyPost_ret (v:=.tuple #[.agg #[.int .i64 u',.int .i64 v'],.int .i64 0]) (by simp[results,Tryz.results123,go_sem,v0,v1]) rfl ⟨_,_,rfl,hin,?_⟩
 rw[HG.out]
 exact(HB9.out.setCell (p:=⟨g+1,0,none⟩) (by show g≤g+1;omega) _).setCell (p:=⟨g+1,1,none⟩) (by show g≤g+1;omega) _
theorem jed (a b c d:Int) (w:World):Calls Tryz.prog 130 #[.agg #[.int .i64 a,.int .i64 b],.agg #[.int .i64 c,.int .i64 d]] w (zI qW w):=by
 obtain⟨W1,g,hW1,HG,HX0,HX1,HX2,HB⟩:=Xk w 48 #[.int .i64 a,.int .i64 b] 48 #[.int .i64 c,.int .i64 d] 48 #[.int .i64 0,.int .i64 0]
 go_enter Tryz.func130,Tryz.ntmps130
 go_upto_region 1 with fail
 rw[hW1.out,HG.out]
 clear hW1
 obtain⟨x0,x1⟩:=sqc HX0
 obtain⟨y0,y1⟩:=sqc HX1
 obtain⟨q0,u0,q1,u1⟩:=sqf HX2
 have K1:=hD (ku (a-d))
 have K2:=hD (ku (b-c))
 obtain⟨p,hp⟩:∃p,IntKind.i64.wrap (a-d)=p:=⟨_,rfl⟩
 obtain⟨q,hq⟩:∃q,IntKind.i64.wrap (b-c)=q:=⟨_,rfl⟩
 rw[hp] at K1
 rw[hq] at K2
 go_wp2_with fail
 obtain⟨W4,h4,v0,v1,hb4⟩:=sqt HX2 HB (by omega) (.int .i64 p) (.int .i64 q)
 clear q0 q1 u0 u1
 rw[h4.out]
 refine bodyPost_ret (v:=.agg #[.int .i64 p,.int .i64 q]) (by simp[results,Tryz.results130,go_sem,v0,v1]) rfl ⟨_,_,rfl,⟨K1.out,K2.out⟩,?_⟩
 rw[HG.out]
 exact hb4
theorem JH (w:World):Calls Tryz.prog 16 #[.agg #[.int .i64 0,.int .i64 0]] w fun e w'=>e = .returned (.int .i64 0)∧Below w.heap.size w w':=by
 obtain⟨W1,g,hW1,HG,HX0,HB⟩:=J2 w 38 #[.int .i64 0,.int .i64 0]
 go_enter Tryz.func16,Tryz.ntmps16
 go_upto_region 1 with fail
 rw[hW1.out,HG.out]
 clear hW1
 obtain⟨x0,x1⟩:=sqc HX0
 go_wp2_with fail
 go_ret
 exact⟨rfl,by rw[HG.out];exact HB.out⟩
theorem Vw (i:Int) (i0 : -300000000000000≤i) (i1:i≤300000000000000) (w:World):Calls Tryz.prog 137 #[.agg #[.int .i64 0,.int .i64 0],.int .i64 i] w fun e w'=>∃a b:Int,e = .returned (.tuple #[.agg #[.int .i64 a,.int .i64 b],.int .i64 0])∧kf a b∧Below w.heap.size w w':=by
 obtain⟨W1,g,hW1,HG,HX0,HX1,HB⟩:=vA w 38 #[.int .i64 0,.int .i64 0] 48 #[.int .i64 0,.int .i64 0]
 go_enter Tryz.func137,Tryz.ntmps137
 go_upto_region 1 with fail
 rw[hW1.out,HG.out]
 clear hW1
 obtain⟨x0,x1⟩:=sqc HX0
 go_upto_region 2 with(go_at_call 16;refine(JH _).mono ?_;rintro e w2 ⟨rfl,hb2⟩)
 have HX2:=hD (HX0.out.below hb2)
 have HR2:=hD (HX1.out.below hb2)
 have HB2:=hD (HB.out.trans (hb2.mono (by have:=HX1.out.lt;omega)))
 clear hb2 HX0 HX1 HB x0 x1
 go_upto_region 7 with(go_at_call 123;refine(YY i i0 i1 _).mono ?_;rintro e w3 ⟨a,b,rfl,hin,hb3⟩)
 have hb4:=jb hb3 (ja w3 (Obj.cells #[.int .i64 a,.int .i64 b] 48))
 have HX4:=hD (HX2.out.below hb4)
 have HR4:=hD (HR2.out.below hb4)
 have HS4:=hD (Box.new w3 48 #[.int .i64 a,.int .i64 b])
 have HB4:=hD (HB2.out.trans (hb4.mono (by have:=HR2.out.lt;omega)))
 clear hb3 hb4 HX2 HR2 HB2
 generalize w3.alloc (Obj.cells #[.int .i64 a,.int .i64 b] 48)=w4 at *
 generalize w3.heap.size=gs at *
 obtain⟨⟨a0,a1⟩,b0,b1⟩:=hin
 have HN:=hD (fun w=>yA a b w (by omega) (by omega) (by omega) (by omega))
 have HZ:Hid (kf (j7 a b).1 (j7 a b).2):=by unfold Hid kf j7;dsimp only;omega
 generalize j7 a b=Y at *
 obtain⟨x0,x1⟩:=sqc HX4
 have y0:w4.cell? ⟨gs,0,none⟩=some (.int .i64 a):=HS4.out.cell 0
 have y1:w4.cell? ⟨gs,1,none⟩=some (.int .i64 b):=HS4.out.cell 1
 have l3:=HR4.out.lt
 have lift:∀w9,Below w4.heap.size w4 w9→Box w9 (g+1) 48 #[.int .i64 0,.int .i64 0]∧Below g w w9:=fun w9 b9=>⟨HR4.out.below b9,HB4.out.trans (b9.mono (by omega))⟩
 have HL:=hD lift
 clear lift l3
 go_wp2_with (go_at_call 173;refine(HN.out _).mono ?_;rintro e w9 ⟨rfl,hb9⟩;obtain⟨HR9,HB9⟩:=HL.out _ hb9;replace HR9:=hD HR9;replace HB9:=hD HB9;have q0:w9.frozen? ⟨g+1,0,none⟩=false:=HR9.out.free 0;have q1:w9.frozen? ⟨g+1,1,none⟩=false:=HR9.out.free 1;have u0:w9.cell? ⟨g+1,0,none⟩=some (.int .i64 0):=HR9.out.cell 0;have u1:w9.cell? ⟨g+1,1,none⟩=some (.int .i64 0):=HR9.out.cell 1;clear hb9 HL x0 x1 y0 y1)
 obtain⟨v0,v1⟩:=jk (a:=.int .i64 Y.1) (b:=.int .i64 Y.2) HR9.out
 refine bodyPost_ret (v:=.tuple #[.agg #[.int .i64 Y.1,.int .i64 Y.2],.int .i64 0]) (by simp[results,Tryz.results137,go_sem,v0,v1]) rfl ⟨_,_,rfl,HZ.out,?_⟩
 rw[HG.out]
 exact(HB9.out.setCell (p:=⟨g+1,0,none⟩) (by show g≤g+1;omega) _).setCell (p:=⟨g+1,1,none⟩) (by show g≤g+1;omega) _
def PartQ (w:World) (e:Ending) (w':World):Prop:=∃a b c d p q er:Int,e = .returned (.tuple #[.agg #[.int .i64 a,.int .i64 b,.int .i64 c,.int .i64 d,.int .i64 p,.int .i64 q],.int .i64 er])∧InT a b∧Below w.heap.size w w'
abbrev XZ (W:World) (g:Nat) (a b c d p q:Int):World:=(((((W.setCell ⟨g,0,none⟩ (.int .i64 a)).setCell ⟨g,1,none⟩ (.int .i64 b)).setCell ⟨g,2,none⟩ (.int .i64 c)).setCell ⟨g,3,none⟩ (.int .i64 d)).setCell ⟨g,4,none⟩ (.int .i64 p)).setCell ⟨g,5,none⟩ (.int .i64 q)
theorem y8 {W:World} {g:Nat} {t:TypeId} {x0 x1 x2 x3 x4 x5:Value} (h:Box W g t #[x0,x1,x2,x3,x4,x5]) (a b c d p q:Int):Box (XZ W g a b c d p q) g t #[.int .i64 a,.int .i64 b,.int .i64 c,.int .i64 d,.int .i64 p,.int .i64 q] :=
 (((((h.set_ 0 (.int .i64 a)).set_ 1 (.int .i64 b)).set_ 2 (.int .i64 c)).set_ 3 (.int .i64 d)).set_ 4 (.int .i64 p)).set_ 5 (.int .i64 q)
theorem xg {w W:World} {B g:Nat} (h:Below B w W) (hg:B≤g) (a b c d p q:Int):Below B w (XZ W g a b c d p q) :=
 (((((h.setCell (p:=⟨g,0,none⟩) hg _).setCell (p:=⟨g,1,none⟩) hg _).setCell (p:=⟨g,2,none⟩) hg _).setCell (p:=⟨g,3,none⟩) hg _).setCell (p:=⟨g,4,none⟩) hg _).setCell (p:=⟨g,5,none⟩) hg _
theorem jf3 (a b c d i:Int) (i0 : -300000000000000≤i) (i1:i≤300000000000000) (w:World) (hT:TrigT w):Calls Tryz.prog 100 #[.agg #[.int .i64 0,.int .i64 0],.agg #[.int .i64 a,.int .i64 b],.agg #[.int .i64 c,.int .i64 d],.int .i64 i] w (PartQ w):=by
 have HT:=hD hT
 clear hT
 have HI2:=hD (fun j j0 j1=>YZ a b c d j j0 j1)
 obtain⟨W1,g,hW1,HG,HX0,HX1,HX2,HX3,HB⟩:=jez w 38 #[.int .i64 0,.int .i64 0] 48 #[.int .i64 a,.int .i64 b] 48 #[.int .i64 c,.int .i64 d] 167 #[.int .i64 0,.int .i64 0,.int .i64 0,.int .i64 0,.int .i64 0,.int .i64 0]
 go_enter Tryz.func100,Tryz.ntmps100
 go_upto_region 1 with fail
 rw[hW1.out,HG.out]
 clear hW1
 have HT1:=hD (HT.out.next (HG.out▸HB.out))
 clear HT
 obtain⟨fp0,fp1⟩:=sqc HX0
 go_upto_region 4 with(go_at_call 137;refine(Vw i i0 i1 _).mono ?_;rintro e wc1 ⟨u1,v1,rfl,hisid,hb1⟩)
 obtain⟨wn1,gn1,hW,hg,Hsid_1,ha1,ls1⟩:=sqn hb1 48 #[.int .i64 u1,.int .i64 v1]
 have lg1:=HX3.out.lt
 have Hp_1:=sqk HX0 ha1
 have Hra_1:=sqk HX1 ha1
 have Hdec_1:=sqk HX2 ha1
 have Hres_1:=sqk HX3 ha1
 have HT_1:=hD (HT1.out.next ha1)
 have HB_1:=hD (HB.out.trans (ha1.mono (by omega)))
 replace hisid:=hD hisid
 rw[hW.out,hg.out]
 have hg1:g+1+1+1<gn1:=by omega
 clear hW hg lg1 ls1 fp0 fp1 hb1 ha1 HX0 HX1 HX2 HX3 HB HT1
 obtain⟨fra0,fra1⟩:=sqc Hra_1
 obtain⟨fdec0,fdec1⟩:=sqc Hdec_1
 go_wp2_with fail
 clear fra0 fra1 fdec0 fdec1
 go_loopw [43] (fun iv wr=>∃j:Int,0≤j∧j≤2∧iv = .int .i64 j∧Hid (Below wn1.heap.size wn1 wr)) (fun iv _=>2-(intOf iv).toNat)
 case atStart=>exact⟨0,by omega,by omega,rfl,Below.refl _ _⟩
 case round =>
  obtain⟨j,j0,j2,rfl,HBr⟩:=hrel
  by_cases hlt:j<2
  ·have tl:decide (j<2)=true:=decide_eq_true hlt
   obtain⟨x,y,hix⟩:=HI2.out j j0 hlt
   have HBn:=hD (jb HBr.out (ja wr (Obj.cells #[.int .i64 x,.int .i64 y] 48)))
   clear HBr
   go_upto_region 8 with(go_at_call 125;refine(zM _ _ _).mono ?_;rintro e w2 ⟨er,rfl,her,hb2⟩)
   have HB2:=hD (jb HBn.out hb2)
   clear HBn her hb2 hix
   by_cases he:er=0
   ·subst he
    go_wp2_with fail
    go_roundw
    case rel=>exact⟨j+1,by omega,by omega,by go_num,HB2⟩
    case measure=>simp[intOf];omega
   ·have te:(er != 0)=true:=by rw[bne_iff_ne];exact he
    have HR2:=hD (Hres_1.out.below HB2.out)
    have HBB:=hD (HB_1.out.trans (HB2.out.mono (by have:=Hres_1.out.lt;omega)))
    clear he
    have q0:w2.cell? ⟨g+1+1+1,0,none⟩=some (.int .i64 0):=HR2.out.cell 0
    have q1:w2.cell? ⟨g+1+1+1,1,none⟩=some (.int .i64 0):=HR2.out.cell 1
    have q2:w2.cell? ⟨g+1+1+1,2,none⟩=some (.int .i64 0):=HR2.out.cell 2
    have q3:w2.cell? ⟨g+1+1+1,3,none⟩=some (.int .i64 0):=HR2.out.cell 3
    have q4:w2.cell? ⟨g+1+1+1,4,none⟩=some (.int .i64 0):=HR2.out.cell 4
    have q5:w2.cell? ⟨g+1+1+1,5,none⟩=some (.int .i64 0):=HR2.out.cell 5
    have qf:∀i,w2.frozen? ⟨g+1+1+1,i,none⟩=false:=fun i=>HR2.out.free i
    go_wp2_with fail
    clear q0 q1 q2 q3 q4 q5 qf
    have HF:=hD (y8 HR2.out (0) (0) (0) (0) (0) (0))
    have HFB:=hD (xg HBB.out (show g≤g+1+1+1 by omega) (0) (0) (0) (0) (0) (0))
    unfold XZ at HF HFB
    generalize ((((((w2.setCell ⟨g+1+1+1,0,none⟩ (.int .i64 (0))).setCell ⟨g+1+1+1,1,none⟩ (.int .i64 (0))).setCell ⟨g+1+1+1,2,none⟩ (.int .i64 (0))).setCell ⟨g+1+1+1,3,none⟩ (.int .i64 (0))).setCell ⟨g+1+1+1,4,none⟩ (.int .i64 (0))).setCell ⟨g+1+1+1,5,none⟩ (.int .i64 (0)))=w6 at *
    have v0:w6.cell? ⟨g+1+1+1,0,none⟩=some (.int .i64 (0)):=HF.out.cell 0
    have v1:w6.cell? ⟨g+1+1+1,1,none⟩=some (.int .i64 (0)):=HF.out.cell 1
    have v2:w6.cell? ⟨g+1+1+1,2,none⟩=some (.int .i64 (0)):=HF.out.cell 2
    have v3:w6.cell? ⟨g+1+1+1,3,none⟩=some (.int .i64 (0)):=HF.out.cell 3
    have v4:w6.cell? ⟨g+1+1+1,4,none⟩=some (.int .i64 (0)):=HF.out.cell 4
    have v5:w6.cell? ⟨g+1+1+1,5,none⟩=some (.int .i64 (0)):=HF.out.cell 5
    refine bodyPost_ret (v:=.tuple #[.agg #[.int .i64 (0),.int .i64 (0),.int .i64 (0),.int .i64 (0),.int .i64 (0),.int .i64 (0)],.int .i64 er]) (by simp[results,Tryz.results100,go_sem,v0,v1,v2,v3,v4,v5]) rfl ⟨_,_,_,_,_,_,_,rfl,by unfold InT;omega,?_⟩
    rw[HG.out]
    exact HFB.out
  ·have tl:decide (j<2)=false:=decide_eq_false hlt
   clear hlt j0 j2
   have HYp:=hD (Hp_1.out.below HBr.out)
   have HYra:=hD (Hra_1.out.below HBr.out)
   have HYdec:=hD (Hdec_1.out.below HBr.out)
   have HYres:=hD (Hres_1.out.below HBr.out)
   have HYsid:=hD (Hsid_1.out.below HBr.out)
   have HYT:=hD (HT_1.out.next HBr.out)
   have HBB:=hD (HB_1.out.trans (HBr.out.mono (by have:=Hres_1.out.lt;omega)))
   clear Hp_1 Hra_1 Hdec_1 Hres_1 Hsid_1 HT_1 HB_1 HBr HI2
   obtain⟨fra0,fra1⟩:=sqc HYra
   obtain⟨fdec0,fdec1⟩:=sqc HYdec
   by_cases h1:c < -250000000
   ·have th1:decide (c < -250000000)=true:=decide_eq_true h1
    have q0:wr.cell? ⟨g+1+1+1,0,none⟩=some (.int .i64 0):=HYres.out.cell 0
    have q1:wr.cell? ⟨g+1+1+1,1,none⟩=some (.int .i64 0):=HYres.out.cell 1
    have q2:wr.cell? ⟨g+1+1+1,2,none⟩=some (.int .i64 0):=HYres.out.cell 2
    have q3:wr.cell? ⟨g+1+1+1,3,none⟩=some (.int .i64 0):=HYres.out.cell 3
    have q4:wr.cell? ⟨g+1+1+1,4,none⟩=some (.int .i64 0):=HYres.out.cell 4
    have q5:wr.cell? ⟨g+1+1+1,5,none⟩=some (.int .i64 0):=HYres.out.cell 5
    have qf:∀i,wr.frozen? ⟨g+1+1+1,i,none⟩=false:=fun i=>HYres.out.free i
    go_wp2_with fail
    clear q0 q1 q2 q3 q4 q5 qf
    have HF:=hD (y8 HYres.out (0) (0) (0) (0) (0) (0))
    have HFB:=hD (xg HBB.out (show g≤g+1+1+1 by omega) (0) (0) (0) (0) (0) (0))
    unfold XZ at HF HFB
    generalize ((((((wr.setCell ⟨g+1+1+1,0,none⟩ (.int .i64 (0))).setCell ⟨g+1+1+1,1,none⟩ (.int .i64 (0))).setCell ⟨g+1+1+1,2,none⟩ (.int .i64 (0))).setCell ⟨g+1+1+1,3,none⟩ (.int .i64 (0))).setCell ⟨g+1+1+1,4,none⟩ (.int .i64 (0))).setCell ⟨g+1+1+1,5,none⟩ (.int .i64 (0)))=w6 at *
    have v0:w6.cell? ⟨g+1+1+1,0,none⟩=some (.int .i64 (0)):=HF.out.cell 0
    have v1:w6.cell? ⟨g+1+1+1,1,none⟩=some (.int .i64 (0)):=HF.out.cell 1
    have v2:w6.cell? ⟨g+1+1+1,2,none⟩=some (.int .i64 (0)):=HF.out.cell 2
    have v3:w6.cell? ⟨g+1+1+1,3,none⟩=some (.int .i64 (0)):=HF.out.cell 3
    have v4:w6.cell? ⟨g+1+1+1,4,none⟩=some (.int .i64 (0)):=HF.out.cell 4
    have v5:w6.cell? ⟨g+1+1+1,5,none⟩=some (.int .i64 (0)):=HF.out.cell 5
    refine bodyPost_ret (v:=.tuple #[.agg #[.int .i64 (0),.int .i64 (0),.int .i64 (0),.int .i64 (0),.int .i64 (0),.int .i64 (0)],.int .i64 3]) (by simp[results,Tryz.results100,go_sem,v0,v1,v2,v3,v4,v5]) rfl ⟨_,_,_,_,_,_,_,rfl,by unfold InT;omega,?_⟩
    rw[HG.out]
    exact HFB.out
   ·have th1:decide (c < -250000000)=false:=decide_eq_false h1
    by_cases h2:250000000<d
    ·have th2:decide (250000000<d)=true:=decide_eq_true h2
     have q0:wr.cell? ⟨g+1+1+1,0,none⟩=some (.int .i64 0):=HYres.out.cell 0
     have q1:wr.cell? ⟨g+1+1+1,1,none⟩=some (.int .i64 0):=HYres.out.cell 1
     have q2:wr.cell? ⟨g+1+1+1,2,none⟩=some (.int .i64 0):=HYres.out.cell 2
     have q3:wr.cell? ⟨g+1+1+1,3,none⟩=some (.int .i64 0):=HYres.out.cell 3
     have q4:wr.cell? ⟨g+1+1+1,4,none⟩=some (.int .i64 0):=HYres.out.cell 4
     have q5:wr.cell? ⟨g+1+1+1,5,none⟩=some (.int .i64 0):=HYres.out.cell 5
     have qf:∀i,wr.frozen? ⟨g+1+1+1,i,none⟩=false:=fun i=>HYres.out.free i
     go_wp2_with fail
     clear q0 q1 q2 q3 q4 q5 qf
     have HF:=hD (y8 HYres.out (0) (0) (0) (0) (0) (0))
     have HFB:=hD (xg HBB.out (show g≤g+1+1+1 by omega) (0) (0) (0) (0) (0) (0))
     unfold XZ at HF HFB
     generalize ((((((wr.setCell ⟨g+1+1+1,0,none⟩ (.int .i64 (0))).setCell ⟨g+1+1+1,1,none⟩ (.int .i64 (0))).setCell ⟨g+1+1+1,2,none⟩ (.int .i64 (0))).setCell ⟨g+1+1+1,3,none⟩ (.int .i64 (0))).setCell ⟨g+1+1+1,4,none⟩ (.int .i64 (0))).setCell ⟨g+1+1+1,5,none⟩ (.int .i64 (0)))=w6 at *
     have v0:w6.cell? ⟨g+1+1+1,0,none⟩=some (.int .i64 (0)):=HF.out.cell 0
     have v1:w6.cell? ⟨g+1+1+1,1,none⟩=some (.int .i64 (0)):=HF.out.cell 1
     have v2:w6.cell? ⟨g+1+1+1,2,none⟩=some (.int .i64 (0)):=HF.out.cell 2
     have v3:w6.cell? ⟨g+1+1+1,3,none⟩=some (.int .i64 (0)):=HF.out.cell 3
     have v4:w6.cell? ⟨g+1+1+1,4,none⟩=some (.int .i64 (0)):=HF.out.cell 4
     have v5:w6.cell? ⟨g+1+1+1,5,none⟩=some (.int .i64 (0)):=HF.out.cell 5
     refine bodyPost_ret (v:=.tuple #[.agg #[.int .i64 (0),.int .i64 (0),.int .i64 (0),.int .i64 (0),.int .i64 (0),.int .i64 (0)],.int .i64 3]) (by simp[results,Tryz.results100,go_sem,v0,v1,v2,v3,v4,v5]) rfl ⟨_,_,_,_,_,_,_,rfl,by unfold InT;omega,?_⟩
     rw[HG.out]
     exact HFB.out
    ·have th2:decide (250000000<d)=false:=decide_eq_false h2
     by_cases h3:a < -1000000000
     ·have th3:decide (a < -1000000000)=true:=decide_eq_true h3
      have q0:wr.cell? ⟨g+1+1+1,0,none⟩=some (.int .i64 0):=HYres.out.cell 0
      have q1:wr.cell? ⟨g+1+1+1,1,none⟩=some (.int .i64 0):=HYres.out.cell 1
      have q2:wr.cell? ⟨g+1+1+1,2,none⟩=some (.int .i64 0):=HYres.out.cell 2
      have q3:wr.cell? ⟨g+1+1+1,3,none⟩=some (.int .i64 0):=HYres.out.cell 3
      have q4:wr.cell? ⟨g+1+1+1,4,none⟩=some (.int .i64 0):=HYres.out.cell 4
      have q5:wr.cell? ⟨g+1+1+1,5,none⟩=some (.int .i64 0):=HYres.out.cell 5
      have qf:∀i,wr.frozen? ⟨g+1+1+1,i,none⟩=false:=fun i=>HYres.out.free i
      go_wp2_with fail
      clear q0 q1 q2 q3 q4 q5 qf
      have HF:=hD (y8 HYres.out (0) (0) (0) (0) (0) (0))
      have HFB:=hD (xg HBB.out (show g≤g+1+1+1 by omega) (0) (0) (0) (0) (0) (0))
      unfold XZ at HF HFB
      generalize ((((((wr.setCell ⟨g+1+1+1,0,none⟩ (.int .i64 (0))).setCell ⟨g+1+1+1,1,none⟩ (.int .i64 (0))).setCell ⟨g+1+1+1,2,none⟩ (.int .i64 (0))).setCell ⟨g+1+1+1,3,none⟩ (.int .i64 (0))).setCell ⟨g+1+1+1,4,none⟩ (.int .i64 (0))).setCell ⟨g+1+1+1,5,none⟩ (.int .i64 (0)))=w6 at *
      have v0:w6.cell? ⟨g+1+1+1,0,none⟩=some (.int .i64 (0)):=HF.out.cell 0
      have v1:w6.cell? ⟨g+1+1+1,1,none⟩=some (.int .i64 (0)):=HF.out.cell 1
      have v2:w6.cell? ⟨g+1+1+1,2,none⟩=some (.int .i64 (0)):=HF.out.cell 2
      have v3:w6.cell? ⟨g+1+1+1,3,none⟩=some (.int .i64 (0)):=HF.out.cell 3
      have v4:w6.cell? ⟨g+1+1+1,4,none⟩=some (.int .i64 (0)):=HF.out.cell 4
      have v5:w6.cell? ⟨g+1+1+1,5,none⟩=some (.int .i64 (0)):=HF.out.cell 5
      refine bodyPost_ret (v:=.tuple #[.agg #[.int .i64 (0),.int .i64 (0),.int .i64 (0),.int .i64 (0),.int .i64 (0),.int .i64 (0)],.int .i64 3]) (by simp[results,Tryz.results100,go_sem,v0,v1,v2,v3,v4,v5]) rfl ⟨_,_,_,_,_,_,_,rfl,by unfold InT;omega,?_⟩
      rw[HG.out]
      exact HFB.out
     ·have th3:decide (a < -1000000000)=false:=decide_eq_false h3
      by_cases h4:3000000000<b
      ·have th4:decide (3000000000<b)=true:=decide_eq_true h4
       have q0:wr.cell? ⟨g+1+1+1,0,none⟩=some (.int .i64 0):=HYres.out.cell 0
       have q1:wr.cell? ⟨g+1+1+1,1,none⟩=some (.int .i64 0):=HYres.out.cell 1
       have q2:wr.cell? ⟨g+1+1+1,2,none⟩=some (.int .i64 0):=HYres.out.cell 2
       have q3:wr.cell? ⟨g+1+1+1,3,none⟩=some (.int .i64 0):=HYres.out.cell 3
       have q4:wr.cell? ⟨g+1+1+1,4,none⟩=some (.int .i64 0):=HYres.out.cell 4
       have q5:wr.cell? ⟨g+1+1+1,5,none⟩=some (.int .i64 0):=HYres.out.cell 5
       have qf:∀i,wr.frozen? ⟨g+1+1+1,i,none⟩=false:=fun i=>HYres.out.free i
       go_wp2_with fail
       clear q0 q1 q2 q3 q4 q5 qf
       have HF:=hD (y8 HYres.out (0) (0) (0) (0) (0) (0))
       have HFB:=hD (xg HBB.out (show g≤g+1+1+1 by omega) (0) (0) (0) (0) (0) (0))
       unfold XZ at HF HFB
       generalize ((((((wr.setCell ⟨g+1+1+1,0,none⟩ (.int .i64 (0))).setCell ⟨g+1+1+1,1,none⟩ (.int .i64 (0))).setCell ⟨g+1+1+1,2,none⟩ (.int .i64 (0))).setCell ⟨g+1+1+1,3,none⟩ (.int .i64 (0))).setCell ⟨g+1+1+1,4,none⟩ (.int .i64 (0))).setCell ⟨g+1+1+1,5,none⟩ (.int .i64 (0)))=w6 at *
       have v0:w6.cell? ⟨g+1+1+1,0,none⟩=some (.int .i64 (0)):=HF.out.cell 0
       have v1:w6.cell? ⟨g+1+1+1,1,none⟩=some (.int .i64 (0)):=HF.out.cell 1
       have v2:w6.cell? ⟨g+1+1+1,2,none⟩=some (.int .i64 (0)):=HF.out.cell 2
       have v3:w6.cell? ⟨g+1+1+1,3,none⟩=some (.int .i64 (0)):=HF.out.cell 3
       have v4:w6.cell? ⟨g+1+1+1,4,none⟩=some (.int .i64 (0)):=HF.out.cell 4
       have v5:w6.cell? ⟨g+1+1+1,5,none⟩=some (.int .i64 (0)):=HF.out.cell 5
       refine bodyPost_ret (v:=.tuple #[.agg #[.int .i64 (0),.int .i64 (0),.int .i64 (0),.int .i64 (0),.int .i64 (0),.int .i64 (0)],.int .i64 3]) (by simp[results,Tryz.results100,go_sem,v0,v1,v2,v3,v4,v5]) rfl ⟨_,_,_,_,_,_,_,rfl,by unfold InT;omega,?_⟩
       rw[HG.out]
       exact HFB.out
      ·have th4:decide (3000000000<b)=false:=decide_eq_false h4
       go_upto_region 13 with fail
       clear fra0 fra1 fdec0 fdec1 h1 th1 h2 th2 h3 th3 h4 th4
       obtain⟨fsid0,fsid1⟩:=sqc HYsid
       obtain⟨fra0,fra1⟩:=sqc HYra
       go_upto_region 14 with(go_at_call 130;refine(jed _ _ _ _ _).mono ?_;rintro e wc2 ⟨u2,v2,rfl,hihh,hb2⟩)
       obtain⟨wn2,gn2,hW,hg,Hhh_2,ha2,ls2⟩:=sqn hb2 48 #[.int .i64 u2,.int .i64 v2]
       have lg2:=HYres.out.lt
       have Hp_2:=sqk HYp ha2
       have Hdec_2:=sqk HYdec ha2
       have Hres_2:=sqk HYres ha2
       have HT_2:=hD (HYT.out.next ha2)
       have HB_2:=hD (HBB.out.trans (ha2.mono (by omega)))
       replace hihh:=hD hihh
       rw[hW.out,hg.out]
       have hg2:g+1+1+1<gn2:=by omega
       clear hW hg lg2 ls2 fsid0 fsid1 fra0 fra1 hb2 ha2 HYp HYra HYdec HYres HYsid HBB HYT
       obtain⟨fhh0,fhh1⟩:=sqc Hhh_2
       go_upto_region 15 with(go_at_call 126;refine(zg _ _ _ HT_2.out).mono ?_;rintro e wc3 ⟨u3,v3,er3,rfl,hisH,hb3⟩)
       obtain⟨wn3,gn3,hW,hg,HsH_3,ha3,ls3⟩:=sqn hb3 48 #[.int .i64 u3,.int .i64 v3]
       have lg3:=Hres_2.out.lt
       have Hp_3:=sqk Hp_2 ha3
       have Hdec_3:=sqk Hdec_2 ha3
       have Hres_3:=sqk Hres_2 ha3
       have Hhh_3:=sqk Hhh_2 ha3
       have HT_3:=hD (HT_2.out.next ha3)
       have HB_3:=hD (HB_2.out.trans (ha3.mono (by omega)))
       replace hisH:=hD hisH
       rw[hW.out,hg.out]
       have hg3:g+1+1+1<gn3:=by omega
       clear hW hg lg3 ls3 fhh0 fhh1 hb3 ha3 Hp_2 Hdec_2 Hres_2 Hhh_2 HB_2 HT_2
       obtain⟨fhh0,fhh1⟩:=sqc Hhh_3
       go_upto_region 16 with(go_at_call 127;refine(xB _ _ _ HT_3.out).mono ?_;rintro e wc4 ⟨u4,v4,er4,rfl,hicH,hb4⟩)
       obtain⟨wn4,gn4,hW,hg,HcH_4,ha4,ls4⟩:=sqn hb4 48 #[.int .i64 u4,.int .i64 v4]
       have lg4:=Hres_3.out.lt
       have Hp_4:=sqk Hp_3 ha4
       have Hdec_4:=sqk Hdec_3 ha4
       have Hres_4:=sqk Hres_3 ha4
       have HsH_4:=sqk HsH_3 ha4
       have HT_4:=hD (HT_3.out.next ha4)
       have HB_4:=hD (HB_3.out.trans (ha4.mono (by omega)))
       replace hicH:=hD hicH
       rw[hW.out,hg.out]
       have hg4:g+1+1+1<gn4:=by omega
       clear hW hg lg4 ls4 fhh0 fhh1 hb4 ha4 Hp_3 Hdec_3 Hres_3 Hhh_3 HsH_3 HB_3 HT_3
       obtain⟨fdec0,fdec1⟩:=sqc Hdec_4
       go_upto_region 17 with(go_at_call 126;refine(zg _ _ _ HT_4.out).mono ?_;rintro e wc5 ⟨u5,v5,er5,rfl,hisD,hb5⟩)
       obtain⟨wn5,gn5,hW,hg,HsD_5,ha5,ls5⟩:=sqn hb5 48 #[.int .i64 u5,.int .i64 v5]
       have lg5:=Hres_4.out.lt
       have Hp_5:=sqk Hp_4 ha5
       have Hdec_5:=sqk Hdec_4 ha5
       have Hres_5:=sqk Hres_4 ha5
       have HsH_5:=sqk HsH_4 ha5
       have HcH_5:=sqk HcH_4 ha5
       have HT_5:=hD (HT_4.out.next ha5)
       have HB_5:=hD (HB_4.out.trans (ha5.mono (by omega)))
       replace hisD:=hD hisD
       rw[hW.out,hg.out]
       have hg5:g+1+1+1<gn5:=by omega
       clear hW hg lg5 ls5 fdec0 fdec1 hb5 ha5 Hp_4 Hdec_4 Hres_4 HsH_4 HcH_4 HB_4 HT_4
       obtain⟨fdec0,fdec1⟩:=sqc Hdec_5
       go_upto_region 18 with(go_at_call 127;refine(xB _ _ _ HT_5.out).mono ?_;rintro e wc6 ⟨u6,v6,er6,rfl,hicD,hb6⟩)
       obtain⟨wn6,gn6,hW,hg,HcD_6,ha6,ls6⟩:=sqn hb6 48 #[.int .i64 u6,.int .i64 v6]
       have lg6:=Hres_5.out.lt
       have Hp_6:=sqk Hp_5 ha6
       have Hres_6:=sqk Hres_5 ha6
       have HsH_6:=sqk HsH_5 ha6
       have HcH_6:=sqk HcH_5 ha6
       have HsD_6:=sqk HsD_5 ha6
       have HT_6:=hD (HT_5.out.next ha6)
       have HB_6:=hD (HB_5.out.trans (ha6.mono (by omega)))
       replace hicD:=hD hicD
       rw[hW.out,hg.out]
       have hg6:g+1+1+1<gn6:=by omega
       clear hW hg lg6 ls6 fdec0 fdec1 hb6 ha6 Hp_5 Hdec_5 Hres_5 HsH_5 HcH_5 HsD_5 HB_5 HT_5
       obtain⟨fp0,fp1⟩:=sqc Hp_6
       go_upto_region 19 with(go_at_call 138;refine(Xl _ _ HT_6.out (by decide) (by decide)).mono ?_;rintro e wc7 ⟨u7,v7,er7,rfl,hisF,hb7⟩)
       obtain⟨wn7,gn7,hW,hg,HsF_7,ha7,ls7⟩:=sqn hb7 48 #[.int .i64 u7,.int .i64 v7]
       have lg7:=Hres_6.out.lt
       have Hp_7:=sqk Hp_6 ha7
       have Hres_7:=sqk Hres_6 ha7
       have HsH_7:=sqk HsH_6 ha7
       have HcH_7:=sqk HcH_6 ha7
       have HsD_7:=sqk HsD_6 ha7
       have HcD_7:=sqk HcD_6 ha7
       have HT_7:=hD (HT_6.out.next ha7)
       have HB_7:=hD (HB_6.out.trans (ha7.mono (by omega)))
       replace hisF:=hD hisF
       rw[hW.out,hg.out]
       have hg7:g+1+1+1<gn7:=by omega
       clear hW hg lg7 ls7 fp0 fp1 hb7 ha7 Hp_6 Hres_6 HsH_6 HcH_6 HsD_6 HcD_6 HB_6 HT_6
       obtain⟨fp0,fp1⟩:=sqc Hp_7
       go_upto_region 20 with(go_at_call 139;refine(XG _ _ HT_7.out (by decide) (by decide)).mono ?_;rintro e wc8 ⟨u8,v8,er8,rfl,hicF,hb8⟩)
       obtain⟨wn8,gn8,hW,hg,HcF_8,ha8,ls8⟩:=sqn hb8 48 #[.int .i64 u8,.int .i64 v8]
       have lg8:=Hres_7.out.lt
       have Hres_8:=sqk Hres_7 ha8
       have HsH_8:=sqk HsH_7 ha8
       have HcH_8:=sqk HcH_7 ha8
       have HsD_8:=sqk HsD_7 ha8
       have HcD_8:=sqk HcD_7 ha8
       have HsF_8:=sqk HsF_7 ha8
       have HT_8:=hD (HT_7.out.next ha8)
       have HB_8:=hD (HB_7.out.trans (ha8.mono (by omega)))
       replace hicF:=hD hicF
       rw[hW.out,hg.out]
       have hg8:g+1+1+1<gn8:=by omega
       clear hW hg lg8 ls8 fp0 fp1 hb8 ha8 Hp_7 Hres_7 HsH_7 HcH_7 HsD_7 HcD_7 HsF_7 HB_7 HT_7
       obtain⟨fcD0,fcD1⟩:=sqc HcD_8
       obtain⟨fcH0,fcH1⟩:=sqc HcH_8
       go_upto_region 21 with(go_at_call 129;refine(qh _ _ _ _ _ hicD.out hicH.out).mono ?_;rintro e wc9 ⟨u9,v9,rfl,hinr,hb9⟩)
       obtain⟨wn9,gn9,hW,hg,Hnr_9,ha9,ls9⟩:=sqn hb9 48 #[.int .i64 u9,.int .i64 v9]
       have lg9:=Hres_8.out.lt
       have Hres_9:=sqk Hres_8 ha9
       have HsH_9:=sqk HsH_8 ha9
       have HsD_9:=sqk HsD_8 ha9
       have HcD_9:=sqk HcD_8 ha9
       have HsF_9:=sqk HsF_8 ha9
       have HcF_9:=sqk HcF_8 ha9
       have HT_9:=hD (HT_8.out.next ha9)
       have HB_9:=hD (HB_8.out.trans (ha9.mono (by omega)))
       replace hinr:=hD hinr
       rw[hW.out,hg.out]
       have hg9:g+1+1+1<gn9:=by omega
       clear hW hg lg9 ls9 fcD0 fcD1 fcH0 fcH1 hb9 ha9 Hres_8 HsH_8 HcH_8 HsD_8 HcD_8 HsF_8 HcF_8 HB_8 HT_8
       obtain⟨fcD0,fcD1⟩:=sqc HcD_9
       obtain⟨fsH0,fsH1⟩:=sqc HsH_9
       go_upto_region 22 with(go_at_call 129;refine(qh _ _ _ _ _ hicD.out hisH.out).mono ?_;rintro e wc10 ⟨u10,v10,rfl,hiea,hb10⟩)
       obtain⟨wn10,gn10,hW,hg,Hea_10,ha10,ls10⟩:=sqn hb10 48 #[.int .i64 u10,.int .i64 v10]
       have lg10:=Hres_9.out.lt
       have Hres_10:=sqk Hres_9 ha10
       have HsD_10:=sqk HsD_9 ha10
       have HsF_10:=sqk HsF_9 ha10
       have HcF_10:=sqk HcF_9 ha10
       have Hnr_10:=sqk Hnr_9 ha10
       have HT_10:=hD (HT_9.out.next ha10)
       have HB_10:=hD (HB_9.out.trans (ha10.mono (by omega)))
       replace hiea:=hD hiea
       rw[hW.out,hg.out]
       have hg10:g+1+1+1<gn10:=by omega
       clear hW hg lg10 ls10 fcD0 fcD1 fsH0 fsH1 hb10 ha10 Hres_9 HsH_9 HsD_9 HcD_9 HsF_9 HcF_9 Hnr_9 HB_9 HT_9
       have zsF0:∀w,Below wn10.heap.size wn10 w→w.cell? ⟨gn7,0,none⟩=some (.int .i64 (u7)):=fun w hb=>(HsF_10.out.below hb).cell 0
       have zsF1:∀w,Below wn10.heap.size wn10 w→w.cell? ⟨gn7,1,none⟩=some (.int .i64 (v7)):=fun w hb=>(HsF_10.out.below hb).cell 1
       have zsD0:∀w,Below wn10.heap.size wn10 w→w.cell? ⟨gn5,0,none⟩=some (.int .i64 (u5)):=fun w hb=>(HsD_10.out.below hb).cell 0
       have zsD1:∀w,Below wn10.heap.size wn10 w→w.cell? ⟨gn5,1,none⟩=some (.int .i64 (v5)):=fun w hb=>(HsD_10.out.below hb).cell 1
       have zcF0:∀w,Below wn10.heap.size wn10 w→w.cell? ⟨gn8,0,none⟩=some (.int .i64 (u8)):=fun w hb=>(HcF_10.out.below hb).cell 0
       have zcF1:∀w,Below wn10.heap.size wn10 w→w.cell? ⟨gn8,1,none⟩=some (.int .i64 (v8)):=fun w hb=>(HcF_10.out.below hb).cell 1
       have znr0:∀w,Below wn10.heap.size wn10 w→w.cell? ⟨gn9,0,none⟩=some (.int .i64 (u9)):=fun w hb=>(Hnr_10.out.below hb).cell 0
       have znr1:∀w,Below wn10.heap.size wn10 w→w.cell? ⟨gn9,1,none⟩=some (.int .i64 (v9)):=fun w hb=>(Hnr_10.out.below hb).cell 1
       have zea0:∀w,Below wn10.heap.size wn10 w→w.cell? ⟨gn10,0,none⟩=some (.int .i64 (u10)):=fun w hb=>(Hea_10.out.below hb).cell 0
       have zea1:∀w,Below wn10.heap.size wn10 w→w.cell? ⟨gn10,1,none⟩=some (.int .i64 (v10)):=fun w hb=>(Hea_10.out.below hb).cell 1
       have hea:=hiea.out
       unfold InT at hea
       have n0:IntKind.i64.wrap (-u10) = -u10:=by simp only[IntKind.wrap_i64];omega
       have n1:IntKind.i64.wrap (-v10) = -v10:=by simp only[IntKind.wrap_i64];omega
       clear hea
       refine jr 25 (jy [(2,⟨fun v=>∃x y,v = .agg #[.int .i64 x,.int .i64 y]∧InT x y,fun _ _=>True⟩),(5,⟨fun v=>∃x y,v = .agg #[.int .i64 x,.int .i64 y]∧InT x y,fun _ _=>True⟩),(6,⟨fun v=>∃x y,v = .agg #[.int .i64 x,.int .i64 y]∧qW x y,fun _ _=>True⟩),(7,⟨fun v=>∃x y,v = .agg #[.int .i64 x,.int .i64 y]∧InT x y,fun _ _=>True⟩),(15,⟨fun v=>∃x y,v = .agg #[.int .i64 x,.int .i64 y]∧InT x y,fun _ _=>True⟩),(18,⟨fun v=>∃x y,v = .agg #[.int .i64 x,.int .i64 y]∧InT x y,fun _ _=>True⟩),(21,⟨fun v=>∃x y,v = .agg #[.int .i64 x,.int .i64 y]∧InT x y,fun _ _=>True⟩),(22,⟨fun v=>∃x y,v = .agg #[.int .i64 x,.int .i64 y]∧qW x y,fun _ _=>True⟩),(23,⟨fun v=>∃x y,v = .agg #[.int .i64 x,.int .i64 y]∧InT x y,fun _ _=>True⟩)]) (by kernel_rfl) (by kernel_rfl) ?_
       simp only[List.take_succ_cons,List.take_zero,List.drop_succ_cons,List.drop_zero]
       repeat (first|(refine jf (v:=?_) (by rfl) (by rfl) (fun w hb=>?_) ?_;rotate_left;(· go_simp<;>(repeat' apply And.intro)<;>with_reducible rfl);try simp only[pZ,Nat.reduceAdd])|(refine je (by rfl) (by rfl) ?_;try simp only[pZ,Nat.reduceAdd]))
       refine jl (f:=?_) (args:=?_) [] (by kernel_rfl) (by rfl) (by rfl) ?_ ?_ (fun w hb=>?_) (fun w hb hu=>?_) ?_;rotate_left 4;(· go_simp<;>(repeat' apply And.intro)<;>with_reducible rfl)
       ·refine(qh _ _ _ _ w hisF.out hisD.out).mono ?_
        rintro e w' ⟨x,y,he,hi,hb'⟩
        exact⟨_,he,⟨x,y,rfl,hi⟩,trivial,hb'⟩
       rintro v ⟨r2,s2,rfl,k2⟩
       try simp only[pZ,Nat.reduceAdd]
       repeat (first|(refine jf (v:=?_) (by rfl) (by rfl) (fun w hb=>?_) ?_;rotate_left;(· go_simp<;>(repeat' apply And.intro)<;>with_reducible rfl);try simp only[pZ,Nat.reduceAdd])|(refine je (by rfl) (by rfl) ?_;try simp only[pZ,Nat.reduceAdd]))
       refine jl (f:=?_) (args:=?_) [] (by kernel_rfl) (by rfl) (by rfl) ?_ ?_ (fun w hb=>?_) (fun w hb hu=>?_) ?_;rotate_left 4;(· go_simp<;>(repeat' apply And.intro)<;>with_reducible rfl)
       ·refine(qh _ _ _ _ w hicF.out hinr.out).mono ?_
        rintro e w' ⟨x,y,he,hi,hb'⟩
        exact⟨_,he,⟨x,y,rfl,hi⟩,trivial,hb'⟩
       rintro v ⟨r5,s5,rfl,k5⟩
       try simp only[pZ,Nat.reduceAdd]
       repeat (first|(refine jf (v:=?_) (by rfl) (by rfl) (fun w hb=>?_) ?_;rotate_left;(· go_simp<;>(repeat' apply And.intro)<;>with_reducible rfl);try simp only[pZ,Nat.reduceAdd])|(refine je (by rfl) (by rfl) ?_;try simp only[pZ,Nat.reduceAdd]))
       refine jl (f:=?_) (args:=?_) [] (by kernel_rfl) (by rfl) (by rfl) ?_ ?_ (fun w hb=>?_) (fun w hb hu=>?_) ?_;rotate_left 4;(· go_simp<;>(repeat' apply And.intro)<;>with_reducible rfl)
       ·refine(X6 _ _ _ _ w k2 k5).mono ?_
        rintro e w' ⟨x,y,he,hi,hb'⟩
        exact⟨_,he,⟨x,y,rfl,hi⟩,trivial,hb'⟩
       rintro v ⟨r6,s6,rfl,k6⟩
       try simp only[pZ,Nat.reduceAdd]
       repeat (first|(refine jf (v:=?_) (by rfl) (by rfl) (fun w hb=>?_) ?_;rotate_left;(· go_simp<;>(repeat' apply And.intro)<;>with_reducible rfl);try simp only[pZ,Nat.reduceAdd])|(refine je (by rfl) (by rfl) ?_;try simp only[pZ,Nat.reduceAdd]))
       refine jl (f:=?_) (args:=?_) [] (by kernel_rfl) (by rfl) (by rfl) ?_ ?_ (fun w hb=>?_) (fun w hb hu=>?_) ?_;rotate_left 4;(· go_simp<;>(repeat' apply And.intro)<;>with_reducible rfl)
       ·refine(kL _ _ w).mono ?_
        rintro e w' ⟨x,y,he,hi,hb'⟩
        exact⟨_,he,⟨x,y,rfl,hi⟩,trivial,hb'⟩
       rintro v ⟨r7,s7,rfl,k7⟩
       try simp only[pZ,Nat.reduceAdd]
       repeat (first|(refine jf (v:=?_) (by rfl) (by rfl) (fun w hb=>?_) ?_;rotate_left;(· go_simp<;>(repeat' apply And.intro)<;>with_reducible rfl);try simp only[pZ,Nat.reduceAdd])|(refine je (by rfl) (by rfl) ?_;try simp only[pZ,Nat.reduceAdd]))
       refine jl (f:=?_) (args:=?_) [] (by kernel_rfl) (by rfl) (by rfl) ?_ ?_ (fun w hb=>?_) (fun w hb hu=>?_) ?_;rotate_left 4;(· go_simp<;>(repeat' apply And.intro)<;>with_reducible rfl)
       ·refine(kL _ _ w).mono ?_
        rintro e w' ⟨x,y,he,hi,hb'⟩
        exact⟨_,he,⟨x,y,rfl,hi⟩,trivial,hb'⟩
       rintro v ⟨r15,s15,rfl,k15⟩
       try simp only[pZ,Nat.reduceAdd]
       repeat (first|(refine jf (v:=?_) (by rfl) (by rfl) (fun w hb=>?_) ?_;rotate_left;(· go_simp<;>(repeat' apply And.intro)<;>with_reducible rfl);try simp only[pZ,Nat.reduceAdd])|(refine je (by rfl) (by rfl) ?_;try simp only[pZ,Nat.reduceAdd]))
       refine jl (f:=?_) (args:=?_) [] (by kernel_rfl) (by rfl) (by rfl) ?_ ?_ (fun w hb=>?_) (fun w hb hu=>?_) ?_;rotate_left 4;(· go_simp<;>(repeat' apply And.intro)<;>with_reducible rfl)
       ·refine(qh _ _ _ _ w hicF.out hisD.out).mono ?_
        rintro e w' ⟨x,y,he,hi,hb'⟩
        exact⟨_,he,⟨x,y,rfl,hi⟩,trivial,hb'⟩
       rintro v ⟨r18,s18,rfl,k18⟩
       try simp only[pZ,Nat.reduceAdd]
       repeat (first|(refine jf (v:=?_) (by rfl) (by rfl) (fun w hb=>?_) ?_;rotate_left;(· go_simp<;>(repeat' apply And.intro)<;>with_reducible rfl);try simp only[pZ,Nat.reduceAdd])|(refine je (by rfl) (by rfl) ?_;try simp only[pZ,Nat.reduceAdd]))
       refine jl (f:=?_) (args:=?_) [] (by kernel_rfl) (by rfl) (by rfl) ?_ ?_ (fun w hb=>?_) (fun w hb hu=>?_) ?_;rotate_left 4;(· go_simp<;>(repeat' apply And.intro)<;>with_reducible rfl)
       ·refine(qh _ _ _ _ w hisF.out hinr.out).mono ?_
        rintro e w' ⟨x,y,he,hi,hb'⟩
        exact⟨_,he,⟨x,y,rfl,hi⟩,trivial,hb'⟩
       rintro v ⟨r21,s21,rfl,k21⟩
       try simp only[pZ,Nat.reduceAdd]
       repeat (first|(refine jf (v:=?_) (by rfl) (by rfl) (fun w hb=>?_) ?_;rotate_left;(· go_simp<;>(repeat' apply And.intro)<;>with_reducible rfl);try simp only[pZ,Nat.reduceAdd])|(refine je (by rfl) (by rfl) ?_;try simp only[pZ,Nat.reduceAdd]))
       refine jl (f:=?_) (args:=?_) [] (by kernel_rfl) (by rfl) (by rfl) ?_ ?_ (fun w hb=>?_) (fun w hb hu=>?_) ?_;rotate_left 4;(· go_simp<;>(repeat' apply And.intro)<;>with_reducible rfl)
       ·refine(VU _ _ _ _ w k18 k21).mono ?_
        rintro e w' ⟨x,y,he,hi,hb'⟩
        exact⟨_,he,⟨x,y,rfl,hi⟩,trivial,hb'⟩
       rintro v ⟨r22,s22,rfl,k22⟩
       try simp only[pZ,Nat.reduceAdd]
       repeat (first|(refine jf (v:=?_) (by rfl) (by rfl) (fun w hb=>?_) ?_;rotate_left;(· go_simp<;>(repeat' apply And.intro)<;>with_reducible rfl);try simp only[pZ,Nat.reduceAdd])|(refine je (by rfl) (by rfl) ?_;try simp only[pZ,Nat.reduceAdd]))
       refine jl (f:=?_) (args:=?_) [] (by kernel_rfl) (by rfl) (by rfl) ?_ ?_ (fun w hb=>?_) (fun w hb hu=>?_) ?_;rotate_left 4;(· go_simp<;>(repeat' apply And.intro)<;>with_reducible rfl)
       ·refine(kL _ _ w).mono ?_
        rintro e w' ⟨x,y,he,hi,hb'⟩
        exact⟨_,he,⟨x,y,rfl,hi⟩,trivial,hb'⟩
       rintro v ⟨r23,s23,rfl,k23⟩
       try simp only[pZ,Nat.reduceAdd]
       repeat (first|(refine jf (v:=?_) (by rfl) (by rfl) (fun w hb=>?_) ?_;rotate_left;(· go_simp<;>(repeat' apply And.intro)<;>with_reducible rfl);try simp only[pZ,Nat.reduceAdd])|(refine je (by rfl) (by rfl) ?_;try simp only[pZ,Nat.reduceAdd]))
       refine jo fun wf hbf hf=>?_
       any_goals (first|exact⟨_,0,0,rfl,by(first|unfold InT|unfold qW);omega⟩|exact fun _ _ _ _ h=>h)
       have lr:=Hres_10.out.lt
       have KR:=hD (Hres_10.out.below hbf)
       have KB:=hD (HB_10.out.trans (hbf.mono (by omega)))
       have q0:wf.cell? ⟨g+1+1+1,0,none⟩=some (.int .i64 0):=KR.out.cell 0
       have q1:wf.cell? ⟨g+1+1+1,1,none⟩=some (.int .i64 0):=KR.out.cell 1
       have q2:wf.cell? ⟨g+1+1+1,2,none⟩=some (.int .i64 0):=KR.out.cell 2
       have q3:wf.cell? ⟨g+1+1+1,3,none⟩=some (.int .i64 0):=KR.out.cell 3
       have q4:wf.cell? ⟨g+1+1+1,4,none⟩=some (.int .i64 0):=KR.out.cell 4
       have q5:wf.cell? ⟨g+1+1+1,5,none⟩=some (.int .i64 0):=KR.out.cell 5
       have qf:∀i,wf.frozen? ⟨g+1+1+1,i,none⟩=false:=fun i=>KR.out.free i
       have ql:g+1+1+1<wf.heap.size:=KR.out.lt
       have HK7:=hD k7
       clear hf hbf lr n0 n1 k2 k5 k6 k7 k15 k18 k21 k22 k23 zsF0 zsF1 zsD0 zsD1 zcF0 zcF1 znr0 znr1 zea0 zea1
       refine wpList_step fun K hK=>?_
       rw[if_pos (by rfl)]
       go_simp
       refine hK _ _ ?_
       clear hK K
       refine wpList_step fun K hK=>?_
       rw[if_pos (by rfl)]
       go_simp
       refine hK _ _ (wpList_nil ?_)
       clear hK K q0 q1 q2 q3 q4 q5 qf ql
       have HF:=hD (y8 KR.out (r7) (s7) (r15) (s15) (r23) (s23))
       have HFB:=hD (xg KB.out (show g≤g+1+1+1 by omega) (r7) (s7) (r15) (s15) (r23) (s23))
       unfold XZ at HF HFB
       generalize ((((((wf.setCell ⟨g+1+1+1,0,none⟩ (.int .i64 (r7))).setCell ⟨g+1+1+1,1,none⟩ (.int .i64 (s7))).setCell ⟨g+1+1+1,2,none⟩ (.int .i64 (r15))).setCell ⟨g+1+1+1,3,none⟩ (.int .i64 (s15))).setCell ⟨g+1+1+1,4,none⟩ (.int .i64 (r23))).setCell ⟨g+1+1+1,5,none⟩ (.int .i64 (s23)))=w6 at *
       have v0:w6.cell? ⟨g+1+1+1,0,none⟩=some (.int .i64 (r7)):=HF.out.cell 0
       have v1:w6.cell? ⟨g+1+1+1,1,none⟩=some (.int .i64 (s7)):=HF.out.cell 1
       have v2:w6.cell? ⟨g+1+1+1,2,none⟩=some (.int .i64 (r15)):=HF.out.cell 2
       have v3:w6.cell? ⟨g+1+1+1,3,none⟩=some (.int .i64 (s15)):=HF.out.cell 3
       have v4:w6.cell? ⟨g+1+1+1,4,none⟩=some (.int .i64 (r23)):=HF.out.cell 4
       have v5:w6.cell? ⟨g+1+1+1,5,none⟩=some (.int .i64 (s23)):=HF.out.cell 5
       go_wp2_with fail
       refine bodyPost_ret (v:=.tuple #[.agg #[.int .i64 (r7),.int .i64 (s7),.int .i64 (r15),.int .i64 (s15),.int .i64 (r23),.int .i64 (s23)],.int .i64 0]) (by simp[results,Tryz.results100,go_sem,v0,v1,v2,v3,v4,v5]) rfl ⟨_,_,_,_,_,_,_,rfl,HK7.out,?_⟩
       rw[HG.out]
       exact HFB.out
theorem jbx (a b c d i:Int) (i0 : -300000000000000≤i) (i1:i≤300000000000000) (w:World) (hT:TrigT w):Calls Tryz.prog 76 #[.agg #[.int .i64 0,.int .i64 0],.agg #[.int .i64 a,.int .i64 b],.agg #[.int .i64 c,.int .i64 d],.int .i64 i] w (Jo InT w):=by
 have HT:=hD hT
 clear hT
 obtain⟨W1,g,hW1,HG,HX0,HX1,HX2,HX3,HB⟩:=jez w 38 #[.int .i64 0,.int .i64 0] 48 #[.int .i64 a,.int .i64 b] 48 #[.int .i64 c,.int .i64 d] 48 #[.int .i64 0,.int .i64 0]
 go_enter Tryz.func76,Tryz.ntmps76
 go_upto_region 1 with fail
 rw[hW1.out,HG.out]
 clear hW1
 have HT1:=hD (HT.out.next (HG.out▸HB.out))
 clear HT
 obtain⟨x0,x1⟩:=sqc HX0
 obtain⟨y0,y1⟩:=sqc HX1
 obtain⟨z0,z1⟩:=sqc HX2
 go_upto_region 2 with(go_at_call 100;refine(jf3 a b c d i i0 i1 _ HT1.out).mono ?_;rintro e w2 ⟨r0,r1,r2,r3,r4,r5,er,rfl,hin,hb2⟩)
 have hb3:=jb hb2 (ja w2 (Obj.cells #[.int .i64 r0,.int .i64 r1,.int .i64 r2,.int .i64 r3,.int .i64 r4,.int .i64 r5] 167))
 have HR2:=hD (HX3.out.below hb3)
 have HS2:=hD (Box.new w2 167 #[.int .i64 r0,.int .i64 r1,.int .i64 r2,.int .i64 r3,.int .i64 r4,.int .i64 r5])
 have HB2:=hD (HB.out.trans (hb3.mono (by have:=HX3.out.lt;omega)))
 clear hb2 hb3 HX0 HX1 HX2 HX3 HB HT1 x0 x1 y0 y1 z0 z1
 generalize w2.alloc (Obj.cells #[.int .i64 r0,.int .i64 r1,.int .i64 r2,.int .i64 r3,.int .i64 r4,.int .i64 r5] 167)=w3 at *
 generalize w2.heap.size=gs at *
 have x0:w3.cell? ⟨gs,0,none⟩=some (.int .i64 r0):=HS2.out.cell 0
 have x1:w3.cell? ⟨gs,1,none⟩=some (.int .i64 r1):=HS2.out.cell 1
 obtain⟨q0,u0,q1,u1⟩:=sqf HR2
 go_wp2_with fail
 obtain⟨W4,h4,v0,v1,hb4⟩:=sqt HR2 HB2 (by omega) (.int .i64 r0) (.int .i64 r1)
 clear q0 q1 u0 u1
 rw[h4.out]
 refine bodyPost_ret (v:=.tuple #[.agg #[.int .i64 r0,.int .i64 r1],.int .i64 er]) (by simp[results,Tryz.results76,go_sem,v0,v1]) rfl ⟨_,_,_,rfl,hin,?_⟩
 rw[HG.out]
 exact hb4
structure SkyT (w:World):Prop where
 T:TrigT w
 l0:w.cell? ⟨0,0,none⟩=some (.int .i64 (-14543900))
theorem SkyT.next {w w':World} (h:SkyT w) (hb:Below w.heap.size w w'):SkyT w' :=
 ⟨h.T.next hb,(hb.cell (p:=⟨0,0,none⟩) (block_lt_of_cell h.l0)).trans h.l0⟩
def SidQ (w:World) (e:Ending) (w':World):Prop:=∃s:Int,e = .returned (.int .i64 s)∧(s=1∨s = -1∨s=0)∧Below w.heap.size w w'
theorem jdC (w:World):Calls Tryz.prog 56 #[.agg #[.int .i64 0,.int .i64 0],.int .i64 0] w fun e w'=>e = .returned (.int .i64 0)∧Below w.heap.size w w':=by
 obtain⟨W1,g,hW1,HG,HX0,HB⟩:=J2 w 38 #[.int .i64 0,.int .i64 0]
 go_enter Tryz.func56,Tryz.ntmps56
 go_upto_region 1 with fail
 rw[hW1.out,HG.out]
 clear hW1
 obtain⟨x0,x1⟩:=sqc HX0
 go_wp2_with (go_at_call 16;refine(JH _).mono ?_;rintro e w2 ⟨rfl,hb2⟩)
 go_ret
 exact⟨rfl,by rw[HG.out];exact HB.out.trans (hb2.mono (by have:=HX0.out.lt;omega))⟩
theorem jeO (i:Int) (i0 : -300000000000000≤i) (i1:i≤300000000000000) (w:World) (hT:SkyT w):Calls Tryz.prog 58 #[.agg #[.int .i64 0,.int .i64 0],.int .i64 i,.int .i64 0] w (SidQ w):=by
 have HT:=hD hT
 clear hT
 obtain⟨W1,g,hW1,HG,HX0,HB⟩:=J2 w 38 #[.int .i64 0,.int .i64 0]
 go_enter Tryz.func58,Tryz.ntmps58
 go_upto_region 1 with fail
 rw[hW1.out,HG.out]
 clear hW1
 have HT1:=hD (HT.out.next (HG.out▸HB.out))
 clear HT
 have HAt:=hD (fun w (hT:TrigT w)=>jaK i i0 i1 w hT)
 go_upto_region 4 with fail
 go_upto_region 5 with fail
 refine(HAt.out _ HT1.out.T).mono ?_
 rintro e w2 ⟨a,b,c,d,er,rfl,hin,hb2⟩
 go_upto_region 5 with fail
 have hb3:=jb hb2 (jh w2 (Obj.cells #[.int .i64 a,.int .i64 b] 48) (Obj.cells #[.int .i64 c,.int .i64 d] 48))
 have HP3:=hD (HX0.out.below hb3)
 have HR3:=hD ((Box.new w2 48 #[.int .i64 a,.int .i64 b]).alloc (Obj.cells #[.int .i64 c,.int .i64 d] 48))
 have HD3:=hD (Box.new (w2.alloc (Obj.cells #[.int .i64 a,.int .i64 b] 48)) 48 #[.int .i64 c,.int .i64 d])
 simp only[World.size_alloc] at HD3
 have HT3:=hD (HT1.out.next hb3)
 have HB3:=hD (HB.out.trans (hb3.mono (by have:=HX0.out.lt;omega)))
 clear hb2 hb3 HX0 HT1 HB hin HAt
 generalize (w2.alloc (Obj.cells #[.int .i64 a,.int .i64 b] 48)).alloc (Obj.cells #[.int .i64 c,.int .i64 d] 48)=w3 at *
 generalize w2.heap.size=gr at *
 have x0:w3.cell? ⟨g,0,none⟩=some (.int .i64 0):=HP3.out.cell 0
 have x1:w3.cell? ⟨g,1,none⟩=some (.int .i64 0):=HP3.out.cell 1
 have y0:w3.cell? ⟨gr,0,none⟩=some (.int .i64 a):=HR3.out.cell 0
 have y1:w3.cell? ⟨gr,1,none⟩=some (.int .i64 b):=HR3.out.cell 1
 have z0:w3.cell? ⟨gr+1,0,none⟩=some (.int .i64 c):=HD3.out.cell 0
 have z1:w3.cell? ⟨gr+1,1,none⟩=some (.int .i64 d):=HD3.out.cell 1
 go_upto_region 6 with(go_at_call 76;refine(jbx a b c d i i0 i1 _ HT3.out.T).mono ?_;rintro e w4 ⟨u,v,er2,rfl,hin,hb4⟩)
 have hb5:=jb hb4 (ja w4 (Obj.cells #[.int .i64 u,.int .i64 v] 48))
 have HS5:=hD (Box.new w4 48 #[.int .i64 u,.int .i64 v])
 have HT5:=hD (HT3.out.next hb5)
 have HB5:=hD (HB3.out.trans (hb5.mono (by have:=HP3.out.lt;omega)))
 clear hb4 hb5 HP3 HR3 HD3 HT3 HB3 x0 x1 y0 y1 z0 z1 hin
 generalize w4.alloc (Obj.cells #[.int .i64 u,.int .i64 v] 48)=w5 at *
 generalize w4.heap.size=gs at *
 have z0:∀w,Below w5.heap.size w5 w→w.cell? ⟨gs,0,none⟩=some (.int .i64 u):=fun w hb=>(HS5.out.below hb).cell 0
 have zl:∀w,Below w5.heap.size w5 w→w.cell? ⟨0,0,none⟩=some (.int .i64 (-14543900)):=fun w hb=>(HT5.out.next hb).l0
 by_cases h1 : -14543900<u
 ·have t1:decide (-14543900<u)=true:=decide_eq_true h1
  clear h1
  refine ju (jy []) (by kernel_rfl) (by kernel_rfl) ?_
  repeat (first|(refine jf (v:=?_) (by rfl) (by rfl) (fun w hb=>?_) ?_;rotate_left;(· go_simp<;>(repeat' apply And.intro)<;>with_reducible rfl);try simp only[pZ,Nat.reduceAdd])|(refine je (by rfl) (by rfl) ?_;try simp only[pZ,Nat.reduceAdd]))
  refine jo fun w6 hb6 _=>?_
  have HB6:=hD (HB5.out.trans (hb6.mono (by have:=HB5.out.size;have:=HG.out;omega)))
  clear hb6 z0 zl HS5 HT5 HB5
  go_wp2_with fail
  go_ret
  exact⟨_,rfl,by omega,by rw[HG.out];exact HB6.out⟩
 ·have t1:decide (-14543900<u)=false:=decide_eq_false h1
  clear h1
  refine ju (jy []) (by kernel_rfl) (by kernel_rfl) ?_
  repeat (first|(refine jf (v:=?_) (by rfl) (by rfl) (fun w hb=>?_) ?_;rotate_left;(· go_simp<;>(repeat' apply And.intro)<;>with_reducible rfl);try simp only[pZ,Nat.reduceAdd])|(refine je (by rfl) (by rfl) ?_;try simp only[pZ,Nat.reduceAdd]))
  refine jo fun w6 hb6 _=>?_
  have HS6:=hD (HS5.out.below hb6)
  have HT6:=hD (HT5.out.next hb6)
  have HB6:=hD (HB5.out.trans (hb6.mono (by have:=HB5.out.size;have:=HG.out;omega)))
  clear hb6 z0 zl HS5 HT5 HB5
  go_upto_region 8 with fail
  have z1:∀w,Below w6.heap.size w6 w→w.cell? ⟨gs,1,none⟩=some (.int .i64 v):=fun w hb=>(HS6.out.below hb).cell 1
  have zl:∀w,Below w6.heap.size w6 w→w.cell? ⟨0,0,none⟩=some (.int .i64 (-14543900)):=fun w hb=>(HT6.out.next hb).l0
  by_cases h2:v < -14543900
  ·have t2:decide (v < -14543900)=true:=decide_eq_true h2
   clear h2
   refine ju (jy []) (by kernel_rfl) (by kernel_rfl) ?_
   repeat (first|(refine jf (v:=?_) (by rfl) (by rfl) (fun w hb=>?_) ?_;rotate_left;(· go_simp<;>(repeat' apply And.intro)<;>with_reducible rfl);try simp only[pZ,Nat.reduceAdd])|(refine je (by rfl) (by rfl) ?_;try simp only[pZ,Nat.reduceAdd]))
   refine jo fun w7 hb7 _=>?_
   have HB7:=hD (HB6.out.trans (hb7.mono (by have:=HB6.out.size;have:=HG.out;omega)))
   clear hb7 z1 zl HS6 HT6 HB6
   go_wp2_with fail
   go_ret
   exact⟨_,rfl,by omega,by rw[HG.out];exact HB7.out⟩
  ·have t2:decide (v < -14543900)=false:=decide_eq_false h2
   clear h2
   refine ju (jy []) (by kernel_rfl) (by kernel_rfl) ?_
   repeat (first|(refine jf (v:=?_) (by rfl) (by rfl) (fun w hb=>?_) ?_;rotate_left;(· go_simp<;>(repeat' apply And.intro)<;>with_reducible rfl);try simp only[pZ,Nat.reduceAdd])|(refine je (by rfl) (by rfl) ?_;try simp only[pZ,Nat.reduceAdd]))
   refine jo fun w7 hb7 _=>?_
   have HB7:=hD (HB6.out.trans (hb7.mono (by have:=HB6.out.size;have:=HG.out;omega)))
   clear hb7 z1 zl HS6 HT6 HB6
   go_wp2_with fail
   go_ret
   exact⟨_,rfl,by omega,by rw[HG.out];exact HB7.out⟩
structure RsIn (w:World) (gS gP gB:Nat) (sg:Int):Prop where
 T:SkyT w
 s:w.cell? ⟨gS,0,none⟩=some (.int .i64 sg)
 p0:w.cell? ⟨gP,0,none⟩=some (.int .i64 0)
 p1:w.cell? ⟨gP,1,none⟩=some (.int .i64 0)
 b:w.cell? ⟨gB,0,none⟩=some (.int .i64 0)
theorem RsIn.next {w w':World} {gS gP gB:Nat} {sg:Int} (h:RsIn w gS gP gB sg) (hb:Below w.heap.size w w'):RsIn w' gS gP gB sg :=
 ⟨h.T.next hb,(hb.cell (p:=⟨gS,0,none⟩) (block_lt_of_cell h.s)).trans h.s,(hb.cell (p:=⟨gP,0,none⟩) (block_lt_of_cell h.p0)).trans h.p0,(hb.cell (p:=⟨gP,1,none⟩) (block_lt_of_cell h.p1)).trans h.p1,(hb.cell (p:=⟨gB,0,none⟩) (block_lt_of_cell h.b)).trans h.b⟩
theorem xU (gS gP gB:Nat) (sg i:Int) (hs:sg=1∨sg = -1) (i0 : -300000000000000≤i) (i1:i≤300000000000000) (w:World) (h:RsIn w gS gP gB sg):Calls Tryz.prog 57 (#[.int .i64 i]++#[.pointer (some ⟨gS,0,none⟩),.pointer (some ⟨gP,0,none⟩),.pointer (some ⟨gB,0,none⟩)]) w (SidQ w):=by
 have HA:=hD (fun w (hT:SkyT w)=>jeO i i0 i1 w hT)
 have HH:=hD h
 clear h
 go_enter Tryz.func57,Tryz.ntmps57
 go_upto_region 1 with fail
 have z0:∀w',Below w.heap.size w w'→w'.cell? ⟨gS,0,none⟩=some (.int .i64 sg):=fun w' hb=>(HH.out.next hb).s
 have z1:∀w',Below w.heap.size w w'→w'.cell? ⟨gP,0,none⟩=some (.int .i64 0):=fun w' hb=>(HH.out.next hb).p0
 have z2:∀w',Below w.heap.size w w'→w'.cell? ⟨gP,1,none⟩=some (.int .i64 0):=fun w' hb=>(HH.out.next hb).p1
 have z3:∀w',Below w.heap.size w w'→w'.cell? ⟨gB,0,none⟩=some (.int .i64 0):=fun w' hb=>(HH.out.next hb).b
 refine ju (jy [(4,⟨fun v=>∃s:Int,v = .int .i64 s∧(s=1∨s = -1∨s=0),fun _ _=>True⟩)]) (by kernel_rfl) (by kernel_rfl) ?_
 repeat (first|(refine jf (v:=?_) (by rfl) (by rfl) (fun w hb=>?_) ?_;rotate_left;(· go_simp<;>(repeat' apply And.intro)<;>with_reducible rfl);try simp only[pZ,Nat.reduceAdd])|(refine je (by rfl) (by rfl) ?_;try simp only[pZ,Nat.reduceAdd]))
 refine jl (f:=?_) (args:=?_) [] (by kernel_rfl) (by rfl) (by rfl) ?_ ?_ (fun w hb=>?_) (fun w hb hu=>?_) ?_;rotate_left 4;(· go_simp<;>(repeat' apply And.intro)<;>with_reducible rfl)
 ·refine(HA.out _ (HH.out.T.next hb)).mono ?_
  rintro e w' ⟨s,he,hi,hb'⟩
  exact⟨_,he,⟨s,rfl,hi⟩,trivial,hb'⟩
 rintro v ⟨s,rfl,hi⟩
 try simp only[pZ,Nat.reduceAdd]
 have hm:∃m:Int,IntKind.i64.wrap (sg*s)=m∧(m=1∨m = -1∨m=0):=by
  rcases hs with rfl|rfl<;>rcases hi with rfl|rfl|rfl
  ·exact⟨1,by decide,by omega⟩
  ·exact⟨-1,by decide,by omega⟩
  ·exact⟨0,by decide,by omega⟩
  ·exact⟨-1,by decide,by omega⟩
  ·exact⟨1,by decide,by omega⟩
  ·exact⟨0,by decide,by omega⟩
 obtain⟨m,hm,hmi⟩:=hm
 repeat (first|(refine jf (v:=?_) (by rfl) (by rfl) (fun w hb=>?_) ?_;rotate_left;(· go_simp<;>(repeat' apply And.intro)<;>with_reducible rfl);try simp only[pZ,Nat.reduceAdd])|(refine je (by rfl) (by rfl) ?_;try simp only[pZ,Nat.reduceAdd]))
 refine jo fun w6 hb6 _=>?_
 any_goals (first|exact⟨_,0,rfl,by omega⟩|exact fun _ _ _ _ h=>h)
 have HB6:=hD hb6
 clear hb6 z0 z1 z2 z3
 go_wp2_with fail
 go_ret
 exact⟨_,rfl,hmi,HB6.out⟩
theorem Zd (n:Nat):((2^(n+1):Nat):Int)=2*((2^n:Nat):Int):=by
 rw[Nat.pow_succ];omega
def LastQ (lo hi:Int) (S:World→Prop) (e:Ending) (w':World):Prop:=∃r:Int,e = .returned (.int .i64 r)∧(lo≤r∧r≤hi)∧S w'
theorem VX (g:Nat) (cb:Array Value) (S:World→Prop) (lo0 hi0:Int) (w:World) (hS:S w) (hl:lo0≤hi0) (hn : -400000000000000≤lo0) (hx:hi0≤400000000000000) (hw:hi0-lo0≤((2^40:Nat):Int)) (eg:∀args w,(callFunc g args).run Tryz.prog w = .ok (.enter g args) w)
  (hf:∀W x,S W→lo0≤x→x≤hi0→Calls Tryz.prog g (#[.int .i64 x]++cb) W fun e w'=>∃b:Bool,e = .returned (.bool b)∧S w') :
  Calls Tryz.prog 77 #[.int .i64 lo0,.int .i64 hi0,.func (.func g) #[] cb] w (LastQ lo0 hi0 S):=by
 have HF:=hD hf
 have HS:=hD hS
 have HW:=hD hw
 clear hf hS hw
 go_enter Tryz.func77,Tryz.ntmps77
 go_wp2_with fail
 go_loopg [0,1] 40 (fun kx s0 s1 wr=>∃(lo hi:Int),s0 = .int .i64 lo∧s1 = .int .i64 hi∧lo0≤lo∧lo≤hi∧hi≤hi0∧Hid (hi-lo≤((2^kx:Nat):Int))∧Hid (S wr))
 case atStart=>exact⟨lo0,hi0,rfl,rfl,Int.le_refl _,hl,Int.le_refl _,HW,HS⟩
 case round =>
  obtain⟨lo,hi,rfl,rfl,h1,h2,h3,HP,HSr⟩:=hrel
  by_cases hlt:1<hi-lo
  ·have hk:∃k,gk=k+1:=by
    cases gk with
    | zero=>have:=HP.out;rw[show((2^0:Nat):Int)=1 from rfl] at this;omega
    | succ k=>exact⟨k,rfl⟩
   obtain⟨k,rfl⟩:=hk
   have hpw:=HP.out
   rw[Zd] at hpw
   have HP1:Hid (hi-(lo+(hi-lo)/2)≤((2^k:Nat):Int)):=by unfold Hid;omega
   have HP2:Hid (lo+(hi-lo)/2-lo≤((2^k:Nat):Int)):=by unfold Hid;omega
   clear hpw
   have hc:=HF.out _ (lo+(hi-lo)/2) HSr.out (by omega) (by omega)
   have hlt':decide (1<hi-lo)=true:=decide_eq_true hlt
   clear HP
   go_upto_region 3 with fail
   go_wp2_with (go_at_fn g;refine hc.mono ?_;rintro e w' ⟨b,rfl,hs'⟩;cases b)
   ·go_roundg k
    case measure=>omega
    case rel=>exact⟨lo,lo+(hi-lo)/2,rfl,rfl,by omega,by omega,by omega,HP2,hs'⟩
   ·go_roundg k
    case measure=>omega
    case rel=>exact⟨lo+(hi-lo)/2,hi,rfl,rfl,by omega,by omega,by omega,HP1,hs'⟩
  ·have hlt':decide (1<hi-lo)=false:=decide_eq_false hlt
   go_wp2_with fail
   go_ret
   exact⟨_,rfl,by omega,HSr.out⟩
abbrev JX (gS gP gB:Nat):Value:=.func (.func 57) #[] #[.pointer (some ⟨gS,0,none⟩),.pointer (some ⟨gP,0,none⟩),.pointer (some ⟨gB,0,none⟩)]
structure RSide (w:World) (gs gS gP gB:Nat) (sg:Int):Prop where
 R:RsIn w gS gP gB sg
 s:w.cell? ⟨gs,0,none⟩=some (JX gS gP gB)
theorem RSide.next {w w':World} {gs gS gP gB:Nat} {sg:Int} (h:RSide w gs gS gP gB sg) (hb:Below w.heap.size w w'):RSide w' gs gS gP gB sg :=
 ⟨h.R.next hb,(hb.cell (p:=⟨gs,0,none⟩) (block_lt_of_cell h.s)).trans h.s⟩
theorem jam (gs gS gP gB:Nat) (sg i:Int) (hs:sg=1∨sg = -1) (i0 : -300000000000000≤i) (i1:i≤300000000000000) (w:World) (h:RSide w gs gS gP gB sg):Calls Tryz.prog 78 (#[.int .i64 i]++#[.pointer (some ⟨gs,0,none⟩)]) w fun e w'=>∃b:Bool,e = .returned (.bool b)∧Below w.heap.size w w':=by
 have hc:=xU gS gP gB sg (i) hs (by omega) (by omega) w h.R
 have hs:=h.s
 clear h
 go_enter Tryz.func78,Tryz.ntmps78
 go_wp2_with fail
 refine hc.mono ?_
 rintro e w' ⟨s,rfl,hi,hs'⟩
 go_wp2_with fail
 go_ret
 exact⟨_,rfl,hs'⟩
theorem KY (gs gS gP gB:Nat) (sg i:Int) (hs:sg=1∨sg = -1) (i0 : -300000000000000≤i) (i1:i≤300000000000000) (w:World) (h:RSide w gs gS gP gB sg):Calls Tryz.prog 79 (#[.int .i64 i]++#[.pointer (some ⟨gs,0,none⟩)]) w fun e w'=>∃b:Bool,e = .returned (.bool b)∧Below w.heap.size w w':=by
 have hc:=xU gS gP gB sg (-i) hs (by omega) (by omega) w h.R
 have hs:=h.s
 clear h
 go_enter Tryz.func79,Tryz.ntmps79
 go_wp2_with fail
 refine hc.mono ?_
 rintro e w' ⟨s,rfl,hi,hs'⟩
 go_wp2_with fail
 go_ret
 exact⟨_,rfl,hs'⟩
def NarU (w:World) (e:Ending) (w':World):Prop:=∃(a b:Int) (bb:Bool),e = .returned (.tuple #[.agg #[.int .i64 a,.int .i64 b],.bool bb])∧Below w.heap.size w w'
theorem Z6 (gS gP gB:Nat) (sg lo0 hi0:Int) (hsg:sg=1∨sg = -1) (l0 : -300000000000000≤lo0) (lh:lo0≤hi0) (h0:hi0≤300000000000000) (hw:hi0-lo0≤1000000000000) (w:World) (hR:RsIn w gS gP gB sg) :
  Calls Tryz.prog 59 #[.agg #[.int .i64 lo0,.int .i64 hi0],.int .i64 120000,JX gS gP gB] w (NarU w):=by
 have HT:=hD hR
 have HB:=hD (jJ w (Obj.cells #[.int .i64 lo0,.int .i64 hi0] 48) (Obj.cells #[JX gS gP gB] 113) (Obj.cells #[.int .i64 0,.int .i64 0] 48))
 have HX:=hD (((Box.new w 48 #[.int .i64 lo0,.int .i64 hi0]).alloc (Obj.cells #[JX gS gP gB] 113)).alloc (Obj.cells #[.int .i64 0,.int .i64 0] 48))
 have HV:=hD ((Box.new (w.alloc (Obj.cells #[.int .i64 lo0,.int .i64 hi0] 48)) 113 #[JX gS gP gB]).alloc (Obj.cells #[.int .i64 0,.int .i64 0] 48))
 have HZ:=hD (Box.new ((w.alloc (Obj.cells #[.int .i64 lo0,.int .i64 hi0] 48)).alloc (Obj.cells #[JX gS gP gB] 113)) 48 #[.int .i64 0,.int .i64 0])
 simp only[World.size_alloc] at HZ HV
 clear hR
 go_enter Tryz.func59,Tryz.ntmps59
 go_upto_region 1 with fail
 have HT1:=hD (HT.out.next HB.out)
 clear HT
 generalize ((w.alloc (Obj.cells #[.int .i64 lo0,.int .i64 hi0] 48)).alloc (Obj.cells #[JX gS gP gB] 113)).alloc (Obj.cells #[.int .i64 0,.int .i64 0] 48)=W1 at *
 generalize hg:w.heap.size=g at *
 have HG:=hD hg
 clear hg
 have x0:W1.cell? ⟨g,0,none⟩=some (.int .i64 lo0):=HX.out.cell 0
 have x1:W1.cell? ⟨g,1,none⟩=some (.int .i64 hi0):=HX.out.cell 1
 go_quiet (fail)
 go_wp2_with fail
 have HS2:Hid (RSide (W1.drewN nq) (g+1) gS gP gB sg):=⟨HT1.out.next (jg _ nq),HV.out.cell 0⟩
 have HZ2:=hD (HZ.out.drewN nq)
 have HB2:=hD (jd HB.out nq)
 clear HT1 HB HX HZ HV x0 x1
 generalize W1.drewN nq=W2 at *
 have HW:Hid (hi0-lo0≤((2^40:Nat):Int)):=by
  unfold Hid
  rw[show((2^40:Nat):Int)=1099511627776 from rfl]
  omega
 go_loopg [8,9] 40 (fun kx s0 s1 wr=>∃(lo hi:Int),s0 = .int .i64 lo∧s1 = .int .i64 hi∧lo0≤lo∧lo≤hi∧hi≤hi0∧Hid (hi-lo≤((2^kx:Nat):Int))∧Hid (RSide wr (g+1) gS gP gB sg)∧Hid (Box wr (g+1+1) 48 #[.int .i64 0,.int .i64 0])∧Hid (Below g w wr))
 case atStart=>exact⟨lo0,hi0,rfl,rfl,Int.le_refl _,lh,Int.le_refl _,HW,HS2,HZ2,HB2⟩
 case round =>
  obtain⟨lo,hi,rfl,rfl,h1,h2,h3,HP,HSr,HZr,HBr⟩:=hrel
  clear HS2 HZ2 HB2
  by_cases hlt:120000<hi-lo
  ·have hk:∃k,gk=k+1:=by
    cases gk with
    | zero=>have:=HP.out;rw[show((2^0:Nat):Int)=1 from rfl] at this;omega
    | succ k=>exact⟨k,rfl⟩
   obtain⟨k,rfl⟩:=hk
   have hpw:=HP.out
   rw[Zd] at hpw
   have HP1:Hid (hi-(lo+(hi-lo)/2)≤((2^k:Nat):Int)):=by unfold Hid;omega
   have HP2:Hid (lo+(hi-lo)/2-lo≤((2^k:Nat):Int)):=by unfold Hid;omega
   clear hpw
   have hsv:=HSr.out.s
   have hc:=xU gS gP gB sg (lo+(hi-lo)/2) hsg (by omega) (by omega) wr HSr.out.R
   have hlt':decide (120000<hi-lo)=true:=decide_eq_true hlt
   have lz:=HZr.out.lt
   clear HP
   go_upto_region 4 with fail
   go_upto_region 8 with fail
   refine hc.mono ?_
   rintro e w' ⟨s,rfl,hi3,hs'⟩
   rcases hi3 with rfl|rfl|rfl
   ·go_wp2_with fail
    go_roundg k
    case measure=>omega
    case rel=>exact⟨lo,lo+(hi-lo)/2,rfl,rfl,by omega,by omega,by omega,HP2,HSr.out.next hs',HZr.out.below hs',HBr.out.trans (hs'.mono (by omega))⟩
   ·go_wp2_with fail
    go_roundg k
    case measure=>omega
    case rel=>exact⟨lo+(hi-lo)/2,hi,rfl,rfl,by omega,by omega,by omega,HP1,HSr.out.next hs',HZr.out.below hs',HBr.out.trans (hs'.mono (by omega))⟩
   ·skip
    go_upto_region 5 with fail
    have HS3:=hD (HSr.out.next hs')
    have HZ3:=hD (HZr.out.below hs')
    have HB3:=hD (HBr.out.trans (hs'.mono (by omega)))
    have lz3:=HZ3.out.lt
    clear hs' HSr HZr HBr hsv lz
    have m1:lo≤lo+(hi-lo)/2:=by omega
    have m2:lo+(hi-lo)/2≤hi:=by omega
    generalize lo+(hi-lo)/2=M at *
    have hpow:((2^40:Nat):Int)=1099511627776:=rfl
    have HLa:=hD (VX 78 #[.pointer (some ⟨g+1,0,none⟩)] (fun W=>Below w'.heap.size w' W) lo M w' (Below.refl _ _) m1 (by omega) (by omega) (by rw[hpow];omega) (fun _ _=>rfl) (fun W x hW a b=>(jam (g+1) gS gP gB sg x hsg (by omega) (by omega) W (HS3.out.next hW)).mono fun e w2 ⟨bb,h1,h2⟩=>⟨bb,h1,jb hW h2⟩))
    have HLb:=hD (fun w3 (hb:Below w'.heap.size w' w3)=>VX 79 #[.pointer (some ⟨g+1,0,none⟩)] (fun W=>Below w'.heap.size w' W) (-hi) (-M) w3 hb (by omega) (by omega) (by omega) (by rw[hpow];omega) (fun _ _=>rfl) (fun W x hW a b=>(KY (g+1) gS gP gB sg x hsg (by omega) (by omega) W (HS3.out.next hW)).mono fun e w2 ⟨bb,h1,h2⟩=>⟨bb,h1,jb hW h2⟩))
    go_upto_region 6 with(go_at_call 77;refine HLa.out.mono ?_;rintro e w3 ⟨A,rfl,la,hb3⟩)
    have hb3':=hD hb3
    clear hb3
    go_upto_region 7 with(go_at_call 77;refine(HLb.out _ hb3'.out).mono ?_;rintro e w4 ⟨B,rfl,lb,hb4⟩)
    have HZ9:=hD (HZ3.out.below hb4)
    have HB9:=hD (HB3.out.trans (hb4.mono (by omega)))
    clear HZ3 HB3 HS3 hb4 hb3' HLa HLb lz3
    have y0:w4.cell? ⟨g+1+1,0,none⟩=some (.int .i64 0):=HZ9.out.cell 0
    have y1:w4.cell? ⟨g+1+1,1,none⟩=some (.int .i64 0):=HZ9.out.cell 1
    have y2:w4.frozen? ⟨g+1+1,0,none⟩=false:=HZ9.out.free 0
    have y3:w4.frozen? ⟨g+1+1,1,none⟩=false:=HZ9.out.free 1
    go_wp2_with fail
    generalize decide (-B-A≤120000)=bb at *
    have HR4:=hD ((HZ9.out.set_ 0 (.int .i64 A)).set_ 1 (.int .i64 (-B)))
    have HB4:=hD ((HB9.out.setCell (p:=⟨g+1+1,0,none⟩) (by show g≤g+1+1;omega) (.int .i64 A)).setCell (p:=⟨g+1+1,1,none⟩) (by show g≤g+1+1;omega) (.int .i64 (-B)))
    clear y0 y1 y2 y3 HZ9 HB9
    generalize (w4.setCell ⟨g+1+1,0,none⟩ (.int .i64 A)).setCell ⟨g+1+1,1,none⟩ (.int .i64 (-B))=W4 at *
    have v0:W4.cell? ⟨g+1+1,0,none⟩=some (.int .i64 A):=HR4.out.cell 0
    have v1:W4.cell? ⟨g+1+1,1,none⟩=some (.int .i64 (-B)):=HR4.out.cell 1
    refine bodyPost_ret (v:=.tuple #[.agg #[.int .i64 A,.int .i64 (-B)],.bool bb]) (by simp[results,Tryz.results59,go_sem,v0,v1]) rfl ⟨_,_,bb,rfl,?_⟩
    rw[HG.out];exact HB4.out
  ·skip
   have hlt':decide (120000<hi-lo)=false:=decide_eq_false hlt
   have HZ9:=HZr
   have HB9:=HBr
   have y0:wr.cell? ⟨g+1+1,0,none⟩=some (.int .i64 0):=HZ9.out.cell 0
   have y1:wr.cell? ⟨g+1+1,1,none⟩=some (.int .i64 0):=HZ9.out.cell 1
   have y2:wr.frozen? ⟨g+1+1,0,none⟩=false:=HZ9.out.free 0
   have y3:wr.frozen? ⟨g+1+1,1,none⟩=false:=HZ9.out.free 1
   go_wp2_with fail
   have HR4:=hD ((HZ9.out.set_ 0 (.int .i64 lo)).set_ 1 (.int .i64 hi))
   have HB4:=hD ((HB9.out.setCell (p:=⟨g+1+1,0,none⟩) (by show g≤g+1+1;omega) (.int .i64 lo)).setCell (p:=⟨g+1+1,1,none⟩) (by show g≤g+1+1;omega) (.int .i64 hi))
   clear y0 y1 y2 y3 HZ9 HB9
   generalize (wr.setCell ⟨g+1+1,0,none⟩ (.int .i64 lo)).setCell ⟨g+1+1,1,none⟩ (.int .i64 hi)=W4 at *
   have v0:W4.cell? ⟨g+1+1,0,none⟩=some (.int .i64 lo):=HR4.out.cell 0
   have v1:W4.cell? ⟨g+1+1,1,none⟩=some (.int .i64 hi):=HR4.out.cell 1
   refine bodyPost_ret (v:=.tuple #[.agg #[.int .i64 lo,.int .i64 hi],.bool true]) (by simp[results,Tryz.results59,go_sem,v0,v1]) rfl ⟨_,_,true,rfl,?_⟩
   rw[HG.out];exact HB4.out
def AnyP (a b:Int):Prop:=True
theorem jea (day:Int) (ri:Bool) (d0 : -3000000≤day) (d1:day≤3000000) (w:World) (hT:SkyT w):Calls Tryz.prog 38 #[.agg #[.int .i64 0,.int .i64 0],.int .i64 day,.int .i64 0,.bool ri] w (Jo AnyP w):=by
 have HT:=hD hT
 have t1:decide (day < -4000000)=false:=decide_eq_false (by omega)
 have t2:decide (4000000≤day)=false:=decide_eq_false (by omega)
 clear hT
 obtain⟨W1,g,hW1,HG,HX0,HX1,HX2,HB⟩:=Xk w 38 #[.int .i64 0,.int .i64 0] 3 #[.int .i64 0] 48 #[.int .i64 0,.int .i64 0]
 go_enter Tryz.func38,Tryz.ntmps38
 go_upto_region 1 with fail
 rw[hW1.out,HG.out]
 clear hW1
 have HT1:=hD (HT.out.next (HG.out▸HB.out))
 have HT0:=HT
 clear HT
 obtain⟨x0,x1⟩:=sqc HX0
 have y0:W1.cell? ⟨g+1,0,none⟩=some (.int .i64 0):=HX1.out.cell 0
 go_upto_region 2 with(go_at_call 56;refine(jdC _).mono ?_;rintro e w2 ⟨rfl,hb2⟩)
 have HP2:=hD (HX0.out.below hb2)
 have HC2:=hD (HX1.out.below hb2)
 have HR2:=hD (HX2.out.below hb2)
 have HT2:=hD (HT1.out.next hb2)
 have HB2:=hD (HB.out.trans (hb2.mono (by have:=HX2.out.lt;omega)))
 clear hb2 HX0 HX1 HX2 HT1 HB x0 x1 y0
 go_upto_region 7 with fail
 have ha:=ja w2 (Obj.cells #[.int .i64 1] 3)
 have lg:=HR2.out.lt
 have HP3:=hD (HP2.out.below ha)
 have HC3:=hD (HC2.out.below ha)
 have HR3:=hD (HR2.out.below ha)
 have HS3:=hD (Box.new w2 3 #[.int .i64 1])
 have HT3:=hD (HT2.out.next ha)
 have HB3:=hD (HB2.out.trans (ha.mono (by omega)))
 clear ha HP2 HC2 HR2 HT2 HB2 t1 t2
 generalize w2.alloc (Obj.cells #[.int .i64 1] 3)=w3 at *
 generalize w2.heap.size=gS at *
 have s0:w3.cell? ⟨gS,0,none⟩=some (.int .i64 1):=HS3.out.cell 0
 have sf:w3.frozen? ⟨gS,0,none⟩=false:=HS3.out.free 0
 obtain⟨base,hbase⟩:∃base,base=day*86400000:=⟨_,rfl⟩
 have bb : -259200000000000≤base∧base≤259200000000000:=by omega
 have hm:IntKind.i64.wrap (day*86400000)=base:=by rw[hbase];simp only[IntKind.wrap_i64];omega
 clear hbase
 cases ri
 ·have HP4:=hD (HP3.out.far (p:=⟨gS,0,none⟩) (by show g≠gS;omega) (.int .i64 (-1)))
  have HC4:=hD (HC3.out.far (p:=⟨gS,0,none⟩) (by show g+1≠gS;omega) (.int .i64 (-1)))
  have HR4:=hD (HR3.out.far (p:=⟨gS,0,none⟩) (by show g+1+1≠gS;omega) (.int .i64 (-1)))
  have HS4:=hD (HS3.out.set_ 0 (.int .i64 (-1)))
  have HB4:=hD (HB3.out.setCell (p:=⟨gS,0,none⟩) (by show g≤gS;omega) (.int .i64 (-1)))
  have HT4:Hid (SkyT (w3.setCell ⟨gS,0,none⟩ (.int .i64 (-1)))):=HT0.out.next (HG.out▸HB4.out)
  go_upto_region 9 with fail
  clear s0 sf HP3 HC3 HR3 HS3 HB3 HT3
  generalize w3.setCell ⟨gS,0,none⟩ (.int .i64 (-1))=w4 at *
  have HRs:Hid (RsIn w4 gS g (g+1) (-1)):=⟨HT4.out,HS4.out.cell 0,HP4.out.cell 0,HP4.out.cell 1,HC4.out.cell 0⟩
  clear lg HP4 HC4 HS4 HT4 HT0
  go_wp2_with fail
  go_loopw [13,14,15,38] (fun s13 s14 s15 iv wr=>∃(k be wa:Int) (bo:Bool),0≤k∧k≤97∧iv = .int .i64 k∧s13 = .bool bo∧s14 = .int .i64 be∧s15 = .int .i64 wa∧Hid (wa = -1→base≤be∧be≤base+k*900000)∧Hid (RsIn wr gS g (g+1) (-1))∧Hid (Box wr (g+1+1) 48 #[.int .i64 0,.int .i64 0])∧Hid (Below g w wr)) (fun _ _ _ iv _=>97-(intOf iv).toNat)
  case atStart=>exact⟨0,0,0,false,by omega,by omega,rfl,rfl,rfl,rfl,fun h=>by omega,HRs,HR4,HB4⟩
  case round =>
   obtain⟨k,be,wa,bo,k0,k97,rfl,rfl,rfl,rfl,HI,HRr,HZr,HBr⟩:=hrel
   by_cases hlt:k<97
   ·have tl:decide (k<97)=true:=decide_eq_true hlt
    have hc:=xU gS g (g+1) (-1) (base+k*900000) (by omega) (by omega) (by omega) wr HRr.out
    have hk:IntKind.i64.wrap (k*900000)=k*900000:=by simp only[IntKind.wrap_i64];omega
    have hk2:IntKind.i64.wrap (base+k*900000)=base+k*900000:=by simp only[IntKind.wrap_i64];omega
    have lz:=HZr.out.lt
    go_upto_region 15 with fail
    go_upto_region 16 with fail
    refine hc.mono ?_
    rintro e w' ⟨s,rfl,hi3,hb'⟩
    have HRn:=hD (HRr.out.next hb')
    have HZn:=hD (HZr.out.below hb')
    have HBn:=hD (HBr.out.trans (hb'.mono (by omega)))
    clear hb' HRr HZr HBr lz
    rcases hi3 with rfl|rfl|rfl
    ·by_cases hw:wa = -1
     ·have hI:=HI.out hw
      subst hw
      have HN:=hD (Z6 gS g (g+1) (-1) be (base+k*900000) (by omega) (by omega) (by omega) (by omega) (by omega) w' HRn.out)
      have hat:IntKind.i64.wrap (day*86400000)=base:=hm
      clear hI HI
      go_upto_region 20 with(go_at_call 59;refine HN.out.mono ?_;rintro e w5 ⟨a,b,ok,rfl,hb5⟩)
      have hb6:=jb hb5 (ja w5 (Obj.cells #[.int .i64 a,.int .i64 b] 48))
      have HR6:=hD (HZn.out.below hb6)
      have HS6:=hD (Box.new w5 48 #[.int .i64 a,.int .i64 b])
      have HB6:=hD (HBn.out.trans (hb6.mono (by have:=HZn.out.lt;omega)))
      clear hb5 hb6 HN HRn HZn HBn
      generalize w5.alloc (Obj.cells #[.int .i64 a,.int .i64 b] 48)=w6 at *
      generalize w5.heap.size=gt at *
      have x0:w6.cell? ⟨gt,0,none⟩=some (.int .i64 a):=HS6.out.cell 0
      have x1:w6.cell? ⟨gt,1,none⟩=some (.int .i64 b):=HS6.out.cell 1
      cases ok
      ·skip
       obtain⟨q0,u0,q1,u1⟩:=sqf HR6
       go_wp2_with fail
       obtain⟨W4,h4,v0,v1,hb4⟩:=sqt HR6 HB6 (by omega) (.int .i64 0) (.int .i64 0)
       clear q0 q1 u0 u1
       rw[h4.out]
       refine bodyPost_ret (v:=.tuple #[.agg #[.int .i64 0,.int .i64 0],.int .i64 11]) (by simp[results,Tryz.results38,go_sem,v0,v1]) rfl ⟨_,_,_,rfl,trivial,?_⟩
       rw[HG.out]
       exact hb4
      ·skip
       obtain⟨q0,u0,q1,u1⟩:=sqf HR6
       go_wp2_with fail
       obtain⟨W4,h4,v0,v1,hb4⟩:=sqt HR6 HB6 (by omega) (.int .i64 a) (.int .i64 b)
       clear q0 q1 u0 u1
       rw[h4.out]
       refine bodyPost_ret (v:=.tuple #[.agg #[.int .i64 a,.int .i64 b],.int .i64 0]) (by simp[results,Tryz.results38,go_sem,v0,v1]) rfl ⟨_,_,_,rfl,trivial,?_⟩
       rw[HG.out]
       exact hb4
     ·have tw:(wa==-1)=false:=beq_eq_false_iff_ne.2 hw
      clear hw
      go_wp2_with fail
      go_roundw
      case rel=>exact⟨k+1,base+k*900000,1,bo,by omega,by omega,by go_num,rfl,rfl,rfl,fun h=>by omega,HRn,HZn,HBn⟩
      case measure=>simp[intOf];omega
    ·by_cases hw:wa = -1
     ·subst hw
      go_wp2_with fail
      go_roundw
      case rel=>exact⟨k+1,base+k*900000,-1,bo,by omega,by omega,by go_num,rfl,rfl,rfl,fun h=>by omega,HRn,HZn,HBn⟩
      case measure=>simp[intOf];omega
     ·have tw:(wa==-1)=false:=beq_eq_false_iff_ne.2 hw
      clear hw
      go_wp2_with fail
      go_roundw
      case rel=>exact⟨k+1,base+k*900000,-1,bo,by omega,by omega,by go_num,rfl,rfl,rfl,fun h=>by omega,HRn,HZn,HBn⟩
      case measure=>simp[intOf];omega
    ·go_wp2_with fail
     go_roundw
     case rel=>exact⟨k+1,be,wa,true,by omega,by omega,by go_num,rfl,rfl,rfl,fun h=>by have:=HI.out h;omega,HRn,HZn,HBn⟩
     case measure=>simp[intOf];omega
   ·have tl:decide (k<97)=false:=decide_eq_false hlt
    clear hlt k0 k97 HI HRr
    cases bo
    ·skip
     obtain⟨q0,u0,q1,u1⟩:=sqf HZr
     go_wp2_with fail
     obtain⟨W4,h4,v0,v1,hb4⟩:=sqt HZr HBr (by omega) (.int .i64 0) (.int .i64 0)
     clear q0 q1 u0 u1
     rw[h4.out]
     refine bodyPost_ret (v:=.tuple #[.agg #[.int .i64 0,.int .i64 0],.int .i64 6]) (by simp[results,Tryz.results38,go_sem,v0,v1]) rfl ⟨_,_,_,rfl,trivial,?_⟩
     rw[HG.out]
     exact hb4
    ·skip
     obtain⟨q0,u0,q1,u1⟩:=sqf HZr
     go_wp2_with fail
     obtain⟨W4,h4,v0,v1,hb4⟩:=sqt HZr HBr (by omega) (.int .i64 0) (.int .i64 0)
     clear q0 q1 u0 u1
     rw[h4.out]
     refine bodyPost_ret (v:=.tuple #[.agg #[.int .i64 0,.int .i64 0],.int .i64 11]) (by simp[results,Tryz.results38,go_sem,v0,v1]) rfl ⟨_,_,_,rfl,trivial,?_⟩
     rw[HG.out]
     exact hb4
 ·have HRs:Hid (RsIn w3 gS g (g+1) 1):=⟨HT3.out,HS3.out.cell 0,HP3.out.cell 0,HP3.out.cell 1,HC3.out.cell 0⟩
  have HR4:=HR3
  have HB4:=HB3
  clear lg HP3 HC3 HS3 HT3 HT0 s0 sf HR3 HB3
  go_wp2_with fail
  go_loopw [13,14,15,38] (fun s13 s14 s15 iv wr=>∃(k be wa:Int) (bo:Bool),0≤k∧k≤97∧iv = .int .i64 k∧s13 = .bool bo∧s14 = .int .i64 be∧s15 = .int .i64 wa∧Hid (wa = -1→base≤be∧be≤base+k*900000)∧Hid (RsIn wr gS g (g+1) 1)∧Hid (Box wr (g+1+1) 48 #[.int .i64 0,.int .i64 0])∧Hid (Below g w wr)) (fun _ _ _ iv _=>97-(intOf iv).toNat)
  case atStart=>exact⟨0,0,0,false,by omega,by omega,rfl,rfl,rfl,rfl,fun h=>by omega,HRs,HR4,HB4⟩
  case round =>
   obtain⟨k,be,wa,bo,k0,k97,rfl,rfl,rfl,rfl,HI,HRr,HZr,HBr⟩:=hrel
   by_cases hlt:k<97
   ·have tl:decide (k<97)=true:=decide_eq_true hlt
    have hc:=xU gS g (g+1) 1 (base+k*900000) (by omega) (by omega) (by omega) wr HRr.out
    have hk:IntKind.i64.wrap (k*900000)=k*900000:=by simp only[IntKind.wrap_i64];omega
    have hk2:IntKind.i64.wrap (base+k*900000)=base+k*900000:=by simp only[IntKind.wrap_i64];omega
    have lz:=HZr.out.lt
    go_upto_region 15 with fail
    go_upto_region 16 with fail
    refine hc.mono ?_
    rintro e w' ⟨s,rfl,hi3,hb'⟩
    have HRn:=hD (HRr.out.next hb')
    have HZn:=hD (HZr.out.below hb')
    have HBn:=hD (HBr.out.trans (hb'.mono (by omega)))
    clear hb' HRr HZr HBr lz
    rcases hi3 with rfl|rfl|rfl
    ·by_cases hw:wa = -1
     ·have hI:=HI.out hw
      subst hw
      have HN:=hD (Z6 gS g (g+1) 1 be (base+k*900000) (by omega) (by omega) (by omega) (by omega) (by omega) w' HRn.out)
      have hat:IntKind.i64.wrap (day*86400000)=base:=hm
      clear hI HI
      go_upto_region 20 with(go_at_call 59;refine HN.out.mono ?_;rintro e w5 ⟨a,b,ok,rfl,hb5⟩)
      have hb6:=jb hb5 (ja w5 (Obj.cells #[.int .i64 a,.int .i64 b] 48))
      have HR6:=hD (HZn.out.below hb6)
      have HS6:=hD (Box.new w5 48 #[.int .i64 a,.int .i64 b])
      have HB6:=hD (HBn.out.trans (hb6.mono (by have:=HZn.out.lt;omega)))
      clear hb5 hb6 HN HRn HZn HBn
      generalize w5.alloc (Obj.cells #[.int .i64 a,.int .i64 b] 48)=w6 at *
      generalize w5.heap.size=gt at *
      have x0:w6.cell? ⟨gt,0,none⟩=some (.int .i64 a):=HS6.out.cell 0
      have x1:w6.cell? ⟨gt,1,none⟩=some (.int .i64 b):=HS6.out.cell 1
      cases ok
      ·skip
       obtain⟨q0,u0,q1,u1⟩:=sqf HR6
       go_wp2_with fail
       obtain⟨W4,h4,v0,v1,hb4⟩:=sqt HR6 HB6 (by omega) (.int .i64 0) (.int .i64 0)
       clear q0 q1 u0 u1
       rw[h4.out]
       refine bodyPost_ret (v:=.tuple #[.agg #[.int .i64 0,.int .i64 0],.int .i64 11]) (by simp[results,Tryz.results38,go_sem,v0,v1]) rfl ⟨_,_,_,rfl,trivial,?_⟩
       rw[HG.out]
       exact hb4
      ·skip
       obtain⟨q0,u0,q1,u1⟩:=sqf HR6
       go_wp2_with fail
       obtain⟨W4,h4,v0,v1,hb4⟩:=sqt HR6 HB6 (by omega) (.int .i64 a) (.int .i64 b)
       clear q0 q1 u0 u1
       rw[h4.out]
       refine bodyPost_ret (v:=.tuple #[.agg #[.int .i64 a,.int .i64 b],.int .i64 0]) (by simp[results,Tryz.results38,go_sem,v0,v1]) rfl ⟨_,_,_,rfl,trivial,?_⟩
       rw[HG.out]
       exact hb4
     ·have tw:(wa==-1)=false:=beq_eq_false_iff_ne.2 hw
      clear hw
      go_wp2_with fail
      go_roundw
      case rel=>exact⟨k+1,base+k*900000,1,bo,by omega,by omega,by go_num,rfl,rfl,rfl,fun h=>by omega,HRn,HZn,HBn⟩
      case measure=>simp[intOf];omega
    ·by_cases hw:wa = -1
     ·subst hw
      go_wp2_with fail
      go_roundw
      case rel=>exact⟨k+1,base+k*900000,-1,bo,by omega,by omega,by go_num,rfl,rfl,rfl,fun h=>by omega,HRn,HZn,HBn⟩
      case measure=>simp[intOf];omega
     ·have tw:(wa==-1)=false:=beq_eq_false_iff_ne.2 hw
      clear hw
      go_wp2_with fail
      go_roundw
      case rel=>exact⟨k+1,base+k*900000,-1,bo,by omega,by omega,by go_num,rfl,rfl,rfl,fun h=>by omega,HRn,HZn,HBn⟩
      case measure=>simp[intOf];omega
    ·go_wp2_with fail
     go_roundw
     case rel=>exact⟨k+1,be,wa,true,by omega,by omega,by go_num,rfl,rfl,rfl,fun h=>by have:=HI.out h;omega,HRn,HZn,HBn⟩
     case measure=>simp[intOf];omega
   ·have tl:decide (k<97)=false:=decide_eq_false hlt
    clear hlt k0 k97 HI HRr
    cases bo
    ·skip
     obtain⟨q0,u0,q1,u1⟩:=sqf HZr
     go_wp2_with fail
     obtain⟨W4,h4,v0,v1,hb4⟩:=sqt HZr HBr (by omega) (.int .i64 0) (.int .i64 0)
     clear q0 q1 u0 u1
     rw[h4.out]
     refine bodyPost_ret (v:=.tuple #[.agg #[.int .i64 0,.int .i64 0],.int .i64 6]) (by simp[results,Tryz.results38,go_sem,v0,v1]) rfl ⟨_,_,_,rfl,trivial,?_⟩
     rw[HG.out]
     exact hb4
    ·skip
     obtain⟨q0,u0,q1,u1⟩:=sqf HZr
     go_wp2_with fail
     obtain⟨W4,h4,v0,v1,hb4⟩:=sqt HZr HBr (by omega) (.int .i64 0) (.int .i64 0)
     clear q0 q1 u0 u1
     rw[h4.out]
     refine bodyPost_ret (v:=.tuple #[.agg #[.int .i64 0,.int .i64 0],.int .i64 11]) (by simp[results,Tryz.results38,go_sem,v0,v1]) rfl ⟨_,_,_,rfl,trivial,?_⟩
     rw[HG.out]
     exact hb4
end Go.Proofs.YtkkjaaognefeiaaGreatDoor
