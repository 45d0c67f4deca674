/- FvA, FvB, FvC, FvD, FvE, FvF, FvG, FvH, FvI, FvJ, FvK, FvL, FvM, FvN, FvO -/
import Derived.Test.YtkkjaaognefeiaaGreatDoorGFuA
import Derived.Test.YtkkjaaognefeiaaGreatDoorGFpA
set_option maxRecDepth 100000
set_option maxHeartbeats 16000000
set_option linter.unusedVariables false
set_option linter.unusedSimpArgs false
namespace Go.Proofs.YtkkjaaognefeiaaGreatDoor
open Go Go.RowKit
def zI (P:Int→Int→Prop) (w:World) (e:Ending) (w':World):Prop:=∃a b:Int,e = .returned (.agg #[.int .i64 a,.int .i64 b])∧P a b∧Below w.heap.size w w'
def qW (a b:Int):Prop:=(-9223372036854775808≤a∧a≤9223372036854775807)∧(-9223372036854775808≤b∧b≤9223372036854775807)
def InT (a b:Int):Prop:=(-1000000000≤a∧a≤1000000000)∧(-1000000000≤b∧b≤1000000000)
theorem jk {W:World} {g:Nat} {t:TypeId} {x y a b:Value} (h:Box W g t #[x,y]):((W.setCell ⟨g,0,none⟩ a).setCell ⟨g,1,none⟩ b).cell? ⟨g,0,none⟩=some a∧((W.setCell ⟨g,0,none⟩ a).setCell ⟨g,1,none⟩ b).cell? ⟨g,1,none⟩=some b:=by
 have h4:=(h.set_ 0 a).set_ 1 b
 exact⟨h4.cell 0,h4.cell 1⟩
theorem Yx {w W:World} {g:Nat} {a b:Value} (hg:w.heap.size≤g) (h:Below w.heap.size w W):Below w.heap.size w ((W.setCell ⟨g,0,none⟩ a).setCell ⟨g,1,none⟩ b):=(h.setCell (p:=⟨g,0,none⟩) hg a).setCell (p:=⟨g,1,none⟩) hg b
theorem jU (v:Nat) (w:World):Calls Tryz.prog 172 #[.float .f64 v] w (zI qW w):=by
 obtain⟨R,N,F⟩:=ya
 obtain⟨V,M,G⟩:=jeE 3 Tryz.underlying3
 have f1:=fun w=>F .sub (.inr (.inl rfl)) 236 v vt w
 have f2:=fun w=>F .add (.inl rfl) 236 v vt w
 have f3:=fun x w=>(G x w).2
 have f4:=Lib.hid (fun x w=>(G x w).1)
 clear F G
 go_enter Tryz.func172,Tryz.ntmps172
 go_wp2_with first
  | (go_at_call 197;refine(Vb _ _).mono ?_;rintro e w' ⟨r,rfl,n,rfl⟩)
  | (go_at_call 198;refine(jaS _ _).mono ?_;rintro e w' ⟨r2,rfl,n2,rfl⟩)
 generalize hb:V r2 _=b
 generalize ha:V r _=a
 have b1 : -9223372036854775808≤b∧b≤9223372036854775807:=hb▸f4.out _ _
 have a1 : -9223372036854775808≤a∧a≤9223372036854775807:=ha▸f4.out _ _
 clear hb ha f1 f2 f3 f4
 generalize hW:(w.alloc (Obj.cells #[.int .i64 0,.int .i64 0] 48)).drewN (_+M r2 _)=W
 have HX:Box W w.heap.size 48 #[.int .i64 0,.int .i64 0]:=hW▸(Box.new w 48 #[.int .i64 0,.int .i64 0]).drewN _
 have HB:Below w.heap.size w W:=hW▸jd (ja w _) _
 obtain⟨v0,v1⟩:=jk (a:=.int .i64 a) (b:=.int .i64 b) HX
 refine bodyPost_ret (v:=.agg #[.int .i64 a,.int .i64 b]) (by simp[results,Tryz.results172,go_sem,v0,v1]) rfl ⟨a,b,rfl,⟨a1,b1⟩,?_⟩
 exact Yx (Nat.le_refl _) HB
def cl (a:Int):Int:=if a < -1000000000 then -1000000000 else if 1000000000<a then 1000000000 else a
theorem je4 (a b:Int):InT (cl a) (cl b):=by unfold InT cl;(repeat' split)<;>omega
theorem kg (a:Int):(a < -1000000000∧-1000000000<1000000001∧cl a = -1000000000)∨(-1000000000≤a∧a≤1000000000∧cl a=a)∨(1000000000<a∧-1000000000≤a∧cl a=1000000000):=by
 unfold cl;(repeat' split)<;>omega
theorem jcm (a b:Int) (w:World):Calls Tryz.prog 192 #[.agg #[.int .i64 a,.int .i64 b]] w (zI InT w):=by
 rcases kg a with⟨ha,ha',ea⟩|⟨ha,ha',ea⟩|⟨ha,ha',ea⟩<;>rcases kg b with⟨hb,hb',eb⟩|⟨hb,hb',eb⟩|⟨hb,hb',eb⟩<;>(
 have EA:=Lib.hid ea
 have EB:=Lib.hid eb
 clear ea eb
 obtain⟨W1,g,hW1,HG,HX0,HX1,HB⟩:=vA w 48 #[.int .i64 a,.int .i64 b] 48 #[.int .i64 0,.int .i64 0]
 go_enter Tryz.func192,Tryz.ntmps192
 go_upto_region 1 with fail
 rw[hW1.out,HG.out]
 clear hW1
 obtain⟨x0,x1⟩:=sqc HX0
 obtain⟨q0,u0,q1,u1⟩:=sqf HX1
 go_wp2_with fail
 obtain⟨W4,h4,v0,v1,hb4⟩:=sqt HX1 HB (by omega) (.int .i64 (cl a)) (.int .i64 (cl b))
 clear q0 q1 u0 u1
 have e4:=h4.out
 rw[EA.out,EB.out] at e4
 rw[e4]
 clear e4
 refine bodyPost_ret (v:=.agg #[.int .i64 (cl a),.int .i64 (cl b)]) (by simp[results,Tryz.results192,go_sem,v0,v1]) rfl ⟨_,_,rfl,je4 a b,?_⟩
 rw[HG.out]
 exact hb4)
theorem kL (a b:Int) (w:World):Calls Tryz.prog 140 #[.agg #[.int .i64 a,.int .i64 b]] w (zI InT w):=by
 rcases kg a with⟨ha,ha',ea⟩|⟨ha,ha',ea⟩|⟨ha,ha',ea⟩<;>rcases kg b with⟨hb,hb',eb⟩|⟨hb,hb',eb⟩|⟨hb,hb',eb⟩<;>(
 have EA:=Lib.hid ea
 have EB:=Lib.hid eb
 clear ea eb
 obtain⟨W1,g,hW1,HG,HX0,HX1,HB⟩:=vA w 48 #[.int .i64 a,.int .i64 b] 48 #[.int .i64 0,.int .i64 0]
 go_enter Tryz.func140,Tryz.ntmps140
 go_upto_region 1 with fail
 rw[hW1.out,HG.out]
 clear hW1
 obtain⟨x0,x1⟩:=sqc HX0
 obtain⟨q0,u0,q1,u1⟩:=sqf HX1
 go_wp2_with fail
 obtain⟨W4,h4,v0,v1,hb4⟩:=sqt HX1 HB (by omega) (.int .i64 (cl a)) (.int .i64 (cl b))
 clear q0 q1 u0 u1
 have e4:=h4.out
 rw[EA.out,EB.out] at e4
 rw[e4]
 clear e4
 refine bodyPost_ret (v:=.agg #[.int .i64 (cl a),.int .i64 (cl b)]) (by simp[results,Tryz.results140,go_sem,v0,v1]) rfl ⟨_,_,rfl,je4 a b,?_⟩
 rw[HG.out]
 exact hb4)
theorem jfE (m:Int) (m0:0≤m) (m1:m<1000000000):∃b c x,fQ (floatOfInt .f64 m) vq=some b∧fM b ZD=some c∧fM c fPi=some x∧Lb (65*2^1071) x∧Nn x:=by
 obtain⟨lm,nm⟩:=Ju m 1000000000 (by decide) (by omega)
 have kT:Gb (1000000000*2^1074) vq:=ja4 (by decide +kernel)
 have nT:Nn vq:=Jk (by decide +kernel)
 have k2:Lb (2*2^1074) ZD:=qc (by decide +kernel)
 have n2:Nn ZD:=Jk (by decide +kernel)
 have kP:Lb (13*2^1072) fPi:=qc (by decide +kernel)
 have nP:Nn fPi:=Jk (by decide +kernel)
 obtain⟨b,gb,lb,nb⟩:=Y0 (b:=73729) (t:=1058) lm kT (by decide) (by decide) (by decide +kernel)
 obtain⟨c,gc,lc,nc⟩:=jV (b:=73729) (t:=1059) lb k2 (by decide) (by decide) (by decide +kernel)
 obtain⟨x,gx,lx,nx⟩:=jV (b:=65) (t:=1071) lc kP (by decide) (by decide) (by decide +kernel)
 exact⟨b,c,x,gb,gc,gx,lx,nx (nc (nb (nm m0) nT) n2) nP⟩
theorem jdM {m b c x:Nat} (gb:fQ m vq=some b) (gc:fM b ZD=some c) (gx:fM c fPi=some x) (w:World):Calls Tryz.prog 194 #[.float .f64 m] w fun e w'=>e = .returned (.float .f64 x)∧w'=w:=by
 have f1:=jc .quo gb
 have f2:=jc .mul gc
 have f3:=jc .mul gx
 go_enter Tryz.func194,Tryz.ntmps194
 go_wp2_with fail
 go_ret
 exact⟨rfl,rfl⟩
theorem jfT (a:Int) (w:World) (a0 : -9223372036854775807≤a) (a1:a≤9223372036854775807) (hm:a%1000000000=0):Calls Tryz.prog 168 #[.int .i64 a] w (zI InT w):=by
 have HM:=Lib.hid (fun w=>jW a 1000000000 w a0 a1 (by decide) (by decide))
 rw[hm] at HM
 obtain⟨W1,g,hW1,HG,HX0,HB⟩:=J2 w 48 #[.int .i64 0,.int .i64 0]
 go_enter Tryz.func168,Tryz.ntmps168
 go_upto_region 1 with fail
 rw[hW1.out,HG.out]
 clear hW1
 have HB1:=Lib.hid (fun n=>jd HB.out n)
 have HX1:=Lib.hid (fun n=>HX0.out.drewN n)
 have q0:∀n,(W1.drewN n).frozen? ⟨g,0,none⟩=false:=fun n=>(HX1.out n).free 0
 have q1:∀n,(W1.drewN n).frozen? ⟨g,1,none⟩=false:=fun n=>(HX1.out n).free 1
 have u0:∀n,(W1.drewN n).cell? ⟨g,0,none⟩=some (.int .i64 0):=fun n=>(HX1.out n).cell 0
 have u1:∀n,(W1.drewN n).cell? ⟨g,1,none⟩=some (.int .i64 0):=fun n=>(HX1.out n).cell 1
 go_wp2_with (go_at_call 45;refine(HM.out _).mono ?_;rintro e w' ⟨rfl,n1,rfl⟩)
 obtain⟨v0,v1⟩:=jk (a:=.int .i64 0) (b:=.int .i64 0) (HX1.out n1)
 refine bodyPost_ret (v:=.agg #[.int .i64 0,.int .i64 0]) (by simp[results,Tryz.results168,go_sem,v0,v1]) rfl ⟨_,_,rfl,by unfold InT;omega,?_⟩
 rw[HG.out]
 exact(((HB1.out n1).setCell (p:=⟨g,0,none⟩) (Nat.le_refl _) _).setCell (p:=⟨g,1,none⟩) (Nat.le_refl _) _)
theorem jfX (a:Int) (w:World) (a0 : -9223372036854775807≤a) (a1:a≤9223372036854775807) (hm:a%1000000000=500000000):Calls Tryz.prog 168 #[.int .i64 a] w (zI InT w):=by
 have HM:=Lib.hid (fun w=>jW a 1000000000 w a0 a1 (by decide) (by decide))
 rw[hm] at HM
 obtain⟨W1,g,hW1,HG,HX0,HB⟩:=J2 w 48 #[.int .i64 0,.int .i64 0]
 go_enter Tryz.func168,Tryz.ntmps168
 go_upto_region 1 with fail
 rw[hW1.out,HG.out]
 clear hW1
 have HB1:=Lib.hid (fun n=>jd HB.out n)
 have HX1:=Lib.hid (fun n=>HX0.out.drewN n)
 have q0:∀n,(W1.drewN n).frozen? ⟨g,0,none⟩=false:=fun n=>(HX1.out n).free 0
 have q1:∀n,(W1.drewN n).frozen? ⟨g,1,none⟩=false:=fun n=>(HX1.out n).free 1
 have u0:∀n,(W1.drewN n).cell? ⟨g,0,none⟩=some (.int .i64 0):=fun n=>(HX1.out n).cell 0
 have u1:∀n,(W1.drewN n).cell? ⟨g,1,none⟩=some (.int .i64 0):=fun n=>(HX1.out n).cell 1
 go_wp2_with (go_at_call 45;refine(HM.out _).mono ?_;rintro e w' ⟨rfl,n1,rfl⟩)
 obtain⟨v0,v1⟩:=jk (a:=.int .i64 0) (b:=.int .i64 0) (HX1.out n1)
 refine bodyPost_ret (v:=.agg #[.int .i64 0,.int .i64 0]) (by simp[results,Tryz.results168,go_sem,v0,v1]) rfl ⟨_,_,rfl,by unfold InT;omega,?_⟩
 rw[HG.out]
 exact(((HB1.out n1).setCell (p:=⟨g,0,none⟩) (Nat.le_refl _) _).setCell (p:=⟨g,1,none⟩) (Nat.le_refl _) _)
theorem jfs (a:Int) (w:World) (a0 : -9223372036854775807≤a) (a1:a≤9223372036854775807) (hm:a%1000000000=250000000):Calls Tryz.prog 168 #[.int .i64 a] w (zI InT w):=by
 have HM:=Lib.hid (fun w=>jW a 1000000000 w a0 a1 (by decide) (by decide))
 rw[hm] at HM
 obtain⟨W1,g,hW1,HG,HX0,HB⟩:=J2 w 48 #[.int .i64 0,.int .i64 0]
 go_enter Tryz.func168,Tryz.ntmps168
 go_upto_region 1 with fail
 rw[hW1.out,HG.out]
 clear hW1
 have HB1:=Lib.hid (fun n=>jd HB.out n)
 have HX1:=Lib.hid (fun n=>HX0.out.drewN n)
 have q0:∀n,(W1.drewN n).frozen? ⟨g,0,none⟩=false:=fun n=>(HX1.out n).free 0
 have q1:∀n,(W1.drewN n).frozen? ⟨g,1,none⟩=false:=fun n=>(HX1.out n).free 1
 have u0:∀n,(W1.drewN n).cell? ⟨g,0,none⟩=some (.int .i64 0):=fun n=>(HX1.out n).cell 0
 have u1:∀n,(W1.drewN n).cell? ⟨g,1,none⟩=some (.int .i64 0):=fun n=>(HX1.out n).cell 1
 go_wp2_with (go_at_call 45;refine(HM.out _).mono ?_;rintro e w' ⟨rfl,n1,rfl⟩)
 obtain⟨v0,v1⟩:=jk (a:=.int .i64 1000000000) (b:=.int .i64 1000000000) (HX1.out n1)
 refine bodyPost_ret (v:=.agg #[.int .i64 1000000000,.int .i64 1000000000]) (by simp[results,Tryz.results168,go_sem,v0,v1]) rfl ⟨_,_,rfl,by unfold InT;omega,?_⟩
 rw[HG.out]
 exact(((HB1.out n1).setCell (p:=⟨g,0,none⟩) (Nat.le_refl _) _).setCell (p:=⟨g,1,none⟩) (Nat.le_refl _) _)
theorem jfA (a:Int) (w:World) (a0 : -9223372036854775807≤a) (a1:a≤9223372036854775807) (hm:a%1000000000=750000000):Calls Tryz.prog 168 #[.int .i64 a] w (zI InT w):=by
 have HM:=Lib.hid (fun w=>jW a 1000000000 w a0 a1 (by decide) (by decide))
 rw[hm] at HM
 obtain⟨W1,g,hW1,HG,HX0,HB⟩:=J2 w 48 #[.int .i64 0,.int .i64 0]
 go_enter Tryz.func168,Tryz.ntmps168
 go_upto_region 1 with fail
 rw[hW1.out,HG.out]
 clear hW1
 have HB1:=Lib.hid (fun n=>jd HB.out n)
 have HX1:=Lib.hid (fun n=>HX0.out.drewN n)
 have q0:∀n,(W1.drewN n).frozen? ⟨g,0,none⟩=false:=fun n=>(HX1.out n).free 0
 have q1:∀n,(W1.drewN n).frozen? ⟨g,1,none⟩=false:=fun n=>(HX1.out n).free 1
 have u0:∀n,(W1.drewN n).cell? ⟨g,0,none⟩=some (.int .i64 0):=fun n=>(HX1.out n).cell 0
 have u1:∀n,(W1.drewN n).cell? ⟨g,1,none⟩=some (.int .i64 0):=fun n=>(HX1.out n).cell 1
 go_wp2_with (go_at_call 45;refine(HM.out _).mono ?_;rintro e w' ⟨rfl,n1,rfl⟩)
 obtain⟨v0,v1⟩:=jk (a:=.int .i64 (-1000000000)) (b:=.int .i64 (-1000000000)) (HX1.out n1)
 refine bodyPost_ret (v:=.agg #[.int .i64 (-1000000000),.int .i64 (-1000000000)]) (by simp[results,Tryz.results168,go_sem,v0,v1]) rfl ⟨_,_,rfl,by unfold InT;omega,?_⟩
 rw[HG.out]
 exact(((HB1.out n1).setCell (p:=⟨g,0,none⟩) (Nat.le_refl _) _).setCell (p:=⟨g,1,none⟩) (Nat.le_refl _) _)
theorem jft (a:Int) (w:World) (hT:TrigT w) (a0 : -9223372036854775807≤a) (a1:a≤9223372036854775807) (n0:a%1000000000≠0) (n2:a%1000000000≠500000000) (n1:a%1000000000≠250000000) (n3:a%1000000000≠750000000):Calls Tryz.prog 168 #[.int .i64 a] w (zI InT w):=by
 have HM:=Lib.hid (fun w=>jW a 1000000000 w a0 a1 (by decide) (by decide))
 have m0:0≤a%1000000000:=Int.emod_nonneg _ (by decide)
 have m1:a%1000000000<1000000000:=Int.emod_lt_of_pos _ (by decide)
 generalize a%1000000000=m at *
 have e0:(m==0)=false:=beq_eq_false_iff_ne.2 n0
 have e1:(m==250000000)=false:=beq_eq_false_iff_ne.2 n1
 have e2:(m==500000000)=false:=beq_eq_false_iff_ne.2 n2
 have e3:(m==750000000)=false:=beq_eq_false_iff_ne.2 n3
 obtain⟨b,c,x,gb,gc,gx,lx,nx⟩:=jfE m m0 m1
 obtain⟨s,gs,ls,_⟩:=vZ lx nx w hT
 have HS:=Lib.hid (fun w (hT:TrigT w)=>(by
  obtain⟨s',gs',_,hs'⟩:=vZ lx nx w hT
  rw[gs] at gs'
  cases gs'
  exact hs':Calls Tryz.prog 193 #[.float .f64 x] w fun e w'=>e = .returned (.float .f64 s)∧w'=w))
 have lT:Lb (1000000000*2^1074) vq:=qc (by decide +kernel)
 obtain⟨z,gz,_,_⟩:=jV (b:=1000000000) (t:=1098) lT ls (by decide) (by decide) (by decide +kernel)
 have HR:=Lib.hid (fun w=>jdM gb gc gx w)
 have f1:=jc .mul gz
 have f2:=fun w=>j5 (q:=.i64) m (d:=3) (by rw[Tryz.underlying3];rfl) w
 have HT:=Lib.hid hT
 clear gb gc gx lx nx gs ls lT gz hT m0 m1 n0 n1 n2 n3
 obtain⟨W1,g,hW1,HG,HX0,HB⟩:=J2 w 48 #[.int .i64 0,.int .i64 0]
 go_enter Tryz.func168,Tryz.ntmps168
 go_upto_region 1 with fail
 rw[hW1.out,HG.out]
 clear hW1
 have HB1:=Lib.hid (fun n=>jd HB.out n)
 have HX1:=Lib.hid (fun n=>HX0.out.drewN n)
 have HT1:Hid (∀n,TrigT (W1.drewN n)):=fun n=>HT.out.next (HG.out▸HB1.out n)
 go_upto_region 10 with(go_at_call 45;refine(HM.out _).mono ?_;rintro e w' ⟨rfl,n1,rfl⟩)
 have HX2:=Lib.hid (HX1.out n1)
 have HB2:=Lib.hid (HB1.out n1)
 have HT2:=Lib.hid (HT1.out n1)
 clear HX0 HX1 HB HB1 HT HT1
 generalize W1.drewN n1=W2 at *
 have lx:=HX2.out.lt
 have lift:∀w3 w4,Below W2.heap.size W2 w3→Below w3.heap.size w3 w4→Box w4 g 48 #[.int .i64 0,.int .i64 0]∧Below g w w4:=fun w3 w4 b3 b4=>⟨HX2.out.below (jb b3 b4),HB2.out.trans ((jb b3 b4).mono (by omega))⟩
 have HL:=Lib.hid lift
 clear lift HX2 HB2 lx
 go_wp2_with first
  | (go_at_call 194;refine(HR.out _).mono ?_;rintro e w' ⟨rfl,rfl⟩)
  | (go_at_call 193;refine(HS.out _ HT2.out).mono ?_;rintro e w' ⟨rfl,rfl⟩)
  | (go_at_call 172;refine(jU _ _).mono ?_;rintro e w3 ⟨u,v,rfl,_,hb3⟩)
  | (go_at_call 192;refine(jcm _ _ _).mono ?_;rintro e w4 ⟨u',v',rfl,hin,hb4⟩;obtain⟨HR4,HB4⟩:=HL.out _ _ hb3 hb4;replace HR4:=Lib.hid HR4;replace HB4:=Lib.hid HB4;have q0:w4.frozen? ⟨g,0,none⟩=false:=HR4.out.free 0;have q1:w4.frozen? ⟨g,1,none⟩=false:=HR4.out.free 1;have u0:w4.cell? ⟨g,0,none⟩=some (.int .i64 0):=HR4.out.cell 0;have u1:w4.cell? ⟨g,1,none⟩=some (.int .i64 0):=HR4.out.cell 1;clear hb3 hb4 HL)
 obtain⟨v0,v1⟩:=jk (a:=.int .i64 u') (b:=.int .i64 v') HR4.out
 refine bodyPost_ret (v:=.agg #[.int .i64 u',.int .i64 v']) (by simp[results,Tryz.results168,go_sem,v0,v1]) rfl ⟨_,_,rfl,hin,?_⟩
 rw[HG.out]
 exact(HB4.out.setCell (p:=⟨g,0,none⟩) (Nat.le_refl _) _).setCell (p:=⟨g,1,none⟩) (Nat.le_refl _) _
theorem vY (a:Int) (w:World) (hT:TrigT w) (a0 : -9223372036854775807≤a) (a1:a≤9223372036854775807):Calls Tryz.prog 168 #[.int .i64 a] w (zI InT w):=by
 by_cases n0:a%1000000000=0
 ·exact jfT a w a0 a1 n0
 by_cases n1:a%1000000000=250000000
 ·exact jfs a w a0 a1 n1
 by_cases n2:a%1000000000=500000000
 ·exact jfX a w a0 a1 n2
 by_cases n3:a%1000000000=750000000
 ·exact jfA a w a0 a1 n3
 exact jft a w hT a0 a1 n0 n2 n1 n3
def vg (a b:Int):Prop:=(-1000000000000000000≤a∧a≤1000000000000000000)∧(-1000000000000000000≤b∧b≤1000000000000000000)∧a≤b
def IchkQ (a b:Int) (w:World) (e:Ending) (w':World):Prop:=∃er:Int,e = .returned (.int .i64 er)∧(er=0↔vg a b)∧Below w.heap.size w w'
theorem jcx (a b:Int) (W:World):(Instr.index 146 (.agg #[.int .i64 a,.int .i64 b]) (.int .i64 0)).run Tryz.prog W = .ok (.int .i64 a) W∧(Instr.index 146 (.agg #[.int .i64 a,.int .i64 b]) (.int .i64 1)).run Tryz.prog W = .ok (.int .i64 b) W:=by
 constructor<;>simp[Instr.index,run_underlying Tryz.underlying146,asIntOf,go_sem]
theorem zM (a b:Int) (w:World):Calls Tryz.prog 125 #[.agg #[.int .i64 a,.int .i64 b]] w (IchkQ a b w):=by
 have HB:=Lib.hid (ja w (Obj.cells #[.int .i64 a,.int .i64 b] 48))
 have HX:=Lib.hid (Box.new w 48 #[.int .i64 a,.int .i64 b])
 have Hno1:Hid (¬(-1000000000000000000≤a∧a≤1000000000000000000)→((3:Int)=0↔vg a b)):=fun h=>⟨fun e=>by omega,fun e=>absurd e.1 h⟩
 have Hno2:Hid (¬(-1000000000000000000≤b∧b≤1000000000000000000)→((3:Int)=0↔vg a b)):=fun h=>⟨fun e=>by omega,fun e=>absurd e.2.1 h⟩
 have Hno3:Hid (b<a→((9:Int)=0↔vg a b)):=fun h=>⟨fun e=>by omega,fun e=>by have:=e.2.2;omega⟩
 have Hyes:Hid (-1000000000000000000≤a→a≤1000000000000000000→-1000000000000000000≤b→b≤1000000000000000000→a≤b→vg a b):=fun h1 h2 h3 h4 h5=>⟨⟨h1,h2⟩,⟨h3,h4⟩,h5⟩
 have i1:=fun W=>(jcx a b W).1
 have i2:=fun W=>(jcx a b W).2
 go_enter Tryz.func125,Tryz.ntmps125
 go_wp2_with fail
 generalize w.alloc (Obj.cells #[.int .i64 a,.int .i64 b] 48)=W1 at *
 generalize hg:w.heap.size=g at *
 have HG:=Lib.hid hg
 clear hg
 go_loopw [10] (fun iv wr=>∃k:Int,0≤k∧k≤2∧iv = .int .i64 k∧Hid (0<k→-1000000000000000000≤a∧a≤1000000000000000000)∧Hid (1<k→-1000000000000000000≤b∧b≤1000000000000000000)∧wr=W1) (fun iv _=>2-(intOf iv).toNat)
 case atStart=>exact⟨0,by omega,by omega,rfl,fun h=>by omega,fun h=>by omega,rfl⟩
 case round =>
  obtain⟨k,hk0,hk,rfl,hA,hC,rfl⟩:=hrel
  rcases(show k=0∨k=1∨k=2 by omega) with rfl|rfl|rfl
  ·by_cases h : -1000000000000000000≤a∧a≤1000000000000000000
   ·obtain⟨h1,h2⟩:=h
    have t1:decide (a < -1000000000000000000)=false:=decide_eq_false (by omega)
    have t2:decide (1000000000000000000<a)=false:=decide_eq_false (by omega)
    have H1:=Lib.hid (And.intro h1 h2)
    clear h1 h2
    go_wp2_with fail
    go_roundw
    case rel=>exact⟨1,by omega,by omega,by go_num,fun _=>H1.out,fun h=>by omega,trivial⟩
    case measure=>simp[intOf]
   ·have H:=Lib.hid (Hno1.out h)
    by_cases h1:a < -1000000000000000000
    ·have t1:decide (a < -1000000000000000000)=true:=decide_eq_true h1
     clear h h1
     go_wp2_with fail
     go_ret
     exact⟨_,rfl,H.out,by rw[HG.out];exact HB.out⟩
    ·have t1:decide (a < -1000000000000000000)=false:=decide_eq_false h1
     have t2:decide (1000000000000000000<a)=true:=decide_eq_true (by omega)
     clear h h1
     go_wp2_with fail
     go_ret
     exact⟨_,rfl,H.out,by rw[HG.out];exact HB.out⟩
  ·by_cases h : -1000000000000000000≤b∧b≤1000000000000000000
   ·obtain⟨h1,h2⟩:=h
    have t1:decide (b < -1000000000000000000)=false:=decide_eq_false (by omega)
    have t2:decide (1000000000000000000<b)=false:=decide_eq_false (by omega)
    have H1:=Lib.hid (And.intro h1 h2)
    clear h1 h2
    go_wp2_with fail
    go_roundw
    case rel=>exact⟨2,by omega,by omega,by go_num,fun _=>hA.out (by omega),fun h=>H1.out,trivial⟩
    case measure=>simp[intOf]
   ·have H:=Lib.hid (Hno2.out h)
    by_cases h1:b < -1000000000000000000
    ·have t1:decide (b < -1000000000000000000)=true:=decide_eq_true h1
     clear h h1
     go_wp2_with fail
     go_ret
     exact⟨_,rfl,H.out,by rw[HG.out];exact HB.out⟩
    ·have t1:decide (b < -1000000000000000000)=false:=decide_eq_false h1
     have t2:decide (1000000000000000000<b)=true:=decide_eq_true (by omega)
     clear h h1
     go_wp2_with fail
     go_ret
     exact⟨_,rfl,H.out,by rw[HG.out];exact HB.out⟩
  ·have h1:=hA.out (by omega)
   have h2:=hC.out (by omega)
   have x0:wr.cell? ⟨g,0,none⟩=some (.int .i64 a):=HX.out.cell 0
   have x1:wr.cell? ⟨g,1,none⟩=some (.int .i64 b):=HX.out.cell 1
   by_cases h:b<a
   ·have H:=Lib.hid (Hno3.out h)
    have t1:decide (b<a)=true:=decide_eq_true h
    clear h h1 h2
    go_wp2_with fail
    go_ret
    exact⟨_,rfl,H.out,by rw[HG.out];exact HB.out⟩
   ·have H:=Lib.hid (Hyes.out h1.1 h1.2 h2.1 h2.2 (by omega))
    have t1:decide (b<a)=false:=decide_eq_false h
    clear h h1 h2
    go_wp2_with fail
    go_ret
    exact⟨0,rfl,⟨fun _=>H.out,fun _=>rfl⟩,by rw[HG.out];exact HB.out⟩
def BoB (w:World) (e:Ending) (w':World):Prop:=∃b:Bool,e = .returned (.bool b)∧Below w.heap.size w w'
theorem kr (a b t:Int) (w:World) (hI:vg a b) (t0:0≤t) (t1:t≤1000000000):Calls Tryz.prog 169 #[.agg #[.int .i64 a,.int .i64 b],.int .i64 t] w (BoB w):=by
 obtain⟨⟨a0,a1⟩,⟨b0,b1⟩,ab⟩:=hI
 have e1:IntKind.i64.wrap (b-a)=b-a:=by simp only[IntKind.wrap_i64];omega
 have e2:IntKind.i64.wrap (t-a)=t-a:=by simp only[IntKind.wrap_i64];omega
 have HM:=Lib.hid (fun w=>jW (t-a) 1000000000 w (by omega) (by omega) (by decide) (by decide))
 have HB:=Lib.hid (ja w (Obj.cells #[.int .i64 a,.int .i64 b] 48))
 have HX:=Lib.hid (Box.new w 48 #[.int .i64 a,.int .i64 b])
 generalize (t-a)%1000000000=m at *
 go_enter Tryz.func169,Tryz.ntmps169
 go_upto_region 1 with fail
 generalize w.alloc (Obj.cells #[.int .i64 a,.int .i64 b] 48)=W1 at *
 generalize hg:w.heap.size=g at *
 have HG:=Lib.hid hg
 clear hg
 have z0:∀w,Below W1.heap.size W1 w→w.cell? ⟨g,0,none⟩=some (.int .i64 a):=fun w hb=>(HX.out.below hb).cell 0
 have z1:∀w,Below W1.heap.size W1 w→w.cell? ⟨g,1,none⟩=some (.int .i64 b):=fun w hb=>(HX.out.below hb).cell 1
 by_cases h:1000000000≤b-a
 ·have th:decide (1000000000≤b-a)=true:=decide_eq_true h
  clear h
  refine ju (jy []) (by kernel_rfl) (by kernel_rfl) ?_
  repeat (first|(refine jf (v:=?_) (by rfl) (by rfl) (fun w hb=>?_) ?_;rotate_left;(· go_simp<;>(repeat' apply And.intro)<;>with_reducible rfl);try simp only[pZ,Nat.reduceAdd])|(refine je (by rfl) (by rfl) ?_;try simp only[pZ,Nat.reduceAdd]))
  refine jo fun w1 hb1 _=>?_
  have HB3:=Lib.hid (HB.out.trans (hb1.mono (by have:=HX.out.lt;omega)))
  clear hb1 z0 z1
  go_wp2_with fail
  go_ret
  exact⟨_,rfl,by rw[HG.out];exact HB3.out⟩
 ·have th:decide (1000000000≤b-a)=false:=decide_eq_false h
  clear h
  refine ju (jy [(11,det (.int .i64 m))]) (by kernel_rfl) (by kernel_rfl) ?_
  repeat (first|(refine jf (v:=?_) (by rfl) (by rfl) (fun w hb=>?_) ?_;rotate_left;(· go_simp<;>(repeat' apply And.intro)<;>with_reducible rfl);try simp only[pZ,Nat.reduceAdd])|(refine je (by rfl) (by rfl) ?_;try simp only[pZ,Nat.reduceAdd]))
  refine j8 (f:=?_) (args:=?_) [] (by kernel_rfl) (by rfl) (by rfl) (fun w hb=>?_) (fun w hb hu=>?_) ?_;rotate_left 2;(· go_simp<;>(repeat' apply And.intro)<;>with_reducible rfl)
  ·exact(HM.out w).mono fun e w' ⟨p,n,q⟩=>⟨p,q▸jg _ n⟩
  try simp only[pZ,Nat.reduceAdd]
  repeat (first|(refine jf (v:=?_) (by rfl) (by rfl) (fun w hb=>?_) ?_;rotate_left;(· go_simp<;>(repeat' apply And.intro)<;>with_reducible rfl);try simp only[pZ,Nat.reduceAdd])|(refine je (by rfl) (by rfl) ?_;try simp only[pZ,Nat.reduceAdd]))
  refine jo fun w1 hb1 _=>?_
  have HB3:=Lib.hid (HB.out.trans (hb1.mono (by have:=HX.out.lt;omega)))
  clear hb1 z0 z1
  go_wp2_with fail
  go_ret
  exact⟨_,rfl,by rw[HG.out];exact HB3.out⟩
def Jo (P:Int→Int→Prop) (w:World) (e:Ending) (w':World):Prop:=∃a b er:Int,e = .returned (.tuple #[.agg #[.int .i64 a,.int .i64 b],.int .i64 er])∧P a b∧Below w.heap.size w w'
theorem YH (a b:Int) (w:World) (h:¬vg a b):Calls Tryz.prog 126 #[.agg #[.int .i64 a,.int .i64 b]] w (Jo InT w):=by
 have HC:=Lib.hid (fun w=>zM a b w)
 have HN:Hid (¬vg a b):=h
 clear h
 obtain⟨W1,g,hW1,HG,HX0,HX1,HB⟩:=vA w 48 #[.int .i64 a,.int .i64 b] 48 #[.int .i64 0,.int .i64 0]
 go_enter Tryz.func126,Tryz.ntmps126
 go_upto_region 1 with fail
 rw[hW1.out,HG.out]
 clear hW1
 obtain⟨x0,x1⟩:=sqc HX0
 go_upto_region 2 with(go_at_call 125;refine(HC.out _).mono ?_;rintro e w2 ⟨er,rfl,her,hb2⟩)
 have hne:(er != 0)=true:=by rw[bne_iff_ne];exact fun e=>HN.out (her.1 e)
 have HR2:=Lib.hid (HX1.out.below hb2)
 have HB2:=Lib.hid (HB.out.trans (hb2.mono (by have:=HX1.out.lt;omega)))
 clear her hb2 x0 x1
 obtain⟨q0,u0,q1,u1⟩:=sqf HR2
 go_wp2_with fail
 obtain⟨W4,h4,v0,v1,hb4⟩:=sqt HR2 HB2 (by omega) (.int .i64 0) (.int .i64 0)
 clear q0 q1 u0 u1
 rw[h4.out]
 refine bodyPost_ret (v:=.tuple #[.agg #[.int .i64 0,.int .i64 0],.int .i64 er]) (by simp[results,Tryz.results126,go_sem,v0,v1]) rfl ⟨_,_,_,rfl,by unfold InT;omega,?_⟩
 rw[HG.out]
 exact hb4
theorem XB (a b:Int) (w:World) (hT:TrigT w) (h:vg a b):Calls Tryz.prog 126 #[.agg #[.int .i64 a,.int .i64 b]] w (Jo InT w):=by
 have HC:=Lib.hid (fun w=>zM a b w)
 have HN:Hid (vg a b):=h
 have HT:=Lib.hid hT
 have HS1:=Lib.hid (fun w hT=>vY a w hT (by have:=h.1;omega) (by have:=h.1;omega))
 have HS2:=Lib.hid (fun w hT=>vY b w hT (by have:=h.2.1;omega) (by have:=h.2.1;omega))
 have HK1:=Lib.hid (fun w=>kr a b 250000000 w h (by decide) (by decide))
 have HK2:=Lib.hid (fun w=>kr a b 750000000 w h (by decide) (by decide))
 clear h hT
 obtain⟨W1,g,hW1,HG,HX0,HX1,HB⟩:=vA w 48 #[.int .i64 a,.int .i64 b] 48 #[.int .i64 0,.int .i64 0]
 go_enter Tryz.func126,Tryz.ntmps126
 go_upto_region 1 with fail
 rw[hW1.out,HG.out]
 clear hW1
 obtain⟨x0,x1⟩:=sqc HX0
 have HT1:=Lib.hid (HT.out.next (HG.out▸HB.out))
 go_upto_region 4 with(go_at_call 125;refine(HC.out _).mono ?_;rintro e w2 ⟨er,rfl,her,hb2⟩;obtain rfl:er=0:=her.2 HN.out;clear her)
 have HX2:=Lib.hid (HX0.out.below hb2)
 have HR2:=Lib.hid (HX1.out.below hb2)
 have HT2:=Lib.hid (HT1.out.next hb2)
 have HB2:=Lib.hid (HB.out.trans (hb2.mono (by have:=HX1.out.lt;omega)))
 clear hb2 x0 x1 HX0 HX1 HB HT1 HT HC HN
 have z0:∀w,Below w2.heap.size w2 w→w.cell? ⟨g,0,none⟩=some (.int .i64 a):=fun w hb=>(HX2.out.below hb).cell 0
 have z1:∀w,Below w2.heap.size w2 w→w.cell? ⟨g,1,none⟩=some (.int .i64 b):=fun w hb=>(HX2.out.below hb).cell 1
 refine jr 8 (jy [(2,⟨fun v=>∃x y,v = .agg #[.int .i64 x,.int .i64 y]∧InT x y,fun _ _=>True⟩),(5,⟨fun v=>∃x y,v = .agg #[.int .i64 x,.int .i64 y]∧InT x y,fun _ _=>True⟩)]) (by kernel_rfl) (by kernel_rfl) ?_
 simp only[List.take_succ_cons,List.take_zero,List.drop_succ_cons,List.drop_zero]
 repeat (first|(refine jf (v:=?_) (by rfl) (by rfl) (fun w hb=>?_) ?_;rotate_left;(· go_simp<;>(repeat' apply And.intro)<;>with_reducible rfl);try simp only[pZ,Nat.reduceAdd])|(refine je (by rfl) (by rfl) ?_;try simp only[pZ,Nat.reduceAdd]))
 refine jl (f:=?_) (args:=?_) [] (by kernel_rfl) (by rfl) (by rfl) ?_ ?_ (fun w hb=>?_) (fun w hb hu=>?_) ?_;rotate_left 4;(· go_simp<;>(repeat' apply And.intro)<;>with_reducible rfl)
 ·refine(HS1.out w (HT2.out.next hb)).mono ?_
  rintro e w' ⟨x,y,he,hi,hb'⟩
  exact⟨_,he,⟨x,y,rfl,hi⟩,trivial,hb'⟩
 rintro v ⟨l0,l1,rfl,hl⟩
 try simp only[pZ,Nat.reduceAdd]
 repeat (first|(refine jf (v:=?_) (by rfl) (by rfl) (fun w hb=>?_) ?_;rotate_left;(· go_simp<;>(repeat' apply And.intro)<;>with_reducible rfl);try simp only[pZ,Nat.reduceAdd])|(refine je (by rfl) (by rfl) ?_;try simp only[pZ,Nat.reduceAdd]))
 refine jl (f:=?_) (args:=?_) [] (by kernel_rfl) (by rfl) (by rfl) ?_ ?_ (fun w hb=>?_) (fun w hb hu=>?_) ?_;rotate_left 4;(· go_simp<;>(repeat' apply And.intro)<;>with_reducible rfl)
 ·refine(HS2.out w (HT2.out.next hb)).mono ?_
  rintro e w' ⟨x,y,he,hi,hb'⟩
  exact⟨_,he,⟨x,y,rfl,hi⟩,trivial,hb'⟩
 rintro v ⟨r0,r1,rfl,hr⟩
 try simp only[pZ,Nat.reduceAdd]
 refine zH (t:=?_) (cs:=?_) (by rfl) (by rfl) (fun w hb=>?_) (fun g5 hg5=>?_);rotate_left 2;(· go_simp<;>(repeat' apply And.intro)<;>with_reducible rfl);try simp only[pZ,Nat.reduceAdd]
 try simp only[pZ,Nat.reduceAdd]
 refine zH (t:=?_) (cs:=?_) (by rfl) (by rfl) (fun w hb=>?_) (fun g6 hg6=>?_);rotate_left 2;(· go_simp<;>(repeat' apply And.intro)<;>with_reducible rfl);try simp only[pZ,Nat.reduceAdd]
 try simp only[pZ,Nat.reduceAdd]
 refine jo fun w3 hb3 hf=>?_
 any_goals (first|exact⟨_,0,0,rfl,by unfold InT;omega⟩|exact fun _ _ _ _ h=>h)
 have HY6:Box w3 g6 48 #[.int .i64 0,.int .i64 0]:=hf.1
 have HY5:Box w3 g5 48 #[.int .i64 0,.int .i64 0]:=hf.2.1
 have HX3:=Lib.hid (HX2.out.below hb3)
 have HR3:=Lib.hid (HR2.out.below hb3)
 have lg:=HR2.out.lt
 have HB3:=Lib.hid (HB2.out.trans (hb3.mono (by omega)))
 have q0:w3.cell? ⟨g5,0,none⟩=some (.int .i64 0):=HY5.cell 0
 have q1:w3.cell? ⟨g5,1,none⟩=some (.int .i64 0):=HY5.cell 1
 have qf:∀i,w3.frozen? ⟨g5,i,none⟩=false:=fun i=>HY5.free i
 have ql:g5<w3.heap.size:=HY5.lt
 have HY5':=Lib.hid HY5
 have HY6':=Lib.hid HY6
 clear hf hb3 z0 z1 HY5 HY6 HX2 HR2 HB2
 refine wpList_step fun K hK=>?_
 rw[if_pos (by rfl)]
 go_simp
 refine hK _ _ ?_
 clear hK K q0 q1 qf ql
 have HX4:=Lib.hid ((HX3.out.far (p:=⟨g5,0,none⟩) (by show g≠g5;omega) (.int .i64 l0)).far (p:=⟨g5,1,none⟩) (by show g≠g5;omega) (.int .i64 l1))
 have HR4:=Lib.hid ((HR3.out.far (p:=⟨g5,0,none⟩) (by show g+1≠g5;omega) (.int .i64 l0)).far (p:=⟨g5,1,none⟩) (by show g+1≠g5;omega) (.int .i64 l1))
 have HB4:=Lib.hid ((HB3.out.setCell (p:=⟨g5,0,none⟩) (by show g≤g5;omega) (.int .i64 l0)).setCell (p:=⟨g5,1,none⟩) (by show g≤g5;omega) (.int .i64 l1))
 have HY54:=Lib.hid ((HY5'.out.set_ 0 (.int .i64 l0)).set_ 1 (.int .i64 l1))
 have HY64:Hid (∃u v:Int,Box ((w3.setCell ⟨g5,0,none⟩ (.int .i64 l0)).setCell ⟨g5,1,none⟩ (.int .i64 l1)) g6 48 #[.int .i64 u,.int .i64 v]):=by
  by_cases e:g6=g5
  ·subst e;exact⟨l0,l1,HY54.out⟩
  ·exact⟨0,0,(HY6'.out.far (p:=⟨g5,0,none⟩) e (.int .i64 l0)).far (p:=⟨g5,1,none⟩) e (.int .i64 l1)⟩
 clear HX3 HR3 HB3 HY5' HY6'
 generalize (w3.setCell ⟨g5,0,none⟩ (.int .i64 l0)).setCell ⟨g5,1,none⟩ (.int .i64 l1)=w4 at *
 obtain⟨u0,u1,hy6⟩:=HY64.out
 have q0:w4.cell? ⟨g6,0,none⟩=some (.int .i64 u0):=hy6.cell 0
 have q1:w4.cell? ⟨g6,1,none⟩=some (.int .i64 u1):=hy6.cell 1
 have qf:∀i,w4.frozen? ⟨g6,i,none⟩=false:=fun i=>hy6.free i
 have ql:g6<w4.heap.size:=hy6.lt
 have HY6':=Lib.hid hy6
 clear hy6 HY64
 refine wpList_step fun K hK=>?_
 rw[if_pos (by rfl)]
 go_simp
 refine hK _ _ (wpList_nil ?_)
 clear hK K q0 q1 qf ql
 have HX5:=Lib.hid ((HX4.out.far (p:=⟨g6,0,none⟩) (by show g≠g6;omega) (.int .i64 r0)).far (p:=⟨g6,1,none⟩) (by show g≠g6;omega) (.int .i64 r1))
 have HR5:=Lib.hid ((HR4.out.far (p:=⟨g6,0,none⟩) (by show g+1≠g6;omega) (.int .i64 r0)).far (p:=⟨g6,1,none⟩) (by show g+1≠g6;omega) (.int .i64 r1))
 have HB5:=Lib.hid ((HB4.out.setCell (p:=⟨g6,0,none⟩) (by show g≤g6;omega) (.int .i64 r0)).setCell (p:=⟨g6,1,none⟩) (by show g≤g6;omega) (.int .i64 r1))
 have HY65:=Lib.hid ((HY6'.out.set_ 0 (.int .i64 r0)).set_ 1 (.int .i64 r1))
 have HY55:Hid (∃u v:Int,InT u v∧Box ((w4.setCell ⟨g6,0,none⟩ (.int .i64 r0)).setCell ⟨g6,1,none⟩ (.int .i64 r1)) g5 48 #[.int .i64 u,.int .i64 v]):=by
  by_cases e:g5=g6
  ·subst e;exact⟨r0,r1,hr,HY65.out⟩
  ·exact⟨l0,l1,hl,(HY54.out.far (p:=⟨g6,0,none⟩) e (.int .i64 r0)).far (p:=⟨g6,1,none⟩) e (.int .i64 r1)⟩
 clear HX4 HR4 HB4 HY54 HY6'
 generalize (w4.setCell ⟨g6,0,none⟩ (.int .i64 r0)).setCell ⟨g6,1,none⟩ (.int .i64 r1)=w5 at *
 clear hl
 obtain⟨s0,s1,hl,hy5⟩:=HY55.out
 have HY5:=Lib.hid hy5
 have HT5:=Lib.hid (HT2.out)
 clear hy5 HY55 HT2 HT5 HS1 HS2
 have x0:w5.cell? ⟨g5,0,none⟩=some (.int .i64 s0):=HY5.out.cell 0
 have x1:w5.cell? ⟨g5,1,none⟩=some (.int .i64 s1):=HY5.out.cell 1
 have y0:w5.cell? ⟨g6,0,none⟩=some (.int .i64 r0):=HY65.out.cell 0
 have y1:w5.cell? ⟨g6,1,none⟩=some (.int .i64 r1):=HY65.out.cell 1
 unfold InT at hl hr
 by_cases h1:r0<s0<;>by_cases h2:s1<r1
 ·skip
  go_upto_region 6 with fail
  have HX6:=Lib.hid (HX5.out.alloc (Obj.cells #[.int .i64 r0,.int .i64 r1] 48))
  have HR6:=Lib.hid (HR5.out.alloc (Obj.cells #[.int .i64 r0,.int .i64 r1] 48))
  have HO6:=Lib.hid (Box.new w5 48 #[.int .i64 r0,.int .i64 r1])
  have l5:=HR5.out.lt
  have HB6:=Lib.hid (HB5.out.trans ((ja w5 (Obj.cells #[.int .i64 r0,.int .i64 r1] 48)).mono (by omega)))
  clear HX5 HR5 HB5 HY5 HY65 x0 x1 y0 y1
  generalize w5.alloc (Obj.cells #[.int .i64 r0,.int .i64 r1] 48)=w6 at *
  generalize w5.heap.size=gt at *
  have lt6:=HO6.out.lt
  have x0:w6.cell? ⟨g,0,none⟩=some (.int .i64 a):=HX6.out.cell 0
  have x1:w6.cell? ⟨g,1,none⟩=some (.int .i64 b):=HX6.out.cell 1
  go_upto_region 8 with(go_at_call 169;refine(HK1.out _).mono ?_;rintro e w7 ⟨b1,rfl,hb7⟩;have l7:=hb7.size;have HX7:=Lib.hid (HX6.out.below hb7);have HR7:=Lib.hid (HR6.out.below hb7);have HO7:=Lib.hid (HO6.out.below hb7);have HB7:=Lib.hid (HB6.out.trans (hb7.mono (by omega)));clear hb7 HX6 HR6 HO6 HB6 x0 x1;have c0:w7.cell? ⟨gt,0,none⟩=some (.int .i64 r0):=HO7.out.cell 0;have c1:w7.cell? ⟨gt,1,none⟩=some (.int .i64 r1):=HO7.out.cell 1;have cf:∀i,w7.frozen? ⟨gt,i,none⟩=false:=fun i=>HO7.out.free i;cases b1)
  ·clear c0 c1 cf
   have x0:w7.cell? ⟨g,0,none⟩=some (.int .i64 a):=HX7.out.cell 0
   have x1:w7.cell? ⟨g,1,none⟩=some (.int .i64 b):=HX7.out.cell 1
   go_upto_region 10 with(go_at_call 169;refine(HK2.out _).mono ?_;rintro e w8 ⟨b2,rfl,hb8⟩;have HX8:=Lib.hid (HX7.out.below hb8);have HR8:=Lib.hid (HR7.out.below hb8);have HO8:=Lib.hid (HO7.out.below hb8);have HB8:=Lib.hid (HB7.out.trans (hb8.mono (by omega)));clear hb8 HX7 HR7 HO7 HB7;have c0:w8.cell? ⟨gt,0,none⟩=some (.int .i64 r0):=HO8.out.cell 0;have c1:w8.cell? ⟨gt,1,none⟩=some (.int .i64 r1):=HO8.out.cell 1;have cf:∀i,w8.frozen? ⟨gt,i,none⟩=false:=fun i=>HO8.out.free i;cases b2)
   ·clear c0 c1 cf
    have a0:w8.cell? ⟨gt,0,none⟩=some (.int .i64 r0):=HO8.out.cell 0
    have a1:w8.cell? ⟨gt,1,none⟩=some (.int .i64 r1):=HO8.out.cell 1
    have q0:w8.frozen? ⟨g+1,0,none⟩=false:=HR8.out.free 0
    have q1:w8.frozen? ⟨g+1,1,none⟩=false:=HR8.out.free 1
    have u0:w8.cell? ⟨g+1,0,none⟩=some (.int .i64 0):=HR8.out.cell 0
    have u1:w8.cell? ⟨g+1,1,none⟩=some (.int .i64 0):=HR8.out.cell 1
    go_wp2_with fail
    obtain⟨v0,v1⟩:=jk (a:=.int .i64 r0) (b:=.int .i64 r1) HR8.out
    refine bodyPost_ret (v:=.tuple #[.agg #[.int .i64 r0,.int .i64 r1],.int .i64 0]) (by simp[results,Tryz.results126,go_sem,v0,v1]) rfl ⟨_,_,_,rfl,by unfold InT;omega,?_⟩
    rw[HG.out]
    exact(HB8.out.setCell (p:=⟨g+1,0,none⟩) (by show g≤g+1;omega) _).setCell (p:=⟨g+1,1,none⟩) (by show g≤g+1;omega) _
   ·clear c0 c1 cf
    have HR9:=Lib.hid (HR8.out.far (p:=⟨gt,0,none⟩) (by show g+1≠gt;omega) (.int .i64 (-1000000000)))
    have HO9:=Lib.hid (HO8.out.set_ 0 (.int .i64 (-1000000000)))
    have HB9:=Lib.hid (HB8.out.setCell (p:=⟨gt,0,none⟩) (by show g≤gt;omega) (.int .i64 (-1000000000)))
    generalize w8.setCell ⟨gt,0,none⟩ (.int .i64 (-1000000000))=w9 at *
    have a0:w9.cell? ⟨gt,0,none⟩=some (.int .i64 (-1000000000)):=HO9.out.cell 0
    have a1:w9.cell? ⟨gt,1,none⟩=some (.int .i64 r1):=HO9.out.cell 1
    have q0:w9.frozen? ⟨g+1,0,none⟩=false:=HR9.out.free 0
    have q1:w9.frozen? ⟨g+1,1,none⟩=false:=HR9.out.free 1
    have u0:w9.cell? ⟨g+1,0,none⟩=some (.int .i64 0):=HR9.out.cell 0
    have u1:w9.cell? ⟨g+1,1,none⟩=some (.int .i64 0):=HR9.out.cell 1
    go_wp2_with fail
    obtain⟨v0,v1⟩:=jk (a:=.int .i64 (-1000000000)) (b:=.int .i64 r1) HR9.out
    refine bodyPost_ret (v:=.tuple #[.agg #[.int .i64 (-1000000000),.int .i64 r1],.int .i64 0]) (by simp[results,Tryz.results126,go_sem,v0,v1]) rfl ⟨_,_,_,rfl,by unfold InT;omega,?_⟩
    rw[HG.out]
    exact(HB9.out.setCell (p:=⟨g+1,0,none⟩) (by show g≤g+1;omega) _).setCell (p:=⟨g+1,1,none⟩) (by show g≤g+1;omega) _
  ·clear c0 c1 cf
   have HX7b:=Lib.hid (HX7.out.far (p:=⟨gt,1,none⟩) (by show g≠gt;omega) (.int .i64 1000000000))
   have HR7b:=Lib.hid (HR7.out.far (p:=⟨gt,1,none⟩) (by show g+1≠gt;omega) (.int .i64 1000000000))
   have HO7b:=Lib.hid (HO7.out.set_ 1 (.int .i64 1000000000))
   have HB7b:=Lib.hid (HB7.out.setCell (p:=⟨gt,1,none⟩) (by show g≤gt;omega) (.int .i64 1000000000))
   have l7b:(w7.setCell ⟨gt,1,none⟩ (.int .i64 1000000000)).heap.size=w7.heap.size:=World.size_setCell _ _ _
   clear HX7 HR7 HO7 HB7
   generalize w7.setCell ⟨gt,1,none⟩ (.int .i64 1000000000)=w7b at *
   have HX7:=HX7b
   have HR7:=HR7b
   have HO7:=HO7b
   have HB7:=HB7b
   have x0:w7b.cell? ⟨g,0,none⟩=some (.int .i64 a):=HX7.out.cell 0
   have x1:w7b.cell? ⟨g,1,none⟩=some (.int .i64 b):=HX7.out.cell 1
   go_upto_region 10 with(go_at_call 169;refine(HK2.out _).mono ?_;rintro e w8 ⟨b2,rfl,hb8⟩;have HX8:=Lib.hid (HX7.out.below hb8);have HR8:=Lib.hid (HR7.out.below hb8);have HO8:=Lib.hid (HO7.out.below hb8);have HB8:=Lib.hid (HB7.out.trans (hb8.mono (by omega)));clear hb8 HX7 HR7 HO7 HB7;have c0:w8.cell? ⟨gt,0,none⟩=some (.int .i64 r0):=HO8.out.cell 0;have c1:w8.cell? ⟨gt,1,none⟩=some (.int .i64 1000000000):=HO8.out.cell 1;have cf:∀i,w8.frozen? ⟨gt,i,none⟩=false:=fun i=>HO8.out.free i;cases b2)
   ·clear c0 c1 cf
    have a0:w8.cell? ⟨gt,0,none⟩=some (.int .i64 r0):=HO8.out.cell 0
    have a1:w8.cell? ⟨gt,1,none⟩=some (.int .i64 1000000000):=HO8.out.cell 1
    have q0:w8.frozen? ⟨g+1,0,none⟩=false:=HR8.out.free 0
    have q1:w8.frozen? ⟨g+1,1,none⟩=false:=HR8.out.free 1
    have u0:w8.cell? ⟨g+1,0,none⟩=some (.int .i64 0):=HR8.out.cell 0
    have u1:w8.cell? ⟨g+1,1,none⟩=some (.int .i64 0):=HR8.out.cell 1
    go_wp2_with fail
    obtain⟨v0,v1⟩:=jk (a:=.int .i64 r0) (b:=.int .i64 1000000000) HR8.out
    refine bodyPost_ret (v:=.tuple #[.agg #[.int .i64 r0,.int .i64 1000000000],.int .i64 0]) (by simp[results,Tryz.results126,go_sem,v0,v1]) rfl ⟨_,_,_,rfl,by unfold InT;omega,?_⟩
    rw[HG.out]
    exact(HB8.out.setCell (p:=⟨g+1,0,none⟩) (by show g≤g+1;omega) _).setCell (p:=⟨g+1,1,none⟩) (by show g≤g+1;omega) _
   ·clear c0 c1 cf
    have HR9:=Lib.hid (HR8.out.far (p:=⟨gt,0,none⟩) (by show g+1≠gt;omega) (.int .i64 (-1000000000)))
    have HO9:=Lib.hid (HO8.out.set_ 0 (.int .i64 (-1000000000)))
    have HB9:=Lib.hid (HB8.out.setCell (p:=⟨gt,0,none⟩) (by show g≤gt;omega) (.int .i64 (-1000000000)))
    generalize w8.setCell ⟨gt,0,none⟩ (.int .i64 (-1000000000))=w9 at *
    have a0:w9.cell? ⟨gt,0,none⟩=some (.int .i64 (-1000000000)):=HO9.out.cell 0
    have a1:w9.cell? ⟨gt,1,none⟩=some (.int .i64 1000000000):=HO9.out.cell 1
    have q0:w9.frozen? ⟨g+1,0,none⟩=false:=HR9.out.free 0
    have q1:w9.frozen? ⟨g+1,1,none⟩=false:=HR9.out.free 1
    have u0:w9.cell? ⟨g+1,0,none⟩=some (.int .i64 0):=HR9.out.cell 0
    have u1:w9.cell? ⟨g+1,1,none⟩=some (.int .i64 0):=HR9.out.cell 1
    go_wp2_with fail
    obtain⟨v0,v1⟩:=jk (a:=.int .i64 (-1000000000)) (b:=.int .i64 1000000000) HR9.out
    refine bodyPost_ret (v:=.tuple #[.agg #[.int .i64 (-1000000000),.int .i64 1000000000],.int .i64 0]) (by simp[results,Tryz.results126,go_sem,v0,v1]) rfl ⟨_,_,_,rfl,by unfold InT;omega,?_⟩
    rw[HG.out]
    exact(HB9.out.setCell (p:=⟨g+1,0,none⟩) (by show g≤g+1;omega) _).setCell (p:=⟨g+1,1,none⟩) (by show g≤g+1;omega) _
 ·skip
  go_upto_region 6 with fail
  have HX6:=Lib.hid (HX5.out.alloc (Obj.cells #[.int .i64 r0,.int .i64 s1] 48))
  have HR6:=Lib.hid (HR5.out.alloc (Obj.cells #[.int .i64 r0,.int .i64 s1] 48))
  have HO6:=Lib.hid (Box.new w5 48 #[.int .i64 r0,.int .i64 s1])
  have l5:=HR5.out.lt
  have HB6:=Lib.hid (HB5.out.trans ((ja w5 (Obj.cells #[.int .i64 r0,.int .i64 s1] 48)).mono (by omega)))
  clear HX5 HR5 HB5 HY5 HY65 x0 x1 y0 y1
  generalize w5.alloc (Obj.cells #[.int .i64 r0,.int .i64 s1] 48)=w6 at *
  generalize w5.heap.size=gt at *
  have lt6:=HO6.out.lt
  have x0:w6.cell? ⟨g,0,none⟩=some (.int .i64 a):=HX6.out.cell 0
  have x1:w6.cell? ⟨g,1,none⟩=some (.int .i64 b):=HX6.out.cell 1
  go_upto_region 8 with(go_at_call 169;refine(HK1.out _).mono ?_;rintro e w7 ⟨b1,rfl,hb7⟩;have l7:=hb7.size;have HX7:=Lib.hid (HX6.out.below hb7);have HR7:=Lib.hid (HR6.out.below hb7);have HO7:=Lib.hid (HO6.out.below hb7);have HB7:=Lib.hid (HB6.out.trans (hb7.mono (by omega)));clear hb7 HX6 HR6 HO6 HB6 x0 x1;have c0:w7.cell? ⟨gt,0,none⟩=some (.int .i64 r0):=HO7.out.cell 0;have c1:w7.cell? ⟨gt,1,none⟩=some (.int .i64 s1):=HO7.out.cell 1;have cf:∀i,w7.frozen? ⟨gt,i,none⟩=false:=fun i=>HO7.out.free i;cases b1)
  ·clear c0 c1 cf
   have x0:w7.cell? ⟨g,0,none⟩=some (.int .i64 a):=HX7.out.cell 0
   have x1:w7.cell? ⟨g,1,none⟩=some (.int .i64 b):=HX7.out.cell 1
   go_upto_region 10 with(go_at_call 169;refine(HK2.out _).mono ?_;rintro e w8 ⟨b2,rfl,hb8⟩;have HX8:=Lib.hid (HX7.out.below hb8);have HR8:=Lib.hid (HR7.out.below hb8);have HO8:=Lib.hid (HO7.out.below hb8);have HB8:=Lib.hid (HB7.out.trans (hb8.mono (by omega)));clear hb8 HX7 HR7 HO7 HB7;have c0:w8.cell? ⟨gt,0,none⟩=some (.int .i64 r0):=HO8.out.cell 0;have c1:w8.cell? ⟨gt,1,none⟩=some (.int .i64 s1):=HO8.out.cell 1;have cf:∀i,w8.frozen? ⟨gt,i,none⟩=false:=fun i=>HO8.out.free i;cases b2)
   ·clear c0 c1 cf
    have a0:w8.cell? ⟨gt,0,none⟩=some (.int .i64 r0):=HO8.out.cell 0
    have a1:w8.cell? ⟨gt,1,none⟩=some (.int .i64 s1):=HO8.out.cell 1
    have q0:w8.frozen? ⟨g+1,0,none⟩=false:=HR8.out.free 0
    have q1:w8.frozen? ⟨g+1,1,none⟩=false:=HR8.out.free 1
    have u0:w8.cell? ⟨g+1,0,none⟩=some (.int .i64 0):=HR8.out.cell 0
    have u1:w8.cell? ⟨g+1,1,none⟩=some (.int .i64 0):=HR8.out.cell 1
    go_wp2_with fail
    obtain⟨v0,v1⟩:=jk (a:=.int .i64 r0) (b:=.int .i64 s1) HR8.out
    refine bodyPost_ret (v:=.tuple #[.agg #[.int .i64 r0,.int .i64 s1],.int .i64 0]) (by simp[results,Tryz.results126,go_sem,v0,v1]) rfl ⟨_,_,_,rfl,by unfold InT;omega,?_⟩
    rw[HG.out]
    exact(HB8.out.setCell (p:=⟨g+1,0,none⟩) (by show g≤g+1;omega) _).setCell (p:=⟨g+1,1,none⟩) (by show g≤g+1;omega) _
   ·clear c0 c1 cf
    have HR9:=Lib.hid (HR8.out.far (p:=⟨gt,0,none⟩) (by show g+1≠gt;omega) (.int .i64 (-1000000000)))
    have HO9:=Lib.hid (HO8.out.set_ 0 (.int .i64 (-1000000000)))
    have HB9:=Lib.hid (HB8.out.setCell (p:=⟨gt,0,none⟩) (by show g≤gt;omega) (.int .i64 (-1000000000)))
    generalize w8.setCell ⟨gt,0,none⟩ (.int .i64 (-1000000000))=w9 at *
    have a0:w9.cell? ⟨gt,0,none⟩=some (.int .i64 (-1000000000)):=HO9.out.cell 0
    have a1:w9.cell? ⟨gt,1,none⟩=some (.int .i64 s1):=HO9.out.cell 1
    have q0:w9.frozen? ⟨g+1,0,none⟩=false:=HR9.out.free 0
    have q1:w9.frozen? ⟨g+1,1,none⟩=false:=HR9.out.free 1
    have u0:w9.cell? ⟨g+1,0,none⟩=some (.int .i64 0):=HR9.out.cell 0
    have u1:w9.cell? ⟨g+1,1,none⟩=some (.int .i64 0):=HR9.out.cell 1
    go_wp2_with fail
    obtain⟨v0,v1⟩:=jk (a:=.int .i64 (-1000000000)) (b:=.int .i64 s1) HR9.out
    refine bodyPost_ret (v:=.tuple #[.agg #[.int .i64 (-1000000000),.int .i64 s1],.int .i64 0]) (by simp[results,Tryz.results126,go_sem,v0,v1]) rfl ⟨_,_,_,rfl,by unfold InT;omega,?_⟩
    rw[HG.out]
    exact(HB9.out.setCell (p:=⟨g+1,0,none⟩) (by show g≤g+1;omega) _).setCell (p:=⟨g+1,1,none⟩) (by show g≤g+1;omega) _
  ·clear c0 c1 cf
   have HX7b:=Lib.hid (HX7.out.far (p:=⟨gt,1,none⟩) (by show g≠gt;omega) (.int .i64 1000000000))
   have HR7b:=Lib.hid (HR7.out.far (p:=⟨gt,1,none⟩) (by show g+1≠gt;omega) (.int .i64 1000000000))
   have HO7b:=Lib.hid (HO7.out.set_ 1 (.int .i64 1000000000))
   have HB7b:=Lib.hid (HB7.out.setCell (p:=⟨gt,1,none⟩) (by show g≤gt;omega) (.int .i64 1000000000))
   have l7b:(w7.setCell ⟨gt,1,none⟩ (.int .i64 1000000000)).heap.size=w7.heap.size:=World.size_setCell _ _ _
   clear HX7 HR7 HO7 HB7
   generalize w7.setCell ⟨gt,1,none⟩ (.int .i64 1000000000)=w7b at *
   have HX7:=HX7b
   have HR7:=HR7b
   have HO7:=HO7b
   have HB7:=HB7b
   have x0:w7b.cell? ⟨g,0,none⟩=some (.int .i64 a):=HX7.out.cell 0
   have x1:w7b.cell? ⟨g,1,none⟩=some (.int .i64 b):=HX7.out.cell 1
   go_upto_region 10 with(go_at_call 169;refine(HK2.out _).mono ?_;rintro e w8 ⟨b2,rfl,hb8⟩;have HX8:=Lib.hid (HX7.out.below hb8);have HR8:=Lib.hid (HR7.out.below hb8);have HO8:=Lib.hid (HO7.out.below hb8);have HB8:=Lib.hid (HB7.out.trans (hb8.mono (by omega)));clear hb8 HX7 HR7 HO7 HB7;have c0:w8.cell? ⟨gt,0,none⟩=some (.int .i64 r0):=HO8.out.cell 0;have c1:w8.cell? ⟨gt,1,none⟩=some (.int .i64 1000000000):=HO8.out.cell 1;have cf:∀i,w8.frozen? ⟨gt,i,none⟩=false:=fun i=>HO8.out.free i;cases b2)
   ·clear c0 c1 cf
    have a0:w8.cell? ⟨gt,0,none⟩=some (.int .i64 r0):=HO8.out.cell 0
    have a1:w8.cell? ⟨gt,1,none⟩=some (.int .i64 1000000000):=HO8.out.cell 1
    have q0:w8.frozen? ⟨g+1,0,none⟩=false:=HR8.out.free 0
    have q1:w8.frozen? ⟨g+1,1,none⟩=false:=HR8.out.free 1
    have u0:w8.cell? ⟨g+1,0,none⟩=some (.int .i64 0):=HR8.out.cell 0
    have u1:w8.cell? ⟨g+1,1,none⟩=some (.int .i64 0):=HR8.out.cell 1
    go_wp2_with fail
    obtain⟨v0,v1⟩:=jk (a:=.int .i64 r0) (b:=.int .i64 1000000000) HR8.out
    refine bodyPost_ret (v:=.tuple #[.agg #[.int .i64 r0,.int .i64 1000000000],.int .i64 0]) (by simp[results,Tryz.results126,go_sem,v0,v1]) rfl ⟨_,_,_,rfl,by unfold InT;omega,?_⟩
    rw[HG.out]
    exact(HB8.out.setCell (p:=⟨g+1,0,none⟩) (by show g≤g+1;omega) _).setCell (p:=⟨g+1,1,none⟩) (by show g≤g+1;omega) _
   ·clear c0 c1 cf
    have HR9:=Lib.hid (HR8.out.far (p:=⟨gt,0,none⟩) (by show g+1≠gt;omega) (.int .i64 (-1000000000)))
    have HO9:=Lib.hid (HO8.out.set_ 0 (.int .i64 (-1000000000)))
    have HB9:=Lib.hid (HB8.out.setCell (p:=⟨gt,0,none⟩) (by show g≤gt;omega) (.int .i64 (-1000000000)))
    generalize w8.setCell ⟨gt,0,none⟩ (.int .i64 (-1000000000))=w9 at *
    have a0:w9.cell? ⟨gt,0,none⟩=some (.int .i64 (-1000000000)):=HO9.out.cell 0
    have a1:w9.cell? ⟨gt,1,none⟩=some (.int .i64 1000000000):=HO9.out.cell 1
    have q0:w9.frozen? ⟨g+1,0,none⟩=false:=HR9.out.free 0
    have q1:w9.frozen? ⟨g+1,1,none⟩=false:=HR9.out.free 1
    have u0:w9.cell? ⟨g+1,0,none⟩=some (.int .i64 0):=HR9.out.cell 0
    have u1:w9.cell? ⟨g+1,1,none⟩=some (.int .i64 0):=HR9.out.cell 1
    go_wp2_with fail
    obtain⟨v0,v1⟩:=jk (a:=.int .i64 (-1000000000)) (b:=.int .i64 1000000000) HR9.out
    refine bodyPost_ret (v:=.tuple #[.agg #[.int .i64 (-1000000000),.int .i64 1000000000],.int .i64 0]) (by simp[results,Tryz.results126,go_sem,v0,v1]) rfl ⟨_,_,_,rfl,by unfold InT;omega,?_⟩
    rw[HG.out]
    exact(HB9.out.setCell (p:=⟨g+1,0,none⟩) (by show g≤g+1;omega) _).setCell (p:=⟨g+1,1,none⟩) (by show g≤g+1;omega) _
 ·skip
  go_upto_region 6 with fail
  have HX6:=Lib.hid (HX5.out.alloc (Obj.cells #[.int .i64 s0,.int .i64 r1] 48))
  have HR6:=Lib.hid (HR5.out.alloc (Obj.cells #[.int .i64 s0,.int .i64 r1] 48))
  have HO6:=Lib.hid (Box.new w5 48 #[.int .i64 s0,.int .i64 r1])
  have l5:=HR5.out.lt
  have HB6:=Lib.hid (HB5.out.trans ((ja w5 (Obj.cells #[.int .i64 s0,.int .i64 r1] 48)).mono (by omega)))
  clear HX5 HR5 HB5 HY5 HY65 x0 x1 y0 y1
  generalize w5.alloc (Obj.cells #[.int .i64 s0,.int .i64 r1] 48)=w6 at *
  generalize w5.heap.size=gt at *
  have lt6:=HO6.out.lt
  have x0:w6.cell? ⟨g,0,none⟩=some (.int .i64 a):=HX6.out.cell 0
  have x1:w6.cell? ⟨g,1,none⟩=some (.int .i64 b):=HX6.out.cell 1
  go_upto_region 8 with(go_at_call 169;refine(HK1.out _).mono ?_;rintro e w7 ⟨b1,rfl,hb7⟩;have l7:=hb7.size;have HX7:=Lib.hid (HX6.out.below hb7);have HR7:=Lib.hid (HR6.out.below hb7);have HO7:=Lib.hid (HO6.out.below hb7);have HB7:=Lib.hid (HB6.out.trans (hb7.mono (by omega)));clear hb7 HX6 HR6 HO6 HB6 x0 x1;have c0:w7.cell? ⟨gt,0,none⟩=some (.int .i64 s0):=HO7.out.cell 0;have c1:w7.cell? ⟨gt,1,none⟩=some (.int .i64 r1):=HO7.out.cell 1;have cf:∀i,w7.frozen? ⟨gt,i,none⟩=false:=fun i=>HO7.out.free i;cases b1)
  ·clear c0 c1 cf
   have x0:w7.cell? ⟨g,0,none⟩=some (.int .i64 a):=HX7.out.cell 0
   have x1:w7.cell? ⟨g,1,none⟩=some (.int .i64 b):=HX7.out.cell 1
   go_upto_region 10 with(go_at_call 169;refine(HK2.out _).mono ?_;rintro e w8 ⟨b2,rfl,hb8⟩;have HX8:=Lib.hid (HX7.out.below hb8);have HR8:=Lib.hid (HR7.out.below hb8);have HO8:=Lib.hid (HO7.out.below hb8);have HB8:=Lib.hid (HB7.out.trans (hb8.mono (by omega)));clear hb8 HX7 HR7 HO7 HB7;have c0:w8.cell? ⟨gt,0,none⟩=some (.int .i64 s0):=HO8.out.cell 0;have c1:w8.cell? ⟨gt,1,none⟩=some (.int .i64 r1):=HO8.out.cell 1;have cf:∀i,w8.frozen? ⟨gt,i,none⟩=false:=fun i=>HO8.out.free i;cases b2)
   ·clear c0 c1 cf
    have a0:w8.cell? ⟨gt,0,none⟩=some (.int .i64 s0):=HO8.out.cell 0
    have a1:w8.cell? ⟨gt,1,none⟩=some (.int .i64 r1):=HO8.out.cell 1
    have q0:w8.frozen? ⟨g+1,0,none⟩=false:=HR8.out.free 0
    have q1:w8.frozen? ⟨g+1,1,none⟩=false:=HR8.out.free 1
    have u0:w8.cell? ⟨g+1,0,none⟩=some (.int .i64 0):=HR8.out.cell 0
    have u1:w8.cell? ⟨g+1,1,none⟩=some (.int .i64 0):=HR8.out.cell 1
    go_wp2_with fail
    obtain⟨v0,v1⟩:=jk (a:=.int .i64 s0) (b:=.int .i64 r1) HR8.out
    refine bodyPost_ret (v:=.tuple #[.agg #[.int .i64 s0,.int .i64 r1],.int .i64 0]) (by simp[results,Tryz.results126,go_sem,v0,v1]) rfl ⟨_,_,_,rfl,by unfold InT;omega,?_⟩
    rw[HG.out]
    exact(HB8.out.setCell (p:=⟨g+1,0,none⟩) (by show g≤g+1;omega) _).setCell (p:=⟨g+1,1,none⟩) (by show g≤g+1;omega) _
   ·clear c0 c1 cf
    have HR9:=Lib.hid (HR8.out.far (p:=⟨gt,0,none⟩) (by show g+1≠gt;omega) (.int .i64 (-1000000000)))
    have HO9:=Lib.hid (HO8.out.set_ 0 (.int .i64 (-1000000000)))
    have HB9:=Lib.hid (HB8.out.setCell (p:=⟨gt,0,none⟩) (by show g≤gt;omega) (.int .i64 (-1000000000)))
    generalize w8.setCell ⟨gt,0,none⟩ (.int .i64 (-1000000000))=w9 at *
    have a0:w9.cell? ⟨gt,0,none⟩=some (.int .i64 (-1000000000)):=HO9.out.cell 0
    have a1:w9.cell? ⟨gt,1,none⟩=some (.int .i64 r1):=HO9.out.cell 1
    have q0:w9.frozen? ⟨g+1,0,none⟩=false:=HR9.out.free 0
    have q1:w9.frozen? ⟨g+1,1,none⟩=false:=HR9.out.free 1
    have u0:w9.cell? ⟨g+1,0,none⟩=some (.int .i64 0):=HR9.out.cell 0
    have u1:w9.cell? ⟨g+1,1,none⟩=some (.int .i64 0):=HR9.out.cell 1
    go_wp2_with fail
    obtain⟨v0,v1⟩:=jk (a:=.int .i64 (-1000000000)) (b:=.int .i64 r1) HR9.out
    refine bodyPost_ret (v:=.tuple #[.agg #[.int .i64 (-1000000000),.int .i64 r1],.int .i64 0]) (by simp[results,Tryz.results126,go_sem,v0,v1]) rfl ⟨_,_,_,rfl,by unfold InT;omega,?_⟩
    rw[HG.out]
    exact(HB9.out.setCell (p:=⟨g+1,0,none⟩) (by show g≤g+1;omega) _).setCell (p:=⟨g+1,1,none⟩) (by show g≤g+1;omega) _
  ·clear c0 c1 cf
   have HX7b:=Lib.hid (HX7.out.far (p:=⟨gt,1,none⟩) (by show g≠gt;omega) (.int .i64 1000000000))
   have HR7b:=Lib.hid (HR7.out.far (p:=⟨gt,1,none⟩) (by show g+1≠gt;omega) (.int .i64 1000000000))
   have HO7b:=Lib.hid (HO7.out.set_ 1 (.int .i64 1000000000))
   have HB7b:=Lib.hid (HB7.out.setCell (p:=⟨gt,1,none⟩) (by show g≤gt;omega) (.int .i64 1000000000))
   have l7b:(w7.setCell ⟨gt,1,none⟩ (.int .i64 1000000000)).heap.size=w7.heap.size:=World.size_setCell _ _ _
   clear HX7 HR7 HO7 HB7
   generalize w7.setCell ⟨gt,1,none⟩ (.int .i64 1000000000)=w7b at *
   have HX7:=HX7b
   have HR7:=HR7b
   have HO7:=HO7b
   have HB7:=HB7b
   have x0:w7b.cell? ⟨g,0,none⟩=some (.int .i64 a):=HX7.out.cell 0
   have x1:w7b.cell? ⟨g,1,none⟩=some (.int .i64 b):=HX7.out.cell 1
   go_upto_region 10 with(go_at_call 169;refine(HK2.out _).mono ?_;rintro e w8 ⟨b2,rfl,hb8⟩;have HX8:=Lib.hid (HX7.out.below hb8);have HR8:=Lib.hid (HR7.out.below hb8);have HO8:=Lib.hid (HO7.out.below hb8);have HB8:=Lib.hid (HB7.out.trans (hb8.mono (by omega)));clear hb8 HX7 HR7 HO7 HB7;have c0:w8.cell? ⟨gt,0,none⟩=some (.int .i64 s0):=HO8.out.cell 0;have c1:w8.cell? ⟨gt,1,none⟩=some (.int .i64 1000000000):=HO8.out.cell 1;have cf:∀i,w8.frozen? ⟨gt,i,none⟩=false:=fun i=>HO8.out.free i;cases b2)
   ·clear c0 c1 cf
    have a0:w8.cell? ⟨gt,0,none⟩=some (.int .i64 s0):=HO8.out.cell 0
    have a1:w8.cell? ⟨gt,1,none⟩=some (.int .i64 1000000000):=HO8.out.cell 1
    have q0:w8.frozen? ⟨g+1,0,none⟩=false:=HR8.out.free 0
    have q1:w8.frozen? ⟨g+1,1,none⟩=false:=HR8.out.free 1
    have u0:w8.cell? ⟨g+1,0,none⟩=some (.int .i64 0):=HR8.out.cell 0
    have u1:w8.cell? ⟨g+1,1,none⟩=some (.int .i64 0):=HR8.out.cell 1
    go_wp2_with fail
    obtain⟨v0,v1⟩:=jk (a:=.int .i64 s0) (b:=.int .i64 1000000000) HR8.out
    refine bodyPost_ret (v:=.tuple #[.agg #[.int .i64 s0,.int .i64 1000000000],.int .i64 0]) (by simp[results,Tryz.results126,go_sem,v0,v1]) rfl ⟨_,_,_,rfl,by unfold InT;omega,?_⟩
    rw[HG.out]
    exact(HB8.out.setCell (p:=⟨g+1,0,none⟩) (by show g≤g+1;omega) _).setCell (p:=⟨g+1,1,none⟩) (by show g≤g+1;omega) _
   ·clear c0 c1 cf
    have HR9:=Lib.hid (HR8.out.far (p:=⟨gt,0,none⟩) (by show g+1≠gt;omega) (.int .i64 (-1000000000)))
    have HO9:=Lib.hid (HO8.out.set_ 0 (.int .i64 (-1000000000)))
    have HB9:=Lib.hid (HB8.out.setCell (p:=⟨gt,0,none⟩) (by show g≤gt;omega) (.int .i64 (-1000000000)))
    generalize w8.setCell ⟨gt,0,none⟩ (.int .i64 (-1000000000))=w9 at *
    have a0:w9.cell? ⟨gt,0,none⟩=some (.int .i64 (-1000000000)):=HO9.out.cell 0
    have a1:w9.cell? ⟨gt,1,none⟩=some (.int .i64 1000000000):=HO9.out.cell 1
    have q0:w9.frozen? ⟨g+1,0,none⟩=false:=HR9.out.free 0
    have q1:w9.frozen? ⟨g+1,1,none⟩=false:=HR9.out.free 1
    have u0:w9.cell? ⟨g+1,0,none⟩=some (.int .i64 0):=HR9.out.cell 0
    have u1:w9.cell? ⟨g+1,1,none⟩=some (.int .i64 0):=HR9.out.cell 1
    go_wp2_with fail
    obtain⟨v0,v1⟩:=jk (a:=.int .i64 (-1000000000)) (b:=.int .i64 1000000000) HR9.out
    refine bodyPost_ret (v:=.tuple #[.agg #[.int .i64 (-1000000000),.int .i64 1000000000],.int .i64 0]) (by simp[results,Tryz.results126,go_sem,v0,v1]) rfl ⟨_,_,_,rfl,by unfold InT;omega,?_⟩
    rw[HG.out]
    exact(HB9.out.setCell (p:=⟨g+1,0,none⟩) (by show g≤g+1;omega) _).setCell (p:=⟨g+1,1,none⟩) (by show g≤g+1;omega) _
 ·skip
  go_upto_region 6 with fail
  have HX6:=Lib.hid (HX5.out.alloc (Obj.cells #[.int .i64 s0,.int .i64 s1] 48))
  have HR6:=Lib.hid (HR5.out.alloc (Obj.cells #[.int .i64 s0,.int .i64 s1] 48))
  have HO6:=Lib.hid (Box.new w5 48 #[.int .i64 s0,.int .i64 s1])
  have l5:=HR5.out.lt
  have HB6:=Lib.hid (HB5.out.trans ((ja w5 (Obj.cells #[.int .i64 s0,.int .i64 s1] 48)).mono (by omega)))
  clear HX5 HR5 HB5 HY5 HY65 x0 x1 y0 y1
  generalize w5.alloc (Obj.cells #[.int .i64 s0,.int .i64 s1] 48)=w6 at *
  generalize w5.heap.size=gt at *
  have lt6:=HO6.out.lt
  have x0:w6.cell? ⟨g,0,none⟩=some (.int .i64 a):=HX6.out.cell 0
  have x1:w6.cell? ⟨g,1,none⟩=some (.int .i64 b):=HX6.out.cell 1
  go_upto_region 8 with(go_at_call 169;refine(HK1.out _).mono ?_;rintro e w7 ⟨b1,rfl,hb7⟩;have l7:=hb7.size;have HX7:=Lib.hid (HX6.out.below hb7);have HR7:=Lib.hid (HR6.out.below hb7);have HO7:=Lib.hid (HO6.out.below hb7);have HB7:=Lib.hid (HB6.out.trans (hb7.mono (by omega)));clear hb7 HX6 HR6 HO6 HB6 x0 x1;have c0:w7.cell? ⟨gt,0,none⟩=some (.int .i64 s0):=HO7.out.cell 0;have c1:w7.cell? ⟨gt,1,none⟩=some (.int .i64 s1):=HO7.out.cell 1;have cf:∀i,w7.frozen? ⟨gt,i,none⟩=false:=fun i=>HO7.out.free i;cases b1)
  ·clear c0 c1 cf
   have x0:w7.cell? ⟨g,0,none⟩=some (.int .i64 a):=HX7.out.cell 0
   have x1:w7.cell? ⟨g,1,none⟩=some (.int .i64 b):=HX7.out.cell 1
   go_upto_region 10 with(go_at_call 169;refine(HK2.out _).mono ?_;rintro e w8 ⟨b2,rfl,hb8⟩;have HX8:=Lib.hid (HX7.out.below hb8);have HR8:=Lib.hid (HR7.out.below hb8);have HO8:=Lib.hid (HO7.out.below hb8);have HB8:=Lib.hid (HB7.out.trans (hb8.mono (by omega)));clear hb8 HX7 HR7 HO7 HB7;have c0:w8.cell? ⟨gt,0,none⟩=some (.int .i64 s0):=HO8.out.cell 0;have c1:w8.cell? ⟨gt,1,none⟩=some (.int .i64 s1):=HO8.out.cell 1;have cf:∀i,w8.frozen? ⟨gt,i,none⟩=false:=fun i=>HO8.out.free i;cases b2)
   ·clear c0 c1 cf
    have a0:w8.cell? ⟨gt,0,none⟩=some (.int .i64 s0):=HO8.out.cell 0
    have a1:w8.cell? ⟨gt,1,none⟩=some (.int .i64 s1):=HO8.out.cell 1
    have q0:w8.frozen? ⟨g+1,0,none⟩=false:=HR8.out.free 0
    have q1:w8.frozen? ⟨g+1,1,none⟩=false:=HR8.out.free 1
    have u0:w8.cell? ⟨g+1,0,none⟩=some (.int .i64 0):=HR8.out.cell 0
    have u1:w8.cell? ⟨g+1,1,none⟩=some (.int .i64 0):=HR8.out.cell 1
    go_wp2_with fail
    obtain⟨v0,v1⟩:=jk (a:=.int .i64 s0) (b:=.int .i64 s1) HR8.out
    refine bodyPost_ret (v:=.tuple #[.agg #[.int .i64 s0,.int .i64 s1],.int .i64 0]) (by simp[results,Tryz.results126,go_sem,v0,v1]) rfl ⟨_,_,_,rfl,by unfold InT;omega,?_⟩
    rw[HG.out]
    exact(HB8.out.setCell (p:=⟨g+1,0,none⟩) (by show g≤g+1;omega) _).setCell (p:=⟨g+1,1,none⟩) (by show g≤g+1;omega) _
   ·clear c0 c1 cf
    have HR9:=Lib.hid (HR8.out.far (p:=⟨gt,0,none⟩) (by show g+1≠gt;omega) (.int .i64 (-1000000000)))
    have HO9:=Lib.hid (HO8.out.set_ 0 (.int .i64 (-1000000000)))
    have HB9:=Lib.hid (HB8.out.setCell (p:=⟨gt,0,none⟩) (by show g≤gt;omega) (.int .i64 (-1000000000)))
    generalize w8.setCell ⟨gt,0,none⟩ (.int .i64 (-1000000000))=w9 at *
    have a0:w9.cell? ⟨gt,0,none⟩=some (.int .i64 (-1000000000)):=HO9.out.cell 0
    have a1:w9.cell? ⟨gt,1,none⟩=some (.int .i64 s1):=HO9.out.cell 1
    have q0:w9.frozen? ⟨g+1,0,none⟩=false:=HR9.out.free 0
    have q1:w9.frozen? ⟨g+1,1,none⟩=false:=HR9.out.free 1
    have u0:w9.cell? ⟨g+1,0,none⟩=some (.int .i64 0):=HR9.out.cell 0
    have u1:w9.cell? ⟨g+1,1,none⟩=some (.int .i64 0):=HR9.out.cell 1
    go_wp2_with fail
    obtain⟨v0,v1⟩:=jk (a:=.int .i64 (-1000000000)) (b:=.int .i64 s1) HR9.out
    refine bodyPost_ret (v:=.tuple #[.agg #[.int .i64 (-1000000000),.int .i64 s1],.int .i64 0]) (by simp[results,Tryz.results126,go_sem,v0,v1]) rfl ⟨_,_,_,rfl,by unfold InT;omega,?_⟩
    rw[HG.out]
    exact(HB9.out.setCell (p:=⟨g+1,0,none⟩) (by show g≤g+1;omega) _).setCell (p:=⟨g+1,1,none⟩) (by show g≤g+1;omega) _
  ·clear c0 c1 cf
   have HX7b:=Lib.hid (HX7.out.far (p:=⟨gt,1,none⟩) (by show g≠gt;omega) (.int .i64 1000000000))
   have HR7b:=Lib.hid (HR7.out.far (p:=⟨gt,1,none⟩) (by show g+1≠gt;omega) (.int .i64 1000000000))
   have HO7b:=Lib.hid (HO7.out.set_ 1 (.int .i64 1000000000))
   have HB7b:=Lib.hid (HB7.out.setCell (p:=⟨gt,1,none⟩) (by show g≤gt;omega) (.int .i64 1000000000))
   have l7b:(w7.setCell ⟨gt,1,none⟩ (.int .i64 1000000000)).heap.size=w7.heap.size:=World.size_setCell _ _ _
   clear HX7 HR7 HO7 HB7
   generalize w7.setCell ⟨gt,1,none⟩ (.int .i64 1000000000)=w7b at *
   have HX7:=HX7b
   have HR7:=HR7b
   have HO7:=HO7b
   have HB7:=HB7b
   have x0:w7b.cell? ⟨g,0,none⟩=some (.int .i64 a):=HX7.out.cell 0
   have x1:w7b.cell? ⟨g,1,none⟩=some (.int .i64 b):=HX7.out.cell 1
   go_upto_region 10 with(go_at_call 169;refine(HK2.out _).mono ?_;rintro e w8 ⟨b2,rfl,hb8⟩;have HX8:=Lib.hid (HX7.out.below hb8);have HR8:=Lib.hid (HR7.out.below hb8);have HO8:=Lib.hid (HO7.out.below hb8);have HB8:=Lib.hid (HB7.out.trans (hb8.mono (by omega)));clear hb8 HX7 HR7 HO7 HB7;have c0:w8.cell? ⟨gt,0,none⟩=some (.int .i64 s0):=HO8.out.cell 0;have c1:w8.cell? ⟨gt,1,none⟩=some (.int .i64 1000000000):=HO8.out.cell 1;have cf:∀i,w8.frozen? ⟨gt,i,none⟩=false:=fun i=>HO8.out.free i;cases b2)
   ·clear c0 c1 cf
    have a0:w8.cell? ⟨gt,0,none⟩=some (.int .i64 s0):=HO8.out.cell 0
    have a1:w8.cell? ⟨gt,1,none⟩=some (.int .i64 1000000000):=HO8.out.cell 1
    have q0:w8.frozen? ⟨g+1,0,none⟩=false:=HR8.out.free 0
    have q1:w8.frozen? ⟨g+1,1,none⟩=false:=HR8.out.free 1
    have u0:w8.cell? ⟨g+1,0,none⟩=some (.int .i64 0):=HR8.out.cell 0
    have u1:w8.cell? ⟨g+1,1,none⟩=some (.int .i64 0):=HR8.out.cell 1
    go_wp2_with fail
    obtain⟨v0,v1⟩:=jk (a:=.int .i64 s0) (b:=.int .i64 1000000000) HR8.out
    refine bodyPost_ret (v:=.tuple #[.agg #[.int .i64 s0,.int .i64 1000000000],.int .i64 0]) (by simp[results,Tryz.results126,go_sem,v0,v1]) rfl ⟨_,_,_,rfl,by unfold InT;omega,?_⟩
    rw[HG.out]
    exact(HB8.out.setCell (p:=⟨g+1,0,none⟩) (by show g≤g+1;omega) _).setCell (p:=⟨g+1,1,none⟩) (by show g≤g+1;omega) _
   ·clear c0 c1 cf
    have HR9:=Lib.hid (HR8.out.far (p:=⟨gt,0,none⟩) (by show g+1≠gt;omega) (.int .i64 (-1000000000)))
    have HO9:=Lib.hid (HO8.out.set_ 0 (.int .i64 (-1000000000)))
    have HB9:=Lib.hid (HB8.out.setCell (p:=⟨gt,0,none⟩) (by show g≤gt;omega) (.int .i64 (-1000000000)))
    generalize w8.setCell ⟨gt,0,none⟩ (.int .i64 (-1000000000))=w9 at *
    have a0:w9.cell? ⟨gt,0,none⟩=some (.int .i64 (-1000000000)):=HO9.out.cell 0
    have a1:w9.cell? ⟨gt,1,none⟩=some (.int .i64 1000000000):=HO9.out.cell 1
    have q0:w9.frozen? ⟨g+1,0,none⟩=false:=HR9.out.free 0
    have q1:w9.frozen? ⟨g+1,1,none⟩=false:=HR9.out.free 1
    have u0:w9.cell? ⟨g+1,0,none⟩=some (.int .i64 0):=HR9.out.cell 0
    have u1:w9.cell? ⟨g+1,1,none⟩=some (.int .i64 0):=HR9.out.cell 1
    go_wp2_with fail
    obtain⟨v0,v1⟩:=jk (a:=.int .i64 (-1000000000)) (b:=.int .i64 1000000000) HR9.out
    refine bodyPost_ret (v:=.tuple #[.agg #[.int .i64 (-1000000000),.int .i64 1000000000],.int .i64 0]) (by simp[results,Tryz.results126,go_sem,v0,v1]) rfl ⟨_,_,_,rfl,by unfold InT;omega,?_⟩
    rw[HG.out]
    exact(HB9.out.setCell (p:=⟨g+1,0,none⟩) (by show g≤g+1;omega) _).setCell (p:=⟨g+1,1,none⟩) (by show g≤g+1;omega) _
theorem zg (a b:Int) (w:World) (hT:TrigT w):Calls Tryz.prog 126 #[.agg #[.int .i64 a,.int .i64 b]] w (Jo InT w):=by
 by_cases h:vg a b
 ·exact XB a b w hT h
 ·exact YH a b w h
theorem Yy (a b:Int) (w:World) (h:¬vg a b):Calls Tryz.prog 127 #[.agg #[.int .i64 a,.int .i64 b]] w (Jo InT w):=by
 have HC:=Lib.hid (fun w=>zM a b w)
 have HN:Hid (¬vg a b):=h
 clear h
 obtain⟨W1,g,hW1,HG,HX0,HX1,HB⟩:=vA w 48 #[.int .i64 a,.int .i64 b] 48 #[.int .i64 0,.int .i64 0]
 go_enter Tryz.func127,Tryz.ntmps127
 go_upto_region 1 with fail
 rw[hW1.out,HG.out]
 clear hW1
 obtain⟨x0,x1⟩:=sqc HX0
 go_upto_region 2 with(go_at_call 125;refine(HC.out _).mono ?_;rintro e w2 ⟨er,rfl,her,hb2⟩)
 have hne:(er != 0)=true:=by rw[bne_iff_ne];exact fun e=>HN.out (her.1 e)
 have HR2:=Lib.hid (HX1.out.below hb2)
 have HB2:=Lib.hid (HB.out.trans (hb2.mono (by have:=HX1.out.lt;omega)))
 clear her hb2 x0 x1
 obtain⟨q0,u0,q1,u1⟩:=sqf HR2
 go_wp2_with fail
 obtain⟨W4,h4,v0,v1,hb4⟩:=sqt HR2 HB2 (by omega) (.int .i64 0) (.int .i64 0)
 clear q0 q1 u0 u1
 rw[h4.out]
 refine bodyPost_ret (v:=.tuple #[.agg #[.int .i64 0,.int .i64 0],.int .i64 er]) (by simp[results,Tryz.results127,go_sem,v0,v1]) rfl ⟨_,_,_,rfl,by unfold InT;omega,?_⟩
 rw[HG.out]
 exact hb4
theorem Z4 (a b:Int) (w:World) (hT:TrigT w) (h:vg a b):Calls Tryz.prog 127 #[.agg #[.int .i64 a,.int .i64 b]] w (Jo InT w):=by
 have HC:=Lib.hid (fun w=>zM a b w)
 have HN:Hid (vg a b):=h
 have HT:=Lib.hid hT
 obtain⟨⟨a0,a1⟩,⟨b0,b1⟩,ab⟩:=h
 have HM:=Lib.hid (fun w=>jW a 1000000000 w (by omega) (by omega) (by decide) (by decide))
 have m0:0≤a%1000000000:=Int.emod_nonneg _ (by decide)
 have m1:a%1000000000<1000000000:=Int.emod_lt_of_pos _ (by decide)
 generalize a%1000000000=m at *
 obtain⟨d,hd⟩:∃d,d=b-a:=⟨_,rfl⟩
 have wd:IntKind.i64.wrap (b-a)=d:=by simp only[IntKind.wrap_i64];omega
 have d0:0≤d:=by omega
 clear hT hd
 obtain⟨W1,g,hW1,HG,HX0,HX1,HB⟩:=vA w 48 #[.int .i64 a,.int .i64 b] 48 #[.int .i64 0,.int .i64 0]
 go_enter Tryz.func127,Tryz.ntmps127
 go_upto_region 1 with fail
 rw[hW1.out,HG.out]
 clear hW1
 obtain⟨x0,x1⟩:=sqc HX0
 have HT1:=Lib.hid (HT.out.next (HG.out▸HB.out))
 go_upto_region 4 with(go_at_call 125;refine(HC.out _).mono ?_;rintro e w2 ⟨er,rfl,her,hb2⟩;obtain rfl:er=0:=her.2 HN.out;clear her)
 have HX2:=Lib.hid (HX0.out.below hb2)
 have HR2:=Lib.hid (HX1.out.below hb2)
 have HT2:=Lib.hid (HT1.out.next hb2)
 have HB2:=Lib.hid (HB.out.trans (hb2.mono (by have:=HX1.out.lt;omega)))
 clear hb2 x0 x1 HX0 HX1 HB HT1 HT HC HN
 obtain⟨x0,x1⟩:=sqc HX2
 go_upto_region 5 with(go_at_call 45;refine(HM.out _).mono ?_;rintro e w' ⟨rfl,n1,rfl⟩)
 have HX3:=Lib.hid (HX2.out.drewN n1)
 have HR3:=Lib.hid (HR2.out.drewN n1)
 have HT3:Hid (TrigT (w2.drewN n1)):=HT2.out.next (jg _ n1)
 have HB3:=Lib.hid (jd HB2.out n1)
 clear HX2 HR2 HT2 HB2 x0 x1
 generalize w2.drewN n1=w3 at *
 obtain⟨x0,x1⟩:=sqc HX3
 have l3:=HR3.out.lt
 have lift:∀w9,Below w3.heap.size w3 w9→Box w9 (g+1) 48 #[.int .i64 0,.int .i64 0]∧Below g w w9:=fun w9 b9=>⟨HR3.out.below b9,HB3.out.trans (b9.mono (by omega))⟩
 have HL:=Lib.hid lift
 clear lift l3 a0 a1 b0 b1 ab
 by_cases h:2000000000<d
 ·skip
  go_wp2_with first
   | (go_at_call 126;refine(zg _ _ _ HT3.out).mono ?_;rintro e w9 ⟨u',v',er,rfl,hin,hb9⟩;obtain⟨HR9,HB9⟩:=HL.out _ hb9;replace HR9:=Lib.hid HR9;replace HB9:=Lib.hid HB9;have q0:w9.frozen? ⟨g+1,0,none⟩=false:=HR9.out.free 0;have q1:w9.frozen? ⟨g+1,1,none⟩=false:=HR9.out.free 1;have u0:w9.cell? ⟨g+1,0,none⟩=some (.int .i64 0):=HR9.out.cell 0;have u1:w9.cell? ⟨g+1,1,none⟩=some (.int .i64 0):=HR9.out.cell 1;clear hb9 HL x0 x1)
  obtain⟨v0,v1⟩:=jk (a:=.int .i64 u') (b:=.int .i64 v') HR9.out
  refine bodyPost_ret (v:=.tuple #[.agg #[.int .i64 u',.int .i64 v'],.int .i64 er]) (by simp[results,Tryz.results127,go_sem,v0,v1]) rfl ⟨_,_,_,rfl,hin,?_⟩
  rw[HG.out]
  exact(HB9.out.setCell (p:=⟨g+1,0,none⟩) (by show g≤g+1;omega) _).setCell (p:=⟨g+1,1,none⟩) (by show g≤g+1;omega) _
 ·skip
  go_wp2_with first
   | (go_at_call 126;refine(zg _ _ _ HT3.out).mono ?_;rintro e w9 ⟨u',v',er,rfl,hin,hb9⟩;obtain⟨HR9,HB9⟩:=HL.out _ hb9;replace HR9:=Lib.hid HR9;replace HB9:=Lib.hid HB9;have q0:w9.frozen? ⟨g+1,0,none⟩=false:=HR9.out.free 0;have q1:w9.frozen? ⟨g+1,1,none⟩=false:=HR9.out.free 1;have u0:w9.cell? ⟨g+1,0,none⟩=some (.int .i64 0):=HR9.out.cell 0;have u1:w9.cell? ⟨g+1,1,none⟩=some (.int .i64 0):=HR9.out.cell 1;clear hb9 HL x0 x1)
  obtain⟨v0,v1⟩:=jk (a:=.int .i64 u') (b:=.int .i64 v') HR9.out
  refine bodyPost_ret (v:=.tuple #[.agg #[.int .i64 u',.int .i64 v'],.int .i64 er]) (by simp[results,Tryz.results127,go_sem,v0,v1]) rfl ⟨_,_,_,rfl,hin,?_⟩
  rw[HG.out]
  exact(HB9.out.setCell (p:=⟨g+1,0,none⟩) (by show g≤g+1;omega) _).setCell (p:=⟨g+1,1,none⟩) (by show g≤g+1;omega) _
theorem xB (a b:Int) (w:World) (hT:TrigT w):Calls Tryz.prog 127 #[.agg #[.int .i64 a,.int .i64 b]] w (Jo InT w):=by
 by_cases h:vg a b
 ·exact Z4 a b w hT h
 ·exact Yy a b w h
theorem XF (a:Int) (w:World) (a0 : -1000000000000000000≤a) (a1:a≤1000000000000000000):Calls Tryz.prog 176 #[.int .i64 a] w fun e w'=>e = .returned (.bool true)∧w'=w:=by
 have t1:decide (-1000000000000000000≤a)=true:=decide_eq_true a0
 have t2:decide (a≤1000000000000000000)=true:=decide_eq_true a1
 go_enter Tryz.func176,Tryz.ntmps176
 go_wp2_with fail
 all_goals go_ret
 exact⟨rfl,rfl⟩
theorem Xl (a:Int) (w:World) (hT:TrigT w) (a0 : -1000000000000000000≤a) (a1:a≤1000000000000000000):Calls Tryz.prog 138 #[.int .i64 a] w (Jo InT w):=by
 have HI:=Lib.hid (fun w=>XF a w a0 a1)
 have HT:=Lib.hid hT
 clear hT
 obtain⟨W1,g,hW1,HG,HX0,HB⟩:=J2 w 48 #[.int .i64 0,.int .i64 0]
 go_enter Tryz.func138,Tryz.ntmps138
 go_upto_region 1 with fail
 rw[hW1.out,HG.out]
 clear hW1
 have HT1:=Lib.hid (HT.out.next (HG.out▸HB.out))
 have l3:=HX0.out.lt
 have lift:∀n w9,Below (W1.drewN n).heap.size (W1.drewN n) w9→Box w9 g 48 #[.int .i64 0,.int .i64 0]∧Below g w w9:=fun n w9 b9=>⟨(HX0.out.drewN n).below b9,(jd HB.out n).trans (b9.mono (by show g≤W1.heap.size;omega))⟩
 have HL:=Lib.hid lift
 clear lift l3
 go_wp2_with first
  | (go_at_call 176;refine(HI.out _).mono ?_;rintro e w' ⟨rfl,rfl⟩)
  | (go_at_call 168;refine(vY _ _ HT1.out (by omega) (by omega)).mono ?_;rintro e w9 ⟨u',v',rfl,hin,hb9⟩;obtain⟨HR9,HB9⟩:=HL.out 0 _ hb9;replace HR9:=Lib.hid HR9;replace HB9:=Lib.hid HB9;have q0:w9.frozen? ⟨g,0,none⟩=false:=HR9.out.free 0;have q1:w9.frozen? ⟨g,1,none⟩=false:=HR9.out.free 1;have u0:w9.cell? ⟨g,0,none⟩=some (.int .i64 0):=HR9.out.cell 0;have u1:w9.cell? ⟨g,1,none⟩=some (.int .i64 0):=HR9.out.cell 1;clear hb9 HL)
 obtain⟨v0,v1⟩:=jk (a:=.int .i64 u') (b:=.int .i64 v') HR9.out
 refine bodyPost_ret (v:=.tuple #[.agg #[.int .i64 u',.int .i64 v'],.int .i64 0]) (by simp[results,Tryz.results138,go_sem,v0,v1]) rfl ⟨_,_,_,rfl,hin,?_⟩
 rw[HG.out]
 exact(HB9.out.setCell (p:=⟨g,0,none⟩) (by show g≤g;omega) _).setCell (p:=⟨g,1,none⟩) (by show g≤g;omega) _
theorem XG (a:Int) (w:World) (hT:TrigT w) (a0 : -1000000000000000000≤a) (a1:a≤1000000000000000000):Calls Tryz.prog 139 #[.int .i64 a] w (Jo InT w):=by
 have HI:=Lib.hid (fun w=>XF a w a0 a1)
 have HT:=Lib.hid hT
 have HM:=Lib.hid (fun w=>jW a 1000000000 w (by omega) (by omega) (by decide) (by decide))
 have m0:0≤a%1000000000:=Int.emod_nonneg _ (by decide)
 have m1:a%1000000000<1000000000:=Int.emod_lt_of_pos _ (by decide)
 generalize a%1000000000=m at *
 clear hT
 obtain⟨W1,g,hW1,HG,HX0,HB⟩:=J2 w 48 #[.int .i64 0,.int .i64 0]
 go_enter Tryz.func139,Tryz.ntmps139
 go_upto_region 1 with fail
 rw[hW1.out,HG.out]
 clear hW1
 have HT1:=Lib.hid (HT.out.next (HG.out▸HB.out))
 have l3:=HX0.out.lt
 have lift:∀n w9,Below (W1.drewN n).heap.size (W1.drewN n) w9→Box w9 g 48 #[.int .i64 0,.int .i64 0]∧Below g w w9:=fun n w9 b9=>⟨(HX0.out.drewN n).below b9,(jd HB.out n).trans (b9.mono (by show g≤W1.heap.size;omega))⟩
 have HL:=Lib.hid lift
 clear lift l3
 go_wp2_with first
  | (go_at_call 176;refine(HI.out _).mono ?_;rintro e w' ⟨rfl,rfl⟩)
  | (go_at_call 45;refine(HM.out _).mono ?_;rintro e w' ⟨rfl,n1,rfl⟩)
  | (go_at_call 168;refine(vY _ _ (HT1.out.next (jg _ n1)) (by omega) (by omega)).mono ?_;rintro e w9 ⟨u',v',rfl,hin,hb9⟩;obtain⟨HR9,HB9⟩:=HL.out n1 _ hb9;replace HR9:=Lib.hid HR9;replace HB9:=Lib.hid HB9;have q0:w9.frozen? ⟨g,0,none⟩=false:=HR9.out.free 0;have q1:w9.frozen? ⟨g,1,none⟩=false:=HR9.out.free 1;have u0:w9.cell? ⟨g,0,none⟩=some (.int .i64 0):=HR9.out.cell 0;have u1:w9.cell? ⟨g,1,none⟩=some (.int .i64 0):=HR9.out.cell 1;clear hb9 HL)
 obtain⟨v0,v1⟩:=jk (a:=.int .i64 u') (b:=.int .i64 v') HR9.out
 refine bodyPost_ret (v:=.tuple #[.agg #[.int .i64 u',.int .i64 v'],.int .i64 0]) (by simp[results,Tryz.results139,go_sem,v0,v1]) rfl ⟨_,_,_,rfl,hin,?_⟩
 rw[HG.out]
 exact(HB9.out.setCell (p:=⟨g,0,none⟩) (by show g≤g;omega) _).setCell (p:=⟨g,1,none⟩) (by show g≤g;omega) _
theorem YS (lo:Nat) (hlo:lo<18446744073709551616) (w:World):Calls Tryz.prog 206 #[.int .u64 0,.int .u64 (lo:Int),.int .u64 1000000000] w fun e w'=>e = .returned (.tuple #[.int .u64 ((lo/1000000000:Nat):Int),.int .u64 ((lo%1000000000:Nat):Int)])∧∃n,w'=w.drewN n:=by
 have h1:((lo:Int).tdiv 1000000000)=((lo/1000000000:Nat):Int):=by rw[Int.tdiv_eq_ediv_of_nonneg (by omega)];omega
 have h2:((lo:Int).tmod 1000000000)=((lo%1000000000:Nat):Int):=by rw[Int.tmod_eq_emod_of_nonneg (by omega)];omega
 go_enter Tryz.func206,Tryz.ntmps206
 go_wp2
 go_quiet (fail)
 go_wp2
 go_ret2
 exact⟨by simp,_,rfl⟩
theorem jar (a:Int) (w:World) (h1 : -1000000000≤a) (h:a<0):Calls Tryz.prog 209 #[.int .i64 a] w fun e w'=>e = .returned (.int .u64 (a.natAbs:Nat))∧w'=w:=by
 have e1:IntKind.u64.wrap (-a)=((a.natAbs:Nat):Int):=by simp only[IntKind.wrap_u64];omega
 have t1:decide (a<0)=true:=decide_eq_true h
 go_enter Tryz.func209,Tryz.ntmps209
 go_wp2_with fail
 go_ret
 exact⟨rfl,rfl⟩
theorem jas (a:Int) (w:World) (h1:a≤1000000000) (h:0≤a):Calls Tryz.prog 209 #[.int .i64 a] w fun e w'=>e = .returned (.int .u64 (a.natAbs:Nat))∧w'=w:=by
 have e1:IntKind.u64.wrap a=((a.natAbs:Nat):Int):=by simp only[IntKind.wrap_u64];omega
 have t1:decide (a<0)=false:=decide_eq_false (by omega)
 go_enter Tryz.func209,Tryz.ntmps209
 go_wp2_with fail
 go_ret
 exact⟨rfl,rfl⟩
theorem QP (a:Int) (w:World) (h1 : -1000000000≤a) (h2:a≤1000000000):Calls Tryz.prog 209 #[.int .i64 a] w fun e w'=>e = .returned (.int .u64 (a.natAbs:Nat))∧w'=w:=by
 by_cases h:a<0
 ·exact jar a w h1 h
 ·exact jas a w h2 (by omega)
def RatQ (w:World) (e:Ending) (w':World):Prop:=∃x y:Int,e = .returned (.tuple #[.int .i64 x,.int .i64 y])∧InT x y∧∃n,w'=w.drewN n
theorem jav (a b:Int) (w:World) (h:InT a b):Calls Tryz.prog 195 #[.int .i64 a,.int .i64 b,.int .i64 1000000000] w (RatQ w):=by
 obtain⟨⟨a0,a1⟩,b0,b1⟩:=h
 obtain⟨P,hP⟩:∃P,P=a.natAbs*b.natAbs:=⟨_,rfl⟩
 have hPl:P≤1000000000*1000000000:=by rw[hP];exact Nat.mul_le_mul (by omega) (by omega)
 have c1:=Lib.hid (fun w=>(by
  have h:=bits_Mul64 a.natAbs b.natAbs (by omega) (by omega) w
  rw[←hP,show P/18446744073709551616=0 by omega,show P%18446744073709551616=P by omega] at h
  exact h:Calls Tryz.prog 204 #[.int .u64 ((a.natAbs:Nat):Int),.int .u64 ((b.natAbs:Nat):Int)] w fun e w'=>e = .returned (.tuple #[.int .u64 ((0:Nat):Int),.int .u64 ((P:Nat):Int)])∧w'=w))
 have s1:=Lib.hid (fun w=>QP a w a0 a1)
 have s2:=Lib.hid (fun w=>QP b w b0 b1)
 have c2:=Lib.hid (fun w=>YS P (by omega) w)
 have hqr:(P/1000000000)*1000000000+P%1000000000=P:=by omega
 have hr:P%1000000000<1000000000:=Nat.mod_lt _ (by decide)
 generalize P/1000000000=q at *
 generalize P%1000000000=r at *
 have ql:q≤1000000000:=by omega
 have qr:0<r→q+1≤1000000000:=by omega
 have wq:IntKind.i64.wrap (q:Int)=q:=by simp only[IntKind.wrap_i64];omega
 have tq:decide ((1000000000000000001:Int)≤(q:Int))=false:=decide_eq_false (by omega)
 obtain⟨na,hna⟩:∃n,n=a.natAbs:=⟨_,rfl⟩
 obtain⟨nb,hnb⟩:∃n,n=b.natAbs:=⟨_,rfl⟩
 rw[←hna] at s1 c1
 rw[←hnb] at s2 c1
 clear hqr hPl hP hna hnb wq
 by_cases ha:a<0<;>by_cases hb:b<0
 ·have ta:decide (a<0)=true:=decide_eq_true ha
  have tb:decide (b<0)=true:=decide_eq_true hb
  clear ha hb
  go_enter Tryz.func195,Tryz.ntmps195
  go_wp2_with first
   | (go_at_call 209;first|(with_reducible refine(s1.out _).mono ?_;rintro e w' ⟨rfl,rfl⟩)|(with_reducible refine(s2.out _).mono ?_;rintro e w' ⟨rfl,rfl⟩))
   | (go_at_call 204;refine(c1.out _).mono ?_;rintro e w' ⟨rfl,rfl⟩)
   | (go_at_call 206;refine(c2.out _).mono ?_;rintro e w' ⟨rfl,nd,rfl⟩)
  all_goals (go_ret2;exact⟨_,_,rfl,by unfold InT;omega,_,rfl⟩)
 ·have ta:decide (a<0)=true:=decide_eq_true ha
  have tb:decide (b<0)=false:=decide_eq_false hb
  clear ha hb
  go_enter Tryz.func195,Tryz.ntmps195
  go_wp2_with first
   | (go_at_call 209;first|(with_reducible refine(s1.out _).mono ?_;rintro e w' ⟨rfl,rfl⟩)|(with_reducible refine(s2.out _).mono ?_;rintro e w' ⟨rfl,rfl⟩))
   | (go_at_call 204;refine(c1.out _).mono ?_;rintro e w' ⟨rfl,rfl⟩)
   | (go_at_call 206;refine(c2.out _).mono ?_;rintro e w' ⟨rfl,nd,rfl⟩)
  all_goals (go_ret2;exact⟨_,_,rfl,by unfold InT;omega,_,rfl⟩)
 ·have ta:decide (a<0)=false:=decide_eq_false ha
  have tb:decide (b<0)=true:=decide_eq_true hb
  clear ha hb
  go_enter Tryz.func195,Tryz.ntmps195
  go_wp2_with first
   | (go_at_call 209;first|(with_reducible refine(s1.out _).mono ?_;rintro e w' ⟨rfl,rfl⟩)|(with_reducible refine(s2.out _).mono ?_;rintro e w' ⟨rfl,rfl⟩))
   | (go_at_call 204;refine(c1.out _).mono ?_;rintro e w' ⟨rfl,rfl⟩)
   | (go_at_call 206;refine(c2.out _).mono ?_;rintro e w' ⟨rfl,nd,rfl⟩)
  all_goals (go_ret2;exact⟨_,_,rfl,by unfold InT;omega,_,rfl⟩)
 ·have ta:decide (a<0)=false:=decide_eq_false ha
  have tb:decide (b<0)=false:=decide_eq_false hb
  clear ha hb
  go_enter Tryz.func195,Tryz.ntmps195
  go_wp2_with first
   | (go_at_call 209;first|(with_reducible refine(s1.out _).mono ?_;rintro e w' ⟨rfl,rfl⟩)|(with_reducible refine(s2.out _).mono ?_;rintro e w' ⟨rfl,rfl⟩))
   | (go_at_call 204;refine(c1.out _).mono ?_;rintro e w' ⟨rfl,rfl⟩)
   | (go_at_call 206;refine(c2.out _).mono ?_;rintro e w' ⟨rfl,nd,rfl⟩)
  all_goals (go_ret2;exact⟨_,_,rfl,by unfold InT;omega,_,rfl⟩)
theorem jfD (a b c d:Int) (h1:InT a b) (h2:InT c d) (j:Int) (j0:0≤j) (j1:j<4):∃x y,InT x y∧∀W,(Instr.index 253 (.agg #[.int .i64 a,.int .i64 c,.int .i64 a,.int .i64 d,.int .i64 b,.int .i64 c,.int .i64 b,.int .i64 d]) (.int .i64 j)).run Tryz.prog W = .ok (.agg #[.int .i64 x,.int .i64 y]) W:=by
 unfold InT at *
 rcases(show j=0∨j=1∨j=2∨j=3 by omega) with rfl|rfl|rfl|rfl
 ·exact⟨a,c,by omega,fun W=>by simp[Instr.index,run_underlying Tryz.underlying253,asIntOf,go_sem]⟩
 ·exact⟨a,d,by omega,fun W=>by simp[Instr.index,run_underlying Tryz.underlying253,asIntOf,go_sem]⟩
 ·exact⟨b,c,by omega,fun W=>by simp[Instr.index,run_underlying Tryz.underlying253,asIntOf,go_sem]⟩
 ·exact⟨b,d,by omega,fun W=>by simp[Instr.index,run_underlying Tryz.underlying253,asIntOf,go_sem]⟩
theorem jej (w:World) (A B C D:Obj):Below w.heap.size w ((((w.alloc A).alloc B).alloc C).alloc D):=(jJ w A B C).alloc (jJ w A B C).size _
theorem XR (a b c d:Int) (w:World) (h1:InT a b) (h2:InT c d):Calls Tryz.prog 170 #[.agg #[.int .i64 a,.int .i64 b],.agg #[.int .i64 c,.int .i64 d],.int .i64 1000000000] w (zI InT w):=by
 have HIx:=Lib.hid (fun j j0 j1=>jfD a b c d h1 h2 j j0 j1)
 have HRt:=Lib.hid (fun x y w h=>jav x y w h)
 clear h1 h2
 obtain⟨W1,g,hW1,HG,HX0,HX1,HX2,HX3,HB⟩:=jez w 48 #[.int .i64 a,.int .i64 b] 48 #[.int .i64 c,.int .i64 d] 48 #[.int .i64 0,.int .i64 0] 48 #[.int .i64 0,.int .i64 0]
 go_enter Tryz.func170,Tryz.ntmps170
 go_upto_region 2 with fail
 rw[hW1.out,HG.out]
 clear hW1
 obtain⟨x0,x1⟩:=sqc HX0
 obtain⟨y0,y1⟩:=sqc HX1
 go_wp2_with fail
 clear x0 x1 y0 y1 HX0 HX1
 go_loopw [33] (fun iv wr=>∃(j p q:Int),0≤j∧j≤4∧iv = .int .i64 j∧InT p q∧Hid (Box wr (g+1+1+1) 48 #[.int .i64 p,.int .i64 q])∧Hid (Box wr (g+1+1) 48 #[.int .i64 0,.int .i64 0])∧Hid (Below g w wr)) (fun iv _=>4-(intOf iv).toNat)
 case atStart=>exact⟨0,0,0,by omega,by omega,rfl,by unfold InT;omega,HX3,HX2,HB⟩
 case round =>
  obtain⟨j,p,q,j0,j4,rfl,hpq,HO,HZ,HBr⟩:=hrel
  clear HX2 HX3 HB
  have lo:=HO.out.lt
  by_cases hlt:j<4
  ·have tl:decide (j<4)=true:=decide_eq_true hlt
   obtain⟨x,y,hxy,hix⟩:=HIx.out j j0 hlt
   have HXY:=Lib.hid hxy
   have HPQ:=Lib.hid hpq
   clear hxy hpq
   go_upto_region 6 with(go_at_call 195;refine(HRt.out _ _ _ HXY.out).mono ?_;rintro e w' ⟨u,v,rfl,huv,n1,rfl⟩)
   have HO2:=Lib.hid ((HO.out.alloc (Obj.cells #[.int .i64 x,.int .i64 y] 146)).drewN n1)
   have HZ2:=Lib.hid ((HZ.out.alloc (Obj.cells #[.int .i64 x,.int .i64 y] 146)).drewN n1)
   have HB2:=Lib.hid (HBr.out.trans ((jd (ja wr (Obj.cells #[.int .i64 x,.int .i64 y] 146)) n1).mono (by omega)))
   have HUV:=Lib.hid huv
   clear HO HZ HBr huv hix
   generalize (wr.alloc (Obj.cells #[.int .i64 x,.int .i64 y] 146)).drewN n1=w5 at *
   have o0:w5.cell? ⟨g+1+1+1,0,none⟩=some (.int .i64 p):=HO2.out.cell 0
   have o1:w5.cell? ⟨g+1+1+1,1,none⟩=some (.int .i64 q):=HO2.out.cell 1
   have of_:∀i,w5.frozen? ⟨g+1+1+1,i,none⟩=false:=fun i=>HO2.out.free i
   by_cases h0:j=0
   ·subst h0
    go_upto_region 8 with fail
    have HO3:=Lib.hid ((HO2.out.set_ 0 (.int .i64 u)).set_ 1 (.int .i64 v))
    have HZ3:=Lib.hid ((HZ2.out.far (p:=⟨g+1+1+1,0,none⟩) (by show g+1+1≠g+1+1+1;omega) (.int .i64 u)).far (p:=⟨g+1+1+1,1,none⟩) (by show g+1+1≠g+1+1+1;omega) (.int .i64 v))
    have HB3:=Lib.hid ((HB2.out.setCell (p:=⟨g+1+1+1,0,none⟩) (by show g≤g+1+1+1;omega) (.int .i64 u)).setCell (p:=⟨g+1+1+1,1,none⟩) (by show g≤g+1+1+1;omega) (.int .i64 v))
    clear HO2 HZ2 HB2 o0 o1 of_
    generalize ((w5.setCell ⟨g+1+1+1,0,none⟩ (.int .i64 u)).setCell ⟨g+1+1+1,1,none⟩ (.int .i64 v))=w6 at *
    have HO2:=HO3
    have HZ2:=HZ3
    have HB2:=HB3
    have o0:w6.cell? ⟨g+1+1+1,0,none⟩=some (.int .i64 u):=HO2.out.cell 0
    have o1:w6.cell? ⟨g+1+1+1,1,none⟩=some (.int .i64 v):=HO2.out.cell 1
    have of_:∀i,w6.frozen? ⟨g+1+1+1,i,none⟩=false:=fun i=>HO2.out.free i
    have e1:¬u<u:=by omega
    have e2:¬v<v:=by omega
    clear HO3 HZ3 HB3
    go_wp2_with fail
    have HO3:=Lib.hid ((HO2.out.set_ 0 (.int .i64 u)).set_ 1 (.int .i64 v))
    have HZ3:=Lib.hid ((HZ2.out.far (p:=⟨g+1+1+1,0,none⟩) (by show g+1+1≠g+1+1+1;omega) (.int .i64 u)).far (p:=⟨g+1+1+1,1,none⟩) (by show g+1+1≠g+1+1+1;omega) (.int .i64 v))
    have HB3:=Lib.hid ((HB2.out.setCell (p:=⟨g+1+1+1,0,none⟩) (by show g≤g+1+1+1;omega) (.int .i64 u)).setCell (p:=⟨g+1+1+1,1,none⟩) (by show g≤g+1+1+1;omega) (.int .i64 v))
    go_roundw
    case rel=>exact⟨1,u,v,by omega,by omega,by go_num,HUV.out,HO3,HZ3,HB3⟩
    case measure=>simp[intOf]
   ·have tj:(j==0)=false:=beq_eq_false_iff_ne.2 h0
    clear h0
    by_cases e1:u<p<;>by_cases e2:q<v
    ·skip
     go_wp2_with fail
     have HO3:=Lib.hid ((HO2.out.set_ 0 (.int .i64 u)).set_ 1 (.int .i64 v))
     have HZ3:=Lib.hid ((HZ2.out.far (p:=⟨g+1+1+1,0,none⟩) (by show g+1+1≠g+1+1+1;omega) (.int .i64 u)).far (p:=⟨g+1+1+1,1,none⟩) (by show g+1+1≠g+1+1+1;omega) (.int .i64 v))
     have HB3:=Lib.hid ((HB2.out.setCell (p:=⟨g+1+1+1,0,none⟩) (by show g≤g+1+1+1;omega) (.int .i64 u)).setCell (p:=⟨g+1+1+1,1,none⟩) (by show g≤g+1+1+1;omega) (.int .i64 v))
     go_roundw
     case rel=>exact⟨j+1,u,v,by omega,by omega,by go_num,by have:=HUV.out;have:=HPQ.out;unfold InT at *;omega,HO3,HZ3,HB3⟩
     case measure=>simp[intOf];omega
    ·skip
     go_wp2_with fail
     have HO3:=Lib.hid ((HO2.out.set_ 0 (.int .i64 u)).set_ 1 (.int .i64 q))
     have HZ3:=Lib.hid ((HZ2.out.far (p:=⟨g+1+1+1,0,none⟩) (by show g+1+1≠g+1+1+1;omega) (.int .i64 u)).far (p:=⟨g+1+1+1,1,none⟩) (by show g+1+1≠g+1+1+1;omega) (.int .i64 q))
     have HB3:=Lib.hid ((HB2.out.setCell (p:=⟨g+1+1+1,0,none⟩) (by show g≤g+1+1+1;omega) (.int .i64 u)).setCell (p:=⟨g+1+1+1,1,none⟩) (by show g≤g+1+1+1;omega) (.int .i64 q))
     go_roundw
     case rel=>exact⟨j+1,u,q,by omega,by omega,by go_num,by have:=HUV.out;have:=HPQ.out;unfold InT at *;omega,HO3,HZ3,HB3⟩
     case measure=>simp[intOf];omega
    ·skip
     go_wp2_with fail
     have HO3:=Lib.hid ((HO2.out.set_ 0 (.int .i64 p)).set_ 1 (.int .i64 v))
     have HZ3:=Lib.hid ((HZ2.out.far (p:=⟨g+1+1+1,0,none⟩) (by show g+1+1≠g+1+1+1;omega) (.int .i64 p)).far (p:=⟨g+1+1+1,1,none⟩) (by show g+1+1≠g+1+1+1;omega) (.int .i64 v))
     have HB3:=Lib.hid ((HB2.out.setCell (p:=⟨g+1+1+1,0,none⟩) (by show g≤g+1+1+1;omega) (.int .i64 p)).setCell (p:=⟨g+1+1+1,1,none⟩) (by show g≤g+1+1+1;omega) (.int .i64 v))
     go_roundw
     case rel=>exact⟨j+1,p,v,by omega,by omega,by go_num,by have:=HUV.out;have:=HPQ.out;unfold InT at *;omega,HO3,HZ3,HB3⟩
     case measure=>simp[intOf];omega
    ·skip
     go_wp2_with fail
     have HO3:=Lib.hid ((HO2.out.set_ 0 (.int .i64 p)).set_ 1 (.int .i64 q))
     have HZ3:=Lib.hid ((HZ2.out.far (p:=⟨g+1+1+1,0,none⟩) (by show g+1+1≠g+1+1+1;omega) (.int .i64 p)).far (p:=⟨g+1+1+1,1,none⟩) (by show g+1+1≠g+1+1+1;omega) (.int .i64 q))
     have HB3:=Lib.hid ((HB2.out.setCell (p:=⟨g+1+1+1,0,none⟩) (by show g≤g+1+1+1;omega) (.int .i64 p)).setCell (p:=⟨g+1+1+1,1,none⟩) (by show g≤g+1+1+1;omega) (.int .i64 q))
     go_roundw
     case rel=>exact⟨j+1,p,q,by omega,by omega,by go_num,by have:=HUV.out;have:=HPQ.out;unfold InT at *;omega,HO3,HZ3,HB3⟩
     case measure=>simp[intOf];omega
  ·have tl:decide (j<4)=false:=decide_eq_false hlt
   have o0:wr.cell? ⟨g+1+1+1,0,none⟩=some (.int .i64 p):=HO.out.cell 0
   have o1:wr.cell? ⟨g+1+1+1,1,none⟩=some (.int .i64 q):=HO.out.cell 1
   obtain⟨q0,u0,q1,u1⟩:=sqf HZ
   go_wp2_with fail
   obtain⟨v0,v1⟩:=jk (a:=.int .i64 p) (b:=.int .i64 q) HZ.out
   refine bodyPost_ret (v:=.agg #[.int .i64 p,.int .i64 q]) (by simp[results,Tryz.results170,go_sem,v0,v1]) rfl ⟨_,_,rfl,hpq,?_⟩
   rw[HG.out]
   exact(HBr.out.setCell (p:=⟨g+1+1,0,none⟩) (by show g≤g+1+1;omega) _).setCell (p:=⟨g+1+1,1,none⟩) (by show g≤g+1+1;omega) _
theorem qh (a b c d:Int) (w:World) (h1:InT a b) (h2:InT c d):Calls Tryz.prog 129 #[.agg #[.int .i64 a,.int .i64 b],.agg #[.int .i64 c,.int .i64 d]] w (zI InT w):=by
 have HP:=Lib.hid (fun w=>XR a b c d w h1 h2)
 clear h1 h2
 obtain⟨W1,g,hW1,HG,HX0,HX1,HX2,HB⟩:=Xk w 48 #[.int .i64 a,.int .i64 b] 48 #[.int .i64 c,.int .i64 d] 48 #[.int .i64 0,.int .i64 0]
 go_enter Tryz.func129,Tryz.ntmps129
 go_upto_region 1 with fail
 rw[hW1.out,HG.out]
 clear hW1
 obtain⟨x0,x1⟩:=sqc HX0
 obtain⟨y0,y1⟩:=sqc HX1
 have l3:=HX2.out.lt
 have lift:∀w9,Below W1.heap.size W1 w9→Box w9 (g+1+1) 48 #[.int .i64 0,.int .i64 0]∧Below g w w9:=fun w9 b9=>⟨HX2.out.below b9,HB.out.trans (b9.mono (by omega))⟩
 have HL:=Lib.hid lift
 clear lift l3
 go_wp2_with first
  | (go_at_call 170;refine(HP.out _).mono ?_;rintro e w9 ⟨u',v',rfl,hin,hb9⟩;obtain⟨HR9,HB9⟩:=HL.out _ hb9;replace HR9:=Lib.hid HR9;replace HB9:=Lib.hid HB9;have q0:w9.frozen? ⟨g+1+1,0,none⟩=false:=HR9.out.free 0;have q1:w9.frozen? ⟨g+1+1,1,none⟩=false:=HR9.out.free 1;have u0:w9.cell? ⟨g+1+1,0,none⟩=some (.int .i64 0):=HR9.out.cell 0;have u1:w9.cell? ⟨g+1+1,1,none⟩=some (.int .i64 0):=HR9.out.cell 1;clear hb9 HL x0 x1 y0 y1)
 obtain⟨v0,v1⟩:=jk (a:=.int .i64 u') (b:=.int .i64 v') HR9.out
 refine bodyPost_ret (v:=.agg #[.int .i64 u',.int .i64 v']) (by simp[results,Tryz.results129,go_sem,v0,v1]) rfl ⟨_,_,rfl,hin,?_⟩
 rw[HG.out]
 exact(HB9.out.setCell (p:=⟨g+1+1,0,none⟩) (by show g≤g+1+1;omega) _).setCell (p:=⟨g+1+1,1,none⟩) (by show g≤g+1+1;omega) _
theorem X6 (a b c d:Int) (w:World) (h1:InT a b) (h2:InT c d):Calls Tryz.prog 131 #[.agg #[.int .i64 a,.int .i64 b],.agg #[.int .i64 c,.int .i64 d]] w (zI qW w):=by
 unfold InT at h1 h2
 obtain⟨⟨a0,a1⟩,b0,b1⟩:=h1
 obtain⟨⟨c0,c1⟩,d0,d1⟩:=h2
 obtain⟨W1,g,hW1,HG,HX0,HX1,HX2,HB⟩:=Xk w 48 #[.int .i64 a,.int .i64 b] 48 #[.int .i64 c,.int .i64 d] 48 #[.int .i64 0,.int .i64 0]
 go_enter Tryz.func131,Tryz.ntmps131
 go_upto_region 1 with fail
 rw[hW1.out,HG.out]
 clear hW1
 obtain⟨x0,x1⟩:=sqc HX0
 obtain⟨y0,y1⟩:=sqc HX1
 obtain⟨q0,u0,q1,u1⟩:=sqf HX2
 go_wp2_with fail
 obtain⟨W4,h4,v0,v1,hb4⟩:=sqt HX2 HB (by omega) (.int .i64 (a+c)) (.int .i64 (b+d))
 clear q0 q1 u0 u1
 rw[h4.out]
 refine bodyPost_ret (v:=.agg #[.int .i64 (a+c),.int .i64 (b+d)]) (by simp[results,Tryz.results131,go_sem,v0,v1]) rfl ⟨_,_,rfl,by unfold qW;omega,?_⟩
 rw[HG.out]
 exact hb4
theorem VU (a b c d:Int) (w:World) (h1:InT a b) (h2:InT c d):Calls Tryz.prog 130 #[.agg #[.int .i64 a,.int .i64 b],.agg #[.int .i64 c,.int .i64 d]] w (zI qW w):=by
 unfold InT at h1 h2
 obtain⟨⟨a0,a1⟩,b0,b1⟩:=h1
 obtain⟨⟨c0,c1⟩,d0,d1⟩:=h2
 obtain⟨W1,g,hW1,HG,HX0,HX1,HX2,HB⟩:=Xk w 48 #[.int .i64 a,.int .i64 b] 48 #[.int .i64 c,.int .i64 d] 48 #[.int .i64 0,.int .i64 0]
 go_enter Tryz.func130,Tryz.ntmps130
 go_upto_region 1 with fail
 rw[hW1.out,HG.out]
 clear hW1
 obtain⟨x0,x1⟩:=sqc HX0
 obtain⟨y0,y1⟩:=sqc HX1
 obtain⟨q0,u0,q1,u1⟩:=sqf HX2
 go_wp2_with fail
 obtain⟨W4,h4,v0,v1,hb4⟩:=sqt HX2 HB (by omega) (.int .i64 (a-d)) (.int .i64 (b-c))
 clear q0 q1 u0 u1
 rw[h4.out]
 refine bodyPost_ret (v:=.agg #[.int .i64 (a-d),.int .i64 (b-c)]) (by simp[results,Tryz.results130,go_sem,v0,v1]) rfl ⟨_,_,rfl,by unfold qW;omega,?_⟩
 rw[HG.out]
 exact hb4
theorem j6 (y x:Int) (w:World):Calls Tryz.prog 171 #[.int .i64 y,.int .i64 x] w (FlQ w):=by
 obtain⟨R,N,F⟩:=ya
 have f1:=fun r n=>F .quo (.inr (.inr (.inr rfl))) 236 r 4618760256179416344 (w.drewN n)
 have f2:=fun r n=>F .mul (.inr (.inr (.inl rfl))) 236 r 4741671816366391296 (w.drewN n)
 have f3:=fun w=>j5 (q:=.i64) y (d:=3) (by rw[Tryz.underlying3];rfl) w
 have f4:=fun w=>j5 (q:=.i64) x (d:=3) (by rw[Tryz.underlying3];rfl) w
 clear F
 go_enter Tryz.func171,Tryz.ntmps171
 go_wp2_with (go_at_call 196;refine(y7 _ _ _).mono ?_;rintro e w' ⟨r,rfl,n,rfl⟩)
 go_ret
 exact⟨_,rfl,_,rfl⟩
theorem ZL (w:World) :
  Calls Tryz.prog 67 #[.int .i64 (-9223372036854775808),.int .i64 1000000000] w fun e w'=>e = .returned (.tuple #[.int .i64 (-9223372036854775808/1000000000),.int .i64 (-9223372036854775808%1000000000),.int .i64 0])∧∃n,w'=w.drewN n:=by
 go_enter Tryz.func67,Tryz.ntmps67
 go_wp2
 go_quiet (fail)
 go_wp2
 go_ret3
 exact⟨rfl,_,rfl⟩
theorem ZU (w:World):Calls Tryz.prog 45 #[.int .i64 (-9223372036854775808),.int .i64 1000000000] w fun e w'=>e = .returned (.int .i64 (-9223372036854775808%1000000000))∧∃n,w'=w.drewN n:=by
 go_enter Tryz.func45,Tryz.ntmps45
 go_wp2_with (go_at_call 67;refine(ZL _).mono ?_;rintro e w' ⟨rfl,n,rfl⟩)
 go_ret
 exact⟨rfl,_,rfl⟩
theorem jbO (a:Int) (w:World) (a0 : -9223372036854775808≤a) (a1:a≤9223372036854775807):Calls Tryz.prog 45 #[.int .i64 a,.int .i64 1000000000] w fun e w'=>e = .returned (.int .i64 (a%1000000000))∧∃n,w'=w.drewN n:=by
 by_cases h:a = -9223372036854775808
 ·subst h;exact ZU w
 ·exact jW a 1000000000 w (by omega) a1 (by decide) (by decide)
def NormP (a b:Int):Prop:=(0≤a∧a<1000000000)∧(-9223372036854775808≤b∧b≤9223372036854775807)
theorem ku (x:Int) : -9223372036854775808≤IntKind.i64.wrap x∧IntKind.i64.wrap x≤9223372036854775807:=by simp only[IntKind.wrap_i64];omega
theorem yX (a b:Int) (w:World) (h:qW a b):Calls Tryz.prog 173 #[.agg #[.int .i64 a,.int .i64 b]] w (zI NormP w):=by
 obtain⟨⟨a0,a1⟩,b0,b1⟩:=h
 have HM:=Lib.hid (fun w=>jbO a w a0 a1)
 have m0:0≤a%1000000000:=Int.emod_nonneg _ (by decide)
 have m1:a%1000000000<1000000000:=Int.emod_lt_of_pos _ (by decide)
 generalize a%1000000000=m at *
 obtain⟨W1,g,hW1,HG,HX0,HX1,HB⟩:=vA w 48 #[.int .i64 a,.int .i64 b] 48 #[.int .i64 0,.int .i64 0]
 go_enter Tryz.func173,Tryz.ntmps173
 go_upto_region 1 with fail
 rw[hW1.out,HG.out]
 clear hW1
 obtain⟨x0,x1⟩:=sqc HX0
 go_upto_region 2 with(go_at_call 45;refine(HM.out _).mono ?_;rintro e w' ⟨rfl,n1,rfl⟩)
 have HX2:=Lib.hid (HX0.out.drewN n1)
 have HR2:=Lib.hid (HX1.out.drewN n1)
 have HB2:=Lib.hid (jd HB.out n1)
 clear HX0 HX1 HB x0 x1
 generalize W1.drewN n1=w2 at *
 obtain⟨x0,x1⟩:=sqc HX2
 obtain⟨q0,u0,q1,u1⟩:=sqf HR2
 have HMm:=Lib.hid (And.intro m0 m1)
 clear a0 a1 b0 b1 m0 m1
 obtain⟨p,hp⟩:∃p,IntKind.i64.wrap (m+b)=p:=⟨_,rfl⟩
 have HK:=Lib.hid (ku (p-a))
 obtain⟨k,hk⟩:∃k,IntKind.i64.wrap (p-a)=k:=⟨_,rfl⟩
 rw[hk] at HK
 go_wp2_with fail
 obtain⟨W4,h4,v0,v1,hb4⟩:=sqt HR2 HB2 (by omega) (.int .i64 m) (.int .i64 k)
 clear q0 q1 u0 u1
 rw[h4.out]
 refine bodyPost_ret (v:=.agg #[.int .i64 m,.int .i64 k]) (by simp[results,Tryz.results173,go_sem,v0,v1]) rfl ⟨_,_,rfl,⟨HMm.out,HK.out⟩,?_⟩
 rw[HG.out]
 exact hb4
theorem JO (ts:Array TypeId) (t:TypeId) (x y:Nat) (w:World):∃r n,(Builtin.min_ ts t #[.float .f64 x,.float .f64 y]).run Tryz.prog w = .ok (.float .f64 r) (w.drewN n):=by
 rcases Zv (FloatKind.f64.format.order x y) with h|h|h|h
 ·exact⟨(Question.nanMinMax .f64 false x y).cut (w.tape w.drawn (.nanMinMax .f64 false x y)),1,by simp[Builtin.min_,Builtin.min2,h];rfl⟩
 ·exact⟨x,0,by simp[Builtin.min_,Builtin.min2,h];rfl⟩
 ·exact⟨if (FloatKind.f64.decode x).neg=true then x else y,0,by simp[Builtin.min_,Builtin.min2,h];rfl⟩
 ·exact⟨y,0,by simp[Builtin.min_,Builtin.min2,h];rfl⟩
theorem Qb (ts:Array TypeId) (t:TypeId) (x y:Nat) (w:World):∃r n,(Builtin.max_ ts t #[.float .f64 x,.float .f64 y]).run Tryz.prog w = .ok (.float .f64 r) (w.drewN n):=by
 rcases Zv (FloatKind.f64.format.order x y) with h|h|h|h
 ·exact⟨(Question.nanMinMax .f64 true x y).cut (w.tape w.drawn (.nanMinMax .f64 true x y)),1,by simp[Builtin.max_,Builtin.max2,h];rfl⟩
 ·exact⟨y,0,by simp[Builtin.max_,Builtin.max2,h];rfl⟩
 ·exact⟨if (FloatKind.f64.decode x).neg=true then y else x,0,by simp[Builtin.max_,Builtin.max2,h];rfl⟩
 ·exact⟨x,0,by simp[Builtin.max_,Builtin.max2,h];rfl⟩
theorem vP:∃(R N:Array TypeId→TypeId→Nat→Nat→World→Nat),∀ts t x y w,(Builtin.min_ ts t #[.float .f64 x,.float .f64 y]).run Tryz.prog w = .ok (.float .f64 (R ts t x y w)) (w.drewN (N ts t x y w)) :=
 ⟨fun ts t x y w=>(JO ts t x y w).choose,fun ts t x y w=>(JO ts t x y w).choose_spec.choose,fun ts t x y w=>(JO ts t x y w).choose_spec.choose_spec⟩
theorem ke:∃(R N:Array TypeId→TypeId→Nat→Nat→World→Nat),∀ts t x y w,(Builtin.max_ ts t #[.float .f64 x,.float .f64 y]).run Tryz.prog w = .ok (.float .f64 (R ts t x y w)) (w.drewN (N ts t x y w)) :=
 ⟨fun ts t x y w=>(Qb ts t x y w).choose,fun ts t x y w=>(Qb ts t x y w).choose_spec.choose,fun ts t x y w=>(Qb ts t x y w).choose_spec.choose_spec⟩
theorem Qn (x y:Int) (W:World):(Instr.field 48 (.agg #[.int .i64 x,.int .i64 y]) 0).run Tryz.prog W = .ok (.int .i64 x) W:=by
 simp[Instr.field,run_underlying Tryz.underlying48,asAgg,go_sem]
theorem JU (x y:Int) (W:World):(Instr.field 48 (.agg #[.int .i64 x,.int .i64 y]) 1).run Tryz.prog W = .ok (.int .i64 y) W:=by
 simp[Instr.field,run_underlying Tryz.underlying48,asAgg,go_sem]
theorem YZ (a b c d:Int) (j:Int) (j0:0≤j) (j1:j<2):∃x y:Int,∀W,(Instr.index 189 (.agg #[.int .i64 a,.int .i64 b,.int .i64 c,.int .i64 d]) (.int .i64 j)).run Tryz.prog W = .ok (.agg #[.int .i64 x,.int .i64 y]) W:=by
 rcases(show j=0∨j=1 by omega) with rfl|rfl
 ·exact⟨a,b,fun W=>by simp[Instr.index,run_underlying Tryz.underlying189,asIntOf,go_sem]⟩
 ·exact⟨c,d,fun W=>by simp[Instr.index,run_underlying Tryz.underlying189,asIntOf,go_sem]⟩
theorem jfL (a b c d e f:Int) (j:Int) (j0:0≤j) (j1:j<3):∃x y:Int,∀W,(Instr.index 238 (.agg #[.int .i64 a,.int .i64 b,.int .i64 c,.int .i64 d,.int .i64 e,.int .i64 f]) (.int .i64 j)).run Tryz.prog W = .ok (.agg #[.int .i64 x,.int .i64 y]) W:=by
 rcases(show j=0∨j=1∨j=2 by omega) with rfl|rfl|rfl
 ·exact⟨a,b,fun W=>by simp[Instr.index,run_underlying Tryz.underlying238,asIntOf,go_sem]⟩
 ·exact⟨c,d,fun W=>by simp[Instr.index,run_underlying Tryz.underlying238,asIntOf,go_sem]⟩
 ·exact⟨e,f,fun W=>by simp[Instr.index,run_underlying Tryz.underlying238,asIntOf,go_sem]⟩
theorem jek (a b c d:Int) (w:World):Calls Tryz.prog 132 #[.agg #[.int .i64 a,.int .i64 b],.agg #[.int .i64 c,.int .i64 d]] w (Jo NormP w):=by
 have HI2:=Lib.hid (fun j j0 j1=>YZ a b c d j j0 j1)
 have HI3:=Lib.hid (fun j j0 j1=>jfL a d b c b d j j0 j1)
 obtain⟨W1,g,hW1,HG,HX0,HX1,HX2,HB⟩:=Xk w 48 #[.int .i64 a,.int .i64 b] 48 #[.int .i64 c,.int .i64 d] 48 #[.int .i64 0,.int .i64 0]
 go_enter Tryz.func132,Tryz.ntmps132
 go_upto_region 1 with fail
 rw[hW1.out,HG.out]
 clear hW1
 obtain⟨x0,x1⟩:=sqc HX0
 obtain⟨y0,y1⟩:=sqc HX1
 go_wp2_with fail
 clear x0 x1 y0 y1
 go_loopw [19] (fun iv wr=>∃j:Int,0≤j∧j≤2∧iv = .int .i64 j∧Hid (Below W1.heap.size W1 wr)) (fun iv _=>2-(intOf iv).toNat)
 case atStart=>exact⟨0,by omega,by omega,rfl,Below.refl _ _⟩
 case round =>
  obtain⟨j,j0,j2,rfl,HBr⟩:=hrel
  by_cases hlt:j<2
  ·have tl:decide (j<2)=true:=decide_eq_true hlt
   obtain⟨x,y,hix⟩:=HI2.out j j0 hlt
   have HBn:=Lib.hid (jb HBr.out (ja wr (Obj.cells #[.int .i64 x,.int .i64 y] 48)))
   clear HBr
   go_upto_region 5 with(go_at_call 125;refine(zM _ _ _).mono ?_;rintro e w2 ⟨er,rfl,her,hb2⟩)
   have HB2:=Lib.hid (jb HBn.out hb2)
   clear HBn her hb2 hix
   by_cases he:er=0
   ·subst he
    go_wp2_with fail
    go_roundw
    case rel=>exact⟨j+1,by omega,by omega,by go_num,HB2⟩
    case measure=>simp[intOf];omega
   ·have te:(er != 0)=true:=by rw[bne_iff_ne];exact he
    have HR2:=Lib.hid (HX2.out.below HB2.out)
    have HBB:=Lib.hid (HB.out.trans (HB2.out.mono (by have:=HX2.out.lt;omega)))
    clear he
    obtain⟨q0,u0,q1,u1⟩:=sqf HR2
    go_wp2_with fail
    obtain⟨W4,h4,v0,v1,hb4⟩:=sqt HR2 HBB (by omega) (.int .i64 0) (.int .i64 0)
    clear q0 q1 u0 u1
    rw[h4.out]
    refine bodyPost_ret (v:=.tuple #[.agg #[.int .i64 0,.int .i64 0],.int .i64 er]) (by simp[results,Tryz.results132,go_sem,v0,v1]) rfl ⟨_,_,_,rfl,by unfold NormP;omega,?_⟩
    rw[HG.out]
    exact hb4
  ·have tl:decide (j<2)=false:=decide_eq_false hlt
   clear hlt j0 j2
   have HY0:=Lib.hid (HX0.out.below HBr.out)
   have HY1:=Lib.hid (HX1.out.below HBr.out)
   have HY2:=Lib.hid (HX2.out.below HBr.out)
   have HBB:=Lib.hid (HB.out.trans (HBr.out.mono (by have:=HX2.out.lt;omega)))
   clear HX0 HX1 HX2 HB HBr HI2
   have x0:wr.cell? ⟨g,0,none⟩=some (.int .i64 a):=HY0.out.cell 0
   have x1:wr.cell? ⟨g,1,none⟩=some (.int .i64 b):=HY0.out.cell 1
   have y0:wr.cell? ⟨g+1,0,none⟩=some (.int .i64 c):=HY1.out.cell 0
   have y1:wr.cell? ⟨g+1,1,none⟩=some (.int .i64 d):=HY1.out.cell 1
   rename World=>w9
   by_cases h1:a≤0
   ·have th1:decide (a≤0)=true:=decide_eq_true h1
    by_cases h2:0≤b
    ·have th2:decide (0≤b)=true:=decide_eq_true h2
     by_cases h3:c≤0
     ·have th3:decide (c≤0)=true:=decide_eq_true h3
      by_cases h4:0≤d
      ·have th4:decide (0≤d)=true:=decide_eq_true h4
       obtain⟨q0,u0,q1,u1⟩:=sqf HY2
       go_wp2_with fail
       obtain⟨W4,h4,v0,v1,hb4⟩:=sqt HY2 HBB (by omega) (.int .i64 0) (.int .i64 0)
       clear q0 q1 u0 u1
       rw[h4.out]
       refine bodyPost_ret (v:=.tuple #[.agg #[.int .i64 0,.int .i64 0],.int .i64 11]) (by simp[results,Tryz.results132,go_sem,v0,v1]) rfl ⟨_,_,_,rfl,by unfold NormP;omega,?_⟩
       rw[HG.out]
       exact hb4
      ·have th4:decide (0≤d)=false:=decide_eq_false h4
       go_upto_region 12 with(go_at_call 171;refine(j6 _ _ _).mono ?_;rintro e w' ⟨f0,rfl,n1,rfl⟩)
       have HZ0:=Lib.hid (HY0.out.drewN n1)
       have HZ1:=Lib.hid (HY1.out.drewN n1)
       have HZ2:=Lib.hid (HY2.out.drewN n1)
       have HBC:=Lib.hid (jd HBB.out n1)
       clear HY0 HY1 HY2 HBB x0 x1 y0 y1 h1 h2 h3 h4
       generalize w9.drewN n1=w3 at *
       have x0:w3.cell? ⟨g,0,none⟩=some (.int .i64 a):=HZ0.out.cell 0
       have x1:w3.cell? ⟨g,1,none⟩=some (.int .i64 b):=HZ0.out.cell 1
       have y0:w3.cell? ⟨g+1,0,none⟩=some (.int .i64 c):=HZ1.out.cell 0
       have y1:w3.cell? ⟨g+1,1,none⟩=some (.int .i64 d):=HZ1.out.cell 1
       go_wp2_with fail
       clear x0 x1 y0 y1 HZ0 HZ1
       go_loopw [10,11,69] (fun s1 s2 iv wr=>∃(j:Int) (f1 f2:Nat),0≤j∧j≤3∧iv = .int .i64 j∧s1 = .float .f64 f1∧s2 = .float .f64 f2∧Hid (Below w3.heap.size w3 wr)) (fun _ _ iv _=>3-(intOf iv).toNat)
       case atStart=>exact⟨0,0,0,by omega,by omega,rfl,rfl,rfl,Below.refl _ _⟩
       case round =>
        obtain⟨j,f1,f2,j0,j3,rfl,rfl,rfl,HBr⟩:=hrel
        by_cases hlt:j<3
        ·have tl:decide (j<3)=true:=decide_eq_true hlt
         obtain⟨x,y,hix⟩:=HI3.out j j0 hlt
         obtain⟨R,N,F⟩:=ya
         have fS:=fun x y w=>F .sub (.inr (.inl rfl)) 236 x y w
         have fA:=fun x y w=>F .add (.inl rfl) 236 x y w
         obtain⟨Rm,Nm,fm⟩:=vP
         obtain⟨RM,NM,fM⟩:=ke
         clear F
         go_upto_region 16 with(go_at_call 171;refine(j6 _ _ _).mono ?_;rintro e w' ⟨f,rfl,n,rfl⟩)
         generalize R .sub _ _ _ _=dd
         generalize hW:(wr.alloc (Obj.cells #[.int .i64 x,.int .i64 y] 146)).drewN _=w5
         have HB5:=Lib.hid (hW▸jd (jb HBr.out (ja wr (Obj.cells #[.int .i64 x,.int .i64 y] 146))) _:Below w3.heap.size w3 w5)
         clear hW HBr
         cases h1:(FloatKind.f64.format.order dd 4737168216739020800==some .gt)
         ·skip
          cases h2:(FloatKind.f64.format.order dd 13960540253593796608==some .lt)
          ·skip
           go_wp2_with fail
           go_roundw
           case rel=>exact⟨j+1,_,_,by omega,by omega,by go_num,rfl,rfl,(by first|exact jd HB5.out _|exact HB5.out)⟩
           case measure=>simp[intOf];omega
          ·skip
           go_wp2_with fail
           go_roundw
           case rel=>exact⟨j+1,_,_,by omega,by omega,by go_num,rfl,rfl,(by first|exact jd HB5.out _|exact HB5.out)⟩
           case measure=>simp[intOf];omega
         ·go_upto_region 18 with fail
          generalize hD:R .sub _ _ _ _=d2
          clear hD
          generalize hW:w5.drewN _=w6
          have HB6:=Lib.hid (hW▸jd HB5.out _:Below w3.heap.size w3 w6)
          clear hW HB5
          have HB5:=HB6
          cases h2:(FloatKind.f64.format.order d2 13960540253593796608==some .lt)
          ·skip
           go_wp2_with fail
           go_roundw
           case rel=>exact⟨j+1,_,_,by omega,by omega,by go_num,rfl,rfl,(by first|exact jd HB5.out _|exact HB5.out)⟩
           case measure=>simp[intOf];omega
          ·skip
           go_wp2_with fail
           go_roundw
           case rel=>exact⟨j+1,_,_,by omega,by omega,by go_num,rfl,rfl,(by first|exact jd HB5.out _|exact HB5.out)⟩
           case measure=>simp[intOf];omega
        ·have tl:decide (j<3)=false:=decide_eq_false hlt
         clear hlt j0 j3
         have ff0:=fun x y W=>Qn x y W
         have ff1:=fun x y W=>JU x y W
         obtain⟨s1,m1,hs1⟩:=jw .add (.inl rfl) 236 f0 f1 wr
         go_upto_region 23 with(go_at_call 172;first
          | (have HA2:=HA1.out;refine(jU _ _).mono ?_;rintro e w7 ⟨u2,v2,rfl,hi2,hb7⟩;have HA2:=Lib.hid (jb (jd HA1.out m2) hb7);have HJ2:=Lib.hid hi2;clear hb7 hi2)
          | (refine(jU _ _).mono ?_;rintro e w6 ⟨u,v,rfl,hi1,hb6⟩;have HA1:=Lib.hid (jb (jd HBr.out m1) hb6);have HI1:=Lib.hid hi1;clear hb6 hi1;obtain⟨s2,m2,hs2⟩:=jw .add (.inl rfl) 236 f0 f2 w6))
         have HIN:Hid (qW u v2):=⟨HI1.out.1,HJ2.out.2⟩
         have lz:=HZ2.out.lt
         have HR8:=Lib.hid ((HZ2.out.below HA2.out).alloc (Obj.cells #[.int .i64 u,.int .i64 v2] 48))
         have HS8:=Lib.hid (Box.new w7 48 #[.int .i64 u,.int .i64 v2])
         have HB8:=Lib.hid (HBC.out.trans ((jb HA2.out (ja w7 (Obj.cells #[.int .i64 u,.int .i64 v2] 48))).mono (by omega)))
         clear HA1 HA2 HI1 HJ2 HBr HBC HZ2 lz
         generalize w7.alloc (Obj.cells #[.int .i64 u,.int .i64 v2] 48)=w8 at *
         generalize w7.heap.size=gt at *
         have x0:w8.cell? ⟨gt,0,none⟩=some (.int .i64 u):=HS8.out.cell 0
         have x1:w8.cell? ⟨gt,1,none⟩=some (.int .i64 v2):=HS8.out.cell 1
         obtain⟨k,hk⟩:∃k,IntKind.i64.wrap (v2-u)=k:=⟨_,rfl⟩
         have lz:=HR8.out.lt
         by_cases hw:400000000<k
         ·have tw:decide (400000000<k)=true:=decide_eq_true hw
          clear hw
          obtain⟨q0,u0,q1,u1⟩:=sqf HR8
          go_wp2_with fail
          obtain⟨W4,h4,v0,v1,hb4⟩:=sqt HR8 HB8 (by omega) (.int .i64 0) (.int .i64 0)
          clear q0 q1 u0 u1
          rw[h4.out]
          refine bodyPost_ret (v:=.tuple #[.agg #[.int .i64 0,.int .i64 0],.int .i64 11]) (by simp[results,Tryz.results132,go_sem,v0,v1]) rfl ⟨_,_,_,rfl,by unfold NormP;omega,?_⟩
          rw[HG.out]
          exact hb4
         ·have tw:decide (400000000<k)=false:=decide_eq_false hw
          clear hw
          have HNo:=Lib.hid (fun w=>yX u v2 w HIN.out)
          have lift:∀w9,Below w8.heap.size w8 w9→Box w9 (g+1+1) 48 #[.int .i64 0,.int .i64 0]∧Below g w w9:=fun w9 b9=>⟨HR8.out.below b9,HB8.out.trans (b9.mono (by omega))⟩
          have HL:=Lib.hid lift
          clear lift lz HR8 HB8
          go_wp2_with (go_at_call 173;refine(HNo.out _).mono ?_;rintro e wz ⟨u',v',rfl,hin,hb9⟩;obtain⟨HR9,HB9⟩:=HL.out _ hb9;replace HR9:=Lib.hid HR9;replace HB9:=Lib.hid HB9;have q0:wz.frozen? ⟨g+1+1,0,none⟩=false:=HR9.out.free 0;have q1:wz.frozen? ⟨g+1+1,1,none⟩=false:=HR9.out.free 1;have u0:wz.cell? ⟨g+1+1,0,none⟩=some (.int .i64 0):=HR9.out.cell 0;have u1:wz.cell? ⟨g+1+1,1,none⟩=some (.int .i64 0):=HR9.out.cell 1;clear hb9 HL x0 x1)
          obtain⟨v0,v1⟩:=jk (a:=.int .i64 u') (b:=.int .i64 v') HR9.out
          refine bodyPost_ret (v:=.tuple #[.agg #[.int .i64 u',.int .i64 v'],.int .i64 0]) (by simp[results,Tryz.results132,go_sem,v0,v1]) rfl ⟨_,_,_,rfl,hin,?_⟩
          rw[HG.out]
          exact(HB9.out.setCell (p:=⟨g+1+1,0,none⟩) (by show g≤g+1+1;omega) _).setCell (p:=⟨g+1+1,1,none⟩) (by show g≤g+1+1;omega) _
     ·have th3:decide (c≤0)=false:=decide_eq_false h3
      go_upto_region 12 with(go_at_call 171;refine(j6 _ _ _).mono ?_;rintro e w' ⟨f0,rfl,n1,rfl⟩)
      have HZ0:=Lib.hid (HY0.out.drewN n1)
      have HZ1:=Lib.hid (HY1.out.drewN n1)
      have HZ2:=Lib.hid (HY2.out.drewN n1)
      have HBC:=Lib.hid (jd HBB.out n1)
      clear HY0 HY1 HY2 HBB x0 x1 y0 y1 h1 h2 h3
      generalize w9.drewN n1=w3 at *
      have x0:w3.cell? ⟨g,0,none⟩=some (.int .i64 a):=HZ0.out.cell 0
      have x1:w3.cell? ⟨g,1,none⟩=some (.int .i64 b):=HZ0.out.cell 1
      have y0:w3.cell? ⟨g+1,0,none⟩=some (.int .i64 c):=HZ1.out.cell 0
      have y1:w3.cell? ⟨g+1,1,none⟩=some (.int .i64 d):=HZ1.out.cell 1
      go_wp2_with fail
      clear x0 x1 y0 y1 HZ0 HZ1
      go_loopw [10,11,69] (fun s1 s2 iv wr=>∃(j:Int) (f1 f2:Nat),0≤j∧j≤3∧iv = .int .i64 j∧s1 = .float .f64 f1∧s2 = .float .f64 f2∧Hid (Below w3.heap.size w3 wr)) (fun _ _ iv _=>3-(intOf iv).toNat)
      case atStart=>exact⟨0,0,0,by omega,by omega,rfl,rfl,rfl,Below.refl _ _⟩
      case round =>
       obtain⟨j,f1,f2,j0,j3,rfl,rfl,rfl,HBr⟩:=hrel
       by_cases hlt:j<3
       ·have tl:decide (j<3)=true:=decide_eq_true hlt
        obtain⟨x,y,hix⟩:=HI3.out j j0 hlt
        obtain⟨R,N,F⟩:=ya
        have fS:=fun x y w=>F .sub (.inr (.inl rfl)) 236 x y w
        have fA:=fun x y w=>F .add (.inl rfl) 236 x y w
        obtain⟨Rm,Nm,fm⟩:=vP
        obtain⟨RM,NM,fM⟩:=ke
        clear F
        go_upto_region 16 with(go_at_call 171;refine(j6 _ _ _).mono ?_;rintro e w' ⟨f,rfl,n,rfl⟩)
        generalize R .sub _ _ _ _=dd
        generalize hW:(wr.alloc (Obj.cells #[.int .i64 x,.int .i64 y] 146)).drewN _=w5
        have HB5:=Lib.hid (hW▸jd (jb HBr.out (ja wr (Obj.cells #[.int .i64 x,.int .i64 y] 146))) _:Below w3.heap.size w3 w5)
        clear hW HBr
        cases h1:(FloatKind.f64.format.order dd 4737168216739020800==some .gt)
        ·skip
         cases h2:(FloatKind.f64.format.order dd 13960540253593796608==some .lt)
         ·skip
          go_wp2_with fail
          go_roundw
          case rel=>exact⟨j+1,_,_,by omega,by omega,by go_num,rfl,rfl,(by first|exact jd HB5.out _|exact HB5.out)⟩
          case measure=>simp[intOf];omega
         ·skip
          go_wp2_with fail
          go_roundw
          case rel=>exact⟨j+1,_,_,by omega,by omega,by go_num,rfl,rfl,(by first|exact jd HB5.out _|exact HB5.out)⟩
          case measure=>simp[intOf];omega
        ·go_upto_region 18 with fail
         generalize hD:R .sub _ _ _ _=d2
         clear hD
         generalize hW:w5.drewN _=w6
         have HB6:=Lib.hid (hW▸jd HB5.out _:Below w3.heap.size w3 w6)
         clear hW HB5
         have HB5:=HB6
         cases h2:(FloatKind.f64.format.order d2 13960540253593796608==some .lt)
         ·skip
          go_wp2_with fail
          go_roundw
          case rel=>exact⟨j+1,_,_,by omega,by omega,by go_num,rfl,rfl,(by first|exact jd HB5.out _|exact HB5.out)⟩
          case measure=>simp[intOf];omega
         ·skip
          go_wp2_with fail
          go_roundw
          case rel=>exact⟨j+1,_,_,by omega,by omega,by go_num,rfl,rfl,(by first|exact jd HB5.out _|exact HB5.out)⟩
          case measure=>simp[intOf];omega
       ·have tl:decide (j<3)=false:=decide_eq_false hlt
        clear hlt j0 j3
        have ff0:=fun x y W=>Qn x y W
        have ff1:=fun x y W=>JU x y W
        obtain⟨s1,m1,hs1⟩:=jw .add (.inl rfl) 236 f0 f1 wr
        go_upto_region 23 with(go_at_call 172;first
         | (have HA2:=HA1.out;refine(jU _ _).mono ?_;rintro e w7 ⟨u2,v2,rfl,hi2,hb7⟩;have HA2:=Lib.hid (jb (jd HA1.out m2) hb7);have HJ2:=Lib.hid hi2;clear hb7 hi2)
         | (refine(jU _ _).mono ?_;rintro e w6 ⟨u,v,rfl,hi1,hb6⟩;have HA1:=Lib.hid (jb (jd HBr.out m1) hb6);have HI1:=Lib.hid hi1;clear hb6 hi1;obtain⟨s2,m2,hs2⟩:=jw .add (.inl rfl) 236 f0 f2 w6))
        have HIN:Hid (qW u v2):=⟨HI1.out.1,HJ2.out.2⟩
        have lz:=HZ2.out.lt
        have HR8:=Lib.hid ((HZ2.out.below HA2.out).alloc (Obj.cells #[.int .i64 u,.int .i64 v2] 48))
        have HS8:=Lib.hid (Box.new w7 48 #[.int .i64 u,.int .i64 v2])
        have HB8:=Lib.hid (HBC.out.trans ((jb HA2.out (ja w7 (Obj.cells #[.int .i64 u,.int .i64 v2] 48))).mono (by omega)))
        clear HA1 HA2 HI1 HJ2 HBr HBC HZ2 lz
        generalize w7.alloc (Obj.cells #[.int .i64 u,.int .i64 v2] 48)=w8 at *
        generalize w7.heap.size=gt at *
        have x0:w8.cell? ⟨gt,0,none⟩=some (.int .i64 u):=HS8.out.cell 0
        have x1:w8.cell? ⟨gt,1,none⟩=some (.int .i64 v2):=HS8.out.cell 1
        obtain⟨k,hk⟩:∃k,IntKind.i64.wrap (v2-u)=k:=⟨_,rfl⟩
        have lz:=HR8.out.lt
        by_cases hw:400000000<k
        ·have tw:decide (400000000<k)=true:=decide_eq_true hw
         clear hw
         obtain⟨q0,u0,q1,u1⟩:=sqf HR8
         go_wp2_with fail
         obtain⟨W4,h4,v0,v1,hb4⟩:=sqt HR8 HB8 (by omega) (.int .i64 0) (.int .i64 0)
         clear q0 q1 u0 u1
         rw[h4.out]
         refine bodyPost_ret (v:=.tuple #[.agg #[.int .i64 0,.int .i64 0],.int .i64 11]) (by simp[results,Tryz.results132,go_sem,v0,v1]) rfl ⟨_,_,_,rfl,by unfold NormP;omega,?_⟩
         rw[HG.out]
         exact hb4
        ·have tw:decide (400000000<k)=false:=decide_eq_false hw
         clear hw
         have HNo:=Lib.hid (fun w=>yX u v2 w HIN.out)
         have lift:∀w9,Below w8.heap.size w8 w9→Box w9 (g+1+1) 48 #[.int .i64 0,.int .i64 0]∧Below g w w9:=fun w9 b9=>⟨HR8.out.below b9,HB8.out.trans (b9.mono (by omega))⟩
         have HL:=Lib.hid lift
         clear lift lz HR8 HB8
         go_wp2_with (go_at_call 173;refine(HNo.out _).mono ?_;rintro e wz ⟨u',v',rfl,hin,hb9⟩;obtain⟨HR9,HB9⟩:=HL.out _ hb9;replace HR9:=Lib.hid HR9;replace HB9:=Lib.hid HB9;have q0:wz.frozen? ⟨g+1+1,0,none⟩=false:=HR9.out.free 0;have q1:wz.frozen? ⟨g+1+1,1,none⟩=false:=HR9.out.free 1;have u0:wz.cell? ⟨g+1+1,0,none⟩=some (.int .i64 0):=HR9.out.cell 0;have u1:wz.cell? ⟨g+1+1,1,none⟩=some (.int .i64 0):=HR9.out.cell 1;clear hb9 HL x0 x1)
         obtain⟨v0,v1⟩:=jk (a:=.int .i64 u') (b:=.int .i64 v') HR9.out
         refine bodyPost_ret (v:=.tuple #[.agg #[.int .i64 u',.int .i64 v'],.int .i64 0]) (by simp[results,Tryz.results132,go_sem,v0,v1]) rfl ⟨_,_,_,rfl,hin,?_⟩
         rw[HG.out]
         exact(HB9.out.setCell (p:=⟨g+1+1,0,none⟩) (by show g≤g+1+1;omega) _).setCell (p:=⟨g+1+1,1,none⟩) (by show g≤g+1+1;omega) _
    ·have th2:decide (0≤b)=false:=decide_eq_false h2
     go_upto_region 12 with(go_at_call 171;refine(j6 _ _ _).mono ?_;rintro e w' ⟨f0,rfl,n1,rfl⟩)
     have HZ0:=Lib.hid (HY0.out.drewN n1)
     have HZ1:=Lib.hid (HY1.out.drewN n1)
     have HZ2:=Lib.hid (HY2.out.drewN n1)
     have HBC:=Lib.hid (jd HBB.out n1)
     clear HY0 HY1 HY2 HBB x0 x1 y0 y1 h1 h2
     generalize w9.drewN n1=w3 at *
     have x0:w3.cell? ⟨g,0,none⟩=some (.int .i64 a):=HZ0.out.cell 0
     have x1:w3.cell? ⟨g,1,none⟩=some (.int .i64 b):=HZ0.out.cell 1
     have y0:w3.cell? ⟨g+1,0,none⟩=some (.int .i64 c):=HZ1.out.cell 0
     have y1:w3.cell? ⟨g+1,1,none⟩=some (.int .i64 d):=HZ1.out.cell 1
     go_wp2_with fail
     clear x0 x1 y0 y1 HZ0 HZ1
     go_loopw [10,11,69] (fun s1 s2 iv wr=>∃(j:Int) (f1 f2:Nat),0≤j∧j≤3∧iv = .int .i64 j∧s1 = .float .f64 f1∧s2 = .float .f64 f2∧Hid (Below w3.heap.size w3 wr)) (fun _ _ iv _=>3-(intOf iv).toNat)
     case atStart=>exact⟨0,0,0,by omega,by omega,rfl,rfl,rfl,Below.refl _ _⟩
     case round =>
      obtain⟨j,f1,f2,j0,j3,rfl,rfl,rfl,HBr⟩:=hrel
      by_cases hlt:j<3
      ·have tl:decide (j<3)=true:=decide_eq_true hlt
       obtain⟨x,y,hix⟩:=HI3.out j j0 hlt
       obtain⟨R,N,F⟩:=ya
       have fS:=fun x y w=>F .sub (.inr (.inl rfl)) 236 x y w
       have fA:=fun x y w=>F .add (.inl rfl) 236 x y w
       obtain⟨Rm,Nm,fm⟩:=vP
       obtain⟨RM,NM,fM⟩:=ke
       clear F
       go_upto_region 16 with(go_at_call 171;refine(j6 _ _ _).mono ?_;rintro e w' ⟨f,rfl,n,rfl⟩)
       generalize R .sub _ _ _ _=dd
       generalize hW:(wr.alloc (Obj.cells #[.int .i64 x,.int .i64 y] 146)).drewN _=w5
       have HB5:=Lib.hid (hW▸jd (jb HBr.out (ja wr (Obj.cells #[.int .i64 x,.int .i64 y] 146))) _:Below w3.heap.size w3 w5)
       clear hW HBr
       cases h1:(FloatKind.f64.format.order dd 4737168216739020800==some .gt)
       ·skip
        cases h2:(FloatKind.f64.format.order dd 13960540253593796608==some .lt)
        ·skip
         go_wp2_with fail
         go_roundw
         case rel=>exact⟨j+1,_,_,by omega,by omega,by go_num,rfl,rfl,(by first|exact jd HB5.out _|exact HB5.out)⟩
         case measure=>simp[intOf];omega
        ·skip
         go_wp2_with fail
         go_roundw
         case rel=>exact⟨j+1,_,_,by omega,by omega,by go_num,rfl,rfl,(by first|exact jd HB5.out _|exact HB5.out)⟩
         case measure=>simp[intOf];omega
       ·go_upto_region 18 with fail
        generalize hD:R .sub _ _ _ _=d2
        clear hD
        generalize hW:w5.drewN _=w6
        have HB6:=Lib.hid (hW▸jd HB5.out _:Below w3.heap.size w3 w6)
        clear hW HB5
        have HB5:=HB6
        cases h2:(FloatKind.f64.format.order d2 13960540253593796608==some .lt)
        ·skip
         go_wp2_with fail
         go_roundw
         case rel=>exact⟨j+1,_,_,by omega,by omega,by go_num,rfl,rfl,(by first|exact jd HB5.out _|exact HB5.out)⟩
         case measure=>simp[intOf];omega
        ·skip
         go_wp2_with fail
         go_roundw
         case rel=>exact⟨j+1,_,_,by omega,by omega,by go_num,rfl,rfl,(by first|exact jd HB5.out _|exact HB5.out)⟩
         case measure=>simp[intOf];omega
      ·have tl:decide (j<3)=false:=decide_eq_false hlt
       clear hlt j0 j3
       have ff0:=fun x y W=>Qn x y W
       have ff1:=fun x y W=>JU x y W
       obtain⟨s1,m1,hs1⟩:=jw .add (.inl rfl) 236 f0 f1 wr
       go_upto_region 23 with(go_at_call 172;first
        | (have HA2:=HA1.out;refine(jU _ _).mono ?_;rintro e w7 ⟨u2,v2,rfl,hi2,hb7⟩;have HA2:=Lib.hid (jb (jd HA1.out m2) hb7);have HJ2:=Lib.hid hi2;clear hb7 hi2)
        | (refine(jU _ _).mono ?_;rintro e w6 ⟨u,v,rfl,hi1,hb6⟩;have HA1:=Lib.hid (jb (jd HBr.out m1) hb6);have HI1:=Lib.hid hi1;clear hb6 hi1;obtain⟨s2,m2,hs2⟩:=jw .add (.inl rfl) 236 f0 f2 w6))
       have HIN:Hid (qW u v2):=⟨HI1.out.1,HJ2.out.2⟩
       have lz:=HZ2.out.lt
       have HR8:=Lib.hid ((HZ2.out.below HA2.out).alloc (Obj.cells #[.int .i64 u,.int .i64 v2] 48))
       have HS8:=Lib.hid (Box.new w7 48 #[.int .i64 u,.int .i64 v2])
       have HB8:=Lib.hid (HBC.out.trans ((jb HA2.out (ja w7 (Obj.cells #[.int .i64 u,.int .i64 v2] 48))).mono (by omega)))
       clear HA1 HA2 HI1 HJ2 HBr HBC HZ2 lz
       generalize w7.alloc (Obj.cells #[.int .i64 u,.int .i64 v2] 48)=w8 at *
       generalize w7.heap.size=gt at *
       have x0:w8.cell? ⟨gt,0,none⟩=some (.int .i64 u):=HS8.out.cell 0
       have x1:w8.cell? ⟨gt,1,none⟩=some (.int .i64 v2):=HS8.out.cell 1
       obtain⟨k,hk⟩:∃k,IntKind.i64.wrap (v2-u)=k:=⟨_,rfl⟩
       have lz:=HR8.out.lt
       by_cases hw:400000000<k
       ·have tw:decide (400000000<k)=true:=decide_eq_true hw
        clear hw
        obtain⟨q0,u0,q1,u1⟩:=sqf HR8
        go_wp2_with fail
        obtain⟨W4,h4,v0,v1,hb4⟩:=sqt HR8 HB8 (by omega) (.int .i64 0) (.int .i64 0)
        clear q0 q1 u0 u1
        rw[h4.out]
        refine bodyPost_ret (v:=.tuple #[.agg #[.int .i64 0,.int .i64 0],.int .i64 11]) (by simp[results,Tryz.results132,go_sem,v0,v1]) rfl ⟨_,_,_,rfl,by unfold NormP;omega,?_⟩
        rw[HG.out]
        exact hb4
       ·have tw:decide (400000000<k)=false:=decide_eq_false hw
        clear hw
        have HNo:=Lib.hid (fun w=>yX u v2 w HIN.out)
        have lift:∀w9,Below w8.heap.size w8 w9→Box w9 (g+1+1) 48 #[.int .i64 0,.int .i64 0]∧Below g w w9:=fun w9 b9=>⟨HR8.out.below b9,HB8.out.trans (b9.mono (by omega))⟩
        have HL:=Lib.hid lift
        clear lift lz HR8 HB8
        go_wp2_with (go_at_call 173;refine(HNo.out _).mono ?_;rintro e wz ⟨u',v',rfl,hin,hb9⟩;obtain⟨HR9,HB9⟩:=HL.out _ hb9;replace HR9:=Lib.hid HR9;replace HB9:=Lib.hid HB9;have q0:wz.frozen? ⟨g+1+1,0,none⟩=false:=HR9.out.free 0;have q1:wz.frozen? ⟨g+1+1,1,none⟩=false:=HR9.out.free 1;have u0:wz.cell? ⟨g+1+1,0,none⟩=some (.int .i64 0):=HR9.out.cell 0;have u1:wz.cell? ⟨g+1+1,1,none⟩=some (.int .i64 0):=HR9.out.cell 1;clear hb9 HL x0 x1)
        obtain⟨v0,v1⟩:=jk (a:=.int .i64 u') (b:=.int .i64 v') HR9.out
        refine bodyPost_ret (v:=.tuple #[.agg #[.int .i64 u',.int .i64 v'],.int .i64 0]) (by simp[results,Tryz.results132,go_sem,v0,v1]) rfl ⟨_,_,_,rfl,hin,?_⟩
        rw[HG.out]
        exact(HB9.out.setCell (p:=⟨g+1+1,0,none⟩) (by show g≤g+1+1;omega) _).setCell (p:=⟨g+1+1,1,none⟩) (by show g≤g+1+1;omega) _
   ·have th1:decide (a≤0)=false:=decide_eq_false h1
    go_upto_region 12 with(go_at_call 171;refine(j6 _ _ _).mono ?_;rintro e w' ⟨f0,rfl,n1,rfl⟩)
    have HZ0:=Lib.hid (HY0.out.drewN n1)
    have HZ1:=Lib.hid (HY1.out.drewN n1)
    have HZ2:=Lib.hid (HY2.out.drewN n1)
    have HBC:=Lib.hid (jd HBB.out n1)
    clear HY0 HY1 HY2 HBB x0 x1 y0 y1 h1
    generalize w9.drewN n1=w3 at *
    have x0:w3.cell? ⟨g,0,none⟩=some (.int .i64 a):=HZ0.out.cell 0
    have x1:w3.cell? ⟨g,1,none⟩=some (.int .i64 b):=HZ0.out.cell 1
    have y0:w3.cell? ⟨g+1,0,none⟩=some (.int .i64 c):=HZ1.out.cell 0
    have y1:w3.cell? ⟨g+1,1,none⟩=some (.int .i64 d):=HZ1.out.cell 1
    go_wp2_with fail
    clear x0 x1 y0 y1 HZ0 HZ1
    go_loopw [10,11,69] (fun s1 s2 iv wr=>∃(j:Int) (f1 f2:Nat),0≤j∧j≤3∧iv = .int .i64 j∧s1 = .float .f64 f1∧s2 = .float .f64 f2∧Hid (Below w3.heap.size w3 wr)) (fun _ _ iv _=>3-(intOf iv).toNat)
    case atStart=>exact⟨0,0,0,by omega,by omega,rfl,rfl,rfl,Below.refl _ _⟩
    case round =>
     obtain⟨j,f1,f2,j0,j3,rfl,rfl,rfl,HBr⟩:=hrel
     by_cases hlt:j<3
     ·have tl:decide (j<3)=true:=decide_eq_true hlt
      obtain⟨x,y,hix⟩:=HI3.out j j0 hlt
      obtain⟨R,N,F⟩:=ya
      have fS:=fun x y w=>F .sub (.inr (.inl rfl)) 236 x y w
      have fA:=fun x y w=>F .add (.inl rfl) 236 x y w
      obtain⟨Rm,Nm,fm⟩:=vP
      obtain⟨RM,NM,fM⟩:=ke
      clear F
      go_upto_region 16 with(go_at_call 171;refine(j6 _ _ _).mono ?_;rintro e w' ⟨f,rfl,n,rfl⟩)
      generalize R .sub _ _ _ _=dd
      generalize hW:(wr.alloc (Obj.cells #[.int .i64 x,.int .i64 y] 146)).drewN _=w5
      have HB5:=Lib.hid (hW▸jd (jb HBr.out (ja wr (Obj.cells #[.int .i64 x,.int .i64 y] 146))) _:Below w3.heap.size w3 w5)
      clear hW HBr
      cases h1:(FloatKind.f64.format.order dd 4737168216739020800==some .gt)
      ·skip
       cases h2:(FloatKind.f64.format.order dd 13960540253593796608==some .lt)
       ·skip
        go_wp2_with fail
        go_roundw
        case rel=>exact⟨j+1,_,_,by omega,by omega,by go_num,rfl,rfl,(by first|exact jd HB5.out _|exact HB5.out)⟩
        case measure=>simp[intOf];omega
       ·skip
        go_wp2_with fail
        go_roundw
        case rel=>exact⟨j+1,_,_,by omega,by omega,by go_num,rfl,rfl,(by first|exact jd HB5.out _|exact HB5.out)⟩
        case measure=>simp[intOf];omega
      ·go_upto_region 18 with fail
       generalize hD:R .sub _ _ _ _=d2
       clear hD
       generalize hW:w5.drewN _=w6
       have HB6:=Lib.hid (hW▸jd HB5.out _:Below w3.heap.size w3 w6)
       clear hW HB5
       have HB5:=HB6
       cases h2:(FloatKind.f64.format.order d2 13960540253593796608==some .lt)
       ·skip
        go_wp2_with fail
        go_roundw
        case rel=>exact⟨j+1,_,_,by omega,by omega,by go_num,rfl,rfl,(by first|exact jd HB5.out _|exact HB5.out)⟩
        case measure=>simp[intOf];omega
       ·skip
        go_wp2_with fail
        go_roundw
        case rel=>exact⟨j+1,_,_,by omega,by omega,by go_num,rfl,rfl,(by first|exact jd HB5.out _|exact HB5.out)⟩
        case measure=>simp[intOf];omega
     ·have tl:decide (j<3)=false:=decide_eq_false hlt
      clear hlt j0 j3
      have ff0:=fun x y W=>Qn x y W
      have ff1:=fun x y W=>JU x y W
      obtain⟨s1,m1,hs1⟩:=jw .add (.inl rfl) 236 f0 f1 wr
      go_upto_region 23 with(go_at_call 172;first
       | (have HA2:=HA1.out;refine(jU _ _).mono ?_;rintro e w7 ⟨u2,v2,rfl,hi2,hb7⟩;have HA2:=Lib.hid (jb (jd HA1.out m2) hb7);have HJ2:=Lib.hid hi2;clear hb7 hi2)
       | (refine(jU _ _).mono ?_;rintro e w6 ⟨u,v,rfl,hi1,hb6⟩;have HA1:=Lib.hid (jb (jd HBr.out m1) hb6);have HI1:=Lib.hid hi1;clear hb6 hi1;obtain⟨s2,m2,hs2⟩:=jw .add (.inl rfl) 236 f0 f2 w6))
      have HIN:Hid (qW u v2):=⟨HI1.out.1,HJ2.out.2⟩
      have lz:=HZ2.out.lt
      have HR8:=Lib.hid ((HZ2.out.below HA2.out).alloc (Obj.cells #[.int .i64 u,.int .i64 v2] 48))
      have HS8:=Lib.hid (Box.new w7 48 #[.int .i64 u,.int .i64 v2])
      have HB8:=Lib.hid (HBC.out.trans ((jb HA2.out (ja w7 (Obj.cells #[.int .i64 u,.int .i64 v2] 48))).mono (by omega)))
      clear HA1 HA2 HI1 HJ2 HBr HBC HZ2 lz
      generalize w7.alloc (Obj.cells #[.int .i64 u,.int .i64 v2] 48)=w8 at *
      generalize w7.heap.size=gt at *
      have x0:w8.cell? ⟨gt,0,none⟩=some (.int .i64 u):=HS8.out.cell 0
      have x1:w8.cell? ⟨gt,1,none⟩=some (.int .i64 v2):=HS8.out.cell 1
      obtain⟨k,hk⟩:∃k,IntKind.i64.wrap (v2-u)=k:=⟨_,rfl⟩
      have lz:=HR8.out.lt
      by_cases hw:400000000<k
      ·have tw:decide (400000000<k)=true:=decide_eq_true hw
       clear hw
       obtain⟨q0,u0,q1,u1⟩:=sqf HR8
       go_wp2_with fail
       obtain⟨W4,h4,v0,v1,hb4⟩:=sqt HR8 HB8 (by omega) (.int .i64 0) (.int .i64 0)
       clear q0 q1 u0 u1
       rw[h4.out]
       refine bodyPost_ret (v:=.tuple #[.agg #[.int .i64 0,.int .i64 0],.int .i64 11]) (by simp[results,Tryz.results132,go_sem,v0,v1]) rfl ⟨_,_,_,rfl,by unfold NormP;omega,?_⟩
       rw[HG.out]
       exact hb4
      ·have tw:decide (400000000<k)=false:=decide_eq_false hw
       clear hw
       have HNo:=Lib.hid (fun w=>yX u v2 w HIN.out)
       have lift:∀w9,Below w8.heap.size w8 w9→Box w9 (g+1+1) 48 #[.int .i64 0,.int .i64 0]∧Below g w w9:=fun w9 b9=>⟨HR8.out.below b9,HB8.out.trans (b9.mono (by omega))⟩
       have HL:=Lib.hid lift
       clear lift lz HR8 HB8
       go_wp2_with (go_at_call 173;refine(HNo.out _).mono ?_;rintro e wz ⟨u',v',rfl,hin,hb9⟩;obtain⟨HR9,HB9⟩:=HL.out _ hb9;replace HR9:=Lib.hid HR9;replace HB9:=Lib.hid HB9;have q0:wz.frozen? ⟨g+1+1,0,none⟩=false:=HR9.out.free 0;have q1:wz.frozen? ⟨g+1+1,1,none⟩=false:=HR9.out.free 1;have u0:wz.cell? ⟨g+1+1,0,none⟩=some (.int .i64 0):=HR9.out.cell 0;have u1:wz.cell? ⟨g+1+1,1,none⟩=some (.int .i64 0):=HR9.out.cell 1;clear hb9 HL x0 x1)
       obtain⟨v0,v1⟩:=jk (a:=.int .i64 u') (b:=.int .i64 v') HR9.out
       refine bodyPost_ret (v:=.tuple #[.agg #[.int .i64 u',.int .i64 v'],.int .i64 0]) (by simp[results,Tryz.results132,go_sem,v0,v1]) rfl ⟨_,_,_,rfl,hin,?_⟩
       rw[HG.out]
       exact(HB9.out.setCell (p:=⟨g+1+1,0,none⟩) (by show g≤g+1+1;omega) _).setCell (p:=⟨g+1+1,1,none⟩) (by show g≤g+1+1;omega) _
theorem Jl (n:Int) (w:World):Calls Tryz.prog 174 #[.int .i64 n] w (FlQ w):=by
 obtain⟨R,N,F⟩:=ya
 have f1:=fun r k=>F .quo (.inr (.inr (.inr rfl))) 236 r 4618760256179416344 (w.drewN k)
 have f2:=fun r k=>F .mul (.inr (.inr (.inl rfl))) 236 r 4741671816366391296 (w.drewN k)
 have f3:=fun(n:Int) w=>j5 (q:=.i64) n (d:=3) (by rw[Tryz.underlying3];rfl) w
 clear F
 rcases(show n < -1000000000∨(-1000000000≤n∧n≤1000000000)∨1000000000<n by omega) with h|⟨h,h'⟩|h
 ·skip
  go_enter Tryz.func174,Tryz.ntmps174
  go_wp2_with first
   | (go_at_call 199;refine(kt _ _).mono ?_;rintro e w' ⟨r1,rfl,n1,rfl⟩)
   | (go_at_call 196;refine(y7 _ _ _).mono ?_;rintro e w' ⟨r2,rfl,n2,rfl⟩)
  go_ret
  exact⟨_,rfl,_,rfl⟩
 ·skip
  obtain⟨p,hp⟩:∃p,IntKind.i64.wrap ((1000000000-n)*(1000000000+n))=p:=⟨_,rfl⟩
  go_enter Tryz.func174,Tryz.ntmps174
  go_wp2_with first
   | (go_at_call 199;refine(kt _ _).mono ?_;rintro e w' ⟨r1,rfl,n1,rfl⟩)
   | (go_at_call 196;refine(y7 _ _ _).mono ?_;rintro e w' ⟨r2,rfl,n2,rfl⟩)
  go_ret
  exact⟨_,rfl,_,rfl⟩
 ·skip
  go_enter Tryz.func174,Tryz.ntmps174
  go_wp2_with first
   | (go_at_call 199;refine(kt _ _).mono ?_;rintro e w' ⟨r1,rfl,n1,rfl⟩)
   | (go_at_call 196;refine(y7 _ _ _).mono ?_;rintro e w' ⟨r2,rfl,n2,rfl⟩)
  go_ret
  exact⟨_,rfl,_,rfl⟩
theorem YL (a b:Int) (w:World):Calls Tryz.prog 133 #[.agg #[.int .i64 a,.int .i64 b]] w (Jo qW w):=by
 obtain⟨W1,g,hW1,HG,HX0,HX1,HB⟩:=vA w 48 #[.int .i64 a,.int .i64 b] 48 #[.int .i64 0,.int .i64 0]
 go_enter Tryz.func133,Tryz.ntmps133
 go_upto_region 1 with fail
 rw[hW1.out,HG.out]
 clear hW1
 obtain⟨x0,x1⟩:=sqc HX0
 go_upto_region 2 with(go_at_call 125;refine(zM _ _ _).mono ?_;rintro e w2 ⟨er,rfl,her,hb2⟩)
 have HX2:=Lib.hid (HX0.out.below hb2)
 have HR2:=Lib.hid (HX1.out.below hb2)
 have HB2:=Lib.hid (HB.out.trans (hb2.mono (by have:=HX1.out.lt;omega)))
 clear hb2 x0 x1 HX0 HX1 HB her
 by_cases he:er=0
 ·subst he
  go_upto_region 4 with fail
  have z0:∀w,Below w2.heap.size w2 w→w.cell? ⟨g,0,none⟩=some (.int .i64 a):=fun w hb=>(HX2.out.below hb).cell 0
  have z1:∀w,Below w2.heap.size w2 w→w.cell? ⟨g,1,none⟩=some (.int .i64 b):=fun w hb=>(HX2.out.below hb).cell 1
  have ff0:=fun x y W=>Qn x y W
  have ff1:=fun x y W=>JU x y W
  refine jr 13 (jy [(2,⟨fun v=>∃r:Nat,v = .float .f64 r,fun _ _=>True⟩),(3,⟨fun v=>∃x y,v = .agg #[.int .i64 x,.int .i64 y]∧qW x y,fun _ _=>True⟩),(8,⟨fun v=>∃r:Nat,v = .float .f64 r,fun _ _=>True⟩),(9,⟨fun v=>∃x y,v = .agg #[.int .i64 x,.int .i64 y]∧qW x y,fun _ _=>True⟩)]) (by kernel_rfl) (by kernel_rfl) ?_
  simp only[List.take_succ_cons,List.take_zero,List.drop_succ_cons,List.drop_zero]
  repeat (first|(refine jf (v:=?_) (by rfl) (by rfl) (fun w hb=>?_) ?_;rotate_left;(· go_simp<;>(repeat' apply And.intro)<;>with_reducible rfl);try simp only[pZ,Nat.reduceAdd])|(refine je (by rfl) (by rfl) ?_;try simp only[pZ,Nat.reduceAdd]))
  refine jl (f:=?_) (args:=?_) [] (by kernel_rfl) (by rfl) (by rfl) ?_ ?_ (fun w hb=>?_) (fun w hb hu=>?_) ?_;rotate_left 4;(· go_simp<;>(repeat' apply And.intro)<;>with_reducible rfl)
  ·refine(Jl _ w).mono ?_
   rintro e w' ⟨r,he,n,hw⟩
   exact⟨_,he,⟨r,rfl⟩,trivial,hw▸jg _ n⟩
  rintro v ⟨r1,rfl⟩
  try simp only[pZ,Nat.reduceAdd]
  refine jl (f:=?_) (args:=?_) [] (by kernel_rfl) (by rfl) (by rfl) ?_ ?_ (fun w hb=>?_) (fun w hb hu=>?_) ?_;rotate_left 4;(· go_simp<;>(repeat' apply And.intro)<;>with_reducible rfl)
  ·refine(jU _ w).mono ?_
   rintro e w' ⟨x,y,he,hi,hb'⟩
   exact⟨_,he,⟨x,y,rfl,hi⟩,trivial,hb'⟩
  rintro v ⟨l0,l1,rfl,hl⟩
  try simp only[pZ,Nat.reduceAdd]
  repeat (first|(refine jf (v:=?_) (by rfl) (by rfl) (fun w hb=>?_) ?_;rotate_left;(· go_simp<;>(repeat' apply And.intro)<;>with_reducible rfl);try simp only[pZ,Nat.reduceAdd])|(refine je (by rfl) (by rfl) ?_;try simp only[pZ,Nat.reduceAdd]))
  refine jl (f:=?_) (args:=?_) [] (by kernel_rfl) (by rfl) (by rfl) ?_ ?_ (fun w hb=>?_) (fun w hb hu=>?_) ?_;rotate_left 4;(· go_simp<;>(repeat' apply And.intro)<;>with_reducible rfl)
  ·refine(Jl _ w).mono ?_
   rintro e w' ⟨r,he,n,hw⟩
   exact⟨_,he,⟨r,rfl⟩,trivial,hw▸jg _ n⟩
  rintro v ⟨r2,rfl⟩
  try simp only[pZ,Nat.reduceAdd]
  refine jl (f:=?_) (args:=?_) [] (by kernel_rfl) (by rfl) (by rfl) ?_ ?_ (fun w hb=>?_) (fun w hb hu=>?_) ?_;rotate_left 4;(· go_simp<;>(repeat' apply And.intro)<;>with_reducible rfl)
  ·refine(jU _ w).mono ?_
   rintro e w' ⟨x,y,he,hi,hb'⟩
   exact⟨_,he,⟨x,y,rfl,hi⟩,trivial,hb'⟩
  rintro v ⟨r0,r1',rfl,hr⟩
  try simp only[pZ,Nat.reduceAdd]
  repeat (first|(refine jf (v:=?_) (by rfl) (by rfl) (fun w hb=>?_) ?_;rotate_left;(· go_simp<;>(repeat' apply And.intro)<;>with_reducible rfl);try simp only[pZ,Nat.reduceAdd])|(refine je (by rfl) (by rfl) ?_;try simp only[pZ,Nat.reduceAdd]))
  refine jo fun w3 hb3 hf=>?_
  any_goals (first|exact⟨_,0,0,rfl,by unfold qW;omega⟩|exact⟨_,0,rfl⟩|exact fun _ _ _ _ h=>h)
  have hin:qW (if l0 < -250000000 then -250000000 else l0) (if 250000000<r1' then 250000000 else r1'):=by
   unfold qW at *
   constructor<;>split<;>omega
  generalize (if l0 < -250000000 then -250000000 else l0)=p at *
  generalize (if 250000000<r1' then 250000000 else r1')=q at *
  have lr:=HR2.out.lt
  have HR3:=Lib.hid (HR2.out.below hb3)
  have HB3:=Lib.hid (HB2.out.trans (hb3.mono (by omega)))
  clear hf hb3 z0 z1 HX2 HR2 HB2 hl hr lr
  have q0:w3.cell? ⟨g+1,0,none⟩=some (.int .i64 0):=HR3.out.cell 0
  have q1:w3.cell? ⟨g+1,1,none⟩=some (.int .i64 0):=HR3.out.cell 1
  have qf:∀i,w3.frozen? ⟨g+1,i,none⟩=false:=fun i=>HR3.out.free i
  have ql:g+1<w3.heap.size:=HR3.out.lt
  refine wpList_step fun K hK=>?_
  rw[if_pos (by rfl)]
  go_simp
  refine hK _ _ ?_
  clear hK K
  refine wpList_step fun K hK=>?_
  rw[if_pos (by rfl)]
  go_simp
  refine hK _ _ (wpList_nil ?_)
  clear hK K q0 q1 qf ql
  obtain⟨v0,v1⟩:=jk (a:=.int .i64 p) (b:=.int .i64 q) HR3.out
  go_wp2_with fail
  refine bodyPost_ret (v:=.tuple #[.agg #[.int .i64 p,.int .i64 q],.int .i64 0]) (by simp[results,Tryz.results133,go_sem,v0,v1]) rfl ⟨_,_,_,rfl,hin,?_⟩
  rw[HG.out]
  exact(HB3.out.setCell (p:=⟨g+1,0,none⟩) (by show g≤g+1;omega) _).setCell (p:=⟨g+1,1,none⟩) (by show g≤g+1;omega) _
 ·have te:(er != 0)=true:=by rw[bne_iff_ne];exact he
  clear he
  obtain⟨q0,u0,q1,u1⟩:=sqf HR2
  go_wp2_with fail
  obtain⟨W4,h4,v0,v1,hb4⟩:=sqt HR2 HB2 (by omega) (.int .i64 0) (.int .i64 0)
  clear q0 q1 u0 u1
  rw[h4.out]
  refine bodyPost_ret (v:=.tuple #[.agg #[.int .i64 0,.int .i64 0],.int .i64 er]) (by simp[results,Tryz.results133,go_sem,v0,v1]) rfl ⟨_,_,_,rfl,by unfold qW;omega,?_⟩
  rw[HG.out]
  exact hb4
def Sp2Q (P:Int→Int→Int→Int→Prop) (w:World) (e:Ending) (w':World):Prop:=∃a b c d:Int,e = .returned (.tuple #[.agg #[.int .i64 a,.int .i64 b],.agg #[.int .i64 c,.int .i64 d]])∧P a b c d∧Below w.heap.size w w'
theorem jcU (w:World) (hT:TrigT w):Calls Tryz.prog 128 #[] w (Sp2Q (fun a b c d=>InT a b∧InT c d) w):=by
 have HT:=Lib.hid hT
 clear hT
 obtain⟨W1,g,hW1,HG,HX0,HX1,HB⟩:=vA w 48 #[.int .i64 0,.int .i64 0] 48 #[.int .i64 0,.int .i64 0]
 go_enter Tryz.func128,Tryz.ntmps128
 go_upto_region 1 with fail
 rw[hW1.out,HG.out]
 clear hW1
 have HT1:=Lib.hid (HT.out.next (HG.out▸HB.out))
 go_upto_region 2 with(go_at_call 138;refine(Xl _ _ HT1.out (by decide) (by decide)).mono ?_;rintro e w2 ⟨a,b,er,rfl,h1,hb2⟩)
 have hb3:=jb hb2 (ja w2 (Obj.cells #[.int .i64 a,.int .i64 b] 48))
 have lg:=HX1.out.lt
 have HR0:=Lib.hid (HX0.out.below hb3)
 have HR1:=Lib.hid (HX1.out.below hb3)
 have HS1:=Lib.hid (Box.new w2 48 #[.int .i64 a,.int .i64 b])
 have HT2:=Lib.hid (HT1.out.next hb3)
 have HB2:=Lib.hid (HB.out.trans (hb3.mono (by omega)))
 have l2:=hb2.size
 clear hb2 hb3 HX0 HX1 HB HT1 HT
 generalize w2.alloc (Obj.cells #[.int .i64 a,.int .i64 b] 48)=w3 at *
 generalize w2.heap.size=g2 at *
 have hg2:g+1<g2:=by omega
 clear l2 lg
 have lg:=HS1.out.lt
 go_upto_region 3 with(go_at_call 139;refine(XG _ _ HT2.out (by decide) (by decide)).mono ?_;rintro e w4 ⟨c,d,er2,rfl,h2,hb4⟩)
 have hb5:=jb hb4 (ja w4 (Obj.cells #[.int .i64 c,.int .i64 d] 48))
 have HQ0:=Lib.hid (HR0.out.below hb5)
 have HQ1:=Lib.hid (HR1.out.below hb5)
 have HS2:=Lib.hid (HS1.out.below hb5)
 have HS3:=Lib.hid (Box.new w4 48 #[.int .i64 c,.int .i64 d])
 have HB3:=Lib.hid (HB2.out.trans (hb5.mono (by omega)))
 have l2:=hb4.size
 clear hb4 hb5 HR0 HR1 HS1 HB2 HT2
 generalize w4.alloc (Obj.cells #[.int .i64 c,.int .i64 d] 48)=w5 at *
 generalize w4.heap.size=g3 at *
 have hg3:g2<g3:=by omega
 clear l2 lg
 have HLS:=Lib.hid h1
 have HLS2:=Lib.hid h2
 clear h1 h2
 have x0:w5.cell? ⟨g2,0,none⟩=some (.int .i64 a):=HS2.out.cell 0
 have x1:w5.cell? ⟨g2,1,none⟩=some (.int .i64 b):=HS2.out.cell 1
 have y0:w5.cell? ⟨g3,0,none⟩=some (.int .i64 c):=HS3.out.cell 0
 have y1:w5.cell? ⟨g3,1,none⟩=some (.int .i64 d):=HS3.out.cell 1
 have p0:w5.cell? ⟨g,0,none⟩=some (.int .i64 0):=HQ0.out.cell 0
 have p1:w5.cell? ⟨g,1,none⟩=some (.int .i64 0):=HQ0.out.cell 1
 have p2:w5.frozen? ⟨g,0,none⟩=false:=HQ0.out.free 0
 have p3:w5.frozen? ⟨g,1,none⟩=false:=HQ0.out.free 1
 have q0:w5.cell? ⟨g+1,0,none⟩=some (.int .i64 0):=HQ1.out.cell 0
 have q1:w5.cell? ⟨g+1,1,none⟩=some (.int .i64 0):=HQ1.out.cell 1
 have q2:w5.frozen? ⟨g+1,0,none⟩=false:=HQ1.out.free 0
 have q3:w5.frozen? ⟨g+1,1,none⟩=false:=HQ1.out.free 1
 go_region
 clear x0 x1 y0 y1 p0 p1 p2 p3 q0 q1 q2 q3 HS2 HS3
 have HF0:=Lib.hid ((((HQ0.out.set_ 0 (.int .i64 a)).set_ 1 (.int .i64 b)).far (p:=⟨g+1,0,none⟩) (by show g≠g+1;omega) (.int .i64 c)).far (p:=⟨g+1,1,none⟩) (by show g≠g+1;omega) (.int .i64 d))
 have HF1:=Lib.hid ((((HQ1.out.far (p:=⟨g,0,none⟩) (by show g+1≠g;omega) (.int .i64 a)).far (p:=⟨g,1,none⟩) (by show g+1≠g;omega) (.int .i64 b)).set_ 0 (.int .i64 c)).set_ 1 (.int .i64 d))
 have HFB:=Lib.hid (jd ((((HB3.out.setCell (p:=⟨g,0,none⟩) (by show g≤g;omega) (.int .i64 a)).setCell (p:=⟨g,1,none⟩) (by show g≤g;omega) (.int .i64 b)).setCell (p:=⟨g+1,0,none⟩) (by show g≤g+1;omega) (.int .i64 c)).setCell (p:=⟨g+1,1,none⟩) (by show g≤g+1;omega) (.int .i64 d)) 1)
 have HF0':=Lib.hid (HF0.out.drewN 1)
 have HF1':=Lib.hid (HF1.out.drewN 1)
 clear HF0 HF1 HQ0 HQ1 HB3
 change Exit.then _ _ Exit.normal _ (World.drewN _ 1)
 generalize ((((w5.setCell ⟨g,0,none⟩ (.int .i64 a)).setCell ⟨g,1,none⟩ (.int .i64 b)).setCell ⟨g+1,0,none⟩ (.int .i64 c)).setCell ⟨g+1,1,none⟩ (.int .i64 d)).drewN 1=w6 at *
 have v0:w6.cell? ⟨g,0,none⟩=some (.int .i64 a):=HF0'.out.cell 0
 have v1:w6.cell? ⟨g,1,none⟩=some (.int .i64 b):=HF0'.out.cell 1
 have v2:w6.cell? ⟨g+1,0,none⟩=some (.int .i64 c):=HF1'.out.cell 0
 have v3:w6.cell? ⟨g+1,1,none⟩=some (.int .i64 d):=HF1'.out.cell 1
 go_wp2_with fail
 refine bodyPost_ret (v:=.tuple #[.agg #[.int .i64 a,.int .i64 b],.agg #[.int .i64 c,.int .i64 d]]) (by simp[results,Tryz.results128,go_sem,v0,v1,v2,v3]) rfl ⟨_,_,_,_,rfl,⟨HLS.out,HLS2.out⟩,?_⟩
 rw[HG.out]
 exact HFB.out
def Sp3Q (w:World) (e:Ending) (w':World):Prop:=∃a b c d er:Int,e = .returned (.tuple #[.agg #[.int .i64 a,.int .i64 b],.agg #[.int .i64 c,.int .i64 d],.int .i64 er])∧(qW a b∧qW c d)∧Below w.heap.size w w'
theorem NormP.i64 {a b:Int} (h:NormP a b):qW a b:=by unfold NormP at h;unfold qW;omega
theorem InT.i64 {a b:Int} (h:InT a b):qW a b:=by unfold InT at h;unfold qW;omega
theorem Z5 (a b:Int) (w:World) (hT:TrigT w):Calls Tryz.prog 97 #[.agg #[.int .i64 a,.int .i64 b],.agg #[.int .i64 0,.int .i64 0]] w (Sp3Q w):=by
 have HT:=Lib.hid hT
 clear hT
 have HI2:=Lib.hid (fun j j0 j1=>YZ a b 0 0 j j0 j1)
 obtain⟨W1,g,hW1,HG,HX0,HX1,HX2,HX3,HB⟩:=jez w 48 #[.int .i64 a,.int .i64 b] 48 #[.int .i64 0,.int .i64 0] 48 #[.int .i64 0,.int .i64 0] 48 #[.int .i64 0,.int .i64 0]
 go_enter Tryz.func97,Tryz.ntmps97
 go_upto_region 1 with fail
 rw[hW1.out,HG.out]
 clear hW1
 have HT1:=Lib.hid (HT.out.next (HG.out▸HB.out))
 clear HT
 obtain⟨x0,x1⟩:=sqc HX0
 obtain⟨y0,y1⟩:=sqc HX1
 go_wp2_with fail
 clear x0 x1 y0 y1
 go_loopw [31] (fun iv wr=>∃j:Int,0≤j∧j≤2∧iv = .int .i64 j∧Hid (Below W1.heap.size W1 wr)) (fun iv _=>2-(intOf iv).toNat)
 case atStart=>exact⟨0,by omega,by omega,rfl,Below.refl _ _⟩
 case round =>
  obtain⟨j,j0,j2,rfl,HBr⟩:=hrel
  by_cases hlt:j<2
  ·have tl:decide (j<2)=true:=decide_eq_true hlt
   obtain⟨x,y,hix⟩:=HI2.out j j0 hlt
   have HBn:=Lib.hid (jb HBr.out (ja wr (Obj.cells #[.int .i64 x,.int .i64 y] 48)))
   clear HBr
   go_upto_region 5 with(go_at_call 125;refine(zM _ _ _).mono ?_;rintro e w2 ⟨er,rfl,her,hb2⟩)
   have HB2:=Lib.hid (jb HBn.out hb2)
   clear HBn her hb2 hix
   by_cases he:er=0
   ·subst he
    go_wp2_with fail
    go_roundw
    case rel=>exact⟨j+1,by omega,by omega,by go_num,HB2⟩
    case measure=>simp[intOf];omega
   ·have te:(er != 0)=true:=by rw[bne_iff_ne];exact he
    have HR2:=Lib.hid (HX2.out.below HB2.out)
    have HR3:=Lib.hid (HX3.out.below HB2.out)
    have HBB:=Lib.hid (HB.out.trans (HB2.out.mono (by have:=HX2.out.lt;omega)))
    clear he HX0 HX1 HX2 HX3 HB HT1
    have p0:w2.cell? ⟨g+1+1,0,none⟩=some (.int .i64 0):=HR2.out.cell 0
    have pf0:w2.frozen? ⟨g+1+1,0,none⟩=false:=HR2.out.free 0
    have p1:w2.cell? ⟨g+1+1,1,none⟩=some (.int .i64 0):=HR2.out.cell 1
    have pf1:w2.frozen? ⟨g+1+1,1,none⟩=false:=HR2.out.free 1
    have q0:w2.cell? ⟨g+1+1+1,0,none⟩=some (.int .i64 0):=HR3.out.cell 0
    have qf0:w2.frozen? ⟨g+1+1+1,0,none⟩=false:=HR3.out.free 0
    have q1:w2.cell? ⟨g+1+1+1,1,none⟩=some (.int .i64 0):=HR3.out.cell 1
    have qf1:w2.frozen? ⟨g+1+1+1,1,none⟩=false:=HR3.out.free 1
    go_wp2_with fail
    have HF0:=sqr (sqs HR2 (.int .i64 (0)) (.int .i64 (0))) (show g+1+1≠g+1+1+1 by omega) (.int .i64 (0)) (.int .i64 (0))
    have HF1:=sqs (sqr HR3 (show g+1+1+1≠g+1+1 by omega) (.int .i64 (0)) (.int .i64 (0))) (.int .i64 (0)) (.int .i64 (0))
    have HFB:=sqb (sqb HBB (show g≤g+1+1 by omega) (.int .i64 (0)) (.int .i64 (0))) (show g≤g+1+1+1 by omega) (.int .i64 (0)) (.int .i64 (0))
    generalize ((((w2.setCell ⟨g+1+1,0,none⟩ (.int .i64 (0))).setCell ⟨g+1+1,1,none⟩ (.int .i64 (0))).setCell ⟨g+1+1+1,0,none⟩ (.int .i64 (0))).setCell ⟨g+1+1+1,1,none⟩ (.int .i64 (0)))=w6 at *
    obtain⟨v0,v1⟩:=sqc HF0
    obtain⟨v2,v3⟩:=sqc HF1
    refine bodyPost_ret (v:=.tuple #[.agg #[.int .i64 (0),.int .i64 (0)],.agg #[.int .i64 (0),.int .i64 (0)],.int .i64 er]) (by simp[results,Tryz.results97,go_sem,v0,v1,v2,v3]) rfl ⟨_,_,_,_,_,rfl,by unfold qW;omega,?_⟩
    rw[HG.out]
    exact HFB.out
  ·have tl:decide (j<2)=false:=decide_eq_false hlt
   clear hlt j0 j2
   have HY0:=Lib.hid (HX0.out.below HBr.out)
   have HY1:=Lib.hid (HX1.out.below HBr.out)
   have HY2:=Lib.hid (HX2.out.below HBr.out)
   have HY3:=Lib.hid (HX3.out.below HBr.out)
   have HYT:=Lib.hid (HT1.out.next HBr.out)
   have HBB:=Lib.hid (HB.out.trans (HBr.out.mono (by have:=HX2.out.lt;omega)))
   clear HX0 HX1 HX2 HX3 HB HBr HI2 HT1
   have y0:wr.cell? ⟨g+1,0,none⟩=some (.int .i64 0):=HY1.out.cell 0
   have y1:wr.cell? ⟨g+1,1,none⟩=some (.int .i64 0):=HY1.out.cell 1
   go_upto_region 10 with fail
   clear y0 y1
   obtain⟨flon0,flon1⟩:=sqc HY0
   go_upto_region 11 with(go_at_call 126;refine(zg _ _ _ HYT.out).mono ?_;rintro e wc1 ⟨u1,v1,er1,rfl,hisL,hb1⟩)
   obtain⟨wn1,gn1,hW,hg,HsL_1,ha1,ls1⟩:=sqn hb1 48 #[.int .i64 u1,.int .i64 v1]
   have lg1:=HY3.out.lt
   have Hlon_1:=sqk HY0 ha1
   have Hlat_1:=sqk HY1 ha1
   have Hr0_1:=sqk HY2 ha1
   have Hr1_1:=sqk HY3 ha1
   have HT_1:=Lib.hid (HYT.out.next ha1)
   have HB_1:=Lib.hid (HBB.out.trans (ha1.mono (by omega)))
   replace hisL:=Lib.hid hisL
   rw[hW.out,hg.out]
   have hg1:g+1+1+1<gn1:=by omega
   clear hW hg lg1 ls1 flon0 flon1 hb1 ha1 HY0 HY1 HY2 HY3 HBB HYT
   obtain⟨flon0,flon1⟩:=sqc Hlon_1
   go_upto_region 12 with(go_at_call 127;refine(xB _ _ _ HT_1.out).mono ?_;rintro e wc2 ⟨u2,v2,er2,rfl,hicL,hb2⟩)
   obtain⟨wn2,gn2,hW,hg,HcL_2,ha2,ls2⟩:=sqn hb2 48 #[.int .i64 u2,.int .i64 v2]
   have lg2:=Hr1_1.out.lt
   have Hlat_2:=sqk Hlat_1 ha2
   have Hr0_2:=sqk Hr0_1 ha2
   have Hr1_2:=sqk Hr1_1 ha2
   have HsL_2:=sqk HsL_1 ha2
   have HT_2:=Lib.hid (HT_1.out.next ha2)
   have HB_2:=Lib.hid (HB_1.out.trans (ha2.mono (by omega)))
   replace hicL:=Lib.hid hicL
   rw[hW.out,hg.out]
   have hg2:g+1+1+1<gn2:=by omega
   clear hW hg lg2 ls2 flon0 flon1 hb2 ha2 Hlon_1 Hlat_1 Hr0_1 Hr1_1 HsL_1 HB_1 HT_1
   obtain⟨flat0,flat1⟩:=sqc Hlat_2
   go_upto_region 13 with(go_at_call 126;refine(zg _ _ _ HT_2.out).mono ?_;rintro e wc3 ⟨u3,v3,er3,rfl,hisB,hb3⟩)
   obtain⟨wn3,gn3,hW,hg,HsB_3,ha3,ls3⟩:=sqn hb3 48 #[.int .i64 u3,.int .i64 v3]
   have lg3:=Hr1_2.out.lt
   have Hlat_3:=sqk Hlat_2 ha3
   have Hr0_3:=sqk Hr0_2 ha3
   have Hr1_3:=sqk Hr1_2 ha3
   have HsL_3:=sqk HsL_2 ha3
   have HcL_3:=sqk HcL_2 ha3
   have HT_3:=Lib.hid (HT_2.out.next ha3)
   have HB_3:=Lib.hid (HB_2.out.trans (ha3.mono (by omega)))
   replace hisB:=Lib.hid hisB
   rw[hW.out,hg.out]
   have hg3:g+1+1+1<gn3:=by omega
   clear hW hg lg3 ls3 flat0 flat1 hb3 ha3 Hlat_2 Hr0_2 Hr1_2 HsL_2 HcL_2 HB_2 HT_2
   obtain⟨flat0,flat1⟩:=sqc Hlat_3
   go_upto_region 14 with(go_at_call 127;refine(xB _ _ _ HT_3.out).mono ?_;rintro e wc4 ⟨u4,v4,er4,rfl,hicB,hb4⟩)
   obtain⟨wn4,gn4,hW,hg,HcB_4,ha4,ls4⟩:=sqn hb4 48 #[.int .i64 u4,.int .i64 v4]
   have lg4:=Hr1_3.out.lt
   have Hr0_4:=sqk Hr0_3 ha4
   have Hr1_4:=sqk Hr1_3 ha4
   have HsL_4:=sqk HsL_3 ha4
   have HcL_4:=sqk HcL_3 ha4
   have HsB_4:=sqk HsB_3 ha4
   have HT_4:=Lib.hid (HT_3.out.next ha4)
   have HB_4:=Lib.hid (HB_3.out.trans (ha4.mono (by omega)))
   replace hicB:=Lib.hid hicB
   rw[hW.out,hg.out]
   have hg4:g+1+1+1<gn4:=by omega
   clear hW hg lg4 ls4 flat0 flat1 hb4 ha4 Hlat_3 Hr0_3 Hr1_3 HsL_3 HcL_3 HsB_3 HB_3 HT_3
   go_upto_region 15 with(go_at_call 128;refine(jcU _ HT_4.out).mono ?_;rintro e wc5 ⟨u5,v5,x5,y5,rfl,⟨hisE,hicE⟩,hb5⟩)
   obtain⟨wn5,gn5,hW,hg,HsE_5,HcE_5,ha5,ls5⟩:=sqm hb5 48 #[.int .i64 u5,.int .i64 v5] #[.int .i64 x5,.int .i64 y5]
   have lg5:=Hr1_4.out.lt
   have Hr0_5:=sqk Hr0_4 ha5
   have Hr1_5:=sqk Hr1_4 ha5
   have HsL_5:=sqk HsL_4 ha5
   have HcL_5:=sqk HcL_4 ha5
   have HsB_5:=sqk HsB_4 ha5
   have HcB_5:=sqk HcB_4 ha5
   have HT_5:=Lib.hid (HT_4.out.next ha5)
   have HB_5:=Lib.hid (HB_4.out.trans (ha5.mono (by omega)))
   replace hisE:=Lib.hid hisE
   replace hicE:=Lib.hid hicE
   rw[hW.out,hg.out]
   have hg5:g+1+1+1<gn5:=by omega
   clear hW hg lg5 ls5  hb5 ha5 Hr0_4 Hr1_4 HsL_4 HcL_4 HsB_4 HcB_4 HB_4 HT_4
   obtain⟨fcB0,fcB1⟩:=sqc HcB_5
   obtain⟨fsL0,fsL1⟩:=sqc HsL_5
   go_upto_region 16 with(go_at_call 129;refine(qh _ _ _ _ _ hicB.out hisL.out).mono ?_;rintro e wc6 ⟨u6,v6,rfl,hiac,hb6⟩)
   obtain⟨wn6,gn6,hW,hg,Hac_6,ha6,ls6⟩:=sqn hb6 48 #[.int .i64 u6,.int .i64 v6]
   have lg6:=Hr1_5.out.lt
   have Hr0_6:=sqk Hr0_5 ha6
   have Hr1_6:=sqk Hr1_5 ha6
   have HcL_6:=sqk HcL_5 ha6
   have HsB_6:=sqk HsB_5 ha6
   have HcB_6:=sqk HcB_5 ha6
   have HsE_6:=sqk HsE_5 ha6
   have HcE_6:=sqk HcE_5 ha6
   have HT_6:=Lib.hid (HT_5.out.next ha6)
   have HB_6:=Lib.hid (HB_5.out.trans (ha6.mono (by omega)))
   replace hiac:=Lib.hid hiac
   rw[hW.out,hg.out]
   have hg6:g+1+1+1<gn6:=by omega
   clear hW hg lg6 ls6 fcB0 fcB1 fsL0 fsL1 hb6 ha6 Hr0_5 Hr1_5 HsL_5 HcL_5 HsB_5 HcB_5 HsE_5 HcE_5 HB_5 HT_5
   obtain⟨fcB0,fcB1⟩:=sqc HcB_6
   obtain⟨fcL0,fcL1⟩:=sqc HcL_6
   go_upto_region 17 with(go_at_call 129;refine(qh _ _ _ _ _ hicB.out hicL.out).mono ?_;rintro e wc7 ⟨u7,v7,rfl,hixx,hb7⟩)
   obtain⟨wn7,gn7,hW,hg,Hxx_7,ha7,ls7⟩:=sqn hb7 48 #[.int .i64 u7,.int .i64 v7]
   have lg7:=Hr1_6.out.lt
   have Hr0_7:=sqk Hr0_6 ha7
   have Hr1_7:=sqk Hr1_6 ha7
   have HsB_7:=sqk HsB_6 ha7
   have HsE_7:=sqk HsE_6 ha7
   have HcE_7:=sqk HcE_6 ha7
   have Hac_7:=sqk Hac_6 ha7
   have HT_7:=Lib.hid (HT_6.out.next ha7)
   have HB_7:=Lib.hid (HB_6.out.trans (ha7.mono (by omega)))
   replace hixx:=Lib.hid hixx
   rw[hW.out,hg.out]
   have hg7:g+1+1+1<gn7:=by omega
   clear hW hg lg7 ls7 fcB0 fcB1 fcL0 fcL1 hb7 ha7 Hr0_6 Hr1_6 HcL_6 HsB_6 HcB_6 HsE_6 HcE_6 Hac_6 HB_6 HT_6
   obtain⟨zac0,zac1⟩:=sqz Hac_7
   obtain⟨zcE0,zcE1⟩:=sqz HcE_7
   obtain⟨zsB0,zsB1⟩:=sqz HsB_7
   obtain⟨zsE0,zsE1⟩:=sqz HsE_7
   refine jr 8 (jy [(2,⟨fun v=>∃x y,v = .agg #[.int .i64 x,.int .i64 y]∧InT x y,fun _ _=>True⟩),(5,⟨fun v=>∃x y,v = .agg #[.int .i64 x,.int .i64 y]∧InT x y,fun _ _=>True⟩),(6,⟨fun v=>∃x y,v = .agg #[.int .i64 x,.int .i64 y]∧qW x y,fun _ _=>True⟩)]) (by kernel_rfl) (by kernel_rfl) ?_
   simp only[List.take_succ_cons,List.take_zero,List.drop_succ_cons,List.drop_zero]
   repeat (first|(refine jf (v:=?_) (by rfl) (by rfl) (fun w hb=>?_) ?_;rotate_left;(· go_simp<;>(repeat' apply And.intro)<;>with_reducible rfl);try simp only[pZ,Nat.reduceAdd])|(refine je (by rfl) (by rfl) ?_;try simp only[pZ,Nat.reduceAdd]))
   refine jl (f:=?_) (args:=?_) [] (by kernel_rfl) (by rfl) (by rfl) ?_ ?_ (fun w hb=>?_) (fun w hb hu=>?_) ?_;rotate_left 4;(· go_simp<;>(repeat' apply And.intro)<;>with_reducible rfl)
   ·refine(qh _ _ _ _ w hiac.out hicE.out).mono ?_
    rintro e w' ⟨x,y,he,hi,hb'⟩
    exact⟨_,he,⟨x,y,rfl,hi⟩,trivial,hb'⟩
   rintro v ⟨p0_8,q0_8,rfl,hf0_8⟩
   try simp only[pZ,Nat.reduceAdd]
   repeat (first|(refine jf (v:=?_) (by rfl) (by rfl) (fun w hb=>?_) ?_;rotate_left;(· go_simp<;>(repeat' apply And.intro)<;>with_reducible rfl);try simp only[pZ,Nat.reduceAdd])|(refine je (by rfl) (by rfl) ?_;try simp only[pZ,Nat.reduceAdd]))
   refine jl (f:=?_) (args:=?_) [] (by kernel_rfl) (by rfl) (by rfl) ?_ ?_ (fun w hb=>?_) (fun w hb hu=>?_) ?_;rotate_left 4;(· go_simp<;>(repeat' apply And.intro)<;>with_reducible rfl)
   ·refine(qh _ _ _ _ w hisB.out hisE.out).mono ?_
    rintro e w' ⟨x,y,he,hi,hb'⟩
    exact⟨_,he,⟨x,y,rfl,hi⟩,trivial,hb'⟩
   rintro v ⟨p1_8,q1_8,rfl,hf1_8⟩
   try simp only[pZ,Nat.reduceAdd]
   repeat (first|(refine jf (v:=?_) (by rfl) (by rfl) (fun w hb=>?_) ?_;rotate_left;(· go_simp<;>(repeat' apply And.intro)<;>with_reducible rfl);try simp only[pZ,Nat.reduceAdd])|(refine je (by rfl) (by rfl) ?_;try simp only[pZ,Nat.reduceAdd]))
   refine jl (f:=?_) (args:=?_) [] (by kernel_rfl) (by rfl) (by rfl) ?_ ?_ (fun w hb=>?_) (fun w hb hu=>?_) ?_;rotate_left 4;(· go_simp<;>(repeat' apply And.intro)<;>with_reducible rfl)
   ·refine(VU _ _ _ _ w hf0_8 hf1_8).mono ?_
    rintro e w' ⟨x,y,he,hi,hb'⟩
    exact⟨_,he,⟨x,y,rfl,hi⟩,trivial,hb'⟩
   rintro v ⟨p2_8,q2_8,rfl,hf2_8⟩
   try simp only[pZ,Nat.reduceAdd]
   repeat (first|(refine jf (v:=?_) (by rfl) (by rfl) (fun w hb=>?_) ?_;rotate_left;(· go_simp<;>(repeat' apply And.intro)<;>with_reducible rfl);try simp only[pZ,Nat.reduceAdd])|(refine je (by rfl) (by rfl) ?_;try simp only[pZ,Nat.reduceAdd]))
   refine zH (t:=?_) (cs:=?_) (by rfl) (by rfl) (fun w hb=>?_) (fun gn8 hgn8=>?_);rotate_left 2;(· go_simp<;>(repeat' apply And.intro)<;>with_reducible rfl);try simp only[pZ,Nat.reduceAdd]
   try simp only[pZ,Nat.reduceAdd]
   refine jo fun wf8 hbf8 hf=>?_
   any_goals (first|exact⟨_,0,0,rfl,by(first|unfold InT|unfold qW);omega⟩|exact fun _ _ _ _ h=>h)
   have HN8:Hid (Box wf8 gn8 48 #[.int .i64 0,.int .i64 0]):=Lib.hid hf.1
   have lg8:=Hr1_7.out.lt
   have Kr0_8:=sqk Hr0_7 hbf8
   have klr0:=Hr0_7.out.lt
   have Kr1_8:=sqk Hr1_7 hbf8
   have klr1:=Hr1_7.out.lt
   have KsB_8:=sqk HsB_7 hbf8
   have klsB:=HsB_7.out.lt
   have KsE_8:=sqk HsE_7 hbf8
   have klsE:=HsE_7.out.lt
   have KcE_8:=sqk HcE_7 hbf8
   have klcE:=HcE_7.out.lt
   have Kac_8:=sqk Hac_7 hbf8
   have klac:=Hac_7.out.lt
   have Kxx_8:=sqk Hxx_7 hbf8
   have klxx:=Hxx_7.out.lt
   have KT_8:=Lib.hid (HT_7.out.next hbf8)
   have KB_8:=Lib.hid (HB_7.out.trans (hbf8.mono (by omega)))
   obtain⟨e0,e1,ef,el⟩:=sqe HN8
   clear hf hbf8 zac0 zac1 zcE0 zcE1 zsB0 zsB1 zsE0 zsE1 Hr0_7 Hr1_7 HsB_7 HsE_7 HcE_7 Hac_7 Hxx_7 HB_7 HT_7
   refine wpList_step fun K hK=>?_
   rw[if_pos (by rfl)]
   go_simp
   refine hK _ _ (wpList_nil ?_)
   clear hK K e0 e1 ef el
   have Hr0_8:=sqr Kr0_8 (show g+1+1≠gn8 by omega) (.int .i64 p2_8) (.int .i64 q2_8)
   have Hr1_8:=sqr Kr1_8 (show g+1+1+1≠gn8 by omega) (.int .i64 p2_8) (.int .i64 q2_8)
   have HsB_8:=sqr KsB_8 (show gn3≠gn8 by omega) (.int .i64 p2_8) (.int .i64 q2_8)
   have HsE_8:=sqr KsE_8 (show gn5≠gn8 by omega) (.int .i64 p2_8) (.int .i64 q2_8)
   have HcE_8:=sqr KcE_8 (show gn5+1≠gn8 by omega) (.int .i64 p2_8) (.int .i64 q2_8)
   have Hac_8:=sqr Kac_8 (show gn6≠gn8 by omega) (.int .i64 p2_8) (.int .i64 q2_8)
   have Hxx_8:=sqr Kxx_8 (show gn7≠gn8 by omega) (.int .i64 p2_8) (.int .i64 q2_8)
   have Hyy_8:=sqs HN8 (.int .i64 p2_8) (.int .i64 q2_8)
   have HB_8:=sqb KB_8 (show g≤gn8 by omega) (.int .i64 p2_8) (.int .i64 q2_8)
   clear klr0 klr1 klsB klsE klcE klac klxx
   replace hf2_8:=Lib.hid hf2_8
   clear hf0_8 hf1_8 HN8 KB_8 Kr0_8 Kr1_8 KsB_8 KsE_8 KcE_8 Kac_8 Kxx_8 KT_8
   generalize ((wf8.setCell ⟨gn8,0,none⟩ (.int .i64 p2_8)).setCell ⟨gn8,1,none⟩ (.int .i64 q2_8))=wn8 at *
   have hg8:g+1+1+1<gn8:=by omega
   clear lg8
   go_upto_region 18 with fail
   obtain⟨zac0,zac1⟩:=sqz Hac_8
   obtain⟨zsE0,zsE1⟩:=sqz HsE_8
   obtain⟨zsB0,zsB1⟩:=sqz HsB_8
   obtain⟨zcE0,zcE1⟩:=sqz HcE_8
   refine jr 8 (jy [(2,⟨fun v=>∃x y,v = .agg #[.int .i64 x,.int .i64 y]∧InT x y,fun _ _=>True⟩),(5,⟨fun v=>∃x y,v = .agg #[.int .i64 x,.int .i64 y]∧InT x y,fun _ _=>True⟩),(6,⟨fun v=>∃x y,v = .agg #[.int .i64 x,.int .i64 y]∧qW x y,fun _ _=>True⟩)]) (by kernel_rfl) (by kernel_rfl) ?_
   simp only[List.take_succ_cons,List.take_zero,List.drop_succ_cons,List.drop_zero]
   repeat (first|(refine jf (v:=?_) (by rfl) (by rfl) (fun w hb=>?_) ?_;rotate_left;(· go_simp<;>(repeat' apply And.intro)<;>with_reducible rfl);try simp only[pZ,Nat.reduceAdd])|(refine je (by rfl) (by rfl) ?_;try simp only[pZ,Nat.reduceAdd]))
   refine jl (f:=?_) (args:=?_) [] (by kernel_rfl) (by rfl) (by rfl) ?_ ?_ (fun w hb=>?_) (fun w hb hu=>?_) ?_;rotate_left 4;(· go_simp<;>(repeat' apply And.intro)<;>with_reducible rfl)
   ·refine(qh _ _ _ _ w hiac.out hisE.out).mono ?_
    rintro e w' ⟨x,y,he,hi,hb'⟩
    exact⟨_,he,⟨x,y,rfl,hi⟩,trivial,hb'⟩
   rintro v ⟨p0_9,q0_9,rfl,hf0_9⟩
   try simp only[pZ,Nat.reduceAdd]
   repeat (first|(refine jf (v:=?_) (by rfl) (by rfl) (fun w hb=>?_) ?_;rotate_left;(· go_simp<;>(repeat' apply And.intro)<;>with_reducible rfl);try simp only[pZ,Nat.reduceAdd])|(refine je (by rfl) (by rfl) ?_;try simp only[pZ,Nat.reduceAdd]))
   refine jl (f:=?_) (args:=?_) [] (by kernel_rfl) (by rfl) (by rfl) ?_ ?_ (fun w hb=>?_) (fun w hb hu=>?_) ?_;rotate_left 4;(· go_simp<;>(repeat' apply And.intro)<;>with_reducible rfl)
   ·refine(qh _ _ _ _ w hisB.out hicE.out).mono ?_
    rintro e w' ⟨x,y,he,hi,hb'⟩
    exact⟨_,he,⟨x,y,rfl,hi⟩,trivial,hb'⟩
   rintro v ⟨p1_9,q1_9,rfl,hf1_9⟩
   try simp only[pZ,Nat.reduceAdd]
   repeat (first|(refine jf (v:=?_) (by rfl) (by rfl) (fun w hb=>?_) ?_;rotate_left;(· go_simp<;>(repeat' apply And.intro)<;>with_reducible rfl);try simp only[pZ,Nat.reduceAdd])|(refine je (by rfl) (by rfl) ?_;try simp only[pZ,Nat.reduceAdd]))
   refine jl (f:=?_) (args:=?_) [] (by kernel_rfl) (by rfl) (by rfl) ?_ ?_ (fun w hb=>?_) (fun w hb hu=>?_) ?_;rotate_left 4;(· go_simp<;>(repeat' apply And.intro)<;>with_reducible rfl)
   ·refine(X6 _ _ _ _ w hf0_9 hf1_9).mono ?_
    rintro e w' ⟨x,y,he,hi,hb'⟩
    exact⟨_,he,⟨x,y,rfl,hi⟩,trivial,hb'⟩
   rintro v ⟨p2_9,q2_9,rfl,hf2_9⟩
   try simp only[pZ,Nat.reduceAdd]
   repeat (first|(refine jf (v:=?_) (by rfl) (by rfl) (fun w hb=>?_) ?_;rotate_left;(· go_simp<;>(repeat' apply And.intro)<;>with_reducible rfl);try simp only[pZ,Nat.reduceAdd])|(refine je (by rfl) (by rfl) ?_;try simp only[pZ,Nat.reduceAdd]))
   refine zH (t:=?_) (cs:=?_) (by rfl) (by rfl) (fun w hb=>?_) (fun gn9 hgn9=>?_);rotate_left 2;(· go_simp<;>(repeat' apply And.intro)<;>with_reducible rfl);try simp only[pZ,Nat.reduceAdd]
   try simp only[pZ,Nat.reduceAdd]
   refine jo fun wf9 hbf9 hf=>?_
   any_goals (first|exact⟨_,0,0,rfl,by(first|unfold InT|unfold qW);omega⟩|exact fun _ _ _ _ h=>h)
   have HN9:Hid (Box wf9 gn9 48 #[.int .i64 0,.int .i64 0]):=Lib.hid hf.1
   have lg9:=Hr1_8.out.lt
   have Kr0_9:=sqk Hr0_8 hbf9
   have klr0:=Hr0_8.out.lt
   have Kr1_9:=sqk Hr1_8 hbf9
   have klr1:=Hr1_8.out.lt
   have Kxx_9:=sqk Hxx_8 hbf9
   have klxx:=Hxx_8.out.lt
   have Kyy_9:=sqk Hyy_8 hbf9
   have klyy:=Hyy_8.out.lt
   have KB_9:=Lib.hid (HB_8.out.trans (hbf9.mono (by omega)))
   obtain⟨e0,e1,ef,el⟩:=sqe HN9
   clear hf hbf9 zac0 zac1 zsE0 zsE1 zsB0 zsB1 zcE0 zcE1 Hr0_8 Hr1_8 HsB_8 HsE_8 HcE_8 Hac_8 Hxx_8 Hyy_8 HB_8
   refine wpList_step fun K hK=>?_
   rw[if_pos (by rfl)]
   go_simp
   refine hK _ _ (wpList_nil ?_)
   clear hK K e0 e1 ef el
   have Hr0_9:=sqr Kr0_9 (show g+1+1≠gn9 by omega) (.int .i64 p2_9) (.int .i64 q2_9)
   have Hr1_9:=sqr Kr1_9 (show g+1+1+1≠gn9 by omega) (.int .i64 p2_9) (.int .i64 q2_9)
   have Hxx_9:=sqr Kxx_9 (show gn7≠gn9 by omega) (.int .i64 p2_9) (.int .i64 q2_9)
   have Hyy_9:=sqr Kyy_9 (show gn8≠gn9 by omega) (.int .i64 p2_9) (.int .i64 q2_9)
   have Hzz_9:=sqs HN9 (.int .i64 p2_9) (.int .i64 q2_9)
   have HB_9:=sqb KB_9 (show g≤gn9 by omega) (.int .i64 p2_9) (.int .i64 q2_9)
   clear klr0 klr1 klxx klyy
   replace hf2_9:=Lib.hid hf2_9
   clear hf0_9 hf1_9 HN9 KB_9 Kr0_9 Kr1_9 Kxx_9 Kyy_9
   generalize ((wf9.setCell ⟨gn9,0,none⟩ (.int .i64 p2_9)).setCell ⟨gn9,1,none⟩ (.int .i64 q2_9))=wn9 at *
   have hg9:g+1+1+1<gn9:=by omega
   clear lg9
   obtain⟨fyy0,fyy1⟩:=sqc Hyy_9
   obtain⟨fxx0,fxx1⟩:=sqc Hxx_9
   go_upto_region 20 with(go_at_call 132;refine(jek _ _ _ _ _).mono ?_;rintro e wc10 ⟨u10,v10,er10,rfl,hira,hb10⟩)
   obtain⟨wn10,gn10,hW,hg,Hra_10,ha10,ls10⟩:=sqn hb10 48 #[.int .i64 u10,.int .i64 v10]
   have lg10:=Hr1_9.out.lt
   have Hr0_10:=sqk Hr0_9 ha10
   have Hr1_10:=sqk Hr1_9 ha10
   have Hzz_10:=sqk Hzz_9 ha10
   have HB_10:=Lib.hid (HB_9.out.trans (ha10.mono (by omega)))
   replace hira:=Lib.hid hira
   rw[hW.out,hg.out]
   have hg10:g+1+1+1<gn10:=by omega
   clear hW hg lg10 ls10 fyy0 fyy1 fxx0 fxx1 hb10 ha10 Hr0_9 Hr1_9 Hxx_9 Hyy_9 Hzz_9 HB_9
   by_cases he:er10=0
   ·subst he
    obtain⟨fzz0,fzz1⟩:=sqc Hzz_10
    go_upto_region 23 with(go_at_call 133;refine(YL _ _ _).mono ?_;rintro e wc11 ⟨u11,v11,er11,rfl,hide,hb11⟩)
    obtain⟨wn11,gn11,hW,hg,Hde_11,ha11,ls11⟩:=sqn hb11 48 #[.int .i64 u11,.int .i64 v11]
    have lg11:=Hr1_10.out.lt
    have Hr0_11:=sqk Hr0_10 ha11
    have Hr1_11:=sqk Hr1_10 ha11
    have Hra_11:=sqk Hra_10 ha11
    have HB_11:=Lib.hid (HB_10.out.trans (ha11.mono (by omega)))
    replace hide:=Lib.hid hide
    rw[hW.out,hg.out]
    have hg11:g+1+1+1<gn11:=by omega
    clear hW hg lg11 ls11 fzz0 fzz1 hb11 ha11 Hr0_10 Hr1_10 Hzz_10 Hra_10 HB_10
    obtain⟨fra0,fra1⟩:=sqc Hra_11
    obtain⟨fde0,fde1⟩:=sqc Hde_11
    have p0:wn11.cell? ⟨g+1+1,0,none⟩=some (.int .i64 0):=Hr0_11.out.cell 0
    have pf0:wn11.frozen? ⟨g+1+1,0,none⟩=false:=Hr0_11.out.free 0
    have p1:wn11.cell? ⟨g+1+1,1,none⟩=some (.int .i64 0):=Hr0_11.out.cell 1
    have pf1:wn11.frozen? ⟨g+1+1,1,none⟩=false:=Hr0_11.out.free 1
    have q0:wn11.cell? ⟨g+1+1+1,0,none⟩=some (.int .i64 0):=Hr1_11.out.cell 0
    have qf0:wn11.frozen? ⟨g+1+1+1,0,none⟩=false:=Hr1_11.out.free 0
    have q1:wn11.cell? ⟨g+1+1+1,1,none⟩=some (.int .i64 0):=Hr1_11.out.cell 1
    have qf1:wn11.frozen? ⟨g+1+1+1,1,none⟩=false:=Hr1_11.out.free 1
    go_region
    clear fra0 fra1 fde0 fde1 p0 p1 pf0 pf1 q0 q1 qf0 qf1
    have HF0:=Lib.hid ((sqr (sqs Hr0_11 (.int .i64 (u10)) (.int .i64 (v10))) (show g+1+1≠g+1+1+1 by omega) (.int .i64 (u11)) (.int .i64 (v11))).out.drewN 1)
    have HF1:=Lib.hid ((sqs (sqr Hr1_11 (show g+1+1+1≠g+1+1 by omega) (.int .i64 (u10)) (.int .i64 (v10))) (.int .i64 (u11)) (.int .i64 (v11))).out.drewN 1)
    have HFB:=Lib.hid (jd (sqb (sqb HB_11 (show g≤g+1+1 by omega) (.int .i64 (u10)) (.int .i64 (v10))) (show g≤g+1+1+1 by omega) (.int .i64 (u11)) (.int .i64 (v11))).out 1)
    change Exit.then _ _ Exit.normal _ (World.drewN _ 1)
    generalize ((((wn11.setCell ⟨g+1+1,0,none⟩ (.int .i64 (u10))).setCell ⟨g+1+1,1,none⟩ (.int .i64 (v10))).setCell ⟨g+1+1+1,0,none⟩ (.int .i64 (u11))).setCell ⟨g+1+1+1,1,none⟩ (.int .i64 (v11))).drewN 1=w6 at *
    obtain⟨v0,v1⟩:=sqc HF0
    obtain⟨v2,v3⟩:=sqc HF1
    go_wp2_with fail
    refine bodyPost_ret (v:=.tuple #[.agg #[.int .i64 (u10),.int .i64 (v10)],.agg #[.int .i64 (u11),.int .i64 (v11)],.int .i64 0]) (by simp[results,Tryz.results97,go_sem,v0,v1,v2,v3]) rfl ⟨_,_,_,_,_,rfl,⟨hira.out.i64,hide.out⟩,?_⟩
    rw[HG.out]
    exact HFB.out
   ·have te:(er10 != 0)=true:=by rw[bne_iff_ne];exact he
    clear he
    have p0:wn10.cell? ⟨g+1+1,0,none⟩=some (.int .i64 0):=Hr0_10.out.cell 0
    have pf0:wn10.frozen? ⟨g+1+1,0,none⟩=false:=Hr0_10.out.free 0
    have p1:wn10.cell? ⟨g+1+1,1,none⟩=some (.int .i64 0):=Hr0_10.out.cell 1
    have pf1:wn10.frozen? ⟨g+1+1,1,none⟩=false:=Hr0_10.out.free 1
    have q0:wn10.cell? ⟨g+1+1+1,0,none⟩=some (.int .i64 0):=Hr1_10.out.cell 0
    have qf0:wn10.frozen? ⟨g+1+1+1,0,none⟩=false:=Hr1_10.out.free 0
    have q1:wn10.cell? ⟨g+1+1+1,1,none⟩=some (.int .i64 0):=Hr1_10.out.cell 1
    have qf1:wn10.frozen? ⟨g+1+1+1,1,none⟩=false:=Hr1_10.out.free 1
    go_wp2_with fail
    have HF0:=sqr (sqs Hr0_10 (.int .i64 (0)) (.int .i64 (0))) (show g+1+1≠g+1+1+1 by omega) (.int .i64 (0)) (.int .i64 (0))
    have HF1:=sqs (sqr Hr1_10 (show g+1+1+1≠g+1+1 by omega) (.int .i64 (0)) (.int .i64 (0))) (.int .i64 (0)) (.int .i64 (0))
    have HFB:=sqb (sqb HB_10 (show g≤g+1+1 by omega) (.int .i64 (0)) (.int .i64 (0))) (show g≤g+1+1+1 by omega) (.int .i64 (0)) (.int .i64 (0))
    generalize ((((wn10.setCell ⟨g+1+1,0,none⟩ (.int .i64 (0))).setCell ⟨g+1+1,1,none⟩ (.int .i64 (0))).setCell ⟨g+1+1+1,0,none⟩ (.int .i64 (0))).setCell ⟨g+1+1+1,1,none⟩ (.int .i64 (0)))=w6 at *
    obtain⟨v0,v1⟩:=sqc HF0
    obtain⟨v2,v3⟩:=sqc HF1
    refine bodyPost_ret (v:=.tuple #[.agg #[.int .i64 (0),.int .i64 (0)],.agg #[.int .i64 (0),.int .i64 (0)],.int .i64 er10]) (by simp[results,Tryz.results97,go_sem,v0,v1,v2,v3]) rfl ⟨_,_,_,_,_,rfl,by unfold qW;omega,?_⟩
    rw[HG.out]
    exact HFB.out
end Go.Proofs.YtkkjaaognefeiaaGreatDoor
