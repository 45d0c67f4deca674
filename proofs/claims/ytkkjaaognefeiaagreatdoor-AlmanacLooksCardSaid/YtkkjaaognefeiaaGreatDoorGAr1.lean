/- Ar1, Ar2, Ar3, Ar4 -/
import Derived.Test.YtkkjaaognefeiaaGreatDoorGPlainCal
set_option maxRecDepth 100000
set_option maxHeartbeats 16000000
set_option linter.unusedVariables false
set_option linter.unusedSimpArgs false
namespace Go.Proofs.YtkkjaaognefeiaaGreatDoor
open Go.RowKit
theorem ZG (a b A B:Int) (h1 : -A≤a) (h2:a≤A) (h3 : -B≤b) (h4:b≤B) : -(A*B)≤a*b∧a*b≤A*B:=by
 have hA:(a.natAbs:Int)≤A:=by omega
 have hB:(b.natAbs:Int)≤B:=by omega
 have h:((a*b).natAbs:Int)≤A*B:=by
  rw[Int.natAbs_mul,Int.natCast_mul]
  exact Int.mul_le_mul hA hB (by omega) (by omega)
 omega
theorem Ji (c:Cal) (y:Int) (m:Nat) (hm:m<c.mo.length) (w:World) (hr:CalIn w c) (ok:CalOk c) (h1 : -100000≤y) (h2:y≤100000) :
  Calls Tryz.prog 91 #[c.val,.int .i64 y,.int .i64 ((m:Int)+1)] w fun e w'=>e = .returned (.int .i64 (c.mlen y m))∧Below w.heap.size w w':=by
 have HB:=Lib.hid (ja w (Obj.cells c.cells 70))
 have HX:=Lib.hid (Box.new w 70 c.cells)
 have HR:=Lib.hid (hr.next HB.out)
 have HL:=Lib.hid (fun W (h:CalIn W c)=>jbA c y W h ok.hd.2.2.1 ok.hd.2.2.2 ok.lp h1 h2)
 have hD:Hid (c.mlen y m=if decide (c.pl y∈c.lp)=true then(c.mo.getD m jF).lo else(c.mo.getD m jF).sh):=rfl
 obtain⟨b,o,hA,hbl,hcs0⟩:=(hr.next HB.out).r1.open_ (qg jO (by omega) c.mo (by omega))
 have hc0:=jm jO jF hcs0 m 0 hm (by omega) _ rfl
 have hc1:=jm jO jF hcs0 m 1 hm (by omega) _ rfl
 have hc2:=jm jO jF hcs0 m 2 hm (by omega) _ rfl
 rw[Nat.add_zero] at hc0
 have m0:(0:Int)≤(m:Int):=by omega
 have m1:(m:Int)<(c.mo.length:Int):=by omega
 have m2:=ok.mo.n2
 have x3:(w.alloc (Obj.cells c.cells 70)).cell? ⟨w.heap.size,3,none⟩=some (.slice (some ⟨b,o,none⟩) c.mo.length c.c1):=by rw[←hA];exact(zu HX.out).2.2.2.1
 have e1:(m:Int)+1-1=m:=by omega
 clear hr ok hcs0 h1 h2 hA
 generalize c.mo.getD m jF=z at *
 generalize c.mlen y m=R at *
 generalize decide (c.pl y∈c.lp)=lb at *
 go_enter Tryz.func91,Tryz.ntmps91
 go_wp2_with fail
 have HZ:=Lib.hid (Box.new (w.alloc (Obj.cells c.cells 70)) 155 #[.string z.nm,.int .i64 z.sh,.int .i64 z.lo])
 rw[World.size_alloc] at HZ
 have HB2:=Lib.hid (HB.out.alloc (by rw[World.size_alloc];omega) (Obj.cells #[.string z.nm,.int .i64 z.sh,.int .i64 z.lo] 155))
 have HL2:=Lib.hid (HL.out ((w.alloc (Obj.cells c.cells 70)).alloc (Obj.cells #[.string z.nm,.int .i64 z.sh,.int .i64 z.lo] 155)) (HR.out.next (ja _ _)))
 refine HL2.out.mono ?_
 rintro e w2 ⟨rfl,hb⟩
 have HZ2:=HZ.out.below hb
 have HB3:=Lib.hid (HB2.out.trans (hb.mono (by simp only[World.size_alloc];omega)))
 have z1:w2.cell? ⟨w.heap.size+1,1,none⟩=some (.int .i64 z.sh):=HZ2.cell 1
 have z2:w2.cell? ⟨w.heap.size+1,2,none⟩=some (.int .i64 z.lo):=HZ2.cell 2
 clear hb HB HX HR HL HZ HB2 HL2 HZ2 x3 hc0 hc1 hc2
 have HD:=hD.out
 clear hD
 cases lb
 ·go_wp2_with fail
  go_ret
  exact⟨by rw[HD];rfl,HB3.out⟩
 ·go_wp2_with fail
  go_ret
  exact⟨by rw[HD];rfl,HB3.out⟩
theorem xH (c:Cal) (y:Int) (w:World) (hr:CalIn w c) (ok:CalOk c) (h1 : -100000≤y) (h2:y≤100000) :
  Calls Tryz.prog 87 #[c.val,.int .i64 y] w fun e w'=>e = .returned (.int .i64 (c.ny y))∧Below w.heap.size w w':=by
 have HB:=Lib.hid (ja w (Obj.cells c.cells 70))
 have HX:=Lib.hid (Box.new w 70 c.cells)
 have HR:=Lib.hid (hr.next HB.out)
 have hc:=ok.hd.2.2
 have hep:=ok.hd.2.1
 have HLn:=Lib.hid (fun W (h:CalIn W c)=>ZN c W h ok.mo)
 obtain⟨⟨s1,s2⟩,l1,l2⟩:=Cal.sums_pos ok
 have hn:=ok.lp.len (by omega)
 have HLE:=Lib.hid ok.lp.le
 have HDn:=Lib.hid (fun W=>JG (y-1) c.cy W (by omega) (by omega) (by omega) (by omega))
 have HMd:=Lib.hid (fun W=>jW (y-1) c.cy W (by omega) (by omega) (by omega) (by omega))
 have r0:=Int.emod_nonneg (y-1) (show c.cy≠0 by omega)
 have r1:=Int.emod_lt_of_pos (y-1) (show 0<c.cy by omega)
 have q0 : -100002≤(y-1)/c.cy∧(y-1)/c.cy≤100002:=by
  have e:=Int.mul_ediv_add_emod (y-1) c.cy
  have a1:(-100002)≤(y-1)/c.cy:=(Int.le_ediv_iff_mul_le (show 0<c.cy by omega)).2 (by omega)
  have a2:(y-1)/c.cy<100002:=(Int.ediv_lt_iff_lt_mul (show 0<c.cy by omega)).2 (by omega)
  omega
 have hk:=jcP ((y-1)%c.cy+1) c.lp
 have HSI:=Lib.hid (fun W (h:CalIn W c)=>yM c.A2 c.c2 c.lp ((y-1)%c.cy+1) W h.r2 (by omega) HLE.out)
 have hD:Hid (c.ny y=c.ep+(y-1)/c.cy*(c.cy*qI c.mo+c.lp.length*(zd c.mo-qI c.mo))+(y-1)%c.cy*qI c.mo+xJ c.lp ((y-1)%c.cy+1)*(zd c.mo-qI c.mo)):=rfl
 have hy1 : -100001≤y-1:=by omega
 have hy2:y-1≤99999:=by omega
 clear hr ok
 generalize c.ny y=R at *
 generalize xJ c.lp ((y-1)%c.cy+1)=k at *
 generalize (y-1)/c.cy=q at *
 generalize (y-1)%c.cy=r at *
 generalize qI c.mo=S at *
 generalize zd c.mo=L at *
 have p1:=VG c.cy S 3000 8000 (by omega) (by omega) (by omega) (by omega)
 have p2:=ZG (c.lp.length:Int) (L-S) 3000 8000 (by omega) (by omega) (by omega) (by omega)
 have p4:=ZG q (c.cy*S+(c.lp.length:Int)*(L-S)) 100002 48000000 (by omega) (by omega) (by omega) (by omega)
 have p6:=VG r S 3000 8000 (by omega) (by omega) (by omega) (by omega)
 have p8:=ZG (k:Int) (L-S) 3000 8000 (by omega) (by omega) (by omega) (by omega)
 have ew:IntKind.i64.wrap (y-1)=y-1:=ji _ (by omega) (by omega)
 go_enter Tryz.func87,Tryz.ntmps87
 go_wp2_with fail
 generalize w.alloc (Obj.cells c.cells 70)=W0 at *
 generalize hg:w.heap.size=g at *
 have HG:=Lib.hid hg
 clear hg
 refine(HLn.out _ HR.out).mono ?_
 rintro e w1 ⟨rfl,hb⟩
 have HX1:=Lib.hid (HX.out.below hb)
 have HB1:=Lib.hid (show Below g w w1 from HB.out.trans (hb.mono (by have:=HX.out.lt;omega)))
 have HR1:=Lib.hid (HR.out.next hb)
 clear hb HX HB HR HLn
 obtain⟨x0,x1,x2,x3,x4⟩:=zu HX1.out
 have xl:=HX1.out.lt
 go_wp2_with fail
 go_quiet (first
  | ((go_at_call 45;exact Calls.quiet_of (HMd.out _)))
  | ((go_at_call 60;exact Calls.quiet_of (HDn.out _))))
 have HX2:=Lib.hid (HX1.out.drewN nq)
 have HB2:=Lib.hid (jd HB1.out nq)
 have HR2:Hid (CalIn (w1.drewN nq) c):=⟨HR1.out.r1,HR1.out.r2⟩
 clear x0 x1 x2 x3 x4 xl HX1 HB1 HR1 HMd HDn
 generalize w1.drewN nq=w2 at *
 obtain⟨x0,x1,x2,x3,x4⟩:=zu HX2.out
 have xl:=HX2.out.lt
 have HS2:=Lib.hid (HSI.out w2 HR2.out)
 clear HSI
 go_wp2_with fail
 refine HS2.out.mono ?_
 rintro e w3 ⟨rfl,hb⟩
 have HX3:=Lib.hid (HX2.out.below hb)
 have HB3:=Lib.hid (HB2.out.trans (hb.mono (by omega)))
 clear hb x0 x1 x2 x3 x4 xl HS2 HX2 HB2 HR2 HLE
 obtain⟨x0,x1,x2,x3,x4⟩:=zu HX3.out
 have xl:=HX3.out.lt
 go_wp2_with fail
 go_ret
 exact⟨by rw[hD.out];rfl,by rw[HG.out];exact HB3.out⟩
theorem vx (n:Int) (w:World):Calls Tryz.prog 116 #[.int .i64 n] w fun e w'=>e = .returned (.bool (decide (-10000≤n∧n≤10000)))∧w=w':=by
 by_cases h1 : -10000≤n
 ·by_cases h2:n≤10000
  ·rw[decide_eq_true ⟨h1,h2⟩];exact Xd n w h1 h2
  ·rw[decide_eq_false (fun h=>h2 h.2)]
   have t1:decide (-10000≤n)=true:=decide_eq_true h1
   have t2:decide (n≤10000)=false:=decide_eq_false h2
   go_enter Tryz.func116,Tryz.ntmps116
   go_wp2_with fail
   go_ret
   exact⟨rfl,rfl⟩
 ·rw[decide_eq_false (fun h=>h1 h.1)]
  have t1:decide (-10000≤n)=false:=decide_eq_false h1
  go_enter Tryz.func116,Tryz.ntmps116
  go_wp2_with fail
  go_ret
  exact⟨rfl,rfl⟩
theorem y6 (n:Int) (w:World):Calls Tryz.prog 34 #[.int .i64 n] w fun e w'=>e = .returned (.bool (decide (-4000000≤n∧n≤4000000)))∧w=w':=by
 by_cases h1 : -4000000≤n
 ·by_cases h2:n≤4000000
  ·rw[decide_eq_true ⟨h1,h2⟩]
   have t1:decide (-4000000≤n)=true:=decide_eq_true h1
   have t2:decide (n≤4000000)=true:=decide_eq_true h2
   go_enter Tryz.func34,Tryz.ntmps34
   go_wp2_with fail
   go_ret
   exact⟨rfl,rfl⟩
  ·rw[decide_eq_false (fun h=>h2 h.2)]
   have t1:decide (-4000000≤n)=true:=decide_eq_true h1
   have t2:decide (n≤4000000)=false:=decide_eq_false h2
   go_enter Tryz.func34,Tryz.ntmps34
   go_wp2_with fail
   go_ret
   exact⟨rfl,rfl⟩
 ·rw[decide_eq_false (fun h=>h1 h.1)]
  have t1:decide (-4000000≤n)=false:=decide_eq_false h1
  go_enter Tryz.func34,Tryz.ntmps34
  go_wp2_with fail
  go_ret
  exact⟨rfl,rfl⟩
theorem XK (c:Cal) (gc gl gd:Nat) (low day:Int) (i:Nat) (W:World) (hx:Box W gc 70 c.cells) (hl:Box W gl 3 #[.int .i64 low]) (hd:Box W gd 3 #[.int .i64 day]) (hr:CalIn W c) (ok:CalOk c) (h1 : -10001≤low) (h2:low≤0) (hi:i≤20004) :
  Calls Tryz.prog 115 #[.int .i64 (i:Int),.pointer (some ⟨gc,0,none⟩),.pointer (some ⟨gl,0,none⟩),.pointer (some ⟨gd,0,none⟩)] W fun e w'=>e = .returned (.bool (decide (day<c.ny (low+(i:Int)))))∧Below W.heap.size W w':=by
 have HN:=Lib.hid (fun w (hb:Below W.heap.size W w)=>xH c (low+(i:Int)) w (hr.next hb) ok (by omega) (by omega))
 have z0:∀w,Below W.heap.size W w→w.cell? ⟨gc,0,none⟩=some (.string c.nm):=fun w hb=>(hx.below hb).cell 0
 have z1:∀w,Below W.heap.size W w→w.cell? ⟨gc,1,none⟩=some (.int .i64 c.ep):=fun w hb=>(hx.below hb).cell 1
 have z2:∀w,Below W.heap.size W w→w.cell? ⟨gc,2,none⟩=some (.int .i64 c.cy):=fun w hb=>(hx.below hb).cell 2
 have z3:∀w,Below W.heap.size W w→w.cell? ⟨gc,3,none⟩=some (.slice c.A1 c.mo.length c.c1):=fun w hb=>(hx.below hb).cell 3
 have z4:∀w,Below W.heap.size W w→w.cell? ⟨gc,4,none⟩=some (.slice c.A2 c.lp.length c.c2):=fun w hb=>(hx.below hb).cell 4
 have y0:∀w,Below W.heap.size W w→w.cell? ⟨gl,0,none⟩=some (.int .i64 low):=fun w hb=>(hl.below hb).cell 0
 have y1:∀w,Below W.heap.size W w→w.cell? ⟨gd,0,none⟩=some (.int .i64 day):=fun w hb=>(hd.below hb).cell 0
 have ew:IntKind.i64.wrap (low+(i:Int))=low+(i:Int):=ji _ (by omega) (by omega)
 clear hx hl hd hr ok
 generalize c.ny (low+(i:Int))=R at *
 go_enter Tryz.func115,Tryz.ntmps115
 go_upto_region 1 with fail
 refine ju (jy [(4,det (.int .i64 R))]) (by kernel_rfl) (by kernel_rfl) ?_
 repeat (first|(refine jf (v:=?_) (by rfl) (by rfl) (fun w hb=>?_) ?_;rotate_left;(· go_simp<;>(repeat' apply And.intro)<;>with_reducible rfl);try simp only[pZ,Nat.reduceAdd])|(refine je (by rfl) (by rfl) ?_;try simp only[pZ,Nat.reduceAdd]))
 refine j8 (f:=?_) (args:=?_) [] (by kernel_rfl) (by rfl) (by rfl) (fun w hb=>?_) (fun w hb hu=>?_) ?_;rotate_left 2;(· go_simp<;>(repeat' apply And.intro)<;>with_reducible rfl)
 ·exact HN.out w hb
 try simp only[pZ,Nat.reduceAdd]
 repeat (first|(refine jf (v:=?_) (by rfl) (by rfl) (fun w hb=>?_) ?_;rotate_left;(· go_simp<;>(repeat' apply And.intro)<;>with_reducible rfl);try simp only[pZ,Nat.reduceAdd])|(refine je (by rfl) (by rfl) ?_;try simp only[pZ,Nat.reduceAdd]))
 refine jo fun w1 hb1 _=>?_
 clear z0 z1 z2 z3 z4 y0 y1
 go_wp2_with fail
 go_ret
 exact⟨rfl,hb1⟩
theorem jcB (p:Nat→Bool):∀n,(∀a b,a≤b→b<n→p a=true→p b=true)→∃K,K≤n∧(∀t,t<K→p t=false)∧(∀t,K≤t→t<n→p t=true):=by
 intro n
 induction n with
 | zero=>intro _;exact⟨0,Nat.le_refl _,fun t h=>by omega,fun t _ h=>by omega⟩
 | succ n ih =>
  intro hm
  obtain⟨K,h1,h2,h3⟩:=ih fun a b hab hb h=>hm a b hab (by omega) h
  by_cases hK:K<n
  ·exact⟨K,by omega,h2,fun t ht hn=>hm K t ht hn (h3 K (Nat.le_refl _) hK)⟩
  ·obtain rfl:K=n:=by omega
   cases hp:p K with
   | true=>exact⟨K,by omega,h2,fun t ht hn=>by rw[show t=K from by omega];exact hp⟩
   | false=>exact⟨K+1,by omega,fun t ht=>by
     by_cases e:t=K
     ·rw[e];exact hp
     ·exact h2 t (by omega),fun t h1 h2=>by omega⟩
def jeA (c:Cal) (day:Int) (w:World) (e:Ending) (w':World):Prop :=
 Below w.heap.size w w'∧((∃(y:Int) (m:Nat) (d:Int),-10000≤y∧y≤10000∧IsOn c y m d day∧e = .returned (.tuple #[.agg #[.int .i64 y,.int .i64 ((m:Int)+1),.int .i64 (d+1)],.int .i64 0])) ∨
  (¬(-4000000≤day∧day≤4000000∧c.ny (-10000)≤day∧day<c.ny 10001)∧e = .returned (.tuple #[.agg #[.int .i64 0,.int .i64 0,.int .i64 0],.int .i64 3])))
theorem XH (c:Cal) (day:Int) (w:World) (hr:CalIn w c) (ok:CalOk c) :
  Calls Tryz.prog 89 #[c.val,.int .i64 day] w (jeA c day w):=by
 have hW:((w.alloc (Obj.cells c.cells 70)).alloc (Obj.cells #[.int .i64 day] 3)).heap.size=w.heap.size+2:=by simp
 have hW':(w.alloc (Obj.cells c.cells 70)).heap.size=w.heap.size+1:=by simp
 have hm1:=((hr.next (ja w (Obj.cells c.cells 70))).next (ja _ (Obj.cells #[.int .i64 day] 3))).next (ja _ (Obj.cells #[.int .i64 0,.int .i64 0,.int .i64 0] 78))
 have hB1:=jJ w (Obj.cells c.cells 70) (Obj.cells #[.int .i64 day] 3) (Obj.cells #[.int .i64 0,.int .i64 0,.int .i64 0] 78)
 have hx1:=((Box.new w 70 c.cells).alloc (Obj.cells #[.int .i64 day] 3)).alloc (Obj.cells #[.int .i64 0,.int .i64 0,.int .i64 0] 78)
 have hd1:=(Box.new (w.alloc (Obj.cells c.cells 70)) 3 #[.int .i64 day]).alloc (Obj.cells #[.int .i64 0,.int .i64 0,.int .i64 0] 78)
 have hr1:=Box.new ((w.alloc (Obj.cells c.cells 70)).alloc (Obj.cells #[.int .i64 day] 3)) 78 #[.int .i64 0,.int .i64 0,.int .i64 0]
 rw[hW'] at hd1
 rw[hW] at hr1
 clear hW hW' hr
 have OK:=Lib.hid ok
 clear ok
 go_enter Tryz.func89,Tryz.ntmps89
 go_wp2_with fail
 generalize ((w.alloc (Obj.cells c.cells 70)).alloc (Obj.cells #[.int .i64 day] 3)).alloc (Obj.cells #[.int .i64 0,.int .i64 0,.int .i64 0] 78)=W1 at *
 generalize hg:w.heap.size=g at *
 have HG:=Lib.hid hg
 clear hg
 have HB1:=Lib.hid hB1
 clear hB1
 refine(y6 day _).mono ?_
 rintro e w' ⟨rfl,rfl⟩
 have y0:W1.cell? ⟨g+1,0,none⟩=some (.int .i64 day):=hd1.cell 0
 have r0:W1.cell? ⟨g+1+1,0,none⟩=some (.int .i64 0):=hr1.cell 0
 have r1:W1.cell? ⟨g+1+1,1,none⟩=some (.int .i64 0):=hr1.cell 1
 have r2:W1.cell? ⟨g+1+1,2,none⟩=some (.int .i64 0):=hr1.cell 2
 have rf:∀i,W1.frozen? ⟨g+1+1,i,none⟩=false:=fun i=>hr1.free i
 clear y0
 by_cases hday : -4000000≤day∧day≤4000000
 case neg =>
  rw[decide_eq_false hday]
  go_wp2_with fail
  refine bodyPost_ret (v:=.tuple #[.agg #[.int .i64 0,.int .i64 0,.int .i64 0],.int .i64 3]) (by simp[results,Tryz.results89,go_sem,r0,r1,r2]) rfl ?_
  exact⟨by rw[HG.out];exact((HB1.out.setCell (p:=⟨g+1+1,0,none⟩) (show g≤g+1+1 by omega) _).setCell (p:=⟨g+1+1,1,none⟩) (show g≤g+1+1 by omega) _).setCell (p:=⟨g+1+1,2,none⟩) (show g≤g+1+1 by omega) _,.inr ⟨fun h=>hday ⟨h.1,h.2.1⟩,rfl⟩⟩
 rw[decide_eq_true hday]
 have hgl:=hr1.lt
 clear r0 r1 r2 rf
 go_upto_region 4 with fail
 have HX2:=Lib.hid (hx1.alloc (Obj.cells #[.int .i64 (-10001)] 3))
 have HD2:=Lib.hid (hd1.alloc (Obj.cells #[.int .i64 (-10001)] 3))
 have HR2:=Lib.hid (hr1.alloc (Obj.cells #[.int .i64 (-10001)] 3))
 have HM2:=Lib.hid (hm1.next (ja W1 (Obj.cells #[.int .i64 (-10001)] 3)))
 have HB2:=Lib.hid (HB1.out.alloc (by omega) (Obj.cells #[.int .i64 (-10001)] 3))
 have HL2:=Lib.hid (Box.new W1 3 #[.int .i64 (-10001)])
 clear hx1 hd1 hr1 hm1 HB1
 generalize W1.alloc (Obj.cells #[.int .i64 (-10001)] 3)=W2 at *
 generalize W1.heap.size=gl at *
 obtain⟨K,hK,hK1,hK2⟩:=jcB (fun i=>decide (day<c.ny (-10001+(i:Int)))) 20004 fun a b hab hb h=>by
  have h':day<c.ny (-10001+(a:Int)):=of_decide_eq_true h
  have:=Cal.ny_le OK.out (show -10001+(a:Int)≤-10001+(b:Int) by omega)
  exact decide_eq_true (by omega)
 have HSe:Hid (∀W,Below W2.heap.size W2 W→Calls Tryz.prog 114 #[.int .i64 20004,.func (.func 115) #[] #[.pointer (some ⟨g,0,none⟩),.pointer (some ⟨gl,0,none⟩),.pointer (some ⟨g+1,0,none⟩)]] W
   fun e w'=>e = .returned (.int .i64 (K:Int))∧Below W.heap.size W w'):=fun W hW=>by
  refine(J9 115 _ 20004 (fun i=>decide (day<c.ny (-10001+(i:Int)))) (fun W'=>Below W.heap.size W W') W (Below.refl _ _) (by omega) (fun _ _=>rfl) (fun W' i hW' hi=>?_) (fun a b hab hb h=>?_)).mono ?_
  ·have hWW:=jb hW hW'
   exact(XK c g gl (g+1) (-10001) day i W' (HX2.out.below hWW) (HL2.out.below hWW) (HD2.out.below hWW) (HM2.out.next hWW) OK.out (by omega) (by omega) (by omega)).mono fun e w' ⟨he,hb⟩=>⟨he,jb hW' hb⟩
  ·have h':day<c.ny (-10001+(a:Int)):=of_decide_eq_true h
   have:=Cal.ny_le OK.out (show -10001+(a:Int)≤-10001+(b:Int) by omega)
   exact decide_eq_true (by omega)
  ·rintro e w' ⟨k,rfl,hk,h1,h2,hb⟩
   have:k=K:=by
    by_cases h3:k<K
    ·have a:=hK1 k h3
     have b:decide (day<c.ny (-10001+(k:Int)))=true:=h2 k (Nat.le_refl _) (by omega)
     rw[a] at b;cases b
    ·by_cases h4:K<k
     ·have a:decide (day<c.ny (-10001+(K:Int)))=false:=h1 K h4
      have b:=hK2 K (Nat.le_refl _) (by omega)
      rw[a] at b;cases b
     ·omega
   subst this
   exact⟨rfl,hb⟩
 have z:∀w,Below W2.heap.size W2 w→w.cell? ⟨gl,0,none⟩=some (.int .i64 (-10001)):=fun w hb=>(HL2.out.below hb).cell 0
 have e1:IntKind.i64.wrap (-10001+(K:Int)) = -10001+(K:Int):=ji _ (by omega) (by omega)
 have e2:IntKind.i64.wrap (-10001+(K:Int)-1) = -10001+(K:Int)-1:=ji _ (by omega) (by omega)
 refine ju (jy [(2,det (.int .i64 (K:Int)))]) (by kernel_rfl) (by kernel_rfl) ?_
 repeat (first|(refine jf (v:=?_) (by rfl) (by rfl) (fun w hb=>?_) ?_;rotate_left;(· go_simp<;>(repeat' apply And.intro)<;>with_reducible rfl);try simp only[pZ,Nat.reduceAdd])|(refine je (by rfl) (by rfl) ?_;try simp only[pZ,Nat.reduceAdd]))
 refine j8 (f:=?_) (args:=?_) [] (by kernel_rfl) (by rfl) (by rfl) (fun w hb=>?_) (fun w hb hu=>?_) ?_;rotate_left 2;(· go_simp<;>(repeat' apply And.intro)<;>with_reducible rfl)
 ·exact HSe.out w hb
 try simp only[pZ,Nat.reduceAdd]
 repeat (first|(refine jf (v:=?_) (by rfl) (by rfl) (fun w hb=>?_) ?_;rotate_left;(· go_simp<;>(repeat' apply And.intro)<;>with_reducible rfl);try simp only[pZ,Nat.reduceAdd])|(refine je (by rfl) (by rfl) ?_;try simp only[pZ,Nat.reduceAdd]))
 refine jo fun w3 hb3 _=>?_
 have HX3:=Lib.hid (HX2.out.below hb3)
 have HD3:=Lib.hid (HD2.out.below hb3)
 have HR3:=Lib.hid (HR2.out.below hb3)
 have HM3:=Lib.hid (HM2.out.next hb3)
 have HB3:=Lib.hid (HB2.out.trans (hb3.mono (by have:=HX2.out.lt;omega)))
 have hlow:Hid (K≤1→day<c.ny (-10000)):=fun h=>by
  have h1:day<c.ny (-10001+((1:Nat):Int)):=of_decide_eq_true (hK2 1 h (by omega))
  exact h1
 have hhigh:Hid (20003≤K→c.ny 10001≤day):=fun h=>by
  have h1:¬day<c.ny (-10001+((20002:Nat):Int)):=of_decide_eq_false (hK1 20002 (by omega))
  rw[show(-10001:Int)+((20002:Nat):Int)=10001 from rfl] at h1
  omega
 have here1:Hid (2≤K→c.ny (-10001+(K:Int)-1)≤day):=fun h=>by
  have h1:¬day<c.ny (-10001+((K-1:Nat):Int)):=of_decide_eq_false (hK1 (K-1) (by omega))
  rw[show -10001+((K-1:Nat):Int) = -10001+(K:Int)-1 from by omega] at h1
  omega
 have here2:Hid (K<20004→day<c.ny (-10001+(K:Int)-1+1)):=fun h=>by
  have h1:day<c.ny (-10001+(K:Int)):=of_decide_eq_true (hK2 K (Nat.le_refl _) h)
  rw[show -10001+(K:Int)-1+1 = -10001+(K:Int) from by omega]
  exact h1
 clear hb3 HX2 HD2 HR2 HM2 HB2 HL2 HSe z e1 e2 hK1 hK2
 obtain⟨Y,hY⟩:∃Y:Int,Y = -10001+(K:Int)-1:=⟨_,rfl⟩
 rw[←hY] at here1 here2
 rw[←hY]
 have HY:=Lib.hid hY
 clear hY
 go_wp2_with fail
 refine(vx Y _).mono ?_
 rintro e w' ⟨rfl,rfl⟩
 have r0:w3.cell? ⟨g+1+1,0,none⟩=some (.int .i64 0):=HR3.out.cell 0
 have r1:w3.cell? ⟨g+1+1,1,none⟩=some (.int .i64 0):=HR3.out.cell 1
 have r2:w3.cell? ⟨g+1+1,2,none⟩=some (.int .i64 0):=HR3.out.cell 2
 have rf:∀i,w3.frozen? ⟨g+1+1,i,none⟩=false:=fun i=>HR3.out.free i
 by_cases hy : -10000≤Y∧Y≤10000
 case neg =>
  rw[decide_eq_false hy]
  have hno:¬(c.ny (-10000)≤day∧day<c.ny 10001):=fun h=>by
   have:=HY.out
   by_cases h1:K≤1
   ·have:=hlow.out h1;omega
   ·have:=hhigh.out (by omega);omega
  go_wp2_with fail
  refine bodyPost_ret (v:=.tuple #[.agg #[.int .i64 0,.int .i64 0,.int .i64 0],.int .i64 3]) (by simp[results,Tryz.results89,go_sem,r0,r1,r2]) rfl ?_
  exact⟨by rw[HG.out];exact((HB3.out.setCell (p:=⟨g+1+1,0,none⟩) (show g≤g+1+1 by omega) _).setCell (p:=⟨g+1+1,1,none⟩) (show g≤g+1+1 by omega) _).setCell (p:=⟨g+1+1,2,none⟩) (show g≤g+1+1 by omega) _,.inr ⟨fun h=>hno h.2.2,rfl⟩⟩
 rw[decide_eq_true hy]
 obtain⟨hy1,hy2⟩:=hy
 have in1:=here1.out (by have:=HY.out;omega)
 have in2:=Lib.hid (here2.out (by have:=HY.out;omega))
 clear here1 here2 hlow hhigh HY r0 r1 r2 rf
 have HNy:=Lib.hid (fun w (hb:Below w3.heap.size w3 w)=>xH c Y w (HM3.out.next hb) OK.out (by omega) (by omega))
 have hnb:=Cal.ny_in OK.out Y (by omega) (by omega)
 have HStep:=Lib.hid (Cal.ny_step OK.out Y)
 have HLen:=Lib.hid (fun(m:Nat) (hm:m<c.mo.length) w (hb:Below w3.heap.size w3 w)=>Ji c Y m hm w (HM3.out.next hb) OK.out (by omega) (by omega))
 have HPs:=Lib.hid (fun m hm=>c.pre_succ Y m hm)
 have HMl:=Lib.hid (fun m hm=>Cal.mlen_in OK.out Y m hm)
 have HP0:=Lib.hid (c.pre_zero Y)
 have HPA:=Lib.hid (c.pre_all Y)
 have hmo:=OK.out.mo.n1
 have hmo2:=OK.out.mo.n2
 have HON:Hid (∀m d,m<c.mo.length→0≤d→d<c.mlen Y m→day=c.ny Y+c.pre Y m+d→IsOn c Y m d day):=fun m d a b e f=>⟨a,b,e,f⟩
 generalize c.ny Y=N at *
 have z0:∀w,Below w3.heap.size w3 w→w.cell? ⟨g,0,none⟩=some (.string c.nm):=fun w hb=>(HX3.out.below hb).cell 0
 have z1:∀w,Below w3.heap.size w3 w→w.cell? ⟨g,1,none⟩=some (.int .i64 c.ep):=fun w hb=>(HX3.out.below hb).cell 1
 have z2:∀w,Below w3.heap.size w3 w→w.cell? ⟨g,2,none⟩=some (.int .i64 c.cy):=fun w hb=>(HX3.out.below hb).cell 2
 have z3:∀w,Below w3.heap.size w3 w→w.cell? ⟨g,3,none⟩=some (.slice c.A1 c.mo.length c.c1):=fun w hb=>(HX3.out.below hb).cell 3
 have z4:∀w,Below w3.heap.size w3 w→w.cell? ⟨g,4,none⟩=some (.slice c.A2 c.lp.length c.c2):=fun w hb=>(HX3.out.below hb).cell 4
 have y1:∀w,Below w3.heap.size w3 w→w.cell? ⟨g+1,0,none⟩=some (.int .i64 day):=fun w hb=>(HD3.out.below hb).cell 0
 have e1:IntKind.i64.wrap (day-N)=day-N:=ji _ (by omega) (by omega)
 go_upto_region 7 with fail
 refine ju (jy [(3,det (.int .i64 N))]) (by kernel_rfl) (by kernel_rfl) ?_
 repeat (first|(refine jf (v:=?_) (by rfl) (by rfl) (fun w hb=>?_) ?_;rotate_left;(· go_simp<;>(repeat' apply And.intro)<;>with_reducible rfl);try simp only[pZ,Nat.reduceAdd])|(refine je (by rfl) (by rfl) ?_;try simp only[pZ,Nat.reduceAdd]))
 refine j8 (f:=?_) (args:=?_) [] (by kernel_rfl) (by rfl) (by rfl) (fun w hb=>?_) (fun w hb hu=>?_) ?_;rotate_left 2;(· go_simp<;>(repeat' apply And.intro)<;>with_reducible rfl)
 ·exact HNy.out w hb
 try simp only[pZ,Nat.reduceAdd]
 repeat (first|(refine jf (v:=?_) (by rfl) (by rfl) (fun w hb=>?_) ?_;rotate_left;(· go_simp<;>(repeat' apply And.intro)<;>with_reducible rfl);try simp only[pZ,Nat.reduceAdd])|(refine je (by rfl) (by rfl) ?_;try simp only[pZ,Nat.reduceAdd]))
 refine jo fun w4 hb4 _=>?_
 have HB4:=Lib.hid hb4
 clear hb4 z0 z1 z2 z3 z4 y1 e1 HNy
 have hN1:Hid (day<N+c.ylen Y):=by unfold Hid;rw[←HStep.out];exact in2.out
 clear HStep in2
 have hd0:0≤day-N-c.pre Y 0:=by rw[HP0.out];omega
 have hd1:day-N=day-N-c.pre Y 0:=by rw[HP0.out];omega
 go_wp2_with fail
 go_loopw [8,9] (fun d mm wr=>∃m:Nat,m<c.mo.length∧mm = .int .i64 ((m:Int)+1)∧d = .int .i64 (day-N-c.pre Y m)∧0≤day-N-c.pre Y m∧Hid (Below w3.heap.size w3 wr)) (fun _ mm _=>c.mo.length+1-(intOf mm).toNat)
 case atStart=>exact⟨0,hmo,rfl,by rw[←hd1],hd0,HB4⟩
 case round =>
  clear HB4 hd0 hd1
  obtain⟨m,hm,rfl,rfl,hd0,hbr⟩:=hrel
  have hml:=HMl.out m hm
  have HL1:=Lib.hid (fun w hb=>HLen.out m hm w hb)
  have HPm:=Lib.hid (HPs.out m hm)
  have HONm:=Lib.hid (HON.out m (day-N-c.pre Y m) hm hd0)
  have HXr:=Lib.hid (HX3.out.below hbr.out)
  have HRr:=Lib.hid (HR3.out.below hbr.out)
  have hD:Hid (day=N+c.pre Y m+(day-N-c.pre Y m)):=by unfold Hid;omega
  have hDle:day-N-c.pre Y m≤1000000000:=by
   have:=Cal.pre_mono OK.out Y m 0 (by omega)
   rw[c.pre_zero,Nat.zero_add] at this
   omega
  generalize c.mlen Y m=L at *
  generalize hDD:day-N-c.pre Y m=D at *
  have HDD:=Lib.hid hDD
  clear hDD
  obtain⟨x0,x1,x2,x3,x4⟩:=zu HXr.out
  have xl:=HXr.out.lt
  go_wp2_with fail
  refine(HL1.out wr hbr.out).mono ?_
  rintro e w5 ⟨rfl,hb5⟩
  have HXs:=Lib.hid (HXr.out.below hb5)
  have HRs:=Lib.hid (HRr.out.below hb5)
  have hbs:=Lib.hid (jb hbr.out hb5)
  clear hb5 x0 x1 x2 x3 x4 xl HXr HRr hbr
  by_cases hlt:L≤D
  ·have t1:decide (L≤D)=true:=decide_eq_true hlt
   obtain⟨x0,x1,x2,x3,x4⟩:=zu HXs.out
   have xl:=HXs.out.lt
   go_wp2_with fail
   refine(HL1.out w5 hbs.out).mono ?_
   rintro e w6 ⟨rfl,hb6⟩
   have hbt:=Lib.hid (jb hbs.out hb6)
   have hm1:m+1<c.mo.length:=by
    by_cases h:m+1<c.mo.length
    ·exact h
    ·have e:m+1=c.mo.length:=by omega
     have a:=HPm.out
     rw[e,HPA.out] at a
     have:=hN1.out
     have:=HDD.out
     omega
   clear hb6 x0 x1 x2 x3 x4 xl HXs HRs hbs
   go_wp2_with fail
   go_roundw
   case rel=>exact⟨m+1,hm1,by go_num,by rw[HPm.out];congr 1;have:=HDD.out;omega,by rw[HPm.out];have:=HDD.out;omega,hbt⟩
   case measure=>simp[intOf];omega
  ·have t1:decide (L≤D)=false:=decide_eq_false hlt
   have HO:=Lib.hid (HONm.out (by omega) hD.out)
   have r0:w5.cell? ⟨g+1+1,0,none⟩=some (.int .i64 0):=HRs.out.cell 0
   have r1:w5.cell? ⟨g+1+1,1,none⟩=some (.int .i64 0):=HRs.out.cell 1
   have r2:w5.cell? ⟨g+1+1,2,none⟩=some (.int .i64 0):=HRs.out.cell 2
   have rf:∀i,w5.frozen? ⟨g+1+1,i,none⟩=false:=fun i=>HRs.out.free i
   have hBf:Below g w w5:=HB3.out.trans (hbs.out.mono (by have:=HX3.out.lt;omega))
   have HBf:=Lib.hid hBf
   clear hBf HXs HRs hbs HONm HPm HL1 hD HDD
   go_wp2_with fail
   refine bodyPost_ret (v:=.tuple #[.agg #[.int .i64 Y,.int .i64 ((m:Int)+1),.int .i64 (D+1)],.int .i64 0]) (by simp[results,Tryz.results89,go_sem,r0,r1,r2]) rfl ?_
   exact⟨by rw[HG.out];exact((HBf.out.setCell (p:=⟨g+1+1,0,none⟩) (show g≤g+1+1 by omega) _).setCell (p:=⟨g+1+1,1,none⟩) (show g≤g+1+1 by omega) _).setCell (p:=⟨g+1+1,2,none⟩) (show g≤g+1+1 by omega) _,.inl ⟨Y,m,D,hy1,hy2,HO.out,rfl⟩⟩
structure CalV (w:World) (c:Cal):Prop where
 r:CalIn w c
 f:CalFit c
 ok:CalOk c
theorem CalV.next {w w':World} {c:Cal} (h:CalV w c) (hb:Below w.heap.size w w'):CalV w' c:=⟨h.r.next hb,h.f,h.ok⟩
theorem QU (c:Cal) (w:World) (h:CalV w c):Calls Tryz.prog 88 #[c.val] w fun e w'=>e = .returned (.int .i64 0)∧Below w.heap.size w w' :=
 (Vm c w h.r h.f).mono fun e w' ⟨E,he,hE,hb⟩=>⟨by rw[he,hE.2 h.ok],hb⟩
theorem jcQ (c:Cal) (y:Int) (w:World) (h:CalV w c):Calls Tryz.prog 90 #[c.val,.int .i64 y] w fun e w'=>e = .returned (.int .i64 (if -10000≤y∧y≤10000 then 0 else 3))∧Below w.heap.size w w':=by
 have HB:=Lib.hid (ja w (Obj.cells c.cells 70))
 have HC:=Lib.hid (QU c _ (h.next HB.out))
 clear h
 by_cases hy : -10000≤y∧y≤10000
 ·rw[if_pos hy]
  have HY:=Lib.hid (fun W=>vx y W)
  rw[decide_eq_true hy] at HY
  clear hy
  go_enter Tryz.func90,Tryz.ntmps90
  go_wp2_with fail
  refine HC.out.mono ?_
  rintro e w1 ⟨rfl,hb⟩
  replace HB:=Lib.hid (jb HB.out hb)
  clear hb HC
  go_wp2_with (go_at_call 116;refine(HY.out _).mono ?_;rintro e w' ⟨rfl,rfl⟩)
  go_ret
  exact⟨rfl,HB.out⟩
 ·rw[if_neg hy]
  have HY:=Lib.hid (fun W=>vx y W)
  rw[decide_eq_false hy] at HY
  clear hy
  go_enter Tryz.func90,Tryz.ntmps90
  go_wp2_with fail
  refine HC.out.mono ?_
  rintro e w1 ⟨rfl,hb⟩
  replace HB:=Lib.hid (jb HB.out hb)
  clear hb HC
  go_wp2_with (go_at_call 116;refine(HY.out _).mono ?_;rintro e w' ⟨rfl,rfl⟩)
  go_ret
  exact⟨rfl,HB.out⟩
theorem Xh (c:Cal) (day:Int) (w:World) (h:CalV w c):Calls Tryz.prog 65 #[c.val,.int .i64 day] w (jeA c day w):=by
 have HB:=Lib.hid (jh w (Obj.cells c.cells 70) (Obj.cells #[.int .i64 0,.int .i64 0,.int .i64 0] 78))
 have HX:=Lib.hid ((Box.new w 70 c.cells).alloc (Obj.cells #[.int .i64 0,.int .i64 0,.int .i64 0] 78))
 have HD:=Lib.hid (Box.new (w.alloc (Obj.cells c.cells 70)) 78 #[.int .i64 0,.int .i64 0,.int .i64 0])
 simp only[World.size_alloc] at HD
 have HV:=Lib.hid (h.next HB.out)
 have HC:=Lib.hid (fun w (h:CalV w c)=>QU c w h)
 have HF:=Lib.hid (fun w (h:CalV w c)=>XH c day w h.r h.ok)
 unfold jeA at *
 clear h
 go_enter Tryz.func65,Tryz.ntmps65
 go_wp2_with fail
 generalize (w.alloc (Obj.cells c.cells 70)).alloc (Obj.cells #[.int .i64 0,.int .i64 0,.int .i64 0] 78)=W0 at *
 generalize hg:w.heap.size=g at *
 have HG:=Lib.hid hg
 clear hg
 refine(HC.out _ HV.out).mono ?_
 rintro e w1 ⟨rfl,hb1⟩
 replace HB:=Lib.hid (show Below g w w1 from HB.out.trans (hb1.mono (by have:=HX.out.lt;omega)))
 replace HX:=Lib.hid (HX.out.below hb1)
 replace HD:=Lib.hid (HD.out.below hb1)
 replace HV:=Lib.hid (HV.out.next hb1)
 clear hb1 HC
 obtain⟨x0,x1,x2,x3,x4⟩:=zu HX.out
 go_wp2_with fail
 refine(HF.out _ HV.out).mono ?_
 rintro e w2 ⟨hb,hc⟩
 have HB2:=Lib.hid (show Below g w w2 from HB.out.trans (hb.mono (by have:=HX.out.lt;omega)))
 have HD2:=Lib.hid (HD.out.below hb)
 clear hb HB HF HV x0 x1 x2 x3 x4
 have r0:w2.cell? ⟨g+1,0,none⟩=some (.int .i64 0):=HD2.out.cell 0
 have r1:w2.cell? ⟨g+1,1,none⟩=some (.int .i64 0):=HD2.out.cell 1
 have r2:w2.cell? ⟨g+1,2,none⟩=some (.int .i64 0):=HD2.out.cell 2
 have rf:∀i,w2.frozen? ⟨g+1,i,none⟩=false:=fun i=>HD2.out.free i
 have hgl:=HD2.out.lt
 rcases hc with⟨y,m,d,h1,h2,h3,rfl⟩|⟨h1,rfl⟩
 ·have HH:=Lib.hid (show -10000≤y∧y≤10000∧IsOn c y m d day from⟨h1,h2,h3⟩)
  clear h1 h2 h3
  go_wp2_with fail
  refine bodyPost_ret (v:=.tuple #[.agg #[.int .i64 y,.int .i64 ((m:Int)+1),.int .i64 (d+1)],.int .i64 0]) (by simp[results,Tryz.results65,go_sem,r0,r1,r2]) rfl ?_
  exact⟨by rw[HG.out];exact((HB2.out.setCell (p:=⟨g+1,0,none⟩) (show g≤g+1 by omega) _).setCell (p:=⟨g+1,1,none⟩) (show g≤g+1 by omega) _).setCell (p:=⟨g+1,2,none⟩) (show g≤g+1 by omega) _,.inl ⟨y,m,d,HH.out.1,HH.out.2.1,HH.out.2.2,rfl⟩⟩
 ·have HH:=Lib.hid h1
  clear h1
  go_wp2_with fail
  refine bodyPost_ret (v:=.tuple #[.agg #[.int .i64 0,.int .i64 0,.int .i64 0],.int .i64 3]) (by simp[results,Tryz.results65,go_sem,r0,r1,r2]) rfl ?_
  exact⟨by rw[HG.out];exact((HB2.out.setCell (p:=⟨g+1,0,none⟩) (show g≤g+1 by omega) _).setCell (p:=⟨g+1,1,none⟩) (show g≤g+1 by omega) _).setCell (p:=⟨g+1,2,none⟩) (show g≤g+1 by omega) _,.inr ⟨HH.out,rfl⟩⟩
theorem K6 (c:Cal) (y:Int) (m:Nat) (hm:m<c.mo.length) (w:World) (h:CalV w c) (h1 : -10000≤y) (h2:y≤10000) :
  Calls Tryz.prog 66 #[c.val,.int .i64 y,.int .i64 ((m:Int)+1)] w fun e w'=>e = .returned (.tuple #[.int .i64 (c.mlen y m),.int .i64 0])∧Below w.heap.size w w':=by
 have HB:=Lib.hid (ja w (Obj.cells c.cells 70))
 have HX:=Lib.hid (Box.new w 70 c.cells)
 have HV:=Lib.hid (h.next HB.out)
 have HC:=Lib.hid (fun w (h:CalV w c)=>jcQ c y w h)
 rw[if_pos ⟨h1,h2⟩] at HC
 have HF:=Lib.hid (fun w (h:CalV w c)=>Ji c y m hm w h.r h.ok (by omega) (by omega))
 have hn2:=h.ok.mo.n2
 clear h h1 h2
 generalize c.mlen y m=R at *
 go_enter Tryz.func66,Tryz.ntmps66
 go_wp2_with fail
 generalize w.alloc (Obj.cells c.cells 70)=W0 at *
 generalize hg:w.heap.size=g at *
 have HG:=Lib.hid hg
 clear hg
 refine(HC.out _ HV.out).mono ?_
 rintro e w1 ⟨rfl,hb1⟩
 replace HB:=Lib.hid (show Below g w w1 from HB.out.trans (hb1.mono (by have:=HX.out.lt;omega)))
 replace HX:=Lib.hid (HX.out.below hb1)
 replace HV:=Lib.hid (HV.out.next hb1)
 clear hb1 HC
 obtain⟨x0,x1,x2,x3,x4⟩:=zu HX.out
 have t1:decide ((m:Int)+1<1)=false:=decide_eq_false (by omega)
 have t2:decide ((c.mo.length:Int)<(m:Int)+1)=false:=decide_eq_false (by omega)
 go_wp2_with fail
 refine(HF.out _ HV.out).mono ?_
 rintro e w2 ⟨rfl,hb⟩
 have HB2:=Lib.hid (show Below g w w2 from HB.out.trans (hb.mono (by have:=HX.out.lt;omega)))
 clear hb HB HF HV x0 x1 x2 x3 x4
 go_wp2_with fail
 go_ret2
 exact⟨rfl,by rw[HG.out];exact HB2.out⟩
abbrev Yb (y m d:Int):Array Value:=#[.int .i64 y,.int .i64 m,.int .i64 d]
end Go.Proofs.YtkkjaaognefeiaaGreatDoor
