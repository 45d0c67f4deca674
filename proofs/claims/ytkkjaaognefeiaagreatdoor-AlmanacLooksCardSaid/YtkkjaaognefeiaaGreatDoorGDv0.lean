/- Dv0, Dv1 -/
import Derived.Laws.Bits64
import Derived.Laws.Shifts
import Derived.Test.YtkkjaaognefeiaaGreatDoorGLaid
set_option maxRecDepth 100000
set_option maxHeartbeats 16000000
set_option linter.unusedVariables false
set_option linter.unusedSimpArgs false
namespace Go.Proofs.YtkkjaaognefeiaaGreatDoor
section
open Go
theorem vc (n:Int) (h0:0≤n) (h1:n<18446744073709551616):IntKind.u64.wrap n=n:=by
 rw[IntKind.wrap_u64];exact Int.emod_eq_of_lt h0 h1
theorem JW (a v b:Int):IntKind.u64.wrap (IntKind.u64.wrap (IntKind.u64.wrap a+v)-IntKind.u64.wrap b)=IntKind.u64.wrap (a+v-b):=by
 simp only[IntKind.wrap_u64];omega
theorem dv_q (u:Nat) (h:u<18446744073709551616):IntKind.u64.wrap ((u:Int).tdiv 2636718750)=((u/2636718750:Nat):Int):=by
 have e:(u:Int).tdiv 2636718750=((u/2636718750:Nat):Int):=by
  rw[Int.tdiv_eq_ediv_of_nonneg (Int.natCast_nonneg _)];rfl
 rw[e]
 have:=Nat.div_le_self u 2636718750
 exact vc _ (Int.natCast_nonneg _) (by omega)
theorem jfd (u:Nat) (h:u<18446744073709551616):IntKind.u64.wrap ((u:Int)/2636718750)=((u/2636718750:Nat):Int):=by
 have:=dv_q u h
 rwa[Int.tdiv_eq_ediv_of_nonneg (Int.natCast_nonneg _)] at this
theorem dv_r (u:Nat) (h:u<18446744073709551616):IntKind.u64.wrap ((u:Int)-IntKind.u64.wrap (((u/2636718750:Nat):Int)*2636718750))=((u%2636718750:Nat):Int):=by
 have e:=Nat.div_add_mod u 2636718750
 have l:=Nat.mod_lt u (show 0<2636718750 by decide)
 generalize u/2636718750=q at e ⊢
 generalize u%2636718750=r at e l ⊢
 rw[vc ((q:Int)*2636718750) (by omega) (by omega),vc _ (by omega) (by omega)]
 omega
theorem je9 (u:Nat) (h:u<11324620800000000000):¬(4294967296:Int)≤((u/2636718750:Nat):Int):=by
 have:u/2636718750<4294967296:=Nat.div_lt_of_lt_mul (by omega)
 omega
theorem je7 (u:Nat) (h:u<18446744073709551616):IntKind.u64.wrap ((u:Int)-((u/2636718750:Nat):Int)*2636718750)=((u%2636718750:Nat):Int):=by
 have e:=dv_r u h
 simp only[IntKind.wrap_u64] at e ⊢
 omega
theorem jfb (a v b c:Int) (h:IntKind.u64.wrap (IntKind.u64.wrap (IntKind.u64.wrap a+v)-IntKind.u64.wrap b)=c):IntKind.u64.wrap (a+v-b)=c:=by rw[←JW];exact h
theorem J3 (a v c:Int) (h:IntKind.u64.wrap (IntKind.u64.wrap a+v)=c):IntKind.u64.wrap (a+v)=c:=by
 rw[←h];simp only[IntKind.wrap_u64];omega
theorem dv_x (u v:Nat) (hv:v<4294967296):IntKind.u64.wrap (IntKind.u64.wrap (IntKind.u64.wrap ((u:Int)*4294967296)+(v:Int))-IntKind.u64.wrap (((u/2636718750:Nat):Int)*11324620800000000000))=((u%2636718750*4294967296+v:Nat):Int):=by
 rw[JW]
 have e:=Nat.div_add_mod u 2636718750
 have l:=Nat.mod_lt u (show 0<2636718750 by decide)
 generalize u/2636718750=q at e ⊢
 generalize u%2636718750=r at e l ⊢
 have:(u:Int)*4294967296+(v:Int)-(q:Int)*11324620800000000000=((r*4294967296+v:Nat):Int):=by omega
 rw[this,vc _ (by omega) (by omega)]
theorem ZT (a b:Nat) (ha:a<4294967296) (hb:b<4294967296):IntKind.u64.wrap (IntKind.u64.wrap ((a:Int)*4294967296)+(b:Int))=((a*4294967296+b:Nat):Int):=by
 rw[vc ((a:Int)*4294967296) (by omega) (by omega),vc _ (by omega) (by omega)]
 omega
theorem jfR (N Q R:Nat) (a:Q*86400000000000+R=N) (b:R<86400000000000):N/86400000000000=Q∧N%86400000000000=R:=by
 subst a
 constructor
 ·rw[Nat.mul_comm,Nat.mul_add_div (by decide),Nat.div_eq_of_lt b,Nat.add_zero]
 ·rw[Nat.mul_comm,Nat.mul_add_mod,Nat.mod_eq_of_lt b]
theorem jbC (N A Y R:Nat) (s:A*131072+Y=N*131072) (hR:R=Y/131072):A+R=N:=by omega
theorem dv_r1 (Y R:Nat) (h:Y<11324620800000000000) (hR:R=Y/131072):R<86400000000000:=by omega
theorem dv_y (r v Y:Nat) (h:Y=r*4294967296+v) (l0:v<4294967296) (l1:r<2636718750):Y<11324620800000000000:=by omega
theorem dv_s1 (u v v1 v0:Nat) (e2:v1*4294967296+v0=v):u*18446744073709551616+v=(u*4294967296+v1)*4294967296+v0:=by
 have:u*18446744073709551616=u*4294967296*4294967296:=by rw[Nat.mul_assoc]
 rw[this,Nat.add_mul,←e2,Nat.add_assoc]
theorem jfe (u q r v x:Nat) (e3:2636718750*q+r=u) (hx:x=r*4294967296+v):u*4294967296+v=q*11324620800000000000+x:=by
 have:2636718750*q*4294967296=q*11324620800000000000:=by rw[Nat.mul_comm 2636718750,Nat.mul_assoc]
 rw[←e3,Nat.add_mul,this,hx,Nat.add_assoc]
theorem dv_s3 (q1 q0 Q:Nat) (hQ:Q=q1*4294967296+q0):q1*11324620800000000000*4294967296+q0*11324620800000000000=Q*86400000000000*131072:=by
 have a:q1*11324620800000000000*4294967296=q1*4294967296*11324620800000000000:=by rw[Nat.mul_assoc,Nat.mul_assoc]
 have b:Q*86400000000000*131072=Q*11324620800000000000:=by rw[Nat.mul_assoc]
 rw[a,b,hQ,Nat.add_mul]
theorem jfn (N u v v1 v0 q1 r1 x q0 r0 Q Y R:Nat) (e1:N*131072=u*18446744073709551616+v) (e2:v1*4294967296+v0=v) (e3:2636718750*q1+r1=u) (e4:x=r1*4294967296+v1) (e5:2636718750*q0+r0=x) (l0:v0<4294967296) (l1:r0<2636718750) (hQ:Q=q1*4294967296+q0) (hY:Y=r0*4294967296+v0) (hR:R=Y/131072) :
  N/86400000000000=Q∧N%86400000000000=R:=by
 have s1:=dv_s1 u v v1 v0 e2
 have s2:=jfe u q1 r1 v1 x e3 e4
 have s3:=jfe x q0 r0 v0 Y e5 hY
 have s4:=dv_s3 q1 q0 Q hQ
 refine jfR N Q R (jbC N _ Y R ?_ hR) (dv_r1 Y R (dv_y r0 v0 Y hY l0 l1) hR)
 rw[e1,s1,s2,Nat.add_mul,Nat.add_assoc,s3,←Nat.add_assoc,s4]
end
section
open Go Go.RowKit
theorem jcO (a b:Nat) (ha:a<2^47) (hb:b<2^17):bits .or .u64 ((a*131072:Nat):Int) ((b:Nat):Int)=((a*131072+b:Nat):Int):=by
 have h1:(a*131072) ||| b=a*131072+b:=by
  have:=Nat.shiftLeft_add_eq_or_of_lt (b:=b) (i:=17) hb a
  rw[Nat.shiftLeft_eq] at this
  exact this.symm
 show IntKind.u64.wrap (((BitVec.ofInt 64 ((a*131072:Nat):Int)) ||| (BitVec.ofInt 64 ((b:Nat):Int))).toNat:Int)=_
 rw[BitVec.toNat_or]
 have e1:(BitVec.ofInt 64 ((a*131072:Nat):Int)).toNat=a*131072:=by rw[BitVec.toNat_ofInt];omega
 have e2:(BitVec.ofInt 64 ((b:Nat):Int)).toNat=b:=by rw[BitVec.toNat_ofInt];omega
 rw[e1,e2,h1,IntKind.wrap_u64]
 omega
theorem jeX (a:Nat):bits .and .u64 ((a:Nat):Int) 4294967295=((a%4294967296:Nat):Int):=by
 show IntKind.u64.wrap (((BitVec.ofInt 64 ((a:Nat):Int)) &&& (BitVec.ofInt 64 4294967295)).toNat:Int)=_
 rw[BitVec.toNat_and]
 have e1:(BitVec.ofInt 64 ((a:Nat):Int)).toNat=a%2^64:=by rw[BitVec.toNat_ofInt];omega
 have e2:(BitVec.ofInt 64 4294967295).toNat=2^32-1:=by decide
 rw[e1,e2,Nat.and_two_pow_sub_one_eq_mod,Nat.mod_mod_of_dvd _ (by decide),IntKind.wrap_u64]
 omega
theorem jdV (w:World):Calls Tryz.prog 233 #[.int .u64 86400000000000] w fun e w'=>e = .returned (.int .i64 47)∧w'=w:=by
 go_enter Tryz.func233,Tryz.ntmps233
 go_wp2_with fail
 go_ret
 exact⟨by kernel_rfl,rfl⟩
theorem je3 (w:World):Calls Tryz.prog 219 #[.int .u64 86400000000000] w fun e w'=>e = .returned (.int .i64 17)∧w'=w:=by
 go_enter Tryz.func219,Tryz.ntmps219
 go_wp2_with (go_at_call 233;refine(jdV _).mono ?_;rintro e w' ⟨rfl,rfl⟩)
 all_goals (go_ret;exact⟨rfl,rfl⟩)
theorem Yg (lo:Nat) (hlo:lo<18446744073709551616) (w:World):Calls Tryz.prog 206 #[.int .u64 0,.int .u64 (lo:Int),.int .u64 86400000000000] w fun e w'=>e = .returned (.tuple #[.int .u64 ((lo/86400000000000:Nat):Int),.int .u64 ((lo%86400000000000:Nat):Int)])∧∃n,w'=w.drewN n:=by
 have h1:((lo:Int).tdiv 86400000000000)=((lo/86400000000000:Nat):Int):=by rw[Int.tdiv_eq_ediv_of_nonneg (by omega)];omega
 have h2:((lo:Int).tmod 86400000000000)=((lo%86400000000000:Nat):Int):=by rw[Int.tmod_eq_emod_of_nonneg (by omega)];omega
 go_enter Tryz.func206,Tryz.ntmps206
 go_wp2
 go_quiet (fail)
 go_wp2
 go_ret2
 exact⟨by simp,_,rfl⟩
theorem jaC (hi lo:Nat) (h0:0<hi) (h1:hi<86400000000000) (hlo:lo<18446744073709551616) (w:World):Calls Tryz.prog 206 #[.int .u64 (hi:Int),.int .u64 (lo:Int),.int .u64 86400000000000] w fun e w'=>e = .returned (.tuple #[.int .u64 (((hi*18446744073709551616+lo)/86400000000000:Nat):Int),.int .u64 (((hi*18446744073709551616+lo)%86400000000000:Nat):Int)])∧∃n,w'=w.drewN n:=by
 have n0:¬(hi:Int)=0:=by omega
 have n1:¬(86400000000000:Int)≤(hi:Int):=by omega
 obtain⟨u,hu⟩:∃u,u=hi*131072+lo/140737488355328:=⟨_,rfl⟩
 obtain⟨v,hv⟩:∃v,v=lo*131072%18446744073709551616:=⟨_,rfl⟩
 have ul:u<11324620800000000000:=by omega
 have vl:v<18446744073709551616:=by omega
 obtain⟨N,hN⟩:∃N,N=hi*18446744073709551616+lo:=⟨_,rfl⟩
 have e1:N*131072=u*18446744073709551616+v:=by omega
 rw[←hN]
 clear hN
 have f1:bits .or .u64 ((hi:Int)*131072) ((lo:Int)/140737488355328)=(u:Int):=by
  have:=jcO hi (lo/140737488355328) (by omega) (by omega)
  rw[hu,←this]
  congr 1
 have f2:IntKind.u64.wrap ((lo:Int)*131072)=(v:Int):=by rw[IntKind.wrap_u64,hv];omega
 clear hu hv
 obtain⟨v1,hv1⟩:∃v1,v1=v/4294967296:=⟨_,rfl⟩
 obtain⟨v0,hv0⟩:∃v0,v0=v%4294967296:=⟨_,rfl⟩
 have v1l:v1<4294967296:=by rw[hv1];exact Nat.div_lt_of_lt_mul vl
 have v0l:v0<4294967296:=by rw[hv0];exact Nat.mod_lt _ (by decide)
 have e2:v1*4294967296+v0=v:=by rw[hv1,hv0];exact Nat.div_add_mod' v 4294967296
 have f3:(v:Int)/4294967296=(v1:Int):=by rw[hv1];rfl
 have f4:bits .and .u64 (v:Int) 4294967295=(v0:Int):=by rw[jeX,hv0]
 clear hv1 hv0
 have f5:bits .and .u64 11324620800000000000 4294967295=0:=by decide
 have f6:=jfd u (by omega)
 have f7:=je7 u (by omega)
 have f8:=dv_x u v1 v1l
 have d1:=je9 u ul
 have e3:=Nat.div_add_mod u 2636718750
 have rl:=Nat.mod_lt u (show 0<2636718750 by decide)
 generalize u/2636718750=q1 at f6 f7 f8 d1 e3
 generalize u%2636718750=r1 at f7 f8 e3 rl
 obtain⟨x,hx⟩:∃x,x=r1*4294967296+v1:=⟨_,rfl⟩
 rw[←hx] at f8
 have xl:x<11324620800000000000:=by omega
 have f9:=jfd x (by omega)
 have f10:=je7 x (by omega)
 have f11:=dv_x x v0 v0l
 have d2:=je9 x xl
 have e5:=Nat.div_add_mod x 2636718750
 have rl0:=Nat.mod_lt x (show 0<2636718750 by decide)
 generalize x/2636718750=q0 at f9 f10 f11 d2 e5
 generalize x%2636718750=r0 at f10 f11 e5 rl0
 have f12:=ZT q1 q0 (by omega) (by omega)
 obtain⟨Q,hQ⟩:∃Q,Q=q1*4294967296+q0:=⟨_,rfl⟩
 obtain⟨Y,hY⟩:∃Y,Y=r0*4294967296+v0:=⟨_,rfl⟩
 obtain⟨R,hR⟩:∃R,R=Y/131072:=⟨_,rfl⟩
 rw[←hQ] at f12
 rw[←hY] at f11
 have f13:(Y:Int)/131072=(R:Int):=by rw[hR];rfl
 obtain⟨a1,a2⟩:=jfn N u v v1 v0 q1 r1 x q0 r0 Q Y R e1 e2 e3 hx e5 v0l rl0 hQ hY hR
 rw[a1,a2]
 have f14:IntKind.u64.wrap (IntKind.u64.wrap (4294967296*(r1:Int))+(v1:Int))=(x:Int):=by
  rw[Int.mul_comm,ZT r1 v1 (Nat.lt_trans rl (by decide)) v1l,hx]
 have f15:IntKind.u64.wrap (IntKind.u64.wrap (4294967296*(r0:Int))+(v0:Int))=(Y:Int):=by
  rw[Int.mul_comm,ZT r0 v0 (Nat.lt_trans rl0 (by decide)) v0l,hY]
 have g8:=jfb _ _ _ _ f8
 have g11:=jfb _ _ _ _ f11
 have g12:=J3 _ _ _ f12
 have g14:=J3 _ _ _ f14
 have g15:=J3 _ _ _ f15
 have d3:¬(x:Int)<0:=Int.not_lt.2 (Int.natCast_nonneg _)
 have d1':decide ((4294967296:Int)≤(q1:Int))=false:=decide_eq_false d1
 have d2':decide ((4294967296:Int)≤(q0:Int))=false:=decide_eq_false d2
 have d3':decide ((x:Int)<0)=false:=decide_eq_false d3
 have d4':decide ((Y:Int)<0)=false:=decide_eq_false (Int.not_lt.2 (Int.natCast_nonneg _))
 clear d1 d2 d3
 clear e1 e2 e3 e5 hx a1 a2 ul vl v1l v0l rl rl0 xl hQ hY hR
 go_enter Tryz.func206,Tryz.ntmps206
 go_wp2_with (go_at_call 219;refine(je3 _).mono ?_;rintro e w' ⟨rfl,rfl⟩)
 refine wp_loop_once ?_
 have ws:∀a b:Int,IntKind.u64.wrap (a-IntKind.u64.wrap b)=IntKind.u64.wrap (a-b):=fun a b=>by clear f1 f2 f3 f4 f5 f6 f7 f8 f9 f10 f11 f12 f13 f14 f15 g8 g11 g12 g14 g15;simp only[IntKind.wrap_u64];omega
 simp only[ws,f7]
 go_wp2_with fail
 try simp only[ws,f10]
 clear ws
 refine wp_loop_once ?_
 go_wp2_with fail
 go_ret2
 exact⟨rfl,0,rfl⟩
end
end Go.Proofs.YtkkjaaognefeiaaGreatDoor
