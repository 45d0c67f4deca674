/- Fs0, Fl0, Words -/
import Derived.Laws.Externs
import Derived.Laws.Bits64
import Derived.Deep.DeepCutAuto
import Derived.Laws.OwnMore
import Derived.Deep.AppendLies
import Derived.Maps.AppendAt
import Derived.Test.YtkkjaaognefeiaaGreatDoorGLaid
set_option maxRecDepth 100000
set_option maxHeartbeats 16000000
set_option linter.unusedVariables false
set_option linter.unusedSimpArgs false
namespace Go.Proofs.YtkkjaaognefeiaaGreatDoor
section
open Ieee
abbrev fA (x y:Nat):=floatBits .add .f64 x y
abbrev fS (x y:Nat):=floatBits .sub .f64 x y
abbrev fM (x y:Nat):=floatBits .mul .f64 x y
abbrev fQ (x y:Nat):=floatBits .quo .f64 x y
abbrev Qx:Nat:=4607182418800017408
abbrev jc9:Nat:=4602678819172646912
abbrev Xp:Nat:=4460209587652500685
abbrev X3:Nat:=13666448263388469915
abbrev X9:Nat:=13716528389658582877
abbrev Xn:Nat:=4477121864728985349
abbrev X8:Nat:=4523617212962785441
abbrev Yj:Nat:=13732177093698800582
abbrev XE:Nat:=13774824197404483331
abbrev XN:Nat:=4537941361668146421
abbrev Yn:Nat:=4575957461383575504
abbrev XP:Nat:=13787419979223748497
abbrev Xq:Nat:=13818544856648471880
abbrev XL:Nat:=4586165620538955083
theorem YB {B C x:Nat} (h:Lb B x) (hB:B≤C*2^1074) (q:IntKind) (hq:(∀n:Int,n.natAbs≤C→q.min≤n∧n≤q.max)∨(Nn x∧∀n:Int,0≤n→n.natAbs≤C→q.min≤n∧n≤q.max)):∃n,floatToIntVal .f64 x q=some n∧n.natAbs≤C∧(Nn x→0≤n):=by
 obtain⟨s,k,e,l,z⟩:=Xb h .zero hB
 have e0:Datum.toInt .zero (FloatKind.decode .f64 x)=some (signed s k 0):=by
  show(match Datum.integral .zero (Ieee.double.read x) with | .number s m _=>some (signed s m 0)|_=>none)=_
  rw[e]
 have en:(signed s k 0).natAbs≤C:=by
  unfold signed
  rw[Nat.shiftLeft_zero]
  cases s<;>simp<;>exact l
 have ez:Nn x→0≤signed s k 0:=fun hn=>by
  unfold signed
  rw[Nat.shiftLeft_zero]
  rcases z hn with g|g
  ·rw[g];simp
  ·rw[g];cases s<;>simp
 refine⟨_,?_,en,ez⟩
 unfold floatToIntVal
 rw[e0]
 dsimp only
 rcases hq with hq|⟨hn,hq⟩
 ·rw[if_pos (hq _ en)]
 ·rw[if_pos (hq _ (ez hn) en)]
theorem Jc {B C x:Nat} (h:Lb B x) (way:Toward) (hB:B≤C*2^1074) (hC:C≤2^52):Lb (C*2^1074) (FloatKind.f64.encode ((FloatKind.f64.decode x).integral way)):=by
 obtain⟨s,k,e,l,z⟩:=Xb h way hB
 show Lb _ (Ieee.double.write (Datum.integral way (Ieee.double.read x)))
 rw[e]
 obtain⟨m',p',e3,l3,_⟩:=yT s k 0 0 C 1074 hC (by decide) (by rw[Nat.zero_add,Nat.pow_zero,Nat.mul_one];exact Nat.mul_le_mul_right _ l)
 exact⟨s,m',p',e3,l3⟩
def jfV (z zz:Nat):Option Nat :=
 (fM z zz).bind fun a0=>(fM Xp zz).bind fun b0=>(fA b0 X9).bind fun b1=>(fM b1 zz).bind fun c1=>(fA c1 X8).bind fun b2=>(fM b2 zz).bind fun c2=>(fA c2 XE).bind fun b3=>(fM b3 zz).bind fun c3=>(fA c3 Yn).bind fun b4=>(fM b4 zz).bind fun c4=>(fA c4 Xq).bind fun b5=>(fM a0 b5).bind fun d=>fA z d
theorem xW {z zz:Nat} (hz:Lb (143*2^1071) z) (hzz:Lb (320*2^1074) zz):∃a0 b0 b1 c1 b2 c2 b3 c3 b4 c4 b5 d r:Nat,fM z zz=some a0∧fM Xp zz=some b0∧fA b0 X9=some b1∧fM b1 zz=some c1∧fA c1 X8=some b2∧fM b2 zz=some c2∧fA c2 XE=some b3∧fM b3 zz=some c3∧fA c3 Yn=some b4∧fM b4 zz=some c4∧fA c4 Xq=some b5∧fM a0 b5=some d∧fA z d=some r∧jfV z zz=some r∧Lb (1*2^1098) r:=by
 have k0:Lb (1*2^1042) Xp:=qc (by decide +kernel)
 have k1:Lb (1*2^1049) X9:=qc (by decide +kernel)
 have k2:Lb (1*2^1056) X8:=qc (by decide +kernel)
 have k3:Lb (1*2^1062) XE:=qc (by decide +kernel)
 have k4:Lb (1*2^1068) Yn:=qc (by decide +kernel)
 have k5:Lb (1*2^1072) Xq:=qc (by decide +kernel)
 obtain⟨a0,ga0,la0,_⟩:=jV (b:=5720) (t:=1074) hz hzz (by decide) (by decide) (by decide +kernel)
 obtain⟨b0,gb0,lb0,_⟩:=jV (b:=320) (t:=1042) k0 hzz (by decide) (by decide) (by decide +kernel)
 obtain⟨b1,gb1,lb1⟩:=qt (b:=4) (t:=1049) lb0 k1 (by decide) (by decide) (by decide +kernel)
 obtain⟨c1,gc1,lc1,_⟩:=jV (b:=1280) (t:=1049) lb1 hzz (by decide) (by decide) (by decide +kernel)
 obtain⟨b2,gb2,lb2⟩:=qt (b:=11) (t:=1056) lc1 k2 (by decide) (by decide) (by decide +kernel)
 obtain⟨c2,gc2,lc2,_⟩:=jV (b:=3520) (t:=1056) lb2 hzz (by decide) (by decide) (by decide +kernel)
 obtain⟨b3,gb3,lb3⟩:=qt (b:=56) (t:=1062) lc2 k3 (by decide) (by decide) (by decide +kernel)
 obtain⟨c3,gc3,lc3,_⟩:=jV (b:=17920) (t:=1062) lb3 hzz (by decide) (by decide) (by decide +kernel)
 obtain⟨b4,gb4,lb4⟩:=qt (b:=281) (t:=1068) lc3 k4 (by decide) (by decide) (by decide +kernel)
 obtain⟨c4,gc4,lc4,_⟩:=jV (b:=89920) (t:=1068) lb4 hzz (by decide) (by decide) (by decide +kernel)
 obtain⟨b5,gb5,lb5⟩:=qt (b:=5621) (t:=1072) lc4 k5 (by decide) (by decide) (by decide +kernel)
 obtain⟨d,gd,ld,_⟩:=jV (b:=8038030) (t:=1074) la0 lb5 (by decide) (by decide) (by decide +kernel)
 obtain⟨r,gr,lr⟩:=qt (b:=8038048) (t:=1074) hz ld (by decide) (by decide) (by decide +kernel)
 refine⟨a0,b0,b1,c1,b2,c2,b3,c3,b4,c4,b5,d,r,ga0,gb0,gb1,gc1,gb2,gc2,gb3,gc3,gb4,gc4,gb5,gd,gr,?_,lr.mono (by decide +kernel)⟩
 unfold jfV
 simp only[ga0,gb0,gb1,gc1,gb2,gc2,gb3,gc3,gb4,gc4,gb5,gd,gr,Option.bind_some]
def jfv (zz:Nat):Option Nat :=
 (fM jc9 zz).bind fun e1=>(fS Qx e1).bind fun e2=>(fM zz zz).bind fun a0=>(fM X3 zz).bind fun b0=>(fA b0 Xn).bind fun b1=>(fM b1 zz).bind fun c1=>(fA c1 Yj).bind fun b2=>(fM b2 zz).bind fun c2=>(fA c2 XN).bind fun b3=>(fM b3 zz).bind fun c3=>(fA c3 XP).bind fun b4=>(fM b4 zz).bind fun c4=>(fA c4 XL).bind fun b5=>(fM a0 b5).bind fun d=>fA e2 d
theorem xP {zz:Nat} (hzz:Lb (320*2^1074) zz):∃e1 e2 a0 b0 b1 c1 b2 c2 b3 c3 b4 c4 b5 d r:Nat,fM jc9 zz=some e1∧fS Qx e1=some e2∧fM zz zz=some a0∧fM X3 zz=some b0∧fA b0 Xn=some b1∧fM b1 zz=some c1∧fA c1 Yj=some b2∧fM b2 zz=some c2∧fA c2 XN=some b3∧fM b3 zz=some c3∧fA c3 XP=some b4∧fM b4 zz=some c4∧fA c4 XL=some b5∧fM a0 b5=some d∧fA e2 d=some r∧jfv zz=some r∧Lb (1*2^1098) r:=by
 have k0:Lb (1*2^1038) X3:=qc (by decide +kernel)
 have k1:Lb (1*2^1046) Xn:=qc (by decide +kernel)
 have k2:Lb (1*2^1053) Yj:=qc (by decide +kernel)
 have k3:Lb (1*2^1059) XN:=qc (by decide +kernel)
 have k4:Lb (1*2^1065) XP:=qc (by decide +kernel)
 have k5:Lb (1*2^1070) XL:=qc (by decide +kernel)
 have kh:Lb (1*2^1073) jc9:=qc (by decide +kernel)
 have ko:Lb (1*2^1074) Qx:=qc (by decide +kernel)
 obtain⟨e1,ge1,le1,_⟩:=jV (b:=160) (t:=1074) kh hzz (by decide) (by decide) (by decide +kernel)
 obtain⟨e2,ge2,le2⟩:=J6 (b:=161) (t:=1074) ko le1 (by decide) (by decide) (by decide +kernel)
 obtain⟨a0,ga0,la0,_⟩:=jV (b:=102400) (t:=1074) hzz hzz (by decide) (by decide) (by decide +kernel)
 obtain⟨b0,gb0,lb0,_⟩:=jV (b:=320) (t:=1038) k0 hzz (by decide) (by decide) (by decide +kernel)
 obtain⟨b1,gb1,lb1⟩:=qt (b:=3) (t:=1046) lb0 k1 (by decide) (by decide) (by decide +kernel)
 obtain⟨c1,gc1,lc1,_⟩:=jV (b:=960) (t:=1046) lb1 hzz (by decide) (by decide) (by decide +kernel)
 obtain⟨b2,gb2,lb2⟩:=qt (b:=9) (t:=1053) lc1 k2 (by decide) (by decide) (by decide +kernel)
 obtain⟨c2,gc2,lc2,_⟩:=jV (b:=2880) (t:=1053) lb2 hzz (by decide) (by decide) (by decide +kernel)
 obtain⟨b3,gb3,lb3⟩:=qt (b:=46) (t:=1059) lc2 k3 (by decide) (by decide) (by decide +kernel)
 obtain⟨c3,gc3,lc3,_⟩:=jV (b:=14720) (t:=1059) lb3 hzz (by decide) (by decide) (by decide +kernel)
 obtain⟨b4,gb4,lb4⟩:=qt (b:=231) (t:=1065) lc3 k4 (by decide) (by decide) (by decide +kernel)
 obtain⟨c4,gc4,lc4,_⟩:=jV (b:=73920) (t:=1065) lb4 hzz (by decide) (by decide) (by decide +kernel)
 obtain⟨b5,gb5,lb5⟩:=qt (b:=2311) (t:=1070) lc4 k5 (by decide) (by decide) (by decide +kernel)
 obtain⟨d,gd,ld,_⟩:=jV (b:=14790400) (t:=1074) la0 lb5 (by decide) (by decide) (by decide +kernel)
 obtain⟨r,gr,lr⟩:=qt (b:=14790561) (t:=1074) le2 ld (by decide) (by decide) (by decide +kernel)
 refine⟨e1,e2,a0,b0,b1,c1,b2,c2,b3,c3,b4,c4,b5,d,r,ge1,ge2,ga0,gb0,gb1,gc1,gb2,gc2,gb3,gc3,gb4,gc4,gb5,gd,gr,?_,lr.mono (by decide +kernel)⟩
 unfold jfv
 simp only[ge1,ge2,ga0,gb0,gb1,gc1,gb2,gc2,gb3,gc3,gb4,gc4,gb5,gd,gr,Option.bind_some]
theorem jdI {x:Nat} (hx:Lb (65*2^1071) x) (hn:Nn x):∃(p:Nat) (j:Int),fM x 4608412980311869571=some p∧floatToIntVal .f64 p .u64=some j∧0≤j∧j≤11:=by
 have k:Lb (41*2^1069) 4608412980311869571:=qc (by decide +kernel)
 obtain⟨p,gp,lp,np⟩:=jV (b:=21) (t:=1073) hx k (by decide) (by decide) (by decide +kernel)
 have hp:=np hn (Jk (by decide +kernel))
 obtain⟨j,gj,lj,nj⟩:=YB (C:=11) lp (by decide +kernel) .u64 (.inr ⟨hp,fun n h0 h1=>⟨h0,by show n≤18446744073709551615;omega⟩⟩)
 have:=nj hp
 exact⟨p,j,gp,gj,this,by omega⟩
theorem yq {x y:Nat} (hx:Lb (65*2^1071) x) (hy:Lb (12*2^1074) y):∃u1 z1 u2 z2 u3 z zz:Nat,fM y 4605249456957292544=some u1∧fS x u1=some z1∧fM y 4495793288086814720=some u2∧fS z1 u2=some z2∧fM y 4388835458085048688=some u3∧fS z2 u3=some z∧fM z z=some zz∧Lb (143*2^1071) z∧Lb (320*2^1074) zz:=by
 have k1:Lb (101*2^1067) 4605249456957292544:=qc (by decide +kernel)
 have k2:Lb (1*2^1050) 4495793288086814720:=qc (by decide +kernel)
 have k3:Lb (1*2^1050) 4388835458085048688:=qc (by decide +kernel)
 obtain⟨u1,g1,l1,_⟩:=jV (b:=19) (t:=1073) hy k1 (by decide) (by decide) (by decide +kernel)
 obtain⟨z1,g2,l2⟩:=J6 (b:=141) (t:=1071) hx l1 (by decide) (by decide) (by decide +kernel)
 obtain⟨u2,g3,l3,_⟩:=jV (b:=1) (t:=1054) hy k2 (by decide) (by decide) (by decide +kernel)
 obtain⟨z2,g4,l4⟩:=J6 (b:=142) (t:=1071) l2 l3 (by decide) (by decide) (by decide +kernel)
 obtain⟨u3,g5,l5,_⟩:=jV (b:=1) (t:=1054) hy k3 (by decide) (by decide) (by decide +kernel)
 obtain⟨z,g6,l6⟩:=J6 (b:=143) (t:=1071) l4 l5 (by decide) (by decide) (by decide +kernel)
 obtain⟨zz,g7,l7,_⟩:=jV (b:=320) (t:=1074) l6 l6 (by decide) (by decide) (by decide +kernel)
 exact⟨u1,z1,u2,z2,u3,z,zz,g1,g2,g3,g4,g5,g6,g7,l6,l7⟩
def kD (x y:Nat):Option Nat:=(fM y 4605249456957292544).bind fun u1=>(fS x u1).bind fun z1=>(fM y 4495793288086814720).bind fun u2=>(fS z1 u2).bind fun z2=>(fM y 4388835458085048688).bind fun u3=>fS z2 u3
def zv (neg:Bool) (x:Nat):Option Nat :=
 (fM x 4608412980311869571).bind fun p=>(floatToIntVal .f64 p .u64).bind fun j =>
  (if j%2=1 then fA (floatOfInt .f64 j) Qx else some (floatOfInt .f64 j)).bind fun y=>(kD x y).bind fun z=>(fM z z).bind fun zz =>
   let j2:=(if j%2=1 then j+1 else j)%8
   let j3:=if 3<j2 then j2-4 else j2
   (if j3=1∨j3=2 then jfv zz else jfV z zz).map fun r=>if (if 3<j2 then !neg else neg) then Op.negFloat .f64 r else r
def jbg (x:Nat):Option Nat :=
 if Ieee.double.order x 0=some .eq then some x
 else if Ieee.double.order x 0=some .lt then zv true (Op.negFloat .f64 x) else zv false x
end
section
open Go Go.RowKit
theorem qE {B x:Nat} (hx:Lb B x) (w:World):Calls Tryz.prog 220 #[.float .f64 x] w fun e w'=>e = .returned (.bool false)∧w'=w:=by
 have ho:FloatKind.f64.format.order x x=some .eq:=YV hx
 go_enter Tryz.func220,Tryz.ntmps220
 go_wp2_with fail
 go_ret
 exact⟨rfl,rfl⟩
theorem yG (b:Nat) (w:World):(callFunc 236 #[.float .f64 b]).run Tryz.prog w = .ok (.value (.int .u64 b)) w:=by
 rw[run_callFunc_extern Tryz.func236 (by kernel_rfl) (by kernel_rfl) (by kernel_rfl) (e:=Extern.MathFloatBits.float64bits) (by kernel_rfl)]
 rfl
theorem ZC (b:Nat) (w:World):(callFunc 235 #[.int .u64 (b:Int)]).run Tryz.prog w = .ok (.value (.float .f64 b)) w:=by
 rw[run_callFunc_extern Tryz.func235 (by kernel_rfl) (by kernel_rfl) (by kernel_rfl) (e:=Extern.MathFloatBits.float64frombits) (by kernel_rfl)]
 rfl
theorem KA {B x:Nat} (hx:Lb B x) (w:World):(callFunc 212 #[.float .f64 x]).run Tryz.prog w = .ok (.value (.float .f64 (FloatKind.f64.encode ((FloatKind.f64.decode x).integral .down)))) w:=by
 obtain⟨s,m,p,e,_⟩:=hx
 have e':FloatKind.f64.decode x=_:=e
 rw[run_callFunc_extern Tryz.func212 (by kernel_rfl) (by kernel_rfl) (by kernel_rfl) (e:=Extern.MathFloor.toIntegral "math.archFloor" .down) (by kernel_rfl)]
 show((Extern.MathFloor.toIntegral.match_1 (fun _=>Sem Value) (FloatKind.f64.decode x) _ _).run Tryz.prog w).andThen _=_
 rw[e']
 rfl
theorem jdl {B x:Nat} (hx:Lb B x) (w:World):(callFunc 214 #[.float .f64 x]).run Tryz.prog w = .ok (.value (.float .f64 (FloatKind.f64.encode ((FloatKind.f64.decode x).integral .up)))) w:=by
 obtain⟨s,m,p,e,_⟩:=hx
 have e':FloatKind.f64.decode x=_:=e
 rw[run_callFunc_extern Tryz.func214 (by kernel_rfl) (by kernel_rfl) (by kernel_rfl) (e:=Extern.MathFloor.toIntegral "math.archCeil" .up) (by kernel_rfl)]
 show((Extern.MathFloor.toIntegral.match_1 (fun _=>Sem Value) (FloatKind.f64.decode x) _ _).run Tryz.prog w).andThen _=_
 rw[e']
 rfl
def Zj (x:Nat):Nat:=FloatKind.f64.encode ((FloatKind.f64.decode x).integral .down)
def Ke (x:Nat):Nat:=FloatKind.f64.encode ((FloatKind.f64.decode x).integral .up)
theorem Ku {B x:Nat} (hx:Lb B x) (w:World):Calls Tryz.prog 197 #[.float .f64 x] w fun e w'=>e = .returned (.float .f64 (Zj x))∧w'=w:=by
 have hop:=KA hx
 go_enter Tryz.func197,Tryz.ntmps197
 go_wp2_with (simp only[hop])
 all_goals (go_ret;exact⟨rfl,rfl⟩)
theorem jcG {B x:Nat} (hx:Lb B x) (w:World):Calls Tryz.prog 198 #[.float .f64 x] w fun e w'=>e = .returned (.float .f64 (Ke x))∧w'=w:=by
 have hop:=jdl hx
 go_enter Tryz.func198,Tryz.ntmps198
 go_wp2_with (simp only[hop])
 all_goals (go_ret;exact⟨rfl,rfl⟩)
theorem jf1 {B x:Nat} (hx:Lb B x):Lb B (x%2^63):=by
 obtain⟨s,m,p,e,l⟩:=hx
 refine⟨false,m,p,?_,l⟩
 rw[JQ] at e ⊢
 have e1:x%2^63/2^63=0:=Nat.div_eq_of_lt (Nat.mod_lt _ (Nat.two_pow_pos _))
 rw[e1,Nat.mod_mod]
 generalize (x/2^63%2==1)=n at e
 generalize x%2^63=r at e
 show rdw false r=_
 unfold rdw at e ⊢
 by_cases a1:r<2^52
 ·rw[if_pos a1] at e ⊢;injection e with _ e2 e3;rw[e2,e3]
 ·rw[if_neg a1] at e ⊢
  by_cases a2:r<2047*2^52
  ·rw[if_pos a2] at e ⊢;injection e with _ e2 e3;rw[e2,e3]
  ·rw[if_neg a2] at e
   by_cases a3:r=2047*2^52
   ·rw[if_pos a3] at e;cases e
   ·rw[if_neg a3] at e;cases e
theorem absop (x:Nat):bits .andNot .u64 (x:Int) 9223372036854775808=((x%2^63:Nat):Int):=by
 have e:(BitVec.ofInt 64 (x:Int) &&& ~~~(BitVec.ofInt 64 9223372036854775808)).toNat=x%2^63:=by
  rw[BitVec.toNat_and]
  have a:(~~~(BitVec.ofInt 64 9223372036854775808)).toNat=2^63-1:=by decide
  have b:(BitVec.ofInt 64 (x:Int)).toNat=x%2^64:=by
   rw[BitVec.toNat_ofInt];omega
  rw[a,b,Nat.and_two_pow_sub_one_eq_mod,Nat.mod_mod_of_dvd _ (by decide)]
 have l:x%2^63<2^63:=Nat.mod_lt _ (Nat.two_pow_pos _)
 have hw:IntKind.u64.wrap ((x%2^63:Nat):Int)=((x%2^63:Nat):Int):=by
  rw[IntKind.wrap_u64]
  omega
 show IntKind.u64.wrap ((BitVec.ofInt 64 (x:Int) &&& ~~~(BitVec.ofInt 64 9223372036854775808)).toNat:Int)=_
 rw[e,hw]
theorem jdQ {B x:Nat} (hx:Lb B x) (w:World):Calls Tryz.prog 234 #[.float .f64 x] w fun e w'=>e = .returned (.float .f64 (x%2^63))∧w'=w:=by
 have h1:=yG x
 have h2:=absop x
 have h3:=ZC (x%2^63)
 generalize x%2^63=y at h2 h3 ⊢
 go_enter Tryz.func234,Tryz.ntmps234
 go_wp2_with (simp only[h1,h2,h3])
 all_goals (go_ret;exact⟨rfl,rfl⟩)
theorem qA {B x:Nat} (hx:Lb B x) (hB:B<2^2000) (w:World):Calls Tryz.prog 221 #[.float .f64 x,.int .i64 0] w fun e w'=>e = .returned (.bool false)∧w'=w:=by
 have hm:Ieee.double.read 9218868437227405311 = .number false (2^53-1) (((2045:Nat):Int)-1074):=by decide +kernel
 have ho:FloatKind.f64.format.order (x%2^63) 9218868437227405311=some .lt:=jK (jf1 hx) hm (Nat.lt_trans hB (by decide +kernel))
 have h1:=jdQ hx
 generalize x%2^63=y at ho h1
 go_enter Tryz.func221,Tryz.ntmps221
 go_wp2_with (go_at_call 234;refine(h1 _).mono ?_;rintro e w' ⟨rfl,rfl⟩)
 all_goals (go_ret;exact⟨rfl,rfl⟩)
end
section
open Go.RowKit
def Row (w:World) (B:Nat) (A:Option Addr) (cs:List Value):Prop :=
 cs=[]∨∃b o,A=some ⟨b,o,none⟩∧b<B∧∀j v,cs[j]?=some v→w.cell? ⟨b,o+j,none⟩=some v
section
variable {w w':World} {B B':Nat} {A:Option Addr} {cs:List Value}
theorem Row.below (h:Row w B A cs) (hb:Below B w w'):Row w' B A cs:=by
 rcases h with h|⟨b,o,e,hB,hc⟩
 ·exact .inl h
 ·exact .inr ⟨b,o,e,hB,fun j v hv=>(hb.cell (p:=⟨b,o+j,none⟩) hB).trans (hc j v hv)⟩
theorem Row.more (h:Row w B A cs) (hB:B≤B'):Row w B' A cs:=by
 rcases h with h|⟨b,o,e,hb,hc⟩
 ·exact .inl h
 ·exact .inr ⟨b,o,e,by omega,hc⟩
theorem Row.next (h:Row w w.heap.size A cs) (hb:Below w.heap.size w w'):Row w' w'.heap.size A cs:=(h.below hb).more hb.size
theorem Row.alloc (h:Row w w.heap.size A cs) (o:Obj):Row (w.alloc o) (w.alloc o).heap.size A cs:=h.next (ja w o)
theorem Row.drewN (h:Row w B A cs) (n:Nat):Row (w.drewN n) B A cs:=h
theorem Row.open_ (h:Row w B A cs) (hn:cs≠[]):∃b o,A=some ⟨b,o,none⟩∧b<B∧∀j v,cs[j]?=some v→w.cell? ⟨b,o+j,none⟩=some v:=by
 rcases h with h|h
 ·exact absurd h hn
 ·exact h
end
def jZ (xs:List Int):List Value:=xs.map (Value.int .i64)
theorem kX (xs:List Int):(jZ xs).length=xs.length:=by simp[jZ]
theorem jdu (xs:List Int) (i:Nat) (h:i<xs.length):(jZ xs)[i]?=some (.int .i64 (xs.getD i 0)):=by
 simp[jZ,List.getD,List.getElem?_eq_getElem h]
theorem yO (xs:List Int) (h:0<xs.length):jZ xs≠[]:=by
 intro e
 have h1:(jZ xs).length=0:=by rw[e];rfl
 rw[kX] at h1
 omega
theorem zC {w:World} {b o:Nat} {xs:List Int} (h:∀j v,(jZ xs)[j]?=some v→w.cell? ⟨b,o+j,none⟩=some v) (i:Nat) (hi:i<xs.length) :
  w.cell? ⟨b,o+i,none⟩=some (.int .i64 (xs.getD i 0)):=h i _ (jdu xs i hi)
theorem jay (xs:List Int) (x:Int):jZ (xs++[x])=jZ xs++[.int .i64 x]:=by simp[jZ]
def Box (w:World) (g:Nat) (t:TypeId) (cs:Array Value):Prop:=w.heap[g]?=some (.cells cs t (0,0))
section
variable {w w':World} {g:Nat} {t:TypeId} {cs:Array Value}
theorem Box.lt (h:Box w g t cs):g<w.heap.size:=by
 rcases Nat.lt_or_ge g w.heap.size with hlt|hge
 ·exact hlt
 ·unfold Box at h;rw[Array.getElem?_eq_none hge] at h;cases h
theorem Box.cell (h:Box w g t cs) (i:Nat):w.cell? ⟨g,i,none⟩=cs[i]?:=cell_of_row w g i cs t (0,0) h
theorem Box.free (h:Box w g t cs) (i:Nat):w.frozen? ⟨g,i,none⟩=false:=frozen_of_row w g i cs t h
theorem Box.new (w:World) (t:TypeId) (cs:Array Value):Box (w.alloc (.cells cs t)) w.heap.size t cs:=heap_alloc_new w _
theorem Box.drewN (h:Box w g t cs) (n:Nat):Box (w.drewN n) g t cs:=h
theorem Box.alloc (h:Box w g t cs) (o:Obj):Box (w.alloc o) g t cs:=(Below.heap_alloc w o g h.lt).trans h
theorem Box.below (h:Box w g t cs) (hb:Below w.heap.size w w'):Box w' g t cs:=(hb.block g h.lt).trans h
theorem Box.belowB {B:Nat} (h:Box w g t cs) (hb:Below B w w') (hg:g<B):Box w' g t cs:=(hb.block g hg).trans h
theorem Box.set_ (h:Box w g t cs) (i:Nat) (u:Value):Box (w.setCell ⟨g,i,none⟩ u) g t (cs.setIfInBounds i u):=by
 unfold Box at h ⊢
 simp[World.setCell,Array.getElem?_modify,h]
theorem Box.far (h:Box w g t cs) {p:Addr} (hp:g≠p.block) (u:Value):Box (w.setCell p u) g t cs:=(Below.heap_setCell w p u g hp).trans h
end
theorem Y6 {a w1 w2:World} {X:Obj} (h:Below a.heap.size a w1) (hb:Below (w1.alloc X).heap.size (w1.alloc X) w2):Below a.heap.size a w2 :=
 (h.alloc h.size X).trans (hb.mono ((h.alloc h.size X).size))
theorem jb {a w1 w2:World} (h:Below a.heap.size a w1) (hb:Below w1.heap.size w1 w2):Below a.heap.size a w2:=h.trans (hb.mono h.size)
theorem jY {w:World} {base:Nat} {e:TypeId} {size n:Nat} {v:Value} {xs:List Value} (h:w.ownsRow base e size v n xs) (k:Nat) (hk:v.ownBlock=some k):base≤k:=by
 rcases h.2 with⟨rfl,_⟩|⟨g,cap,cur,rfl,hb,_⟩
 ·simp[Value.ownBlock] at hk
 ·simp[Value.ownBlock] at hk
  omega
end
end Go.Proofs.YtkkjaaognefeiaaGreatDoor
