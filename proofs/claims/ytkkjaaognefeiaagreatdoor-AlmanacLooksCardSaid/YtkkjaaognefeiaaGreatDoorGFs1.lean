/- Fs1, Fs2 -/
import Derived.Test.YtkkjaaognefeiaaGreatDoorGFs0
set_option maxRecDepth 100000
set_option maxHeartbeats 16000000
set_option linter.unusedVariables false
set_option linter.unusedSimpArgs false
namespace Go.Proofs.YtkkjaaognefeiaaGreatDoor
open Go Go.RowKit
structure TrigT (w:World):Prop where
 s0:w.cell? ⟨10,0,none⟩=some (.float .f64 Xp)
 c0:w.cell? ⟨9,0,none⟩=some (.float .f64 X3)
 s1:w.cell? ⟨10,1,none⟩=some (.float .f64 X9)
 c1:w.cell? ⟨9,1,none⟩=some (.float .f64 Xn)
 s2:w.cell? ⟨10,2,none⟩=some (.float .f64 X8)
 c2:w.cell? ⟨9,2,none⟩=some (.float .f64 Yj)
 s3:w.cell? ⟨10,3,none⟩=some (.float .f64 XE)
 c3:w.cell? ⟨9,3,none⟩=some (.float .f64 XN)
 s4:w.cell? ⟨10,4,none⟩=some (.float .f64 Yn)
 c4:w.cell? ⟨9,4,none⟩=some (.float .f64 XP)
 s5:w.cell? ⟨10,5,none⟩=some (.float .f64 Xq)
 c5:w.cell? ⟨9,5,none⟩=some (.float .f64 XL)
theorem TrigT.next {w w':World} (h:TrigT w) (hb:Below w.heap.size w w'):TrigT w':=by
 have m:∀{g k v},w.cell? ⟨g,k,none⟩=some v→w'.cell? ⟨g,k,none⟩=some v:=fun {g k v} e=>(hb.cell (p:=⟨g,k,none⟩) (block_lt_of_cell e)).trans e
 exact⟨m h.s0,m h.c0,m h.s1,m h.c1,m h.s2,m h.c2,m h.s3,m h.c3,m h.s4,m h.c4,m h.s5,m h.c5⟩
theorem jc (op:BinOp) {x y r:Nat} (h:floatBits op .f64 x y=some r) (t:TypeId) (w:World):(binOp op t (.float .f64 x) (.float .f64 y)).run Tryz.prog w = .ok (.float .f64 r) w:=run_float_arith w op t .f64 x y r h
theorem qv {x:Nat} {q:IntKind} {n:Int} {d:TypeId} (hd:Tryz.prog.underlying d=some (.int q)) (h:floatToIntVal .f64 x q=some n) (w:World):(convert 236 d (.float .f64 x)).run Tryz.prog w = .ok (.int q n) w:=run_convert_float_int w 236 d .f64 q x n (by rw[Tryz.underlying236];rfl) hd h
theorem j5 {q:IntKind} (n:Int) {d:TypeId} (hd:(Tryz.prog.underlying d).isSome=true) (w:World):(convert d 236 (.int q n)).run Tryz.prog w = .ok (.float .f64 (floatOfInt .f64 n)) w:=run_convert_int_float w d 236 q .f64 n hd Tryz.underlying236
theorem xm (x:Nat) (w:World):(Op.unary .neg (.float .f64 x)).run Tryz.prog w = .ok (.float .f64 (Op.negFloat .f64 x)) w:=rfl
theorem nn_gt {B x:Nat} (h:Lb B x) (hn:Nn x) (h0:Ieee.double.order x 0≠some .eq):Ieee.double.order x 0=some .gt:=by
 obtain⟨s,m,p,e,l⟩:=h
 obtain⟨s',m',q',f,g⟩:=hn
 rw[e] at f
 cases f
 rw[yE e KN] at h0 ⊢
 have a:0≤sv s (m*2^p):=by
  rcases g with g|g
  ·subst g;unfold sv;simp;exact Int.mul_nonneg (by omega) (Int.le_of_lt (Int.pow_pos (by decide)))
  ·subst g;unfold sv;cases s<;>simp
 have b:sv false (0*2^0)=0:=rfl
 rw[b] at h0 ⊢
 rcases Int.lt_trichotomy (sv s (m*2^p)) 0 with h|h|h
 ·omega
 ·rw[h] at h0;exact absurd rfl h0
 ·rw[Int.compare_eq_gt.2 h]
theorem Kn {x p:Nat} (hx:Lb (65*2^1071) x) (ho:Ieee.double.order x 0=some .gt) (gp:fM x 4608412980311869571=some p) (gj:floatToIntVal .f64 p .u64=some 0) (w:World) (ht:TrigT w):∃r,zv false x=some r∧Lb (1*2^1098) r∧Calls Tryz.prog 208 #[.float .f64 x] w fun e w'=>e = .returned (.float .f64 r)∧w'=w:=by
 have hf:=(zy (0:Int) (b:=1) (t:=1074) (by decide) (by decide) (by decide +kernel)).1
 have ly:Lb (12*2^1074) (floatOfInt .f64 0):=hf.mono (by decide +kernel)
 generalize hy:floatOfInt .f64 0=y at ly
 obtain⟨u1,z1,u2,z2,u3,z,zz,g1,g2,g3,g4,g5,g6,g7,lz,lzz⟩:=yq hx ly
 obtain⟨a0,b0,b1,c1,b2,c2,b3,c3,b4,c4,b5,d,r,ga0,gb0,gb1,gc1,gb2,gc2,gb3,gc3,gb4,gc4,gb5,gd,gr,gP,lP⟩:=xW lz lzz
 refine⟨r,?_,lP,?_⟩
 ·unfold zv
  rw[gp,Option.bind_some,gj,Option.bind_some]
  rw[if_neg (by decide),hy,Option.bind_some]
  unfold kD
  rw[g1,Option.bind_some,g2,Option.bind_some,g3,Option.bind_some,g4,Option.bind_some,g5,Option.bind_some,g6,Option.bind_some,g7,Option.bind_some]
  simp[gP]
 have rm0:=jc .mul gp
 have rc0:=qv Tryz.underlying262 gj
 have rc1:=j5 (q:=.u64) 0 (d:=262) (by rw[Tryz.underlying262];rfl)
 rw[hy] at rc1
 have r1:=jc .mul g1
 have r2:=jc .sub g2
 have r3:=jc .mul g3
 have r4:=jc .sub g4
 have r5:=jc .mul g5
 have r6:=jc .sub g6
 have r7:=jc .mul g7
 have qa0:=jc .mul ga0
 have qb0:=jc .mul gb0
 have qb1:=jc .add gb1
 have qc1:=jc .mul gc1
 have qb2:=jc .add gb2
 have qc2:=jc .mul gc2
 have qb3:=jc .add gb3
 have qc3:=jc .mul gc3
 have qb4:=jc .add gb4
 have qc4:=jc .mul gc4
 have qb5:=jc .add gb5
 have qd:=jc .mul gd
 have qr:=jc .add gr
 have ho1:FloatKind.f64.format.order x 0=some .gt:=ho
 have hM:Ieee.double.read 4737786807993761792 = .number false (2^52) (((1051:Nat):Int)-1074):=by decide +kernel
 have ho2:FloatKind.f64.format.order x 4737786807993761792=some .lt:=jK hx hM (by decide +kernel)
 have nan:=qE hx
 have inf:=qA hx (by decide +kernel)
 obtain⟨t0,v0,t1,v1,t2,v2,t3,v3,t4,v4,t5,v5⟩:=ht
 clear gp gj hf hy g1 g2 g3 g4 g5 g6 g7 ga0 gb0 gb1 gc1 gb2 gc2 gb3 gc3 gb4 gc4 gb5 gd gr gP lP lz lzz ly hM
 go_enter Tryz.func208,Tryz.ntmps208
 go_wp2_with first
  | (go_at_call 220;refine(nan _).mono ?_;rintro e w' ⟨rfl,rfl⟩)
  | (go_at_call 221;refine(inf _).mono ?_;rintro e w' ⟨rfl,rfl⟩)
  | (simp only[rm0,rc0,rc1,r1,r2,r3,r4,r5,r6,r7,qa0,qb0,qb1,qc1,qb2,qc2,qb3,qc3,qb4,qc4,qb5,qd,qr])
 all_goals (go_ret;exact⟨rfl,rfl⟩)
theorem K7 {x p:Nat} (hx:Lb (65*2^1071) x) (ho:Ieee.double.order x 0=some .gt) (gp:fM x 4608412980311869571=some p) (gj:floatToIntVal .f64 p .u64=some 1) (w:World) (ht:TrigT w):∃r,zv false x=some r∧Lb (1*2^1098) r∧Calls Tryz.prog 208 #[.float .f64 x] w fun e w'=>e = .returned (.float .f64 r)∧w'=w:=by
 have hf:=(zy (1:Int) (b:=1) (t:=1074) (by decide) (by decide) (by decide +kernel)).1
 have ko:Lb (1*2^1074) Qx:=qc (by decide +kernel)
 obtain⟨y,gy,ly⟩:=qt (b:=12) (t:=1074) hf ko (by decide) (by decide) (by decide +kernel)
 obtain⟨u1,z1,u2,z2,u3,z,zz,g1,g2,g3,g4,g5,g6,g7,lz,lzz⟩:=yq hx ly
 obtain⟨e1,e2,a0,b0,b1,c1,b2,c2,b3,c3,b4,c4,b5,d,r,ge1,ge2,ga0,gb0,gb1,gc1,gb2,gc2,gb3,gc3,gb4,gc4,gb5,gd,gr,gP,lP⟩:=xP lzz
 refine⟨r,?_,lP,?_⟩
 ·unfold zv
  rw[gp,Option.bind_some,gj,Option.bind_some]
  rw[if_pos (by decide),show fA _ _=some y from gy,Option.bind_some]
  unfold kD
  rw[g1,Option.bind_some,g2,Option.bind_some,g3,Option.bind_some,g4,Option.bind_some,g5,Option.bind_some,g6,Option.bind_some,g7,Option.bind_some]
  simp[gP]
 have rm0:=jc .mul gp
 have rc0:=qv Tryz.underlying262 gj
 have rc1:=j5 (q:=.u64) 1 (d:=262) (by rw[Tryz.underlying262];rfl)
 have ry:=jc .add gy
 have r1:=jc .mul g1
 have r2:=jc .sub g2
 have r3:=jc .mul g3
 have r4:=jc .sub g4
 have r5:=jc .mul g5
 have r6:=jc .sub g6
 have r7:=jc .mul g7
 have qe1:=jc .mul ge1
 have qe2:=jc .sub ge2
 have qa0:=jc .mul ga0
 have qb0:=jc .mul gb0
 have qb1:=jc .add gb1
 have qc1:=jc .mul gc1
 have qb2:=jc .add gb2
 have qc2:=jc .mul gc2
 have qb3:=jc .add gb3
 have qc3:=jc .mul gc3
 have qb4:=jc .add gb4
 have qc4:=jc .mul gc4
 have qb5:=jc .add gb5
 have qd:=jc .mul gd
 have qr:=jc .add gr
 have hb1:bits .and .u64 1 1=1:=by decide
 have hb7:bits .and .u64 2 7=2:=by decide
 have ho1:FloatKind.f64.format.order x 0=some .gt:=ho
 have hM:Ieee.double.read 4737786807993761792 = .number false (2^52) (((1051:Nat):Int)-1074):=by decide +kernel
 have ho2:FloatKind.f64.format.order x 4737786807993761792=some .lt:=jK hx hM (by decide +kernel)
 have nan:=qE hx
 have inf:=qA hx (by decide +kernel)
 obtain⟨t0,v0,t1,v1,t2,v2,t3,v3,t4,v4,t5,v5⟩:=ht
 clear gp gj hf gy ko g1 g2 g3 g4 g5 g6 g7 ge1 ge2 ga0 gb0 gb1 gc1 gb2 gc2 gb3 gc3 gb4 gc4 gb5 gd gr gP lP lz lzz ly hM
 go_enter Tryz.func208,Tryz.ntmps208
 go_wp2_with first
  | (go_at_call 220;refine(nan _).mono ?_;rintro e w' ⟨rfl,rfl⟩)
  | (go_at_call 221;refine(inf _).mono ?_;rintro e w' ⟨rfl,rfl⟩)
  | (simp only[rm0,rc0,rc1,ry,r1,r2,r3,r4,r5,r6,r7,qe1,qe2,qa0,qb0,qb1,qc1,qb2,qc2,qb3,qc3,qb4,qc4,qb5,qd,qr,hb1,hb7])
 all_goals (go_ret;exact⟨rfl,rfl⟩)
theorem Kp {x p:Nat} (hx:Lb (65*2^1071) x) (ho:Ieee.double.order x 0=some .gt) (gp:fM x 4608412980311869571=some p) (gj:floatToIntVal .f64 p .u64=some 2) (w:World) (ht:TrigT w):∃r,zv false x=some r∧Lb (1*2^1098) r∧Calls Tryz.prog 208 #[.float .f64 x] w fun e w'=>e = .returned (.float .f64 r)∧w'=w:=by
 have hf:=(zy (2:Int) (b:=2) (t:=1074) (by decide) (by decide) (by decide +kernel)).1
 have ly:Lb (12*2^1074) (floatOfInt .f64 2):=hf.mono (by decide +kernel)
 generalize hy:floatOfInt .f64 2=y at ly
 obtain⟨u1,z1,u2,z2,u3,z,zz,g1,g2,g3,g4,g5,g6,g7,lz,lzz⟩:=yq hx ly
 obtain⟨e1,e2,a0,b0,b1,c1,b2,c2,b3,c3,b4,c4,b5,d,r,ge1,ge2,ga0,gb0,gb1,gc1,gb2,gc2,gb3,gc3,gb4,gc4,gb5,gd,gr,gP,lP⟩:=xP lzz
 refine⟨r,?_,lP,?_⟩
 ·unfold zv
  rw[gp,Option.bind_some,gj,Option.bind_some]
  rw[if_neg (by decide),hy,Option.bind_some]
  unfold kD
  rw[g1,Option.bind_some,g2,Option.bind_some,g3,Option.bind_some,g4,Option.bind_some,g5,Option.bind_some,g6,Option.bind_some,g7,Option.bind_some]
  simp[gP]
 have rm0:=jc .mul gp
 have rc0:=qv Tryz.underlying262 gj
 have rc1:=j5 (q:=.u64) 2 (d:=262) (by rw[Tryz.underlying262];rfl)
 rw[hy] at rc1
 have r1:=jc .mul g1
 have r2:=jc .sub g2
 have r3:=jc .mul g3
 have r4:=jc .sub g4
 have r5:=jc .mul g5
 have r6:=jc .sub g6
 have r7:=jc .mul g7
 have qe1:=jc .mul ge1
 have qe2:=jc .sub ge2
 have qa0:=jc .mul ga0
 have qb0:=jc .mul gb0
 have qb1:=jc .add gb1
 have qc1:=jc .mul gc1
 have qb2:=jc .add gb2
 have qc2:=jc .mul gc2
 have qb3:=jc .add gb3
 have qc3:=jc .mul gc3
 have qb4:=jc .add gb4
 have qc4:=jc .mul gc4
 have qb5:=jc .add gb5
 have qd:=jc .mul gd
 have qr:=jc .add gr
 have hb1:bits .and .u64 2 1=0:=by decide
 have hb7:bits .and .u64 2 7=2:=by decide
 have ho1:FloatKind.f64.format.order x 0=some .gt:=ho
 have hM:Ieee.double.read 4737786807993761792 = .number false (2^52) (((1051:Nat):Int)-1074):=by decide +kernel
 have ho2:FloatKind.f64.format.order x 4737786807993761792=some .lt:=jK hx hM (by decide +kernel)
 have nan:=qE hx
 have inf:=qA hx (by decide +kernel)
 obtain⟨t0,v0,t1,v1,t2,v2,t3,v3,t4,v4,t5,v5⟩:=ht
 clear gp gj hf hy g1 g2 g3 g4 g5 g6 g7 ge1 ge2 ga0 gb0 gb1 gc1 gb2 gc2 gb3 gc3 gb4 gc4 gb5 gd gr gP lP lz lzz ly hM
 go_enter Tryz.func208,Tryz.ntmps208
 go_wp2_with first
  | (go_at_call 220;refine(nan _).mono ?_;rintro e w' ⟨rfl,rfl⟩)
  | (go_at_call 221;refine(inf _).mono ?_;rintro e w' ⟨rfl,rfl⟩)
  | (simp only[rm0,rc0,rc1,r1,r2,r3,r4,r5,r6,r7,qe1,qe2,qa0,qb0,qb1,qc1,qb2,qc2,qb3,qc3,qb4,qc4,qb5,qd,qr,hb1,hb7])
 all_goals (go_ret;exact⟨rfl,rfl⟩)
theorem jaw {x p:Nat} (hx:Lb (65*2^1071) x) (ho:Ieee.double.order x 0=some .gt) (gp:fM x 4608412980311869571=some p) (gj:floatToIntVal .f64 p .u64=some 3) (w:World) (ht:TrigT w):∃r,zv false x=some r∧Lb (1*2^1098) r∧Calls Tryz.prog 208 #[.float .f64 x] w fun e w'=>e = .returned (.float .f64 r)∧w'=w:=by
 have hf:=(zy (3:Int) (b:=3) (t:=1074) (by decide) (by decide) (by decide +kernel)).1
 have ko:Lb (1*2^1074) Qx:=qc (by decide +kernel)
 obtain⟨y,gy,ly⟩:=qt (b:=12) (t:=1074) hf ko (by decide) (by decide) (by decide +kernel)
 obtain⟨u1,z1,u2,z2,u3,z,zz,g1,g2,g3,g4,g5,g6,g7,lz,lzz⟩:=yq hx ly
 obtain⟨a0,b0,b1,c1,b2,c2,b3,c3,b4,c4,b5,d,r,ga0,gb0,gb1,gc1,gb2,gc2,gb3,gc3,gb4,gc4,gb5,gd,gr,gP,lP⟩:=xW lz lzz
 refine⟨Op.negFloat .f64 r,?_,lP.neg,?_⟩
 ·unfold zv
  rw[gp,Option.bind_some,gj,Option.bind_some]
  rw[if_pos (by decide),show fA _ _=some y from gy,Option.bind_some]
  unfold kD
  rw[g1,Option.bind_some,g2,Option.bind_some,g3,Option.bind_some,g4,Option.bind_some,g5,Option.bind_some,g6,Option.bind_some,g7,Option.bind_some]
  simp[gP]
 have rm0:=jc .mul gp
 have rc0:=qv Tryz.underlying262 gj
 have rc1:=j5 (q:=.u64) 3 (d:=262) (by rw[Tryz.underlying262];rfl)
 have ry:=jc .add gy
 have r1:=jc .mul g1
 have r2:=jc .sub g2
 have r3:=jc .mul g3
 have r4:=jc .sub g4
 have r5:=jc .mul g5
 have r6:=jc .sub g6
 have r7:=jc .mul g7
 have qa0:=jc .mul ga0
 have qb0:=jc .mul gb0
 have qb1:=jc .add gb1
 have qc1:=jc .mul gc1
 have qb2:=jc .add gb2
 have qc2:=jc .mul gc2
 have qb3:=jc .add gb3
 have qc3:=jc .mul gc3
 have qb4:=jc .add gb4
 have qc4:=jc .mul gc4
 have qb5:=jc .add gb5
 have qd:=jc .mul gd
 have qr:=jc .add gr
 have hb1:bits .and .u64 3 1=1:=by decide
 have hb7:bits .and .u64 4 7=4:=by decide
 have ho1:FloatKind.f64.format.order x 0=some .gt:=ho
 have hM:Ieee.double.read 4737786807993761792 = .number false (2^52) (((1051:Nat):Int)-1074):=by decide +kernel
 have ho2:FloatKind.f64.format.order x 4737786807993761792=some .lt:=jK hx hM (by decide +kernel)
 have nan:=qE hx
 have inf:=qA hx (by decide +kernel)
 obtain⟨t0,v0,t1,v1,t2,v2,t3,v3,t4,v4,t5,v5⟩:=ht
 clear gp gj hf gy ko g1 g2 g3 g4 g5 g6 g7 ga0 gb0 gb1 gc1 gb2 gc2 gb3 gc3 gb4 gc4 gb5 gd gr gP lP lz lzz ly hM
 go_enter Tryz.func208,Tryz.ntmps208
 go_wp2_with first
  | (go_at_call 220;refine(nan _).mono ?_;rintro e w' ⟨rfl,rfl⟩)
  | (go_at_call 221;refine(inf _).mono ?_;rintro e w' ⟨rfl,rfl⟩)
  | (simp only[rm0,rc0,rc1,xm,ry,r1,r2,r3,r4,r5,r6,r7,qa0,qb0,qb1,qc1,qb2,qc2,qb3,qc3,qb4,qc4,qb5,qd,qr,hb1,hb7])
 all_goals (go_ret;exact⟨rfl,rfl⟩)
theorem jaI {x p:Nat} (hx:Lb (65*2^1071) x) (ho:Ieee.double.order x 0=some .gt) (gp:fM x 4608412980311869571=some p) (gj:floatToIntVal .f64 p .u64=some 4) (w:World) (ht:TrigT w):∃r,zv false x=some r∧Lb (1*2^1098) r∧Calls Tryz.prog 208 #[.float .f64 x] w fun e w'=>e = .returned (.float .f64 r)∧w'=w:=by
 have hf:=(zy (4:Int) (b:=4) (t:=1074) (by decide) (by decide) (by decide +kernel)).1
 have ly:Lb (12*2^1074) (floatOfInt .f64 4):=hf.mono (by decide +kernel)
 generalize hy:floatOfInt .f64 4=y at ly
 obtain⟨u1,z1,u2,z2,u3,z,zz,g1,g2,g3,g4,g5,g6,g7,lz,lzz⟩:=yq hx ly
 obtain⟨a0,b0,b1,c1,b2,c2,b3,c3,b4,c4,b5,d,r,ga0,gb0,gb1,gc1,gb2,gc2,gb3,gc3,gb4,gc4,gb5,gd,gr,gP,lP⟩:=xW lz lzz
 refine⟨Op.negFloat .f64 r,?_,lP.neg,?_⟩
 ·unfold zv
  rw[gp,Option.bind_some,gj,Option.bind_some]
  rw[if_neg (by decide),hy,Option.bind_some]
  unfold kD
  rw[g1,Option.bind_some,g2,Option.bind_some,g3,Option.bind_some,g4,Option.bind_some,g5,Option.bind_some,g6,Option.bind_some,g7,Option.bind_some]
  simp[gP]
 have rm0:=jc .mul gp
 have rc0:=qv Tryz.underlying262 gj
 have rc1:=j5 (q:=.u64) 4 (d:=262) (by rw[Tryz.underlying262];rfl)
 rw[hy] at rc1
 have r1:=jc .mul g1
 have r2:=jc .sub g2
 have r3:=jc .mul g3
 have r4:=jc .sub g4
 have r5:=jc .mul g5
 have r6:=jc .sub g6
 have r7:=jc .mul g7
 have qa0:=jc .mul ga0
 have qb0:=jc .mul gb0
 have qb1:=jc .add gb1
 have qc1:=jc .mul gc1
 have qb2:=jc .add gb2
 have qc2:=jc .mul gc2
 have qb3:=jc .add gb3
 have qc3:=jc .mul gc3
 have qb4:=jc .add gb4
 have qc4:=jc .mul gc4
 have qb5:=jc .add gb5
 have qd:=jc .mul gd
 have qr:=jc .add gr
 have hb1:bits .and .u64 4 1=0:=by decide
 have hb7:bits .and .u64 4 7=4:=by decide
 have ho1:FloatKind.f64.format.order x 0=some .gt:=ho
 have hM:Ieee.double.read 4737786807993761792 = .number false (2^52) (((1051:Nat):Int)-1074):=by decide +kernel
 have ho2:FloatKind.f64.format.order x 4737786807993761792=some .lt:=jK hx hM (by decide +kernel)
 have nan:=qE hx
 have inf:=qA hx (by decide +kernel)
 obtain⟨t0,v0,t1,v1,t2,v2,t3,v3,t4,v4,t5,v5⟩:=ht
 clear gp gj hf hy g1 g2 g3 g4 g5 g6 g7 ga0 gb0 gb1 gc1 gb2 gc2 gb3 gc3 gb4 gc4 gb5 gd gr gP lP lz lzz ly hM
 go_enter Tryz.func208,Tryz.ntmps208
 go_wp2_with first
  | (go_at_call 220;refine(nan _).mono ?_;rintro e w' ⟨rfl,rfl⟩)
  | (go_at_call 221;refine(inf _).mono ?_;rintro e w' ⟨rfl,rfl⟩)
  | (simp only[rm0,rc0,rc1,xm,r1,r2,r3,r4,r5,r6,r7,qa0,qb0,qb1,qc1,qb2,qc2,qb3,qc3,qb4,qc4,qb5,qd,qr,hb1,hb7])
 all_goals (go_ret;exact⟨rfl,rfl⟩)
theorem KO {x p:Nat} (hx:Lb (65*2^1071) x) (ho:Ieee.double.order x 0=some .gt) (gp:fM x 4608412980311869571=some p) (gj:floatToIntVal .f64 p .u64=some 5) (w:World) (ht:TrigT w):∃r,zv false x=some r∧Lb (1*2^1098) r∧Calls Tryz.prog 208 #[.float .f64 x] w fun e w'=>e = .returned (.float .f64 r)∧w'=w:=by
 have hf:=(zy (5:Int) (b:=5) (t:=1074) (by decide) (by decide) (by decide +kernel)).1
 have ko:Lb (1*2^1074) Qx:=qc (by decide +kernel)
 obtain⟨y,gy,ly⟩:=qt (b:=12) (t:=1074) hf ko (by decide) (by decide) (by decide +kernel)
 obtain⟨u1,z1,u2,z2,u3,z,zz,g1,g2,g3,g4,g5,g6,g7,lz,lzz⟩:=yq hx ly
 obtain⟨e1,e2,a0,b0,b1,c1,b2,c2,b3,c3,b4,c4,b5,d,r,ge1,ge2,ga0,gb0,gb1,gc1,gb2,gc2,gb3,gc3,gb4,gc4,gb5,gd,gr,gP,lP⟩:=xP lzz
 refine⟨Op.negFloat .f64 r,?_,lP.neg,?_⟩
 ·unfold zv
  rw[gp,Option.bind_some,gj,Option.bind_some]
  rw[if_pos (by decide),show fA _ _=some y from gy,Option.bind_some]
  unfold kD
  rw[g1,Option.bind_some,g2,Option.bind_some,g3,Option.bind_some,g4,Option.bind_some,g5,Option.bind_some,g6,Option.bind_some,g7,Option.bind_some]
  simp[gP]
 have rm0:=jc .mul gp
 have rc0:=qv Tryz.underlying262 gj
 have rc1:=j5 (q:=.u64) 5 (d:=262) (by rw[Tryz.underlying262];rfl)
 have ry:=jc .add gy
 have r1:=jc .mul g1
 have r2:=jc .sub g2
 have r3:=jc .mul g3
 have r4:=jc .sub g4
 have r5:=jc .mul g5
 have r6:=jc .sub g6
 have r7:=jc .mul g7
 have qe1:=jc .mul ge1
 have qe2:=jc .sub ge2
 have qa0:=jc .mul ga0
 have qb0:=jc .mul gb0
 have qb1:=jc .add gb1
 have qc1:=jc .mul gc1
 have qb2:=jc .add gb2
 have qc2:=jc .mul gc2
 have qb3:=jc .add gb3
 have qc3:=jc .mul gc3
 have qb4:=jc .add gb4
 have qc4:=jc .mul gc4
 have qb5:=jc .add gb5
 have qd:=jc .mul gd
 have qr:=jc .add gr
 have hb1:bits .and .u64 5 1=1:=by decide
 have hb7:bits .and .u64 6 7=6:=by decide
 have ho1:FloatKind.f64.format.order x 0=some .gt:=ho
 have hM:Ieee.double.read 4737786807993761792 = .number false (2^52) (((1051:Nat):Int)-1074):=by decide +kernel
 have ho2:FloatKind.f64.format.order x 4737786807993761792=some .lt:=jK hx hM (by decide +kernel)
 have nan:=qE hx
 have inf:=qA hx (by decide +kernel)
 obtain⟨t0,v0,t1,v1,t2,v2,t3,v3,t4,v4,t5,v5⟩:=ht
 clear gp gj hf gy ko g1 g2 g3 g4 g5 g6 g7 ge1 ge2 ga0 gb0 gb1 gc1 gb2 gc2 gb3 gc3 gb4 gc4 gb5 gd gr gP lP lz lzz ly hM
 go_enter Tryz.func208,Tryz.ntmps208
 go_wp2_with first
  | (go_at_call 220;refine(nan _).mono ?_;rintro e w' ⟨rfl,rfl⟩)
  | (go_at_call 221;refine(inf _).mono ?_;rintro e w' ⟨rfl,rfl⟩)
  | (simp only[rm0,rc0,rc1,xm,ry,r1,r2,r3,r4,r5,r6,r7,qe1,qe2,qa0,qb0,qb1,qc1,qb2,qc2,qb3,qc3,qb4,qc4,qb5,qd,qr,hb1,hb7])
 all_goals (go_ret;exact⟨rfl,rfl⟩)
theorem KW {x p:Nat} (hx:Lb (65*2^1071) x) (ho:Ieee.double.order x 0=some .gt) (gp:fM x 4608412980311869571=some p) (gj:floatToIntVal .f64 p .u64=some 6) (w:World) (ht:TrigT w):∃r,zv false x=some r∧Lb (1*2^1098) r∧Calls Tryz.prog 208 #[.float .f64 x] w fun e w'=>e = .returned (.float .f64 r)∧w'=w:=by
 have hf:=(zy (6:Int) (b:=6) (t:=1074) (by decide) (by decide) (by decide +kernel)).1
 have ly:Lb (12*2^1074) (floatOfInt .f64 6):=hf.mono (by decide +kernel)
 generalize hy:floatOfInt .f64 6=y at ly
 obtain⟨u1,z1,u2,z2,u3,z,zz,g1,g2,g3,g4,g5,g6,g7,lz,lzz⟩:=yq hx ly
 obtain⟨e1,e2,a0,b0,b1,c1,b2,c2,b3,c3,b4,c4,b5,d,r,ge1,ge2,ga0,gb0,gb1,gc1,gb2,gc2,gb3,gc3,gb4,gc4,gb5,gd,gr,gP,lP⟩:=xP lzz
 refine⟨Op.negFloat .f64 r,?_,lP.neg,?_⟩
 ·unfold zv
  rw[gp,Option.bind_some,gj,Option.bind_some]
  rw[if_neg (by decide),hy,Option.bind_some]
  unfold kD
  rw[g1,Option.bind_some,g2,Option.bind_some,g3,Option.bind_some,g4,Option.bind_some,g5,Option.bind_some,g6,Option.bind_some,g7,Option.bind_some]
  simp[gP]
 have rm0:=jc .mul gp
 have rc0:=qv Tryz.underlying262 gj
 have rc1:=j5 (q:=.u64) 6 (d:=262) (by rw[Tryz.underlying262];rfl)
 rw[hy] at rc1
 have r1:=jc .mul g1
 have r2:=jc .sub g2
 have r3:=jc .mul g3
 have r4:=jc .sub g4
 have r5:=jc .mul g5
 have r6:=jc .sub g6
 have r7:=jc .mul g7
 have qe1:=jc .mul ge1
 have qe2:=jc .sub ge2
 have qa0:=jc .mul ga0
 have qb0:=jc .mul gb0
 have qb1:=jc .add gb1
 have qc1:=jc .mul gc1
 have qb2:=jc .add gb2
 have qc2:=jc .mul gc2
 have qb3:=jc .add gb3
 have qc3:=jc .mul gc3
 have qb4:=jc .add gb4
 have qc4:=jc .mul gc4
 have qb5:=jc .add gb5
 have qd:=jc .mul gd
 have qr:=jc .add gr
 have hb1:bits .and .u64 6 1=0:=by decide
 have hb7:bits .and .u64 6 7=6:=by decide
 have ho1:FloatKind.f64.format.order x 0=some .gt:=ho
 have hM:Ieee.double.read 4737786807993761792 = .number false (2^52) (((1051:Nat):Int)-1074):=by decide +kernel
 have ho2:FloatKind.f64.format.order x 4737786807993761792=some .lt:=jK hx hM (by decide +kernel)
 have nan:=qE hx
 have inf:=qA hx (by decide +kernel)
 obtain⟨t0,v0,t1,v1,t2,v2,t3,v3,t4,v4,t5,v5⟩:=ht
 clear gp gj hf hy g1 g2 g3 g4 g5 g6 g7 ge1 ge2 ga0 gb0 gb1 gc1 gb2 gc2 gb3 gc3 gb4 gc4 gb5 gd gr gP lP lz lzz ly hM
 go_enter Tryz.func208,Tryz.ntmps208
 go_wp2_with first
  | (go_at_call 220;refine(nan _).mono ?_;rintro e w' ⟨rfl,rfl⟩)
  | (go_at_call 221;refine(inf _).mono ?_;rintro e w' ⟨rfl,rfl⟩)
  | (simp only[rm0,rc0,rc1,xm,r1,r2,r3,r4,r5,r6,r7,qe1,qe2,qa0,qb0,qb1,qc1,qb2,qc2,qb3,qc3,qb4,qc4,qb5,qd,qr,hb1,hb7])
 all_goals (go_ret;exact⟨rfl,rfl⟩)
theorem jaP {x p:Nat} (hx:Lb (65*2^1071) x) (ho:Ieee.double.order x 0=some .gt) (gp:fM x 4608412980311869571=some p) (gj:floatToIntVal .f64 p .u64=some 7) (w:World) (ht:TrigT w):∃r,zv false x=some r∧Lb (1*2^1098) r∧Calls Tryz.prog 208 #[.float .f64 x] w fun e w'=>e = .returned (.float .f64 r)∧w'=w:=by
 have hf:=(zy (7:Int) (b:=7) (t:=1074) (by decide) (by decide) (by decide +kernel)).1
 have ko:Lb (1*2^1074) Qx:=qc (by decide +kernel)
 obtain⟨y,gy,ly⟩:=qt (b:=12) (t:=1074) hf ko (by decide) (by decide) (by decide +kernel)
 obtain⟨u1,z1,u2,z2,u3,z,zz,g1,g2,g3,g4,g5,g6,g7,lz,lzz⟩:=yq hx ly
 obtain⟨a0,b0,b1,c1,b2,c2,b3,c3,b4,c4,b5,d,r,ga0,gb0,gb1,gc1,gb2,gc2,gb3,gc3,gb4,gc4,gb5,gd,gr,gP,lP⟩:=xW lz lzz
 refine⟨r,?_,lP,?_⟩
 ·unfold zv
  rw[gp,Option.bind_some,gj,Option.bind_some]
  rw[if_pos (by decide),show fA _ _=some y from gy,Option.bind_some]
  unfold kD
  rw[g1,Option.bind_some,g2,Option.bind_some,g3,Option.bind_some,g4,Option.bind_some,g5,Option.bind_some,g6,Option.bind_some,g7,Option.bind_some]
  simp[gP]
 have rm0:=jc .mul gp
 have rc0:=qv Tryz.underlying262 gj
 have rc1:=j5 (q:=.u64) 7 (d:=262) (by rw[Tryz.underlying262];rfl)
 have ry:=jc .add gy
 have r1:=jc .mul g1
 have r2:=jc .sub g2
 have r3:=jc .mul g3
 have r4:=jc .sub g4
 have r5:=jc .mul g5
 have r6:=jc .sub g6
 have r7:=jc .mul g7
 have qa0:=jc .mul ga0
 have qb0:=jc .mul gb0
 have qb1:=jc .add gb1
 have qc1:=jc .mul gc1
 have qb2:=jc .add gb2
 have qc2:=jc .mul gc2
 have qb3:=jc .add gb3
 have qc3:=jc .mul gc3
 have qb4:=jc .add gb4
 have qc4:=jc .mul gc4
 have qb5:=jc .add gb5
 have qd:=jc .mul gd
 have qr:=jc .add gr
 have hb1:bits .and .u64 7 1=1:=by decide
 have hb7:bits .and .u64 8 7=0:=by decide
 have ho1:FloatKind.f64.format.order x 0=some .gt:=ho
 have hM:Ieee.double.read 4737786807993761792 = .number false (2^52) (((1051:Nat):Int)-1074):=by decide +kernel
 have ho2:FloatKind.f64.format.order x 4737786807993761792=some .lt:=jK hx hM (by decide +kernel)
 have nan:=qE hx
 have inf:=qA hx (by decide +kernel)
 obtain⟨t0,v0,t1,v1,t2,v2,t3,v3,t4,v4,t5,v5⟩:=ht
 clear gp gj hf gy ko g1 g2 g3 g4 g5 g6 g7 ga0 gb0 gb1 gc1 gb2 gc2 gb3 gc3 gb4 gc4 gb5 gd gr gP lP lz lzz ly hM
 go_enter Tryz.func208,Tryz.ntmps208
 go_wp2_with first
  | (go_at_call 220;refine(nan _).mono ?_;rintro e w' ⟨rfl,rfl⟩)
  | (go_at_call 221;refine(inf _).mono ?_;rintro e w' ⟨rfl,rfl⟩)
  | (simp only[rm0,rc0,rc1,ry,r1,r2,r3,r4,r5,r6,r7,qa0,qb0,qb1,qc1,qb2,qc2,qb3,qc3,qb4,qc4,qb5,qd,qr,hb1,hb7])
 all_goals (go_ret;exact⟨rfl,rfl⟩)
theorem KK {x p:Nat} (hx:Lb (65*2^1071) x) (ho:Ieee.double.order x 0=some .gt) (gp:fM x 4608412980311869571=some p) (gj:floatToIntVal .f64 p .u64=some 8) (w:World) (ht:TrigT w):∃r,zv false x=some r∧Lb (1*2^1098) r∧Calls Tryz.prog 208 #[.float .f64 x] w fun e w'=>e = .returned (.float .f64 r)∧w'=w:=by
 have hf:=(zy (8:Int) (b:=8) (t:=1074) (by decide) (by decide) (by decide +kernel)).1
 have ly:Lb (12*2^1074) (floatOfInt .f64 8):=hf.mono (by decide +kernel)
 generalize hy:floatOfInt .f64 8=y at ly
 obtain⟨u1,z1,u2,z2,u3,z,zz,g1,g2,g3,g4,g5,g6,g7,lz,lzz⟩:=yq hx ly
 obtain⟨a0,b0,b1,c1,b2,c2,b3,c3,b4,c4,b5,d,r,ga0,gb0,gb1,gc1,gb2,gc2,gb3,gc3,gb4,gc4,gb5,gd,gr,gP,lP⟩:=xW lz lzz
 refine⟨r,?_,lP,?_⟩
 ·unfold zv
  rw[gp,Option.bind_some,gj,Option.bind_some]
  rw[if_neg (by decide),hy,Option.bind_some]
  unfold kD
  rw[g1,Option.bind_some,g2,Option.bind_some,g3,Option.bind_some,g4,Option.bind_some,g5,Option.bind_some,g6,Option.bind_some,g7,Option.bind_some]
  simp[gP]
 have rm0:=jc .mul gp
 have rc0:=qv Tryz.underlying262 gj
 have rc1:=j5 (q:=.u64) 8 (d:=262) (by rw[Tryz.underlying262];rfl)
 rw[hy] at rc1
 have r1:=jc .mul g1
 have r2:=jc .sub g2
 have r3:=jc .mul g3
 have r4:=jc .sub g4
 have r5:=jc .mul g5
 have r6:=jc .sub g6
 have r7:=jc .mul g7
 have qa0:=jc .mul ga0
 have qb0:=jc .mul gb0
 have qb1:=jc .add gb1
 have qc1:=jc .mul gc1
 have qb2:=jc .add gb2
 have qc2:=jc .mul gc2
 have qb3:=jc .add gb3
 have qc3:=jc .mul gc3
 have qb4:=jc .add gb4
 have qc4:=jc .mul gc4
 have qb5:=jc .add gb5
 have qd:=jc .mul gd
 have qr:=jc .add gr
 have hb1:bits .and .u64 8 1=0:=by decide
 have hb7:bits .and .u64 8 7=0:=by decide
 have ho1:FloatKind.f64.format.order x 0=some .gt:=ho
 have hM:Ieee.double.read 4737786807993761792 = .number false (2^52) (((1051:Nat):Int)-1074):=by decide +kernel
 have ho2:FloatKind.f64.format.order x 4737786807993761792=some .lt:=jK hx hM (by decide +kernel)
 have nan:=qE hx
 have inf:=qA hx (by decide +kernel)
 obtain⟨t0,v0,t1,v1,t2,v2,t3,v3,t4,v4,t5,v5⟩:=ht
 clear gp gj hf hy g1 g2 g3 g4 g5 g6 g7 ga0 gb0 gb1 gc1 gb2 gc2 gb3 gc3 gb4 gc4 gb5 gd gr gP lP lz lzz ly hM
 go_enter Tryz.func208,Tryz.ntmps208
 go_wp2_with first
  | (go_at_call 220;refine(nan _).mono ?_;rintro e w' ⟨rfl,rfl⟩)
  | (go_at_call 221;refine(inf _).mono ?_;rintro e w' ⟨rfl,rfl⟩)
  | (simp only[rm0,rc0,rc1,r1,r2,r3,r4,r5,r6,r7,qa0,qb0,qb1,qc1,qb2,qc2,qb3,qc3,qb4,qc4,qb5,qd,qr,hb1,hb7])
 all_goals (go_ret;exact⟨rfl,rfl⟩)
theorem jaf {x p:Nat} (hx:Lb (65*2^1071) x) (ho:Ieee.double.order x 0=some .gt) (gp:fM x 4608412980311869571=some p) (gj:floatToIntVal .f64 p .u64=some 9) (w:World) (ht:TrigT w):∃r,zv false x=some r∧Lb (1*2^1098) r∧Calls Tryz.prog 208 #[.float .f64 x] w fun e w'=>e = .returned (.float .f64 r)∧w'=w:=by
 have hf:=(zy (9:Int) (b:=9) (t:=1074) (by decide) (by decide) (by decide +kernel)).1
 have ko:Lb (1*2^1074) Qx:=qc (by decide +kernel)
 obtain⟨y,gy,ly⟩:=qt (b:=12) (t:=1074) hf ko (by decide) (by decide) (by decide +kernel)
 obtain⟨u1,z1,u2,z2,u3,z,zz,g1,g2,g3,g4,g5,g6,g7,lz,lzz⟩:=yq hx ly
 obtain⟨e1,e2,a0,b0,b1,c1,b2,c2,b3,c3,b4,c4,b5,d,r,ge1,ge2,ga0,gb0,gb1,gc1,gb2,gc2,gb3,gc3,gb4,gc4,gb5,gd,gr,gP,lP⟩:=xP lzz
 refine⟨r,?_,lP,?_⟩
 ·unfold zv
  rw[gp,Option.bind_some,gj,Option.bind_some]
  rw[if_pos (by decide),show fA _ _=some y from gy,Option.bind_some]
  unfold kD
  rw[g1,Option.bind_some,g2,Option.bind_some,g3,Option.bind_some,g4,Option.bind_some,g5,Option.bind_some,g6,Option.bind_some,g7,Option.bind_some]
  simp[gP]
 have rm0:=jc .mul gp
 have rc0:=qv Tryz.underlying262 gj
 have rc1:=j5 (q:=.u64) 9 (d:=262) (by rw[Tryz.underlying262];rfl)
 have ry:=jc .add gy
 have r1:=jc .mul g1
 have r2:=jc .sub g2
 have r3:=jc .mul g3
 have r4:=jc .sub g4
 have r5:=jc .mul g5
 have r6:=jc .sub g6
 have r7:=jc .mul g7
 have qe1:=jc .mul ge1
 have qe2:=jc .sub ge2
 have qa0:=jc .mul ga0
 have qb0:=jc .mul gb0
 have qb1:=jc .add gb1
 have qc1:=jc .mul gc1
 have qb2:=jc .add gb2
 have qc2:=jc .mul gc2
 have qb3:=jc .add gb3
 have qc3:=jc .mul gc3
 have qb4:=jc .add gb4
 have qc4:=jc .mul gc4
 have qb5:=jc .add gb5
 have qd:=jc .mul gd
 have qr:=jc .add gr
 have hb1:bits .and .u64 9 1=1:=by decide
 have hb7:bits .and .u64 10 7=2:=by decide
 have ho1:FloatKind.f64.format.order x 0=some .gt:=ho
 have hM:Ieee.double.read 4737786807993761792 = .number false (2^52) (((1051:Nat):Int)-1074):=by decide +kernel
 have ho2:FloatKind.f64.format.order x 4737786807993761792=some .lt:=jK hx hM (by decide +kernel)
 have nan:=qE hx
 have inf:=qA hx (by decide +kernel)
 obtain⟨t0,v0,t1,v1,t2,v2,t3,v3,t4,v4,t5,v5⟩:=ht
 clear gp gj hf gy ko g1 g2 g3 g4 g5 g6 g7 ge1 ge2 ga0 gb0 gb1 gc1 gb2 gc2 gb3 gc3 gb4 gc4 gb5 gd gr gP lP lz lzz ly hM
 go_enter Tryz.func208,Tryz.ntmps208
 go_wp2_with first
  | (go_at_call 220;refine(nan _).mono ?_;rintro e w' ⟨rfl,rfl⟩)
  | (go_at_call 221;refine(inf _).mono ?_;rintro e w' ⟨rfl,rfl⟩)
  | (simp only[rm0,rc0,rc1,ry,r1,r2,r3,r4,r5,r6,r7,qe1,qe2,qa0,qb0,qb1,qc1,qb2,qc2,qb3,qc3,qb4,qc4,qb5,qd,qr,hb1,hb7])
 all_goals (go_ret;exact⟨rfl,rfl⟩)
theorem Vo {x p:Nat} (hx:Lb (65*2^1071) x) (ho:Ieee.double.order x 0=some .gt) (gp:fM x 4608412980311869571=some p) (gj:floatToIntVal .f64 p .u64=some 10) (w:World) (ht:TrigT w):∃r,zv false x=some r∧Lb (1*2^1098) r∧Calls Tryz.prog 208 #[.float .f64 x] w fun e w'=>e = .returned (.float .f64 r)∧w'=w:=by
 have hf:=(zy (10:Int) (b:=10) (t:=1074) (by decide) (by decide) (by decide +kernel)).1
 have ly:Lb (12*2^1074) (floatOfInt .f64 10):=hf.mono (by decide +kernel)
 generalize hy:floatOfInt .f64 10=y at ly
 obtain⟨u1,z1,u2,z2,u3,z,zz,g1,g2,g3,g4,g5,g6,g7,lz,lzz⟩:=yq hx ly
 obtain⟨e1,e2,a0,b0,b1,c1,b2,c2,b3,c3,b4,c4,b5,d,r,ge1,ge2,ga0,gb0,gb1,gc1,gb2,gc2,gb3,gc3,gb4,gc4,gb5,gd,gr,gP,lP⟩:=xP lzz
 refine⟨r,?_,lP,?_⟩
 ·unfold zv
  rw[gp,Option.bind_some,gj,Option.bind_some]
  rw[if_neg (by decide),hy,Option.bind_some]
  unfold kD
  rw[g1,Option.bind_some,g2,Option.bind_some,g3,Option.bind_some,g4,Option.bind_some,g5,Option.bind_some,g6,Option.bind_some,g7,Option.bind_some]
  simp[gP]
 have rm0:=jc .mul gp
 have rc0:=qv Tryz.underlying262 gj
 have rc1:=j5 (q:=.u64) 10 (d:=262) (by rw[Tryz.underlying262];rfl)
 rw[hy] at rc1
 have r1:=jc .mul g1
 have r2:=jc .sub g2
 have r3:=jc .mul g3
 have r4:=jc .sub g4
 have r5:=jc .mul g5
 have r6:=jc .sub g6
 have r7:=jc .mul g7
 have qe1:=jc .mul ge1
 have qe2:=jc .sub ge2
 have qa0:=jc .mul ga0
 have qb0:=jc .mul gb0
 have qb1:=jc .add gb1
 have qc1:=jc .mul gc1
 have qb2:=jc .add gb2
 have qc2:=jc .mul gc2
 have qb3:=jc .add gb3
 have qc3:=jc .mul gc3
 have qb4:=jc .add gb4
 have qc4:=jc .mul gc4
 have qb5:=jc .add gb5
 have qd:=jc .mul gd
 have qr:=jc .add gr
 have hb1:bits .and .u64 10 1=0:=by decide
 have hb7:bits .and .u64 10 7=2:=by decide
 have ho1:FloatKind.f64.format.order x 0=some .gt:=ho
 have hM:Ieee.double.read 4737786807993761792 = .number false (2^52) (((1051:Nat):Int)-1074):=by decide +kernel
 have ho2:FloatKind.f64.format.order x 4737786807993761792=some .lt:=jK hx hM (by decide +kernel)
 have nan:=qE hx
 have inf:=qA hx (by decide +kernel)
 obtain⟨t0,v0,t1,v1,t2,v2,t3,v3,t4,v4,t5,v5⟩:=ht
 clear gp gj hf hy g1 g2 g3 g4 g5 g6 g7 ge1 ge2 ga0 gb0 gb1 gc1 gb2 gc2 gb3 gc3 gb4 gc4 gb5 gd gr gP lP lz lzz ly hM
 go_enter Tryz.func208,Tryz.ntmps208
 go_wp2_with first
  | (go_at_call 220;refine(nan _).mono ?_;rintro e w' ⟨rfl,rfl⟩)
  | (go_at_call 221;refine(inf _).mono ?_;rintro e w' ⟨rfl,rfl⟩)
  | (simp only[rm0,rc0,rc1,r1,r2,r3,r4,r5,r6,r7,qe1,qe2,qa0,qb0,qb1,qc1,qb2,qc2,qb3,qc3,qb4,qc4,qb5,qd,qr,hb1,hb7])
 all_goals (go_ret;exact⟨rfl,rfl⟩)
theorem YE {x p:Nat} (hx:Lb (65*2^1071) x) (ho:Ieee.double.order x 0=some .gt) (gp:fM x 4608412980311869571=some p) (gj:floatToIntVal .f64 p .u64=some 11) (w:World) (ht:TrigT w):∃r,zv false x=some r∧Lb (1*2^1098) r∧Calls Tryz.prog 208 #[.float .f64 x] w fun e w'=>e = .returned (.float .f64 r)∧w'=w:=by
 have hf:=(zy (11:Int) (b:=11) (t:=1074) (by decide) (by decide) (by decide +kernel)).1
 have ko:Lb (1*2^1074) Qx:=qc (by decide +kernel)
 obtain⟨y,gy,ly⟩:=qt (b:=12) (t:=1074) hf ko (by decide) (by decide) (by decide +kernel)
 obtain⟨u1,z1,u2,z2,u3,z,zz,g1,g2,g3,g4,g5,g6,g7,lz,lzz⟩:=yq hx ly
 obtain⟨a0,b0,b1,c1,b2,c2,b3,c3,b4,c4,b5,d,r,ga0,gb0,gb1,gc1,gb2,gc2,gb3,gc3,gb4,gc4,gb5,gd,gr,gP,lP⟩:=xW lz lzz
 refine⟨Op.negFloat .f64 r,?_,lP.neg,?_⟩
 ·unfold zv
  rw[gp,Option.bind_some,gj,Option.bind_some]
  rw[if_pos (by decide),show fA _ _=some y from gy,Option.bind_some]
  unfold kD
  rw[g1,Option.bind_some,g2,Option.bind_some,g3,Option.bind_some,g4,Option.bind_some,g5,Option.bind_some,g6,Option.bind_some,g7,Option.bind_some]
  simp[gP]
 have rm0:=jc .mul gp
 have rc0:=qv Tryz.underlying262 gj
 have rc1:=j5 (q:=.u64) 11 (d:=262) (by rw[Tryz.underlying262];rfl)
 have ry:=jc .add gy
 have r1:=jc .mul g1
 have r2:=jc .sub g2
 have r3:=jc .mul g3
 have r4:=jc .sub g4
 have r5:=jc .mul g5
 have r6:=jc .sub g6
 have r7:=jc .mul g7
 have qa0:=jc .mul ga0
 have qb0:=jc .mul gb0
 have qb1:=jc .add gb1
 have qc1:=jc .mul gc1
 have qb2:=jc .add gb2
 have qc2:=jc .mul gc2
 have qb3:=jc .add gb3
 have qc3:=jc .mul gc3
 have qb4:=jc .add gb4
 have qc4:=jc .mul gc4
 have qb5:=jc .add gb5
 have qd:=jc .mul gd
 have qr:=jc .add gr
 have hb1:bits .and .u64 11 1=1:=by decide
 have hb7:bits .and .u64 12 7=4:=by decide
 have ho1:FloatKind.f64.format.order x 0=some .gt:=ho
 have hM:Ieee.double.read 4737786807993761792 = .number false (2^52) (((1051:Nat):Int)-1074):=by decide +kernel
 have ho2:FloatKind.f64.format.order x 4737786807993761792=some .lt:=jK hx hM (by decide +kernel)
 have nan:=qE hx
 have inf:=qA hx (by decide +kernel)
 obtain⟨t0,v0,t1,v1,t2,v2,t3,v3,t4,v4,t5,v5⟩:=ht
 clear gp gj hf gy ko g1 g2 g3 g4 g5 g6 g7 ga0 gb0 gb1 gc1 gb2 gc2 gb3 gc3 gb4 gc4 gb5 gd gr gP lP lz lzz ly hM
 go_enter Tryz.func208,Tryz.ntmps208
 go_wp2_with first
  | (go_at_call 220;refine(nan _).mono ?_;rintro e w' ⟨rfl,rfl⟩)
  | (go_at_call 221;refine(inf _).mono ?_;rintro e w' ⟨rfl,rfl⟩)
  | (simp only[rm0,rc0,rc1,xm,ry,r1,r2,r3,r4,r5,r6,r7,qa0,qb0,qb1,qc1,qb2,qc2,qb3,qc3,qb4,qc4,qb5,qd,qr,hb1,hb7])
 all_goals (go_ret;exact⟨rfl,rfl⟩)
theorem jcN {x:Nat} (ho:Ieee.double.order x 0=some .eq) (w:World):Calls Tryz.prog 208 #[.float .f64 x] w fun e w'=>e = .returned (.float .f64 x)∧w'=w:=by
 have ho1:FloatKind.f64.format.order x 0=some .eq:=ho
 go_enter Tryz.func208,Tryz.ntmps208
 go_wp2_with fail
 all_goals (go_ret;exact⟨rfl,rfl⟩)
theorem jeq {x:Nat} (hx:Lb (65*2^1071) x) (hn:Nn x) (w:World) (ht:TrigT w):∃r,jbg x=some r∧Lb (1*2^1098) r∧Calls Tryz.prog 208 #[.float .f64 x] w fun e w'=>e = .returned (.float .f64 r)∧w'=w:=by
 by_cases h0:Ieee.double.order x 0=some .eq
 ·exact⟨x,by unfold jbg;rw[if_pos h0],hx.mono (by decide +kernel),jcN h0 w⟩
 have ho:=nn_gt hx hn h0
 obtain⟨p,j,gp,gj,j0,j1⟩:=jdI hx hn
 have main:∃r,zv false x=some r∧Lb (1*2^1098) r∧Calls Tryz.prog 208 #[.float .f64 x] w fun e w'=>e = .returned (.float .f64 r)∧w'=w:=by
  have hj:j=0∨j=1∨j=2∨j=3∨j=4∨j=5∨j=6∨j=7∨j=8∨j=9∨j=10∨j=11:=by omega
  rcases hj with h|h|h|h|h|h|h|h|h|h|h|h
  ·exact Kn hx ho gp (by rw[gj,h]) w ht
  ·exact K7 hx ho gp (by rw[gj,h]) w ht
  ·exact Kp hx ho gp (by rw[gj,h]) w ht
  ·exact jaw hx ho gp (by rw[gj,h]) w ht
  ·exact jaI hx ho gp (by rw[gj,h]) w ht
  ·exact KO hx ho gp (by rw[gj,h]) w ht
  ·exact KW hx ho gp (by rw[gj,h]) w ht
  ·exact jaP hx ho gp (by rw[gj,h]) w ht
  ·exact KK hx ho gp (by rw[gj,h]) w ht
  ·exact jaf hx ho gp (by rw[gj,h]) w ht
  ·exact Vo hx ho gp (by rw[gj,h]) w ht
  ·exact YE hx ho gp (by rw[gj,h]) w ht
 obtain⟨r,e,l,c⟩:=main
 refine⟨r,?_,l,c⟩
 unfold jbg
 rw[if_neg h0,if_neg (by rw[ho];decide),e]
theorem vZ {x:Nat} (hx:Lb (65*2^1071) x) (hn:Nn x) (w:World) (ht:TrigT w):∃r,jbg x=some r∧Lb (1*2^1098) r∧Calls Tryz.prog 193 #[.float .f64 x] w fun e w'=>e = .returned (.float .f64 r)∧w'=w:=by
 obtain⟨r,e,l,c⟩:=jeq hx hn w ht
 refine⟨r,e,l,?_⟩
 go_enter Tryz.func193,Tryz.ntmps193
 go_wp2_with (go_at_call 208;refine c.mono ?_;rintro e w' ⟨rfl,rfl⟩)
 all_goals (go_ret;exact⟨rfl,rfl⟩)
abbrev vt:Nat:=4562254508917369340
def ZJ (v:Nat):Option (Int×Int):=(fS v vt).bind fun a=>(floatToIntVal .f64 (Zj a) .i64).bind fun lo=>(fA v vt).bind fun b=>(floatToIntVal .f64 (Ke b) .i64).bind fun hi=>some (lo,hi)
theorem Qf {v:Nat} (hv:Lb (1*2^1123) v) (w:World):∃lo hi,ZJ v=some (lo,hi)∧(-1125899906842624≤lo∧lo≤1125899906842624)∧(-1125899906842624≤hi∧hi≤1125899906842624)∧Calls Tryz.prog 172 #[.float .f64 v] w fun e w'=>e = .returned (.agg #[.int .i64 lo,.int .i64 hi])∧Below w.heap.size w w':=by
 have ks:Lb (1*2^1074) vt:=qc (by decide +kernel)
 obtain⟨a,ga,la⟩:=J6 (b:=1) (t:=1124) hv ks (by decide) (by decide) (by decide +kernel)
 obtain⟨b,gb,lb⟩:=qt (b:=1) (t:=1124) hv ks (by decide) (by decide) (by decide +kernel)
 have hB:1*2^1124≤2^50*2^1074:=by decide +kernel
 have fl:Lb (2^50*2^1074) (Zj a):=by
  have h:=Jc (C:=2^50) la .down hB (by decide)
  unfold Zj
  exact h
 have ce:Lb (2^50*2^1074) (Ke b):=by
  have h:=Jc (C:=2^50) lb .up hB (by decide)
  unfold Ke
  exact h
 obtain⟨lo,glo,llo,_⟩:=YB (C:=2^50) fl (by decide +kernel) .i64 (.inl fun n h=>⟨by show -9223372036854775808≤n;omega,by show n≤9223372036854775807;omega⟩)
 obtain⟨hi,ghi,lhi,_⟩:=YB (C:=2^50) ce (by decide +kernel) .i64 (.inl fun n h=>⟨by show -9223372036854775808≤n;omega,by show n≤9223372036854775807;omega⟩)
 refine⟨lo,hi,?_,by omega,by omega,?_⟩
 ·unfold ZJ
  rw[show fS v vt=_ from ga,Option.bind_some,glo,Option.bind_some,show fA v vt=_ from gb,Option.bind_some,ghi,Option.bind_some]
 have r1:=jc .sub ga
 have r2:=jc .add gb
 have r3:=qv Tryz.underlying3 glo
 have r4:=qv Tryz.underlying3 ghi
 have cf:=Ku la
 have cc:=jcG lb
 go_enter Tryz.func172,Tryz.ntmps172
 go_wp2_with first
  | (go_at_call 197;refine(cf _).mono ?_;rintro e w' ⟨rfl,rfl⟩)
  | (go_at_call 198;refine(cc _).mono ?_;rintro e w' ⟨rfl,rfl⟩)
  | (simp only[r1,r2,r3,r4])
 refine bodyPost_ret (v:=.agg #[.int .i64 lo,.int .i64 hi]) (by simp[results,Tryz.results172,go_sem]) rfl ⟨rfl,?_⟩
 exact(Below.refl _ _).alloc (Nat.le_refl _) _
end Go.Proofs.YtkkjaaognefeiaaGreatDoor
