/- FuA, FuB, FuC, FuD, FuE, FuF -/
import Derived.Test.YtkkjaaognefeiaaGreatDoorGFs1
set_option maxRecDepth 100000
set_option maxHeartbeats 16000000
set_option linter.unusedVariables false
set_option linter.unusedSimpArgs false
namespace Go.Proofs.YtkkjaaognefeiaaGreatDoor
open Go Go.RowKit
def Jy (op:BinOp):Prop:=op = .add∨op = .sub∨op = .mul∨op = .quo
theorem jw (op:BinOp) (h:Jy op) (t:TypeId) (x y:Nat) (w:World):∃r n,(binOp op t (.float .f64 x) (.float .f64 y)).run Tryz.prog w = .ok (.float .f64 r) (w.drewN n):=by
 cases hb:floatBits op .f64 x y with
 | some r=>exact⟨r,0,run_float_arith w op t .f64 x y r hb⟩
 | none =>
  refine⟨(Question.nanBits .f64 x y).cut (w.tape w.drawn (.nanBits .f64 x y)),1,?_⟩
  rcases h with rfl|rfl|rfl|rfl<;>(unfold floatBits at hb;simp only at hb;simp[binOp,Op.floatArith,hb];rfl)
theorem ya:∃(R N:BinOp→TypeId→Nat→Nat→World→Nat),∀op,Jy op→∀t x y w,(binOp op t (.float .f64 x) (.float .f64 y)).run Tryz.prog w = .ok (.float .f64 (R op t x y w)) (w.drewN (N op t x y w)):=by
 have h:∀op:BinOp,∃(R N:TypeId→Nat→Nat→World→Nat),Jy op→∀t x y w,(binOp op t (.float .f64 x) (.float .f64 y)).run Tryz.prog w = .ok (.float .f64 (R t x y w)) (w.drewN (N t x y w)):=by
  intro op
  by_cases ho:Jy op
  ·exact⟨fun t x y w=>(jw op ho t x y w).choose,fun t x y w=>(jw op ho t x y w).choose_spec.choose,fun _ t x y w=>(jw op ho t x y w).choose_spec.choose_spec⟩
  ·exact⟨fun _ _ _ _=>0,fun _ _ _ _=>0,fun h=>absurd h ho⟩
 exact⟨fun op=>(h op).choose,fun op=>(h op).choose_spec.choose,fun op ho=>(h op).choose_spec.choose_spec ho⟩
theorem ZA (d:TypeId) (hd:Tryz.prog.underlying d=some (.int .i64)) (x:Nat) (w:World):∃(v:Int) (n:Nat),(-9223372036854775808≤v∧v≤9223372036854775807)∧(convert 236 d (.float .f64 x)).run Tryz.prog w = .ok (.int .i64 v) (w.drewN n):=by
 cases hb:floatToIntVal .f64 x .i64 with
 | some v =>
  have hw:=floatToIntVal_wf hb
  exact⟨v,0,bounds_i64 hw,qv hd hb w⟩
 | none =>
  refine⟨IntKind.i64.wrap ((Question.floatToInt .f64 x .i64).cut (w.tape w.drawn (.floatToInt .f64 x .i64))),1,?_,?_⟩
  ·simp only[IntKind.wrap_i64];omega
  ·have hs:Tryz.prog.underlying 236=_:=Tryz.underlying236
   unfold floatToIntVal at hb
   split at hb
   ·rename_i m he
    split at hb
    ·cases hb
    ·rename_i hn
     simp[convert,run_underlying hs,run_underlying hd,Conv.floatToInt,he]
     exact(if_neg hn).trans rfl
   ·rename_i he
    simp[convert,run_underlying hs,run_underlying hd,Conv.floatToInt,he]
    rfl
theorem jeE (d:TypeId) (hd:Tryz.prog.underlying d=some (.int .i64)):∃(V:Nat→World→Int) (N:Nat→World→Nat),∀x w,(-9223372036854775808≤V x w∧V x w≤9223372036854775807)∧(convert 236 d (.float .f64 x)).run Tryz.prog w = .ok (.int .i64 (V x w)) (w.drewN (N x w)) :=
 ⟨fun x w=>(ZA d hd x w).choose,fun x w=>(ZA d hd x w).choose_spec.choose,fun x w=>(ZA d hd x w).choose_spec.choose_spec⟩
def FlQ (w:World) (e:Ending) (w':World):Prop:=∃r:Nat,e = .returned (.float .f64 r)∧∃n,w'=w.drewN n
def BoQ (w:World) (e:Ending) (w':World):Prop:=∃b:Bool,e = .returned (.bool b)∧∃n,w'=w.drewN n
theorem ky (x:Nat) (w:World):Calls Tryz.prog 251 #[.float .f64 x] w (FlQ w):=by
 obtain⟨z,nz,hz⟩:=jw .mul (.inr (.inr (.inl rfl))) 236 x x (w)
 obtain⟨a1,na1,ha1⟩:=jw .mul (.inr (.inr (.inl rfl))) 236 13829429103926125972 z (w.drewN (nz))
 obtain⟨a2,na2,ha2⟩:=jw .add (.inl rfl) 236 a1 13848613196940411002 (w.drewN (nz+na1))
 obtain⟨a3,na3,ha3⟩:=jw .mul (.inr (.inr (.inl rfl))) 236 a2 z (w.drewN (nz+na1+na2))
 obtain⟨a4,na4,ha4⟩:=jw .add (.inl rfl) 236 a3 13858350711815275123 (w.drewN (nz+na1+na2+na3))
 obtain⟨a5,na5,ha5⟩:=jw .mul (.inr (.inr (.inl rfl))) 236 a4 z (w.drewN (nz+na1+na2+na3+na4))
 obtain⟨a6,na6,ha6⟩:=jw .add (.inl rfl) 236 a5 13861719834326579749 (w.drewN (nz+na1+na2+na3+na4+na5))
 obtain⟨a7,na7,ha7⟩:=jw .mul (.inr (.inr (.inl rfl))) 236 a6 z (w.drewN (nz+na1+na2+na3+na4+na5+na6))
 obtain⟨a8,na8,ha8⟩:=jw .add (.inl rfl) 236 a7 13857635882265799822 (w.drewN (nz+na1+na2+na3+na4+na5+na6+na7))
 obtain⟨a9,na9,ha9⟩:=jw .mul (.inr (.inr (.inl rfl))) 236 z a8 (w.drewN (nz+na1+na2+na3+na4+na5+na6+na7+na8))
 obtain⟨b1,nb1,hb1⟩:=jw .add (.inl rfl) 236 z 4627690253511319612 (w.drewN (nz+na1+na2+na3+na4+na5+na6+na7+na8+na9))
 obtain⟨b2,nb2,hb2⟩:=jw .mul (.inr (.inr (.inl rfl))) 236 b1 z (w.drewN (nz+na1+na2+na3+na4+na5+na6+na7+na8+na9+nb1))
 obtain⟨b3,nb3,hb3⟩:=jw .add (.inl rfl) 236 b2 4640010388282866213 (w.drewN (nz+na1+na2+na3+na4+na5+na6+na7+na8+na9+nb1+nb2))
 obtain⟨b4,nb4,hb4⟩:=jw .mul (.inr (.inr (.inl rfl))) 236 b3 z (w.drewN (nz+na1+na2+na3+na4+na5+na6+na7+na8+na9+nb1+nb2+nb3))
 obtain⟨b5,nb5,hb5⟩:=jw .add (.inl rfl) 236 b4 4646322940342877755 (w.drewN (nz+na1+na2+na3+na4+na5+na6+na7+na8+na9+nb1+nb2+nb3+nb4))
 obtain⟨b6,nb6,hb6⟩:=jw .mul (.inr (.inr (.inl rfl))) 236 b5 z (w.drewN (nz+na1+na2+na3+na4+na5+na6+na7+na8+na9+nb1+nb2+nb3+nb4+nb5))
 obtain⟨b7,nb7,hb7⟩:=jw .add (.inl rfl) 236 b6 4647246694406179306 (w.drewN (nz+na1+na2+na3+na4+na5+na6+na7+na8+na9+nb1+nb2+nb3+nb4+nb5+nb6))
 obtain⟨b8,nb8,hb8⟩:=jw .mul (.inr (.inr (.inl rfl))) 236 b7 z (w.drewN (nz+na1+na2+na3+na4+na5+na6+na7+na8+na9+nb1+nb2+nb3+nb4+nb5+nb6+nb7))
 obtain⟨b9,nb9,hb9⟩:=jw .add (.inl rfl) 236 b8 4641049159275471596 (w.drewN (nz+na1+na2+na3+na4+na5+na6+na7+na8+na9+nb1+nb2+nb3+nb4+nb5+nb6+nb7+nb8))
 obtain⟨c1,nc1,hc1⟩:=jw .quo (.inr (.inr (.inr rfl))) 236 a9 b9 (w.drewN (nz+na1+na2+na3+na4+na5+na6+na7+na8+na9+nb1+nb2+nb3+nb4+nb5+nb6+nb7+nb8+nb9))
 obtain⟨c2,nc2,hc2⟩:=jw .mul (.inr (.inr (.inl rfl))) 236 x c1 (w.drewN (nz+na1+na2+na3+na4+na5+na6+na7+na8+na9+nb1+nb2+nb3+nb4+nb5+nb6+nb7+nb8+nb9+nc1))
 obtain⟨c3,nc3,hc3⟩:=jw .add (.inl rfl) 236 c2 x (w.drewN (nz+na1+na2+na3+na4+na5+na6+na7+na8+na9+nb1+nb2+nb3+nb4+nb5+nb6+nb7+nb8+nb9+nc1+nc2))
 go_enter Tryz.func251,Tryz.ntmps251
 go_wp2_with fail
 go_ret
 exact⟨_,rfl,_,rfl⟩
theorem Q6 (x:Nat) (w:World) (h1:FloatKind.f64.format.order x 4604119971053405471=some .lt∨FloatKind.f64.format.order x 4604119971053405471=some .eq):Calls Tryz.prog 245 #[.float .f64 x] w (FlQ w):=by
 rcases h1 with h1|h1
 all_goals
  go_enter Tryz.func245,Tryz.ntmps245
  go_wp2_with (go_at_call 251;refine(ky _ _).mono ?_;rintro e w' ⟨r,rfl,n,rfl⟩)
  go_ret
  first|exact⟨_,rfl,_,rfl⟩|exact⟨_,rfl,0,rfl⟩
theorem J1 (x:Nat) (w:World) (h1:FloatKind.f64.format.order x 4604119971053405471=none∨FloatKind.f64.format.order x 4604119971053405471=some .gt) (h2:FloatKind.f64.format.order x 4612618744449965542=some .gt):Calls Tryz.prog 245 #[.float .f64 x] w (FlQ w):=by
 obtain⟨q,nq,hq⟩:=jw .quo (.inr (.inr (.inr rfl))) 236 4607182418800017408 x (w)
 rcases h1 with h1|h1
 all_goals
  go_enter Tryz.func245,Tryz.ntmps245
  go_wp2_with (go_at_call 251;refine(ky _ _).mono ?_;rintro e w' ⟨r,rfl,n,rfl⟩;obtain⟨u,nu,hu⟩:=jw .sub (.inr (.inl rfl)) 236 4609753056924675352 r (w.drewN (nq+n));obtain⟨v,nv,hv⟩:=jw .add (.inl rfl) 236 u 4364452196894661639 (w.drewN (nq+n+nu)))
  go_ret
  first|exact⟨_,rfl,_,rfl⟩|exact⟨_,rfl,0,rfl⟩
theorem xh (x:Nat) (w:World) (h1:FloatKind.f64.format.order x 4604119971053405471=none∨FloatKind.f64.format.order x 4604119971053405471=some .gt) (h2:FloatKind.f64.format.order x 4612618744449965542=none∨FloatKind.f64.format.order x 4612618744449965542=some .lt∨FloatKind.f64.format.order x 4612618744449965542=some .eq):Calls Tryz.prog 245 #[.float .f64 x] w (FlQ w):=by
 obtain⟨a,na,ha⟩:=jw .sub (.inr (.inl rfl)) 236 x 4607182418800017408 (w)
 obtain⟨b,nb,hb⟩:=jw .add (.inl rfl) 236 x 4607182418800017408 (w.drewN (na))
 obtain⟨q,nq,hq⟩:=jw .quo (.inr (.inr (.inr rfl))) 236 a b (w.drewN (na+nb))
 rcases h1 with h1|h1<;>rcases h2 with h2|h2|h2
 all_goals
  go_enter Tryz.func245,Tryz.ntmps245
  go_wp2_with (go_at_call 251;refine(ky _ _).mono ?_;rintro e w' ⟨r,rfl,n,rfl⟩;obtain⟨u,nu,hu⟩:=jw .add (.inl rfl) 236 4605249457297304856 r (w.drewN (na+nb+nq+n));obtain⟨v,nv,hv⟩:=jw .add (.inl rfl) 236 u 4359948597267291143 (w.drewN (na+nb+nq+n+nu)))
  go_ret
  first|exact⟨_,rfl,_,rfl⟩|exact⟨_,rfl,0,rfl⟩
theorem KZ (x:Nat) (w:World):Calls Tryz.prog 245 #[.float .f64 x] w (FlQ w):=by
 have hh:∀o:Option Ordering,o=none∨o=some .lt∨o=some .eq∨o=some .gt:=by
  intro o
  rcases o with _|(_|_|_)
  ·exact .inl rfl
  ·exact .inr (.inl rfl)
  ·exact .inr (.inr (.inl rfl))
  ·exact .inr (.inr (.inr rfl))
 rcases hh (FloatKind.f64.format.order x 4604119971053405471) with h1|h1|h1|h1
 ·rcases hh (FloatKind.f64.format.order x 4612618744449965542) with h2|h2|h2|h2
  ·exact xh x w (.inl h1) (.inl h2)
  ·exact xh x w (.inl h1) (.inr (.inl h2))
  ·exact xh x w (.inl h1) (.inr (.inr h2))
  ·exact J1 x w (.inl h1) h2
 ·exact Q6 x w (.inl h1)
 ·exact Q6 x w (.inr h1)
 ·rcases hh (FloatKind.f64.format.order x 4612618744449965542) with h2|h2|h2|h2
  ·exact xh x w (.inr h1) (.inl h2)
  ·exact xh x w (.inr h1) (.inr (.inl h2))
  ·exact xh x w (.inr h1) (.inr (.inr h2))
  ·exact J1 x w (.inr h1) h2
theorem jdy (x:Nat) (w:World):Calls Tryz.prog 239 #[.float .f64 x] w (FlQ w):=by
 have f1:=xm x
 rcases h1:FloatKind.f64.format.order x 0 with _|(_|_|_)
 all_goals
  go_enter Tryz.func239,Tryz.ntmps239
  go_wp2_with (go_at_call 245;refine(KZ _ _).mono ?_;rintro e w' ⟨r,rfl,n,rfl⟩;have f2:=xm r)
  go_ret
  first|exact⟨_,rfl,_,rfl⟩|exact⟨_,rfl,0,rfl⟩
theorem yw (x:Nat) (w:World):Calls Tryz.prog 226 #[.float .f64 x] w (FlQ w):=by
 go_enter Tryz.func226,Tryz.ntmps226
 go_wp2_with (go_at_call 239;refine(jdy _ _).mono ?_;rintro e w' ⟨r,rfl,n,rfl⟩)
 go_ret
 exact⟨_,rfl,_,rfl⟩
theorem xi (v:Int) (w:World):(callFunc 235 #[.int .u64 v]).run Tryz.prog w = .ok (.value (.float .f64 v.toNat)) w:=by
 rw[run_callFunc_extern Tryz.func235 (by kernel_rfl) (by kernel_rfl) (by kernel_rfl) (e:=Extern.MathFloatBits.float64frombits) (by kernel_rfl)]
 rfl
theorem kq (w:World):Calls Tryz.prog 222 #[] w (FlQ w):=by
 have f1:=fun w=>xi 9221120237041090561 w
 go_enter Tryz.func222,Tryz.ntmps222
 go_wp2_with (simp only[f1])
 all_goals go_ret
 exact⟨_,rfl,0,rfl⟩
theorem xO (x:Nat) (w:World):Calls Tryz.prog 220 #[.float .f64 x] w (BoQ w):=by
 rcases h1:FloatKind.f64.format.order x x with _|(_|_|_)
 all_goals
  go_enter Tryz.func220,Tryz.ntmps220
  go_wp2_with fail
  go_ret
  exact⟨_,rfl,0,rfl⟩
theorem zJ (x:Nat) (w:World):Calls Tryz.prog 224 #[.float .f64 x] w (BoQ w):=by
 have f1:=fun w=>yG x w
 go_enter Tryz.func224,Tryz.ntmps224
 go_wp2_with (simp only[f1])
 go_ret
 exact⟨_,rfl,0,rfl⟩
theorem zo (x y:Nat) (w:World):Calls Tryz.prog 225 #[.float .f64 x,.float .f64 y] w (FlQ w):=by
 have f1:=fun w=>yG x w
 have f2:=fun w=>yG y w
 obtain⟨v,hv⟩:∃v,v=bits .or .u64 (bits .andNot .u64 (x:Int) 9223372036854775808) (bits .and .u64 (y:Int) 9223372036854775808):=⟨_,rfl⟩
 have f3:=fun w=>xi v w
 have hv':=hv.symm
 clear hv
 go_enter Tryz.func225,Tryz.ntmps225
 go_wp2_with (first|(simp only[f1];done)|simp only[f2]|simp only[f3])
 go_ret
 exact⟨_,rfl,0,rfl⟩
theorem jaZ (x:Nat) (w:World):Calls Tryz.prog 234 #[.float .f64 x] w (FlQ w):=by
 have f1:=fun w=>yG x w
 obtain⟨v,hv⟩:∃v,v=bits .andNot .u64 (x:Int) 9223372036854775808:=⟨_,rfl⟩
 have f3:=fun w=>xi v w
 have hv':=hv.symm
 clear hv
 go_enter Tryz.func234,Tryz.ntmps234
 go_wp2_with (first|simp only[f1]|simp only[f3])
 go_ret
 exact⟨_,rfl,0,rfl⟩
theorem Zv (o:Option Ordering):o=none∨o=some .lt∨o=some .eq∨o=some .gt:=by
 rcases o with _|(_|_|_)
 ·exact .inl rfl
 ·exact .inr (.inl rfl)
 ·exact .inr (.inr (.inl rfl))
 ·exact .inr (.inr (.inr rfl))
theorem YC (x:Nat) (w:World):Calls Tryz.prog 221 #[.float .f64 x,.int .i64 0] w (BoQ w):=by
 go_enter Tryz.func221,Tryz.ntmps221
 go_upto_region 5 with(go_at_call 234;refine(jaZ _ _).mono ?_;rintro e w' ⟨r,rfl,n,rfl⟩)
 rcases Zv (FloatKind.f64.format.order r 9218868437227405311) with h|h|h|h
 all_goals
  go_wp2_with fail
  go_ret
  exact⟨_,rfl,_,rfl⟩
theorem Vr (x:Nat) (w:World):Calls Tryz.prog 221 #[.float .f64 x,.int .i64 1] w (BoQ w):=by
 go_enter Tryz.func221,Tryz.ntmps221
 go_upto_region 5 with fail
 rcases Zv (FloatKind.f64.format.order x 9218868437227405311) with h|h|h|h
 all_goals
  go_wp2_with fail
  go_ret
  exact⟨_,rfl,0,rfl⟩
theorem Yw (Q:Question) (w:World):∃v n,(choose Q).run Tryz.prog w = .ok v (w.drewN n):=by
 by_cases h:Q.forced=true
 ·exact⟨0,0,by simp[choose,Sem.run,h];rfl⟩
 ·exact⟨Q.cut (w.tape w.drawn Q),1,by simp[choose,Sem.run,h];rfl⟩
theorem QK (name:String) (way:Ieee.Toward) (x:Nat) (w:World):∃r n,(Extern.MathFloor.toIntegral name way #[.float .f64 x]).run Tryz.prog w = .ok (.float .f64 r) (w.drewN n):=by
 have key:∀(Q:Question) (d:Ieee.Datum),∃r n,(Extern.MathFloor.toIntegral.match_1 (fun _=>Sem Value) d
   (fun s t=>if FloatKind.f64.format.quiet t=t then pure (.float .f64 x) else do
    let kept ←choose Q
    pure (.float .f64 (if kept==1 then x else FloatKind.f64.encode (.nan s (FloatKind.f64.format.quiet t)))))
   (fun d=>pure (.float .f64 (FloatKind.f64.encode (d.integral way))))).run Tryz.prog w = .ok (.float .f64 r) (w.drewN n):=by
  intro Q d
  cases d with
  | nan s t =>
   by_cases hq:FloatKind.f64.format.quiet t=t
   ·refine⟨x,0,?_⟩
    show((if FloatKind.f64.format.quiet t=t then(pure (.float .f64 x):Sem Value) else _).run Tryz.prog w)=_
    rw[if_pos hq]
    rfl
   ·obtain⟨v,n,hc⟩:=Yw Q w
    refine⟨if (v==1)=true then x else FloatKind.f64.encode (.nan s (FloatKind.f64.format.quiet t)),n,?_⟩
    show((if FloatKind.f64.format.quiet t=t then(pure (.float .f64 x):Sem Value) else _).run Tryz.prog w)=_
    rw[if_neg hq,Sem.run_bind,hc]
    rfl
  | number s m q=>exact⟨_,0,rfl⟩
  | infinity s=>exact⟨_,0,rfl⟩
 exact key _ (FloatKind.f64.decode x)
theorem XT (x:Nat) (w:World):∃r n,(callFunc 212 #[.float .f64 x]).run Tryz.prog w = .ok (.value (.float .f64 r)) (w.drewN n):=by
 obtain⟨r,n,h⟩:=QK "math.archFloor" .down x w
 refine⟨r,n,?_⟩
 rw[run_callFunc_extern Tryz.func212 (by kernel_rfl) (by kernel_rfl) (by kernel_rfl) (e:=Extern.MathFloor.toIntegral "math.archFloor" .down) (by kernel_rfl),h]
 rfl
theorem YO (x:Nat) (w:World):∃r n,(callFunc 214 #[.float .f64 x]).run Tryz.prog w = .ok (.value (.float .f64 r)) (w.drewN n):=by
 obtain⟨r,n,h⟩:=QK "math.archCeil" .up x w
 refine⟨r,n,?_⟩
 rw[run_callFunc_extern Tryz.func214 (by kernel_rfl) (by kernel_rfl) (by kernel_rfl) (e:=Extern.MathFloor.toIntegral "math.archCeil" .up) (by kernel_rfl),h]
 rfl
theorem YK (x:Nat) (w:World):∃r n,(callFunc 216 #[.float .f64 x]).run Tryz.prog w = .ok (.value (.float .f64 r)) (w.drewN n):=by
 have h:∃r n,(Extern.MathSqrt.sqrt #[.float .f64 x]).run Tryz.prog w = .ok (.float .f64 r) (w.drewN n):=by
  have key:∀o:Option Nat,∃r n,(Extern.MathSqrt.sqrt.match_1 (fun _=>Sem Value) o (fun r=>pure (.float .f64 r)) (fun _=>do pure (.float .f64 (←choose (.nanBits .f64 x x))))).run Tryz.prog w = .ok (.float .f64 r) (w.drewN n):=by
   intro o
   cases o with
   | some r=>exact⟨r,0,rfl⟩
   | none=>exact⟨_,1,rfl⟩
  exact key (FloatKind.f64.format.sqrt x)
 obtain⟨r,n,h⟩:=h
 refine⟨r,n,?_⟩
 rw[run_callFunc_extern Tryz.func216 (by kernel_rfl) (by kernel_rfl) (by kernel_rfl) (e:=Extern.MathSqrt.sqrt) (by kernel_rfl),h]
 rfl
theorem Vb (x:Nat) (w:World):Calls Tryz.prog 197 #[.float .f64 x] w (FlQ w):=by
 obtain⟨r,n,h⟩:=XT x w
 go_enter Tryz.func197,Tryz.ntmps197
 go_wp2_with (simp only[h])
 go_ret
 exact⟨_,rfl,_,rfl⟩
theorem jaS (x:Nat) (w:World):Calls Tryz.prog 198 #[.float .f64 x] w (FlQ w):=by
 obtain⟨r,n,h⟩:=YO x w
 go_enter Tryz.func198,Tryz.ntmps198
 go_wp2_with (simp only[h])
 go_ret
 exact⟨_,rfl,_,rfl⟩
theorem kt (x:Nat) (w:World):Calls Tryz.prog 199 #[.float .f64 x] w (FlQ w):=by
 obtain⟨r,n,h⟩:=YK x w
 go_enter Tryz.func199,Tryz.ntmps199
 go_wp2_with (simp only[h])
 go_ret
 exact⟨_,rfl,_,rfl⟩
theorem xN (x:Nat) (s:Int) (w:World) (h:s=0∨s=1):Calls Tryz.prog 221 #[.float .f64 x,.int .i64 s] w (BoQ w):=by
 rcases h with rfl|rfl
 ·exact YC x w
 ·exact Vr x w
theorem jfW (y x:Nat) (w:World) (h1:(FloatKind.f64.format.order y 0==some .eq)=true) (h2:(FloatKind.f64.format.order x 0==some .gt||FloatKind.f64.format.order x 0==some .eq)=true):Calls Tryz.prog 211 #[.float .f64 y,.float .f64 x] w (FlQ w):=by
 go_enter Tryz.func211,Tryz.ntmps211
 go_wp2_with first
   | (go_at_call 220;refine(xO _ _).mono ?_;rintro e w' ⟨b,rfl,n,rfl⟩;cases b)
   | (go_at_call 222;refine(kq _).mono ?_;rintro e w' ⟨r,rfl,n,rfl⟩)
   | (go_at_call 224;refine(zJ _ _).mono ?_;rintro e w' ⟨b,rfl,n,rfl⟩;cases b)
   | (go_at_call 225;refine(zo _ _ _).mono ?_;rintro e w' ⟨r,rfl,n,rfl⟩)
   | (go_at_call 221;refine(xN _ _ _ (by decide)).mono ?_;rintro e w' ⟨b,rfl,n,rfl⟩;cases b)
   | (go_at_call 226;refine(yw _ _).mono ?_;rintro e w' ⟨r,rfl,n,rfl⟩)
 all_goals (go_ret;exact⟨_,rfl,_,rfl⟩)
theorem jfU (y x:Nat) (w:World) (h1:(FloatKind.f64.format.order y 0==some .eq)=true) (h2:(FloatKind.f64.format.order x 0==some .gt||FloatKind.f64.format.order x 0==some .eq)=false):Calls Tryz.prog 211 #[.float .f64 y,.float .f64 x] w (FlQ w):=by
 go_enter Tryz.func211,Tryz.ntmps211
 go_wp2_with first
   | (go_at_call 220;refine(xO _ _).mono ?_;rintro e w' ⟨b,rfl,n,rfl⟩;cases b)
   | (go_at_call 222;refine(kq _).mono ?_;rintro e w' ⟨r,rfl,n,rfl⟩)
   | (go_at_call 224;refine(zJ _ _).mono ?_;rintro e w' ⟨b,rfl,n,rfl⟩;cases b)
   | (go_at_call 225;refine(zo _ _ _).mono ?_;rintro e w' ⟨r,rfl,n,rfl⟩)
   | (go_at_call 221;refine(xN _ _ _ (by decide)).mono ?_;rintro e w' ⟨b,rfl,n,rfl⟩;cases b)
   | (go_at_call 226;refine(yw _ _).mono ?_;rintro e w' ⟨r,rfl,n,rfl⟩)
 all_goals (go_ret;exact⟨_,rfl,_,rfl⟩)
theorem at_x0 (y x:Nat) (w:World) (h1:(FloatKind.f64.format.order y 0==some .eq)=false) (h2:(FloatKind.f64.format.order x 0==some .eq)=true):Calls Tryz.prog 211 #[.float .f64 y,.float .f64 x] w (FlQ w):=by
 go_enter Tryz.func211,Tryz.ntmps211
 go_wp2_with first
   | (go_at_call 220;refine(xO _ _).mono ?_;rintro e w' ⟨b,rfl,n,rfl⟩;cases b)
   | (go_at_call 222;refine(kq _).mono ?_;rintro e w' ⟨r,rfl,n,rfl⟩)
   | (go_at_call 224;refine(zJ _ _).mono ?_;rintro e w' ⟨b,rfl,n,rfl⟩;cases b)
   | (go_at_call 225;refine(zo _ _ _).mono ?_;rintro e w' ⟨r,rfl,n,rfl⟩)
   | (go_at_call 221;refine(xN _ _ _ (by decide)).mono ?_;rintro e w' ⟨b,rfl,n,rfl⟩;cases b)
   | (go_at_call 226;refine(yw _ _).mono ?_;rintro e w' ⟨r,rfl,n,rfl⟩)
 all_goals (go_ret;exact⟨_,rfl,_,rfl⟩)
theorem jfx (y x:Nat) (w:World) (h1:(FloatKind.f64.format.order y 0==some .eq)=false) (h2:(FloatKind.f64.format.order x 0==some .eq)=false) (h3:(FloatKind.f64.format.order x 0==some .lt)=true):Calls Tryz.prog 211 #[.float .f64 y,.float .f64 x] w (FlQ w):=by
 obtain⟨R,N,F⟩:=ya
 have hq:=fun n=>F .quo (.inr (.inr (.inr rfl))) 236 y x (w.drewN n)
 have ha:=fun r n=>F .add (.inl rfl) 236 r 4614256656552045848 (w.drewN n)
 have hs:=fun r n=>F .sub (.inr (.inl rfl)) 236 r 4614256656552045848 (w.drewN n)
 clear F
 go_enter Tryz.func211,Tryz.ntmps211
 go_wp2_with first
   | (go_at_call 220;refine(xO _ _).mono ?_;rintro e w' ⟨b,rfl,n,rfl⟩;cases b)
   | (go_at_call 222;refine(kq _).mono ?_;rintro e w' ⟨r,rfl,n,rfl⟩)
   | (go_at_call 224;refine(zJ _ _).mono ?_;rintro e w' ⟨b,rfl,n,rfl⟩;cases b)
   | (go_at_call 225;refine(zo _ _ _).mono ?_;rintro e w' ⟨r,rfl,n,rfl⟩)
   | (go_at_call 221;refine(xN _ _ _ (by decide)).mono ?_;rintro e w' ⟨b,rfl,n,rfl⟩;cases b)
   | (go_at_call 226;refine(yw _ _).mono ?_;rintro e w' ⟨r,rfl,n,rfl⟩;rcases hr:(FloatKind.f64.format.order r 0==some .lt||FloatKind.f64.format.order r 0==some .eq) with _|_)
 all_goals (go_ret;exact⟨_,rfl,_,rfl⟩)
theorem jfO (y x:Nat) (w:World) (h1:(FloatKind.f64.format.order y 0==some .eq)=false) (h2:(FloatKind.f64.format.order x 0==some .eq)=false) (h3:(FloatKind.f64.format.order x 0==some .lt)=false):Calls Tryz.prog 211 #[.float .f64 y,.float .f64 x] w (FlQ w):=by
 obtain⟨R,N,F⟩:=ya
 have hq:=fun n=>F .quo (.inr (.inr (.inr rfl))) 236 y x (w.drewN n)
 have ha:=fun r n=>F .add (.inl rfl) 236 r 4614256656552045848 (w.drewN n)
 have hs:=fun r n=>F .sub (.inr (.inl rfl)) 236 r 4614256656552045848 (w.drewN n)
 clear F
 go_enter Tryz.func211,Tryz.ntmps211
 go_wp2_with first
   | (go_at_call 220;refine(xO _ _).mono ?_;rintro e w' ⟨b,rfl,n,rfl⟩;cases b)
   | (go_at_call 222;refine(kq _).mono ?_;rintro e w' ⟨r,rfl,n,rfl⟩)
   | (go_at_call 224;refine(zJ _ _).mono ?_;rintro e w' ⟨b,rfl,n,rfl⟩;cases b)
   | (go_at_call 225;refine(zo _ _ _).mono ?_;rintro e w' ⟨r,rfl,n,rfl⟩)
   | (go_at_call 221;refine(xN _ _ _ (by decide)).mono ?_;rintro e w' ⟨b,rfl,n,rfl⟩;cases b)
   | (go_at_call 226;refine(yw _ _).mono ?_;rintro e w' ⟨r,rfl,n,rfl⟩)
 all_goals (go_ret;exact⟨_,rfl,_,rfl⟩)
theorem K5 (y x:Nat) (w:World):Calls Tryz.prog 211 #[.float .f64 y,.float .f64 x] w (FlQ w):=by
 cases h1:(FloatKind.f64.format.order y 0==some .eq) with
 | true =>
  cases h2:(FloatKind.f64.format.order x 0==some .gt||FloatKind.f64.format.order x 0==some .eq) with
  | true=>exact jfW y x w h1 h2
  | false=>exact jfU y x w h1 h2
 | false =>
  cases h2:(FloatKind.f64.format.order x 0==some .eq) with
  | true=>exact at_x0 y x w h1 h2
  | false =>
   cases h3:(FloatKind.f64.format.order x 0==some .lt) with
   | true=>exact jfx y x w h1 h2 h3
   | false=>exact jfO y x w h1 h2 h3
theorem y7 (y x:Nat) (w:World):Calls Tryz.prog 196 #[.float .f64 y,.float .f64 x] w (FlQ w):=by
 go_enter Tryz.func196,Tryz.ntmps196
 go_wp2_with (go_at_call 211;refine(K5 _ _ _).mono ?_;rintro e w' ⟨r,rfl,n,rfl⟩)
 go_ret
 exact⟨_,rfl,_,rfl⟩
end Go.Proofs.YtkkjaaognefeiaaGreatDoor
