/- Rule1, Rule2, Rule3 -/
import Derived.Test.YtkkjaaognefeiaaGreatDoorGPlainRule
import Derived.Test.YtkkjaaognefeiaaGreatDoorGSearch1
set_option maxRecDepth 100000
set_option maxHeartbeats 16000000
set_option linter.unusedVariables false
set_option linter.unusedSimpArgs false
namespace Go.Proofs.YtkkjaaognefeiaaGreatDoor
open Go.RowKit
theorem zw (b:Bool) (w:World):Calls Tryz.prog 189 #[.bool b] w fun e w'=>e = .returned (.int .i64 (xq b))∧w=w':=by
 cases b
 all_goals
  go_enter Tryz.func189,Tryz.ntmps189
  go_wp2
  go_ret
  exact⟨rfl,rfl⟩
theorem ZW (k:Int) (w:World):Calls Tryz.prog 187 #[.int .i64 k] w fun e w'=>e = .returned (.int .i64 (yt k))∧w=w':=by
 by_cases h1:k=1
 ·subst h1
  go_enter Tryz.func187,Tryz.ntmps187
  go_wp2
  go_ret
  exact⟨rfl,rfl⟩
 by_cases h2:k=2
 ·subst h2
  go_enter Tryz.func187,Tryz.ntmps187
  go_wp2
  go_ret
  exact⟨rfl,rfl⟩
 by_cases h3:k=3
 ·subst h3
  go_enter Tryz.func187,Tryz.ntmps187
  go_wp2
  go_ret
  exact⟨rfl,rfl⟩
 by_cases h11:k=11
 ·subst h11
  go_enter Tryz.func187,Tryz.ntmps187
  go_wp2
  go_ret
  exact⟨rfl,rfl⟩
 have e:yt k=2:=by unfold yt;rw[if_neg (by omega),if_neg (by omega)]
 rw[e]
 clear e
 have t1:(k==1)=false:=by simpa using h1
 have t2:(k==2)=false:=by simpa using h2
 have t3:(k==3)=false:=by simpa using h3
 have t11:(k==11)=false:=by simpa using h11
 go_enter Tryz.func187,Tryz.ntmps187
 go_wp2
 go_ret
 exact⟨rfl,rfl⟩
theorem jeC (a b:Int) (h1 : -2147483647≤a) (h2:a≤2147483647) (h3 : -2147483647≤b) (h4:b≤2147483647) : -4611686014132420609≤a*b∧a*b≤4611686014132420609:=by
 have h:(a*b).natAbs=a.natAbs*b.natAbs:=Int.natAbs_mul a b
 have:a.natAbs*b.natAbs≤2147483647*2147483647:=Nat.mul_le_mul (by omega) (by omega)
 omega
def qe (p:Int×Int) (w:World) (e:Ending) (w':World):Prop:=e = .returned (.tuple #[.int .i64 p.1,.int .i64 p.2])∧Below w.heap.size w w'
theorem jdZ (n y a b:Int) (A:Option Addr) (l c:Nat) (w:World) (h1 : -2147483647≤a) (h2:a≤2147483647) (h3 : -2147483647≤b) (h4:b≤2147483647) :
  Calls Tryz.prog 160 #[.agg #[.int .i64 1,.int .i64 n,.slice A l c],.int .i64 y,.agg #[.int .i64 a,.int .i64 b]] w (qe (jA 1 n y a b) w):=by
 rw[show jA 1 n y a b=(n,0) from rfl]
 go_enter Tryz.func160,Tryz.ntmps160
 go_wp2_with fail
 go_quiet (fail)
 go_wp2_with fail
 go_ret2
 exact⟨rfl,jd (jh _ _ _) _⟩
theorem jeT (n y a b:Int) (A:Option Addr) (l c:Nat) (w:World) (h1 : -2147483647≤a) (h2:a≤2147483647) (h3 : -2147483647≤b) (h4:b≤2147483647) :
  Calls Tryz.prog 160 #[.agg #[.int .i64 2,.int .i64 n,.slice A l c],.int .i64 y,.agg #[.int .i64 a,.int .i64 b]] w (qe (jA 2 n y a b) w):=by
 rw[show jA 2 n y a b=(y,0) from rfl]
 go_enter Tryz.func160,Tryz.ntmps160
 go_wp2_with fail
 go_quiet (fail)
 go_wp2_with fail
 go_ret2
 exact⟨rfl,jd (jh _ _ _) _⟩
theorem jeJ (n y a b:Int) (A:Option Addr) (l c:Nat) (w:World) (h1 : -2147483647≤a) (h2:a≤2147483647) (h3 : -2147483647≤b) (h4:b≤2147483647) :
  Calls Tryz.prog 160 #[.agg #[.int .i64 3,.int .i64 n,.slice A l c],.int .i64 y,.agg #[.int .i64 a,.int .i64 b]] w (qe (jA 3 n y a b) w):=by
 rw[show jA 3 n y a b=(-a,0) from rfl]
 go_enter Tryz.func160,Tryz.ntmps160
 go_wp2_with fail
 go_quiet (fail)
 go_wp2_with fail
 go_ret2
 exact⟨rfl,jd (jh _ _ _) _⟩
theorem jee (n y a b:Int) (A:Option Addr) (l c:Nat) (w:World) (h1 : -2147483647≤a) (h2:a≤2147483647) (h3 : -2147483647≤b) (h4:b≤2147483647) :
  Calls Tryz.prog 160 #[.agg #[.int .i64 4,.int .i64 n,.slice A l c],.int .i64 y,.agg #[.int .i64 a,.int .i64 b]] w (qe (jA 4 n y a b) w):=by
 rw[show jA 4 n y a b=(a+b,0) from rfl]
 go_enter Tryz.func160,Tryz.ntmps160
 go_wp2_with fail
 go_quiet (fail)
 go_wp2_with fail
 go_ret2
 exact⟨rfl,jd (jh _ _ _) _⟩
theorem jd0 (n y a b:Int) (A:Option Addr) (l c:Nat) (w:World) (h1 : -2147483647≤a) (h2:a≤2147483647) (h3 : -2147483647≤b) (h4:b≤2147483647) :
  Calls Tryz.prog 160 #[.agg #[.int .i64 5,.int .i64 n,.slice A l c],.int .i64 y,.agg #[.int .i64 a,.int .i64 b]] w (qe (jA 5 n y a b) w):=by
 rw[show jA 5 n y a b=(a-b,0) from rfl]
 go_enter Tryz.func160,Tryz.ntmps160
 go_wp2_with fail
 go_quiet (fail)
 go_wp2_with fail
 go_ret2
 exact⟨rfl,jd (jh _ _ _) _⟩
theorem jdH (n y a b:Int) (A:Option Addr) (l c:Nat) (w:World) (h1 : -2147483647≤a) (h2:a≤2147483647) (h3 : -2147483647≤b) (h4:b≤2147483647) :
  Calls Tryz.prog 160 #[.agg #[.int .i64 6,.int .i64 n,.slice A l c],.int .i64 y,.agg #[.int .i64 a,.int .i64 b]] w (qe (jA 6 n y a b) w):=by
 rw[show jA 6 n y a b=(a*b,0) from rfl]
 have hm:=jeC a b h1 h2 h3 h4
 obtain⟨m1,m2⟩:=hm
 go_enter Tryz.func160,Tryz.ntmps160
 go_wp2_with fail
 go_quiet (fail)
 go_wp2_with fail
 go_ret2
 exact⟨rfl,jd (jh _ _ _) _⟩
theorem Zr (n y a:Int) (A:Option Addr) (l c:Nat) (w:World) :
  Calls Tryz.prog 160 #[.agg #[.int .i64 7,.int .i64 n,.slice A l c],.int .i64 y,.agg #[.int .i64 a,.int .i64 0]] w (qe (jA 7 n y a 0) w):=by
 rw[show jA 7 n y a 0=(0,1) from rfl]
 go_enter Tryz.func160,Tryz.ntmps160
 go_wp2_with fail
 go_quiet (fail)
 go_wp2_with (go_at_call 67;refine(Xt _ _).mono ?_;rintro e w' ⟨rfl,rfl⟩)
 go_ret2
 exact⟨rfl,jd (jh _ _ _) _⟩
theorem Ye (n y a b:Int) (A:Option Addr) (l c:Nat) (w:World) (h1 : -2147483647≤a) (h2:a≤2147483647) (h3 : -2147483647≤b) (h4:b≤2147483647) (h0:¬b=0) :
  Calls Tryz.prog 160 #[.agg #[.int .i64 7,.int .i64 n,.slice A l c],.int .i64 y,.agg #[.int .i64 a,.int .i64 b]] w (qe (jA 7 n y a b) w):=by
 rw[show jA 7 n y a b=(a.fdiv b,0) from by simp[jA,h0]]
 have hb:(b==0)=false:=by simpa using h0
 have HD:=hD (fun w=>Zq a b w (by omega) (by omega) (by omega) (by omega) hb)
 generalize a.fdiv b=q at *
 generalize a.fmod b=r at *
 clear hb h0
 go_enter Tryz.func160,Tryz.ntmps160
 go_wp2_with fail
 go_quiet (fail)
 go_wp2_with (go_at_call 67;refine(HD.out _).mono ?_;rintro e w' ⟨rfl,n1,rfl⟩)
 go_ret2
 exact⟨rfl,(by first|exact jd (jd (jh _ _ _) _) _|exact jd (jh _ _ _) _)⟩
theorem je2 (n y a b:Int) (A:Option Addr) (l c:Nat) (w:World) (h1 : -2147483647≤a) (h2:a≤2147483647) (h3 : -2147483647≤b) (h4:b≤2147483647) :
  Calls Tryz.prog 160 #[.agg #[.int .i64 7,.int .i64 n,.slice A l c],.int .i64 y,.agg #[.int .i64 a,.int .i64 b]] w (qe (jA 7 n y a b) w):=by
 by_cases h0:b=0
 ·subst h0;exact Zr n y a A l c w
 ·exact Ye n y a b A l c w h1 h2 h3 h4 h0
theorem Zu (n y a:Int) (A:Option Addr) (l c:Nat) (w:World) :
  Calls Tryz.prog 160 #[.agg #[.int .i64 8,.int .i64 n,.slice A l c],.int .i64 y,.agg #[.int .i64 a,.int .i64 0]] w (qe (jA 8 n y a 0) w):=by
 rw[show jA 8 n y a 0=(0,1) from rfl]
 go_enter Tryz.func160,Tryz.ntmps160
 go_wp2_with fail
 go_quiet (fail)
 go_wp2_with (go_at_call 67;refine(Xt _ _).mono ?_;rintro e w' ⟨rfl,rfl⟩)
 go_ret2
 exact⟨rfl,jd (jh _ _ _) _⟩
theorem ZY (n y a b:Int) (A:Option Addr) (l c:Nat) (w:World) (h1 : -2147483647≤a) (h2:a≤2147483647) (h3 : -2147483647≤b) (h4:b≤2147483647) (h0:¬b=0) :
  Calls Tryz.prog 160 #[.agg #[.int .i64 8,.int .i64 n,.slice A l c],.int .i64 y,.agg #[.int .i64 a,.int .i64 b]] w (qe (jA 8 n y a b) w):=by
 rw[show jA 8 n y a b=(a.fmod b,0) from by simp[jA,h0]]
 have hb:(b==0)=false:=by simpa using h0
 have HD:=hD (fun w=>Zq a b w (by omega) (by omega) (by omega) (by omega) hb)
 generalize a.fdiv b=q at *
 generalize a.fmod b=r at *
 clear hb h0
 go_enter Tryz.func160,Tryz.ntmps160
 go_wp2_with fail
 go_quiet (fail)
 go_wp2_with (go_at_call 67;refine(HD.out _).mono ?_;rintro e w' ⟨rfl,n1,rfl⟩)
 go_ret2
 exact⟨rfl,(by first|exact jd (jd (jh _ _ _) _) _|exact jd (jh _ _ _) _)⟩
theorem je1 (n y a b:Int) (A:Option Addr) (l c:Nat) (w:World) (h1 : -2147483647≤a) (h2:a≤2147483647) (h3 : -2147483647≤b) (h4:b≤2147483647) :
  Calls Tryz.prog 160 #[.agg #[.int .i64 8,.int .i64 n,.slice A l c],.int .i64 y,.agg #[.int .i64 a,.int .i64 b]] w (qe (jA 8 n y a b) w):=by
 by_cases h0:b=0
 ·subst h0;exact Zu n y a A l c w
 ·exact ZY n y a b A l c w h1 h2 h3 h4 h0
theorem jem (n y a b:Int) (A:Option Addr) (l c:Nat) (w:World) (h1 : -2147483647≤a) (h2:a≤2147483647) (h3 : -2147483647≤b) (h4:b≤2147483647) :
  Calls Tryz.prog 160 #[.agg #[.int .i64 9,.int .i64 n,.slice A l c],.int .i64 y,.agg #[.int .i64 a,.int .i64 b]] w (qe (jA 9 n y a b) w):=by
 rw[show jA 9 n y a b=(xq (decide (a<b)),0) from rfl]
 go_enter Tryz.func160,Tryz.ntmps160
 go_wp2_with fail
 go_quiet (fail)
 go_wp2_with (go_at_call 189;refine(zw _ _).mono ?_;rintro e w' ⟨rfl,rfl⟩)
 go_ret2
 exact⟨rfl,jd (jh _ _ _) _⟩
theorem jcD (n y a b:Int) (A:Option Addr) (l c:Nat) (w:World) (h1 : -2147483647≤a) (h2:a≤2147483647) (h3 : -2147483647≤b) (h4:b≤2147483647) :
  Calls Tryz.prog 160 #[.agg #[.int .i64 10,.int .i64 n,.slice A l c],.int .i64 y,.agg #[.int .i64 a,.int .i64 b]] w (qe (jA 10 n y a b) w):=by
 rw[show jA 10 n y a b=(xq (a==b),0) from rfl]
 go_enter Tryz.func160,Tryz.ntmps160
 go_wp2_with fail
 go_quiet (fail)
 go_wp2_with (go_at_call 189;refine(zw _ _).mono ?_;rintro e w' ⟨rfl,rfl⟩)
 go_ret2
 exact⟨rfl,jd (jh _ _ _) _⟩
theorem jb3 (n y a b:Int) (A:Option Addr) (l c:Nat) (w:World) (h1 : -2147483647≤a) (h2:a≤2147483647) (h3 : -2147483647≤b) (h4:b≤2147483647) :
  Calls Tryz.prog 160 #[.agg #[.int .i64 11,.int .i64 n,.slice A l c],.int .i64 y,.agg #[.int .i64 a,.int .i64 b]] w (qe (jA 11 n y a b) w):=by
 rw[show jA 11 n y a b=(xq (a==0),0) from rfl]
 go_enter Tryz.func160,Tryz.ntmps160
 go_wp2_with fail
 go_quiet (fail)
 go_wp2_with (go_at_call 189;refine(zw _ _).mono ?_;rintro e w' ⟨rfl,rfl⟩)
 go_ret2
 exact⟨rfl,jd (jh _ _ _) _⟩
theorem jcF (n y a b:Int) (A:Option Addr) (l c:Nat) (w:World) (h1 : -2147483647≤a) (h2:a≤2147483647) (h3 : -2147483647≤b) (h4:b≤2147483647) :
  Calls Tryz.prog 160 #[.agg #[.int .i64 12,.int .i64 n,.slice A l c],.int .i64 y,.agg #[.int .i64 a,.int .i64 b]] w (qe (jA 12 n y a b) w):=by
 rw[show jA 12 n y a b=(xq (a != 0&&b != 0),0) from rfl]
 by_cases ha:a=0
 ·have t:(a != 0)=false:=by simp[ha]
  rw[t]
  clear ha
  go_enter Tryz.func160,Tryz.ntmps160
  go_wp2_with fail
  go_quiet (fail)
  go_wp2_with (go_at_call 189;refine(zw _ _).mono ?_;rintro e w' ⟨rfl,rfl⟩)
  go_ret2
  exact⟨by simp,jd (jh _ _ _) _⟩
 ·have t:(a != 0)=true:=by simp[ha]
  rw[t]
  clear ha
  go_enter Tryz.func160,Tryz.ntmps160
  go_wp2_with fail
  go_quiet (fail)
  go_wp2_with (go_at_call 189;refine(zw _ _).mono ?_;rintro e w' ⟨rfl,rfl⟩)
  go_ret2
  exact⟨by simp,jd (jh _ _ _) _⟩
theorem jbD (n y a b:Int) (A:Option Addr) (l c:Nat) (w:World) (h1 : -2147483647≤a) (h2:a≤2147483647) (h3 : -2147483647≤b) (h4:b≤2147483647) :
  Calls Tryz.prog 160 #[.agg #[.int .i64 13,.int .i64 n,.slice A l c],.int .i64 y,.agg #[.int .i64 a,.int .i64 b]] w (qe (jA 13 n y a b) w):=by
 rw[show jA 13 n y a b=(xq (a != 0||b != 0),0) from rfl]
 by_cases ha:a=0
 ·have t:(a != 0)=false:=by simp[ha]
  rw[t]
  clear ha
  go_enter Tryz.func160,Tryz.ntmps160
  go_wp2_with fail
  go_quiet (fail)
  go_wp2_with (go_at_call 189;refine(zw _ _).mono ?_;rintro e w' ⟨rfl,rfl⟩)
  go_ret2
  exact⟨by simp,jd (jh _ _ _) _⟩
 ·have t:(a != 0)=true:=by simp[ha]
  rw[t]
  clear ha
  go_enter Tryz.func160,Tryz.ntmps160
  go_wp2_with fail
  go_quiet (fail)
  go_wp2_with (go_at_call 189;refine(zw _ _).mono ?_;rintro e w' ⟨rfl,rfl⟩)
  go_ret2
  exact⟨by simp,jd (jh _ _ _) _⟩
theorem jaD (k n y a b:Int) (A:Option Addr) (l c:Nat) (w:World) (k0:1≤k) (k1:k≤13) (h1 : -2147483647≤a) (h2:a≤2147483647) (h3 : -2147483647≤b) (h4:b≤2147483647) :
  Calls Tryz.prog 160 #[.agg #[.int .i64 k,.int .i64 n,.slice A l c],.int .i64 y,.agg #[.int .i64 a,.int .i64 b]] w (qe (jA k n y a b) w):=by
 have h:k=1∨k=2∨k=3∨k=4∨k=5∨k=6∨k=7∨k=8∨k=9∨k=10∨k=11∨k=12∨k=13:=by omega
 rcases h with rfl|rfl|rfl|rfl|rfl|rfl|rfl|rfl|rfl|rfl|rfl|rfl|rfl
 ·exact jdZ n y a b A l c w h1 h2 h3 h4
 ·exact jeT n y a b A l c w h1 h2 h3 h4
 ·exact jeJ n y a b A l c w h1 h2 h3 h4
 ·exact jee n y a b A l c w h1 h2 h3 h4
 ·exact jd0 n y a b A l c w h1 h2 h3 h4
 ·exact jdH n y a b A l c w h1 h2 h3 h4
 ·exact je2 n y a b A l c w h1 h2 h3 h4
 ·exact je1 n y a b A l c w h1 h2 h3 h4
 ·exact jem n y a b A l c w h1 h2 h3 h4
 ·exact jcD n y a b A l c w h1 h2 h3 h4
 ·exact jb3 n y a b A l c w h1 h2 h3 h4
 ·exact jcF n y a b A l c w h1 h2 h3 h4
 ·exact jbD n y a b A l c w h1 h2 h3 h4
def IsExpr (B g:Nat) (t:RE) (d n0:Nat) (w:World) (e:Ending) (w':World):Prop :=
 ∃(E:Int) (n1:Nat),e = .returned (.int .i64 E)∧Box w' g 3 #[.int .i64 (n1:Int)]∧Below B w w'∧n1≤61
  ∧ (E=0→ReOk t∧n1=n0+sz t∧n1≤60∧d+ht t≤13)
  ∧ (E≠0→ReOk t→E=2∧¬(n0+sz t≤60∧d+ht t≤13))
theorem IsExpr.form {B g:Nat} {k n:Int} {A:Option Addr} {c:Nat} {ks:List RE} {d n0 n1:Nat} {w w':World} (h:¬ReNode k n ks.length) (hx:Box w' g 3 #[.int .i64 (n1:Int)]) (hb:Below B w w') (h1:n1≤61) :
  IsExpr B g (.node k n A c ks) d n0 w (.returned (.int .i64 8)) w' :=
 ⟨8,n1,rfl,hx,hb,h1,fun h=>by omega,fun _ hok=>by cases hok with|mk node _=>exact absurd node h⟩
theorem IsExpr.large {B g:Nat} {k n:Int} {A:Option Addr} {c:Nat} {ks:List RE} {d n0 n1:Nat} {w w':World} (h:60<n0+1∨12<d) (hx:Box w' g 3 #[.int .i64 (n1:Int)]) (hb:Below B w w') (h1:n1≤61) :
  IsExpr B g (.node k n A c ks) d n0 w (.returned (.int .i64 2)) w' :=
 ⟨2,n1,rfl,hx,hb,h1,fun h=>by omega,fun _ _=>⟨rfl,fun hh=>by simp only[sz,ht] at hh;omega⟩⟩
theorem ja5 (w0:World) (B g:Nat) (hBg:B≤g) (t:RE) (hin:ReIn w0 B t):∀(w:World) (d n0:Nat),Below B w0 w→Box w g 3 #[.int .i64 (n0:Int)]→d≤13→n0≤60 →
  Calls Tryz.prog 156 #[reV t,.int .i64 (d:Int),.pointer (some ⟨g,0,none⟩)] w (IsExpr B g t d n0 w):=by
 induction hin with
 | @mk k n A c ks hk hn hl row kids ih =>
  intro w d n0 hb0 hg hd hn0
  obtain⟨k1,k2⟩:=hk
  obtain⟨n1,n2⟩:=hn
  unfold maxLen at hl
  have hgl:=hg.lt
  have hsz:=hb0.size
  have g0:w.cell? ⟨g,0,none⟩=some (.int .i64 (n0:Int)):=hg.cell 0
  have gf:w.frozen? ⟨g,0,none⟩=false:=hg.free 0
  have hgn:w.heap.size≠g:=by omega
  obtain⟨W1,hW1⟩:∃W1,W1=(w.setCell ⟨g,0,none⟩ (.int .i64 ((n0:Int)+1))).alloc (.cells #[.int .i64 k,.int .i64 n,.slice A ks.length c] 126):=⟨_,rfl⟩
  have hs1:(w.setCell ⟨g,0,none⟩ (.int .i64 ((n0:Int)+1))).heap.size=w.heap.size:=by simp[World.setCell]
  have hbW:Hid (Below B w W1):=by
   rw[hW1]
   exact((Below.refl _ _).setCell (p:=⟨g,0,none⟩) hBg _).alloc (by rw[hs1];omega) _
  have hG1:Hid (Box W1 g 3 #[.int .i64 ((n0+1:Nat):Int)]):=by
   rw[hW1,show((n0+1:Nat):Int)=(n0:Int)+1 from by omega]
   exact(hg.set_ 0 _).alloc _
  have hX1:Hid (Box W1 w.heap.size 126 #[.int .i64 k,.int .i64 n,.slice A ks.length c]):=by
   have:=Box.new (w.setCell ⟨g,0,none⟩ (.int .i64 ((n0:Int)+1))) 126 #[.int .i64 k,.int .i64 n,.slice A ks.length c]
   rw[hs1] at this
   rw[hW1];exact this
  have HW1:=hD hW1
  clear hs1 hW1
  change Calls Tryz.prog 156 #[.agg #[.int .i64 k,.int .i64 n,.slice A ks.length c],.int .i64 (d:Int),.pointer (some ⟨g,0,none⟩)] w _
  by_cases h1:60<n0+1
  ·have t1:decide ((60:Int)<(n0:Int)+1)=true:=decide_eq_true (by omega)
   go_enter Tryz.func156,Tryz.ntmps156
   go_wp2_with fail
   go_ret
   rw[←HW1.out]
   exact IsExpr.large (n1:=n0+1) (.inl h1) hG1.out hbW.out (by omega)
  have t1:decide ((60:Int)<(n0:Int)+1)=false:=decide_eq_false (by omega)
  by_cases h2:12<d
  ·have t2:decide ((12:Int)<(d:Int))=true:=decide_eq_true (by omega)
   go_enter Tryz.func156,Tryz.ntmps156
   go_wp2_with fail
   go_ret
   rw[←HW1.out]
   exact IsExpr.large (n1:=n0+1) (.inr h2) hG1.out hbW.out (by omega)
  have t2:decide ((12:Int)<(d:Int))=false:=decide_eq_false (by omega)
  obtain⟨M,hM⟩:∃M:Int,M=if k=1 then 2147483647 else 0:=⟨_,rfl⟩
  have HM:=hD hM
  have hM0:0≤M:=by rw[hM];split<;>omega
  have hM1:M≤2147483647:=by rw[hM];split<;>omega
  clear hM
  have HN:Hid (ReNode k n ks.length↔1≤k∧k≤13∧ks.length=yt k∧0≤n∧n≤M):=by
   rw[HM.out]
   exact⟨fun⟨a,b,c,d,e⟩=>⟨a,b,c,d,e⟩,fun⟨a,b,c,d,e⟩=>⟨a,b,c,d,e⟩⟩
  go_enter Tryz.func156,Tryz.ntmps156
  go_upto_if 26 with fail
  rw[←HW1.out]
  clear t1 t2 g0 gf
  go_cut [7] (fun s7 wx=>s7 = .int .i64 M∧wx=W1)
  case first =>
   by_cases hk1:k=1
   ·have t3:(k==1)=true:=by simpa using hk1
    rw[if_pos hk1] at HM
    clear hk1
    go_wp2_with fail
    go_meet
    exact⟨by rw[HM.out],rfl⟩
   ·have t3:(k==1)=false:=by simpa using hk1
    rw[if_neg hk1] at HM
    clear hk1
    go_wp2_with fail
    go_meet
    exact⟨by rw[HM.out],rfl⟩
  case rest =>
  obtain⟨rfl,hwc⟩:=hcut
  subst hwc
  have x0:wc.cell? ⟨w.heap.size,0,none⟩=some (.int .i64 k):=hX1.out.cell 0
  have x1:wc.cell? ⟨w.heap.size,1,none⟩=some (.int .i64 n):=hX1.out.cell 1
  have x2:wc.cell? ⟨w.heap.size,2,none⟩=some (.slice A ks.length c):=hX1.out.cell 2
  have xl:=hX1.out.lt
  clear HM HW1
  go_upto_region 7 with fail
  by_cases i1:k<1
  ·have e1:decide (k<1)=true:=decide_eq_true i1
   go_quiet (fail)
   go_wp2_with fail
   go_ret
   exact IsExpr.form (n1:=n0+1) (fun h=>by have:=h.k0;omega) (hG1.out.drewN _) (jd hbW.out _) (by omega)
  have e1:decide (k<1)=false:=decide_eq_false i1
  by_cases i2:13<k
  ·have e2:decide (13<k)=true:=decide_eq_true i2
   go_quiet (fail)
   go_wp2_with fail
   go_ret
   exact IsExpr.form (n1:=n0+1) (fun h=>by have:=h.k1;omega) (hG1.out.drewN _) (jd hbW.out _) (by omega)
  have e2:decide (13<k)=false:=decide_eq_false i2
  have HO:=hD (fun w=>ZW k w)
  by_cases i3:ks.length=yt k
  case neg =>
   have e3:(((ks.length:Nat):Int) != ((yt k:Nat):Int))=true:=by rw[bne_iff_ne];omega
   have e3':(ks.length != yt k)=true:=by rw[bne_iff_ne];omega
   go_quiet ((go_at_call 187;exact Calls.quiet_of_same ((HO.out _).mono fun _ _ ⟨a,b⟩=>⟨a,b.symm⟩)))
   go_wp2_with fail
   go_ret
   exact IsExpr.form (n1:=n0+1) (fun h=>i3 h.len) (hG1.out.drewN _) (jd hbW.out _) (by omega)
  have e3:(((ks.length:Nat):Int) != ((yt k:Nat):Int))=false:=by rw[bne_eq_false_iff_eq];omega
  have e3':(ks.length != yt k)=false:=by rw[bne_eq_false_iff_eq];omega
  by_cases i4:n<0
  ·have e4:decide (n<0)=true:=decide_eq_true i4
   have I3:=hD i3
   clear i3
   go_quiet ((go_at_call 187;exact Calls.quiet_of_same ((HO.out _).mono fun _ _ ⟨a,b⟩=>⟨a,b.symm⟩)))
   go_wp2_with fail
   go_ret
   exact IsExpr.form (n1:=n0+1) (fun h=>by have:=h.n0;omega) (hG1.out.drewN _) (jd hbW.out _) (by omega)
  have e4:decide (n<0)=false:=decide_eq_false i4
  have I3:=hD i3
  clear i3
  by_cases i5:M<n
  ·have e5:decide (M<n)=true:=decide_eq_true i5
   go_quiet ((go_at_call 187;exact Calls.quiet_of_same ((HO.out _).mono fun _ _ ⟨a,b⟩=>⟨a,b.symm⟩)))
   go_wp2_with fail
   go_ret
   exact IsExpr.form (n1:=n0+1) (fun h=>by have:=(HN.out.1 h).2.2.2.2;omega) (hG1.out.drewN _) (jd hbW.out _) (by omega)
  have e5:decide (M<n)=false:=decide_eq_false i5
  have HNode:=hD (HN.out.2 ⟨by omega,by omega,I3.out,by omega,by omega⟩)
  go_quiet ((go_at_call 187;exact Calls.quiet_of_same ((HO.out _).mono fun _ _ ⟨a,b⟩=>⟨a,b.symm⟩)))
  clear e1 e2 e3 e3' e4 e5
  go_wp2_with fail
  have hks:ks.length≤2:=by rw[I3.out];unfold yt;split<;>(try split)<;>omega
  have IH:=hD ih
  have HB0:=hD hb0
  have hbr0:=jd hbW.out nq
  have hgr0:=hG1.out.drewN nq
  generalize wc.drewN nq=wd at *
  clear ih kids hbW hG1 hX1 x0 x1 x2 xl HO HN hg hb0 I3
  go_loopw [9,10,58] (fun _ _ i wr=>∃j:Nat,j≤ks.length∧i = .int .i64 j∧Box wr g 3 #[.int .i64 ((n0+1+szL (ks.take j):Nat):Int)]∧n0+1+szL (ks.take j)≤60∧d+1+htL (ks.take j)≤13∧Hid (∀i,i<j→ReOk (ks.getD i re0))∧Below B w wr) (fun _ _ i _=>ks.length-(intOf i).toNat)
  case atStart=>exact⟨0,by omega,rfl,by simpa[szL] using hgr0,by simp[szL];omega,by simp[htL];omega,(fun i hi=>by omega),hbr0⟩
  case round =>
   obtain⟨j,hj,rfl,hgr,hn60,hd13,hall,hbr⟩:=hrel
   have hgl2:=hgr.lt
   by_cases hlt:j<ks.length
   ·obtain⟨b,o,rfl,hb,hc⟩:=row.open_ (qg xI (by omega) ks (by omega))
    have hc':∀i v,(ks.flatMap reF)[i]?=some v→wr.cell? ⟨b,o+i,none⟩=some v:=fun i v hv=>((HB0.out.trans hbr).cell (p:=⟨b,o+i,none⟩) hb).trans (hc i v hv)
    have hmem:=yv re0 ks j hlt
    have S1:=hD (jaV ks j hlt)
    have S2:=hD (jdA ks j hlt)
    have S3:=hD (jaW ks (j+1))
    have S4:=hD (jcl ks (j+1))
    have HI0:=IH.out _ hmem
    have HM0:Hid (ReOk (.node k n (some ⟨b,o,none⟩) c ks)→ReOk (ks.getD j re0)):=fun h=>by cases h with|mk node kids=>exact kids _ hmem
    have hall':=hall
    generalize hx:ks.getD j re0=x at *
    obtain⟨k',n',A',c',ks'⟩:=x
    have y0:=jm xI re0 hc' j 0 hlt (by omega) (.int .i64 k') (by rw[hx];rfl)
    have y1:=jm xI re0 hc' j 1 hlt (by omega) (.int .i64 n') (by rw[hx];rfl)
    have y2:=jm xI re0 hc' j 2 hlt (by omega) (.slice A' ks'.length c') (by rw[hx];rfl)
    rw[Nat.add_zero] at y0
    have hbl:b<wr.heap.size:=by omega
    have HI:Hid (∀w',Below B w0 w'→Box w' g 3 #[.int .i64 ((n0+1+szL (ks.take j):Nat):Int)]→Calls Tryz.prog 156 #[.agg #[.int .i64 k',.int .i64 n',.slice A' ks'.length c'],.int .i64 ((d:Int)+1),.pointer (some ⟨g,0,none⟩)] w' (IsExpr B g (.node k' n' A' c' ks') (d+1) (n0+1+szL (ks.take j)) w')):=by
     intro w' h1 h2
     have:=HI0 w' (d+1) (n0+1+szL (ks.take j)) h1 h2 (by omega) hn60
     rw[show((d+1:Nat):Int)=(d:Int)+1 from by omega] at this
     exact this
    have HX:=hD hx
    have hbr1:=hbr.alloc (by omega) (.cells #[.int .i64 k',.int .i64 n',.slice A' ks'.length c'] 126)
    have hgr1:=hgr.alloc (.cells #[.int .i64 k',.int .i64 n',.slice A' ks'.length c'] 126)
    have HBR:=hD hbr1
    have HGR:=hD hgr1
    clear hc hc' HI0 hx hmem hbr hgr hbr1 hgr1
    go_wp2_with fail
    refine(HI.out _ (HB0.out.trans HBR.out) HGR.out).mono ?_
    rintro e w2 ⟨E,m1,rfl,hg2,hb2,hm,hE0,hE1⟩
    have HB2:=hD (HBR.out.trans hb2)
    clear hb2 HI HBR HGR
    by_cases hE:E=0
    ·subst hE
     obtain⟨ok,hm1,hm2,hm3⟩:=hE0 rfl
     have HG2:=hD hg2
     have HM1:=hD hm1
     clear hE0 hE1 hg2 hm1
     go_wp2_with fail
     go_roundw
     case rel =>
      refine⟨j+1,by omega,by go_num,?_,?_,?_,fun i hi=>?_,HB2.out⟩
      ·have:=HG2.out;rw[HM1.out] at this;rw[S1.out,←Nat.add_assoc];exact this
      ·have:=HM1.out;rw[S1.out];omega
      ·rw[S2.out];omega
      ·by_cases hij:i<j
       ·exact hall.out i hij
       ·obtain rfl:i=j:=by omega
        rw[HX.out];exact ok
     case measure=>simp[intOf];omega
    ·have tE:(E != 0)=true:=by rw[bne_iff_ne];exact hE
     have HE1:=hD hE1
     clear hE0 hE1
     go_wp2_with fail
     go_ret
     refine⟨E,m1,rfl,hg2,HB2.out,hm,fun h=>absurd h hE,fun _ hok=>?_⟩
     obtain⟨q1,q2⟩:=HE1.out hE (HM0.out hok)
     refine⟨q1,fun hh=>q2 ?_⟩
     have r1:=S1.out
     have r2:=S2.out
     have r3:=S3.out
     have r4:=S4.out
     rw[sz,ht] at hh
     omega
   ·obtain rfl:j=ks.length:=by omega
    rw[List.take_length] at hn60 hd13 hgr
    go_wp2_with fail
    go_ret
    refine⟨0,_,rfl,hgr,hbr,by omega,fun _=>⟨.mk HNode.out (fun x hx=>?_),by rw[sz];omega,hn60,by rw[ht];omega⟩,fun h=>absurd rfl h⟩
    obtain⟨i,hi,rfl⟩:=List.getElem_of_mem hx
    have:=hall.out i hi
    simpa[List.getD,hi] using this
structure ReFine (t:RE):Prop where
 ok:ReOk t
 sz:sz t≤60
 ht:ht t≤12
def jcR (t:RE) (w:World) (e:Ending) (w':World):Prop :=
 ∃E:Int,e = .returned (.int .i64 E)∧Below w.heap.size w w'∧(E=0→ReFine t)∧(E≠0→¬ReFine t)∧(E≠0→ReOk t→E=2)
theorem vk (t:RE) (w:World) (hin:ReIn w w.heap.size t):Calls Tryz.prog 109 #[reV t] w (jcR t w):=by
 have HI:=hD (fun W (h1:Below w.heap.size w W) h2=>ja5 w w.heap.size (w.heap.size+1) (by omega) t hin W 1 0 h1 h2 (by omega) (by omega))
 obtain⟨k,n,A,c,ks⟩:=t
 change Calls Tryz.prog 109 #[.agg #[.int .i64 k,.int .i64 n,.slice A ks.length c]] w _
 have q1:=hD (jh w (.cells #[.int .i64 k,.int .i64 n,.slice A ks.length c] 126) (.cells #[.int .i64 0] 3))
 have q2:Hid (Box ((w.alloc (.cells #[.int .i64 k,.int .i64 n,.slice A ks.length c] 126)).alloc (.cells #[.int .i64 0] 3)) (w.heap.size+1) 3 #[.int .i64 0]):=heap_alloc2_new _ _ _
 go_enter Tryz.func109,Tryz.ntmps109
 go_wp2_with fail
 refine(HI.out _ q1.out q2.out).mono ?_
 rintro e w2 ⟨E,m1,rfl,hg2,hb2,hm,hE0,hE1⟩
 have HB:=hD (q1.out.trans hb2)
 clear hb2 q1 q2 HI hg2
 have H0:=hD hE0
 have H1:=hD hE1
 clear hE0 hE1
 go_wp2_with fail
 go_ret
 refine⟨E,rfl,HB.out,fun h=>?_,fun h hf=>?_,fun h hok=>(H1.out h hok).1⟩
 ·obtain⟨a,b,c,d⟩:=H0.out h
  exact⟨a,by omega,by omega⟩
 ·have:=(H1.out h hf.ok).2
  have r1:=hf.sz
  have r2:=hf.ht
  omega
theorem jeR (y:Int) (ks:List RE) (j:Nat) (hj:j<2):(#[.int .i64 (vAt y ks j 0),.int .i64 (vAt y ks j 1)]:Array Value).setIfInBounds j (.int .i64 (jB y (ks.getD j re0)).1)=#[.int .i64 (vAt y ks (j+1) 0),.int .i64 (vAt y ks (j+1) 1)]:=by
 match j,hj with
 | 0,_=>rfl
 | 1,_=>rfl
def VR (p:Int×Int) (w:World) (e:Ending) (w':World):Prop:=e = .returned (.tuple #[.int .i64 p.1,.int .i64 p.2])∧Below w.heap.size w w'
theorem K4 (w0:World) (B:Nat) (y:Int) (t:RE) (hin:ReIn w0 B t):ReOk t→∀w:World,Below B w0 w→B≤w.heap.size →
  Calls Tryz.prog 111 #[reV t,.int .i64 y] w (VR (jB y t) w):=by
 induction hin with
 | @mk k n A c ks hk hn hl row kids ih =>
  intro hok w hb0 hBw
  obtain⟨node,okids⟩:ReNode k n ks.length∧∀x∈ks,ReOk x:=by cases hok with|mk node kids=>exact⟨node,kids⟩
  have hks:ks.length≤2:=by rw[node.len];unfold yt;split<;>(try split)<;>omega
  have k0:=node.k0
  have k1:=node.k1
  have HOK:=hD (jda y k n A c ks)
  have HER:=hD (Kw y k n A c ks)
  have HAP:=hD (fun w=>jaD k n y (vAt y ks ks.length 0) (vAt y ks ks.length 1) A ks.length c w k0 k1 (ZE _ _ _ _).1 (ZE _ _ _ _).2 (ZE _ _ _ _).1 (ZE _ _ _ _).2)
  have IH:=hD (fun x hx=>ih x hx (okids x hx))
  have HB0:=hD hb0
  have qB:=jh w (.cells #[.int .i64 k,.int .i64 n,.slice A ks.length c] 126) (.cells #[.int .i64 0,.int .i64 0] 146)
  have qX:=(Box.new w 126 #[.int .i64 k,.int .i64 n,.slice A ks.length c]).alloc (.cells #[.int .i64 0,.int .i64 0] 146)
  have qV:Box ((w.alloc (.cells #[.int .i64 k,.int .i64 n,.slice A ks.length c] 126)).alloc (.cells #[.int .i64 0,.int .i64 0] 146)) (w.heap.size+1) 146 #[.int .i64 0,.int .i64 0]:=heap_alloc2_new _ _ _
  have QB:=hD qB
  have QX:=hD qX
  have QV:=hD qV
  have V0:Hid (vAt y ks 0 0=0∧vAt y ks 0 1=0):=⟨rfl,rfl⟩
  clear ih kids okids node hok hb0 hk hn hl qB qX qV
  change Calls Tryz.prog 111 #[.agg #[.int .i64 k,.int .i64 n,.slice A ks.length c],.int .i64 y] w _
  go_enter Tryz.func111,Tryz.ntmps111
  go_wp2_with fail
  generalize (w.alloc (.cells #[.int .i64 k,.int .i64 n,.slice A ks.length c] 126)).alloc (.cells #[.int .i64 0,.int .i64 0] 146)=W1 at *
  go_loopw [7,8,9,10,16] (fun _ _ _ _ i wr=>∃j:Nat,j≤ks.length∧i = .int .i64 j∧Box wr (w.heap.size+1) 146 #[.int .i64 (vAt y ks j 0),.int .i64 (vAt y ks j 1)]∧Box wr w.heap.size 126 #[.int .i64 k,.int .i64 n,.slice A ks.length c]∧Hid (∀i,i<j→(jB y (ks.getD i re0)).2=0)∧Below w.heap.size w wr) (fun _ _ _ _ i _=>ks.length-(intOf i).toNat)
  case atStart=>exact⟨0,by omega,rfl,by rw[V0.out.1,V0.out.2];exact QV.out,QX.out,(fun i hi=>by omega),QB.out⟩
  case round =>
   obtain⟨j,hj,rfl,hV,hX,hall,hbr⟩:=hrel
   have hvl:=hV.lt
   by_cases hlt:j<ks.length
   ·obtain⟨b,o,rfl,hb,hc⟩:=row.open_ (qg xI (by omega) ks (by omega))
    have hc':∀i v,(ks.flatMap reF)[i]?=some v→wr.cell? ⟨b,o+i,none⟩=some v:=fun i v hv=>((HB0.out.trans (hbr.mono hBw)).cell (p:=⟨b,o+i,none⟩) hb).trans (hc i v hv)
    have hmem:=yv re0 ks j hlt
    have HI0:=IH.out _ hmem
    have HER0:=hD (HER.out j hlt hall.out)
    have HVS:=hD (jeR y ks j (by omega))
    have hin:=Xy y (ks.getD j re0)
    have HALL:Hid ((jB y (ks.getD j re0)).2=0→∀i,i<j+1→(jB y (ks.getD i re0)).2=0):=fun h i hi=>by
     by_cases hij:i<j
     ·exact hall.out i hij
     ·obtain rfl:i=j:=by omega
      exact h
    generalize hx:ks.getD j re0=x at *
    obtain⟨k',n',A',c',ks'⟩:=x
    have y0:=jm xI re0 hc' j 0 hlt (by omega) (.int .i64 k') (by rw[hx];rfl)
    have y1:=jm xI re0 hc' j 1 hlt (by omega) (.int .i64 n') (by rw[hx];rfl)
    have y2:=jm xI re0 hc' j 2 hlt (by omega) (.slice A' ks'.length c') (by rw[hx];rfl)
    rw[Nat.add_zero] at y0
    have hbl:b<wr.heap.size:=by have:=hbr.size;omega
    have HI:Hid (∀w',Below B w0 w'→B≤w'.heap.size→Calls Tryz.prog 111 #[.agg #[.int .i64 k',.int .i64 n',.slice A' ks'.length c'],.int .i64 y] w' (VR (jB y (.node k' n' A' c' ks')) w')):=HI0
    generalize jB y (.node k' n' A' c' ks')=p at *
    obtain⟨p1,p2⟩:=p
    obtain⟨pl,ph⟩:=hin
    simp only at pl ph
    have HBR:=hD (hbr.alloc hbr.size (.cells #[.int .i64 k',.int .i64 n',.slice A' ks'.length c'] 126))
    have HV1:=hD (hV.alloc (.cells #[.int .i64 k',.int .i64 n',.slice A' ks'.length c'] 126))
    have HX1:=hD (hX.alloc (.cells #[.int .i64 k',.int .i64 n',.slice A' ks'.length c'] 126))
    clear hc hc' HI0 hx hmem hbr hV hX
    go_wp2_with fail
    refine(HI.out _ (HB0.out.trans (HBR.out.mono hBw)) (Nat.le_trans hBw HBR.out.size)).mono ?_
    rintro e w2 ⟨rfl,hb2⟩
    have HB2:=hD (jb HBR.out hb2)
    have hV2:=HV1.out.below hb2
    have hX2:=HX1.out.below hb2
    clear hb2 HI HBR HV1 HX1
    by_cases hE:p2=0
    ·subst hE
     have HA:=hD (HALL.out rfl)
     clear HALL
     have v0:w2.cell? ⟨w.heap.size+1,j,none⟩=some (.int .i64 (vAt y ks j j)):=by
      rw[hV2.cell j]
      have:j=0∨j=1:=by omega
      rcases this with rfl|rfl<;>rfl
     have vf:=hV2.free j
     have vl:=hV2.lt
     have j0:(0:Int)≤(j:Int):=by omega
     have j1:(j:Int)<2:=by omega
     have HV3:Hid (Box (w2.setCell ⟨w.heap.size+1,j,none⟩ (.int .i64 p1)) (w.heap.size+1) 146 #[.int .i64 (vAt y ks (j+1) 0),.int .i64 (vAt y ks (j+1) 1)]):=by
      have:=hV2.set_ j (.int .i64 p1)
      rw[HVS.out] at this
      exact this
     have HX3:=hD (hX2.far (p:=⟨w.heap.size+1,j,none⟩) (by simp) (.int .i64 p1))
     clear hV2 hX2
     go_wp2_with fail
     go_roundw
     case rel=>exact⟨j+1,by omega,by go_num,HV3.out,HX3.out,HA.out,HB2.out.setCell (p:=⟨w.heap.size+1,j,none⟩) (by simp) _⟩
     case measure=>simp[intOf];omega
    ·have tE:(p2 != 0)=true:=by rw[bne_iff_ne];exact hE
     clear hV2 hX2
     go_wp2_with fail
     go_ret2
     exact⟨by rw[HER0.out hE];rfl,HB2.out⟩
   ·obtain rfl:j=ks.length:=by omega
    have v0:wr.cell? ⟨w.heap.size+1,0,none⟩=some (.int .i64 (vAt y ks ks.length 0)):=hV.cell 0
    have v1:wr.cell? ⟨w.heap.size+1,1,none⟩=some (.int .i64 (vAt y ks ks.length 1)):=hV.cell 1
    have x0:wr.cell? ⟨w.heap.size,0,none⟩=some (.int .i64 k):=hX.cell 0
    have x1:wr.cell? ⟨w.heap.size,1,none⟩=some (.int .i64 n):=hX.cell 1
    have x2:wr.cell? ⟨w.heap.size,2,none⟩=some (.slice A ks.length c):=hX.cell 2
    have xl:=hX.lt
    have HEQ:=hD (HOK.out hall.out)
    have HBR:=hD hbr
    clear hV hX hbr HOK
    generalize vAt y ks ks.length 0=a at *
    generalize vAt y ks ks.length 1=b at *
    generalize jA k n y a b=p at *
    obtain⟨p1,p2⟩:=p
    go_wp2_with fail
    refine(HAP.out _).mono ?_
    rintro e w2 ⟨rfl,hb2⟩
    have HB2:=hD (jb HBR.out hb2)
    clear hb2 v0 v1 x0 x1 x2 HAP HBR
    by_cases hE:p2=0
    ·subst hE
     by_cases h1:p1 < -2147483647
     ·have t1:decide (p1 < -2147483647)=true:=decide_eq_true h1
      go_wp2_with fail
      go_ret2
      exact⟨by rw[HEQ.out,ZF,if_pos rfl,if_pos (.inl h1)];rfl,HB2.out⟩
     have t1:decide (p1 < -2147483647)=false:=decide_eq_false h1
     by_cases h2:2147483647<p1
     ·have t2:decide (2147483647<p1)=true:=decide_eq_true h2
      go_wp2_with fail
      go_ret2
      exact⟨by rw[HEQ.out,ZF,if_pos rfl,if_pos (.inr h2)];rfl,HB2.out⟩
     have t2:decide (2147483647<p1)=false:=decide_eq_false h2
     go_wp2_with fail
     go_ret2
     exact⟨by rw[HEQ.out,ZF,if_pos rfl,if_neg (by simp only;omega)];rfl,HB2.out⟩
    ·have tE:(p2==0)=false:=by rw[beq_eq_false_iff_ne];exact hE
     have tE':(p2 != 0)=true:=by rw[bne_iff_ne];exact hE
     go_wp2_with fail
     go_ret2
     exact⟨by rw[HEQ.out,ZF,if_neg hE];rfl,HB2.out⟩
def jfN (y:Int) (t:RE) (w:World) (e:Ending) (w':World):Prop :=
 ∃v E:Int,e = .returned (.tuple #[.int .i64 v,.int .i64 E])∧Below w.heap.size w w'∧((ReFine t∧(v,E)=jB y t)∨(¬ReFine t∧v=0∧E≠0∧(ReOk t→E=2)))
theorem KH (y:Int) (t:RE) (w:World) (hin:ReIn w w.heap.size t) (h1 : -10000≤y) (h2:y≤10000):Calls Tryz.prog 86 #[reV t,.int .i64 y] w (jfN y t w):=by
 obtain⟨k,n,A,c,ks⟩:=t
 change Calls Tryz.prog 86 #[.agg #[.int .i64 k,.int .i64 n,.slice A ks.length c],.int .i64 y] w _
 have hin1:=hD (hin.next (ja w (.cells #[.int .i64 k,.int .i64 n,.slice A ks.length c] 126)) (ja w (.cells #[.int .i64 k,.int .i64 n,.slice A ks.length c] 126)).size)
 have HCk:=hD (fun w h=>vk (.node k n A c ks) w h)
 have HEv:=hD (fun hok W h1 h2=>K4 (w.alloc (.cells #[.int .i64 k,.int .i64 n,.slice A ks.length c] 126)) (w.alloc (.cells #[.int .i64 k,.int .i64 n,.slice A ks.length c] 126)).heap.size y _ hin1.out hok W h1 h2)
 have qX:=hD (Box.new w 126 #[.int .i64 k,.int .i64 n,.slice A ks.length c])
 clear hin
 go_enter Tryz.func86,Tryz.ntmps86
 go_wp2_with fail
 refine(HCk.out _ hin1.out).mono ?_
 rintro e w2 ⟨E,rfl,hb2,hE0,hE1,hE2⟩
 have HB2:=hD (Y6 (Below.refl _ _) hb2)
 have Hb2:=hD hb2
 have hX:=qX.out.below hb2
 have x0:w2.cell? ⟨w.heap.size,0,none⟩=some (.int .i64 k):=hX.cell 0
 have x1:w2.cell? ⟨w.heap.size,1,none⟩=some (.int .i64 n):=hX.cell 1
 have x2:w2.cell? ⟨w.heap.size,2,none⟩=some (.slice A ks.length c):=hX.cell 2
 have xl:=hX.lt
 have H1:=hD hE1
 have H2:=hD hE2
 clear hX qX hb2 hE1 hE2
 by_cases hE:E=0
 ·subst hE
  have hf:=hE0 rfl
  clear hE0
  go_wp2_with fail
  refine(HEv.out hf.ok _ Hb2.out Hb2.out.size).mono ?_
  rintro e w3 ⟨rfl,hb3⟩
  have HB3:=hD (jb HB2.out hb3)
  clear hb3 x0 x1 x2
  generalize hp:jB y (.node k n A c ks)=p at *
  obtain⟨p1,p2⟩:=p
  have HP:=hD hp
  clear hp
  go_wp2_with fail
  go_ret2
  exact⟨p1,p2,rfl,HB3.out,.inl ⟨hf,HP.out.symm⟩⟩
 ·have tE':(E != 0)=true:=by rw[bne_iff_ne];exact hE
  clear hE0
  go_wp2_with fail
  go_ret2
  exact⟨0,E,rfl,HB2.out,.inr ⟨H1.out hE,rfl,hE,H2.out hE⟩⟩
end Go.Proofs.YtkkjaaognefeiaaGreatDoor
