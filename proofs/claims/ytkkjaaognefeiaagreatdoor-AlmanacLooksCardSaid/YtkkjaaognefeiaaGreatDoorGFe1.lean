/- Fe1, Fe2 -/
import Derived.Test.YtkkjaaognefeiaaGreatDoorGCat1
set_option maxRecDepth 100000
set_option maxHeartbeats 16000000
set_option linter.unusedVariables false
set_option linter.unusedSimpArgs false
namespace Go.Proofs.YtkkjaaognefeiaaGreatDoor
open Go Go.RowKit
theorem jck (k:Int) (w:World):Calls Tryz.prog 72 #[.int .i64 k] w fun e w'=>e = .returned (.int .i64 (zO k))∧w=w':=by
 by_cases h:k=7∨k=8∨k=12
 ·have e:zO k=1:=if_pos h
  rw[e]
  rcases h with rfl|rfl|rfl
  all_goals
   go_enter Tryz.func72,Tryz.ntmps72
   go_wp2
   go_ret
   exact⟨rfl,rfl⟩
 by_cases h':k=9∨k=10∨k=11
 ·have e:zO k=2:=(if_neg h).trans (if_pos h')
  rw[e]
  rcases h' with rfl|rfl|rfl
  all_goals
   go_enter Tryz.func72,Tryz.ntmps72
   go_wp2
   go_ret
   exact⟨rfl,rfl⟩
 have e:zO k=0:=(if_neg h).trans (if_neg h')
 rw[e]
 have t1:(k==7)=false:=by rw[beq_eq_false_iff_ne];omega
 have t2:(k==8)=false:=by rw[beq_eq_false_iff_ne];omega
 have t3:(k==12)=false:=by rw[beq_eq_false_iff_ne];omega
 have t4:(k==9)=false:=by rw[beq_eq_false_iff_ne];omega
 have t5:(k==10)=false:=by rw[beq_eq_false_iff_ne];omega
 have t6:(k==11)=false:=by rw[beq_eq_false_iff_ne];omega
 clear h h' e
 go_enter Tryz.func72,Tryz.ntmps72
 go_wp2
 go_ret
 exact⟨rfl,rfl⟩
theorem Y9 (k:Int) (w:World):Calls Tryz.prog 70 #[.int .i64 k] w fun e w'=>e = .returned (.tuple #[.bool (usA k),.bool (usB k),.bool (usN k)])∧w=w':=by
 by_cases h:k=1∨k=12∨k=2∨k=4∨k=6∨k=9∨k=10∨k=11
 ·rcases h with rfl|rfl|rfl|rfl|rfl|rfl|rfl|rfl
  all_goals
   go_enter Tryz.func70,Tryz.ntmps70
   go_wp2
   go_ret3
   exact⟨rfl,rfl⟩
 have t1:(k==1)=false:=by rw[beq_eq_false_iff_ne];omega
 have t2:(k==12)=false:=by rw[beq_eq_false_iff_ne];omega
 have t3:(k==2)=false:=by rw[beq_eq_false_iff_ne];omega
 have t4:(k==4)=false:=by rw[beq_eq_false_iff_ne];omega
 have t5:(k==6)=false:=by rw[beq_eq_false_iff_ne];omega
 have t6:(k==9)=false:=by rw[beq_eq_false_iff_ne];omega
 have t7:(k==10)=false:=by rw[beq_eq_false_iff_ne];omega
 have t8:(k==11)=false:=by rw[beq_eq_false_iff_ne];omega
 have eA:usA k=true:=by unfold usA;rw[decide_eq_false (by omega),decide_eq_false (by omega),decide_eq_false (by omega)];rfl
 have eB:usB k=false:=by unfold usB;rw[decide_eq_false (by omega),decide_eq_false (by omega),decide_eq_false (by omega),decide_eq_false (by omega)];rfl
 have eN:usN k=false:=by unfold usN;rw[decide_eq_false (by omega),decide_eq_false (by omega),decide_eq_false (by omega)];rfl
 rw[eA,eB,eN]
 clear h eA eB eN
 go_enter Tryz.func70,Tryz.ntmps70
 go_wp2
 go_ret3
 exact⟨rfl,rfl⟩
theorem Qh (n lo hi:Int) (w:World) (h:lo≤n∧n≤hi):Calls Tryz.prog 71 #[.int .i64 n,.int .i64 lo,.int .i64 hi] w fun e w'=>e = .returned (.bool true)∧w=w':=by
 have t1:decide (lo≤n)=true:=decide_eq_true h.1
 have t2:decide (n≤hi)=true:=decide_eq_true h.2
 clear h
 go_enter Tryz.func71,Tryz.ntmps71
 go_wp2_with fail
 go_ret
 exact⟨rfl,rfl⟩
theorem QC (n lo hi:Int) (w:World) (h:¬(lo≤n∧n≤hi)):Calls Tryz.prog 71 #[.int .i64 n,.int .i64 lo,.int .i64 hi] w fun e w'=>e = .returned (.bool false)∧w=w':=by
 by_cases h1:lo≤n
 ·have t1:decide (lo≤n)=true:=decide_eq_true h1
  have t2:decide (n≤hi)=false:=decide_eq_false fun h2=>h ⟨h1,h2⟩
  clear h h1
  go_enter Tryz.func71,Tryz.ntmps71
  go_wp2_with fail
  go_ret
  exact⟨rfl,rfl⟩
 ·have t1:decide (lo≤n)=false:=decide_eq_false h1
  clear h h1
  go_enter Tryz.func71,Tryz.ntmps71
  go_wp2_with fail
  go_ret
  exact⟨rfl,rfl⟩
def RngQ (P:Prop) (w:World) (e:Ending) (w':World):Prop:=∃b:Bool,e = .returned (.bool b)∧(b=true↔P)∧Below w.heap.size w w'
theorem RngQ.yes {P:Prop} {w w':World} (h:P) (hb:Below w.heap.size w w'):RngQ P w (.returned (.bool true)) w':=⟨true,rfl,⟨fun _=>h,fun _=>rfl⟩,hb⟩
theorem RngQ.no {P:Prop} {w w':World} (h:¬P) (hb:Below w.heap.size w w'):RngQ P w (.returned (.bool false)) w':=⟨false,rfl,⟨(fun e=>by cases e),fun p=>absurd p h⟩,hb⟩
theorem YR (k a b:Int) (nm:ByteArray) (A:Option Addr) (l c:Nat) (mo:Nat) (hmo:mo≤100000) (w:World):Calls Tryz.prog 73 #[.agg #[.int .i64 k,.int .i64 a,.int .i64 b,.string nm,.slice A l c],.int .i64 (mo:Int)] w (RngQ (j9 k a b mo) w):=by
 have HB:=Lib.hid (ja w (Obj.cells #[.int .i64 k,.int .i64 a,.int .i64 b,.string nm,.slice A l c] 24))
 have HX:=Box.new w 24 #[.int .i64 k,.int .i64 a,.int .i64 b,.string nm,.slice A l c]
 have x0:=HX.cell 0
 have x1:=HX.cell 1
 have x2:=HX.cell 2
 have xl:=HX.lt
 change _=some (Value.int .i64 k) at x0
 change _=some (Value.int .i64 a) at x1
 change _=some (Value.int .i64 b) at x2
 have HWy:=Lib.hid (fun n lo hi W h=>Qh n lo hi W h)
 have HWn:=Lib.hid (fun n lo hi W h=>QC n lo hi W h)
 have HD:=Lib.hid (fun n W=>y6 n W)
 clear HX
 by_cases k1:k=1
 ·subst k1
  have hP:Hid (j9 1 a b mo↔(1≤a∧a≤mo)∧(1≤b∧b≤400)):=Iff.rfl
  by_cases h1:1≤a∧a≤mo
  ·by_cases h2:1≤b∧b≤400
   ·have HP:=Lib.hid (hP.out.2 ⟨h1,h2⟩)
    go_enter Tryz.func73,Tryz.ntmps73
    go_wp2_with (go_at_call 71;refine(HWy.out _ _ _ _ (by omega)).mono ?_;rintro e w' ⟨rfl,rfl⟩)
    go_ret
    exact RngQ.yes HP.out HB.out
   ·have HP:=Lib.hid (fun h=>h2 (hP.out.1 h).2)
    go_enter Tryz.func73,Tryz.ntmps73
    go_wp2_with (go_at_call 71;first|(refine(HWy.out _ _ _ _ (by omega)).mono ?_;rintro e w' ⟨rfl,rfl⟩)|(refine(HWn.out _ _ _ _ (by omega)).mono ?_;rintro e w' ⟨rfl,rfl⟩))
    go_ret
    exact RngQ.no HP.out HB.out
  ·have HP:=Lib.hid (fun h=>h1 (hP.out.1 h).1)
   go_enter Tryz.func73,Tryz.ntmps73
   go_wp2_with (go_at_call 71;refine(HWn.out _ _ _ _ (by omega)).mono ?_;rintro e w' ⟨rfl,rfl⟩)
   go_ret
   exact RngQ.no HP.out HB.out
 have e1:(k==1)=false:=by rw[beq_eq_false_iff_ne];exact k1
 by_cases k2:k=2
 ·subst k2
  have hP:Hid (j9 2 a b mo↔(1≤a∧a≤mo)):=Iff.rfl
  by_cases h1:1≤a∧a≤mo
  ·have HP:=Lib.hid (hP.out.2 h1)
   go_enter Tryz.func73,Tryz.ntmps73
   go_wp2_with (go_at_call 71;refine(HWy.out _ _ _ _ (by omega)).mono ?_;rintro e w' ⟨rfl,rfl⟩)
   go_ret
   exact RngQ.yes HP.out HB.out
  ·have HP:=Lib.hid (fun h=>h1 (hP.out.1 h))
   go_enter Tryz.func73,Tryz.ntmps73
   go_wp2_with (go_at_call 71;refine(HWn.out _ _ _ _ (by omega)).mono ?_;rintro e w' ⟨rfl,rfl⟩)
   go_ret
   exact RngQ.no HP.out HB.out
 have e2:(k==2)=false:=by rw[beq_eq_false_iff_ne];exact k2
 by_cases k3:k=3∨k=8
 ·have hP:Hid (j9 k a b mo↔(0≤a∧a≤6)):=by rcases k3 with rfl|rfl<;>exact Iff.rfl
  by_cases h1:0≤a∧a≤6
  ·have HP:=Lib.hid (hP.out.2 h1)
   clear hP
   rcases k3 with rfl|rfl
   all_goals
    go_enter Tryz.func73,Tryz.ntmps73
    go_wp2_with (go_at_call 71;refine(HWy.out _ _ _ _ (by omega)).mono ?_;rintro e w' ⟨rfl,rfl⟩)
    go_ret
    exact RngQ.yes HP.out HB.out
  ·have HP:=Lib.hid (fun h=>h1 (hP.out.1 h))
   clear hP
   rcases k3 with rfl|rfl
   all_goals
    go_enter Tryz.func73,Tryz.ntmps73
    go_wp2_with (go_at_call 71;refine(HWn.out _ _ _ _ (by omega)).mono ?_;rintro e w' ⟨rfl,rfl⟩)
    go_ret
    exact RngQ.no HP.out HB.out
 have e3:(k==3)=false:=by rw[beq_eq_false_iff_ne];omega
 have e8:(k==8)=false:=by rw[beq_eq_false_iff_ne];omega
 by_cases k4:k=4
 ·subst k4
  have hP:Hid (j9 4 a b mo↔(1≤a∧a≤100000)∧(0≤b∧b≤a-1)):=Iff.rfl
  by_cases h1:1≤a∧a≤100000
  ·by_cases h2:0≤b∧b≤a-1
   ·have HP:=Lib.hid (hP.out.2 ⟨h1,h2⟩)
    go_enter Tryz.func73,Tryz.ntmps73
    go_wp2_with (go_at_call 71;refine(HWy.out _ _ _ _ (by omega)).mono ?_;rintro e w' ⟨rfl,rfl⟩)
    go_ret
    exact RngQ.yes HP.out HB.out
   ·have HP:=Lib.hid (fun h=>h2 (hP.out.1 h).2)
    go_enter Tryz.func73,Tryz.ntmps73
    go_wp2_with (go_at_call 71;first|(refine(HWy.out _ _ _ _ (by omega)).mono ?_;rintro e w' ⟨rfl,rfl⟩)|(refine(HWn.out _ _ _ _ (by omega)).mono ?_;rintro e w' ⟨rfl,rfl⟩))
    go_ret
    exact RngQ.no HP.out HB.out
  ·have HP:=Lib.hid (fun h=>h1 (hP.out.1 h).1)
   go_enter Tryz.func73,Tryz.ntmps73
   go_wp2_with (go_at_call 71;refine(HWn.out _ _ _ _ (by omega)).mono ?_;rintro e w' ⟨rfl,rfl⟩)
   go_ret
   exact RngQ.no HP.out HB.out
 have e4:(k==4)=false:=by rw[beq_eq_false_iff_ne];omega
 by_cases k5:k=5
 ·subst k5
  have hP:Hid (j9 5 a b mo↔js a):=Iff.rfl
  by_cases h1 : -4000000≤a∧a≤4000000
  ·have HP:=Lib.hid (hP.out.2 h1)
   have HD1:=Lib.hid (fun W=>HD.out a W)
   rw[decide_eq_true h1] at HD1
   clear h1 HD
   go_enter Tryz.func73,Tryz.ntmps73
   go_wp2_with (go_at_call 34;refine(HD1.out _).mono ?_;rintro e w' ⟨rfl,rfl⟩)
   go_ret
   exact RngQ.yes HP.out HB.out
  ·have HP:=Lib.hid (fun h=>h1 (hP.out.1 h))
   have HD1:=Lib.hid (fun W=>HD.out a W)
   rw[decide_eq_false h1] at HD1
   clear h1 HD
   go_enter Tryz.func73,Tryz.ntmps73
   go_wp2_with (go_at_call 34;refine(HD1.out _).mono ?_;rintro e w' ⟨rfl,rfl⟩)
   go_ret
   exact RngQ.no HP.out HB.out
 have e5:(k==5)=false:=by rw[beq_eq_false_iff_ne];omega
 by_cases k6:k=6
 ·subst k6
  have hP:Hid (j9 6 a b mo↔js a∧js b∧a≤b):=Iff.rfl
  by_cases h1 : -4000000≤a∧a≤4000000
  ·have HD1:=Lib.hid (fun W=>HD.out a W)
   rw[decide_eq_true h1] at HD1
   by_cases h2 : -4000000≤b∧b≤4000000
   ·have HD2:=Lib.hid (fun W=>HD.out b W)
    rw[decide_eq_true h2] at HD2
    clear HD
    by_cases h3:a≤b
    ·have HP:=Lib.hid (hP.out.2 ⟨h1,h2,h3⟩)
     have t3:decide (a≤b)=true:=decide_eq_true h3
     clear h1 h2 h3
     go_enter Tryz.func73,Tryz.ntmps73
     go_wp2_with (go_at_call 34;first|(refine(HD1.out _).mono ?_;rintro e w' ⟨rfl,rfl⟩;clear HD1)|(refine(HD2.out _).mono ?_;rintro e w' ⟨rfl,rfl⟩))
     go_ret
     exact RngQ.yes HP.out HB.out
    ·have HP:=Lib.hid (fun h=>h3 (hP.out.1 h).2.2)
     have t3:decide (a≤b)=false:=decide_eq_false h3
     clear h1 h2 h3
     go_enter Tryz.func73,Tryz.ntmps73
     go_wp2_with (go_at_call 34;first|(refine(HD1.out _).mono ?_;rintro e w' ⟨rfl,rfl⟩;clear HD1)|(refine(HD2.out _).mono ?_;rintro e w' ⟨rfl,rfl⟩))
     go_ret
     exact RngQ.no HP.out HB.out
   ·have HP:=Lib.hid (fun h=>h2 (hP.out.1 h).2.1)
    have HD2:=Lib.hid (fun W=>HD.out b W)
    rw[decide_eq_false h2] at HD2
    clear h1 h2 HD
    go_enter Tryz.func73,Tryz.ntmps73
    go_wp2_with (go_at_call 34;first|(refine(HD1.out _).mono ?_;rintro e w' ⟨rfl,rfl⟩;clear HD1)|(refine(HD2.out _).mono ?_;rintro e w' ⟨rfl,rfl⟩))
    go_ret
    exact RngQ.no HP.out HB.out
  ·have HP:=Lib.hid (fun h=>h1 (hP.out.1 h).1)
   have HD1:=Lib.hid (fun W=>HD.out a W)
   rw[decide_eq_false h1] at HD1
   clear h1 HD
   go_enter Tryz.func73,Tryz.ntmps73
   go_wp2_with (go_at_call 34;refine(HD1.out _).mono ?_;rintro e w' ⟨rfl,rfl⟩)
   go_ret
   exact RngQ.no HP.out HB.out
 have e6:(k==6)=false:=by rw[beq_eq_false_iff_ne];omega
 by_cases k7:k=7
 ·subst k7
  have hP:Hid (j9 7 a b mo↔-400≤a∧a≤400):=Iff.rfl
  by_cases h1 : -400≤a∧a≤400
  ·have HP:=Lib.hid (hP.out.2 h1)
   go_enter Tryz.func73,Tryz.ntmps73
   go_wp2_with (go_at_call 71;refine(HWy.out _ _ _ _ (by omega)).mono ?_;rintro e w' ⟨rfl,rfl⟩)
   go_ret
   exact RngQ.yes HP.out HB.out
  ·have HP:=Lib.hid (fun h=>h1 (hP.out.1 h))
   go_enter Tryz.func73,Tryz.ntmps73
   go_wp2_with (go_at_call 71;refine(HWn.out _ _ _ _ (by omega)).mono ?_;rintro e w' ⟨rfl,rfl⟩)
   go_ret
   exact RngQ.no HP.out HB.out
 have e7:(k==7)=false:=by rw[beq_eq_false_iff_ne];omega
 by_cases k12:k=12
 ·subst k12
  have hP:Hid (j9 12 a b mo↔(-50≤a∧a≤50)∧a≠0∧(0≤b∧b≤mo)):=Iff.rfl
  by_cases h1 : -50≤a∧a≤50
  ·by_cases h2:a=0
   ·have HP:=Lib.hid (fun h=>(hP.out.1 h).2.1 h2)
    have t2:(a != 0)=false:=by rw[bne_eq_false_iff_eq];exact h2
    have H2:=Lib.hid h2
    clear h2
    go_enter Tryz.func73,Tryz.ntmps73
    go_wp2_with (go_at_call 71;refine(HWy.out _ _ _ _ (by omega)).mono ?_;rintro e w' ⟨rfl,rfl⟩)
    go_ret
    exact RngQ.no HP.out HB.out
   ·have t2:(a != 0)=true:=by rw[bne_iff_ne];exact h2
    by_cases h3:0≤b∧b≤mo
    ·have HP:=Lib.hid (hP.out.2 ⟨h1,h2,h3⟩)
     clear h2
     go_enter Tryz.func73,Tryz.ntmps73
     go_wp2_with (go_at_call 71;refine(HWy.out _ _ _ _ (by omega)).mono ?_;rintro e w' ⟨rfl,rfl⟩)
     go_ret
     exact RngQ.yes HP.out HB.out
    ·have HP:=Lib.hid (fun h=>h3 (hP.out.1 h).2.2)
     clear h2
     go_enter Tryz.func73,Tryz.ntmps73
     go_wp2_with (go_at_call 71;first|(refine(HWy.out _ _ _ _ (by omega)).mono ?_;rintro e w' ⟨rfl,rfl⟩)|(refine(HWn.out _ _ _ _ (by omega)).mono ?_;rintro e w' ⟨rfl,rfl⟩))
     go_ret
     exact RngQ.no HP.out HB.out
  ·have HP:=Lib.hid (fun h=>h1 (hP.out.1 h).1)
   go_enter Tryz.func73,Tryz.ntmps73
   go_wp2_with (go_at_call 71;refine(HWn.out _ _ _ _ (by omega)).mono ?_;rintro e w' ⟨rfl,rfl⟩)
   go_ret
   exact RngQ.no HP.out HB.out
 have e12:(k==12)=false:=by rw[beq_eq_false_iff_ne];omega
 have HP:Hid (j9 k a b mo):=by
  show j9 k a b mo
  unfold j9
  rw[if_neg k1,if_neg k2,if_neg k3,if_neg k4,if_neg k5,if_neg k6,if_neg k7,if_neg k12]
  trivial
 clear k1 k2 k3 k4 k5 k6 k7 k12
 go_enter Tryz.func73,Tryz.ntmps73
 go_wp2_with fail
 go_ret
 exact RngQ.yes HP.out HB.out
def NodeP (t:FE) (d dp n0:Nat):Prop:=FeOk t∧n0+fsz t≤40∧d+fht t≤11∧dp+fdh t≤2
def IsNode (B g:Nat) (t:FE) (d dp n0:Nat) (w:World) (e:Ending) (w':World):Prop :=
 ∃(E:Int) (n1:Nat),e = .returned (.int .i64 E)∧Box w' g 3 #[.int .i64 (n1:Int)]∧Below B w w'∧(E=0↔NodeP t d dp n0)∧(E=0→n1=n0+fsz t)
theorem IsNode.no {B g:Nat} {t:FE} {d dp n0 n1:Nat} {w w':World} {E:Int} (h:¬NodeP t d dp n0) (hE:E≠0) (hx:Box w' g 3 #[.int .i64 (n1:Int)]) (hb:Below B w w'):IsNode B g t d dp n0 w (.returned (.int .i64 E)) w' :=
 ⟨E,n1,rfl,hx,hb,⟨fun e=>absurd e hE,fun p=>absurd p h⟩,fun e=>absurd e hE⟩
theorem jfS (ks:List FE) (h:0<ks.length):ks.flatMap feF≠[]:=qg qw (by omega) ks h
def FormP (k a b:Int) (nm:ByteArray) (len:Nat):Prop:=(1≤k∧k≤12)∧len=zO k∧(usA k=true∨a=0)∧(usB k=true∨b=0)∧(usN k=true∨nm.size=0)
theorem FeNode.form {k a b:Int} {nm:ByteArray} {len:Nat} (h:FeNode k a b nm len):FormP k a b nm len :=
 ⟨⟨h.k0,h.k1⟩,h.len,by cases e:usA k with|true=>exact .inl rfl|false=>exact .inr (h.ua e),by cases e:usB k with|true=>exact .inl rfl|false=>exact .inr (h.ub e),by cases e:usN k with|true=>exact .inl rfl|false=>exact .inr (h.un e)⟩
theorem FormP.node {k a b:Int} {nm:ByteArray} {len:Nat} (h:FormP k a b nm len) (h1:usN k=false→j9 k a b 0) (h2:usN k=true→∃r∈jN,str r.nm=nm∧j9 k a b r.t.mo.length):FeNode k a b nm len:=by
 obtain⟨⟨a1,a2⟩,a3,a4,a5,a6⟩:=h
 exact⟨a1,a2,a3,fun e=>a4.resolve_left (by rw[e];decide),fun e=>a5.resolve_left (by rw[e];decide),fun e=>a6.resolve_left (by rw[e];decide),h1,h2⟩
theorem jbl (k:Int):zO k≤2:=by unfold zO;split<;>(try split)<;>omega
theorem QW (s:ByteArray):s.toList.isEmpty=decide (s.size=0):=by
 rw[Lib.toList_data,Bool.eq_iff_iff,List.isEmpty_iff,decide_eq_true_eq]
 constructor
 ·intro h
  have:=congrArg List.length h
  simpa using this
 ·intro h
  exact List.eq_nil_of_length_eq_zero (by simpa using h)
theorem jR {w:World} {g:Nat} {k a b:Int} {nm:ByteArray} {A:Option Addr} {l c:Nat} (h:Box w g 24 #[.int .i64 k,.int .i64 a,.int .i64 b,.string nm,.slice A l c]) :
  w.cell? ⟨g,0,none⟩=some (.int .i64 k)∧w.cell? ⟨g,1,none⟩=some (.int .i64 a)∧w.cell? ⟨g,2,none⟩=some (.int .i64 b)∧w.cell? ⟨g,3,none⟩=some (.string nm)∧w.cell? ⟨g,4,none⟩=some (.slice A l c):=⟨h.cell 0,h.cell 1,h.cell 2,h.cell 3,h.cell 4⟩
theorem Q4 {ks:List FE} {j:Nat} (h:j<ks.length):ks.getD j fe0∈ks:=by
 rw[List.getD_eq_getElem?_getD,List.getElem?_eq_getElem h]
 exact List.getElem_mem h
theorem jd3 (k:Int):JD k=true↔k=8∨k=12:=by unfold JD;simp
theorem NodeP.parts {k a b:Int} {nm:ByteArray} {A:Option Addr} {c:Nat} {ks:List FE} {d dp n0:Nat} (h:NodeP (.node k a b nm A c ks) d dp n0):FeNode k a b nm ks.length∧(∀x∈ks,FeOk x)∧n0+1+zK ks≤40∧d+1+xL ks≤11∧dp+vd ks+(if JD k then 1 else 0)≤2:=by
 obtain⟨h1,h2,h3,h4⟩:=h
 rw[fsz] at h2
 rw[fht] at h3
 rw[fdh] at h4
 cases h1 with
 | mk n q=>exact⟨n,q,by omega,by omega,by omega⟩
theorem jcS (w0:World) (hv:Env w0) (g:Nat) (hBg:w0.heap.size≤g) (t:FE) (hin:FeIn w0 w0.heap.size t):∀(w:World) (d dp n0:Nat),Below w0.heap.size w0 w→Box w g 3 #[.int .i64 (n0:Int)]→d≤11→dp≤2→n0≤40 →
  Calls Tryz.prog 52 #[feV t,.int .i64 (d:Int),.int .i64 (dp:Int),.pointer (some ⟨g,0,none⟩)] w (IsNode w0.heap.size g t d dp n0 w):=by
 have HE:=Lib.hid (fun W (h:Below w0.heap.size w0 W)=>hv.next h)
 clear hv
 generalize hB:w0.heap.size=B at *
 clear hB
 induction hin with
 | @mk k a b nm A c ks hk ha hb hs hl row kids ih =>
  intro w d dp n0 hb0 hg hd hdp hn0
  have IH:=Lib.hid ih
  have HRow:=Lib.hid row
  have HK:=Lib.hid (And.intro hk (And.intro ha (And.intro hb hs)))
  have hl2:ks.length≤maxLen:=hl
  unfold maxLen at hl2
  have hsz:=hb0.size
  have HB0:=Lib.hid hb0
  have hgl:=hg.lt
  have hgn:w.heap.size≠g:=by omega
  have HC9:Hid (IsNode B g (.node k a b nm A c ks) d dp n0 w=IsNode B g (.node k a b nm A c ks) d dp n0 w):=rfl
  obtain⟨Q,hQ⟩:∃Q:Prop,Q=NodeP (.node k a b nm A c ks) d dp n0:=⟨_,rfl⟩
  have HQ:Hid (Q→FeNode k a b nm ks.length∧(∀x∈ks,FeOk x)∧n0+1+zK ks≤40∧d+1+xL ks≤11∧dp+vd ks+(if JD k then 1 else 0)≤2):=fun h=>NodeP.parts (hQ▸h)
  have HQ2:Hid (FeNode k a b nm ks.length→(∀x∈ks,FeOk x)→n0+1+zK ks≤40→d+1+xL ks≤11→dp+vd ks+(if JD k then 1 else 0)≤2→Q):=fun h1 h2 h3 h4 h5=>by
   rw[hQ]
   exact⟨.mk h1 h2,by rw[fsz];omega,by rw[fht];omega,by rw[fdh];omega⟩
  have HNo:Hid (∀(n1:Nat) (E:Int) (w':World),¬Q→E≠0→Box w' g 3 #[.int .i64 (n1:Int)]→Below B w w'→IsNode B g (.node k a b nm A c ks) d dp n0 w (.returned (.int .i64 E)) w'):=fun n1 E w' h1 h2 h3 h4=>IsNode.no (hQ▸h1) h2 h3 h4
  have HYes:Hid (∀(w':World),Q→Box w' g 3 #[.int .i64 ((n0+1+zK ks:Nat):Int)]→Below B w w'→IsNode B g (.node k a b nm A c ks) d dp n0 w (.returned (.int .i64 0)) w'):=fun w' h1 h3 h4=>⟨0,n0+1+zK ks,rfl,h3,h4,⟨fun _=>hQ▸h1,fun _=>rfl⟩,fun _=>by rw[fsz];omega⟩
  clear ih row kids hk ha hb hs hl hQ HC9
  show Calls Tryz.prog 52 #[.agg #[.int .i64 k,.int .i64 a,.int .i64 b,.string nm,.slice A ks.length c],.int .i64 (d:Int),.int .i64 (dp:Int),.pointer (some ⟨g,0,none⟩)] w _
  generalize IsNode B g (.node k a b nm A c ks) d dp n0 w=POST at *
  have g0:(w.alloc (Obj.cells #[.int .i64 k,.int .i64 a,.int .i64 b,.string nm,.slice A ks.length c] 24)).cell? ⟨g,0,none⟩=some (.int .i64 (n0:Int)):=(hg.alloc _).cell 0
  have gf:(w.alloc (Obj.cells #[.int .i64 k,.int .i64 a,.int .i64 b,.string nm,.slice A ks.length c] 24)).frozen? ⟨g,0,none⟩=false:=(hg.alloc _).free 0
  have HB1:Hid (Below B w (w.alloc (Obj.cells #[.int .i64 k,.int .i64 a,.int .i64 b,.string nm,.slice A ks.length c] 24))):=(Below.refl _ _).alloc (by omega) _
  have HX1:=Lib.hid (Box.new w 24 #[.int .i64 k,.int .i64 a,.int .i64 b,.string nm,.slice A ks.length c])
  have HG1:=Lib.hid (hg.alloc (Obj.cells #[.int .i64 k,.int .i64 a,.int .i64 b,.string nm,.slice A ks.length c] 24))
  clear hg hb0
  go_enter Tryz.func52,Tryz.ntmps52
  go_upto_region 1 with fail
  generalize w.alloc (Obj.cells #[.int .i64 k,.int .i64 a,.int .i64 b,.string nm,.slice A ks.length c] 24)=W1 at *
  obtain⟨gx,hgx⟩:∃gx,gx=w.heap.size:=⟨_,rfl⟩
  rw[←hgx] at HX1 hgn ⊢
  have hgx2:B≤gx:=by omega
  clear hgx
  obtain⟨x0,x1,x2,x3,x4⟩:=jR HX1.out
  have hxl:=HX1.out.lt
  have hgl1:=HG1.out.lt
  go_cut [9] (fun s9 wx=>s9 = .bool (JD k)∧wx=W1)
  case first =>
   by_cases k8:k=8
   ·subst k8
    go_wp2_with fail
    go_meet
    exact⟨rfl,rfl⟩
   have t8:(k==8)=false:=by rw[beq_eq_false_iff_ne];exact k8
   by_cases k12:k=12
   ·subst k12
    go_wp2_with fail
    go_meet
    exact⟨rfl,rfl⟩
   have t12:(k==12)=false:=by rw[beq_eq_false_iff_ne];exact k12
   have e:JD k=false:=by rw[Bool.eq_false_iff];intro h;rcases(jd3 k).1 h with h|h<;>contradiction
   have HEq:=Lib.hid e
   clear k8 k12 e
   go_wp2_with fail
   go_meet
   exact⟨by rw[HEq.out],rfl⟩
  case rest =>
  obtain⟨rfl,hwc⟩:=hcut
  subst hwc
  have HG2:Hid (Box (wc.setCell ⟨g,0,none⟩ (.int .i64 ((n0:Int)+1))) g 3 #[.int .i64 ((n0+1:Nat):Int)]):=by
   rw[show((n0+1:Nat):Int)=(n0:Int)+1 from by omega]
   exact HG1.out.set_ 0 _
  have HX2:Hid (Box (wc.setCell ⟨g,0,none⟩ (.int .i64 ((n0:Int)+1))) gx 24 #[.int .i64 k,.int .i64 a,.int .i64 b,.string nm,.slice A ks.length c]):=HX1.out.far (p:=⟨g,0,none⟩) hgn _
  have HB2:Hid (Below B w (wc.setCell ⟨g,0,none⟩ (.int .i64 ((n0:Int)+1)))):=HB1.out.setCell (p:=⟨g,0,none⟩) hBg _
  clear HG1 HX1 HB1
  go_upto_region 3 with fail
  generalize wc.setCell ⟨g,0,none⟩ (.int .i64 ((n0:Int)+1))=W2 at *
  clear x0 x1 x2 x3 x4 g0 gf
  have g0:W2.cell? ⟨g,0,none⟩=some (.int .i64 ((n0:Int)+1)):=by
   have:=HG2.out.cell 0
   rw[show(((n0+1:Nat):Int))=(n0:Int)+1 from by omega] at this
   exact this
  obtain⟨D,hD⟩:∃D,D=JD k:=⟨_,rfl⟩
  rw[←hD]
  have HD:=Lib.hid hD
  clear hD
  go_cut [46] (fun s wx=>∃C:Bool,s = .bool C∧wx=W2∧(C=false↔n0+1≤40∧d≤10∧(D=true→dp<2)))
  case first =>
   by_cases c1:40<n0+1
   ·have t1:decide ((40:Int)<(n0:Int)+1)=true:=decide_eq_true (by omega)
    go_wp2_with fail
    go_meet
    exact⟨true,rfl,rfl,⟨fun h=>(by cases h),fun h=>by omega⟩⟩
   have t1:decide ((40:Int)<(n0:Int)+1)=false:=decide_eq_false (by omega)
   by_cases c2:10<d
   ·have t2:decide ((10:Int)<(d:Int))=true:=decide_eq_true (by omega)
    go_wp2_with fail
    go_meet
    exact⟨true,rfl,rfl,⟨fun h=>(by cases h),fun h=>by omega⟩⟩
   have t2:decide ((10:Int)<(d:Int))=false:=decide_eq_false (by omega)
   cases D with
   | false =>
    go_wp2_with fail
    go_meet
    exact⟨false,rfl,rfl,⟨fun _=>⟨by omega,by omega,fun h=>(by cases h)⟩,fun _=>rfl⟩⟩
   | true =>
    by_cases c3:2≤dp
    ·have t3:decide ((2:Int)≤(dp:Int))=true:=decide_eq_true (by omega)
     go_wp2_with fail
     go_meet
     exact⟨true,rfl,rfl,⟨fun h=>(by cases h),fun h=>by have:=h.2.2 trivial;omega⟩⟩
    ·have t3:decide ((2:Int)≤(dp:Int))=false:=decide_eq_false (by omega)
     go_wp2_with fail
     go_meet
     exact⟨false,rfl,rfl,⟨fun _=>⟨by omega,by omega,fun h=>by omega⟩,fun _=>rfl⟩⟩
  case rest =>
  obtain⟨C,rfl,hwc,hC⟩:=hcut
  subst hwc
  cases C with
  | true =>
   have HN:Hid (¬Q):=fun q=>by
    obtain⟨_,_,q1,q2,q3⟩:=HQ.out q
    have h:=hC.2 ⟨by omega,by omega,fun h=>by rw[HD.out] at h;rw[if_pos h] at q3;omega⟩
    cases h
   clear hC
   go_wp2_with fail
   exact HNo.out (n0+1) 2 _ HN.out (by omega) HG2.out HB2.out
  | false =>
  obtain⟨hn1,hd1,hdp1⟩:=hC.1 rfl
  have HDp:=Lib.hid hdp1
  clear hC hdp1
  have HF:=Lib.hid (fun W=>Y9 k W)
  have HKi:=Lib.hid (fun W=>jck k W)
  have HWy:=Lib.hid (fun n lo hi W h=>Qh n lo hi W h)
  have HWn:=Lib.hid (fun n lo hi W h=>QC n lo hi W h)
  obtain⟨uA,huA⟩:∃u,u=usA k:=⟨_,rfl⟩
  obtain⟨uB,huB⟩:∃u,u=usB k:=⟨_,rfl⟩
  obtain⟨uN,huN⟩:∃u,u=usN k:=⟨_,rfl⟩
  rw[←huA,←huB,←huN] at HF
  have HU:=Lib.hid (And.intro huA (And.intro huB huN))
  clear huA huB huN
  obtain⟨x0,x1,x2,x3,x4⟩:=jR HX2.out
  go_upto_region 6 with(go_at_call 70;refine Calls.mono (HF.out _) ?_;rintro e w' ⟨rfl,hw⟩;subst hw)
  have HForm:Hid (FormP k a b nm ks.length↔(1≤k∧k≤12)∧ks.length=zO k∧(uA=true∨a=0)∧(uB=true∨b=0)∧(uN=true∨nm.size=0)):=by
   rw[HU.out.1,HU.out.2.1,HU.out.2.2];exact Iff.rfl
  go_cut [93] (fun s wx=>∃C:Bool,s = .bool C∧(C=false↔FormP k a b nm ks.length)∧∃q,wx=wc.drewN q)
  case first =>
   by_cases i1:1≤k∧k≤12
   case neg =>
    have HR:Hid (true=false↔FormP k a b nm ks.length):=⟨fun h=>(by cases h),fun h=>absurd (HForm.out.1 h).1 i1⟩
    go_quiet ((go_at_call 71;exact Calls.quiet_of_same ((HWn.out _ _ _ _ i1).mono fun _ _ ⟨a,b⟩=>⟨a,b.symm⟩)))
    go_wp2_with fail
    go_meet
    exact⟨true,rfl,HR.out,_,rfl⟩
   by_cases i2:ks.length=zO k
   case neg =>
    have e2:(((ks.length:Nat):Int) != ((zO k:Nat):Int))=true:=by rw[bne_iff_ne];omega
    have e2':(ks.length != zO k)=true:=by rw[bne_iff_ne];omega
    have HR:Hid (true=false↔FormP k a b nm ks.length):=⟨fun h=>(by cases h),fun h=>absurd (HForm.out.1 h).2.1 i2⟩
    clear i2
    go_quiet (first|(go_at_call 71;exact Calls.quiet_of_same ((HWy.out _ _ _ _ i1).mono fun _ _ ⟨a,b⟩=>⟨a,b.symm⟩))|(go_at_call 72;exact Calls.quiet_of_same ((HKi.out _).mono fun _ _ ⟨a,b⟩=>⟨a,b.symm⟩)))
    go_wp2_with fail
    go_meet
    exact⟨true,rfl,HR.out,_,rfl⟩
   have e2:(((ks.length:Nat):Int) != ((zO k:Nat):Int))=false:=by rw[bne_eq_false_iff_eq];omega
   have e2':(ks.length != zO k)=false:=by rw[bne_eq_false_iff_eq];omega
   have I2:=Lib.hid i2
   clear i2
   by_cases i3:uA=true∨a=0
   case neg =>
    have e3:(a != 0)=true:=by rw[bne_iff_ne];exact fun h=>i3 (.inr h)
    obtain rfl:uA=false:=by cases uA with|false=>rfl|true=>exact absurd (.inl rfl) i3
    have HR:Hid (true=false↔FormP k a b nm ks.length):=⟨fun h=>(by cases h),fun h=>absurd (HForm.out.1 h).2.2.1 i3⟩
    clear i3
    go_quiet (first|(go_at_call 71;exact Calls.quiet_of_same ((HWy.out _ _ _ _ i1).mono fun _ _ ⟨a,b⟩=>⟨a,b.symm⟩))|(go_at_call 72;exact Calls.quiet_of_same ((HKi.out _).mono fun _ _ ⟨a,b⟩=>⟨a,b.symm⟩)))
    go_wp2_with fail
    go_meet
    exact⟨true,rfl,HR.out,_,rfl⟩
   have e3:uA=true∨(uA=false∧(a != 0)=false):=by
    rcases i3 with h|h
    ·exact .inl h
    ·cases uA with|true=>exact .inl rfl|false=>exact .inr ⟨rfl,by rw[bne_eq_false_iff_eq];exact h⟩
   have I3:=Lib.hid i3
   clear i3
   by_cases i4:uB=true∨b=0
   case neg =>
    have e4:(b != 0)=true:=by rw[bne_iff_ne];exact fun h=>i4 (.inr h)
    obtain rfl:uB=false:=by cases uB with|false=>rfl|true=>exact absurd (.inl rfl) i4
    have HR:Hid (true=false↔FormP k a b nm ks.length):=⟨fun h=>(by cases h),fun h=>absurd (HForm.out.1 h).2.2.2.1 i4⟩
    clear i4
    rcases e3 with rfl|⟨rfl,e3⟩
    all_goals
     go_quiet (first|(go_at_call 71;exact Calls.quiet_of_same ((HWy.out _ _ _ _ i1).mono fun _ _ ⟨a,b⟩=>⟨a,b.symm⟩))|(go_at_call 72;exact Calls.quiet_of_same ((HKi.out _).mono fun _ _ ⟨a,b⟩=>⟨a,b.symm⟩)))
     go_wp2_with fail
     go_meet
     exact⟨true,rfl,HR.out,_,rfl⟩
   have e4:uB=true∨(uB=false∧(b != 0)=false):=by
    rcases i4 with h|h
    ·exact .inl h
    ·cases uB with|true=>exact .inl rfl|false=>exact .inr ⟨rfl,by rw[bne_eq_false_iff_eq];exact h⟩
   have I4:=Lib.hid i4
   clear i4
   by_cases i5:uN=true∨nm.size=0
   case neg =>
    have e5:nm.toList.isEmpty=false:=by rw[QW];exact decide_eq_false fun h=>i5 (.inr h)
    obtain rfl:uN=false:=by cases uN with|false=>rfl|true=>exact absurd (.inl rfl) i5
    have HR:Hid (true=false↔FormP k a b nm ks.length):=⟨fun h=>(by cases h),fun h=>absurd (HForm.out.1 h).2.2.2.2 i5⟩
    clear i5
    rcases e3 with rfl|⟨rfl,e3⟩<;>rcases e4 with rfl|⟨rfl,e4⟩
    all_goals
     go_quiet (first|(go_at_call 71;exact Calls.quiet_of_same ((HWy.out _ _ _ _ i1).mono fun _ _ ⟨a,b⟩=>⟨a,b.symm⟩))|(go_at_call 72;exact Calls.quiet_of_same ((HKi.out _).mono fun _ _ ⟨a,b⟩=>⟨a,b.symm⟩)))
     go_wp2_with fail
     go_meet
     exact⟨true,rfl,HR.out,_,rfl⟩
   have e5:uN=true∨(uN=false∧nm.toList.isEmpty=true):=by
    rcases i5 with h|h
    ·exact .inl h
    ·cases uN with|true=>exact .inl rfl|false=>exact .inr ⟨rfl,by rw[QW];exact decide_eq_true h⟩
   have HR:Hid (FormP k a b nm ks.length):=HForm.out.2 ⟨i1,I2.out,I3.out,I4.out,i5⟩
   clear i5
   rcases e3 with rfl|⟨rfl,e3⟩<;>rcases e4 with rfl|⟨rfl,e4⟩<;>rcases e5 with rfl|⟨rfl,e5⟩
   all_goals
    go_quiet (first|(go_at_call 71;exact Calls.quiet_of_same ((HWy.out _ _ _ _ i1).mono fun _ _ ⟨a,b⟩=>⟨a,b.symm⟩))|(go_at_call 72;exact Calls.quiet_of_same ((HKi.out _).mono fun _ _ ⟨a,b⟩=>⟨a,b.symm⟩)))
    go_wp2_with fail
    go_meet
    exact⟨false,rfl,⟨fun _=>HR.out,fun _=>rfl⟩,_,rfl⟩
  case rest =>
  obtain⟨C,rfl,hC,q,hwc⟩:=hcut
  have HG3:Hid (Box wc g 3 #[.int .i64 ((n0+1:Nat):Int)]):=by rw[hwc];exact HG2.out.drewN q
  have HX3:Hid (Box wc gx 24 #[.int .i64 k,.int .i64 a,.int .i64 b,.string nm,.slice A ks.length c]):=by rw[hwc];exact HX2.out.drewN q
  have HB3:Hid (Below B w wc):=by rw[hwc];exact jd HB2.out q
  clear hwc HG2 HX2 HB2 x0 x1 x2 x3 x4 g0 HForm HF HKi HWy HWn
  cases C with
  | true =>
   have HN:Hid (¬Q):=fun q=>by have:=hC.2 (HQ.out q).1.form;cases this
   clear hC
   go_wp2_with fail
   exact HNo.out (n0+1) 8 _ HN.out (by omega) HG3.out HB3.out
  | false =>
  have HFm:=Lib.hid (hC.1 rfl)
  have hgl3:=HG3.out.lt
  have hxl3:=HX3.out.lt
  clear hC
  obtain⟨x0,x1,x2,x3,x4⟩:=jR HX3.out
  have HCal:=Lib.hid (fun r hr W (h:Env W)=>ki r hr W h)
  have HCno:=Lib.hid (fun hno W (h:Env W)=>Xf nm hno W h)
  have HEnv:Hid (∀W,Below B w W→Env W):=fun W h=>HE.out W (HB0.out.trans h)
  unfold ja2 at HCal
  go_upto_if 94 with fail
  go_cut [13] (fun s13 wx=>∃mo:Nat,s13 = .int .i64 (mo:Int)∧mo≤100000∧Hid (j9 k a b mo→(usN k=false→j9 k a b 0)∧(usN k=true→∃r∈jN,str r.nm=nm∧j9 k a b r.t.mo.length))∧Hid (FeNode k a b nm ks.length→j9 k a b mo)∧Hid (Box wx g 3 #[.int .i64 ((n0+1:Nat):Int)])∧Hid (Box wx gx 24 #[.int .i64 k,.int .i64 a,.int .i64 b,.string nm,.slice A ks.length c])∧Hid (Below B w wx))
  case first =>
   cases uN with
   | false =>
    have hu:usN k=false:=HU.out.2.2.symm
    have HR:Hid (j9 k a b 0→(usN k=false→j9 k a b 0)∧(usN k=true→∃r∈jN,str r.nm=nm∧j9 k a b r.t.mo.length)):=fun h=>⟨fun _=>h,fun e=>by rw[hu] at e;cases e⟩
    have HR2:Hid (FeNode k a b nm ks.length→j9 k a b 0):=fun h=>h.rg hu
    clear hu
    go_wp2_with fail
    go_meet
    exact⟨0,rfl,by omega,HR,HR2,HG3,HX3,HB3⟩
   | true =>
    have hu:usN k=true:=HU.out.2.2.symm
    by_cases hkn:∃r∈jN,str r.nm=nm
    case neg =>
     have HN:Hid (¬Q):=fun q=>by
      obtain⟨r,hr,h,_⟩:=(HQ.out q).1.cal hu
      exact hkn ⟨r,hr,h⟩
     have HCn:=Lib.hid (HCno.out (fun r hr h=>hkn ⟨r,hr,h⟩) wc (HEnv.out _ HB3.out))
     clear hkn hu HCal HCno
     go_wp2_with fail
     refine Calls.mono HCn.out ?_
     rintro e w4 ⟨rfl,hb4⟩
     have HG4:=Lib.hid (HG3.out.below hb4)
     have HB4:Hid (Below B w w4):=HB3.out.trans (hb4.mono (by omega))
     clear hb4 HCn HG3 HX3 HB3 x0 x1 x2 x3 x4
     go_wp2_with fail
     have HG5:=Lib.hid (HG4.out.alloc (Obj.cells qn 70))
     have HB5:Hid (Below B w (w4.alloc (Obj.cells qn 70))):=HB4.out.alloc (by have:=HB4.out.size;omega) _
     exact HNo.out (n0+1) 5 _ HN.out (by omega) HG5.out HB5.out
    obtain⟨r,hr,hnm⟩:=hkn
    have HCn:=Lib.hid (HCal.out r hr wc (HEnv.out _ HB3.out))
    rw[hnm] at HCn
    have hrm:r.t.mo.length≤100000:=by have:=(Ql r hr).1.mo.n2;omega
    have HR:Hid (j9 k a b r.t.mo.length→(usN k=false→j9 k a b 0)∧(usN k=true→∃r∈jN,str r.nm=nm∧j9 k a b r.t.mo.length)):=fun h=>⟨fun e=>(by rw[hu] at e;cases e),fun _=>⟨r,hr,hnm,h⟩⟩
    have HR2:Hid (FeNode k a b nm ks.length→j9 k a b r.t.mo.length):=fun h=>by
     obtain⟨r',hr',h1,h2⟩:=h.cal hu
     obtain rfl:=Vf hr hr' (hnm.trans h1.symm)
     exact h2
    clear hu HCal HCno hnm
    go_wp2_with fail
    refine Calls.mono HCn.out ?_
    rintro e w4 ⟨cal,rfl,hof,_,_,_,hb4⟩
    have HG4:=Lib.hid (HG3.out.below hb4)
    have HX4:=Lib.hid (HX3.out.below hb4)
    have HB4:Hid (Below B w w4):=HB3.out.trans (hb4.mono (by omega))
    have hmo:=hof.mo
    have HMo:=Lib.hid hmo
    clear hb4 HCn HG3 HX3 HB3 x0 x1 x2 x3 x4 hof hmo
    go_upto_region 13 with fail
    have HG5:=Lib.hid (HG4.out.alloc (Obj.cells cal.cells 70))
    have HX5:=Lib.hid (HX4.out.alloc (Obj.cells cal.cells 70))
    have HB5:Hid (Below B w (w4.alloc (Obj.cells cal.cells 70))):=HB4.out.alloc (by have:=HB4.out.size;omega) _
    have HY5:=Box.new w4 70 cal.cells
    clear HG4 HX4 HB4
    generalize w4.alloc (Obj.cells cal.cells 70)=w5 at *
    generalize w4.heap.size=gc at *
    obtain⟨y0,y1,y2,y3,y4⟩:=zu HY5
    go_wp2_with fail
    go_meet
    exact⟨r.t.mo.length,by rw[HMo.out],hrm,HR,HR2,HG5,HX5,HB5⟩
  case rest =>
  clear x0 x1 x2 x3 x4 HG3 HX3 HB3 HCal HCno hgl3 hxl3
  obtain⟨mo,rfl,hmo,HR,HR2,HG3,HX3,HB3⟩:=hcut
  have HRg:=Lib.hid (YR k a b nm A ks.length c mo hmo wc)
  unfold RngQ at HRg
  obtain⟨x0,x1,x2,x3,x4⟩:=jR HX3.out
  have hgl3:=HG3.out.lt
  go_wp2_with fail
  refine Calls.mono HRg.out ?_
  rintro e w4 ⟨rb,rfl,hrb,hb4⟩
  have HG4:=Lib.hid (HG3.out.below hb4)
  have HX4:=Lib.hid (HX3.out.below hb4)
  have HB4:Hid (Below B w w4):=HB3.out.trans (hb4.mono (by have:=HB3.out.size;omega))
  clear hb4 HRg HG3 HX3 HB3 x0 x1 x2 x3 x4 hgl3
  cases rb with
  | false =>
   have HN:Hid (¬Q):=fun q=>by have:=hrb.2 (HR2.out (HQ.out q).1);cases this
   clear hrb
   go_wp2_with fail
   exact HNo.out (n0+1) 3 _ HN.out (by omega) HG4.out HB4.out
  | true =>
  have HNode:=Lib.hid (HFm.out.node (HR.out (hrb.1 rfl)).1 (HR.out (hrb.1 rfl)).2)
  clear hrb HR HR2 HFm
  obtain⟨dq,hdq⟩:∃dq:Nat,dq=dp+(if JD k then 1 else 0):=⟨_,rfl⟩
  have hdq2:dq≤2:=by
   have:=HDp.out
   rw[HD.out] at this
   rw[hdq]
   split
   ·rename_i h;have:=this h;omega
   ·omega
  have hdq3:dq=dp+(if D=true then 1 else 0):=by rw[hdq,HD.out]
  have HDq:=Lib.hid hdq
  clear hdq HDp
  go_upto_if 110 with fail
  go_cut [2] (fun s2 wx=>s2 = .int .i64 (dq:Int)∧wx=w4)
  case first =>
   cases D with
   | false =>
    have e:dq=dp:=by rw[hdq3];rfl
    clear hdq3
    subst e
    go_wp2_with fail
    go_meet
    exact⟨rfl,rfl⟩
   | true =>
    have e:(dq:Int)=(dp:Int)+1:=by have:dq=dp+1:=by rw[hdq3];rfl
                                   omega
    have HEq:=Lib.hid e
    clear hdq3 e
    go_wp2_with fail
    go_meet
    exact⟨by rw[HEq.out],rfl⟩
  case rest =>
  obtain⟨rfl,hwc⟩:=hcut
  subst hwc
  clear hdq3
  have hks:ks.length≤2:=by rw[HNode.out.len];exact jbl k
  obtain⟨x0,x1,x2,x3,x4⟩:=jR HX4.out
  have hgl4:=HG4.out.lt
  go_wp2_with fail
  clear x0 x1 x2 x3 x4 HX4
  go_loopw [17,18,116] (fun _ _ i wr=>∃j:Nat,j≤ks.length∧i = .int .i64 (j:Int)∧Hid (Box wr g 3 #[.int .i64 ((n0+1+zK (ks.take j):Nat):Int)])∧n0+1+zK (ks.take j)≤40∧d+1+xL (ks.take j)≤11∧vd (ks.take j)+dq≤2∧Hid (∀i,i<j→FeOk (ks.getD i fe0))∧Hid (Below B w wr)) (fun _ _ i _=>ks.length-(intOf i).toNat)
  case atStart=>exact⟨0,by omega,rfl,(show Box _ _ _ _ from by have:=HG4.out;simpa[zK] using this),by simp[zK];omega,by simp[xL];omega,by simp[vd];omega,(fun i hi=>by omega),HB4⟩
  case round =>
   obtain⟨j,hj,rfl,hgr,hn40,hd11,hdd,hall,hbr⟩:=hrel
   clear HG4 HB4 hgl4
   have hgl2:=hgr.out.lt
   by_cases hlt:j<ks.length
   ·obtain⟨bb,o,rfl,hb,hc⟩:=HRow.out.open_ (jfS ks (by omega))
    have hc':∀i v,(ks.flatMap feF)[i]?=some v→wr.cell? ⟨bb,o+i,none⟩=some v:=fun i v hv=>((HB0.out.trans hbr.out).cell (p:=⟨bb,o+i,none⟩) hb).trans (hc i v hv)
    have hmem:=Q4 hlt
    have S1:=Lib.hid (KC ks j hlt)
    have S2:=Lib.hid (Za ks j hlt)
    have S3:=Lib.hid (KT ks j hlt)
    have S4:=Lib.hid (KI ks (j+1))
    have S5:=Lib.hid (Zf ks (j+1))
    have S6:=Lib.hid (jaB ks (j+1))
    have HI0:=IH.out _ hmem
    have HM0:Hid (Q→FeOk (ks.getD j fe0)):=fun q=>(HQ.out q).2.1 _ hmem
    generalize hx:ks.getD j fe0=x at *
    obtain⟨k',a',b',nm',A',c',ks'⟩:=x
    have y0:=jm qw fe0 hc' j 0 hlt (by omega) (.int .i64 k') (by rw[hx];rfl)
    have y1:=jm qw fe0 hc' j 1 hlt (by omega) (.int .i64 a') (by rw[hx];rfl)
    have y2:=jm qw fe0 hc' j 2 hlt (by omega) (.int .i64 b') (by rw[hx];rfl)
    have y3:=jm qw fe0 hc' j 3 hlt (by omega) (.string nm') (by rw[hx];rfl)
    have y4:=jm qw fe0 hc' j 4 hlt (by omega) (.slice A' ks'.length c') (by rw[hx];rfl)
    rw[Nat.add_zero] at y0
    have hbl:bb<wr.heap.size:=by have:=hbr.out.size;omega
    have HI:Hid (∀w',Below B w0 w'→Box w' g 3 #[.int .i64 ((n0+1+zK (ks.take j):Nat):Int)]→Calls Tryz.prog 52 #[.agg #[.int .i64 k',.int .i64 a',.int .i64 b',.string nm',.slice A' ks'.length c'],.int .i64 ((d:Int)+1),.int .i64 (dq:Int),.pointer (some ⟨g,0,none⟩)] w' (IsNode B g (.node k' a' b' nm' A' c' ks') (d+1) dq (n0+1+zK (ks.take j)) w')):=by
     intro w' h1 h2
     have:=HI0 w' (d+1) dq (n0+1+zK (ks.take j)) h1 h2 (by omega) (by omega) hn40
     rw[show((d+1:Nat):Int)=(d:Int)+1 from by omega] at this
     exact this
    have HX:=Lib.hid hx
    have HBR:Hid (Below B w (wr.alloc (.cells #[.int .i64 k',.int .i64 a',.int .i64 b',.string nm',.slice A' ks'.length c'] 24))):=hbr.out.alloc (by omega) _
    have HGR:=Lib.hid (hgr.out.alloc (.cells #[.int .i64 k',.int .i64 a',.int .i64 b',.string nm',.slice A' ks'.length c'] 24))
    clear hc hc' HI0 hx hmem hbr hgr
    unfold IsNode at HI
    go_wp2_with fail
    refine(HI.out _ (HB0.out.trans HBR.out) HGR.out).mono ?_
    rintro e w2 ⟨E,m1,rfl,hg2,hb2,hE0,hE1⟩
    have HB2:=Lib.hid (HBR.out.trans hb2)
    have HE0:=Lib.hid hE0
    have HE1:=Lib.hid hE1
    have HG2:=Lib.hid hg2
    clear hb2 HI HBR HGR hE0 hE1 hg2 y0 y1 y2 y3 y4
    by_cases hE:E=0
    ·subst hE
     obtain⟨ok,hm1,hm2,hm3⟩:=HE0.out.1 rfl
     have HM1:=Lib.hid (HE1.out rfl)
     clear HE0 HE1
     go_wp2_with fail
     go_roundw
     case rel =>
      refine⟨j+1,by omega,by go_num,?_,?_,?_,?_,fun i hi=>?_,HB2⟩
      ·have:=HG2.out;rw[HM1.out] at this;unfold Hid;rw[S1.out,←Nat.add_assoc];exact this
      ·rw[S1.out];omega
      ·rw[S2.out];omega
      ·rw[S3.out];omega
      ·by_cases hij:i<j
       ·exact hall.out i hij
       ·obtain rfl:i=j:=by omega
        rw[HX.out];exact ok
     case measure=>simp[intOf];omega
    ·have tE:(E != 0)=true:=by rw[bne_iff_ne];exact hE
     have HN:Hid (¬Q):=fun q=>by
      obtain⟨q1,q2,q3,q4,q5⟩:=HQ.out q
      refine hE (HE0.out.2 ⟨HM0.out q,?_,?_,?_⟩)
      ·have:=S1.out;have:=S4.out;omega
      ·have:=S2.out;have:=S5.out;omega
      ·have:=S3.out;have:=S6.out;have:=HDq.out;omega
     have HEn:=Lib.hid hE
     clear HE0 HE1 hE
     go_wp2_with fail
     exact HNo.out m1 E _ HN.out HEn.out HG2.out HB2.out
   ·obtain rfl:j=ks.length:=by omega
    rw[List.take_length] at hn40 hd11 hdd hgr
    have HQy:=Lib.hid (HQ2.out HNode.out (fun x hx=>by
     obtain⟨i,hi,rfl⟩:=List.getElem_of_mem hx
     have:=hall.out i hi
     simpa[List.getD,hi] using this) hn40 hd11 (by have:=HDq.out;omega))
    go_wp2_with fail
    exact HYes.out _ HQy.out hgr.out hbr.out
def ZB (t:FE) (w:World) (e:Ending) (w':World):Prop:=∃E:Int,e = .returned (.int .i64 E)∧(E=0↔FeGood t)∧Below w.heap.size w w'
theorem JJ (t:FE) (w:World) (hv:Env w) (hin:FeIn w w.heap.size t):Calls Tryz.prog 33 #[feV t] w (ZB t w):=by
 have HI:=Lib.hid (fun W (h1:Below w.heap.size w W) h2=>jcS w hv (w.heap.size+1) (by omega) t hin W 1 0 0 h1 h2 (by omega) (by omega) (by omega))
 obtain⟨k,a,b,nm,A,c,ks⟩:=t
 unfold ZB
 change Calls Tryz.prog 33 #[.agg #[.int .i64 k,.int .i64 a,.int .i64 b,.string nm,.slice A ks.length c]] w _
 have q1:=Lib.hid (jh w (.cells #[.int .i64 k,.int .i64 a,.int .i64 b,.string nm,.slice A ks.length c] 24) (.cells #[.int .i64 0] 3))
 have q2:Hid (Box ((w.alloc (.cells #[.int .i64 k,.int .i64 a,.int .i64 b,.string nm,.slice A ks.length c] 24)).alloc (.cells #[.int .i64 0] 3)) (w.heap.size+1) 3 #[.int .i64 0]):=heap_alloc2_new _ _ _
 clear hin hv
 unfold IsNode at HI
 go_enter Tryz.func33,Tryz.ntmps33
 go_wp2_with fail
 refine(HI.out _ q1.out q2.out).mono ?_
 rintro e w2 ⟨E,m1,rfl,hg2,hb2,hE0,_⟩
 have HB:=Lib.hid (q1.out.trans hb2)
 have H0:=Lib.hid hE0
 clear hb2 q1 q2 HI hg2 hE0
 go_wp2_with fail
 go_ret
 refine⟨E,rfl,⟨fun h=>?_,fun h=>?_⟩,HB.out⟩
 ·obtain⟨a,b,c,d⟩:=H0.out.1 h
  exact⟨a,by omega,by omega,by omega⟩
 ·exact H0.out.2 ⟨h.ok,by have:=h.sz;omega,by have:=h.ht;omega,by have:=h.dh;omega⟩
end Go.Proofs.YtkkjaaognefeiaaGreatDoor
