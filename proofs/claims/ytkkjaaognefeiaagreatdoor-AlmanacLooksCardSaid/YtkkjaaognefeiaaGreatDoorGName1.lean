/- Name1, SliceFind -/
import Derived.Test.YtkkjaaognefeiaaGreatDoorGSearch1
import Derived.Test.YtkkjaaognefeiaaGreatDoorGFlow
set_option maxRecDepth 100000
set_option maxHeartbeats 16000000
set_option linter.unusedVariables false
set_option linter.unusedSimpArgs false
namespace Go.Proofs.YtkkjaaognefeiaaGreatDoor
open Go.RowKit
def Asks (P:Prop) (w:World) (e:Ending) (w':World):Prop:=∃b:Bool,e = .returned (.bool b)∧(b=true↔P)∧w=w'
theorem Asks.yes {P:Prop} {w:World} (h:P):Asks P w (.returned (.bool true)) w:=⟨true,rfl,⟨fun _=>h,fun _=>rfl⟩,rfl⟩
theorem Asks.no {P:Prop} {w:World} (h:¬P):Asks P w (.returned (.bool false)) w:=⟨false,rfl,⟨(fun e=>by cases e),fun p=>absurd p h⟩,rfl⟩
def AllIn (lo hi:Nat) (s:ByteArray):Prop:=∀k (h:k<s.size),lo≤s[k].toNat∧s[k].toNat≤hi
def Errs (P:Prop) (w:World) (e:Ending) (w':World):Prop:=∃E:Int,e = .returned (.int .i64 E)∧(E=0↔P)∧Below w.heap.size w w'
theorem Errs.ok {P:Prop} {w w':World} (h:P) (hb:Below w.heap.size w w'):Errs P w (.returned (.int .i64 0)) w':=⟨0,rfl,⟨fun _=>h,fun _=>rfl⟩,hb⟩
theorem Errs.no {P:Prop} {w w':World} {E:Int} (hE:E≠0) (h:¬P) (hb:Below w.heap.size w w'):Errs P w (.returned (.int .i64 E)) w':=⟨E,rfl,⟨fun e=>absurd e hE,fun p=>absurd p h⟩,hb⟩
theorem ji (x:Int) (h1 : -9223372036854775808≤x) (h2:x≤9223372036854775807):IntKind.i64.wrap x=x:=IntWalk.i64_in _ ⟨h1,h2⟩
def qo (s:ByteArray):Prop:=1≤s.size∧s.size≤12∧¬s.toList=[121]∧¬s.toList=[97,110,100]∧¬s.toList=[111,114]∧¬s.toList=[110,111,116]∧AllIn 97 122 s
theorem vH (s:ByteArray) (w:World) (hs:s.size≤maxLen) :
  Calls Tryz.prog 32 #[.string s] w (Asks (qo s) w):=by
 unfold maxLen at hs
 by_cases h1:s.size<1
 ·have t1:decide ((s.size:Int)<1)=true:=decide_eq_true (by omega)
  go_enter Tryz.func32,Tryz.ntmps32
  go_wp2_with fail
  go_ret
  exact Asks.no (fun h=>by have:=h.1;omega)
 have t1:decide ((s.size:Int)<1)=false:=decide_eq_false (by omega)
 by_cases h2:12<s.size
 ·have t2:decide (12<(s.size:Int))=true:=decide_eq_true (by omega)
  go_enter Tryz.func32,Tryz.ntmps32
  go_wp2_with fail
  go_ret
  exact Asks.no (fun h=>by have:=h.2.1;omega)
 have t2:decide (12<(s.size:Int))=false:=decide_eq_false (by omega)
 by_cases q0:s.toList=[121]
 ·have b0:(s.toList==[121])=true:=beq_iff_eq.2 q0
  have Q:=hD q0
  clear q0
  go_enter Tryz.func32,Tryz.ntmps32
  go_wp2_with fail
  go_ret
  exact Asks.no (fun h=>h.2.2.1 Q.out)
 have b0:(s.toList==[121])=false:=beq_eq_false_iff_ne.2 q0
 by_cases q1:s.toList=[97,110,100]
 ·have b1:(s.toList==[97,110,100])=true:=beq_iff_eq.2 q1
  have Q:=hD q1
  clear q1
  go_enter Tryz.func32,Tryz.ntmps32
  go_wp2_with fail
  go_ret
  exact Asks.no (fun h=>h.2.2.2.1 Q.out)
 have b1:(s.toList==[97,110,100])=false:=beq_eq_false_iff_ne.2 q1
 by_cases q2:s.toList=[111,114]
 ·have b2:(s.toList==[111,114])=true:=beq_iff_eq.2 q2
  have Q:=hD q2
  clear q2
  go_enter Tryz.func32,Tryz.ntmps32
  go_wp2_with fail
  go_ret
  exact Asks.no (fun h=>h.2.2.2.2.1 Q.out)
 have b2:(s.toList==[111,114])=false:=beq_eq_false_iff_ne.2 q2
 by_cases q3:s.toList=[110,111,116]
 ·have b3:(s.toList==[110,111,116])=true:=beq_iff_eq.2 q3
  have Q:=hD q3
  clear q3
  go_enter Tryz.func32,Tryz.ntmps32
  go_wp2_with fail
  go_ret
  exact Asks.no (fun h=>h.2.2.2.2.2.1 Q.out)
 have b3:(s.toList==[110,111,116])=false:=beq_eq_false_iff_ne.2 q3
 have HQ:=hD (And.intro q0 (And.intro q1 (And.intro q2 q3)))
 clear q0 q1 q2 q3
 go_enter Tryz.func32,Tryz.ntmps32
 go_wp2_with fail
 go_loop [3,30] (fun _ i=>∃k:Nat,k≤s.size∧i = .int .i64 k∧Hid (∀j (h:j<s.size),j<k→97≤s[j].toNat∧s[j].toNat≤122)) (fun _ i=>s.size-(intOf i).toNat)
 case atStart=>exact⟨0,by omega,rfl,fun j h hj=>by omega⟩
 case round =>
  obtain⟨k,hk,rfl,hall⟩:=hrel
  by_cases hlt:k<s.size
  ·by_cases c1:s[k].toNat<97
   ·have d1:decide ((s[k].toNat:Int)<97)=true:=decide_eq_true (by omega)
    go_wp2
    go_ret
    exact Asks.no (fun h=>by have:=h.2.2.2.2.2.2 k hlt;omega)
   ·have d1:decide ((s[k].toNat:Int)<97)=false:=decide_eq_false (by omega)
    by_cases c2:122<s[k].toNat
    ·have d2:decide (122<(s[k].toNat:Int))=true:=decide_eq_true (by omega)
     go_wp2
     go_ret
     exact Asks.no (fun h=>by have:=h.2.2.2.2.2.2 k hlt;omega)
    ·have d2:decide (122<(s[k].toNat:Int))=false:=decide_eq_false (by omega)
     go_wp2
     go_round
     case rel=>exact⟨k+1,by omega,by go_num,fun j h hj=>by
      by_cases hjk:j<k
      ·exact hall.out j h hjk
      ·obtain rfl:j=k:=by omega
       omega⟩
     case measure=>simp[intOf];omega
  ·go_wp2
   go_ret
   exact Asks.yes ⟨by omega,by omega,HQ.out.1,HQ.out.2.1,HQ.out.2.2.1,HQ.out.2.2.2,fun j h=>hall.out j h (by omega)⟩
def jf0 (P:Prop) (S:World→Prop) (e:Ending) (w':World):Prop:=∃i:Int,e = .returned (.int .i64 i)∧(0≤i↔P)∧S w'
end Go.Proofs.YtkkjaaognefeiaaGreatDoor
