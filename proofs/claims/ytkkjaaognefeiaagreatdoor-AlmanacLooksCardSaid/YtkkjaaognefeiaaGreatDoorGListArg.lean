/- ListArg -/
import Derived.ProofKit
import Derived.Lib.SmallJoins
import Derived.Deep.Slices
import Derived.Deep.Fields
import Derived.Test.YtkkjaaognefeiaaGreatDoorGFs0
set_option maxRecDepth 100000
set_option maxHeartbeats 16000000
set_option linter.unusedVariables false
set_option linter.unusedSimpArgs false
namespace Go.Proofs.YtkkjaaognefeiaaGreatDoor
open Go.ChangeShapes Go.Deep Go.Joins Go.RowKit Go.WideShapes
theorem jfC {α:Type} (d:α) (P:Nat→α→Prop):∀n,(∀i,i<n→∃x,P i x)→∃l:List α,l.length=n∧∀i,i<n→P i (l.getD i d):=by
 intro n
 induction n with
 | zero=>intro _;exact⟨[],rfl,fun i hi=>by omega⟩
 | succ n ih =>
  intro h
  obtain⟨l,hl,hp⟩:=ih (fun i hi=>h i (by omega))
  obtain⟨x,hx⟩:=h n (by omega)
  refine⟨l++[x],by simp[hl],fun i hi=>?_⟩
  by_cases hin:i<n
  ·have e:(l++[x]).getD i d=l.getD i d:=by simp[List.getD,List.getElem?_append_left (show i<l.length by omega)]
   rw[e];exact hp i hin
  ·obtain rfl:i=n:=by omega
   have e:(l++[x]).getD i d=x:=by rw[←hl];simp[List.getD]
   rw[e];exact hx
theorem xM (b o j:Nat):(⟨b,o,none⟩:Addr).add j=⟨b,o+j,none⟩:=by unfold Addr.add;split<;>simp_all
theorem yC {α:Type} {f:α→List Value} {s:Nat} (hf:∀a,(f a).length=s) (l:List α):(l.flatMap f).length=l.length*s:=by
 induction l with
 | nil=>simp
 | cons x r ih=>rw[List.flatMap_cons,List.length_append,ih,hf,List.length_cons,Nat.add_mul];omega
theorem XY {α:Type} {f:α→List Value} {s:Nat} (hf:∀a,(f a).length=s) (d:α) (l:List α) (i j:Nat) (h:i<l.length) (hj:j<s):(l.flatMap f)[i*s+j]?=(f (l.getD i d))[j]?:=by
 induction l generalizing i with
 | nil=>simp at h
 | cons x r ih =>
  cases i with
  | zero=>rw[List.flatMap_cons,Nat.zero_mul,Nat.zero_add,List.getElem?_append_left (by rw[hf];exact hj)];simp
  | succ i =>
   rw[List.flatMap_cons,List.getElem?_append_right (by rw[hf,Nat.add_mul];omega),hf,show(i+1)*s+j-s=i*s+j from by rw[Nat.add_mul];omega,ih i (by simpa using h)]
   simp
theorem jm {α:Type} {f:α→List Value} {s:Nat} (hf:∀a,(f a).length=s) (d:α) {w:World} {b o:Nat} {l:List α} (h:∀j v,(l.flatMap f)[j]?=some v→w.cell? ⟨b,o+j,none⟩=some v) (i j:Nat) (hi:i<l.length) (hj:j<s) (v:Value) (hv:(f (l.getD i d))[j]?=some v) :
  w.cell? ⟨b,o+i*s+j,none⟩=some v:=by
 rw[Nat.add_assoc];exact h _ _ ((XY hf d l i j hi hj).trans hv)
theorem qg {α:Type} {f:α→List Value} {s:Nat} (hf:∀a,(f a).length=s) (hs:0<s) (l:List α) (h:0<l.length):l.flatMap f≠[]:=by
 intro e
 have:=yC hf l
 rw[e] at this
 have:=Nat.mul_pos h hs
 simp at *
 omega
theorem yv {α:Type} (d:α) (l:List α) (i:Nat) (h:i<l.length):l.getD i d∈l:=by
 simp[List.getD,List.getElem?_eq_getElem h]
section
variable {H:Type} {enc:TypeId×Value→H} {W:World}
end
end Go.Proofs.YtkkjaaognefeiaaGreatDoor
