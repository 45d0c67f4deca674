/- PlainMoon -/
set_option maxRecDepth 100000
set_option maxHeartbeats 16000000
set_option linter.unusedVariables false
set_option linter.unusedSimpArgs false
namespace Go.Proofs.YtkkjaaognefeiaaGreatDoor
def Inc (l:List Int) (lo hi:Int):Prop:=∀i,i<l.length→(lo≤l.getD i 0∧l.getD i 0≤hi)∧(0<i→l.getD (i-1) 0<l.getD i 0)
theorem Inc.lt {l:List Int} {lo hi:Int} (h:Inc l lo hi):∀(d a:Nat),a+d+1<l.length→l.getD a 0<l.getD (a+d+1) 0:=by
 intro d
 induction d with
 | zero=>intro a ha;exact(h (a+1) ha).2 (by omega)
 | succ d ih =>
  intro a ha
  have h1:=ih a (by omega)
  have h2:=(h (a+(d+1)+1) ha).2 (by omega)
  have e:a+(d+1)+1-1=a+d+1:=by omega
  rw[e] at h2
  omega
theorem Inc.lt' {l:List Int} {lo hi:Int} (h:Inc l lo hi) (a b:Nat) (hab:a<b) (hb:b<l.length):l.getD a 0<l.getD b 0:=by
 have:=h.lt (b-a-1) a (by omega)
 rwa[show a+(b-a-1)+1=b from by omega] at this
theorem Inc.le {l:List Int} {lo hi:Int} (h:Inc l lo hi) (a b:Nat) (hab:a≤b) (hb:b<l.length):l.getD a 0≤l.getD b 0:=by
 by_cases e:a=b
 ·subst e;omega
 ·have:=h.lt' a b (by omega) hb
  omega
theorem Inc.mem {l:List Int} {lo hi:Int} (h:Inc l lo hi) (x:Int) (hx:x∈l):lo≤x∧x≤hi:=by
 obtain⟨i,hi',e⟩:=List.getElem_of_mem hx
 have:=(h i hi').1
 simpa[List.getD,List.getElem?_eq_getElem hi',e] using this
theorem Inc.from {l:List Int} {lo hi:Int} (h:Inc l lo hi):∀i:Nat,i<l.length→lo+i≤l.getD i 0:=by
 intro i
 induction i with
 | zero=>intro hi;have:=(h 0 hi).1;omega
 | succ i ih=>intro hi;have:=ih (by omega);have h2:=(h (i+1) hi).2 (by omega);rw[Nat.add_sub_cancel] at h2;omega
theorem Inc.len {l:List Int} {lo hi:Int} (h:Inc l lo hi) (hlh:lo≤hi+1):(l.length:Int)≤hi-lo+1:=by
 rcases Nat.eq_zero_or_pos l.length with e|e
 ·omega
 ·have h1:=h.from (l.length-1) (by omega)
  have h2:=(h (l.length-1) (by omega)).1
  omega
theorem Inc.nodup {l:List Int} {lo hi:Int} (h:Inc l lo hi):l.Nodup:=by
 refine List.pairwise_iff_getElem.2 fun i j hi hj hij=>?_
 have:=h.lt' i j hij hj
 simp[List.getD,List.getElem?_eq_getElem hi,List.getElem?_eq_getElem hj] at this
 omega
def xJ (l:List Int) (x:Int):Nat:=l.countP (fun y=>decide (y<x))
theorem jcH (x:Int):∀(l:List Int) (k:Nat),k≤l.length→(∀t,t<k→l.getD t 0<x)→(∀t,k≤t→t<l.length→x≤l.getD t 0)→xJ l x=k:=by
 intro l
 induction l with
 | nil => intro k hk _ _;have:k=0:=by simpa using hk
          subst this;rfl
 | cons a r ih =>
  intro k hk h1 h2
  unfold xJ at ih ⊢
  rw[List.countP_cons]
  cases k with
  | zero =>
   have ha:=h2 0 (by omega) (by simp)
   rw[ih 0 (by omega) (fun t ht=>by omega) (fun t h3 h4=>by have:=h2 (t+1) (by omega) (by simp;omega);simpa using this)]
   simp at ha
   simp;omega
  | succ k =>
   have ha:=h1 0 (by omega)
   rw[ih k (by simpa using hk) (fun t ht=>by have:=h1 (t+1) (by omega);simpa using this) (fun t h3 h4=>by have:=h2 (t+1) (by omega) (by simp;omega);simpa using this)]
   simp at ha
   simp[ha]
theorem XC (x:Int) (l:List Int):xJ l (x+1)=xJ l x+l.count x:=by
 unfold xJ
 induction l with
 | nil=>rfl
 | cons a r ih =>
  rw[List.countP_cons,List.countP_cons,List.count_cons,ih]
  by_cases h1:a<x
  ·have h2:a<x+1:=by omega
   have h3:¬a=x:=by omega
   simp[h1,h2,h3];omega
  ·by_cases h3:a=x
   ·subst h3
    simp[show a<a+1 from by omega];omega
   ·have h2:¬a<x+1:=by omega
    simp[h1,h2,h3]
theorem jdU (x:Int) (l:List Int) (h:∀y∈l,y<x):xJ l x=l.length:=by
 unfold xJ
 exact List.countP_eq_length.2 fun y hy=>decide_eq_true (h y hy)
theorem Yc (x:Int) (l:List Int) (h:∀y∈l,x≤y):xJ l x=0:=by
 unfold xJ
 refine List.countP_eq_zero.2 fun y hy=>?_
 have:=h y hy
 simp;omega
theorem jcP (x:Int) (l:List Int):xJ l x≤l.length:=List.countP_le_length
def avB (av:List Int) (d:Int):Bool:=decide ((d-1)%7∈av)
def post (av:List Int) (d:Int):Int:=if avB av d then(if avB av (d+1) then(if avB av (d+2) then d+3 else d+2) else d+1) else d
end Go.Proofs.YtkkjaaognefeiaaGreatDoor
