/- RuleArg, Tree1 -/
import Derived.Test.YtkkjaaognefeiaaGreatDoorGCal1
import Derived.Test.YtkkjaaognefeiaaGreatDoorGRule1
set_option maxRecDepth 100000
set_option maxHeartbeats 16000000
set_option linter.unusedVariables false
set_option linter.unusedSimpArgs false
namespace Go.Proofs.YtkkjaaognefeiaaGreatDoor
section
open Go.ChangeShapes Go.Deep Go.Joins Go.RowKit Go.WideShapes
section
variable {H:Type} {enc:TypeId×Value→H} {W:World}
theorem Vk {α:Type} (d0:α) {f:α→List Value} {s:Nat} (hf:∀a,(f a).length=s) (hs:0<s) {Fit:α→Prop} {tS tE:TypeId} (hu:Tryz.prog.underlying tS=some (.slice tE)) (hC:Tryz.prog.cellsOf tE=s) {n:Nat}
  (he:∀(m:Nat) (cs:List Value) (y:DataW H×List MemPlace),m<n→DataW.trod enc Tryz.prog W 0 (fun _=>true) true m tE cs=some y→∃x:α,cs=f x∧Fit x)
  {v:Value} {y:DataW H×List MemPlace} (h:DataW.trod enc Tryz.prog W 0 (fun _=>true) true n tS [v]=some y) :
  ∃(A:Option Addr) (xs:List α) (c:Nat),v = .slice A xs.length c∧xs.length≤c∧c≤maxLen∧Row W W.heap.size A (xs.flatMap f)∧∀x∈xs,Fit x:=by
 rcases DataW.trod_slice hu h with⟨hcs,_⟩|⟨a,len,cap,elems,rest,n',hn,hcs,_,hb,hl,hm,hlen,hel,_,_⟩
 ·simp only[List.cons.injEq,and_true] at hcs
  exact⟨none,[],0,hcs,by simp,by simp,.inl rfl,fun x hx=>by cases hx⟩
 ·simp only[List.cons.injEq,and_true] at hcs
  rw[hC] at hel
  have hp:∀i,i<len→∃x:α,Fit x∧∀j v,(f x)[j]?=some v→W.cell? (a.add (i*s+j))=some v:=by
   intro i hil
   have key:=hel i hil
   rw[List.getElem?_eq_getElem (by omega)] at key
   obtain⟨cs',hc,ht⟩:=Option.bind_eq_some_iff.1 key
   obtain⟨x,rfl,hx⟩:=he _ _ _ (by omega) ht
   obtain⟨_,_,hat⟩:=World.cells?_some hc
   refine⟨x,hx,fun j v hv=>?_⟩
   have hj:j<s:=by rw[←hf x];exact(List.getElem?_eq_some_iff.1 hv).1
   have h0:=hat j (by omega)
   rw[Go.Deep.add_add,hv] at h0
   exact h0
  obtain⟨xs,hlen',hall⟩:=jfC d0 _ len hp
  refine⟨some a,xs,cap,by rw[hlen'];exact hcs,by omega,by omega,?_,fun x hx=>?_⟩
  ·by_cases h0:len=0
   ·left
    have:xs=[]:=List.eq_nil_of_length_eq_zero (by omega)
    rw[this];rfl
   ·obtain⟨_,hc0⟩:=hall 0 (by omega)
    have hf0:=hf (xs.getD 0 d0)
    have hc0:=hc0 0 ((f (xs.getD 0 d0))[0]'(by omega)) (by simp)
    rw[Nat.zero_mul,Nat.add_zero] at hc0
    obtain⟨b,off,spot⟩:=a
    have hspot:spot=none:=by simpa[Addr.add] using World.cell?_spot hc0
    subst hspot
    refine .inr ⟨b,off,rfl,?_,fun j v hv=>?_⟩
    ·rw[xM] at hc0;exact block_lt_of_cell hc0
    ·have hj:j<xs.length*s:=by
      have:=(List.getElem?_eq_some_iff.1 hv).1
      rwa[yC hf] at this
     have hr:j%s<s:=Nat.mod_lt _ hs
     have hjd:j/s*s+j%s=j:=by rw[Nat.mul_comm];exact Nat.div_add_mod j s
     have hi':j/s<xs.length:=(Nat.div_lt_iff_lt_mul hs).2 hj
     have k0:=(hall (j/s) (by omega)).2 (j%s) v (by rw[←XY hf d0 xs (j/s) (j%s) hi' hr,hjd];exact hv)
     rw[hjd,xM] at k0
     exact k0
  ·obtain⟨k,hk,e⟩:=List.getElem_of_mem hx
   have:=(hall k (by omega)).1
   simp[List.getD,List.getElem?_eq_getElem hk,e] at this
   exact this
end
end
section
open Go.RowKit
theorem JA {w:World} {base:Nat} {e:TypeId} {s:Nat} {A:Option Addr} {n c:Nat} {xs:List Value} (h:w.ownsRow base e s (.slice A n c) n xs):Row w w.heap.size A xs:=by
 by_cases hn:0<n
 ·obtain⟨g,cap,hv,_,hlt⟩:=h.form hn
  have hA:A=some ⟨g,0,none⟩:=by injection hv
  subst hA
  refine .inr ⟨g,0,rfl,hlt,fun j v hv=>?_⟩
  have:=h.cells (g:=g) rfl j v hv
  rw[Nat.zero_add]
  rw[xM,Nat.zero_add] at this
  exact this
 ·have h0:n=0:=by omega
  subst h0
  have:=h.1
  exact .inl (List.eq_nil_of_length_eq_zero (by simpa using this))
structure Tr where
 nm:ByteArray
 ep:Int
 cy:Int
 k:Int
 n:Int
 A:Option Addr
 c:Nat
 ks:List RE
 mo:List Mth
 A1:Option Addr
 c1:Nat
abbrev Tr.ex (t:Tr):RE:=.node t.k t.n t.A t.c t.ks
abbrev Tr.cells (t:Tr):Array Value:=#[.string t.nm,.int .i64 t.ep,.int .i64 t.cy,.int .i64 t.k,.int .i64 t.n,.slice t.A t.ks.length t.c,.slice t.A1 t.mo.length t.c1]
abbrev Tr.val (t:Tr):Value:=.agg t.cells
structure TrIn (w:World) (t:Tr):Prop where
 r1:Row w w.heap.size t.A1 (t.mo.flatMap zp)
 ex:ReIn w w.heap.size t.ex
theorem TrIn.next {w w':World} {t:Tr} (h:TrIn w t) (hb:Below w.heap.size w w'):TrIn w' t:=⟨h.r1.next hb,h.ex.next hb hb.size⟩
structure TrFit (t:Tr):Prop where
 nm:t.nm.size≤maxLen
 ns:∀x∈t.mo,x.nm.size≤maxLen
 l1:t.mo.length≤t.c1
 m1:t.c1≤maxLen
structure TrOk (t:Tr):Prop where
 hd:qo t.nm∧(-4000000≤t.ep∧t.ep≤4000000)∧1≤t.cy∧t.cy≤3000
 ex:ReFine t.ex
 mo:MthsOk t.mo
theorem Jt {W:World} {g:Nat} {t:Tr} (h:Box W g 128 t.cells):W.cell? ⟨g,0,none⟩=some (.string t.nm)∧W.cell? ⟨g,1,none⟩=some (.int .i64 t.ep)∧W.cell? ⟨g,2,none⟩=some (.int .i64 t.cy)∧W.cell? ⟨g,3,none⟩=some (.int .i64 t.k)∧W.cell? ⟨g,4,none⟩=some (.int .i64 t.n)∧W.cell? ⟨g,5,none⟩=some (.slice t.A t.ks.length t.c)∧W.cell? ⟨g,6,none⟩=some (.slice t.A1 t.mo.length t.c1) :=
 ⟨h.cell 0,h.cell 1,h.cell 2,h.cell 3,h.cell 4,h.cell 5,h.cell 6⟩
theorem Je (t:Tr) (w:World) (hr:TrIn w t) (hf:TrFit t):Calls Tryz.prog 84 #[t.val] w (Errs (TrOk t) w):=by
 have HX:=hD (Box.new w 128 t.cells)
 have HB:=hD (ja w (Obj.cells t.cells 128))
 have HR:=hD (hr.next HB.out)
 have HF:=hD hf
 obtain⟨Q,hQ⟩:∃Q:Prop,Q=TrOk t:=⟨_,rfl⟩
 have QI:Hid (Q↔(qo t.nm∧(-4000000≤t.ep∧t.ep≤4000000)∧1≤t.cy∧t.cy≤3000)∧ReFine t.ex∧MthsOk t.mo):=by
  unfold Hid
  rw[hQ]
  exact⟨fun h=>⟨h.hd,h.ex,h.mo⟩,fun h=>⟨h.1,h.2.1,h.2.2⟩⟩
 rw[←hQ]
 clear hr hf hQ
 go_enter Tryz.func84,Tryz.ntmps84
 go_wp2_with fail
 generalize w.alloc (Obj.cells t.cells 128)=W0 at *
 obtain⟨g,hg⟩:∃g,g=w.heap.size:=⟨_,rfl⟩
 rw[←hg] at HX
 rw[←hg]
 clear hg
 refine(X5 t.nm t.ep t.cy _ HF.out.nm).mono ?_
 rintro e w1 ⟨E1,rfl,hE1,hb1⟩
 have HE1:=hD hE1
 replace HX:=hD (HX.out.below hb1)
 replace HB:=hD (jb HB.out hb1)
 replace HR:=hD (HR.out.next hb1)
 clear hE1 hb1
 by_cases e1:E1=0
 case neg =>
  have t1:(E1 != 0)=true:=by rw[bne_iff_ne];exact e1
  have HNQ:Hid (¬Q):=fun h=>e1 (HE1.out.2 (QI.out.1 h).1)
  clear HE1
  go_wp2_with fail
  go_ret
  exact Errs.no e1 HNQ.out HB.out
 subst e1
 have HW:=hD (HE1.out.1 rfl)
 clear HE1
 obtain⟨x0,x1,x2,x3,x4,x5,x6⟩:=Jt HX.out
 go_wp2_with fail
 refine(vk t.ex _ HR.out.ex).mono ?_
 rintro e w2 ⟨E1,rfl,hb1,hE0,hE1,_⟩
 have HE0:=hD hE0
 have HE1:=hD hE1
 replace HX:=hD (HX.out.below hb1)
 replace HB:=hD (jb HB.out hb1)
 replace HR:=hD (HR.out.next hb1)
 clear hE0 hE1 hb1 x0 x1 x2 x3 x4 x5 x6
 by_cases e1:E1=0
 case neg =>
  have t1:(E1 != 0)=true:=by rw[bne_iff_ne];exact e1
  have HNQ:Hid (¬Q):=fun h=>HE1.out e1 (QI.out.1 h).2.1
  clear HE1 HE0
  go_wp2_with fail
  go_ret
  exact Errs.no e1 HNQ.out HB.out
 subst e1
 have HE:=hD (HE0.out rfl)
 clear HE1 HE0
 obtain⟨x0,x1,x2,x3,x4,x5,x6⟩:=Jt HX.out
 go_wp2_with fail
 refine(Jm t.A1 t.c1 t.mo _ HR.out.r1 HF.out.l1 HF.out.m1 HF.out.ns).mono ?_
 rintro e w3 ⟨E1,rfl,hE1,hb1⟩
 have HE1:=hD hE1
 replace HB:=hD (jb HB.out hb1)
 clear hE1 hb1 x0 x1 x2 x3 x4 x5 x6
 go_wp2_with fail
 go_ret
 exact⟨E1,rfl,⟨fun h0=>QI.out.2 ⟨HW.out,HE.out,HE1.out.1 h0⟩,fun h=>HE1.out.2 (QI.out.1 h).2.2⟩,HB.out⟩
end
end Go.Proofs.YtkkjaaognefeiaaGreatDoor
