/- Back1 -/
import Derived.Test.YtkkjaaognefeiaaGreatDoorGParseA
set_option maxRecDepth 100000
set_option maxHeartbeats 16000000
set_option linter.unusedVariables false
set_option linter.unusedSimpArgs false
namespace Go.Proofs.YtkkjaaognefeiaaGreatDoor
section
open Go.Lib Go.RowKit
def J7 {H:Type} (zs:List (List UInt8)):DataW H:=.agg (zs.map fun z=>.lit (.string z))
theorem Qt {H:Type} {enc:TypeId×Value→H} {P:Program} {w:World} {base:Nat} {sp:Nat→Bool} {held:Bool} {fuel:Nat} {t e:TypeId} {n:Nat} {cs:List Value} {zs:List (List UInt8)} {p:List MemPlace}
  (ht:P.underlying t=some (.array n e)) (he:P.underlying e=some .string) (hce:P.cellsOf e=1) (hct:P.cellsOf t=n)
  (h:DataW.trod enc P w base sp held fuel t cs=some (J7 zs,p)):cs=zs.map fun z=>Value.string (str z):=by
 cases fuel with
 | zero=>simp[DataW.trod] at h
 | succ fuel =>
  simp only[DataW.trod,ht,hce,hct,Nat.mul_one] at h
  split at h
  ·rename_i hl
   obtain⟨xs,hm,hx⟩:=Option.map_eq_some_iff.1 h
   have hxs:xs.map (·.1)=zs.map fun z=>(DataW.lit (.string z):DataW H):=by
    have:=congrArg Prod.fst hx
    simpa[J7] using this
   have hxl:xs.length=n:=by simpa using mapM_length hm
   have hzl:zs.length=n:=by
    have:=congrArg List.length hxs
    simp at this
    omega
   apply List.ext_getElem?
   intro i
   by_cases hi:i<n
   ·obtain⟨b,hb,hf⟩:=mapM_at hm i i (by simp[hi])
    obtain⟨z,hc,rfl,_⟩:=DataW.trod_string he hf
    have h1:cs[i]?=some (.string z):=by
     have:=congrArg (·[0]?) hc
     simpa[List.getElem?_take,List.getElem?_drop] using this
    have h2:(xs.map (·.1))[i]?=some (DataW.lit (.string z.data.toList):DataW H):=by simp[hb]
    rw[hxs] at h2
    simp only[List.getElem?_map,Option.map_eq_some_iff,DataW.lit.injEq,Lit.string.injEq] at h2
    obtain⟨z',hz',rfl⟩:=h2
    simp[h1,hz',str]
   ·rw[List.getElem?_eq_none (by omega),List.getElem?_eq_none (by simp;omega)]
  ·cases h
def levZ:List Int:=[0,7,7,6,4,4,5,5,5,3,3,2,1,0]
def sgnZ:List (List UInt8):=[[],[],[],[],[43],[45],[42],[47],[37],[60],[61],[],[97,110,100],[111,114]]
theorem jae:(Rows.laid_ephemeris_rule_levels:DataW Unit)=Lib.tabData .i64 levZ:=by kernel_rfl
theorem jal:(Rows.laid_ephemeris_rule_signs:DataW Unit)=J7 sgnZ:=by kernel_rfl
theorem gLev:Tryz.prog.globalNamed "ephemeris/rule.levels" = some 5:=by kernel_rfl
theorem jdt:(Tryz.prog.globals[5]?).map (·.type)=some 258:=by kernel_rfl
theorem gSgn:Tryz.prog.globalNamed "ephemeris/rule.signs" = some 4:=by kernel_rfl
theorem jbQ:(Tryz.prog.globals[4]?).map (·.type)=some 257:=by kernel_rfl
theorem jfj {W:World} {rest:List (String×DataW Unit)} (h:laidMet Tryz.prog (("ephemeris/rule.levels",Rows.laid_ephemeris_rule_levels)::rest) W):Lvs W:=by
 rw[jae] at h
 have ht:=Lib.tabIs_of_head gLev jdt Tryz.underlying258 Tryz.underlying3 (by kernel_rfl) (by kernel_rfl) h
 intro k hk
 have:=ht.cell gLev k hk
 rw[this]
 have h2:∀k,k<14→levZ.getD k 0=(lvN k:Int):=by decide
 rw[h2 k hk]
theorem jfI {W:World} {rest:List (String×DataW Unit)} (h:laidMet Tryz.prog (("ephemeris/rule.signs",Rows.laid_ephemeris_rule_signs)::rest) W):Sgs W:=by
 rw[jal] at h
 obtain⟨ps,⟨g',t',cs,fuel,p,q,hg',ht',hvar,hd,_,_⟩,_⟩:=h
 obtain rfl:=Option.some.inj (gSgn.symm.trans hg')
 obtain rfl:=Option.some.inj (jbQ.symm.trans ht')
 have hcs:=Qt Tryz.underlying257 Tryz.underlying9 (by kernel_rfl) (by kernel_rfl) hd
 intro k hk
 have:=World.var?_cell gSgn hvar k
 rw[this]
 have h2:∀k:Nat,k<14→sgnZ[k]?=some (sgn (k:Int)):=by decide
 have h3:cs.toList[k]?=some (.string (str (sgn (k:Int)))):=by rw[hcs,List.getElem?_map,h2 k hk];rfl
 simpa using h3
end
section
open Go.RowKit
theorem jct (k:Int):∀b∈sgn k,b≠10:=by
 unfold sgn
 repeat' split
 all_goals decide
theorem jao (L:Nat) (k:Int) (s:List UInt8) (h:∀b∈s,b≠10):∀b∈kF L (k,s),b≠10:=by
 intro b hb
 unfold kF at hb
 split at hb
 ·simp only[List.mem_cons,List.mem_append,List.not_mem_nil,or_false] at hb
  rcases hb with rfl|hb|rfl
  ·decide
  ·exact h b hb
  ·decide
 ·exact h b hb
theorem jbI {t:RE} (h:ReOk t):∀b∈shB t,b≠10:=by
 induction h with
 | @mk k n A c ks node kids ih =>
  have hT:∀x∈ks,∀L,∀b∈shT L x,b≠10:=fun x hx L=>jao L _ _ (ih x hx)
  intro b hb
  rcases JY node with⟨rfl,rfl⟩|⟨rfl,rfl⟩|⟨rfl,a,rfl⟩|⟨rfl,a,rfl⟩|⟨hk,a,c2,rfl⟩
  ·rw[ZQ] at hb
   exact xQ _ b hb
  ·rw[Zl] at hb
   revert b
   decide
  ·rw[ZO] at hb
   rcases List.mem_cons.1 hb with rfl|hb
   ·decide
   ·exact hT a (by simp) _ b hb
  ·rw[Zs] at hb
   rcases List.mem_append.1 hb with hb|hb
   ·exact(show ∀b∈([110,111,116,32]:List UInt8),b≠10 by decide) b hb
   ·exact hT a (by simp) _ b hb
  ·rw[Zw k n A c a c2 hk] at hb
   rcases List.mem_append.1 hb with hb|hb
   ·exact hT a (by simp) _ b hb
   rcases List.mem_cons.1 hb with rfl|hb
   ·decide
   rcases List.mem_append.1 hb with hb|hb
   ·exact jct k b hb
   rcases List.mem_cons.1 hb with rfl|hb
   ·decide
   ·exact hT c2 (by simp) _ b hb
theorem kj {s:ByteArray} (h:qo s):(∀b∈s.data.toList,qk b=true)∧s.data.toList≠[]:=by
 have h1:=h.1
 have h2:=h.2.2.2.2.2.2
 refine⟨fun b hb=>?_,fun e=>?_⟩
 ·obtain⟨i,hi,rfl⟩:=List.getElem_of_mem hb
  have hi':i<s.size:=by rw[Array.length_toList] at hi;exact hi
  have h3:=h2 i hi'
  rw[Array.getElem_toList]
  have e:s.data[i]'(hi')=s[i]:=rfl
  rw[e]
  unfold qk
  rw[decide_eq_true h3.1,decide_eq_true h3.2]
  rfl
 ·have:s.data.toList.length=s.size:=Array.length_toList
  rw[e] at this
  simp at this
  omega
theorem rtok {t:Tr} (h:TrOk t):RTOk (vs t) where
 nm:=(kj h.hd.1).1
 nn:=(kj h.hd.1).2
 e1:=by have:=h.hd.2.1;show -9999999999≤t.ep;omega
 e2:=by have:=h.hd.2.1;show t.ep≤9999999999;omega
 c1:=by have:=h.hd.2.2;show -9999999999≤t.cy;omega
 c2:=by have:=h.hd.2.2;show t.cy≤9999999999;omega
 lt:=fun b hb=>by
  rcases List.mem_append.1 (show b∈[108,101,97,112,32]++shB t.ex from hb) with hb|hb
  ·exact(show ∀b∈([108,101,97,112,32]:List UInt8),b≠10 by decide) b hb
  ·exact jbI h.ex.1 b hb
 ml:=h.mo.n2
 mo:=fun i hi=>by
  have hm:=h.mo.each i hi
  have:=hm.sh
  have:=hm.lo
  refine⟨(kj hm.nm).1,(kj hm.nm).2,?_,?_,?_,?_⟩<;>(show _≤_)<;>simp only[vs]<;>omega
theorem Ky {e:RE} (h:ReOk e):qD ([108,101,97,112,32]++shB e)=[108,101,97,112]::(prB e++[]):=by
 have e1:[108,101,97,112,32]++shB e=[108,101,97,112]++(32::shB e):=rfl
 rw[e1,zG _ _ (by decide) (by decide) (yY 32 _ (by decide) (by decide)),vr]
 have:=jeD e h [] kB
 rw[List.append_nil] at this
 rw[this]
 rfl
theorem ZR (t:Tr) (h:TrOk t) (hl:(zS t).length≤4000) (w:World) (hs:Sgs w) (hv:Lvs w) (hsh:Shp w) :
  Calls Tryz.prog 82 #[.string (str (zS t))] w (PrsN (vs t) t.ex w):=by
 rw[Yo] at hl ⊢
 refine jaR (vs t) (rtok h) t.ex (prB t.ex++[]) (Ky h.ex.1) hl ⟨by show qo (str t.nm.data.toList);rw[vW];exact h.hd.1,h.hd.2⟩ h.ex h.mo w hs hv hsh fun g W S hS hr=>?_
 exact Kt g S hS t.ex h.ex.1 h.ex.3 [] (jbk 0) W hr
theorem jeN {t u:Tr} (h:TrOk t) (hr:ReadAs (vs t) t.ex u):TrOk u∧zS u=zS t:=by
 have e1:u.nm=t.nm:=by rw[hr.nm];exact vW t.nm
 have e2:u.ep=t.ep:=hr.ep
 have e3:u.cy=t.cy:=hr.cy
 have e4:u.mo=t.mo:=hr.mo
 have ok:ReOk u.ex:=hr.ex.ok h.ex.1
 refine⟨⟨by rw[e1,e2,e3];exact h.hd,⟨ok,by rw[hr.ex.sz];exact h.ex.2,by rw[hr.ex.ht];exact h.ex.3⟩,by rw[e4];exact h.mo⟩,?_⟩
 have e5:shB u.ex=shB t.ex:=by rw[←QL u.ex ok,←QL t.ex h.ex.1,hr.ex]
 unfold zS jcy
 rw[e1,e2,e3,e4,e5]
end
end Go.Proofs.YtkkjaaognefeiaaGreatDoor
