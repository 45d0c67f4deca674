/- Seq2, PcJoin, CatPlain -/
import Derived.Shelf.RegionOpen
import Derived.OwnWalkIn
import Derived.TacticsInMore
import Derived.LoopNIn
import Derived.LoopIn
import Derived.Test.YtkkjaaognefeiaaGreatDoorGSeq1
import Derived.Test.YtkkjaaognefeiaaGreatDoorGCatData
set_option maxRecDepth 100000
set_option maxHeartbeats 16000000
set_option linter.unusedVariables false
set_option linter.unusedSimpArgs false
namespace Go.Proofs.YtkkjaaognefeiaaGreatDoor
section
open Go Go.RowKit Go.Shelf
attribute [local go_sem] Oper.semAt_some
inductive Pieces (sep:List UInt8):List UInt8→List (List UInt8)→Prop
 | last (s:List UInt8):Lib.index s sep = -1→Pieces sep s [s]
 | cut (s:List UInt8) (i:Nat) (r:List (List UInt8)):Lib.index s sep=(i:Int)→i+sep.length≤s.length→Pieces sep (s.drop (i+sep.length)) r→Pieces sep s (s.take i::r)
def jeK (w:World) (b:Nat):Nat:=match w.cell? ⟨b,0,none⟩ with|some (.string s)=>s.size|_=>0
theorem V1 {w:World} {b:Nat} {s:ByteArray} (h:w.cell? ⟨b,0,none⟩=some (.string s)):jeK w b=s.size:=by unfold jeK;rw[h]
theorem Kr (n l bs bp bz:Nat) (hn:1≤n) (sep:ByteArray) (h1:1≤sep.size) (h2:sep.size≤1000) (s:List UInt8) (hs:s.length≤1000000) (xs:List (List UInt8)) (hp:Pieces sep.data.toList s xs)
  (J Jx:List (List UInt8)→World→Prop) (hJ:∀s A B,J s A→Only (fun k=>k=bs) A B→J s B) (hJx:∀s A B,Jx s A→Only (fun k=>k=bs) A B→Jx s B)
  (hY:∀pre x rest W1,xs=pre++x::rest→J pre W1→YieldAt Fence.wide (n-1) Tryz.prog l #[.string (str x)] W1 fun e W' =>
   (e = .returned (.bool true)∧J (pre++[x]) W'∧Only (fun k=>¬(k=bs∨k=bp∨k=bz∨k=1)) W1 W')∨(e = .returned (.bool false)∧Jx (pre++[x]) W'))
  (W:World) (hbs:Box W bs 9 #[.string (str s)]) (hbp:Box W bp 9 #[.string sep]) (hbz:Box W bz 3 #[.int .i64 0]) (hsp:bs≠bp) (hsz:bs≠bz) (hsh:Shp W) (hsm:bs≠1) (h0:J [] W) :
  CallsIn Fence.wide n Tryz.prog 92 #[.func (.yield l) #[] #[],.pointer (some ⟨bp,0,none⟩),.pointer (some ⟨bs,0,none⟩),.pointer (some ⟨bz,0,none⟩)] W fun e W'=>(∃v,e = .returned v)∧(J xs W'∨∃pre,pre <+: xs∧Jx pre W'):=by
 have cp:=hbp.cell 0
 have lp:=hbp.lt
 refine callsIn_of_wp Tryz.func92 rfl trivial ?_ rfl
 simp only[Tryz.ntmps92,List.size_toArray,List.length_cons,List.length_nil,Nat.reduceAdd,Nat.reduceSub,Array.replicate_succ,Array.replicate_zero,List.push_toArray,List.append_toArray,List.nil_append,List.cons_append]
 have t0:decide ((sep.size:Int)=0)=false:=decide_eq_false (by omega)
 have t1:((sep.size:Int)==0)=false:=by rw[beq_eq_false_iff_ne];omega
 gi_wp2
 gi_loopw [7,8] (fun _ _ wr=>∃(pre rest:List (List UInt8)) (cur:List UInt8),xs=pre++rest∧Hid (Pieces sep.data.toList cur rest)∧cur.length≤1000000∧Hid (Box wr bs 9 #[.string (str cur)])∧Hid (Box wr bp 9 #[.string sep])∧Hid (Box wr bz 3 #[.int .i64 0])∧Hid (Shp wr)∧Hid (J pre wr))
  (fun _ _ wr=>jeK wr bs)
 case atStart=>exact⟨[],xs,s,rfl,hD hp,hs,hD hbs,hD hbp,hD hbz,hD hsh,hD h0⟩
 case round =>
  clear hbs hbp hbz hsh h0 cp lp
  obtain⟨pre,rest,cur,hxs,hpc,hcl,hbs,hbp,hbz,hsh,hj⟩:=hrel
  have cs:=hbs.out.cell 0
  have cp:=hbp.out.cell 0
  have cz:=hbz.out.cell 0
  have ls:=hbs.out.lt
  have lp:=hbp.out.lt
  have lz:=hbz.out.lt
  have fs:=hbs.out.free 0
  have hcs:(str cur).size=cur.length:=jt cur
  have hsep:sep.data.toList.length=sep.size:=Array.length_toList
  have hwm:jeK wr bs=cur.length:=by rw[V1 cs,hcs]
  obtain⟨m,hm⟩:=hsh.out
  have HI:=hD (strings_Index (str cur) sep m wr (by omega) hm)
  rw[qC] at HI
  cases hpc.out with
  | last _ hix =>
   rw[hix] at HI
   have hxs':xs=pre++cur::[]:=hxs
   obtain⟨fn,tmps,assign,body,hy,hR⟩:=hY pre cur [] wr hxs' hj.out
   gi_wp2_with (refine⟨trivial,?_⟩;gi_at_call 94;refine(callsIn_wide.2 HI.out).mono ?_;rintro e w' ⟨rfl,rfl⟩)
   refine hR.mono ?_
   rintro e W3 (⟨rfl,hJ3,hk3⟩|⟨rfl,hJx3⟩)
   ·gi_wp2
    go_end0
    exact⟨⟨_,rfl⟩,.inl (by rw[hxs'];exact hJ3)⟩
   ·gi_wp2
    go_end0
    exact⟨⟨_,rfl⟩,.inr ⟨_,by rw[hxs'];exact List.prefix_refl _,hJx3⟩⟩
  | cut _ i r hix hil hpr =>
   rw[hix] at HI
   rw[hsep] at hil hpr
   have HPR:=hD hpr
   have e1:(str cur).extract 0 i=str (cur.take i):=by rw[km,List.drop_zero]
   have e2:(str cur).extract (i+sep.size) cur.length=str (cur.drop (i+sep.size)):=by rw[km,List.take_length]
   have hxs':xs=pre++cur.take i::r:=hxs
   obtain⟨fn,tmps,assign,body,hy,hR⟩:=hY pre (cur.take i) r wr hxs' hj.out
   clear hpr hix hxs
   gi_wp2_with (refine⟨trivial,?_⟩;gi_at_call 94;refine(callsIn_wide.2 HI.out).mono ?_;rintro e w' ⟨rfl,rfl⟩)
   refine hR.mono ?_
   rintro e W3 (⟨rfl,hJ3,hk3⟩|⟨rfl,hJx3⟩)
   ·have qs:Box W3 bs 9 #[.string (str cur)]:=hk3.box hbs.out (fun h=>h (.inl rfl))
    have qp:Hid (Box W3 bp 9 #[.string sep]):=hk3.box hbp.out (fun h=>h (.inr (.inl rfl)))
    have qz:Hid (Box W3 bz 3 #[.int .i64 0]):=hk3.box hbz.out (fun h=>h (.inr (.inr (.inl rfl))))
    have qm:Hid (Shp W3):=⟨m,(World.cell?_of_block (hk3.block _ (block_lt_of_cell hm) (fun h=>h (.inr (.inr (.inr rfl)))))).trans hm⟩
    have HJ3:=hD hJ3
    clear hbs hbp hbz hsh hj cs cp cz ls lp lz fs hm HI hR hy hJ3 hk3
    have cs:=qs.cell 0
    have cp:=qp.out.cell 0
    have ls:=qs.lt
    have lp:=qp.out.lt
    have fs:=qs.free 0
    have QS:=hD qs
    clear qs
    gi_wp2
    go_roundw
    case rel =>
     refine⟨pre++[cur.take i],r,cur.drop (i+sep.size),by rw[hxs'];simp,HPR,by rw[List.length_drop];omega,hD (QS.out.set_ 0 _),hD (qp.out.far (p:=⟨bs,0,none⟩) (fun e=>hsp e.symm) _),hD (qz.out.far (p:=⟨bs,0,none⟩) (fun e=>hsz e.symm) _),hD ?_,hD (hJ _ _ _ HJ3.out (jL _ _ _ _ rfl))⟩
     obtain⟨m',hm'⟩:=qm.out
     exact⟨m',(World.cell?_of_block (Below.heap_setCell _ _ _ _ (fun e=>hsm e.symm))).trans hm'⟩
    case measure =>
     rw[V1 ((QS.out.set_ 0 _).cell 0)]
     show(str (cur.drop (i+sep.size))).size<_
     rw[jt,List.length_drop,hwm]
     omega
   ·gi_wp2
    refine bodyPost_ret (results_none rfl _ _ _) rfl ?_
    exact⟨⟨_,rfl⟩,.inr ⟨_,by rw[hxs'];exact⟨r,by simp⟩,hJx3⟩⟩
abbrev zc (g:Nat) (k:Nat):Prop:=k=g∨k=g+1∨k=g+2∨k=1
theorem yi (n g:Nat) (hn:1≤n) (sep:ByteArray) (h1:1≤sep.size) (h2:sep.size≤1000) (s:List UInt8) (hs:s.length≤1000000) (xs:List (List UInt8)) (hp:Pieces sep.data.toList s xs)
  (W:World) (hbs:Box W g 9 #[.string (str s)]) (hbp:Box W (g+1) 9 #[.string sep]) (hbz:Box W (g+2) 3 #[.int .i64 0]) (hsh:Shp W) (hsm:g≠1) :
  SeqC Fence.wide n Tryz.prog 92 #[.pointer (some ⟨g+1,0,none⟩),.pointer (some ⟨g,0,none⟩),.pointer (some ⟨g+2,0,none⟩)] (fun x=>.string (str x)) (fun k=>k=g) (zc g) xs W :=
 fun l J Jx hJ hJx hY h0=>Kr n l g (g+1) (g+2) hn sep h1 h2 s hs xs hp J Jx hJ hJx hY W hbs hbp hbz (by omega) (by omega) hsh hsm h0
abbrev JS (w:World) (s sep:ByteArray):World:=((w.alloc (.cells #[.string s] 9)).alloc (.cells #[.string sep] 9)).alloc (.cells #[.int .i64 0] 3)
abbrev Kq (g:Nat):Value:=.func (.func 92) #[] #[.pointer (some ⟨g+1,0,none⟩),.pointer (some ⟨g,0,none⟩),.pointer (some ⟨g+2,0,none⟩)]
theorem Qu (s sep:ByteArray) (w:World):Calls Tryz.prog 68 #[.string s,.string sep,.int .i64 0] w fun e w'=>e = .returned (Kq w.heap.size)∧w'=JS w s sep:=by
 go_enter Tryz.func68,Tryz.ntmps68
 go_wp2_with fail
 go_ret
 exact⟨rfl,rfl⟩
theorem zY (s sep:ByteArray) (w:World):Calls Tryz.prog 50 #[.string s,.string sep] w fun e w'=>e = .returned (Kq w.heap.size)∧w'=JS w s sep:=by
 go_enter Tryz.func50,Tryz.ntmps50
 go_wp2_with (go_at_call 68;refine(Qu _ _ _).mono ?_;rintro e w' ⟨rfl,rfl⟩)
 go_ret
 exact⟨rfl,rfl⟩
theorem yk (w:World) (s sep:ByteArray):Box (JS w s sep) w.heap.size 9 #[.string s]∧Box (JS w s sep) (w.heap.size+1) 9 #[.string sep]∧Box (JS w s sep) (w.heap.size+2) 3 #[.int .i64 0]∧Below w.heap.size w (JS w s sep)∧(JS w s sep).heap.size=w.heap.size+3:=by
 refine⟨((Box.new w _ _).alloc _).alloc _,?_,?_,jJ _ _ _ _,by simp⟩
 ·have:=(Box.new (w.alloc (.cells #[.string s] 9)) 9 #[.string sep]).alloc (.cells #[.int .i64 0] 3)
  rwa[World.size_alloc] at this
 ·have:=Box.new ((w.alloc (.cells #[.string s] 9)).alloc (.cells #[.string sep] 9)) 3 #[.int .i64 0]
  rwa[World.size_alloc,World.size_alloc] at this
end
section
open Go.Lib
theorem QE (c:UInt8) (u:List UInt8):∀(l:List UInt8),(∀b∈l,b≠c)→index l (c::u) = -1
 | [],_=>rfl
 | b::l,h=>by
  have hb:(c==b)=false:=by rw[beq_eq_false_iff_ne];exact fun e=>h b (List.mem_cons_self ..) e.symm
  have ih:=QE c u l fun x hx=>h x (List.mem_cons_of_mem _ hx)
  simp[index,List.isPrefixOf,hb,ih]
theorem Q7 (c:UInt8) (u r:List UInt8):∀(l:List UInt8),(∀b∈l,b≠c)→index (l++(c::u++r)) (c::u)=(l.length:Int)
 | [],_=>by
  have:(c::u).isPrefixOf (c::(u++r))=true:=by simp[List.isPrefixOf]
  show index (c::(u++r)) (c::u)=0
  rw[index,if_pos this]
 | b::l,h=>by
  have hb:(c==b)=false:=by rw[beq_eq_false_iff_ne];exact fun e=>h b (List.mem_cons_self ..) e.symm
  have ih:=Q7 c u r l fun x hx=>h x (List.mem_cons_of_mem _ hx)
  have hne:¬((l.length:Int) = -1):=by omega
  show index (b::(l++(c::u++r))) (c::u)=_
  have hp:(c::u).isPrefixOf (b::(l++(c::u++r)))=false:=by simp[List.isPrefixOf,hb]
  rw[index,hp,ih]
  simp[hne]
def zU (s:List UInt8):List UInt8→List (List UInt8)→List UInt8
 | a,[]=>a
 | a,b::l=>a++(s++zU s b l)
theorem yJ (c:UInt8) (u:List UInt8):∀(l:List (List UInt8)) (a:List UInt8),(∀w∈a::l,∀b∈w,b≠c)→Pieces (c::u) (zU (c::u) a l) (a::l)
 | [],a,h=>.last a (QE c u a (h a (List.mem_cons_self ..)))
 | b::l,a,h=>by
  have ha:=h a (List.mem_cons_self ..)
  have ih:=yJ c u l b fun w hw=>h w (List.mem_cons_of_mem _ hw)
  have e:zU (c::u) a (b::l)=a++((c::u)++zU (c::u) b l):=rfl
  have hd:(a++((c::u)++zU (c::u) b l)).drop (a.length+(c::u).length)=zU (c::u) b l:=by
   rw[←List.append_assoc,List.drop_append_of_le_length (by simp)]
   simp
  rw[e]
  have h2:=Pieces.cut (sep:=c::u) (a++((c::u)++zU (c::u) b l)) a.length (b::l) (Q7 c u (zU (c::u) b l) a ha) (by simp) (by rw[hd];exact ih)
  rw[List.take_left] at h2
  exact h2
def yj:List (List UInt8):=jN.map CatRow.line
def vF:List UInt8:=zU [10] (yj.headD []) yj.tail
theorem jb8:yj.length=40:=rfl
theorem X2 (l:List (List UInt8)) (c:UInt8) (h:l.all (fun w=>w.all (fun b=>b != c))=true):∀w∈l,∀b∈w,b≠c:=fun w hw b hb=>by
 have:=List.all_eq_true.1 h w hw
 have:=List.all_eq_true.1 this b hb
 simpa using this
theorem jaz:∀w∈yj,∀b∈w,b≠10:=X2 _ _ (by decide +kernel)
theorem yn:Pieces [10] vF yj:=yJ 10 [] yj.tail (yj.headD []) jaz
theorem kE:vF.length≤4000:=by decide +kernel
theorem Yz (l r:List UInt8) (h:List.append l r=vF):(⟨(List.append l r).toArray⟩:ByteArray)=str vF:=by rw[h];rfl
theorem nm_no (r:CatRow) (hr:r∈jN):∀b∈r.nm,b≠32:=by
 have h:∀w∈jN.map CatRow.nm,∀b∈w,b≠32:=X2 _ _ (by decide +kernel)
 exact h r.nm (List.mem_map_of_mem hr)
theorem Jw (r:CatRow) (hr:r∈jN):cut r.line [32]=(r.nm,r.ep++32::(r.cy++32::(r.lt++32::r.xp)),true):=jbL 32 r.nm _ (nm_no r hr)
theorem kc (r:CatRow) (hr:r∈jN):r.line.length≤300:=by
 have h:jN.all (fun r=>decide (r.line.length≤300))=true:=by decide +kernel
 simpa using List.all_eq_true.1 h r hr
end
end Go.Proofs.YtkkjaaognefeiaaGreatDoor
