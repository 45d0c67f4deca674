/- Cat1, Cat2, Cat3, Cat4, Cat5, Cat6, Cat7, Cat10 -/
import Derived.Laws.BytesString
import Derived.Test.YtkkjaaognefeiaaGreatDoorGSeq2
import Derived.Test.YtkkjaaognefeiaaGreatDoorGParen1
import Derived.Test.YtkkjaaognefeiaaGreatDoorGCatOk
import Derived.Test.YtkkjaaognefeiaaGreatDoorGAr1
set_option maxRecDepth 100000
set_option maxHeartbeats 16000000
set_option linter.unusedVariables false
set_option linter.unusedSimpArgs false
namespace Go.Proofs.YtkkjaaognefeiaaGreatDoor
section
open Go Go.RowKit Go.Shelf
attribute [local go_sem] Oper.semAt_some
theorem Only.own {p:Nat→Prop} {A B:World} {base:Nat} {e:TypeId} {s n:Nat} {v:Value} {xs:List Value} (h:Only p A B) (ho:A.ownsRow base e s v n xs) (hp:∀k,base≤k→¬p k):B.ownsRow base e s v n xs :=
 jx ho fun b hv=>h.block b (qq ho b hv).2 (hp b (qq ho b hv).1)
theorem Shp.only {p:Nat→Prop} {A B:World} (h:Shp A) (ho:Only p A B) (hp:¬p 1):Shp B:=by
 obtain⟨m,hm⟩:=h
 exact⟨m,(World.cell?_of_block (ho.block _ (block_lt_of_cell hm) hp)).trans hm⟩
theorem Shp.lt {w:World} (h:Shp w):1<w.heap.size:=by
 obtain⟨m,hm⟩:=h
 exact block_lt_of_cell hm
theorem yb:(Tryz.prog.info? 9).map (fun i=>(i.zero,i.size,i.bytes))=some (some (.string ⟨#[]⟩),1,16):=by kernel_rfl
theorem qj {p:Nat→Prop} {A B:World} (n:Nat) (h:Only p A B) (hp:∀k,k<n→¬p k) (hn:n≤A.heap.size):Below n A B:=⟨h.os,h.tape,h.output,h.size,fun k hk=>h.block k (by omega) (hp k hk)⟩
def nmV (r:List UInt8):Value:=.string (str (Lib.cut r [32]).1)
def ZH (pre:List (List UInt8)):List Value:=pre.map nmV
theorem Kj (w:World) (h:Shp w):Calls Tryz.prog 30 #[] w fun e w'=>∃v,e = .returned v∧w'.ownsRow w.heap.size 9 1 v 40 (ZH yj)∧Below w.heap.size w w':=by
 refine(callsIn_wide (n:=3)).1 ?_
 refine callsIn_of_wp_marks Tryz.func30 rfl trivial ?_ rfl
 simp only[Tryz.ntmps30,List.size_toArray,List.length_cons,List.length_nil,Nat.reduceAdd,Nat.reduceSub,Array.replicate_succ,Array.replicate_zero,List.push_toArray,List.append_toArray,List.nil_append,List.cons_append]
 rw[Yz]
 case h=>kernel_rfl
 have hT:=kE
 have hP:=Lib.hid yn
 have HS:=Lib.hid (fun s sep W=>zY s sep W)
 generalize vF=T at *
 gi_wp2_with (refine⟨trivial,?_⟩;gi_at_call 50;refine(callsIn_wide.2 (HS.out _ _ _)).mono ?_;rintro e w' ⟨rfl,rfl⟩)
 have hB0:=Lib.hid (ja w (Obj.cells #[.slice none 0 0] 25))
 have hO0:=Box.new w 25 #[.slice none 0 0]
 have hx:=yk (w.alloc (Obj.cells #[.slice none 0 0] 25)) (str T) ⟨#[10]⟩
 rw[World.size_alloc] at hx
 obtain⟨x1,x2,x3,x4,x5⟩:=hx
 have hO:=Lib.hid (hO0.belowB x4 (by omega))
 have hB:=Lib.hid (hB0.out.trans (x4.mono (by omega)))
 have hS:=Lib.hid (h.next hB.out)
 have hm:=h.lt
 clear x4 hB0 hO0 HS h
 generalize JS (w.alloc (Obj.cells #[.slice none 0 0] 25)) (str T) ⟨#[10]⟩=W0 at *
 generalize hg:w.heap.size=g at *
 obtain⟨i0,hi,hz0,hz1,hz2⟩:=info_parts yb
 refine qO (F:=Fence.wide) rfl (by omega) (gf:=92) (lb:=#[.pointer (some ⟨g+1+1,0,none⟩),.pointer (some ⟨g+1,0,none⟩),.pointer (some ⟨g+1+2,0,none⟩)]) rfl trivial (enters_of Tryz.func92 (by kernel_rfl) rfl)
  (enc:=fun x=>.string (str x)) (own:=fun k=>k=g+1) (kp:=zc (g+1)) (xs:=yj)
  (fun W hW=>yi _ (g+1) (by omega) ⟨#[10]⟩ (by decide) (by decide) T (by omega) yj hP.out W (hW.box x1 id) (hW.box x2 id) (hW.box x3 id) (hS.out.only hW id) (by omega)) (fun k hk=>.inl hk)
  (fun k hk=>by rcases hk with h|h|h|h<;>omega) rfl
  (fun pre W=>∃v,Box W g 25 #[v]∧W.ownsRow (g+6) 9 1 v pre.length (ZH pre)∧Below g w W∧Shp W)
  (fun _ _ _=>False)
  ?hI (fun _ _ _ _ h _=>h) ⟨_,hO.out,World.ownsRow_nil _ _ _ _,hB.out,hS.out⟩
  (fun x=>{tmps:=#[.slice none 0 0,.pointer (some ⟨g,0,none⟩),.string (str x),undef,undef,undef,Kq (g+1),.string (str x),undef,undef,undef,undef,undef,undef,undef,undef,undef,undef,undef],defers:=[]}) ?assign ?body ?done ?stop
 case hI =>
  rintro pre A B ⟨v,h1,h2,h3,h4⟩ hAB
  have hAs:=h1.lt
  refine⟨v,hAB.box h1 (by omega),hAB.own h2 (fun k hk=>by omega),h3.trans (qj _ hAB (fun k hk=>by omega) (by omega)),h4.only hAB (by omega)⟩
 case assign =>
  intro l x W K hK
  gi_wp2
  exact hK
 case body =>
  rintro l pre x rest W hxs hlt ⟨v,h1,h2,h3,h4⟩
  have hmem:x∈yj:=by rw[hxs];simp
  have hxl:x.length≤300:=by
   obtain⟨r,hr,rfl⟩:=List.mem_map.1 hmem
   exact kc r hr
  have hpl:pre.length+1≤40:=by
   have:=congrArg List.length hxs
   rw[jb8] at this
   simp at this
   omega
  have HC:=Lib.hid (ka (str x) 32 W (by rw[jt];omega) h4)
  rw[qC] at HC
  have hv:=h1.cell 0
  have hns:nmV x = .string (str (Lib.cut x [32]).1):=rfl
  generalize str (Lib.cut x [32]).1=s1 at *
  generalize str (Lib.cut x [32]).2.1=s2 at *
  generalize (Lib.cut x [32]).2.2=s3 at *
  have hcat:ZH (pre++[x])=ZH pre++[.string s1]:=by unfold ZH;rw[List.map_append,List.map_cons,List.map_nil,hns]
  have HH3:=Lib.hid h3
  have HH4:=Lib.hid h4
  clear h3 h4
  gi_wp2_with (first
   | (refine⟨trivial,?_⟩;gi_at_call 51;refine(CallsIn.inRound l (callsIn_wide.2 HC.out)).mono ?_;rintro e w1 ⟨rfl,hb⟩;have q1:=h1.below hb;have q2:=jn h2 hb;have hsz:=hb.size;have HB1:=Lib.hid hb;have hv1:=q1.cell 0;clear h1 h2 hb hv HC)
   | (gi_at_builtin;refine wpListIn_append_own _ rfl _ _ 25 rfl (g+6) 9 i0 (.string ⟨#[]⟩) 1 16 Tryz.underlying25 hi hz0 hz1 hz2 rfl (by decide) _ _ _ rfl (q2.alloc _) ⟨w1.heap.size,0,none⟩ 1 1 [.string s1] rfl rfl (cell_one_new _ _ _) (by simp[Value.oneCell']) (by unfold maxLen;omega) (by omega) (by simp;omega) ?_;intro v' w2 hown' hgrow _;obtain⟨g',cap',rfl⟩:=ownsRow_succ hown';obtain⟨r1,r2,r3,r4,r5⟩:=Boxed.appended (show Boxed w1 g 25 v from q1) (by decide) (jM (base':=g) q2 (by omega)) (by omega) (by omega) (jM (base':=g) hown' (by omega)) hgrow;have hc2:=r1.cell;have hf2:=r1.frozen))
  have hq:∀k,g+6≤k→¬(zc (g+1) k∨k=W0.heap.size∨k=W0.heap.size+1):=fun k hk=>by omega
  have HO:=(jH (p:=fun k=>¬(zc (g+1) k∨k=W0.heap.size∨k=W0.heap.size+1)) HB1.out).trans ((yg w1 _).trans ((jz hgrow (fun k e=>hq k (qq q2 k e).1)).trans (jL w2 g 0 (.slice (some ⟨g',0,none⟩) (pre.length+1) cap') (by omega))))
  refine⟨HO,.slice (some ⟨g',0,none⟩) (pre.length+1) cap',r2,?_,(HH3.out.trans (HB1.out.mono (by omega))).trans r5,HH4.out.only HO (fun h=>h (.inl (.inr (.inr (.inr rfl)))))⟩
  rw[hcat,List.length_append]
  exact q7 hown' _ _ (show g<g+6 by omega)
 case done =>
  rintro W hlt ⟨v,h1,h2,h3,h4⟩ hK
  have hv:=h1.cell 0
  gi_wp2
  refine⟨by simp,.inl ⟨_,_,rfl,run_takeDeferred hK,?_⟩⟩
  have hl:=h1.lt
  exact⟨_,results_tmp rfl _ _ _,v,rfl,by rw[hg];exact jM (ownsRow_putObj h2 _ hK rfl) (by omega),by rw[hg];exact h3.trans (qj _ (qG (p:=fun k=>k=W0.heap.size) W _ _ rfl) (fun k hk=>by omega) (by omega))⟩
 case stop=>exact fun c pre W _ _ h _=>h.elim
end
section
open Go Go.RowKit
def evB (L k:Nat):List UInt8:=[109,97+UInt8.ofNat k,32,48+UInt8.ofNat (L/10),48+UInt8.ofNat (L%10)]
def evL (L n:Nat):List (List UInt8):=(List.range n).map (evB L)
def evV (L n:Nat):List Value:=(evL L n).map fun s=>.string (str s)
theorem ja7 (L n:Nat):evV L (n+1)=evV L n++[.string (str (evB L n))]:=by simp[evV,evL,List.range_succ]
theorem jbe (s:List UInt8):∀(l:List (List UInt8)) (a:List UInt8),Lib.join (a::l) s=zU s a l
 | [],a=>by simp[Lib.join,List.intercalate,List.intersperse,zU]
 | b::l,a=>by
  have ih:=jbe s l b
  rw[zU,←ih]
  unfold Lib.join
  simp[List.intercalate,List.intersperse]
theorem Q3 (s:List UInt8):∀(l:List (List UInt8)) (a:List UInt8),(∀x∈a::l,x.length≤5)→s.length≤2→(zU s a l).length≤7*(l.length+1)
 | [],a,h,hs=>by have:=h a (by simp);simp[zU];omega
 | b::l,a,h,hs=>by
  have h1:=h a (by simp)
  have ih:=Q3 s l b (fun x hx=>h x (List.mem_cons_of_mem _ hx)) hs
  rw[zU]
  simp only[List.length_append,List.length_cons]
  omega
theorem jcu (l:List (List UInt8)) (h:∀x∈l,x.length≤5):(Lib.join l [44,32]).length≤7*l.length:=by
 cases l with
 | nil=>simp[Lib.join,List.intercalate,List.intersperse]
 | cons a l=>rw[jbe];exact Q3 _ l a h (by decide)
theorem X0 (W:World) (xs:List Int):(convert 211 9 (.slice (some ⟨W.heap.size,0,none⟩) xs.length xs.length)).run Tryz.prog (W.alloc (.cells (xs.map (Value.int .u8)).toArray 5)) = .ok (.string ⟨(xs.map fun n=>UInt8.ofNat n.toNat).toArray⟩) (W.alloc (.cells (xs.map (Value.int .u8)).toArray 5)):=by
 rw[run_convert_bytes_string _ _ _ _ _ _ _ Tryz.underlying211 Tryz.underlying5 Tryz.underlying9]
 have hl:=run_loadCells_list (P:=Tryz.prog) (W.alloc (.cells (xs.map (Value.int .u8)).toArray 5)) ⟨W.heap.size,0,none⟩ (xs.map (Value.int .u8)) (fun j v hj=>by
  have h:=(Box.new W 5 (xs.map (Value.int .u8)).toArray).cell j
  have e:(⟨W.heap.size,0,none⟩:Addr).add j=⟨W.heap.size,j,none⟩:=by unfold Addr.add;split<;>simp_all
  rw[e,h,←hj]
  simp)
 simp only[List.length_map] at hl
 rw[run_bytesToString _ _ _ _ xs hl]
 congr 2
 have:∀(l:List Int) (s:ByteArray),l.foldl (fun r n=>r.push (UInt8.ofNat n.toNat)) s=⟨(s.data.toList++l.map fun n=>UInt8.ofNat n.toNat).toArray⟩:=by
  intro l
  induction l with
  | nil=>intro s;simp
  | cons x l ih=>intro s;rw[List.foldl_cons,ih];simp[ByteArray.push]
 rw[this]
 simp[ByteArray.empty,ByteArray.emptyWithCapacity]
 try rfl
theorem jb4 (W:World) (x:Int):(convert 211 9 (.slice (some ⟨W.heap.size,0,none⟩) 1 1)).run Tryz.prog (W.alloc (.cells #[.int .u8 x] 5)) = .ok (.string ⟨#[UInt8.ofNat x.toNat]⟩) (W.alloc (.cells #[.int .u8 x] 5)):=X0 W [x]
theorem jdb (W:World) (o:Obj) (x y:Int):(convert 211 9 (.slice (some ⟨W.heap.size+1,0,none⟩) 2 2)).run Tryz.prog ((W.alloc o).alloc (.cells #[.int .u8 x,.int .u8 y] 5)) = .ok (.string ⟨#[UInt8.ofNat x.toNat,UInt8.ofNat y.toNat]⟩) ((W.alloc o).alloc (.cells #[.int .u8 x,.int .u8 y] 5)):=by
 have h:=X0 (W.alloc o) [x,y]
 rw[World.size_alloc] at h
 exact h
theorem zQ (n L:Nat) (hn:n≤20) (hn1:1≤n) (hL:L≤99) (w:World):Calls Tryz.prog 151 #[.int .i64 (n:Int),.int .i64 (L:Int)] w fun e w'=>e = .returned (.string (str (Lib.join (evL L n) [44,32])))∧Below w.heap.size w w':=by
 obtain⟨i0,hi,hz0,hz1,hz2⟩:=info_parts yb
 have kc1:=jb4
 have kc2:=jdb
 go_enter Tryz.func151,Tryz.ntmps151
 go_wp2_with fail
 go_loopw [5,6,8] (fun v _ i wr=>∃k:Nat,k≤n∧i = .int .i64 (k:Int)∧wr.ownsRow w.heap.size 9 1 v k (evV L k)∧Below w.heap.size w wr) (fun _ _ i _=>n-(intOf i).toNat)
 case atStart=>exact⟨0,by omega,rfl,World.ownsRow_nil _ _ _ _,Below.refl _ _⟩
 case round =>
  obtain⟨k,hk,rfl,hown,hB⟩:=hrel
  by_cases hlt:k<n
  ·have t1:decide ((k:Int)<n)=true:=decide_eq_true (by omega)
   have hsz:=hB.size
   go_wp2_with (at_builtin;refine wpList_append_own _ rfl (.tmp 11) (.tmp 30) 25 rfl w.heap.size 9 i0 (.string ⟨#[]⟩) 1 16 Tryz.underlying25 hi hz0 hz1 hz2 rfl (by decide) u5 k _ rfl (((hown.alloc _).alloc _).alloc _) ⟨wr.heap.size+1+1,0,none⟩ 1 1 [.string (str (evB L k))] rfl rfl ?c1 ?c2 ?c3 ?c4 ?c5 ?_)
   case c1 =>
    have e:({data:=#[109]}++{data:=#[97+UInt8.ofNat k]}++{data:=#[32]}++{data:=#[48+UInt8.ofNat (L/10),48+UInt8.ofNat (L%10)]}:ByteArray)=str (evB L k):=by
     show str [109]++str [97+UInt8.ofNat k]++str [32]++str [48+UInt8.ofNat (L/10),48+UInt8.ofNat (L%10)]=_
     rw[jP,jP,jP]
     rfl
    rw[e]
    have h:=cell_one_new ((wr.alloc (Obj.cells #[.int .u8 (97+(k:Int))] 5)).alloc (Obj.cells #[.int .u8 (48+(L:Int)/10),.int .u8 (48+(L:Int)%10)] 5)) (.string (str (evB L k))) 9
    simp only[World.size_alloc] at h
    exact h
   case c2=>intro u hu;simp at hu;subst hu;rfl
   case c3=>unfold maxLen;omega
   case c4=>omega
   case c5=>simp only[World.size_alloc];omega
   intro v' w1 hown' hgrow _
   obtain⟨g',cap',rfl⟩:=ownsRow_succ hown'
   rw[←ja7] at hown'
   have hgl:∀b,u5.ownBlock=some b→w.heap.size≤b:=fun b hb=>(qq hown b hb).1
   have hB1:Below w.heap.size w w1:=hB.trans (((((Below.refl _ wr).alloc hsz _).alloc (by rw[World.size_alloc];omega) _).alloc (by simp only[World.size_alloc];omega) _).grown hgrow (by simp only[World.size_alloc];omega) hgl)
   clear hgrow hown hB
   go_wp2_with fail
   go_roundw
   case rel=>exact⟨k+1,by omega,by simp,hown',hB1⟩
   case measure=>simp[intOf];omega
  ·obtain rfl:k=n:=by omega
   have hjl:(Lib.join (evL L k) [44,32]).length≤1000:=by
    have h1:=jcu (evL L k) (fun x hx=>by obtain⟨i,_,rfl⟩:=List.mem_map.1 hx;exact Nat.le_refl 5)
    have h2:(evL L k).length=k:=by simp[evL]
    omega
   have HJ:Hid (Calls Tryz.prog 182 #[u5,.string ⟨#[44,32]⟩] wr fun e w'=>e = .returned (.string (str (Lib.join (evL L k) [44,32])))∧Below wr.heap.size wr w'):=by
    rcases hown.2 with⟨_,h0⟩|⟨gb,cap,cur,rfl,hb,hg,h1,h2,h3,h4⟩
    ·omega
    ·have hm:((evL L k).map str).map (·.data.toList)=evL L k:=by
      rw[List.map_map]
      have:((fun x:ByteArray=>x.data.toList)∘str)=id:=by funext l;exact qC l
      rw[this,List.map_id]
     have hlen:((evL L k).map str).length=k:=by simp[evL]
     have h:=strings_Join gb 0 cap ((evL L k).map str) ⟨#[44,32]⟩ wr (fun j x hx=>?_) (qq hown gb rfl).2 (by omega) (by omega) (by rw[hm];exact Nat.le_trans hjl (by omega))
     ·rw[hm,hlen] at h
      exact h
     ·rw[Nat.zero_add,hown.cellAt j (by
       have:=(List.getElem?_eq_some_iff.1 hx).1
       omega)]
      unfold evV
      rw[List.getElem?_map] at hx ⊢
      cases hz:(evL L k)[j]? with
      | none=>rw[hz] at hx;cases hx
      | some y=>rw[hz] at hx;injection hx with hx;subst hx;rfl
   go_wp2_with fail
   refine HJ.out.mono ?_
   rintro e w1 ⟨rfl,hb⟩
   have hB1:=hB.trans (hb.mono hB.size)
   clear hb HJ hown
   go_wp2_with fail
   go_ret
   exact⟨rfl,hB1⟩
def zV (l:List UInt8):List UInt8:=zU [44,32] ((zR l).headD []) (zR l).tail
def qT (l:List UInt8) (w:World) (e:Ending) (w':World):Prop:=e = .returned (.string (str (zV l)))∧Below w.heap.size w w'
theorem jbd (w:World):Calls Tryz.prog 106 #[.string ⟨#[65]⟩] w (qT [65] w):=by
 go_enter Tryz.func106,Tryz.ntmps106
 go_wp2_with fail
 go_ret
 exact⟨congrArg (fun s=>Ending.returned (.string s)) (by kernel_rfl),Below.refl _ _⟩
theorem jbS (w:World):Calls Tryz.prog 106 #[.string ⟨#[66]⟩] w (qT [66] w):=by
 have HE:=Lib.hid (fun W=>zQ 12 30 (by omega) (by omega) (by omega) W)
 have hs:(str (Lib.join (evL 30 12) [44,32])).size≤2000:=by rw[jt];decide +kernel
 have he:str (Lib.join (evL 30 12) [44,32])++⟨#[44,32,101,110,100,32,53,47,54]⟩=str (zV [66]):=by
  show _++str [44,32,101,110,100,32,53,47,54]=_
  rw[jP]
  exact congrArg str (by decide +kernel)
 generalize str (Lib.join (evL 30 12) [44,32])=S at *
 go_enter Tryz.func106,Tryz.ntmps106
 go_wp2_with (go_at_call 151;refine(HE.out _).mono ?_;rintro e w1 ⟨rfl,hb⟩)
 go_ret
 exact⟨rfl,hb⟩
theorem jbG (w:World):Calls Tryz.prog 106 #[.string ⟨#[67]⟩] w (qT [67] w):=by
 go_enter Tryz.func106,Tryz.ntmps106
 go_wp2_with fail
 go_ret
 exact⟨congrArg (fun s=>Ending.returned (.string s)) (by kernel_rfl),Below.refl _ _⟩
theorem jdp (w:World):Calls Tryz.prog 106 #[.string ⟨#[68]⟩] w (qT [68] w):=by
 go_enter Tryz.func106,Tryz.ntmps106
 go_wp2_with fail
 go_ret
 exact⟨congrArg (fun s=>Ending.returned (.string s)) (by kernel_rfl),Below.refl _ _⟩
theorem jdz (w:World):Calls Tryz.prog 106 #[.string ⟨#[69]⟩] w (qT [69] w):=by
 go_enter Tryz.func106,Tryz.ntmps106
 go_wp2_with fail
 go_ret
 exact⟨congrArg (fun s=>Ending.returned (.string s)) (by kernel_rfl),Below.refl _ _⟩
theorem jbR (w:World):Calls Tryz.prog 106 #[.string ⟨#[70]⟩] w (qT [70] w):=by
 have HE:=Lib.hid (fun W=>zQ 18 19 (by omega) (by omega) (by omega) W)
 have hs:(str (Lib.join (evL 19 18) [44,32])).size≤2000:=by rw[jt];decide +kernel
 have he:str (Lib.join (evL 19 18) [44,32])++⟨#[44,32,103,97,112,32,52,47,53,44,32,109,115,32,49,57]⟩=str (zV [70]):=by
  show _++str [44,32,103,97,112,32,52,47,53,44,32,109,115,32,49,57]=_
  rw[jP]
  exact congrArg str (by decide +kernel)
 generalize str (Lib.join (evL 19 18) [44,32])=S at *
 go_enter Tryz.func106,Tryz.ntmps106
 go_wp2_with (go_at_call 151;refine(HE.out _).mono ?_;rintro e w1 ⟨rfl,hb⟩)
 go_ret
 exact⟨rfl,hb⟩
theorem jch (w:World):Calls Tryz.prog 106 #[.string ⟨#[71]⟩] w (qT [71] w):=by
 go_enter Tryz.func106,Tryz.ntmps106
 go_wp2_with fail
 go_ret
 exact⟨congrArg (fun s=>Ending.returned (.string s)) (by kernel_rfl),Below.refl _ _⟩
theorem jb2 (w:World):Calls Tryz.prog 106 #[.string ⟨#[72]⟩] w (qT [72] w):=by
 have HE:=Lib.hid (fun W=>zQ 13 28 (by omega) (by omega) (by omega) W)
 have hs:(str (Lib.join (evL 28 13) [44,32])).size≤2000:=by rw[jt];decide +kernel
 have he:str (Lib.join (evL 28 13) [44,32])++⟨#[44,32,114,101,115,116,32,49,47,50]⟩=str (zV [72]):=by
  show _++str [44,32,114,101,115,116,32,49,47,50]=_
  rw[jP]
  exact congrArg str (by decide +kernel)
 generalize str (Lib.join (evL 28 13) [44,32])=S at *
 go_enter Tryz.func106,Tryz.ntmps106
 go_wp2_with (go_at_call 151;refine(HE.out _).mono ?_;rintro e w1 ⟨rfl,hb⟩)
 go_ret
 exact⟨rfl,hb⟩
theorem jcj (w:World):Calls Tryz.prog 106 #[.string ⟨#[73]⟩] w (qT [73] w):=by
 have HE:=Lib.hid (fun W=>zQ 12 30 (by omega) (by omega) (by omega) W)
 have hs:(str (Lib.join (evL 30 12) [44,32])).size≤2000:=by rw[jt];decide +kernel
 have he:str (Lib.join (evL 30 12) [44,32])++⟨#[44,32,101,110,100,32,53]⟩=str (zV [73]):=by
  show _++str [44,32,101,110,100,32,53]=_
  rw[jP]
  exact congrArg str (by decide +kernel)
 generalize str (Lib.join (evL 30 12) [44,32])=S at *
 go_enter Tryz.func106,Tryz.ntmps106
 go_wp2_with (go_at_call 151;refine(HE.out _).mono ?_;rintro e w1 ⟨rfl,hb⟩)
 go_ret
 exact⟨rfl,hb⟩
theorem jdB (w:World):Calls Tryz.prog 106 #[.string ⟨#[74]⟩] w (qT [74] w):=by
 have HE:=Lib.hid (fun W=>zQ 18 20 (by omega) (by omega) (by omega) W)
 have hs:(str (Lib.join (evL 20 18) [44,32])).size≤2000:=by rw[jt];decide +kernel
 have he:str (Lib.join (evL 20 18) [44,32])++⟨#[44,32,101,110,100,32,53]⟩=str (zV [74]):=by
  show _++str [44,32,101,110,100,32,53]=_
  rw[jP]
  exact congrArg str (by decide +kernel)
 generalize str (Lib.join (evL 20 18) [44,32])=S at *
 go_enter Tryz.func106,Tryz.ntmps106
 go_wp2_with (go_at_call 151;refine(HE.out _).mono ?_;rintro e w1 ⟨rfl,hb⟩)
 go_ret
 exact⟨rfl,hb⟩
theorem jbv (w:World):Calls Tryz.prog 106 #[.string ⟨#[75]⟩] w (qT [75] w):=by
 have HE:=Lib.hid (fun W=>zQ 18 20 (by omega) (by omega) (by omega) W)
 have hs:(str (Lib.join (evL 20 18) [44,32])).size≤2000:=by rw[jt];decide +kernel
 have he:str (Lib.join (evL 20 18) [44,32])=str (zV [75]):=congrArg str (by decide +kernel)
 generalize str (Lib.join (evL 20 18) [44,32])=S at *
 go_enter Tryz.func106,Tryz.ntmps106
 go_wp2_with (go_at_call 151;refine(HE.out _).mono ?_;rintro e w1 ⟨rfl,hb⟩)
 go_ret
 exact⟨rfl,hb⟩
theorem jc2 (w:World):Calls Tryz.prog 106 #[.string ⟨#[76]⟩] w (qT [76] w):=by
 have HE:=Lib.hid (fun W=>zQ 13 20 (by omega) (by omega) (by omega) W)
 have hs:(str (Lib.join (evL 20 13) [44,32])).size≤2000:=by rw[jt];decide +kernel
 have he:str (Lib.join (evL 20 13) [44,32])=str (zV [76]):=congrArg str (by decide +kernel)
 generalize str (Lib.join (evL 20 13) [44,32])=S at *
 go_enter Tryz.func106,Tryz.ntmps106
 go_wp2_with (go_at_call 151;refine(HE.out _).mono ?_;rintro e w1 ⟨rfl,hb⟩)
 go_ret
 exact⟨rfl,hb⟩
theorem jbF (w:World):Calls Tryz.prog 106 #[.string ⟨#[77]⟩] w (qT [77] w):=by
 go_enter Tryz.func106,Tryz.ntmps106
 go_wp2_with fail
 go_ret
 exact⟨congrArg (fun s=>Ending.returned (.string s)) (by kernel_rfl),Below.refl _ _⟩
theorem jdm (w:World):Calls Tryz.prog 106 #[.string ⟨#[78]⟩] w (qT [78] w):=by
 go_enter Tryz.func106,Tryz.ntmps106
 go_wp2_with fail
 go_ret
 exact⟨congrArg (fun s=>Ending.returned (.string s)) (by kernel_rfl),Below.refl _ _⟩
theorem jcK (w:World):Calls Tryz.prog 106 #[.string ⟨#[79]⟩] w (qT [79] w):=by
 go_enter Tryz.func106,Tryz.ntmps106
 go_wp2_with fail
 go_ret
 exact⟨congrArg (fun s=>Ending.returned (.string s)) (by kernel_rfl),Below.refl _ _⟩
theorem jcZ (w:World):Calls Tryz.prog 106 #[.string ⟨#[80]⟩] w (qT [80] w):=by
 go_enter Tryz.func106,Tryz.ntmps106
 go_wp2_with fail
 go_ret
 exact⟨congrArg (fun s=>Ending.returned (.string s)) (by kernel_rfl),Below.refl _ _⟩
theorem jdq (w:World):Calls Tryz.prog 106 #[.string ⟨#[81]⟩] w (qT [81] w):=by
 go_enter Tryz.func106,Tryz.ntmps106
 go_wp2_with fail
 go_ret
 exact⟨congrArg (fun s=>Ending.returned (.string s)) (by kernel_rfl),Below.refl _ _⟩
theorem jdv (w:World):Calls Tryz.prog 106 #[.string ⟨#[82]⟩] w (qT [82] w):=by
 go_enter Tryz.func106,Tryz.ntmps106
 go_wp2_with fail
 go_ret
 exact⟨congrArg (fun s=>Ending.returned (.string s)) (by kernel_rfl),Below.refl _ _⟩
theorem jds (w:World):Calls Tryz.prog 106 #[.string ⟨#[83]⟩] w (qT [83] w):=by
 go_enter Tryz.func106,Tryz.ntmps106
 go_wp2_with fail
 go_ret
 exact⟨congrArg (fun s=>Ending.returned (.string s)) (by kernel_rfl),Below.refl _ _⟩
theorem jbo (w:World):Calls Tryz.prog 106 #[.string ⟨#[84]⟩] w (qT [84] w):=by
 have HE:=Lib.hid (fun W=>zQ 10 36 (by omega) (by omega) (by omega) W)
 have hs:(str (Lib.join (evL 36 10) [44,32])).size≤2000:=by rw[jt];decide +kernel
 have he:str (Lib.join (evL 36 10) [44,32])++⟨#[44,32,114,101,115,116,32,53,47,54]⟩=str (zV [84]):=by
  show _++str [44,32,114,101,115,116,32,53,47,54]=_
  rw[jP]
  exact congrArg str (by decide +kernel)
 generalize str (Lib.join (evL 36 10) [44,32])=S at *
 go_enter Tryz.func106,Tryz.ntmps106
 go_wp2_with (go_at_call 151;refine(HE.out _).mono ?_;rintro e w1 ⟨rfl,hb⟩)
 go_ret
 exact⟨rfl,hb⟩
theorem Vp (r:CatRow) (hr:r∈jN) (w:World):Calls Tryz.prog 106 #[.string (str r.lt)] w (qT r.lt w):=by
 have h:jN.all (fun r=>[65,66,67,68,69,70,71,72,73,74,75,76,77,78,79,80,81,82,83,84].any (fun c=>r.lt==[c]))=true:=by decide +kernel
 have h1:=List.all_eq_true.1 h r hr
 simp only[List.any_cons,List.any_nil,Bool.or_false,Bool.or_eq_true,beq_iff_eq] at h1
 rcases h1 with h|h|h|h|h|h|h|h|h|h|h|h|h|h|h|h|h|h|h|h
 ·rw[h];exact jbd w
 ·rw[h];exact jbS w
 ·rw[h];exact jbG w
 ·rw[h];exact jdp w
 ·rw[h];exact jdz w
 ·rw[h];exact jbR w
 ·rw[h];exact jch w
 ·rw[h];exact jb2 w
 ·rw[h];exact jcj w
 ·rw[h];exact jdB w
 ·rw[h];exact jbv w
 ·rw[h];exact jc2 w
 ·rw[h];exact jbF w
 ·rw[h];exact jdm w
 ·rw[h];exact jcK w
 ·rw[h];exact jcZ w
 ·rw[h];exact jdq w
 ·rw[h];exact jdv w
 ·rw[h];exact jds w
 ·rw[h];exact jbo w
end
section
open Go Go.RowKit Go.Shelf
attribute [local go_sem] Oper.semAt_some
def jfa (r:CatRow):List UInt8:=[99,97,108,101,110,100,97,114,32]++r.nm++[10,101,112,111,99,104,32]++r.ep++[10,99,121,99,108,101,32]++r.cy++[10,108,101,97,112,32]++r.xp++[10]
def monC (p:List UInt8):List UInt8:=[109,111,110,116,104,32]++Lib.replace p [47] [32] 1++[10]
def qH (r:CatRow) (ps:List (List UInt8)):List UInt8:=jfa r++ps.flatMap monC
theorem YG (r:CatRow) (ps:List (List UInt8)) (p:List UInt8):qH r (ps++[p])=qH r ps++monC p:=by simp[qH]
theorem jcg (r:CatRow) (hr:r∈jN):qH r (zR r.lt)=zS r.t:=by
 have h:jN.all (fun r=>qH r (zR r.lt)==zS r.t)=true:=by decide +kernel
 simpa using List.all_eq_true.1 h r hr
theorem Qg (r:CatRow) (hr:r∈jN):(zR r.lt).length≤20∧zR r.lt=(zR r.lt).headD []::(zR r.lt).tail∧(∀p∈zR r.lt,p.length≤20∧∀b∈p,b≠44)∧(zV r.lt).length≤1000:=by
 have h:jN.all (fun r=>decide ((zR r.lt).length≤20)&&(zR r.lt==(zR r.lt).headD []::(zR r.lt).tail)&&(zR r.lt).all (fun p=>decide (p.length≤20)&&p.all (fun b=>b != 44))&&decide ((zV r.lt).length≤1000))=true:=by decide +kernel
 have h1:=List.all_eq_true.1 h r hr
 simp only[Bool.and_eq_true,decide_eq_true_eq,beq_iff_eq] at h1
 refine⟨h1.1.1.1,h1.1.1.2,fun p hp=>?_,h1.2⟩
 have h2:=List.all_eq_true.1 h1.1.2 p hp
 simp only[Bool.and_eq_true,decide_eq_true_eq] at h2
 exact⟨h2.1,fun b hb=>by simpa using List.all_eq_true.1 h2.2 b hb⟩
theorem Y2 (r:CatRow) (hr:r∈jN):Pieces [44,32] (zV r.lt) (zR r.lt):=by
 obtain⟨_,h2,h3,_⟩:=Qg r hr
 have h:=yJ 44 [32] (zR r.lt).tail ((zR r.lt).headD []) (by rw[←h2];exact fun p hp=>(h3 p hp).2)
 rw[←h2] at h
 exact h
theorem jai (r:CatRow) (hr:r∈jN):Lib.splitB ⟨#[32]⟩ 0 4 (str r.line)=[str r.nm,str r.ep,str r.cy,str r.lt,str r.xp]:=by
 have h:jN.all (fun r=>r.nm.all (fun b=>b != 32)&&r.ep.all (fun b=>b != 32)&&r.cy.all (fun b=>b != 32)&&r.lt.all (fun b=>b != 32))=true:=by decide +kernel
 have h1:=List.all_eq_true.1 h r hr
 simp only[Bool.and_eq_true] at h1
 have hq:∀{l:List UInt8},l.all (fun b=>b != 32)=true→∀b∈l,b≠32:=fun hl b hb=>by simpa using List.all_eq_true.1 hl b hb
 rw[xY 32 3 _ _ (hq h1.1.1.1),xY 32 2 _ _ (hq h1.1.1.2),xY 32 1 _ _ (hq h1.1.2),xY 32 0 _ _ (hq h1.2),Lib.splitB_zero]
theorem X4 (r:CatRow) (hr:r∈jN):r.nm.length≤100∧r.ep.length≤100∧r.cy.length≤100∧r.xp.length≤100∧5≤r.line.length:=by
 have h:jN.all (fun r=>decide (r.nm.length≤100)&&decide (r.ep.length≤100)&&decide (r.cy.length≤100)&&decide (r.xp.length≤100)&&decide (5≤r.line.length))=true:=by decide +kernel
 have h1:=List.all_eq_true.1 h r hr
 simp only[Bool.and_eq_true,decide_eq_true_eq] at h1
 exact⟨h1.1.1.1.1,h1.1.1.1.2,h1.1.1.2,h1.1.2,h1.2⟩
def KM (r:CatRow):Array Value:=#[.string (str r.nm),.string (str r.ep),.string (str r.cy),.string (str r.lt),.string (str r.xp)]
theorem Y3 (r:CatRow) (hr:r∈jN) (w:World) (h:Shp w) :
  Calls Tryz.prog 105 #[.string (str r.line),.string ⟨#[32]⟩,.int .i64 5] w fun e w'=>e = .returned (.slice (some ⟨w.heap.size,0,none⟩) 5 5)∧w'=w.alloc (.cells (KM r) 9):=by
 obtain⟨m,hm⟩:=h
 have hs:(str r.line).size=r.line.length:=jt _
 have h1:=kc r hr
 have h2:=(X4 r hr).2.2.2.2
 have hmin:min 5 ((str r.line).size+1)=5:=by omega
 refine(strings_SplitN (str r.line) ⟨#[32]⟩ 5 m w (by omega) hm (by decide) (by omega) (by omega)).mono ?_
 rintro e w' ⟨he,hw⟩
 rw[hmin,show 5-1=4 from rfl,jai r hr] at he hw
 exact⟨he,hw⟩
theorem XO (p:List UInt8) (hp:p.length≤20) (w:World) (h:Shp w) :
  Calls Tryz.prog 107 #[.string (str p),.string ⟨#[47]⟩,.string ⟨#[32]⟩,.int .i64 1] w fun e w'=>e = .returned (.string (str (Lib.replace p [47] [32] 1)))∧Below w.heap.size w w':=by
 obtain⟨m,hm⟩:=h
 have hs:(str p).size=p.length:=jt _
 refine(strings_Replace (str p) ⟨#[47]⟩ ⟨#[32]⟩ 1 m w (by omega) hm (by decide) ?_).mono ?_
 ·have h1:Lib.countB (str p) ⟨#[47]⟩≤(str p).data.toList.length+1:=Lib.count_le _ _
  rw[qC] at h1
  have h2:(⟨#[32]⟩:ByteArray).size=1:=rfl
  rw[h2]
  omega
 ·rintro e w' ⟨he,hb⟩
  rw[qC] at he
  exact⟨he,hb⟩
theorem jeg (r:CatRow) (hr:r∈jN) (p:List UInt8) (hp:p∈zR r.lt):(Lib.replace p [47] [32] 1).length≤30:=by
 have h:jN.all (fun r=>(zR r.lt).all fun p=>decide ((Lib.replace p [47] [32] 1).length≤30))=true:=by decide +kernel
 simpa using List.all_eq_true.1 (List.all_eq_true.1 h r hr) p hp
theorem jcM (r:CatRow) (hr:r∈jN) (ps qs:List (List UInt8)) (h:zR r.lt=ps++qs):(qH r ps).length≤1000:=by
 have h0:jN.all (fun r=>decide ((qH r (zR r.lt)).length≤1000))=true:=by decide +kernel
 have h1:(qH r (zR r.lt)).length≤1000:=by simpa using List.all_eq_true.1 h0 r hr
 rw[h] at h1
 unfold qH at h1 ⊢
 rw[List.flatMap_append] at h1
 simp only[List.length_append] at h1 ⊢
 omega
end
section
open Go Go.RowKit Go.Shelf
attribute [local go_sem] Oper.semAt_some
def je5 (r:CatRow) (w:World) (e:Ending) (w':World):Prop:=e = .returned (.string (str (zS r.t)))∧Below w.heap.size w w'
theorem jb1 (r:CatRow) (hr:r∈jN) (w:World) (h:Shp w):Calls Tryz.prog 83 #[.string (str r.line)] w (je5 r w):=by
 have HSN:=Lib.hid (Y3 r hr w h)
 have HM:=Lib.hid (fun W=>Vp r hr W)
 have HS:=Lib.hid (fun s sep W=>zY s sep W)
 have HT:=Lib.hid (jcg r hr)
 have HP:=Lib.hid (Y2 r hr)
 have HR:=Lib.hid (fun p hp W hW=>XO p ((Qg r hr).2.2.1 p hp).1 W hW)
 have HL:=Lib.hid (fun ps qs hps=>jcM r hr ps qs hps)
 have HL2:=Lib.hid (fun p hp=>jeg r hr p hp)
 have hml:=(Qg r hr).2.2.2
 have hlens:=X4 r hr
 unfold je5
 refine(callsIn_wide (n:=3)).1 ?_
 refine callsIn_of_wp_marks Tryz.func83 rfl trivial ?_ rfl
 simp only[Tryz.ntmps83,List.size_toArray,List.length_cons,List.length_nil,Nat.reduceAdd,Nat.reduceSub,Array.replicate_succ,Array.replicate_zero,List.push_toArray,List.append_toArray,List.nil_append,List.cons_append]
 have HX:=Lib.hid (Box.new w 9 (KM r))
 have HB:=Lib.hid (ja w (Obj.cells (KM r) 9))
 gi_wp2_with (refine⟨trivial,?_⟩;gi_at_call 105;refine(callsIn_wide.2 HSN.out).mono ?_;rintro e w' ⟨rfl,rfl⟩)
 have hb0:Below w.heap.size w (w.alloc (Obj.cells (KM r) 9)):=HB.out
 have hsz0:=Lib.hid (show(w.alloc (Obj.cells (KM r) 9)).heap.size=w.heap.size+1 from World.size_alloc _ _)
 have hS0:=Lib.hid (h.next hb0)
 have hm0:=h.lt
 have hd:Hid (⟨#[99,97,108,101,110,100,97,114,32]⟩++str r.nm++⟨#[10,101,112,111,99,104,32]⟩++str r.ep++⟨#[10,99,121,99,108,101,32]⟩++str r.cy++⟨#[10,108,101,97,112,32]⟩++str r.xp++⟨#[10]⟩=str (qH r [])):=by
  show str [99,97,108,101,110,100,97,114,32]++str r.nm++str [10,101,112,111,99,104,32]++str r.ep++str [10,99,121,99,108,101,32]++str r.cy++str [10,108,101,97,112,32]++str r.xp++str [10]=_
  simp only[jP]
  unfold qH jfa
  simp
 have u1:(str r.nm).size≤100:=by rw[jt];omega
 have u2:(str r.ep).size≤100:=by rw[jt];omega
 have u3:(str r.cy).size≤100:=by rw[jt];omega
 have u4:(str r.xp).size≤100:=by rw[jt];omega
 unfold KM at *
 clear HSN h HB
 generalize w.alloc (Obj.cells #[.string (str r.nm),.string (str r.ep),.string (str r.cy),.string (str r.lt),.string (str r.xp)] 9)=W0 at *
 generalize hg:w.heap.size=g at *
 have HG:=Lib.hid hg
 clear hg
 have z0:∀W,Below W0.heap.size W0 W→W.cell? ⟨g,0,none⟩=some (.string (str r.nm)):=fun W hW=>(HX.out.below hW).cell 0
 have z1:∀W,Below W0.heap.size W0 W→W.cell? ⟨g,1,none⟩=some (.string (str r.ep)):=fun W hW=>(HX.out.below hW).cell 1
 have z2:∀W,Below W0.heap.size W0 W→W.cell? ⟨g,2,none⟩=some (.string (str r.cy)):=fun W hW=>(HX.out.below hW).cell 2
 have z4:∀W,Below W0.heap.size W0 W→W.cell? ⟨g,4,none⟩=some (.string (str r.xp)):=fun W hW=>(HX.out.below hW).cell 4
 generalize str r.nm=sn at *
 generalize str r.ep=se at *
 generalize str r.cy=sc at *
 generalize str r.xp=sx at *
 have c0:(⟨#[99,97,108,101,110,100,97,114,32]⟩:ByteArray).size=9:=rfl
 have c1:(⟨#[10,101,112,111,99,104,32]⟩:ByteArray).size=7:=rfl
 have c2:(⟨#[10,99,121,99,108,101,32]⟩:ByteArray).size=7:=rfl
 have c3:(⟨#[10,108,101,97,112,32]⟩:ByteArray).size=6:=rfl
 have c4:(⟨#[10]⟩:ByteArray).size=1:=rfl
 have s1:(⟨#[99,97,108,101,110,100,97,114,32]⟩++sn:ByteArray).size≤109:=by rw[ByteArray.size_append];omega
 have s2:((⟨#[99,97,108,101,110,100,97,114,32]⟩++sn)++⟨#[10,101,112,111,99,104,32]⟩:ByteArray).size≤116:=by rw[ByteArray.size_append];omega
 have s3:(((⟨#[99,97,108,101,110,100,97,114,32]⟩++sn)++⟨#[10,101,112,111,99,104,32]⟩)++se:ByteArray).size≤216:=by rw[ByteArray.size_append];omega
 have s4:((((⟨#[99,97,108,101,110,100,97,114,32]⟩++sn)++⟨#[10,101,112,111,99,104,32]⟩)++se)++⟨#[10,99,121,99,108,101,32]⟩:ByteArray).size≤223:=by rw[ByteArray.size_append];omega
 have s5:(((((⟨#[99,97,108,101,110,100,97,114,32]⟩++sn)++⟨#[10,101,112,111,99,104,32]⟩)++se)++⟨#[10,99,121,99,108,101,32]⟩)++sc:ByteArray).size≤323:=by rw[ByteArray.size_append];omega
 have s6:((((((⟨#[99,97,108,101,110,100,97,114,32]⟩++sn)++⟨#[10,101,112,111,99,104,32]⟩)++se)++⟨#[10,99,121,99,108,101,32]⟩)++sc)++⟨#[10,108,101,97,112,32]⟩:ByteArray).size≤329:=by rw[ByteArray.size_append];omega
 have s7:(((((((⟨#[99,97,108,101,110,100,97,114,32]⟩++sn)++⟨#[10,101,112,111,99,104,32]⟩)++se)++⟨#[10,99,121,99,108,101,32]⟩)++sc)++⟨#[10,108,101,97,112,32]⟩)++sx:ByteArray).size≤429:=by rw[ByteArray.size_append];omega
 refine wpIn_wide.2 ?_
 refine jr 21 (jy []) (by kernel_rfl) (by kernel_rfl) ?_
 simp only[List.take_succ_cons,List.take_zero,List.drop_succ_cons,List.drop_zero]
 repeat (first|(refine jf (v:=?_) (by rfl) (by rfl) (fun w hb=>?_) ?_;rotate_left;(· go_simp<;>(repeat' apply And.intro)<;>with_reducible rfl);try simp only[pZ,Nat.reduceAdd])|(refine jf (v:=?_) (by rfl) (by rfl) (fun w hb=>?_) ?_;rotate_left;(· (go_simp;(refine(if_neg ?_).trans ?_);(· omega);(· with_reducible rfl)));try simp only[pZ,Nat.reduceAdd])|(refine je (by rfl) (by rfl) ?_;try simp only[pZ,Nat.reduceAdd]))
 refine zH (t:=?_) (cs:=?_) (by rfl) (by rfl) (fun w hb=>?_) (fun go hgo=>?_);rotate_left 2;(· go_simp<;>(repeat' apply And.intro)<;>with_reducible rfl);try simp only[pZ,Nat.reduceAdd]
 refine jo fun w3 hb3 hf=>?_
 have hbo:=hf.1
 have hgo0:=hgo
 rw[hd.out]
 clear c0 c1 c2 c3 c4 s1 s2 s3 s4 s5 s6 s7 z0 z1 z2 z4 u1 u2 u3 u4 hd hf
 have HX3:=Lib.hid (HX.out.below hb3)
 have HB3:=Lib.hid (hb0.trans (hb3.mono (by have:=hsz0.out;omega)))
 replace hsz0:=hsz0.out
 have HS3:=Lib.hid (hS0.out.next hb3)
 have hsz3:=hb3.size
 have ho:=hbo.lt
 have hoc:=hbo.cell 0
 have hof:=hbo.free 0
 clear hb3 hb0 HX hS0
 refine wpList_step fun K hK=>?_
 rw[if_pos (by rfl)]
 go_simp
 refine hK _ _ (wpList_nil ?_)
 generalize (⟨#[99,97,108,101,110,100,97,114,32]⟩++sn++⟨#[10,101,112,111,99,104,32]⟩++se++⟨#[10,99,121,99,108,101,32]⟩++sc++⟨#[10,108,101,97,112,32]⟩++sx:ByteArray)=q6
 generalize (⟨#[99,97,108,101,110,100,97,114,32]⟩++sn++⟨#[10,101,112,111,99,104,32]⟩++se++⟨#[10,99,121,99,108,101,32]⟩++sc++⟨#[10,108,101,97,112,32]⟩:ByteArray)=q5
 generalize (⟨#[99,97,108,101,110,100,97,114,32]⟩++sn++⟨#[10,101,112,111,99,104,32]⟩++se++⟨#[10,99,121,99,108,101,32]⟩++sc:ByteArray)=q4
 generalize (⟨#[99,97,108,101,110,100,97,114,32]⟩++sn++⟨#[10,101,112,111,99,104,32]⟩++se++⟨#[10,99,121,99,108,101,32]⟩:ByteArray)=q3
 generalize (⟨#[99,97,108,101,110,100,97,114,32]⟩++sn++⟨#[10,101,112,111,99,104,32]⟩++se:ByteArray)=q2
 generalize (⟨#[99,97,108,101,110,100,97,114,32]⟩++sn++⟨#[10,101,112,111,99,104,32]⟩:ByteArray)=q1
 generalize (⟨#[99,97,108,101,110,100,97,114,32]⟩++sn:ByteArray)=q0
 clear hK K
 have hgo:g<go:=by omega
 have HX4:=Lib.hid (HX3.out.far (p:=⟨go,0,none⟩) (show g≠go by omega) (.string (str (qH r []))))
 have HO4:Hid (Box (w3.setCell ⟨go,0,none⟩ (.string (str (qH r [])))) go 9 #[.string (str (qH r []))]):=hbo.set_ 0 _
 have HB4:=Lib.hid (HB3.out.setCell (p:=⟨go,0,none⟩) (show g≤go by omega) (.string (str (qH r []))))
 have HS4:=Lib.hid (HS3.out.only (jL (p:=fun k=>k=go) w3 go 0 (.string (str (qH r []))) rfl) (by omega))
 clear HX3 HB3 HS3 hbo hoc hof
 generalize w3.setCell ⟨go,0,none⟩ (.string (str (qH r [])))=W4 at *
 have hgo2:=HG.out
 have z3:W4.cell? ⟨g,3,none⟩=some (.string (str r.lt)):=HX4.out.cell 3
 have zl:=HX4.out.lt
 have HM4:=Lib.hid (HM.out W4)
 unfold qT at HM4
 generalize str r.lt=sl at *
 gi_wp2_with (first
  | (refine⟨trivial,?_⟩;gi_at_call 106;refine(callsIn_wide.2 HM4.out).mono ?_;rintro e w5 ⟨rfl,hb5⟩;have HO5:=Lib.hid (HO4.out.below hb5);have HB5:=Lib.hid (HB4.out.trans (hb5.mono (by omega)));have HS5:=Lib.hid (HS4.out.next hb5);clear hb5)
  | (refine⟨trivial,?_⟩;gi_at_call 50;refine(callsIn_wide.2 (HS.out _ _ _)).mono ?_;rintro e w' ⟨rfl,rfl⟩))
 obtain⟨x1,x2,x3,x4,x5⟩:=yk w5 (str (zV r.lt)) ⟨#[44,32]⟩
 have hlo:=HO5.out.lt
 have HO6:=Lib.hid (HO5.out.below x4)
 have HB6:=Lib.hid (HB5.out.trans (x4.mono (by omega)))
 have HS6:=Lib.hid (HS5.out.next x4)
 clear x4 HO5 HB5 HS5 HS HM4 HM HX4 z3 zl HO4 HB4 HS4
 generalize JS w5 (str (zV r.lt)) ⟨#[44,32]⟩=W6 at *
 generalize w5.heap.size=n5 at *
 refine qO (F:=Fence.wide) rfl (by omega) (gf:=92) (lb:=#[.pointer (some ⟨n5+1,0,none⟩),.pointer (some ⟨n5,0,none⟩),.pointer (some ⟨n5+2,0,none⟩)]) rfl trivial (enters_of Tryz.func92 (by kernel_rfl) rfl)
  (enc:=fun x=>.string (str x)) (own:=fun k=>k=n5) (kp:=zc n5) (xs:=zR r.lt)
  (fun W hW=>yi _ n5 (by omega) ⟨#[44,32]⟩ (by decide) (by decide) (zV r.lt) (by omega) (zR r.lt) HP.out W (hW.box x1 id) (hW.box x2 id) (hW.box x3 id) (HS6.out.only hW id) (by omega)) (fun k hk=>.inl hk)
  (fun k hk=>by rcases hk with h|h|h|h<;>omega) rfl
  (fun pre W=>Box W go 9 #[.string (str (qH r pre))]∧Below g w W∧Shp W)
  (fun _ _ _=>False)
  ?hI (fun _ _ _ _ h _=>h) ⟨HO6.out,HB6.out,HS6.out⟩
  (fun x=>{tmps:=#[.string (str r.line),undef,.string ⟨#[]⟩,.slice (some ⟨g,0,none⟩) 5 5,.pointer (some ⟨go,0,none⟩),.string (str x),.string (str r.line),.slice (some ⟨g,0,none⟩) 5 5,.slice (some ⟨g,0,none⟩) 5 5,.pointer (some ⟨g,0,none⟩),.string sn,.string q0,.string q1,.slice (some ⟨g,0,none⟩) 5 5,.pointer (some ⟨g,1,none⟩),.string se,.string q2,.string q3,.slice (some ⟨g,0,none⟩) 5 5,.pointer (some ⟨g,2,none⟩),.string sc,.string q4,.string q5,.slice (some ⟨g,0,none⟩) 5 5,.pointer (some ⟨g,4,none⟩),.string sx,.string q6,.string (str (qH r [])),.slice (some ⟨g,0,none⟩) 5 5,.pointer (some ⟨g,3,none⟩),.string sl,.string (str (zV r.lt)),Kq n5,.string (str x),undef,undef,undef,undef,undef,undef,undef],defers:=[]}) ?assign ?body ?done ?stop
 case hI =>
  rintro pre A B ⟨h1,h3,h4⟩ hAB
  have hAs:=h1.lt
  exact⟨hAB.box h1 (by omega),h3.trans (qj _ hAB (fun k hk=>by omega) (by omega)),h4.only hAB (by omega)⟩
 case assign =>
  intro l x W K hK
  gi_wp2
  exact hK
 case body =>
  rintro l pre x rest W hxs hlt ⟨h1,h3,h4⟩
  have hmem:x∈zR r.lt:=by rw[hxs];simp
  have HR2:=Lib.hid (HR.out x hmem)
  have hl1:=HL.out pre _ hxs
  have hl2:=HL2.out x hmem
  have ht:Hid (str (qH r pre)++(⟨#[109,111,110,116,104,32]⟩++str (Lib.replace x [47] [32] 1)++⟨#[10]⟩)=str (qH r (pre++[x]))):=by
   show str (qH r pre)++(str [109,111,110,116,104,32]++str (Lib.replace x [47] [32] 1)++str [10])=_
   rw[YG,jP,jP,jP]
   rfl
  have k1:(str (qH r pre)).size≤1000:=by rw[jt];omega
  have k2:(str (Lib.replace x [47] [32] 1)).size≤30:=by rw[jt];omega
  generalize str (qH r pre)=P at *
  generalize str (Lib.replace x [47] [32] 1)=R at *
  have c0:(⟨#[109,111,110,116,104,32]⟩:ByteArray).size=6:=rfl
  have c1:(⟨#[10]⟩:ByteArray).size=1:=rfl
  have k3:(⟨#[109,111,110,116,104,32]⟩++R:ByteArray).size≤36:=by rw[ByteArray.size_append];omega
  have k4:(⟨#[109,111,110,116,104,32]⟩++R++⟨#[10]⟩:ByteArray).size≤37:=by rw[ByteArray.size_append];omega
  have hv:=h1.cell 0
  have hf:=h1.free 0
  have hmx:Tryz.prog.follows .mixedOrders=true:=by kernel_rfl
  have HCL:Hid (∀w1,Below W.drew.heap.size W.drew w1→Box w1 go 9 #[.string P] →
    Only (fun k=>¬(zc n5 k∨k=W6.heap.size∨k=W6.heap.size+1)) W (w1.setCell ⟨go,0,none⟩ (.string (P++(⟨#[109,111,110,116,104,32]⟩++R++⟨#[10]⟩)))) ∧
    Box (w1.setCell ⟨go,0,none⟩ (.string (P++(⟨#[109,111,110,116,104,32]⟩++R++⟨#[10]⟩)))) go 9 #[.string (str (qH r (pre++[x])))] ∧
    Below g w (w1.setCell ⟨go,0,none⟩ (.string (P++(⟨#[109,111,110,116,104,32]⟩++R++⟨#[10]⟩))))∧Shp (w1.setCell ⟨go,0,none⟩ (.string (P++(⟨#[109,111,110,116,104,32]⟩++R++⟨#[10]⟩))))):=fun w1 hb q=>by
   have hbW:Below W.heap.size W w1:=(show Below W.heap.size W W.drew from⟨rfl,rfl,rfl,Nat.le_refl _,fun _ _=>rfl⟩).trans hb
   have HO:=(jH (p:=fun k=>¬(zc n5 k∨k=W6.heap.size∨k=W6.heap.size+1)) hbW).trans (jL w1 go 0 (.string (P++(⟨#[109,111,110,116,104,32]⟩++R++⟨#[10]⟩))) (by omega))
   refine⟨HO,?_,(h3.trans (hbW.mono (by have:=h1.lt;omega))).setCell (p:=⟨go,0,none⟩) (show g≤go by omega) _,h4.only HO (fun h=>h (.inl (.inr (.inr (.inr rfl)))))⟩
   have h5:=q.set_ 0 (.string (P++(⟨#[109,111,110,116,104,32]⟩++R++⟨#[10]⟩)))
   rw[ht.out] at h5 ⊢
   exact h5
  gi_wp2
  gi_region_with_o (refine⟨trivial,?_⟩;gi_at_call 107;refine(CallsIn.inRound l (callsIn_wide.2 (HR2.out W.drew h4))).mono ?_;rintro e w1 ⟨rfl,hb⟩;have q1:=(show Box W.drew go 9 #[.string P] from h1).below hb;have hv1:=q1.cell 0;have hf1:=q1.free 0;have HB1:=Lib.hid hb;clear hb)
  all_goals exact HCL.out _ HB1.out q1
 case done =>
  rintro W hlt ⟨h1,h3,h4⟩ hK
  have hv:=h1.cell 0
  have hl:=h1.lt
  gi_wp2
  refine⟨by simp,.inl ⟨_,_,rfl,run_takeDeferred hK,?_⟩⟩
  rw[HT.out] at *
  exact⟨_,results_tmp rfl _ _ _,rfl,by rw[HG.out];exact h3.trans (qj _ (qG (p:=fun k=>k=W6.heap.size) W _ _ rfl) (fun k hk=>by omega) (by omega))⟩
 case stop=>exact fun c pre W _ _ h _=>h.elim
end
section
open Go Go.RowKit Go.Shelf
attribute [local go_sem] Oper.semAt_some
theorem TrNew.next {B:Nat} {w w':World} {u:Tr} (h:TrNew B w u) (hb:Below w.heap.size w w'):TrNew B w' u:=⟨h.ex.next hb,jn h.mo hb⟩
theorem TrNew.only {B:Nat} {w w':World} {u:Tr} {p:Nat→Prop} (h:TrNew B w u) (hb:Only p w w') (hp:∀k,B≤k→¬p k):TrNew B w' u :=
 ⟨h.ex.keep (fun b hbB hlt=>hb.block b hlt (hp b hbB)) (fun b hbB _=>hbB) hb.size,hb.own h.mo hp⟩
theorem TrNew.lower {B B':Nat} {w:World} {u:Tr} (h:TrNew B w u) (hb:B'≤B):TrNew B' w u:=⟨h.ex.more fun b h _=>by omega,jM h.mo hb⟩
def jdj (r:CatRow) (w:World) (e:Ending) (w':World):Prop :=
 ∃u:Tr,e = .returned (.tuple #[u.val,.int .i64 0])∧ReadAs (vs r.t) r.t.ex u∧TrNew w.heap.size w' u∧TrFit u∧Below w.heap.size w w'
theorem jcs (r:CatRow) (hr:r∈jN) (w:World) (hs:Sgs w) (hv:Lvs w) (h:Shp w):Calls Tryz.prog 62 #[.string (str r.nm)] w (jdj r w):=by
 unfold jdj
 refine(callsIn_wide (n:=3)).1 ?_
 refine callsIn_of_wp_marks Tryz.func62 rfl trivial ?_ rfl
 simp only[Tryz.ntmps62,List.size_toArray,List.length_cons,List.length_nil,Nat.reduceAdd,Nat.reduceSub,Array.replicate_succ,Array.replicate_zero,List.push_toArray,List.append_toArray,List.nil_append,List.cons_append]
 rw[Yz]
 case h=>kernel_rfl
 have hT:=kE
 have hP:=Lib.hid yn
 have HS:=Lib.hid (fun s sep W=>zY s sep W)
 generalize vF=T at *
 gi_wp2_with (refine⟨trivial,?_⟩;gi_at_call 50;refine(callsIn_wide.2 (HS.out _ _ _)).mono ?_;rintro e w' ⟨rfl,rfl⟩)
 have hB0:=Lib.hid (jJ w (Obj.cells #[.string (str r.nm)] 9) (Obj.cells jQ 128) (Obj.cells #[.int .i64 0] 32))
 have hN0:=((Box.new w 9 #[.string (str r.nm)]).alloc (Obj.cells jQ 128)).alloc (Obj.cells #[.int .i64 0] 32)
 have hO0:=(Box.new (w.alloc (Obj.cells #[.string (str r.nm)] 9)) 128 jQ).alloc (Obj.cells #[.int .i64 0] 32)
 have hE0:=Box.new ((w.alloc (Obj.cells #[.string (str r.nm)] 9)).alloc (Obj.cells jQ 128)) 32 #[.int .i64 0]
 have hx:=yk (((w.alloc (Obj.cells #[.string (str r.nm)] 9)).alloc (Obj.cells jQ 128)).alloc (Obj.cells #[.int .i64 0] 32)) (str T) ⟨#[10]⟩
 rw[World.size_alloc,World.size_alloc,World.size_alloc] at hx
 simp only[World.size_alloc] at hO0 hE0
 obtain⟨x1,x2,x3,x4,x5⟩:=hx
 have hN:=Lib.hid (hN0.belowB x4 (by omega))
 have hO:=Lib.hid (hO0.belowB x4 (by omega))
 have hE:=Lib.hid (hE0.belowB x4 (by omega))
 have hB:=Lib.hid (hB0.out.trans (x4.mono (by omega)))
 have hS:=Lib.hid (h.next hB.out)
 have hSg:=Lib.hid (hs.next hB.out)
 have hLv:=Lib.hid (hv.next hB.out)
 have hm:=h.lt
 have hms:4<w.heap.size:=block_lt_of_cell (hs 0 (by omega))
 have hml:5<w.heap.size:=block_lt_of_cell (hv 0 (by omega))
 clear x4 hB0 hN0 hO0 hE0 HS h hs hv
 generalize JS (((w.alloc (Obj.cells #[.string (str r.nm)] 9)).alloc (Obj.cells jQ 128)).alloc (Obj.cells #[.int .i64 0] 32)) (str T) ⟨#[10]⟩=W0 at *
 generalize hg:w.heap.size=g at *
 have HG:=Lib.hid hg
 clear hg
 generalize hb3:g+1+1+1=b at *
 have hb3a:b≤g+3:=by omega
 have hb3b:g+3≤b:=by omega
 clear hb3
 have HPr:=Lib.hid (fun W (hs:Sgs W) (hv:Lvs W) (h:Shp W)=>ZR r.t (Ql r hr).1 (Ql r hr).2.1 W hs hv h)
 have HTx:=Lib.hid (fun W (h:Shp W)=>jb1 r hr W h)
 refine qO (F:=Fence.wide) rfl (by omega) (gf:=92) (lb:=#[.pointer (some ⟨b+1,0,none⟩),.pointer (some ⟨b,0,none⟩),.pointer (some ⟨b+2,0,none⟩)]) rfl trivial (enters_of Tryz.func92 (by kernel_rfl) rfl)
  (enc:=fun x=>.string (str x)) (own:=fun k=>k=b) (kp:=zc b) (xs:=yj)
  (fun W hW=>yi _ b (by omega) ⟨#[10]⟩ (by decide) (by decide) T (by omega) yj hP.out W (hW.box x1 id) (hW.box x2 id) (hW.box x3 id) (hS.out.only hW id) (by omega)) (fun k hk=>.inl hk)
  (fun k hk=>by rcases hk with h|h|h|h<;>omega) rfl
  (fun pre W=>Box W g 9 #[.string (str r.nm)]∧Box W (g+1) 128 jQ∧Box W (g+2) 32 #[.int .i64 0]∧Below g w W∧Shp W∧Sgs W∧Lvs W∧∀x∈pre,x≠r.line)
  (fun c _ W=>c = .ret∧∃u:Tr,Box W (g+1) 128 u.cells∧Box W (g+2) 32 #[.int .i64 0]∧ReadAs (vs r.t) r.t.ex u∧TrNew (W0.heap.size+2) W u∧TrFit u∧Below g w W)
  ?hI ?hIx ⟨hN.out,hO.out,hE.out,hB.out,hS.out,hSg.out,hLv.out,fun x hx=>absurd hx (List.not_mem_nil)⟩
  (fun x=>{tmps:=#[.string (str r.nm),.pointer (some ⟨g,0,none⟩),.pointer (some ⟨g+1,0,none⟩),.pointer (some ⟨g+1+1,0,none⟩),.string (str x),undef,undef,undef,undef,undef,undef,Kq b,.string (str x),undef,undef,undef,undef,undef,undef,undef,undef,undef,undef,undef,undef,undef,undef,undef,undef,undef,undef,undef],defers:=[]}) ?assign ?body ?done ?stop
 case hI =>
  rintro pre A B ⟨h1,h2,h3,h4,h5,h6,h7,h8⟩ hAB
  have hAs:=h3.lt
  refine⟨hAB.box h1 (by omega),hAB.box h2 (by omega),hAB.box h3 (by omega),h4.trans (qj _ hAB (fun k hk=>by omega) (by omega)),h5.only hAB (by omega),?_,?_,h8⟩
  ·intro k hk;exact(World.cell?_of_block (hAB.block _ (block_lt_of_cell (h6 k hk)) (show ¬(4=b∨4=W0.heap.size∨4=W0.heap.size+1) by omega))).trans (h6 k hk)
  ·intro k hk;exact(World.cell?_of_block (hAB.block _ (block_lt_of_cell (h7 k hk)) (show ¬(5=b∨5=W0.heap.size∨5=W0.heap.size+1) by omega))).trans (h7 k hk)
 case hIx =>
  rintro c pre A B ⟨rfl,u,h1,h2,h3,h4,h5,h6⟩ hAB
  have hAs:=h2.lt
  exact⟨rfl,u,hAB.box h1 (by omega),hAB.box h2 (by omega),h3,h4.only hAB (fun k hk=>by omega),h5,h6.trans (qj _ hAB (fun k hk=>by omega) (by omega))⟩
 case assign =>
  intro l x W K hK
  gi_wp2
  exact hK
 case body =>
  rintro l pre x rest W hxs hlt ⟨h1,h2,h3,h4,h5,h6,h7,h8⟩
  have hmem:x∈yj:=by rw[hxs];simp
  obtain⟨r',hr',rfl⟩:=List.mem_map.1 hmem
  have hxl:=kc r' hr'
  have hcut:=Jw r' hr'
  have hone:=V3 r' r hr' hr
  have hcat:∀x∈pre,x≠r.line:=h8
  have HC:=Lib.hid (ka (str r'.line) 32 W (by rw[jt];omega) h5)
  rw[qC,hcut] at HC
  clear hcut
  by_cases he:r'.nm=r.nm
  ·obtain rfl:=hone he
   have t1:((str r'.nm).toList==(str r'.nm).toList)=true:=beq_self_eq_true _
   have HH4:=Lib.hid h4
   have HH5:=Lib.hid h5
   have HH6:=Lib.hid h6
   have HH7:=Lib.hid h7
   clear h4 h5 h6 h7
   have hv:=h1.cell 0
   generalize str (r'.ep++32::(r'.cy++32::(r'.lt++32::r'.xp)))=s2 at *
   gi_wp2_with (first
    | (refine⟨trivial,?_⟩;gi_at_call 51;refine(CallsIn.inRound l (callsIn_wide.2 HC.out)).mono ?_;rintro e w1 ⟨rfl,hb⟩;have q1:=h1.below hb;have hsz:=hb.size;have HB1:=Lib.hid hb;have hv1:=q1.cell 0;clear h1 hb hv HC)
    | (refine⟨trivial,?_⟩;gi_at_call 83;refine(CallsIn.inRound l (callsIn_wide.2 (HTx.out w1 (HH5.out.next HB1.out)))).mono ?_;rintro e w2 ⟨rfl,hb⟩;have HB2:=Lib.hid (jb HB1.out hb);clear hb q1 hv1 HB1)
    | (refine⟨trivial,?_⟩;gi_at_call 82;refine(CallsIn.inRound l (callsIn_wide.2 (HPr.out w2 (HH6.out.next HB2.out) (HH7.out.next HB2.out) (HH5.out.next HB2.out)))).mono ?_;rintro e w3 ⟨u,rfl,hra,hnw,hft,hb⟩;have HRa:=Lib.hid hra;have HNw:=Lib.hid hnw;have HFt:=Lib.hid hft;have HB3:=Lib.hid (jb HB2.out hb);have hsz3:=HB3.out.size;have hsz2:=HB2.out.size;have q2:=h2.below HB3.out;have q3:=h3.below HB3.out;have c0:=q2.cell 0;have c1:=q2.cell 1;have c2:=q2.cell 2;have c3:=q2.cell 3;have c4:=q2.cell 4;have c5:=q2.cell 5;have c6:=q2.cell 6;have cf:=q2.free;have cl:=q2.lt;have d0:=q3.cell 0;have df:=q3.free;have dl:=q3.lt;have hw2:=Lib.hid hb.size;have h2':=q2;have h3':=q3;clear hb hra hnw hft h2 h3 q2 q3))
   have q2:=(((((((h2'.set_ 0 (.string u.nm)).set_ 1 (.int .i64 u.ep)).set_ 2 (.int .i64 u.cy)).set_ 3 (.int .i64 u.k)).set_ 4 (.int .i64 u.n)).set_ 5 (.slice u.A u.ks.length u.c)).set_ 6 (.slice u.A1 u.mo.length u.c1)).far (p:=⟨g+1+1,0,none⟩) (show g+1≠g+1+1 by omega) (.int .i64 0)
   have q3:=(((((((h3'.far (p:=⟨g+1,0,none⟩) (show g+1+1≠g+1 by omega) (.string u.nm)).far (p:=⟨g+1,1,none⟩) (show g+1+1≠g+1 by omega) (.int .i64 u.ep)).far (p:=⟨g+1,2,none⟩) (show g+1+1≠g+1 by omega) (.int .i64 u.cy)).far (p:=⟨g+1,3,none⟩) (show g+1+1≠g+1 by omega) (.int .i64 u.k)).far (p:=⟨g+1,4,none⟩) (show g+1+1≠g+1 by omega) (.int .i64 u.n)).far (p:=⟨g+1,5,none⟩) (show g+1+1≠g+1 by omega) (.slice u.A u.ks.length u.c)).far (p:=⟨g+1,6,none⟩) (show g+1+1≠g+1 by omega) (.slice u.A1 u.mo.length u.c1)).set_ 0 (.int .i64 0)
   have HO:∀p:Nat→Prop,p (g+1)→p (g+1+1)→Only p w3 ((((((((w3.setCell ⟨g+1,0,none⟩ (.string u.nm)).setCell ⟨g+1,1,none⟩ (.int .i64 u.ep)).setCell ⟨g+1,2,none⟩ (.int .i64 u.cy)).setCell ⟨g+1,3,none⟩ (.int .i64 u.k)).setCell ⟨g+1,4,none⟩ (.int .i64 u.n)).setCell ⟨g+1,5,none⟩ (.slice u.A u.ks.length u.c)).setCell ⟨g+1,6,none⟩ (.slice u.A1 u.mo.length u.c1)).setCell ⟨g+1+1,0,none⟩ (.int .i64 0)):=fun p p1 p2 =>
    (((((((jL _ (g+1) 0 _ p1).trans (jL _ (g+1) 1 _ p1)).trans (jL _ (g+1) 2 _ p1)).trans (jL _ (g+1) 3 _ p1)).trans (jL _ (g+1) 4 _ p1)).trans (jL _ (g+1) 5 _ p1)).trans (jL _ (g+1) 6 _ p1)).trans (jL _ (g+1+1) 0 _ p2)
   have hc2:(((((((jQ.setIfInBounds 0 (.string u.nm)).setIfInBounds 1 (.int .i64 u.ep)).setIfInBounds 2 (.int .i64 u.cy)).setIfInBounds 3 (.int .i64 u.k)).setIfInBounds 4 (.int .i64 u.n)).setIfInBounds 5 (.slice u.A u.ks.length u.c)).setIfInBounds 6 (.slice u.A1 u.mo.length u.c1))=u.cells:=rfl
   generalize (((((((w3.setCell ⟨g+1,0,none⟩ (.string u.nm)).setCell ⟨g+1,1,none⟩ (.int .i64 u.ep)).setCell ⟨g+1,2,none⟩ (.int .i64 u.cy)).setCell ⟨g+1,3,none⟩ (.int .i64 u.k)).setCell ⟨g+1,4,none⟩ (.int .i64 u.n)).setCell ⟨g+1,5,none⟩ (.slice u.A u.ks.length u.c)).setCell ⟨g+1,6,none⟩ (.slice u.A1 u.mo.length u.c1)).setCell ⟨g+1+1,0,none⟩ (.int .i64 0)=W5 at *
   have HOA:=(jH (p:=fun k=>¬(zc b k∨k=W0.heap.size∨k=W0.heap.size+1)) HB3.out).trans (HO _ (by omega) (by omega))
   have HOB:=HO (fun k=>k=g+1∨k=g+1+1) (.inl rfl) (.inr rfl)
   have hl5:=q3.lt
   refine⟨HOA.trans (yg _ _),rfl,u,q2.alloc _,q3.alloc _,HRa.out,?_,HFt.out,?_⟩
   ·exact((HNw.out.only HOB (fun k hk=>by omega)).next (ja _ _)).lower (by omega)
   ·exact((HH4.out.trans (HB3.out.mono (by omega))).trans (qj _ HOB (fun k hk=>by omega) (by omega))).trans ((ja _ _).mono (by omega))
  ·have t1:((str r'.nm).toList==(str r.nm).toList)=false:=by
    rw[beq_eq_false_iff_ne,jv,jv]
    exact he
   have HH4:=Lib.hid h4
   have HH5:=Lib.hid h5
   have HH6:=Lib.hid h6
   have HH7:=Lib.hid h7
   clear h4 h5 h6 h7
   have hv:=h1.cell 0
   gi_wp2_with (refine⟨trivial,?_⟩;gi_at_call 51;refine(CallsIn.inRound l (callsIn_wide.2 HC.out)).mono ?_;rintro e w1 ⟨rfl,hb⟩;have q1:=h1.below hb;have hsz:=hb.size;have HB1:=Lib.hid hb;have hv1:=q1.cell 0;clear h1 hb hv HC)
   have HO:=jH (p:=fun k=>¬(zc b k∨k=W0.heap.size∨k=W0.heap.size+1)) HB1.out
   refine⟨HO,q1,h2.below HB1.out,h3.below HB1.out,HH4.out.trans (HB1.out.mono (by have:=h3.lt;omega)),HH5.out.next HB1.out,HH6.out.next HB1.out,HH7.out.next HB1.out,fun y hy=>?_⟩
   rcases List.mem_append.1 hy with hy|hy
   ·exact h8 y hy
   ·obtain rfl:=List.mem_singleton.1 hy
    intro e
    have e2:=congrArg (fun z=>(Lib.cut z [32]).1) e
    simp only[Jw r' hr',Jw r hr] at e2
    exact he e2
 case done =>
  rintro W hlt ⟨h1,h2,h3,h4,h5,h6,h7,h8⟩ hK
  exact absurd rfl (h8 r.line (List.mem_map_of_mem hr))
 case stop =>
  rintro c pre W hlt hpre ⟨rfl,u,h1,h2,h3,h4,h5,h6⟩ hK
  have hl:=h2.lt
  have HH3:=Lib.hid h3
  have HH4:=Lib.hid h4
  have HH5:=Lib.hid h5
  have HH6:=Lib.hid h6
  have hP:Only (fun k=>k=W0.heap.size) W (W.putObj W0.heap.size (Obj.deferred none)):=qG W _ _ rfl
  have k1:=hP.box h1 (by omega)
  have k2:=hP.box h2 (by omega)
  have c0:(W.putObj W0.heap.size (Obj.deferred none)).cell? ⟨g+1,0,none⟩=some (.string u.nm):=k1.cell 0
  have c1:(W.putObj W0.heap.size (Obj.deferred none)).cell? ⟨g+1,1,none⟩=some (.int .i64 u.ep):=k1.cell 1
  have c2:(W.putObj W0.heap.size (Obj.deferred none)).cell? ⟨g+1,2,none⟩=some (.int .i64 u.cy):=k1.cell 2
  have c3:(W.putObj W0.heap.size (Obj.deferred none)).cell? ⟨g+1,3,none⟩=some (.int .i64 u.k):=k1.cell 3
  have c4:(W.putObj W0.heap.size (Obj.deferred none)).cell? ⟨g+1,4,none⟩=some (.int .i64 u.n):=k1.cell 4
  have c5:(W.putObj W0.heap.size (Obj.deferred none)).cell? ⟨g+1,5,none⟩=some (.slice u.A u.ks.length u.c):=k1.cell 5
  have c6:(W.putObj W0.heap.size (Obj.deferred none)).cell? ⟨g+1,6,none⟩=some (.slice u.A1 u.mo.length u.c1):=k1.cell 6
  have c7:(W.putObj W0.heap.size (Obj.deferred none)).cell? ⟨g+1+1,0,none⟩=some (.int .i64 0):=k2.cell 0
  clear h1 h2 h3 h4 h5 h6
  gi_wp2
  refine⟨by simp,.inl ⟨_,_,rfl,run_takeDeferred hK,?_⟩⟩
  generalize W.putObj W0.heap.size (Obj.deferred none)=W9 at *
  refine⟨.tuple #[u.val,.int .i64 0],by simp[results,Tryz.results62,go_sem,c0,c1,c2,c3,c4,c5,c6,c7],u,rfl,HH3.out,?_,HH5.out,?_⟩
  ·rw[HG.out]
   exact(HH4.out.only hP (fun k hk=>by omega)).lower (by omega)
  ·rw[HG.out]
   exact HH6.out.trans (qj _ hP (fun k hk=>by omega) (by omega))
end
section
open Go Go.RowKit
structure Env (w:World):Prop where
 s:Sgs w
 l:Lvs w
 h:Shp w
theorem Env.next {w w':World} (h:Env w) (hb:Below w.heap.size w w'):Env w':=⟨h.s.next hb,h.l.next hb,h.h.next hb⟩
theorem XD {w:World} {B:Nat} {A:Option Addr} {cs:List Value} (h:Row w B A cs) (p:Addr) (v:Value) (hp:∀a,A=some a→a.block≠p.block):Row (w.setCell p v) B A cs:=by
 rcases h with h|⟨b,o,hA,hb,hc⟩
 ·exact .inl h
 ·refine .inr ⟨b,o,hA,hb,fun j v hv=>?_⟩
  rw[World.cell?_of_block (Below.heap_setCell _ _ _ b (hp _ hA))]
  exact hc j v hv
theorem CalV.set_ {w:World} {c:Cal} (h:CalV w c) (g:Nat) (i:Nat) (v:Value) (h1:∀a,c.A1=some a→g<a.block) (h2:∀a,c.A2=some a→g<a.block):CalV (w.setCell ⟨g,i,none⟩ v) c :=
 ⟨⟨by rw[show(w.setCell ⟨g,i,none⟩ v).heap.size=w.heap.size from by simp];exact XD h.r.r1 _ _ fun a ha=>by have:=h1 a ha;show a.block≠g;omega,by rw[show(w.setCell ⟨g,i,none⟩ v).heap.size=w.heap.size from by simp];exact XD h.r.r2 _ _ fun a ha=>by have:=h2 a ha;show a.block≠g;omega⟩,h.f,h.ok⟩
def ja2 (r:CatRow) (w:World) (e:Ending) (w':World):Prop :=
 ∃c:Cal,e = .returned (.tuple #[c.val,.int .i64 0])∧CalOf r c∧CalV w' c∧(∀a,c.A1=some a→w.heap.size≤a.block)∧(∀a,c.A2=some a→w.heap.size≤a.block)∧Below w.heap.size w w'
theorem jbq (r:CatRow) (hr:r∈jN) (u:Tr) (hu:ReadAs (vs r.t) r.t.ex u) (hf:TrFit u) (w:World) (hin:TrIn w u):Calls Tryz.prog 63 #[u.val] w (ja2 r w):=by
 obtain⟨ok,hl,hn⟩:=Ql r hr
 obtain⟨oku,hp⟩:=jeN ok hu
 have e1:u.nm=r.t.nm:=by rw[hu.nm];exact vW r.t.nm
 have e2:u.ep=r.t.ep:=hu.ep
 have e3:u.cy=r.t.cy:=hu.cy
 have e4:u.mo=r.t.mo:=hu.mo
 have e5:u.leaps u.cy.toNat=r.t.leaps r.t.cy.toNat:=by
  unfold Tr.leaps
  rw[e3]
  exact List.filter_congr fun y _=>by rw[hu.ex.eval y]
 refine(Zy u w hin hf).mono ?_
 rintro e w' ⟨c,E,rfl,hb,h0,h1⟩
 by_cases hE:E=0
 ·subst hE
  obtain⟨⟨_,a1,a2,a3,a4,a5,a6,a7,a8,a9,a10⟩,_⟩:=h0 rfl
  exact⟨c,rfl,⟨by rw[a1,e1,hn],by rw[a2,e2],by rw[a3,e3],by rw[a4,e4],by rw[a5,e5]⟩,⟨a6,a7,a8⟩,a9,a10,hb⟩
 ·obtain⟨_,j,hj,he,_⟩:=h1 hE oku
  rw[hu.ex.eval,jfh r hr j (by rw[←e3];exact hj)] at he
  exact absurd he hE
theorem ki (r:CatRow) (hr:r∈jN) (w:World) (hv:Env w):Calls Tryz.prog 40 #[.string (str r.nm)] w (ja2 r w):=by
 have HB:=Lib.hid (ja w (Obj.cells qn 70))
 have HX:=Lib.hid (Box.new w 70 qn)
 have HE:=Lib.hid (hv.next HB.out)
 have HT:=Lib.hid (fun w (h:Env w)=>jcs r hr w h.s h.l h.h)
 have HC:=Lib.hid (fun u hu hf w hin=>jbq r hr u hu hf w hin)
 clear hv
 unfold jdj at HT
 unfold ja2 at *
 go_enter Tryz.func40,Tryz.ntmps40
 go_wp2_with fail
 generalize w.alloc (Obj.cells qn 70)=W0 at *
 generalize hg:w.heap.size=g at *
 have HG:=Lib.hid hg
 clear hg
 refine(HT.out _ HE.out).mono ?_
 rintro e w1 ⟨u,rfl,hra,hnw,hft,hb1⟩
 have HX1:=Lib.hid (HX.out.below hb1)
 have HB1:Hid (Below g w w1):=HB.out.trans (hb1.mono (by have:=HX.out.lt;omega))
 have HI1:=Lib.hid hnw.in_
 have HC1:=Lib.hid (fun w hin=>HC.out u hra hft w hin)
 clear hra hnw hft hb1 HX HB HE HT HC
 go_wp2_with fail
 have HX2:=Lib.hid (HX1.out.alloc (Obj.cells u.cells 128))
 have HB2:Hid (Below g w (w1.alloc (Obj.cells u.cells 128))):=HB1.out.alloc (by have:=HX1.out.lt;omega) _
 have HI2:=Lib.hid (HI1.out.next (ja w1 (Obj.cells u.cells 128)))
 clear HX1 HB1 HI1
 generalize w1.alloc (Obj.cells u.cells 128)=w2 at *
 refine(HC1.out _ HI2.out).mono ?_
 rintro e w3 ⟨c,rfl,hof,hcv,ha1,ha2,hb3⟩
 have HX3:=Lib.hid (HX2.out.below hb3)
 have HB3:Hid (Below g w w3):=HB2.out.trans (hb3.mono (by have:=HX2.out.lt;omega))
 have hg2:=HX2.out.lt
 have HA1:Hid (∀a,c.A1=some a→g<a.block):=fun a ha=>by have:=ha1 a ha;omega
 have HA2:Hid (∀a,c.A2=some a→g<a.block):=fun a ha=>by have:=ha2 a ha;omega
 have HOf:=Lib.hid hof
 have HCv:=Lib.hid hcv
 clear hof hcv ha1 ha2 hb3 HX2 HB2 HI2 HC1
 have rf:∀i,w3.frozen? ⟨g,i,none⟩=false:=fun i=>HX3.out.free i
 have r0:w3.cell? ⟨g,0,none⟩=some (.string ⟨#[]⟩):=HX3.out.cell 0
 have r1:w3.cell? ⟨g,1,none⟩=some (.int .i64 0):=HX3.out.cell 1
 have r2:w3.cell? ⟨g,2,none⟩=some (.int .i64 0):=HX3.out.cell 2
 have r3:w3.cell? ⟨g,3,none⟩=some (.slice none 0 0):=HX3.out.cell 3
 have r4:w3.cell? ⟨g,4,none⟩=some (.slice none 0 0):=HX3.out.cell 4
 have hl:=HX3.out.lt
 go_wp2_with fail
 refine bodyPost_ret (v:=.tuple #[c.val,.int .i64 0]) (by simp[results,Tryz.results40,go_sem,r0,r1,r2,r3,r4]) rfl ?_
 refine⟨c,rfl,HOf.out,((((HCv.out.set_ g 0 _ HA1.out HA2.out).set_ g 1 _ HA1.out HA2.out).set_ g 2 _ HA1.out HA2.out).set_ g 3 _ HA1.out HA2.out).set_ g 4 _ HA1.out HA2.out,fun a ha=>by have:=HA1.out a ha;have:=HG.out;omega,fun a ha=>by have:=HA2.out a ha;have:=HG.out;omega,?_⟩
 rw[HG.out]
 exact((((HB3.out.setCell (p:=⟨g,0,none⟩) (Nat.le_refl _) _).setCell (p:=⟨g,1,none⟩) (Nat.le_refl _) _).setCell (p:=⟨g,2,none⟩) (Nat.le_refl _) _).setCell (p:=⟨g,3,none⟩) (Nat.le_refl _) _).setCell (p:=⟨g,4,none⟩) (Nat.le_refl _) _
end
section
open Go Go.RowKit Go.Shelf
attribute [local go_sem] Oper.semAt_some
theorem toList_inj {s t:ByteArray} (h:s.toList=t.toList):s=t:=by
 rw[Lib.toList_data,Lib.toList_data] at h
 have h2:s.data=t.data:=Array.toList_inj.1 h
 cases s
 cases t
 exact congrArg ByteArray.mk h2
theorem Xa (W W9:World) (g D:Nat) (h1:D≠g+1) (h2:D≠g+2) (hx:Box W (g+1) 128 jQ) (he:Box W (g+2) 32 #[.int .i64 0]) {w:World} (hb:Below g w W) (hD:g≤D)
  (h9:W9=(((((((W.setCell ⟨g+1,0,none⟩ (.string ⟨#[]⟩)).setCell ⟨g+1,1,none⟩ (.int .i64 0)).setCell ⟨g+1,2,none⟩ (.int .i64 0)).setCell ⟨g+1,3,none⟩ (.int .i64 0)).setCell ⟨g+1,4,none⟩ (.int .i64 0)).setCell ⟨g+1,5,none⟩ (.slice none 0 0)).setCell ⟨g+1,6,none⟩ (.slice none 0 0)).setCell ⟨g+1+1,0,none⟩ (.int .i64 5)) :
  W9.heap[D]?=W.heap[D]?∧(W9.putObj D (Obj.deferred none)).cell? ⟨g+1,0,none⟩=some (.string ⟨#[]⟩)∧(W9.putObj D (Obj.deferred none)).cell? ⟨g+1,1,none⟩=some (.int .i64 0)∧(W9.putObj D (Obj.deferred none)).cell? ⟨g+1,2,none⟩=some (.int .i64 0)∧(W9.putObj D (Obj.deferred none)).cell? ⟨g+1,3,none⟩=some (.int .i64 0)∧(W9.putObj D (Obj.deferred none)).cell? ⟨g+1,4,none⟩=some (.int .i64 0)∧(W9.putObj D (Obj.deferred none)).cell? ⟨g+1,5,none⟩=some (.slice none 0 0)∧(W9.putObj D (Obj.deferred none)).cell? ⟨g+1,6,none⟩=some (.slice none 0 0)∧(W9.putObj D (Obj.deferred none)).cell? ⟨g+1+1,0,none⟩=some (.int .i64 5)∧Below g w (W9.putObj D (Obj.deferred none)):=by
 have hP:Only (fun k=>k=D) W9 (W9.putObj D (Obj.deferred none)):=qG W9 _ _ rfl
 have x9:Box W9 (g+1) 128 jQ:=by
  rw[h9]
  exact((((((((hx.set_ 0 _).set_ 1 _).set_ 2 _).set_ 3 _).set_ 4 _).set_ 5 _).set_ 6 _).far (p:=⟨g+1+1,0,none⟩) (by show g+1≠g+1+1;omega) _)
 have hf:∀i,g+2≠(⟨g+1,i,none⟩:Addr).block:=fun i=>by show g+2≠g+1;omega
 have e9:Box W9 (g+2) 32 #[.int .i64 5]:=by
  rw[h9]
  exact(((((((he.far (hf 0) _).far (hf 1) _).far (hf 2) _).far (hf 3) _).far (hf 4) _).far (hf 5) _).far (hf 6) _).set_ 0 _
 have hb9:Below g w W9:=by
  rw[h9]
  exact(((((((hb.setCell (p:=⟨g+1,0,none⟩) (by show g≤g+1;omega) _).setCell (p:=⟨g+1,1,none⟩) (by show g≤g+1;omega) _).setCell (p:=⟨g+1,2,none⟩) (by show g≤g+1;omega) _).setCell (p:=⟨g+1,3,none⟩) (by show g≤g+1;omega) _).setCell (p:=⟨g+1,4,none⟩) (by show g≤g+1;omega) _).setCell (p:=⟨g+1,5,none⟩) (by show g≤g+1;omega) _).setCell (p:=⟨g+1,6,none⟩) (by show g≤g+1;omega) _).setCell (p:=⟨g+1+1,0,none⟩) (by show g≤g+1+1;omega) _
 have x:=hP.box x9 (by omega)
 have e:=hP.box e9 (by omega)
 refine⟨?_,x.cell 0,x.cell 1,x.cell 2,x.cell 3,x.cell 4,x.cell 5,x.cell 6,e.cell 0,hb9.trans (qj _ hP (fun k hk=>by omega) (by have:=hx.lt;have:=he.lt;have h:=congrArg (fun w=>w.heap.size) h9;simp at h;omega))⟩
 have hd1:D≠(⟨g+1,0,none⟩:Addr).block:=h1
 rw[h9,Below.heap_setCell _ _ _ D (show D≠g+1+1 from h2),Below.heap_setCell _ _ _ D h1,Below.heap_setCell _ _ _ D h1,Below.heap_setCell _ _ _ D h1,Below.heap_setCell _ _ _ D h1,Below.heap_setCell _ _ _ D h1,Below.heap_setCell _ _ _ D h1,Below.heap_setCell _ _ _ D h1]
theorem jd6 (nm:ByteArray) (hno:∀r∈jN,str r.nm≠nm) (w:World) (h:Shp w):Calls Tryz.prog 62 #[.string nm] w fun e w'=>e = .returned (.tuple #[.agg jQ,.int .i64 5])∧Below w.heap.size w w':=by
 have HNO:=Lib.hid hno
 clear hno
 refine(callsIn_wide (n:=3)).1 ?_
 refine callsIn_of_wp_marks Tryz.func62 rfl trivial ?_ rfl
 simp only[Tryz.ntmps62,List.size_toArray,List.length_cons,List.length_nil,Nat.reduceAdd,Nat.reduceSub,Array.replicate_succ,Array.replicate_zero,List.push_toArray,List.append_toArray,List.nil_append,List.cons_append]
 rw[Yz]
 case h=>kernel_rfl
 have hT:=kE
 have hP:=Lib.hid yn
 have HS:=Lib.hid (fun s sep W=>zY s sep W)
 generalize vF=T at *
 gi_wp2_with (refine⟨trivial,?_⟩;gi_at_call 50;refine(callsIn_wide.2 (HS.out _ _ _)).mono ?_;rintro e w' ⟨rfl,rfl⟩)
 have hB0:=Lib.hid (jJ w (Obj.cells #[.string nm] 9) (Obj.cells jQ 128) (Obj.cells #[.int .i64 0] 32))
 have hN0:=((Box.new w 9 #[.string nm]).alloc (Obj.cells jQ 128)).alloc (Obj.cells #[.int .i64 0] 32)
 have hO0:=(Box.new (w.alloc (Obj.cells #[.string nm] 9)) 128 jQ).alloc (Obj.cells #[.int .i64 0] 32)
 have hE0:=Box.new ((w.alloc (Obj.cells #[.string nm] 9)).alloc (Obj.cells jQ 128)) 32 #[.int .i64 0]
 have hx:=yk (((w.alloc (Obj.cells #[.string nm] 9)).alloc (Obj.cells jQ 128)).alloc (Obj.cells #[.int .i64 0] 32)) (str T) ⟨#[10]⟩
 rw[World.size_alloc,World.size_alloc,World.size_alloc] at hx
 simp only[World.size_alloc] at hO0 hE0
 obtain⟨x1,x2,x3,x4,x5⟩:=hx
 have hN:=Lib.hid (hN0.belowB x4 (by omega))
 have hO:=Lib.hid (hO0.belowB x4 (by omega))
 have hE:=Lib.hid (hE0.belowB x4 (by omega))
 have hB:=Lib.hid (hB0.out.trans (x4.mono (by omega)))
 have hS:=Lib.hid (h.next hB.out)
 have hm:=h.lt
 clear x4 hB0 hN0 hO0 hE0 HS h
 generalize JS (((w.alloc (Obj.cells #[.string nm] 9)).alloc (Obj.cells jQ 128)).alloc (Obj.cells #[.int .i64 0] 32)) (str T) ⟨#[10]⟩=W0 at *
 generalize hg:w.heap.size=g at *
 have HG:=Lib.hid hg
 clear hg
 generalize hb3:g+1+1+1=b at *
 have hb3a:b≤g+3:=by omega
 have hb3b:g+3≤b:=by omega
 clear hb3
 refine qO (F:=Fence.wide) rfl (by omega) (gf:=92) (lb:=#[.pointer (some ⟨b+1,0,none⟩),.pointer (some ⟨b,0,none⟩),.pointer (some ⟨b+2,0,none⟩)]) rfl trivial (enters_of Tryz.func92 (by kernel_rfl) rfl)
  (enc:=fun x=>.string (str x)) (own:=fun k=>k=b) (kp:=zc b) (xs:=yj)
  (fun W hW=>yi _ b (by omega) ⟨#[10]⟩ (by decide) (by decide) T (by omega) yj hP.out W (hW.box x1 id) (hW.box x2 id) (hW.box x3 id) (hS.out.only hW id) (by omega)) (fun k hk=>.inl hk)
  (fun k hk=>by rcases hk with h|h|h|h<;>omega) rfl
  (fun pre W=>Box W g 9 #[.string nm]∧Box W (g+1) 128 jQ∧Box W (g+2) 32 #[.int .i64 0]∧Below g w W∧Shp W)
  (fun _ _ _=>False)
  ?hI ?hIx ⟨hN.out,hO.out,hE.out,hB.out,hS.out⟩
  (fun x=>{tmps:=#[.string nm,.pointer (some ⟨g,0,none⟩),.pointer (some ⟨g+1,0,none⟩),.pointer (some ⟨g+1+1,0,none⟩),.string (str x),undef,undef,undef,undef,undef,undef,Kq b,.string (str x),undef,undef,undef,undef,undef,undef,undef,undef,undef,undef,undef,undef,undef,undef,undef,undef,undef,undef,undef],defers:=[]}) ?assign ?body ?done ?stop
 case hI =>
  rintro pre A B ⟨h1,h2,h3,h4,h5⟩ hAB
  have hAs:=h3.lt
  exact⟨hAB.box h1 (by omega),hAB.box h2 (by omega),hAB.box h3 (by omega),h4.trans (qj _ hAB (fun k hk=>by omega) (by omega)),h5.only hAB (by omega)⟩
 case hIx=>exact fun _ _ _ _ h _=>h.elim
 case assign =>
  intro l x W K hK
  gi_wp2
  exact hK
 case body =>
  rintro l pre x rest W hxs hlt ⟨h1,h2,h3,h4,h5⟩
  have hmem:x∈yj:=by rw[hxs];simp
  obtain⟨r',hr',rfl⟩:=List.mem_map.1 hmem
  have hxl:=kc r' hr'
  have hcut:=Jw r' hr'
  have HC:=Lib.hid (ka (str r'.line) 32 W (by rw[jt];omega) h5)
  rw[qC,hcut] at HC
  clear hcut
  have t1:((str r'.nm).toList==nm.toList)=false:=by
   rw[beq_eq_false_iff_ne]
   intro e
   exact HNO.out r' hr' (toList_inj e)
  have HH4:=Lib.hid h4
  have HH5:=Lib.hid h5
  clear h4 h5
  have hv:=h1.cell 0
  gi_wp2_with (refine⟨trivial,?_⟩;gi_at_call 51;refine(CallsIn.inRound l (callsIn_wide.2 HC.out)).mono ?_;rintro e w1 ⟨rfl,hb⟩;have q1:=h1.below hb;have hsz:=hb.size;have HB1:=Lib.hid hb;have hv1:=q1.cell 0;clear h1 hb hv HC)
  have HO:=jH (p:=fun k=>¬(zc b k∨k=W0.heap.size∨k=W0.heap.size+1)) HB1.out
  exact⟨HO,q1,h2.below HB1.out,h3.below HB1.out,HH4.out.trans (HB1.out.mono (by have:=h3.lt;omega)),HH5.out.next HB1.out⟩
 case done =>
  rintro W hlt ⟨h1,h2,h3,h4,h5⟩ hK
  have HH4:=Lib.hid h4
  have c0:W.cell? ⟨g+1,0,none⟩=some (.string ⟨#[]⟩):=h2.cell 0
  have c1:W.cell? ⟨g+1,1,none⟩=some (.int .i64 0):=h2.cell 1
  have c2:W.cell? ⟨g+1,2,none⟩=some (.int .i64 0):=h2.cell 2
  have c3:W.cell? ⟨g+1,3,none⟩=some (.int .i64 0):=h2.cell 3
  have c4:W.cell? ⟨g+1,4,none⟩=some (.int .i64 0):=h2.cell 4
  have c5:W.cell? ⟨g+1,5,none⟩=some (.slice none 0 0):=h2.cell 5
  have c6:W.cell? ⟨g+1,6,none⟩=some (.slice none 0 0):=h2.cell 6
  have cf:∀i,W.frozen? ⟨g+1,i,none⟩=false:=h2.free
  have cl:g+1<W.heap.size:=h2.lt
  have d0:W.cell? ⟨g+1+1,0,none⟩=some (.int .i64 0):=h3.cell 0
  have df:∀i,W.frozen? ⟨g+1+1,i,none⟩=false:=h3.free
  have dl:g+1+1<W.heap.size:=h3.lt
  have HEnd:=Lib.hid (Xa W _ g W0.heap.size (by omega) (by omega) h2 h3 h4 (by omega) rfl)
  have HG9:=Lib.hid HG.out
  clear h4 h5 h2 h3 h1
  gi_wp2
  refine⟨by simp,.inl ⟨_,_,rfl,run_takeDeferred (b:=W0.heap.size) (ds:=[]) (HEnd.out.1.trans hK),?_⟩⟩
  obtain⟨_,k0,k1,k2,k3,k4,k5,k6,k7,k8⟩:=HEnd.out
  refine⟨.tuple #[.agg jQ,.int .i64 5],by simp[results,Tryz.results62,go_sem,k0,k1,k2,k3,k4,k5,k6,k7,jQ],rfl,?_⟩
  rw[HG9.out]
  exact k8
 case stop=>exact fun c pre W _ _ h _=>h.elim
theorem Xf (nm:ByteArray) (hno:∀r∈jN,str r.nm≠nm) (w:World) (hv:Env w):Calls Tryz.prog 40 #[.string nm] w fun e w'=>e = .returned (.tuple #[.agg qn,.int .i64 5])∧Below w.heap.size w w':=by
 have HB:=Lib.hid (ja w (Obj.cells qn 70))
 have HX:=Lib.hid (Box.new w 70 qn)
 have HT:=Lib.hid (jd6 nm hno (w.alloc (Obj.cells qn 70)) (hv.h.next HB.out))
 clear hv hno
 go_enter Tryz.func40,Tryz.ntmps40
 go_wp2_with fail
 generalize w.alloc (Obj.cells qn 70)=W0 at *
 generalize hg:w.heap.size=g at *
 have HG:=Lib.hid hg
 clear hg
 refine HT.out.mono ?_
 rintro e w1 ⟨rfl,hb1⟩
 have HX1:=Lib.hid ((HX.out.below hb1).alloc (Obj.cells jQ 128))
 have HB1:Hid (Below g w (w1.alloc (Obj.cells jQ 128))):=(HB.out.trans (hb1.mono (by have:=HX.out.lt;omega))).alloc (by have:=(HX.out.below hb1).lt;omega) _
 clear hb1 HX HB HT
 go_upto_region 2 with fail
 generalize w1.alloc (Obj.cells jQ 128)=w2 at *
 have rf:∀i,w2.frozen? ⟨g,i,none⟩=false:=fun i=>HX1.out.free i
 have r0:w2.cell? ⟨g,0,none⟩=some (.string ⟨#[]⟩):=HX1.out.cell 0
 have r1:w2.cell? ⟨g,1,none⟩=some (.int .i64 0):=HX1.out.cell 1
 have r2:w2.cell? ⟨g,2,none⟩=some (.int .i64 0):=HX1.out.cell 2
 have r3:w2.cell? ⟨g,3,none⟩=some (.slice none 0 0):=HX1.out.cell 3
 have r4:w2.cell? ⟨g,4,none⟩=some (.slice none 0 0):=HX1.out.cell 4
 have hl:=HX1.out.lt
 go_wp2_with fail
 refine bodyPost_ret (v:=.tuple #[.agg qn,.int .i64 5]) (by simp[results,Tryz.results40,go_sem,r0,r1,r2,r3,r4,qn]) rfl ?_
 refine⟨rfl,?_⟩
 rw[HG.out]
 exact((((HB1.out.setCell (p:=⟨g,0,none⟩) (Nat.le_refl _) _).setCell (p:=⟨g,1,none⟩) (Nat.le_refl _) _).setCell (p:=⟨g,2,none⟩) (Nat.le_refl _) _).setCell (p:=⟨g,3,none⟩) (Nat.le_refl _) _).setCell (p:=⟨g,4,none⟩) (Nat.le_refl _) _
end
end Go.Proofs.YtkkjaaognefeiaaGreatDoor
