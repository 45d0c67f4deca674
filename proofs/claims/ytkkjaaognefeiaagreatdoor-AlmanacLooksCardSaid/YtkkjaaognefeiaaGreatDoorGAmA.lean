/- AmA, AmB, AmC, AmD, AmE, AmF, AmG, AmH -/
import Derived.Test.YtkkjaaognefeiaaGreatDoorGFwA
import Derived.Test.YtkkjaaognefeiaaGreatDoorGSv7
set_option maxRecDepth 100000
set_option maxHeartbeats 16000000
set_option linter.unusedVariables false
set_option linter.unusedSimpArgs false
namespace Go.Proofs.YtkkjaaognefeiaaGreatDoor
section
open Go.Lib Go.RowKit
theorem jag (n:Nat) (w:World) (h0:0<n) (hn:n≤1000000) :
  Calls Tryz.prog 49 #[.slice none 0 0,.int .i64 (n:Int)] w fun e w'=>∃cap,e = .returned (.slice (some ⟨w.heap.size,0,none⟩) 0 cap)∧w'.ownsRow w.heap.size 9 1 (.slice (some ⟨w.heap.size,0,none⟩) 0 cap) 0 []∧Below w.heap.size w w':=by
 obtain⟨i0,hi0,hz0,hz1,hz2⟩:=info_parts yb
 have hrz:∀ty,(Builtin.append_ #[25,3] ty #[.slice none 0 0,.int .i64 (n:Int)]).run Tryz.prog w =
   .ok (.slice (some ⟨w.heap.size,0,none⟩) n (grownCap w n 0 9)) (w.drew.alloc (.cells (#[]++Builtin.zeroCells (Value.string ⟨#[]⟩).cells n++Builtin.zeroCells (Value.string ⟨#[]⟩).cells (grownCap w n 0 9-n)) 9)):=fun ty=>by
  have h:=Lib.run_append_grow_zeros w 25 3 ty 9 i0 (.string ⟨#[]⟩) .i64 .i64 Tryz.underlying25 Tryz.underlying3 hi0 hz0 none 0 0 [] (run_firstCells_none w.drew i0.size 0 0 0) n (by omega) (by omega) (by omega) (by omega)
   (by rw[hz2];omega)
   (by rw[Nat.zero_add];exact growslice_fits (by omega) (by rw[hz2];omega))
  rw[Nat.zero_add] at h
  exact h
 have hGn:n≤grownCap w n 0 9:=grownCap_ge w _ _ _
 have hG63:=grownCap_le_maxLen w n 0 9 (by unfold maxLen;omega)
 obtain⟨G,hG⟩:∃G,G=grownCap w n 0 9:=⟨_,rfl⟩
 rw[←hG] at hrz hGn hG63
 clear hG
 have hsz:(#[]++Builtin.zeroCells (Value.string ⟨#[]⟩).cells n++Builtin.zeroCells (Value.string ⟨#[]⟩).cells (G-n)).size=G*1:=by
  simp[Builtin.zeroCells,Value.cells];omega
 obtain⟨CS,hCS⟩:∃CS,CS=(#[]++Builtin.zeroCells (Value.string ⟨#[]⟩).cells n++Builtin.zeroCells (Value.string ⟨#[]⟩).cells (G-n)):=⟨_,rfl⟩
 rw[←hCS] at hrz hsz
 clear hCS
 have h63:=hG63
 unfold maxLen at h63
 have HZ:=hD hsz
 have HM:=hD hG63
 clear hsz hG63
 go_enter Tryz.func49,Tryz.ntmps49
 go_wp2_with (at_builtin;refine Lib.wpList_append_run _ rfl _ _ _ _ rfl _ _ rfl rfl _ _ (hrz _) ?_)
 all_goals go_ret
 all_goals exact⟨G,rfl,World.ownsRow_made _ CS G (Nat.le_refl _) HM.out HZ.out,(jd (Below.refl _ _) 1).alloc (Nat.le_refl _) _⟩
theorem kG {w:World} {b o:Nat} {cs:List Value} (h:∀j v,cs[j]?=some v→w.cell? ⟨b,o+j,none⟩=some v):∀j u,cs[j]?=some u→w.cell? ((⟨b,o,none⟩:Addr).add j)=some u:=fun j u hu=>by
 have:(⟨b,o,none⟩:Addr).add j=⟨b,o+j,none⟩:=by unfold Addr.add;split<;>simp_all
 rw[this];exact h j u hu
theorem xo (w:World):Calls Tryz.prog 18 #[.slice none 0 0] w fun e w'=>e = .returned (.slice none 0 0)∧w'=w:=by
 have hnil:∀w,(binOp .eql 25 (.slice none 0 0) (.slice none 0 0)).run Tryz.prog w = .ok (.bool true) w:=fun w=>Lib.run_eql_slice_nil w 25 _ _ _ _ _ _ Tryz.underlying25
 go_enter Tryz.func18,Tryz.ntmps18
 go_wp2_with fail
 go_ret
 exact⟨rfl,rfl⟩
theorem Js (w:World):Calls Tryz.prog 25 #[.slice none 0 0] w fun e w'=>e = .returned (.slice none 0 0)∧w'=w:=by
 have hnil:∀w,(binOp .eql 46 (.slice none 0 0) (.slice none 0 0)).run Tryz.prog w = .ok (.bool true) w:=fun w=>Lib.run_eql_slice_nil w 46 _ _ _ _ _ _ Tryz.underlying46
 go_enter Tryz.func25,Tryz.ntmps25
 go_wp2_with fail
 go_ret
 exact⟨rfl,rfl⟩
theorem YN (g:Nat) (w:World) (h:w.cell? ⟨g,0,none⟩=some (.slice none 0 0)):Calls Tryz.prog 29 #[.pointer (some ⟨g,0,none⟩)] w fun e w'=>e = .returned (.slice none 0 0)∧w'=w:=by
 go_enter Tryz.func29,Tryz.ntmps29
 go_wp2_with (go_at_call 18;refine(xo _).mono ?_;rintro e w' ⟨rfl,rfl⟩)
 go_ret
 exact⟨rfl,rfl⟩
theorem Km (d:Int) (w:World) (h1 : -4000000≤d) (h2:d<4000000):Calls Tryz.prog 17 #[.int .i64 d] w fun e w'=>e = .returned (.bool true)∧w'=w:=by
 have t1:decide (d<4000000)=true:=decide_eq_true h2
 go_enter Tryz.func17,Tryz.ntmps17
 go_wp2_with (go_at_call 34;refine(kH _ _ h1 (by omega)).mono ?_;rintro e w' ⟨rfl,rfl⟩)
 go_ret
 exact⟨rfl,rfl⟩
theorem XJ (A2:Option Addr) (c2 gs:Nat) (ts:TypeId) (l:List Value) (w:World) (hbx:Box w gs ts #[.slice none 0 0,.slice A2 l.length c2]) (hr2:Row w w.heap.size A2 l) (h2:0<l.length) (hn2:l.length≤1000) (h1:∀u∈l,u.oneCell'=true) :
  Calls Tryz.prog 28 #[.slice (some ⟨gs,0,none⟩) 2 2] w fun e w'=>∃v,e = .returned v∧w'.ownsRow w.heap.size 9 1 v l.length l∧Below w.heap.size w w':=by
 obtain⟨i0,hi0,hz0,hz1,hz2⟩:=info_parts yb
 obtain⟨b2,o2,rfl,hb2,hcs2⟩:=hr2.open_ (fun e=>by rw[e] at h2;simp at h2)
 have x0:w.cell? ⟨gs,0,none⟩=some (.slice none 0 0):=hbx.cell 0
 have x1:w.cell? ⟨gs,1,none⟩=some (.slice (some ⟨b2,o2,none⟩) l.length c2):=hbx.cell 1
 have HC2:=hD hcs2
 have HBX:=hD hbx
 have H1:=hD h1
 clear hcs2 hr2 hbx h1
 go_enter Tryz.func28,Tryz.ntmps28
 go_wp2_with fail
 go_loop [3,5,11] (fun s _ i=>(s = .int .i64 0∧i = .int .i64 0)∨(s = .int .i64 0∧i = .int .i64 1)∨(s = .int .i64 (l.length:Int)∧i = .int .i64 2)) (fun _ _ i=>2-(RowKit.intOf i).toNat)
 case atStart=>exact .inl ⟨rfl,rfl⟩
 case round =>
  rcases hrel with⟨rfl,rfl⟩|⟨rfl,rfl⟩|⟨rfl,rfl⟩
  ·go_wp2_with fail
   go_round
   case rel=>exact .inr (.inl ⟨rfl,rfl⟩)
   case measure=>simp[RowKit.intOf]
  ·go_wp2_with fail
   go_round
   case rel=>exact .inr (.inr ⟨by go_num,rfl⟩)
   case measure=>simp[RowKit.intOf]
  ·go_wp2_with fail
   refine(jag l.length w (by omega) (by omega)).mono ?_
   rintro e W1 ⟨cap,rfl,hown,hb⟩
   have HO:=hD hown
   have HB:=hD hb
   clear hown hb x0 x1
   go_wp2_with fail
   go_loopw [6,8,27] (fun v _ i wr=>((i = .int .i64 0∧(∃cap,v = .slice (some ⟨w.heap.size,0,none⟩) 0 cap)∧wr.ownsRow w.heap.size 9 1 v 0 [])∨(i = .int .i64 1∧wr.ownsRow w.heap.size 9 1 v 0 [])∨(i = .int .i64 2∧wr.ownsRow w.heap.size 9 1 v l.length l))∧Hid (Below w.heap.size w wr)) (fun _ _ i _=>2-(RowKit.intOf i).toNat)
   case atStart=>exact⟨.inl ⟨rfl,⟨_,rfl⟩,HO.out⟩,HB⟩
   case round =>
    clear HO HB
    obtain⟨hrel,HB⟩:=hrel
    have bx:=HBX.out.below HB.out
    have x0:wr.cell? ⟨gs,0,none⟩=some (.slice none 0 0):=bx.cell 0
    have x1:wr.cell? ⟨gs,1,none⟩=some (.slice (some ⟨b2,o2,none⟩) l.length c2):=bx.cell 1
    have hz:=HB.out.size
    clear bx
    rcases hrel with⟨rfl,⟨cap,rfl⟩,hown⟩|⟨rfl,hown⟩|⟨rfl,hown⟩
    ·have HO:=hD hown
     clear hown x1
     go_wp2_with fail
     go_roundw
     case rel=>exact⟨.inr (.inl ⟨rfl,HO.out⟩),HB⟩
     case measure=>simp[RowKit.intOf]
    ·go_wp2_with (at_builtin;refine wpList_append_own _ rfl (.tmp 31) (.tmp 32) 25 rfl w.heap.size 9 i0 (.string ⟨#[]⟩) 1 16 Tryz.underlying25 hi0 hz0 hz1 hz2 rfl (by decide) u6 0 [] rfl hown ⟨b2,o2,none⟩ l.length c2 l rfl ?c0 ?c1 ?c2 ?c3 ?c4 ?c5 ?_)
     case c0=>omega
     case c1=>exact kG (fun j v hv=>(HB.out.cell (p:=⟨b2,o2+j,none⟩) hb2).trans (HC2.out j v hv))
     case c2=>exact H1.out
     case c3=>simp only[maxLen];omega
     case c4=>omega
     case c5=>exact hz
     intro v' w3 hown' hgrow _
     have hB3:Hid (Below w.heap.size w w3):=HB.out.grown hgrow hz (fun k hk=>(qq hown k hk).1)
     try simp only[Nat.zero_add,List.nil_append] at hown'
     clear hgrow hown x0 x1
     go_wp2_with fail
     go_roundw
     case rel=>exact⟨.inr (.inr ⟨rfl,hown'⟩),hB3⟩
     case measure=>simp[RowKit.intOf]
    ·clear x0 x1
     go_wp2_with fail
     go_ret
     exact⟨u6,rfl,hown,HB.out⟩
end
section
open Go Go.RowKit Go.Shelf
theorem jaU:(Tryz.prog.info? 24).map (fun i=>(i.zero,i.size,i.bytes))=some (some (.agg #[.int .i64 0,.int .i64 0,.int .i64 0,.string ⟨#[]⟩,.slice none 0 0]),5,64):=by kernel_rfl
theorem jbJ (t:FE):1≤fsz t:=by cases t;simp[fsz]
theorem X7:∀(ks:List FE) (x:FE),x∈ks→fsz x≤zK ks
 | y::r,x,h=>by
  simp only[zK]
  rcases List.mem_cons.1 h with rfl|h
  ·omega
  ·have:=X7 r x h;omega
theorem jes (k:Int):zO k≤2:=by
 unfold zO
 by_cases h1:k=7∨k=8∨k=12
 ·rw[if_pos h1];omega
 ·rw[if_neg h1]
  split<;>omega
def CpQ (w:World) (e:Ending) (w':World):Prop:=∃(k a b:Int) (nm:ByteArray) (A:Option Addr) (n c:Nat),e = .returned (.agg #[.int .i64 k,.int .i64 a,.int .i64 b,.string nm,.slice A n c])∧Below w.heap.size w w'
theorem VY:∀(m:Nat) (t:FE) (w:World),fsz t≤m→FeIn w w.heap.size t→FeOk t→Calls Tryz.prog 19 #[feV t] w (CpQ w)
 | 0,t,w,h,_,_=>by have:=jbJ t;omega
 | m+1,.node k a b nm A c ks,w,hf,hin,hok=>by
  have ih:=VY m
  obtain⟨hl,hks⟩:ks.length≤2∧∀x∈ks,FeOk x:=by cases hok with|mk h1 h2=>exact⟨by have:=h1.len;have:=jes k;omega,h2⟩
  obtain⟨i1,i2,i3,i4,i5,i6,i7⟩:I64 k∧I64 a∧I64 b∧nm.size≤maxLen∧ks.length≤maxLen∧Row w w.heap.size A (ks.flatMap feF)∧∀x∈ks,FeIn w w.heap.size x:=by cases hin with|mk h1 h2 h3 h4 h5 h6 h7=>exact⟨h1,h2,h3,h4,h5,h6,h7⟩
  have hf2:zK ks≤m:=by simp only[fsz] at hf;omega
  have HIH:=hD (fun(x:FE) (hx:x∈ks) (W:World) (hb:Below w.heap.size w W)=>ih x W (Nat.le_trans (X7 ks x hx) hf2) ((i7 x hx).next hb hb.size) (hks x hx))
  have HRow:=hD i6
  obtain⟨i0,hi0,hz0,hz1,hz2⟩:=info_parts jaU
  clear hf hin hok ih i1 i2 i3 i4 i6 i7 hks hf2
  have HX:=hD ((Box.new w 24 #[.int .i64 k,.int .i64 a,.int .i64 b,.string nm,.slice A ks.length c]).alloc (Obj.cells #[.int .i64 0,.int .i64 0,.int .i64 0,.string ⟨#[]⟩,.slice none 0 0] 24))
  have HR:=hD (Box.new (w.alloc (Obj.cells #[.int .i64 k,.int .i64 a,.int .i64 b,.string nm,.slice A ks.length c] 24)) 24 #[.int .i64 0,.int .i64 0,.int .i64 0,.string ⟨#[]⟩,.slice none 0 0])
  rw[World.size_alloc] at HR
  have HB:=hD (jh w (Obj.cells #[.int .i64 k,.int .i64 a,.int .i64 b,.string nm,.slice A ks.length c] 24) (Obj.cells #[.int .i64 0,.int .i64 0,.int .i64 0,.string ⟨#[]⟩,.slice none 0 0] 24))
  show Calls Tryz.prog 19 #[.agg #[.int .i64 k,.int .i64 a,.int .i64 b,.string nm,.slice A ks.length c]] w _
  go_enter Tryz.func19,Tryz.ntmps19
  go_upto_region 2 with fail
  obtain⟨g,hg⟩:∃g,g=w.heap.size:=⟨_,rfl⟩
  have hW0s:((w.alloc (Obj.cells #[.int .i64 k,.int .i64 a,.int .i64 b,.string nm,.slice A ks.length c] 24)).alloc (Obj.cells #[.int .i64 0,.int .i64 0,.int .i64 0,.string ⟨#[]⟩,.slice none 0 0] 24)).heap.size=g+2:=by rw[World.size_alloc,World.size_alloc,hg]
  rw[←hg] at HX HR HB HIH HRow ⊢
  generalize (w.alloc (Obj.cells #[.int .i64 k,.int .i64 a,.int .i64 b,.string nm,.slice A ks.length c] 24)).alloc (Obj.cells #[.int .i64 0,.int .i64 0,.int .i64 0,.string ⟨#[]⟩,.slice none 0 0] 24)=W0 at *
  have HGg:=hD hg
  clear hg
  have x4:W0.cell? ⟨g,4,none⟩=some (.slice A ks.length c):=HX.out.cell 4
  go_wp2_with fail
  clear x4
  go_loopw [3,5,9] (fun s3 _ i wr=>∃(j:Nat) (cs:List Value),j≤ks.length∧i = .int .i64 (j:Int)∧Hid (wr.ownsRow (g+2) 24 5 s3 j cs)∧Hid (Below W0.heap.size W0 wr)) (fun _ _ i _=>ks.length-(intOf i).toNat)
  case atStart=>exact⟨0,[],by omega,rfl,World.ownsRow_nil _ _ _ _,Below.refl _ _⟩
  case round =>
   obtain⟨j,cs,hj,rfl,hown,hbr⟩:=hrel
   rename World=>w5
   by_cases hlt:j<ks.length
   ·obtain⟨bK,oK,hA,hbl,hcs⟩:=HRow.out.open_ (qg qw (by omega) ks (by omega))
    have hcr:∀q v,(ks.flatMap feF)[q]?=some v→w5.cell? ⟨bK,oK+q,none⟩=some v:=fun q v hq=>((HB.out.trans (hbr.out.mono (by omega))).cell (p:=⟨bK,oK+q,none⟩) hbl).trans (hcs q v hq)
    have hxm:=Q4 hlt
    have hcl:=HIH.out _ hxm
    obtain⟨x,hx⟩:∃x,x=ks.getD j fe0:=⟨_,rfl⟩
    have d0:=fun z v hz hv=>jm qw fe0 hcr j z hlt hz v hv
    rw[←hx] at hcl d0
    obtain⟨k1,a1,b1,nm1,A1,c1,ks1⟩:=x
    have e0:=d0 0 _ (by omega) rfl
    have e1:=d0 1 _ (by omega) rfl
    have e2:=d0 2 _ (by omega) rfl
    have e3:=d0 3 _ (by omega) rfl
    have e4:=d0 4 _ (by omega) rfl
    rw[Nat.add_zero] at e0
    clear d0 hcr hcs hx hxm
    subst hA
    have t5:decide ((j:Int)<(ks.length:Int))=true:=decide_eq_true (by omega)
    go_upto_region 5 with fail
    obtain⟨gk,hgk⟩:∃gk,gk=w5.heap.size:=⟨_,rfl⟩
    have hb6:=ja w5 (Obj.cells #[.int .i64 k1,.int .i64 a1,.int .i64 b1,.string nm1,.slice A1 ks1.length c1] 24)
    have hx6:=Box.new w5 24 #[.int .i64 k1,.int .i64 a1,.int .i64 b1,.string nm1,.slice A1 ks1.length c1]
    rw[←hgk] at hx6 ⊢
    have hg5:g+2≤w5.heap.size:=by have:=hbr.out.size;omega
    generalize w5.alloc (Obj.cells #[.int .i64 k1,.int .i64 a1,.int .i64 b1,.string nm1,.slice A1 ks1.length c1] 24)=w6 at *
    obtain⟨z0,z1,z2,z3,z4⟩:=jR hx6
    have HCl:Hid (Calls Tryz.prog 19 #[.agg #[.int .i64 k1,.int .i64 a1,.int .i64 b1,.string nm1,.slice A1 ks1.length c1]] w6 (CpQ w6)) :=
     hcl w6 (HB.out.trans ((hbr.out.mono (by omega)).trans (hb6.mono (by omega))))
    have HB6:=hD (jb hbr.out hb6)
    have HOw6:=hD (jn hown.out hb6)
    have hs6:g+2≤w6.heap.size:=by have:=hb6.size;omega
    have HOw5:=hD hown.out
    clear hcl hbr hown hb6 hgk e0 e1 e2 e3 e4 hx6
    go_wp2_with (first
     | (go_at_call 19;refine HCl.out.mono ?_;rintro e w7 ⟨k2,a2,b2,nm2,A2,n2,c2,rfl,hb7⟩;have HB7:=hD hb7;have HO7:=hD (jn (jn HOw6.out hb7) (ja w7 (Obj.cells #[.int .i64 k2,.int .i64 a2,.int .i64 b2,.string nm2,.slice A2 n2 c2] 24)));have hs7:=hb7.size;clear hb7)
     | (at_builtin;refine wpList_append_own_at _ rfl (.tmp 13) (.tmp 16) 22 rfl (g+2) 24 i0 (.agg #[.int .i64 0,.int .i64 0,.int .i64 0,.string ⟨#[]⟩,.slice none 0 0]) 5 64 Tryz.underlying22 hi0 hz0 hz1 hz2 rfl (by decide) u3 j cs rfl HO7.out ⟨w7.heap.size,0,none⟩ 1 1 [.int .i64 k2,.int .i64 a2,.int .i64 b2,.string nm2,.slice A2 n2 c2] rfl ?c0 ?c1 ?c2 ?c3 ?c4 ?c5 ?_))
    case c0=>rfl
    case c1=>exact Qc (fun z v hv=>by have:=(Box.new w7 24 #[.int .i64 k2,.int .i64 a2,.int .i64 b2,.string nm2,.slice A2 n2 c2]).cell (0+z);rw[this,Nat.zero_add,List.getElem?_toArray];exact hv)
    case c2=>intro u hu;simp at hu;rcases hu with rfl|rfl|rfl|rfl|rfl<;>rfl
    case c3=>simp only[maxLen];omega
    case c4=>omega
    case c5=>simp;omega
    intro v' w9 hown9 hgrow _ hor
    have hz8:(w7.alloc (Obj.cells #[.int .i64 k2,.int .i64 a2,.int .i64 b2,.string nm2,.slice A2 n2 c2] 24)).heap.size=w7.heap.size+1:=World.size_alloc ..
    have HOw9:=hD hown9
    have HB9:Hid (Below W0.heap.size W0 w9):=((HB6.out.trans (HB7.out.mono (HB6.out.size))).trans ((ja w7 _).mono (by have:=HB6.out.size;omega))).grown hgrow (by rw[hz8];have:=HB6.out.size;omega) (fun q hq=>by have:=jY HOw5.out q hq;omega)
    clear hown9 hgrow hor hz8 z0 z1 z2 z3 z4 HB7 HO7
    go_wp2_with fail
    go_roundw
    case rel=>exact⟨j+1,_,by omega,by go_num,HOw9,HB9⟩
    case measure=>simp[intOf];omega
   ·have t5:decide ((j:Int)<(ks.length:Int))=false:=decide_eq_false (by omega)
    have hje:j=ks.length:=by omega
    obtain⟨A3,c3,hv3,_,_⟩:=jI hown.out
    have hx5:=HX.out.below hbr.out
    have hr5:=HR.out.below hbr.out
    have hb5:Below g w w5:=HB.out.trans (hbr.out.mono (by omega))
    have hs5:g+2≤w5.heap.size:=by have:=hbr.out.size;omega
    subst hv3
    have hgr:g≠g+1:=by omega
    obtain⟨z0,z1,z2,z3,z4⟩:=jR hx5
    obtain⟨y0,y1,y2,y3,y4⟩:=jR hr5
    have f4:=hx5.free 4
    have fr0:=hr5.free 0
    have fr1:=hr5.free 1
    have fr2:=hr5.free 2
    have fr3:=hr5.free 3
    have fr4:=hr5.free 4
    have lg:=hx5.lt
    have lr:=hr5.lt
    clear hown hbr HX HR HB HRow HIH
    go_wp2_with fail
    have q0:=hr5.far (p:=⟨g,4,none⟩) (by show g+1≠g;omega) (.slice A3 ks.length c3)
    have q5:=((((q0.set_ 0 (.int .i64 k)).set_ 1 (.int .i64 a)).set_ 2 (.int .i64 b)).set_ 3 (.string nm)).set_ 4 (.slice A3 ks.length c3)
    have q6:Box ((((((w5.setCell ⟨g,4,none⟩ (.slice A3 ks.length c3)).setCell ⟨g+1,0,none⟩ (.int .i64 k)).setCell ⟨g+1,1,none⟩ (.int .i64 a)).setCell ⟨g+1,2,none⟩ (.int .i64 b)).setCell ⟨g+1,3,none⟩ (.string nm)).setCell ⟨g+1,4,none⟩ (.slice A3 ks.length c3)) (g+1) 24 #[.int .i64 k,.int .i64 a,.int .i64 b,.string nm,.slice A3 ks.length c3]:=q5
    have hbF:Below g w ((((((w5.setCell ⟨g,4,none⟩ (.slice A3 ks.length c3)).setCell ⟨g+1,0,none⟩ (.int .i64 k)).setCell ⟨g+1,1,none⟩ (.int .i64 a)).setCell ⟨g+1,2,none⟩ (.int .i64 b)).setCell ⟨g+1,3,none⟩ (.string nm)).setCell ⟨g+1,4,none⟩ (.slice A3 ks.length c3)) :=
     (((((hb5.setCell (p:=⟨g,4,none⟩) (Nat.le_refl g) _).setCell (p:=⟨g+1,0,none⟩) (Nat.le_succ g) _).setCell (p:=⟨g+1,1,none⟩) (Nat.le_succ g) _).setCell (p:=⟨g+1,2,none⟩) (Nat.le_succ g) _).setCell (p:=⟨g+1,3,none⟩) (Nat.le_succ g) _).setCell (p:=⟨g+1,4,none⟩) (Nat.le_succ g) _
    generalize (((((w5.setCell ⟨g,4,none⟩ (.slice A3 ks.length c3)).setCell ⟨g+1,0,none⟩ (.int .i64 k)).setCell ⟨g+1,1,none⟩ (.int .i64 a)).setCell ⟨g+1,2,none⟩ (.int .i64 b)).setCell ⟨g+1,3,none⟩ (.string nm)).setCell ⟨g+1,4,none⟩ (.slice A3 ks.length c3)=wF at *
    obtain⟨r0,r1,r2,r3,r4⟩:=jR q6
    refine bodyPost_ret (v:=.agg #[.int .i64 k,.int .i64 a,.int .i64 b,.string nm,.slice A3 ks.length c3]) (by simp[results,Tryz.results19,go_sem,r0,r1,r2,r3,r4]) rfl ?_
    exact⟨k,a,b,nm,A3,ks.length,c3,rfl,by rw[←HGg.out];exact hbF⟩
end
section
open Go Go.Lib Go.RowKit Go.Shelf
structure PlIn (w:World) (bt bf:Nat) (ti:ByteArray) (t:FE):Prop where
 tx:Box w bt 9 #[.string ti]
 fx:Box w bf 24 (feC t)
 fin:FeIn w w.heap.size t
theorem PlIn.next {w w':World} {bt bf:Nat} {ti:ByteArray} {t:FE} (h:PlIn w bt bf ti t) (hb:Below w.heap.size w w'):PlIn w' bt bf ti t:=⟨h.tx.below hb,h.fx.below hb,h.fin.next hb hb.size⟩
abbrev Kd (bt bf:Nat):Value:=.agg #[.slice none 0 0,.slice (some ⟨bt,0,none⟩) 1 1,.slice (some ⟨bf,0,none⟩) 1 1]
def jd8 (t:FE) (w:World) (e:Ending) (w':World):Prop:=∃E:Int,e = .returned (.int .i64 E)∧(E=0↔FeGood t)∧Below w.heap.size w w'
theorem zP {w:World} {base:Nat} {e:TypeId} {s:Nat} {A:Option Addr} {n c:Nat} {xs:List Value} (h:w.ownsRow base e s (.slice A n c) n xs):Row w w.heap.size A xs:=by
 by_cases hn:0<n
 ·obtain⟨g,cap,hv,_,hlt⟩:=h.form hn
  have hA:A=some ⟨g,0,none⟩:=by injection hv
  subst hA
  refine .inr ⟨g,0,rfl,hlt,fun j v hv=>?_⟩
  have:=h.cells (g:=g) rfl j v hv
  rw[Nat.zero_add]
  rw[xM,Nat.zero_add] at this
  exact this
 ·have h0:n=0:=by omega
  subst h0
  have:=h.1
  exact .inl (List.eq_nil_of_length_eq_zero (by simpa using this))
theorem Xz (gr bt bf:Nat) (ti:ByteArray) (t:FE) (w:World) (hv:Env w) (hg:gr<w.heap.size) (h0:w.cell? ⟨gr,0,none⟩=some (.slice none 0 0)) (hp:PlIn w bt bf ti t) (hti:qo ti) :
  Calls Tryz.prog 15 #[.pointer (some ⟨gr,0,none⟩),Kd bt bf] w (jd8 t w):=by
 have hts:ti.size≤maxLen:=by have:=hti.2.1;unfold maxLen;omega
 obtain⟨t0,ht0⟩:∃t0,t0=t:=⟨_,rfl⟩
 obtain⟨k,a,b,nm,A,c,ks⟩:=t
 have HV:=hD (fun W (h:Below w.heap.size w W)=>hv.next h)
 have HP:=hD (fun W (h:Below w.heap.size w W)=>hp.next h)
 have HRg:=hD (fun W (h:Below w.heap.size w W)=>YN gr W ((h.cell (p:=⟨gr,0,none⟩) hg).trans h0))
 have HNm:=hD (fun W (h:Below w.heap.size w W)=>Kj W (hv.next h).h)
 have HIs:=hD (fun W=>vH ti W hts)
 have HCk:=hD (fun W (h:Below w.heap.size w W)=>JJ (.node k a b nm A c ks) W (hv.next h) (hp.next h).fin)
 have HTi:=hD hti
 rw[ht0.symm] at HCk ⊢
 have HT0:=hD ht0
 have e1:feV t0 = .agg #[.int .i64 k,.int .i64 a,.int .i64 b,.string nm,.slice A ks.length c]:=by rw[ht0];rfl
 rw[e1] at HCk
 clear ht0 hv hp h0 e1 hti hts
 have HB1:=hD (ja w (.cells #[.slice none 0 0,.slice (some ⟨bt,0,none⟩) 1 1,.slice (some ⟨bf,0,none⟩) 1 1] 28))
 have HX:=hD (Box.new w 28 #[.slice none 0 0,.slice (some ⟨bt,0,none⟩) 1 1,.slice (some ⟨bf,0,none⟩) 1 1])
 go_enter Tryz.func15,Tryz.ntmps15
 go_upto_region 1 with fail
 obtain⟨g,hgw⟩:∃g,g=w.heap.size:=⟨_,rfl⟩
 have hw1s:g+1=(w.alloc (.cells #[.slice none 0 0,.slice (some ⟨bt,0,none⟩) 1 1,.slice (some ⟨bf,0,none⟩) 1 1] 28)).heap.size:=by rw[World.size_alloc,hgw]
 rw[←hgw] at HB1 HX HV HP HRg HNm HCk ⊢
 generalize w.alloc (.cells #[.slice none 0 0,.slice (some ⟨bt,0,none⟩) 1 1,.slice (some ⟨bf,0,none⟩) 1 1] 28)=w1 at *
 have HG:=hD hgw
 have HGr:=hD hg
 clear hgw hg
 have x0:w1.cell? ⟨g,0,none⟩=some (.slice none 0 0):=HX.out.cell 0
 have x1:w1.cell? ⟨g,1,none⟩=some (.slice (some ⟨bt,0,none⟩) 1 1):=HX.out.cell 1
 have x2:w1.cell? ⟨g,2,none⟩=some (.slice (some ⟨bf,0,none⟩) 1 1):=HX.out.cell 2
 go_upto_region 6 with(first
  | (go_at_call 29;refine(HRg.out _ HB1.out).mono ?_;rintro e w' ⟨rfl,hh⟩;have hh:=hh.symm;subst hh)
  | (go_at_call 30;refine(HNm.out _ HB1.out).mono ?_;rintro e w2 ⟨v,rfl,ho,hb2⟩;obtain⟨A2,c2,rfl,_,_⟩:=jI ho;have HO:=hD ho;have HB2:=hD hb2;clear ho hb2 x0 x1 x2)
  | (go_at_call 28;have hN:(ZH yj).length=40:=(by simp[ZH];decide);refine(XJ A2 c2 w2.heap.size _ (ZH yj) _ (by rw[hN];exact Box.new w2 _ _) (((zP HO.out).below (ja w2 _)).more (by rw[World.size_alloc];omega)) (by omega) (by omega) (fun u hu=>by(simp only[ZH,List.mem_map] at hu);(obtain⟨x,_,rfl⟩:=hu);rfl)).mono ?_;rintro e w3 ⟨v3,rfl,_,hb3⟩;have HB3:=hD hb3;clear hb3 hN))
 have HB4:=hD (jb (jb HB2.out (ja w2 _)) HB3.out)
 clear HB2 HB3 HO HRg HNm
 have x0:w3.cell? ⟨g,0,none⟩=some (.slice none 0 0):=(HX.out.below HB4.out).cell 0
 have x1:w3.cell? ⟨g,1,none⟩=some (.slice (some ⟨bt,0,none⟩) 1 1):=(HX.out.below HB4.out).cell 1
 have x2:w3.cell? ⟨g,2,none⟩=some (.slice (some ⟨bf,0,none⟩) 1 1):=(HX.out.below HB4.out).cell 2
 have HB5:Hid (Below g w w3):=HB1.out.trans (HB4.out.mono (by omega))
 have y0:w3.cell? ⟨bt,0,none⟩=some (.string ti):=(HP.out w3 HB5.out).tx.cell 0
 have hfx:Box w3 bf 24 #[.int .i64 k,.int .i64 a,.int .i64 b,.string nm,.slice A ks.length c]:=(HP.out w3 HB5.out).fx
 obtain⟨z0,z1,z2,z3,z4⟩:=jR hfx
 clear hfx HB4 HX HB1
 have h3s:g≤w3.heap.size:=by have:=HB5.out.size;have:=HG.out;omega
 go_wp2_with fail
 go_loop [6,7,38] (fun _ _ i=>i = .int .i64 0) (fun _ _ _=>0)
 case atStart=>rfl
 case round =>
  subst hrel
  go_wp2_with fail
  go_loop [9,61] (fun _ i=>i = .int .i64 0∨i = .int .i64 1) (fun _ i=>1-(RowKit.intOf i).toNat)
  case atStart=>exact .inl rfl
  case round =>
   rcases hrel with rfl|rfl
   ·go_wp2_with (go_at_call 32;refine(HIs.out _).mono ?_;rintro e w' ⟨bb,rfl,hbb,hh⟩;subst hh;(obtain rfl:bb=true:=hbb.2 HTi.out);clear hbb)
    go_round
    case rel=>exact .inr rfl
    case measure=>simp[RowKit.intOf]
   ·go_wp2_with fail
    go_loopw [11,12,72] (fun _ _ i wr=>(i = .int .i64 0∧wr=w3)∨(i = .int .i64 1∧Hid (FeGood t0)∧Hid (Below g w wr))) (fun _ _ i _=>1-(RowKit.intOf i).toNat)
    case atStart=>exact .inl ⟨rfl,rfl⟩
    case round =>
     rcases hrel with⟨rfl,hh⟩|⟨rfl,HGd,HBr⟩
     ·have hh:=hh.symm
      subst hh
      have hbA:=ja w3 (.cells #[.int .i64 k,.int .i64 a,.int .i64 b,.string nm,.slice A ks.length c] 24)
      have hxA:=Box.new w3 24 #[.int .i64 k,.int .i64 a,.int .i64 b,.string nm,.slice A ks.length c]
      go_upto_region 23 with fail
      have HB6:Hid (Below g w (w3.alloc (.cells #[.int .i64 k,.int .i64 a,.int .i64 b,.string nm,.slice A ks.length c] 24))):=HB5.out.trans (hbA.mono (by omega))
      have hs6:g≤(w3.alloc (.cells #[.int .i64 k,.int .i64 a,.int .i64 b,.string nm,.slice A ks.length c] 24)).heap.size:=by rw[World.size_alloc];omega
      generalize w3.alloc (.cells #[.int .i64 k,.int .i64 a,.int .i64 b,.string nm,.slice A ks.length c] 24)=w6 at *
      clear x0 x1 x2 y0 z0 z1 z2 z3 z4 hbA
      obtain⟨z0,z1,z2,z3,z4⟩:=jR hxA
      clear hxA
      go_upto_region 24 with(go_at_call 33;refine(HCk.out _ HB6.out).mono ?_;rintro e w7 ⟨E,rfl,hE,hb7⟩;have HB7:=hD hb7;have HE:=hD hE;clear hb7 hE)
      have HB8:Hid (Below g w w7):=HB6.out.trans (HB7.out.mono (by omega))
      by_cases hE0:E=0
      ·have hgd:=HE.out.1 hE0
       subst hE0
       have HGd:=hD hgd
       clear hgd HE
       go_wp2_with fail
       go_roundw
       case rel=>exact .inr ⟨rfl,HGd,HB8⟩
       case measure=>simp[RowKit.intOf]
      ·have tE:decide (E=0)=false:=decide_eq_false hE0
       go_wp2_with fail
       go_ret
       exact⟨E,rfl,HE.out,by rw[←HG.out];exact HB8.out⟩
     ·go_wp2_with fail
      go_ret
      exact⟨0,rfl,⟨fun _=>HGd.out,fun _=>rfl⟩,by rw[←HG.out];exact HBr.out⟩
structure DF where
 d:Int
 wd:Int
 A:Option Addr
 n:Nat
 c:Nat
 r1:Int
 r2:Int
 s1:Int
 s2:Int
 su:Int
 ph:Int
def dfF (x:DF):List Value:=[.int .i64 x.d,.int .i64 x.wd,.slice none 0 0,.slice x.A x.n x.c,.int .i64 x.r1,.int .i64 x.r2,.int .i64 x.s1,.int .i64 x.s2,.int .i64 x.su,.int .i64 x.ph]
def tlB (b:Bool) (ti:ByteArray):List Value:=if b then[.string ti] else[]
structure DF.ok (x:DF) (w:World) (base:Nat) (t:FE) (ti:ByteArray):Prop where
 row:∃b:Bool,(b=true↔jC t x.d)∧w.ownsRow base 9 1 (.slice x.A x.n x.c) x.n (tlB b ti)
def jeh (t:FE) (ti:ByteArray) (day:Int) (w:World) (e:Ending) (w':World):Prop:=∃x:DF,e = .returned (.agg (dfF x).toArray)∧x.d=day∧x.ok w' w.heap.size t ti∧Below w.heap.size w w'
theorem qu {w:World} {g:Nat} {ty:TypeId} {v0 v1 v2 v3 v4 v5 v6 v7 v8 v9:Value} (h:Box w g ty #[v0,v1,v2,v3,v4,v5,v6,v7,v8,v9]):w.cell? ⟨g,0,none⟩=some v0∧w.cell? ⟨g,1,none⟩=some v1∧w.cell? ⟨g,2,none⟩=some v2∧w.cell? ⟨g,3,none⟩=some v3∧w.cell? ⟨g,4,none⟩=some v4∧w.cell? ⟨g,5,none⟩=some v5∧w.cell? ⟨g,6,none⟩=some v6∧w.cell? ⟨g,7,none⟩=some v7∧w.cell? ⟨g,8,none⟩=some v8∧w.cell? ⟨g,9,none⟩=some v9 :=
 ⟨h.cell 0,h.cell 1,h.cell 2,h.cell 3,h.cell 4,h.cell 5,h.cell 6,h.cell 7,h.cell 8,h.cell 9⟩
theorem yQ {W:World} {g:Nat} {ty:TypeId} {v0 v1 v2 v3 v4 v5 v6 v7 v8 v9:Value} (h:Box W g ty #[v0,v1,v2,v3,v4,v5,v6,v7,v8,v9]) (x0 x1 x2 x3 x4 x5 x6 x7 x8 x9:Value):Box ((((((((((W.setCell ⟨g,0,none⟩ x0).setCell ⟨g,1,none⟩ x1).setCell ⟨g,2,none⟩ x2).setCell ⟨g,3,none⟩ x3).setCell ⟨g,4,none⟩ x4).setCell ⟨g,5,none⟩ x5).setCell ⟨g,6,none⟩ x6).setCell ⟨g,7,none⟩ x7).setCell ⟨g,8,none⟩ x8).setCell ⟨g,9,none⟩ x9) g ty #[x0,x1,x2,x3,x4,x5,x6,x7,x8,x9]∧(∀q,q≠g→((((((((((W.setCell ⟨g,0,none⟩ x0).setCell ⟨g,1,none⟩ x1).setCell ⟨g,2,none⟩ x2).setCell ⟨g,3,none⟩ x3).setCell ⟨g,4,none⟩ x4).setCell ⟨g,5,none⟩ x5).setCell ⟨g,6,none⟩ x6).setCell ⟨g,7,none⟩ x7).setCell ⟨g,8,none⟩ x8).setCell ⟨g,9,none⟩ x9).heap[q]?=W.heap[q]?)∧(∀(B:Nat) (w:World),Below B w W→B≤g→Below B w ((((((((((W.setCell ⟨g,0,none⟩ x0).setCell ⟨g,1,none⟩ x1).setCell ⟨g,2,none⟩ x2).setCell ⟨g,3,none⟩ x3).setCell ⟨g,4,none⟩ x4).setCell ⟨g,5,none⟩ x5).setCell ⟨g,6,none⟩ x6).setCell ⟨g,7,none⟩ x7).setCell ⟨g,8,none⟩ x8).setCell ⟨g,9,none⟩ x9)) :=
 ⟨by
  have h:=h.set_ 0 x0
  simp only[List.setIfInBounds_toArray,List.set_cons_zero,List.set_cons_succ] at h
  have h:=h.set_ 1 x1
  simp only[List.setIfInBounds_toArray,List.set_cons_zero,List.set_cons_succ] at h
  have h:=h.set_ 2 x2
  simp only[List.setIfInBounds_toArray,List.set_cons_zero,List.set_cons_succ] at h
  have h:=h.set_ 3 x3
  simp only[List.setIfInBounds_toArray,List.set_cons_zero,List.set_cons_succ] at h
  have h:=h.set_ 4 x4
  simp only[List.setIfInBounds_toArray,List.set_cons_zero,List.set_cons_succ] at h
  have h:=h.set_ 5 x5
  simp only[List.setIfInBounds_toArray,List.set_cons_zero,List.set_cons_succ] at h
  have h:=h.set_ 6 x6
  simp only[List.setIfInBounds_toArray,List.set_cons_zero,List.set_cons_succ] at h
  have h:=h.set_ 7 x7
  simp only[List.setIfInBounds_toArray,List.set_cons_zero,List.set_cons_succ] at h
  have h:=h.set_ 8 x8
  simp only[List.setIfInBounds_toArray,List.set_cons_zero,List.set_cons_succ] at h
  have h:=h.set_ 9 x9
  simp only[List.setIfInBounds_toArray,List.set_cons_zero,List.set_cons_succ] at h
  exact h,fun q hq=>by rw[Below.heap_setCell _ ⟨g,9,none⟩ _ q hq,Below.heap_setCell _ ⟨g,8,none⟩ _ q hq,Below.heap_setCell _ ⟨g,7,none⟩ _ q hq,Below.heap_setCell _ ⟨g,6,none⟩ _ q hq,Below.heap_setCell _ ⟨g,5,none⟩ _ q hq,Below.heap_setCell _ ⟨g,4,none⟩ _ q hq,Below.heap_setCell _ ⟨g,3,none⟩ _ q hq,Below.heap_setCell _ ⟨g,2,none⟩ _ q hq,Below.heap_setCell _ ⟨g,1,none⟩ _ q hq,Below.heap_setCell _ ⟨g,0,none⟩ _ q hq],fun B w hb hg=>((((((((((hb.setCell (p:=⟨g,0,none⟩) hg x0).setCell (p:=⟨g,1,none⟩) hg x1).setCell (p:=⟨g,2,none⟩) hg x2).setCell (p:=⟨g,3,none⟩) hg x3).setCell (p:=⟨g,4,none⟩) hg x4).setCell (p:=⟨g,5,none⟩) hg x5).setCell (p:=⟨g,6,none⟩) hg x6).setCell (p:=⟨g,7,none⟩) hg x7).setCell (p:=⟨g,8,none⟩) hg x8).setCell (p:=⟨g,9,none⟩) hg x9)⟩
theorem Ys {W:World} {g:Nat} {ty:TypeId} {v0 v1 v2 v3 v4 v5 v6 v7 v8 v9:Value} (h:Box W g ty #[v0,v1,v2,v3,v4,v5,v6,v7,v8,v9]) (x4 x5 x6 x7 x8:Value):Box (((((W.setCell ⟨g,4,none⟩ x4).setCell ⟨g,5,none⟩ x5).setCell ⟨g,6,none⟩ x6).setCell ⟨g,7,none⟩ x7).setCell ⟨g,8,none⟩ x8) g ty #[v0,v1,v2,v3,x4,x5,x6,x7,x8,v9]∧(∀q,q≠g→(((((W.setCell ⟨g,4,none⟩ x4).setCell ⟨g,5,none⟩ x5).setCell ⟨g,6,none⟩ x6).setCell ⟨g,7,none⟩ x7).setCell ⟨g,8,none⟩ x8).heap[q]?=W.heap[q]?)∧(∀(B:Nat) (w:World),Below B w W→B≤g→Below B w (((((W.setCell ⟨g,4,none⟩ x4).setCell ⟨g,5,none⟩ x5).setCell ⟨g,6,none⟩ x6).setCell ⟨g,7,none⟩ x7).setCell ⟨g,8,none⟩ x8)) :=
 ⟨(((((h.set_ 4 x4).set_ 5 x5).set_ 6 x6).set_ 7 x7).set_ 8 x8),fun q hq=>by rw[Below.heap_setCell _ ⟨g,8,none⟩ _ q hq,Below.heap_setCell _ ⟨g,7,none⟩ _ q hq,Below.heap_setCell _ ⟨g,6,none⟩ _ q hq,Below.heap_setCell _ ⟨g,5,none⟩ _ q hq,Below.heap_setCell _ ⟨g,4,none⟩ _ q hq],fun B w hb hg=>(((((hb.setCell (p:=⟨g,4,none⟩) hg x4).setCell (p:=⟨g,5,none⟩) hg x5).setCell (p:=⟨g,6,none⟩) hg x6).setCell (p:=⟨g,7,none⟩) hg x7).setCell (p:=⟨g,8,none⟩) hg x8)⟩
theorem VE (P bt bf:Nat) (rg:Value) (ti:ByteArray) (t:FE) (day:Int) (w:World) (hv:Env w) (hT:SkyT w) (hp:PlIn w bt bf ti t) (hgd:FeGood t) (d0 : -2000000≤day) (d1:day≤2000000) :
  Calls Tryz.prog 20 #[rg,Kd bt bf,.agg #[.int .i64 0,.int .i64 0],.int .i64 day] w (jeh t ti day w):=by
 obtain⟨t0,ht0⟩:∃t0,t0=t:=⟨_,rfl⟩
 obtain⟨k,a,b,nm,A,c,ks⟩:=t
 have HHas:=hD (fun W (h:Below w.heap.size w W)=>jdF (.node k a b nm A c ks) day W (hv.next h) (hp.next h).fin)
 have HP:=hD (fun W (h:Below w.heap.size w W)=>hp.next h)
 have HRf:=hD (fun(ri:Bool) W (h:Below w.heap.size w W)=>jea day ri (by omega) (by omega) W (hT.next h))
 have HMo:=hD (fun W (h:Below w.heap.size w W)=>KE day (by omega) (by omega) W (hT.next h).1)
 obtain⟨ph,hph⟩:∃ph,ph=V8 day:=⟨_,rfl⟩
 rw[←hph] at HMo
 clear hph
 have HWd:=hD (fun W=>Ym day W (by omega) (by omega))
 rw[ht0.symm] at HHas hgd ⊢
 have HGd:=hD hgd
 have HT0:=hD ht0
 have e1:feV t0 = .agg #[.int .i64 k,.int .i64 a,.int .i64 b,.string nm,.slice A ks.length c]:=by rw[ht0];rfl
 rw[e1] at HHas
 clear ht0 hv hp e1 hT hgd
 go_enter Tryz.func20,Tryz.ntmps20
 go_upto_region 2 with fail
 obtain⟨g,hgw⟩:∃g,g=w.heap.size:=⟨_,rfl⟩
 have hbW:=jb (jb (jb (ja w (Obj.cells #[.slice none 0 0,.slice (some ⟨bt,0,none⟩) 1 1,.slice (some ⟨bf,0,none⟩) 1 1] 28)) (ja _ (Obj.cells #[.int .i64 0,.int .i64 0] 38))) (ja _ (Obj.cells #[.int .i64 0,.int .i64 0,.slice none 0 0,.slice none 0 0,.int .i64 0,.int .i64 0,.int .i64 0,.int .i64 0,.int .i64 0,.int .i64 0] 50))) (ja _ (Obj.cells #[.int .i64 day,.int .i64 0,.slice none 0 0,.slice none 0 0,.int .i64 0,.int .i64 0,.int .i64 0,.int .i64 0,.int .i64 0,.int .i64 0] 50))
 have hx0:Box ((((w.alloc (Obj.cells #[.slice none 0 0,.slice (some ⟨bt,0,none⟩) 1 1,.slice (some ⟨bf,0,none⟩) 1 1] 28)).alloc (Obj.cells #[.int .i64 0,.int .i64 0] 38)).alloc (Obj.cells #[.int .i64 0,.int .i64 0,.slice none 0 0,.slice none 0 0,.int .i64 0,.int .i64 0,.int .i64 0,.int .i64 0,.int .i64 0,.int .i64 0] 50)).alloc (Obj.cells #[.int .i64 day,.int .i64 0,.slice none 0 0,.slice none 0 0,.int .i64 0,.int .i64 0,.int .i64 0,.int .i64 0,.int .i64 0,.int .i64 0] 50)) g 28 #[.slice none 0 0,.slice (some ⟨bt,0,none⟩) 1 1,.slice (some ⟨bf,0,none⟩) 1 1]:=by rw[hgw];exact(((Box.new w _ _).alloc _).alloc _).alloc _
 have hx1:Box ((((w.alloc (Obj.cells #[.slice none 0 0,.slice (some ⟨bt,0,none⟩) 1 1,.slice (some ⟨bf,0,none⟩) 1 1] 28)).alloc (Obj.cells #[.int .i64 0,.int .i64 0] 38)).alloc (Obj.cells #[.int .i64 0,.int .i64 0,.slice none 0 0,.slice none 0 0,.int .i64 0,.int .i64 0,.int .i64 0,.int .i64 0,.int .i64 0,.int .i64 0] 50)).alloc (Obj.cells #[.int .i64 day,.int .i64 0,.slice none 0 0,.slice none 0 0,.int .i64 0,.int .i64 0,.int .i64 0,.int .i64 0,.int .i64 0,.int .i64 0] 50)) (g+1) 38 #[.int .i64 0,.int .i64 0]:=by have h:=((Box.new (w.alloc (Obj.cells #[.slice none 0 0,.slice (some ⟨bt,0,none⟩) 1 1,.slice (some ⟨bf,0,none⟩) 1 1] 28)) 38 #[.int .i64 0,.int .i64 0]).alloc (Obj.cells #[.int .i64 0,.int .i64 0,.slice none 0 0,.slice none 0 0,.int .i64 0,.int .i64 0,.int .i64 0,.int .i64 0,.int .i64 0,.int .i64 0] 50)).alloc (Obj.cells #[.int .i64 day,.int .i64 0,.slice none 0 0,.slice none 0 0,.int .i64 0,.int .i64 0,.int .i64 0,.int .i64 0,.int .i64 0,.int .i64 0] 50);rw[World.size_alloc,←hgw] at h;exact h
 have hx2:Box ((((w.alloc (Obj.cells #[.slice none 0 0,.slice (some ⟨bt,0,none⟩) 1 1,.slice (some ⟨bf,0,none⟩) 1 1] 28)).alloc (Obj.cells #[.int .i64 0,.int .i64 0] 38)).alloc (Obj.cells #[.int .i64 0,.int .i64 0,.slice none 0 0,.slice none 0 0,.int .i64 0,.int .i64 0,.int .i64 0,.int .i64 0,.int .i64 0,.int .i64 0] 50)).alloc (Obj.cells #[.int .i64 day,.int .i64 0,.slice none 0 0,.slice none 0 0,.int .i64 0,.int .i64 0,.int .i64 0,.int .i64 0,.int .i64 0,.int .i64 0] 50)) (g+2) 50 #[.int .i64 0,.int .i64 0,.slice none 0 0,.slice none 0 0,.int .i64 0,.int .i64 0,.int .i64 0,.int .i64 0,.int .i64 0,.int .i64 0]:=by have h:=(Box.new ((w.alloc (Obj.cells #[.slice none 0 0,.slice (some ⟨bt,0,none⟩) 1 1,.slice (some ⟨bf,0,none⟩) 1 1] 28)).alloc (Obj.cells #[.int .i64 0,.int .i64 0] 38)) 50 #[.int .i64 0,.int .i64 0,.slice none 0 0,.slice none 0 0,.int .i64 0,.int .i64 0,.int .i64 0,.int .i64 0,.int .i64 0,.int .i64 0]).alloc (Obj.cells #[.int .i64 day,.int .i64 0,.slice none 0 0,.slice none 0 0,.int .i64 0,.int .i64 0,.int .i64 0,.int .i64 0,.int .i64 0,.int .i64 0] 50);rw[World.size_alloc,World.size_alloc,←hgw] at h;exact h
 have hx3:Box ((((w.alloc (Obj.cells #[.slice none 0 0,.slice (some ⟨bt,0,none⟩) 1 1,.slice (some ⟨bf,0,none⟩) 1 1] 28)).alloc (Obj.cells #[.int .i64 0,.int .i64 0] 38)).alloc (Obj.cells #[.int .i64 0,.int .i64 0,.slice none 0 0,.slice none 0 0,.int .i64 0,.int .i64 0,.int .i64 0,.int .i64 0,.int .i64 0,.int .i64 0] 50)).alloc (Obj.cells #[.int .i64 day,.int .i64 0,.slice none 0 0,.slice none 0 0,.int .i64 0,.int .i64 0,.int .i64 0,.int .i64 0,.int .i64 0,.int .i64 0] 50)) (g+3) 50 #[.int .i64 day,.int .i64 0,.slice none 0 0,.slice none 0 0,.int .i64 0,.int .i64 0,.int .i64 0,.int .i64 0,.int .i64 0,.int .i64 0]:=by have h:=Box.new (((w.alloc (Obj.cells #[.slice none 0 0,.slice (some ⟨bt,0,none⟩) 1 1,.slice (some ⟨bf,0,none⟩) 1 1] 28)).alloc (Obj.cells #[.int .i64 0,.int .i64 0] 38)).alloc (Obj.cells #[.int .i64 0,.int .i64 0,.slice none 0 0,.slice none 0 0,.int .i64 0,.int .i64 0,.int .i64 0,.int .i64 0,.int .i64 0,.int .i64 0] 50)) 50 #[.int .i64 day,.int .i64 0,.slice none 0 0,.slice none 0 0,.int .i64 0,.int .i64 0,.int .i64 0,.int .i64 0,.int .i64 0,.int .i64 0];rw[World.size_alloc,World.size_alloc,World.size_alloc,←hgw] at h;exact h
 have hWs:((((w.alloc (Obj.cells #[.slice none 0 0,.slice (some ⟨bt,0,none⟩) 1 1,.slice (some ⟨bf,0,none⟩) 1 1] 28)).alloc (Obj.cells #[.int .i64 0,.int .i64 0] 38)).alloc (Obj.cells #[.int .i64 0,.int .i64 0,.slice none 0 0,.slice none 0 0,.int .i64 0,.int .i64 0,.int .i64 0,.int .i64 0,.int .i64 0,.int .i64 0] 50)).alloc (Obj.cells #[.int .i64 day,.int .i64 0,.slice none 0 0,.slice none 0 0,.int .i64 0,.int .i64 0,.int .i64 0,.int .i64 0,.int .i64 0,.int .i64 0] 50)).heap.size=g+4:=by rw[World.size_alloc,World.size_alloc,World.size_alloc,World.size_alloc,←hgw]
 rw[←hgw] at hbW HHas HP HRf HMo ⊢
 have e2:g+1+1=g+2:=rfl
 have e3:g+1+1+1=g+3:=rfl
 rw[e3,e2]
 generalize ((((w.alloc (Obj.cells #[.slice none 0 0,.slice (some ⟨bt,0,none⟩) 1 1,.slice (some ⟨bf,0,none⟩) 1 1] 28)).alloc (Obj.cells #[.int .i64 0,.int .i64 0] 38)).alloc (Obj.cells #[.int .i64 0,.int .i64 0,.slice none 0 0,.slice none 0 0,.int .i64 0,.int .i64 0,.int .i64 0,.int .i64 0,.int .i64 0,.int .i64 0] 50)).alloc (Obj.cells #[.int .i64 day,.int .i64 0,.slice none 0 0,.slice none 0 0,.int .i64 0,.int .i64 0,.int .i64 0,.int .i64 0,.int .i64 0,.int .i64 0] 50))=W4 at *
 have HG:=hD hgw
 have HX0:=hD hx0
 have HX1:=hD hx1
 have HX2:=hD hx2
 have HX3:=hD hx3
 have HBW:=hD hbW
 have HWs:=hD hWs
 clear hgw hx0 hx1 hx2 hx3 hbW hWs e2 e3
 have q1:W4.frozen? ⟨g+3,1,none⟩=false:=HX3.out.free 1
 have u1:W4.cell? ⟨g+3,1,none⟩=some (.int .i64 0):=HX3.out.cell 1
 go_upto_region 3 with(go_at_call 35;refine(HWd.out _).mono ?_;rintro e w1 ⟨rfl,kk,rfl⟩)
 have hx3:Box ((W4.drewN kk).setCell ⟨g+3,1,none⟩ (.int .i64 ((day-1)%7))) (g+3) 50 #[.int .i64 day,.int .i64 ((day-1)%7),.slice none 0 0,.slice none 0 0,.int .i64 0,.int .i64 0,.int .i64 0,.int .i64 0,.int .i64 0,.int .i64 0]:=(HX3.out.drewN kk).set_ 1 (.int .i64 ((day-1)%7))
 have hx0:Box ((W4.drewN kk).setCell ⟨g+3,1,none⟩ (.int .i64 ((day-1)%7))) g _ _:=(HX0.out.drewN kk).far (p:=⟨g+3,1,none⟩) (by show g≠g+3;omega) _
 have hx1:Box ((W4.drewN kk).setCell ⟨g+3,1,none⟩ (.int .i64 ((day-1)%7))) (g+1) _ _:=(HX1.out.drewN kk).far (p:=⟨g+3,1,none⟩) (by show g+1≠g+3;omega) _
 have hx2:Box ((W4.drewN kk).setCell ⟨g+3,1,none⟩ (.int .i64 ((day-1)%7))) (g+2) _ _:=(HX2.out.drewN kk).far (p:=⟨g+3,1,none⟩) (by show g+2≠g+3;omega) _
 have hbW:Below g w ((W4.drewN kk).setCell ⟨g+3,1,none⟩ (.int .i64 ((day-1)%7))):=(jd HBW.out kk).setCell (p:=⟨g+3,1,none⟩) (by show g≤g+3;omega) _
 have hW5s:((W4.drewN kk).setCell ⟨g+3,1,none⟩ (.int .i64 ((day-1)%7))).heap.size=g+4:=by rw[World.size_setCell];exact HWs.out
 generalize (W4.drewN kk).setCell ⟨g+3,1,none⟩ (.int .i64 ((day-1)%7))=W5 at *
 obtain⟨wd,hwd⟩:∃wd,wd=(day-1)%7:=⟨_,rfl⟩
 rw[←hwd] at hx3 ⊢
 clear hwd HX0 HX1 HX2 HX3 HBW HWs q1 u1 HWd
 have y0:W5.cell? ⟨bf,0,none⟩=some (.int .i64 k):=(HP.out W5 hbW).fx.cell 0
 have y1:W5.cell? ⟨bf,1,none⟩=some (.int .i64 a):=(HP.out W5 hbW).fx.cell 1
 have y2:W5.cell? ⟨bf,2,none⟩=some (.int .i64 b):=(HP.out W5 hbW).fx.cell 2
 have y3:W5.cell? ⟨bf,3,none⟩=some (.string nm):=(HP.out W5 hbW).fx.cell 3
 have y4:W5.cell? ⟨bf,4,none⟩=some (.slice A ks.length c):=(HP.out W5 hbW).fx.cell 4
 have x0:W5.cell? ⟨g,0,none⟩=some (.slice none 0 0):=hx0.cell 0
 have x2:W5.cell? ⟨g,2,none⟩=some (.slice (some ⟨bf,0,none⟩) 1 1):=hx0.cell 2
 have HX0:=hD hx0
 have HX1:=hD hx1
 have HX2:=hD hx2
 have HX3:=hD hx3
 have HBW:=hD hbW
 have HWs:=hD hW5s
 clear hx0 hx1 hx2 hx3 hbW hW5s
 go_wp2_with fail
 go_loopw [11,12,13,33] (fun _ _ _ i wr=>i = .int .i64 0∧wr=W5) (fun _ _ _ _ _=>0)
 case atStart=>exact⟨rfl,rfl⟩
 case round =>
  obtain⟨rfl,hh⟩:=hrel
  have hh:=hh.symm
  subst hh
  go_wp2_with fail
  go_loopw [14,15,16,17,56] (fun _ _ _ _ i wr=>(i = .int .i64 0∧wr=W5)∨(i = .int .i64 1∧∃(B:Bool) (F:Value),(B=true↔jC t0 day)∧Hid (wr.ownsRow (g+4) 9 1 F (tlB B ti).length (tlB B ti))∧Hid (Box wr (g+1) 38 #[.int .i64 0,.int .i64 0])∧Hid (Box wr (g+2) 50 #[.int .i64 0,.int .i64 0,.slice none 0 0,.slice none 0 0,.int .i64 0,.int .i64 0,.int .i64 0,.int .i64 0,.int .i64 0,.int .i64 0])∧Hid (Box wr (g+3) 50 #[.int .i64 day,.int .i64 wd,.slice none 0 0,F,.int .i64 0,.int .i64 0,.int .i64 0,.int .i64 0,.int .i64 0,.int .i64 0])∧Hid (Below g w wr))) (fun _ _ _ _ i _=>1-(RowKit.intOf i).toNat)
  case atStart=>exact .inl ⟨rfl,rfl⟩
  case round =>
   rcases hrel with⟨rfl,hh⟩|⟨rfl,B,F,hB,HF,HX1,HX2,HX3,HB⟩
   ·have hh:=hh.symm
    subst hh
    have hbA:=ja W5 (.cells #[.int .i64 k,.int .i64 a,.int .i64 b,.string nm,.slice A ks.length c] 24)
    have hxA:=Box.new W5 24 #[.int .i64 k,.int .i64 a,.int .i64 b,.string nm,.slice A ks.length c]
    go_upto_region 12 with fail
    have HBA:=hD (jb (Below.refl _ _) hbA)
    have HB6:Hid (Below g w (W5.alloc (.cells #[.int .i64 k,.int .i64 a,.int .i64 b,.string nm,.slice A ks.length c] 24))):=HBW.out.trans (hbA.mono (by rw[HWs.out];omega))
    have hs6:(W5.alloc (.cells #[.int .i64 k,.int .i64 a,.int .i64 b,.string nm,.slice A ks.length c] 24)).heap.size=g+5:=by rw[World.size_alloc,HWs.out]
    generalize W5.alloc (.cells #[.int .i64 k,.int .i64 a,.int .i64 b,.string nm,.slice A ks.length c] 24)=W6 at *
    clear x0 x2 y0 y1 y2 y3 y4 hbA
    obtain⟨z0,z1,z2,z3,z4⟩:=jR hxA
    clear hxA
    go_upto_region 13 with(go_at_call 37;refine(HHas.out _ HB6.out).mono ?_;rintro e w7 ⟨is,E,rfl,hE,hi,hi2,hb7⟩;have HB7:=hD hb7;have HE:=hD hE;have HI:=hD hi;clear hb7 hE hi hi2)
    have hE0:E=0:=HE.out.2 ⟨HGd.out,by unfold js;omega⟩
    have hIs:=HI.out hE0
    have HIs:=hD hIs
    clear hIs HI HE hE0
    have HX0:=hD (HX0.out.below (jb HBA.out HB7.out))
    have HX1:=hD (HX1.out.below (jb HBA.out HB7.out))
    have HX2:=hD (HX2.out.below (jb HBA.out HB7.out))
    have HX3:=hD (HX3.out.below (jb HBA.out HB7.out))
    have HB8:Hid (Below g w w7):=HB6.out.trans (HB7.out.mono (by omega))
    have hs7:=HB7.out.size
    cases is
    ·go_wp2_with fail
     go_roundw
     case rel=>exact .inr ⟨rfl,false,.slice none 0 0,HIs.out,World.ownsRow_nil _ _ _ _,HX1,HX2,HX3,HB8⟩
     case measure=>simp[RowKit.intOf]
    ·go_upto_region 14 with fail
     have p0:∀W,Below w7.heap.size w7 W→W.cell? ⟨g+3,3,none⟩=some (.slice none 0 0):=fun W h=>(HX3.out.below h).cell 3
     have p1:∀W,Below w7.heap.size w7 W→W.cell? ⟨g,1,none⟩=some (.slice (some ⟨bt,0,none⟩) 1 1):=fun W h=>(HX0.out.below h).cell 1
     have p2:∀W,Below w7.heap.size w7 W→W.cell? ⟨bt,0,none⟩=some (.string ti):=fun W h=>(HP.out W (HB8.out.trans (h.mono (by omega)))).tx.cell 0
     refine jr 8 (jy []) (by kernel_rfl) (by kernel_rfl) ?_
     simp only[List.take_succ_cons,List.take_zero,List.drop_succ_cons,List.drop_zero]
     repeat (first|(refine jf (v:=?_) (by rfl) (by rfl) (fun w hb=>?_) ?_;rotate_left;(· go_simp<;>(repeat' apply And.intro)<;>with_reducible rfl);try simp only[pZ,Nat.reduceAdd])|(refine je (by rfl) (by rfl) ?_;try simp only[pZ,Nat.reduceAdd]))
     refine kV (n:=?_) (c:=?_) (t:=?_) (cs:=?_) (by rfl) (by rfl) (fun w hb=>?_) (fun g8 hg8=>?_);rotate_left 4;(· go_simp<;>(repeat' apply And.intro)<;>with_reducible rfl);try simp only[pZ,Nat.reduceAdd]
     refine jo fun w8 hb8 hf=>?_
     obtain⟨i0,hi0,hz0,hz1,hz2⟩:=info_parts yb
     have HF8:=hD hf.1
     have HB88:=hD hb8
     have hs8:=hb8.size
     clear p0 p1 p2 hb8 hf HHas
     refine wpList_append_own _ rfl (.tmp 69) (.tmp 75) 25 rfl (g+4) 9 i0 (.string ⟨#[]⟩) 1 16 Tryz.underlying25 hi0 hz0 hz1 hz2 rfl (by decide) (.slice none 0 0) 0 [] rfl (World.ownsRow_nil _ _ _ _) ⟨g8,0,none⟩ 1 1 [.string ti] rfl ?c0 ?c1 ?c2 ?c3 ?c4 ?c5 ?_
     case c0=>rfl
     case c1=>exact Qc (fun z v hv=>by rw[Nat.zero_add,HF8.out.cell z,List.getElem?_toArray];exact hv)
     case c2=>intro u hu;simp at hu;subst hu;rfl
     case c3=>simp only[maxLen];omega
     case c4=>omega
     case c5=>omega
     intro v' w9 hown9 hgrow _
     simp only[Nat.zero_add,List.nil_append] at hown9
     obtain⟨A9,c9,hv9,_,_⟩:=jI hown9
     subst hv9
     have HX1:=hD ((HX1.out.below HB88.out).grown hgrow (by simp[Value.ownBlock]))
     have HX2:=hD ((HX2.out.below HB88.out).grown hgrow (by simp[Value.ownBlock]))
     have HX3:=hD ((HX3.out.below HB88.out).grown hgrow (by simp[Value.ownBlock]))
     have HB9:Hid (Below g w w9):=(HB8.out.trans (HB88.out.mono (by omega))).grown hgrow (by omega) (fun q hq=>by simp[Value.ownBlock] at hq)
     have HO9:=hD hown9
     have q3:w9.frozen? ⟨g+3,3,none⟩=false:=HX3.out.free 3
     have u3:w9.cell? ⟨g+3,3,none⟩=some (.slice none 0 0):=HX3.out.cell 3
     clear hown9 hgrow HX0 HF8 HB88 HB8 HB7 HB6 HBA HP
     go_wp2_with fail
     go_roundw
     case rel =>
      refine .inr ⟨rfl,true,.slice A9 1 c9,HIs.out,jx HO9.out fun q hq=>Below.heap_setCell w9 ⟨g+3,3,none⟩ (.slice A9 1 c9) q (by have:=jY HO9.out q hq;show q≠g+3;omega),HX1.out.far (p:=⟨g+3,3,none⟩) (by show g+1≠g+3;omega) _,HX2.out.far (p:=⟨g+3,3,none⟩) (by show g+2≠g+3;omega) _,HX3.out.set_ 3 (.slice A9 1 c9),HB9.out.setCell (p:=⟨g+3,3,none⟩) (by show g≤g+3;omega) _⟩
     case measure=>simp[RowKit.intOf]
   ·clear x0 x2 y0 y1 y2 y3 y4 HBW HWs HX0 HHas
    have hgs:g+3<wr.heap.size:=HX3.out.lt
    obtain⟨AF,cF,hF,_,_⟩:=jI HF.out
    subst hF
    obtain⟨nF,hnF⟩:∃nF,nF=(tlB B ti).length:=⟨_,rfl⟩
    rw[←hnF] at HF HX3
    have HNF:=hD hnF
    clear hnF
    have c0:wr.cell? ⟨g+1,0,none⟩=some (.int .i64 0):=HX1.out.cell 0
    have c1:wr.cell? ⟨g+1,1,none⟩=some (.int .i64 0):=HX1.out.cell 1
    go_upto_region 17 with(go_at_call 38;refine(HRf.out true _ HB.out).mono ?_;rintro e w1 ⟨a1,b1,er1,rfl,_,hb1⟩;have HB1:=hD hb1;clear hb1 c0 c1)
    have hbA:=jb HB1.out (ja w1 (Obj.cells #[.int .i64 a1,.int .i64 b1] 48))
    have hxS:=Box.new w1 48 #[.int .i64 a1,.int .i64 b1]
    obtain⟨s1,hs1⟩:∃s1,s1=w1.heap.size:=⟨_,rfl⟩
    have hz1:=HB1.out.size
    have hs1g:g+4≤s1:=by omega
    rw[←hs1] at hxS ⊢
    clear hs1
    generalize w1.alloc (Obj.cells #[.int .i64 a1,.int .i64 b1] 48)=W2 at *
    have hz2:=hbA.size
    have HB2:Hid (Below g w W2):=HB.out.trans (hbA.mono (by omega))
    have HF2:=hD (jn HF.out hbA)
    have HX12:=hD (HX1.out.below hbA)
    have HX22:=hD (HX2.out.below hbA)
    have HX32:=hD (HX3.out.below hbA)
    have HS1:=hD hxS
    have c0:W2.cell? ⟨g+1,0,none⟩=some (.int .i64 0):=HX12.out.cell 0
    have c1:W2.cell? ⟨g+1,1,none⟩=some (.int .i64 0):=HX12.out.cell 1
    clear hxS hbA HX1 HX2 HX3 HB HF
    go_upto_region 18 with(go_at_call 38;refine(HRf.out false _ HB2.out).mono ?_;rintro e w3 ⟨a2,b2,er2,rfl,_,hb3⟩;have HB3:=hD hb3;clear hb3 c0 c1)
    have hbA:=jb HB3.out (ja w3 (Obj.cells #[.int .i64 a2,.int .i64 b2] 48))
    have hxS:=Box.new w3 48 #[.int .i64 a2,.int .i64 b2]
    obtain⟨s2,hs2⟩:∃s2,s2=w3.heap.size:=⟨_,rfl⟩
    have hz3:=HB3.out.size
    have hs2g:g+4≤s2:=by omega
    rw[←hs2] at hxS ⊢
    clear hs2
    generalize w3.alloc (Obj.cells #[.int .i64 a2,.int .i64 b2] 48)=W4 at *
    have hz4:=hbA.size
    have HB4:Hid (Below g w W4):=HB2.out.trans (hbA.mono (by omega))
    have HF4:=hD (jn HF2.out hbA)
    have HX24:=hD (HX22.out.below hbA)
    have HX34:=hD (HX32.out.below hbA)
    have HS14:=hD (HS1.out.below hbA)
    have HS2:=hD hxS
    clear hxS hbA HX12 HX22 HX32 HB2 HF2 HS1 HB1 HB3
    by_cases he1:er1=0
    ·subst he1
     by_cases he2:er2=0
     ·subst he2
      go_upto_region 19 with fail
      have a0:W4.cell? ⟨s1,0,none⟩=some (.int .i64 a1):=HS14.out.cell 0
      have a1':W4.cell? ⟨s1,1,none⟩=some (.int .i64 b1):=HS14.out.cell 1
      have a2':W4.cell? ⟨s2,0,none⟩=some (.int .i64 a2):=HS2.out.cell 0
      have a3':W4.cell? ⟨s2,1,none⟩=some (.int .i64 b2):=HS2.out.cell 1
      obtain⟨d0',d1',d2',d3',d4',d5',d6',d7',d8',d9'⟩:=qu HX34.out
      have f34:=fun i=>HX34.out.free i
      have l34:=HX34.out.lt
      have n1:g+3≠s1:=by omega
      have n2:g+3≠s2:=by omega
      go_region
      clear a0 a1' a2' a3' d0' d1' d2' d3' d4' d5' d6' d7' d8' d9' f34 l34 n1 n2
      obtain⟨hX9,hq9,hb9⟩:=Ys HX34.out (.int .i64 a1) (.int .i64 b1) (.int .i64 a2) (.int .i64 b2) (.int .i64 1)
      have hB9:Below g w (((((W4.setCell ⟨g+3,4,none⟩ (.int .i64 a1)).setCell ⟨g+3,5,none⟩ (.int .i64 b1)).setCell ⟨g+3,6,none⟩ (.int .i64 a2)).setCell ⟨g+3,7,none⟩ (.int .i64 b2)).setCell ⟨g+3,8,none⟩ (.int .i64 1)):=hb9 g w HB4.out (by omega)
      have hY9:Box (((((W4.setCell ⟨g+3,4,none⟩ (.int .i64 a1)).setCell ⟨g+3,5,none⟩ (.int .i64 b1)).setCell ⟨g+3,6,none⟩ (.int .i64 a2)).setCell ⟨g+3,7,none⟩ (.int .i64 b2)).setCell ⟨g+3,8,none⟩ (.int .i64 1)) (g+2) 50 _:=(hq9 (g+2) (by omega)).trans HX24.out
      have hF9:World.ownsRow (((((W4.setCell ⟨g+3,4,none⟩ (.int .i64 a1)).setCell ⟨g+3,5,none⟩ (.int .i64 b1)).setCell ⟨g+3,6,none⟩ (.int .i64 a2)).setCell ⟨g+3,7,none⟩ (.int .i64 b2)).setCell ⟨g+3,8,none⟩ (.int .i64 1)) (g+4) 9 1 (.slice AF nF cF) nF (tlB B ti):=jx HF4.out (fun q hq=>hq9 q (by have:=jY HF4.out q hq;omega))
      clear hq9 hb9
      have HX39:=hD (hX9.drewN 1)
      have HX29:=hD (hY9.drewN 1)
      have HF9:=hD (jn hF9 (jg _ 1))
      have HB9:=hD (jd hB9 1)
      have hs9:g≤(World.drewN (((((W4.setCell ⟨g+3,4,none⟩ (.int .i64 a1)).setCell ⟨g+3,5,none⟩ (.int .i64 b1)).setCell ⟨g+3,6,none⟩ (.int .i64 a2)).setCell ⟨g+3,7,none⟩ (.int .i64 b2)).setCell ⟨g+3,8,none⟩ (.int .i64 1)) 1).heap.size:=by have:=HX39.out.lt;omega
      clear hX9 hB9 hY9 hF9
      change Exit.then _ _ Exit.normal _ (World.drewN _ 1)
      generalize World.drewN (((((W4.setCell ⟨g+3,4,none⟩ (.int .i64 a1)).setCell ⟨g+3,5,none⟩ (.int .i64 b1)).setCell ⟨g+3,6,none⟩ (.int .i64 a2)).setCell ⟨g+3,7,none⟩ (.int .i64 b2)).setCell ⟨g+3,8,none⟩ (.int .i64 1)) 1=W9 at *
      have q9:W9.frozen? ⟨g+3,9,none⟩=false:=HX39.out.free 9
      have u9:W9.cell? ⟨g+3,9,none⟩=some (.int .i64 0):=HX39.out.cell 9
      go_upto_region 21 with(go_at_call 39;refine(HMo.out _ HB9.out).mono ?_;rintro e w6 ⟨rfl,hb6⟩;have HB6:=hD hb6;have q9:w6.frozen? ⟨g+3,9,none⟩=false:=(HX39.out.below hb6).free 9;have u9:w6.cell? ⟨g+3,9,none⟩=some (.int .i64 0):=(HX39.out.below hb6).cell 9;clear hb6)
      clear q9 u9
      have hX3:=(HX39.out.below HB6.out).set_ 9 (.int .i64 ph)
      have hX2:=(HX29.out.below HB6.out).far (p:=⟨g+3,9,none⟩) (by show g+2≠g+3;omega) (.int .i64 ph)
      have hB:=(HB9.out.trans (HB6.out.mono (by omega))).setCell (p:=⟨g+3,9,none⟩) (by show g≤g+3;omega) (.int .i64 ph)
      have hF:=jn HF9.out HB6.out
      have hF:=jx hF (fun q hq=>Below.heap_setCell w6 ⟨g+3,9,none⟩ (.int .i64 ph) q (by have:=jY hF q hq;show q≠g+3;omega))
      generalize w6.setCell ⟨g+3,9,none⟩ (.int .i64 ph)=W7 at *
      have hX3:Box W7 (g+3) 50 #[.int .i64 day,.int .i64 wd,.slice none 0 0,.slice AF nF cF,.int .i64 a1,.int .i64 b1,.int .i64 a2,.int .i64 b2,.int .i64 1,.int .i64 ph]:=hX3
      have HX37:=hD hX3
      have HX27:=hD hX2
      have HB7:=hD hB
      have HF7:=hD hF
      clear hX2 hB hF
      obtain⟨v0,v1,v2,v3,v4,v5,v6,v7,v8,v9⟩:=qu hX3
      obtain⟨d0',d1',d2',d3',d4',d5',d6',d7',d8',d9'⟩:=qu HX27.out
      have f27:=fun i=>HX27.out.free i
      have l27:=HX27.out.lt
      clear hX3
      go_wp2_with fail
      obtain⟨hX8,hq8,hb8⟩:=yQ HX27.out (.int .i64 day) (.int .i64 wd) (.slice none 0 0) (.slice AF nF cF) (.int .i64 a1) (.int .i64 b1) (.int .i64 a2) (.int .i64 b2) (.int .i64 1) (.int .i64 ph)
      have hB8:Below g w ((((((((((W7.setCell ⟨g+2,0,none⟩ (.int .i64 day)).setCell ⟨g+2,1,none⟩ (.int .i64 wd)).setCell ⟨g+2,2,none⟩ (.slice none 0 0)).setCell ⟨g+2,3,none⟩ (.slice AF nF cF)).setCell ⟨g+2,4,none⟩ (.int .i64 a1)).setCell ⟨g+2,5,none⟩ (.int .i64 b1)).setCell ⟨g+2,6,none⟩ (.int .i64 a2)).setCell ⟨g+2,7,none⟩ (.int .i64 b2)).setCell ⟨g+2,8,none⟩ (.int .i64 1)).setCell ⟨g+2,9,none⟩ (.int .i64 ph)):=hb8 g w HB7.out (by omega)
      have hF8:World.ownsRow ((((((((((W7.setCell ⟨g+2,0,none⟩ (.int .i64 day)).setCell ⟨g+2,1,none⟩ (.int .i64 wd)).setCell ⟨g+2,2,none⟩ (.slice none 0 0)).setCell ⟨g+2,3,none⟩ (.slice AF nF cF)).setCell ⟨g+2,4,none⟩ (.int .i64 a1)).setCell ⟨g+2,5,none⟩ (.int .i64 b1)).setCell ⟨g+2,6,none⟩ (.int .i64 a2)).setCell ⟨g+2,7,none⟩ (.int .i64 b2)).setCell ⟨g+2,8,none⟩ (.int .i64 1)).setCell ⟨g+2,9,none⟩ (.int .i64 ph)) (g+4) 9 1 (.slice AF nF cF) nF (tlB B ti):=jx HF7.out (fun q hq=>hq8 q (by have:=jY HF7.out q hq;omega))
      clear hq8 hb8
      generalize ((((((((((W7.setCell ⟨g+2,0,none⟩ (.int .i64 day)).setCell ⟨g+2,1,none⟩ (.int .i64 wd)).setCell ⟨g+2,2,none⟩ (.slice none 0 0)).setCell ⟨g+2,3,none⟩ (.slice AF nF cF)).setCell ⟨g+2,4,none⟩ (.int .i64 a1)).setCell ⟨g+2,5,none⟩ (.int .i64 b1)).setCell ⟨g+2,6,none⟩ (.int .i64 a2)).setCell ⟨g+2,7,none⟩ (.int .i64 b2)).setCell ⟨g+2,8,none⟩ (.int .i64 1)).setCell ⟨g+2,9,none⟩ (.int .i64 ph))=W8 at *
      clear v0 v1 v2 v3 v4 v5 v6 v7 v8 v9 d0' d1' d2' d3' d4' d5' d6' d7' d8' d9' f27 l27
      obtain⟨v0,v1,v2,v3,v4,v5,v6,v7,v8,v9⟩:=qu hX8
      refine bodyPost_ret (v:=.agg #[.int .i64 day,.int .i64 wd,.slice none 0 0,.slice AF nF cF,.int .i64 a1,.int .i64 b1,.int .i64 a2,.int .i64 b2,.int .i64 1,.int .i64 ph]) (by simp[results,Tryz.results20,go_sem,v0,v1,v2,v3,v4,v5,v6,v7,v8,v9]) rfl ?_
      refine⟨⟨day,wd,AF,nF,cF,a1,b1,a2,b2,1,ph⟩,rfl,rfl,⟨B,hB,?_⟩,by rw[←HG.out];exact hB8⟩
      rw[←HG.out]
      exact jM hF8 (by omega)
     ·have tE:decide (er2=0)=false:=decide_eq_false he2
      have q9:W4.frozen? ⟨g+3,9,none⟩=false:=HX34.out.free 9
      have u9:W4.cell? ⟨g+3,9,none⟩=some (.int .i64 0):=HX34.out.cell 9
      go_upto_region 21 with(go_at_call 39;refine(HMo.out _ HB4.out).mono ?_;rintro e w6 ⟨rfl,hb6⟩;have HB6:=hD hb6;have q9:w6.frozen? ⟨g+3,9,none⟩=false:=(HX34.out.below hb6).free 9;have u9:w6.cell? ⟨g+3,9,none⟩=some (.int .i64 0):=(HX34.out.below hb6).cell 9;clear hb6)
      clear q9 u9
      have hX3:=(HX34.out.below HB6.out).set_ 9 (.int .i64 ph)
      have hX2:=(HX24.out.below HB6.out).far (p:=⟨g+3,9,none⟩) (by show g+2≠g+3;omega) (.int .i64 ph)
      have hB:=(HB4.out.trans (HB6.out.mono (by omega))).setCell (p:=⟨g+3,9,none⟩) (by show g≤g+3;omega) (.int .i64 ph)
      have hF:=jn HF4.out HB6.out
      have hF:=jx hF (fun q hq=>Below.heap_setCell w6 ⟨g+3,9,none⟩ (.int .i64 ph) q (by have:=jY hF q hq;show q≠g+3;omega))
      generalize w6.setCell ⟨g+3,9,none⟩ (.int .i64 ph)=W7 at *
      have hX3:Box W7 (g+3) 50 #[.int .i64 day,.int .i64 wd,.slice none 0 0,.slice AF nF cF,.int .i64 0,.int .i64 0,.int .i64 0,.int .i64 0,.int .i64 0,.int .i64 ph]:=hX3
      have HX37:=hD hX3
      have HX27:=hD hX2
      have HB7:=hD hB
      have HF7:=hD hF
      clear hX2 hB hF
      obtain⟨v0,v1,v2,v3,v4,v5,v6,v7,v8,v9⟩:=qu hX3
      obtain⟨d0',d1',d2',d3',d4',d5',d6',d7',d8',d9'⟩:=qu HX27.out
      have f27:=fun i=>HX27.out.free i
      have l27:=HX27.out.lt
      clear hX3
      go_wp2_with fail
      obtain⟨hX8,hq8,hb8⟩:=yQ HX27.out (.int .i64 day) (.int .i64 wd) (.slice none 0 0) (.slice AF nF cF) (.int .i64 0) (.int .i64 0) (.int .i64 0) (.int .i64 0) (.int .i64 0) (.int .i64 ph)
      have hB8:Below g w ((((((((((W7.setCell ⟨g+2,0,none⟩ (.int .i64 day)).setCell ⟨g+2,1,none⟩ (.int .i64 wd)).setCell ⟨g+2,2,none⟩ (.slice none 0 0)).setCell ⟨g+2,3,none⟩ (.slice AF nF cF)).setCell ⟨g+2,4,none⟩ (.int .i64 0)).setCell ⟨g+2,5,none⟩ (.int .i64 0)).setCell ⟨g+2,6,none⟩ (.int .i64 0)).setCell ⟨g+2,7,none⟩ (.int .i64 0)).setCell ⟨g+2,8,none⟩ (.int .i64 0)).setCell ⟨g+2,9,none⟩ (.int .i64 ph)):=hb8 g w HB7.out (by omega)
      have hF8:World.ownsRow ((((((((((W7.setCell ⟨g+2,0,none⟩ (.int .i64 day)).setCell ⟨g+2,1,none⟩ (.int .i64 wd)).setCell ⟨g+2,2,none⟩ (.slice none 0 0)).setCell ⟨g+2,3,none⟩ (.slice AF nF cF)).setCell ⟨g+2,4,none⟩ (.int .i64 0)).setCell ⟨g+2,5,none⟩ (.int .i64 0)).setCell ⟨g+2,6,none⟩ (.int .i64 0)).setCell ⟨g+2,7,none⟩ (.int .i64 0)).setCell ⟨g+2,8,none⟩ (.int .i64 0)).setCell ⟨g+2,9,none⟩ (.int .i64 ph)) (g+4) 9 1 (.slice AF nF cF) nF (tlB B ti):=jx HF7.out (fun q hq=>hq8 q (by have:=jY HF7.out q hq;omega))
      clear hq8 hb8
      generalize ((((((((((W7.setCell ⟨g+2,0,none⟩ (.int .i64 day)).setCell ⟨g+2,1,none⟩ (.int .i64 wd)).setCell ⟨g+2,2,none⟩ (.slice none 0 0)).setCell ⟨g+2,3,none⟩ (.slice AF nF cF)).setCell ⟨g+2,4,none⟩ (.int .i64 0)).setCell ⟨g+2,5,none⟩ (.int .i64 0)).setCell ⟨g+2,6,none⟩ (.int .i64 0)).setCell ⟨g+2,7,none⟩ (.int .i64 0)).setCell ⟨g+2,8,none⟩ (.int .i64 0)).setCell ⟨g+2,9,none⟩ (.int .i64 ph))=W8 at *
      clear v0 v1 v2 v3 v4 v5 v6 v7 v8 v9 d0' d1' d2' d3' d4' d5' d6' d7' d8' d9' f27 l27
      obtain⟨v0,v1,v2,v3,v4,v5,v6,v7,v8,v9⟩:=qu hX8
      refine bodyPost_ret (v:=.agg #[.int .i64 day,.int .i64 wd,.slice none 0 0,.slice AF nF cF,.int .i64 0,.int .i64 0,.int .i64 0,.int .i64 0,.int .i64 0,.int .i64 ph]) (by simp[results,Tryz.results20,go_sem,v0,v1,v2,v3,v4,v5,v6,v7,v8,v9]) rfl ?_
      refine⟨⟨day,wd,AF,nF,cF,0,0,0,0,0,ph⟩,rfl,rfl,⟨B,hB,?_⟩,by rw[←HG.out];exact hB8⟩
      rw[←HG.out]
      exact jM hF8 (by omega)
    ·have tE:decide (er1=0)=false:=decide_eq_false he1
     have q9:W4.frozen? ⟨g+3,9,none⟩=false:=HX34.out.free 9
     have u9:W4.cell? ⟨g+3,9,none⟩=some (.int .i64 0):=HX34.out.cell 9
     go_upto_region 21 with(go_at_call 39;refine(HMo.out _ HB4.out).mono ?_;rintro e w6 ⟨rfl,hb6⟩;have HB6:=hD hb6;have q9:w6.frozen? ⟨g+3,9,none⟩=false:=(HX34.out.below hb6).free 9;have u9:w6.cell? ⟨g+3,9,none⟩=some (.int .i64 0):=(HX34.out.below hb6).cell 9;clear hb6)
     clear q9 u9
     have hX3:=(HX34.out.below HB6.out).set_ 9 (.int .i64 ph)
     have hX2:=(HX24.out.below HB6.out).far (p:=⟨g+3,9,none⟩) (by show g+2≠g+3;omega) (.int .i64 ph)
     have hB:=(HB4.out.trans (HB6.out.mono (by omega))).setCell (p:=⟨g+3,9,none⟩) (by show g≤g+3;omega) (.int .i64 ph)
     have hF:=jn HF4.out HB6.out
     have hF:=jx hF (fun q hq=>Below.heap_setCell w6 ⟨g+3,9,none⟩ (.int .i64 ph) q (by have:=jY hF q hq;show q≠g+3;omega))
     generalize w6.setCell ⟨g+3,9,none⟩ (.int .i64 ph)=W7 at *
     have hX3:Box W7 (g+3) 50 #[.int .i64 day,.int .i64 wd,.slice none 0 0,.slice AF nF cF,.int .i64 0,.int .i64 0,.int .i64 0,.int .i64 0,.int .i64 0,.int .i64 ph]:=hX3
     have HX37:=hD hX3
     have HX27:=hD hX2
     have HB7:=hD hB
     have HF7:=hD hF
     clear hX2 hB hF
     obtain⟨v0,v1,v2,v3,v4,v5,v6,v7,v8,v9⟩:=qu hX3
     obtain⟨d0',d1',d2',d3',d4',d5',d6',d7',d8',d9'⟩:=qu HX27.out
     have f27:=fun i=>HX27.out.free i
     have l27:=HX27.out.lt
     clear hX3
     go_wp2_with fail
     obtain⟨hX8,hq8,hb8⟩:=yQ HX27.out (.int .i64 day) (.int .i64 wd) (.slice none 0 0) (.slice AF nF cF) (.int .i64 0) (.int .i64 0) (.int .i64 0) (.int .i64 0) (.int .i64 0) (.int .i64 ph)
     have hB8:Below g w ((((((((((W7.setCell ⟨g+2,0,none⟩ (.int .i64 day)).setCell ⟨g+2,1,none⟩ (.int .i64 wd)).setCell ⟨g+2,2,none⟩ (.slice none 0 0)).setCell ⟨g+2,3,none⟩ (.slice AF nF cF)).setCell ⟨g+2,4,none⟩ (.int .i64 0)).setCell ⟨g+2,5,none⟩ (.int .i64 0)).setCell ⟨g+2,6,none⟩ (.int .i64 0)).setCell ⟨g+2,7,none⟩ (.int .i64 0)).setCell ⟨g+2,8,none⟩ (.int .i64 0)).setCell ⟨g+2,9,none⟩ (.int .i64 ph)):=hb8 g w HB7.out (by omega)
     have hF8:World.ownsRow ((((((((((W7.setCell ⟨g+2,0,none⟩ (.int .i64 day)).setCell ⟨g+2,1,none⟩ (.int .i64 wd)).setCell ⟨g+2,2,none⟩ (.slice none 0 0)).setCell ⟨g+2,3,none⟩ (.slice AF nF cF)).setCell ⟨g+2,4,none⟩ (.int .i64 0)).setCell ⟨g+2,5,none⟩ (.int .i64 0)).setCell ⟨g+2,6,none⟩ (.int .i64 0)).setCell ⟨g+2,7,none⟩ (.int .i64 0)).setCell ⟨g+2,8,none⟩ (.int .i64 0)).setCell ⟨g+2,9,none⟩ (.int .i64 ph)) (g+4) 9 1 (.slice AF nF cF) nF (tlB B ti):=jx HF7.out (fun q hq=>hq8 q (by have:=jY HF7.out q hq;omega))
     clear hq8 hb8
     generalize ((((((((((W7.setCell ⟨g+2,0,none⟩ (.int .i64 day)).setCell ⟨g+2,1,none⟩ (.int .i64 wd)).setCell ⟨g+2,2,none⟩ (.slice none 0 0)).setCell ⟨g+2,3,none⟩ (.slice AF nF cF)).setCell ⟨g+2,4,none⟩ (.int .i64 0)).setCell ⟨g+2,5,none⟩ (.int .i64 0)).setCell ⟨g+2,6,none⟩ (.int .i64 0)).setCell ⟨g+2,7,none⟩ (.int .i64 0)).setCell ⟨g+2,8,none⟩ (.int .i64 0)).setCell ⟨g+2,9,none⟩ (.int .i64 ph))=W8 at *
     clear v0 v1 v2 v3 v4 v5 v6 v7 v8 v9 d0' d1' d2' d3' d4' d5' d6' d7' d8' d9' f27 l27
     obtain⟨v0,v1,v2,v3,v4,v5,v6,v7,v8,v9⟩:=qu hX8
     refine bodyPost_ret (v:=.agg #[.int .i64 day,.int .i64 wd,.slice none 0 0,.slice AF nF cF,.int .i64 0,.int .i64 0,.int .i64 0,.int .i64 0,.int .i64 0,.int .i64 ph]) (by simp[results,Tryz.results20,go_sem,v0,v1,v2,v3,v4,v5,v6,v7,v8,v9]) rfl ?_
     refine⟨⟨day,wd,AF,nF,cF,0,0,0,0,0,ph⟩,rfl,rfl,⟨B,hB,?_⟩,by rw[←HG.out];exact hB8⟩
     rw[←HG.out]
     exact jM hF8 (by omega)
theorem jfm:(Tryz.prog.info? 50).map (fun i=>(i.zero,i.size,i.bytes))=some (some (.agg #[.int .i64 0,.int .i64 0,.slice none 0 0,.slice none 0 0,.int .i64 0,.int .i64 0,.int .i64 0,.int .i64 0,.int .i64 0,.int .i64 0]),10,112):=by kernel_rfl
theorem KV {w:World} {g g':Nat} {t t':TypeId} {cs cs':Array Value} (h:Box w g t cs) (h':Box w g' t' cs') (hne:t≠t'):g≠g':=fun e=>by
 subst e
 unfold Box at h h'
 rw[h] at h'
 injection h' with h'
 injection h' with _ h' _
 exact hne h'
theorem jd5 {w:World} {b1 b2:Nat} {e1 e2:TypeId} {s1 s2:Nat} {v1 v2:Value} {n1 n2:Nat} {x1 x2:List Value} (h1:w.ownsRow b1 e1 s1 v1 n1 x1) (h2:w.ownsRow b2 e2 s2 v2 n2 x2) (hne:e1≠e2) (b:Nat) (hb:v1.ownBlock=some b):v2.ownBlock≠some b:=fun e=>by
 rcases h1.2 with⟨rfl,_⟩|⟨g,cap,cur,rfl,_,hg,_⟩
 ·simp[Value.ownBlock] at hb
 ·rcases h2.2 with⟨rfl,_⟩|⟨g',cap',cur',rfl,_,hg',_⟩
  ·simp[Value.ownBlock] at e
  ·have e1:g=b:=by simpa[Value.ownBlock] using hb
   have e2:g'=b:=by simpa[Value.ownBlock] using e
   subst e1
   subst e2
   rw[hg] at hg'
   injection hg' with hg'
   injection hg' with _ hg' _
   exact hne hg'
theorem DF.ok.next {x:DF} {w w':World} {base:Nat} {t:FE} {ti:ByteArray} (h:x.ok w base t ti) (hb:Below w.heap.size w w'):x.ok w' base t ti:=by
 obtain⟨b,hb',ho⟩:=h.row
 exact⟨b,hb',jn ho hb⟩
theorem DF.ok.lower {x:DF} {w:World} {base base':Nat} {t:FE} {ti:ByteArray} (h:x.ok w base t ti) (hb:base'≤base):x.ok w base' t ti:=by
 obtain⟨b,hb',ho⟩:=h.row
 exact⟨b,hb',jM ho hb⟩
theorem DF.ok.grown {x:DF} {w w':World} {base:Nat} {t:FE} {ti:ByteArray} (h:x.ok w base t ti) {e2:TypeId} {b2 s2 n2:Nat} {v2:Value} {x2:List Value} (h2:w.ownsRow b2 e2 s2 v2 n2 x2) (hne:9≠e2) (hg:w.grownBy w' v2.ownBlock):x.ok w' base t ti:=by
 obtain⟨b,hb',ho⟩:=h.row
 exact⟨b,hb',jx ho fun q hq=>hg.block q (qq ho q hq).2 fun e=>jd5 ho h2 hne q hq e.symm⟩
theorem vz {w:World} {b1:Nat} {e1:TypeId} {s1:Nat} {v1:Value} {n1:Nat} {x1:List Value} (h1:w.ownsRow b1 e1 s1 v1 n1 x1) {g:Nat} {ty:TypeId} {cs:Array Value} (hx:Box w g ty cs) (hne:e1≠ty):v1.ownBlock≠some g:=fun e=>by
 rcases h1.2 with⟨rfl,_⟩|⟨g',cap,cur,rfl,_,hg,_⟩
 ·simp[Value.ownBlock] at e
 ·have e1:g'=g:=by simpa[Value.ownBlock] using e
  subst e1
  unfold Box at hx
  rw[hg] at hx
  injection hx with hx
  injection hx with _ hx _
  exact hne hx
theorem Jz {w:World} {b1:Nat} {e1:TypeId} {s1:Nat} {v1:Value} {n1:Nat} {x1:List Value} (h1:w.ownsRow b1 e1 s1 v1 n1 x1) {g:Nat} {ty:TypeId} {cs:Array Value} (hx:Box w g ty cs) (hne:e1≠ty) (i:Nat) (v:Value):(w.setCell ⟨g,i,none⟩ v).ownsRow b1 e1 s1 v1 n1 x1 :=
 jx h1 fun q hq=>Below.heap_setCell w ⟨g,i,none⟩ v q fun(e:q=g)=>vz h1 hx hne (by rw[hq,e])
theorem DF.ok.far {x:DF} {w:World} {base:Nat} {t:FE} {ti:ByteArray} (h:x.ok w base t ti) {g:Nat} {ty:TypeId} {cs:Array Value} (hx:Box w g ty cs) (hne:9≠ty) (i:Nat) (v:Value):x.ok (w.setCell ⟨g,i,none⟩ v) base t ti:=by
 obtain⟨b,hb',ho⟩:=h.row
 exact⟨b,hb',Jz ho hx hne i v⟩
theorem jaJ (A:Option Addr) (c:Nat) (l:List Value) (w:World) (hr:Row w w.heap.size A l) (h0:0<l.length) (hn:l.length≤1000000) (h1:∀u∈l,u.oneCell'=true) :
  Calls Tryz.prog 18 #[.slice A l.length c] w fun e w'=>∃v,e = .returned v∧w'.ownsRow w.heap.size 9 1 v l.length l∧Below w.heap.size w w':=by
 obtain⟨i0,hi0,hz0,hz1,hz2⟩:=info_parts yb
 obtain⟨b,o,rfl,hb,hcs⟩:=hr.open_ (fun e=>by rw[e] at h0;simp at h0)
 have HN:=hD (kG (w:=w.alloc (.cells #[] 9)) (fun j v hv=>(World.cell?_alloc_lt w _ ⟨b,o+j,none⟩ hb).trans (hcs j v hv)))
 have HO:Hid ((w.alloc (.cells #[] 9)).ownsRow w.heap.size 9 1 (.slice (some ⟨w.heap.size,0,none⟩) 0 0) 0 []):=World.ownsRow_made w #[] 0 (Nat.le_refl _) (by unfold maxLen;omega) (by simp)
 have H1:=hD h1
 clear hcs hr h1
 have hnil:∀w,(binOp .eql 25 (.slice (some ⟨b,o,none⟩) l.length c) (.slice none 0 0)).run Tryz.prog w = .ok (.bool false) w:=fun w=>Lib.run_eql_slice_nil w 25 _ _ _ _ _ _ Tryz.underlying25
 go_enter Tryz.func18,Tryz.ntmps18
 go_wp2_with (at_builtin;refine wpList_append_own _ rfl (.tmp 5) (.tmp 6) 25 rfl w.heap.size 9 i0 (.string ⟨#[]⟩) 1 16 Tryz.underlying25 hi0 hz0 hz1 hz2 rfl (by decide) _ 0 [] rfl HO.out ⟨b,o,none⟩ l.length c l rfl ?c0 ?c1 ?c2 ?c3 ?c4 ?c5 ?_)
 case c0=>omega
 case c1=>exact HN.out
 case c2=>exact H1.out
 case c3=>simp only[maxLen];omega
 case c4=>omega
 case c5=>simp
 intro v' w3 hown' hgrow _
 have hB:Below w.heap.size w w3:=(ja w _).grown hgrow (by simp) (fun k hk=>by simp[Value.ownBlock] at hk;omega)
 try simp only[Nat.zero_add,List.nil_append] at hown'
 clear hgrow
 go_wp2_with fail
 go_ret
 exact⟨v',rfl,hown',hB⟩
structure Days (w:World) (base:Nat) (t:FE) (ti:ByteArray) (lo:Int) (ds:List DF):Prop where
 d:∀i (h:i<ds.length),(ds[i]).d=lo+(i:Int)
 k:∀x∈ds,x.ok w base t ti
def jfK (t:FE) (ti:ByteArray) (lo:Int) (n:Nat) (w:World) (e:Ending) (w':World):Prop:=Below w.heap.size w w' ∧
 ((∃E:Int,E≠0∧e = .returned (.tuple #[.agg #[.slice none 0 0,.slice none 0 0,.slice none 0 0,.slice none 0 0],.int .i64 E])∧¬FeGood t) ∨
  (∃(A1 A2 A:Option Addr) (c1 n2 c2 c:Nat) (ds:List DF),e = .returned (.tuple #[.agg #[.slice none 0 0,.slice A1 1 c1,.slice A2 n2 c2,.slice A ds.length c],.int .i64 0])∧FeGood t∧ds.length=n+1∧w'.ownsRow w.heap.size 50 10 (.slice A ds.length c) ds.length (ds.flatMap dfF)∧Days w' w.heap.size t ti lo ds))
theorem KP (gr bt bf:Nat) (ti:ByteArray) (t:FE) (lo:Int) (n:Nat) (w:World) (hv:Env w) (hT:SkyT w) (hg:gr<w.heap.size) (h0:w.cell? ⟨gr,0,none⟩=some (.slice none 0 0)) (hp:PlIn w bt bf ti t) (hti:qo ti) (l0:1≤lo) (l1:lo≤1000000) (hn:n≤40) :
  Calls Tryz.prog 5 #[.pointer (some ⟨gr,0,none⟩),Kd bt bf,.agg #[.int .i64 0,.int .i64 0],.int .i64 lo,.int .i64 (lo+(n:Int))] w (jfK t ti lo n w):=by
 have HCk:=hD (fun W (h:Below w.heap.size w W)=>Xz gr bt bf ti t W (hv.next h) (by have:=h.size;omega) ((h.cell (p:=⟨gr,0,none⟩) hg).trans h0) (hp.next h) hti)
 have HGa:=hD (fun(hgd:FeGood t) (day:Int) (h1 : -2000000≤day) (h2:day≤2000000) W (h:Below w.heap.size w W)=>VE 0 bt bf (.pointer (some ⟨gr,0,none⟩)) ti t day W (hv.next h) (hT.next h) (hp.next h) hgd h1 h2)
 have HCp:=hD (fun(hgd:FeGood t) W (h:Below w.heap.size w W)=>VY 40 t W hgd.sz (hp.next h).fin hgd.ok)
 have HP:=hD (fun W (h:Below w.heap.size w W)=>hp.next h)
 have HPc:=hD (fun W=>JH W)
 obtain⟨hi,hhi⟩:∃hi,hi=lo+(n:Int):=⟨_,rfl⟩
 rw[←hhi]
 have HHi:=hD hhi
 have h1:lo≤hi:=by omega
 have h2:hi-lo≤40:=by omega
 clear hhi
 have HI:=hD (fun d W (h3:lo≤d) (h4:d≤hi)=>Km d W (by omega) (by omega))
 have t1:decide (hi<lo)=false:=decide_eq_false (by omega)
 have t2:decide (40<hi-lo)=false:=decide_eq_false (by omega)
 obtain⟨t0,ht0⟩:∃t0,t0=t:=⟨_,rfl⟩
 obtain⟨k,a,b,nm,A,c,ks⟩:=t
 have e1:feV t0 = .agg #[.int .i64 k,.int .i64 a,.int .i64 b,.string nm,.slice A ks.length c]:=by rw[ht0];rfl
 rw[ht0.symm] at HCk HGa HCp ⊢
 rw[e1] at HCp
 clear hv hT h0 hp hti e1 ht0
 go_enter Tryz.func5,Tryz.ntmps5
 go_upto_region 1 with fail
 obtain⟨g,hgw⟩:∃g,g=w.heap.size:=⟨_,rfl⟩
 have hbW:=jb (jb (ja w (Obj.cells #[.slice none 0 0,.slice (some ⟨bt,0,none⟩) 1 1,.slice (some ⟨bf,0,none⟩) 1 1] 28)) (ja _ (Obj.cells #[.int .i64 0,.int .i64 0] 38))) (ja _ (Obj.cells #[.slice none 0 0,.slice none 0 0,.slice none 0 0,.slice none 0 0] 31))
 have hx0:Box (((w.alloc (Obj.cells #[.slice none 0 0,.slice (some ⟨bt,0,none⟩) 1 1,.slice (some ⟨bf,0,none⟩) 1 1] 28)).alloc (Obj.cells #[.int .i64 0,.int .i64 0] 38)).alloc (Obj.cells #[.slice none 0 0,.slice none 0 0,.slice none 0 0,.slice none 0 0] 31)) g 28 #[.slice none 0 0,.slice (some ⟨bt,0,none⟩) 1 1,.slice (some ⟨bf,0,none⟩) 1 1]:=by rw[hgw];exact((Box.new w _ _).alloc _).alloc _
 have hx1:Box (((w.alloc (Obj.cells #[.slice none 0 0,.slice (some ⟨bt,0,none⟩) 1 1,.slice (some ⟨bf,0,none⟩) 1 1] 28)).alloc (Obj.cells #[.int .i64 0,.int .i64 0] 38)).alloc (Obj.cells #[.slice none 0 0,.slice none 0 0,.slice none 0 0,.slice none 0 0] 31)) (g+1) 38 #[.int .i64 0,.int .i64 0]:=by have h:=(Box.new (w.alloc (Obj.cells #[.slice none 0 0,.slice (some ⟨bt,0,none⟩) 1 1,.slice (some ⟨bf,0,none⟩) 1 1] 28)) 38 #[.int .i64 0,.int .i64 0]).alloc (Obj.cells #[.slice none 0 0,.slice none 0 0,.slice none 0 0,.slice none 0 0] 31);rw[World.size_alloc,←hgw] at h;exact h
 have hx2:Box (((w.alloc (Obj.cells #[.slice none 0 0,.slice (some ⟨bt,0,none⟩) 1 1,.slice (some ⟨bf,0,none⟩) 1 1] 28)).alloc (Obj.cells #[.int .i64 0,.int .i64 0] 38)).alloc (Obj.cells #[.slice none 0 0,.slice none 0 0,.slice none 0 0,.slice none 0 0] 31)) (g+2) 31 #[.slice none 0 0,.slice none 0 0,.slice none 0 0,.slice none 0 0]:=by have h:=Box.new ((w.alloc (Obj.cells #[.slice none 0 0,.slice (some ⟨bt,0,none⟩) 1 1,.slice (some ⟨bf,0,none⟩) 1 1] 28)).alloc (Obj.cells #[.int .i64 0,.int .i64 0] 38)) 31 #[.slice none 0 0,.slice none 0 0,.slice none 0 0,.slice none 0 0];rw[World.size_alloc,World.size_alloc,←hgw] at h;exact h
 have hWs:(((w.alloc (Obj.cells #[.slice none 0 0,.slice (some ⟨bt,0,none⟩) 1 1,.slice (some ⟨bf,0,none⟩) 1 1] 28)).alloc (Obj.cells #[.int .i64 0,.int .i64 0] 38)).alloc (Obj.cells #[.slice none 0 0,.slice none 0 0,.slice none 0 0,.slice none 0 0] 31)).heap.size=g+3:=by rw[World.size_alloc,World.size_alloc,World.size_alloc,←hgw]
 rw[←hgw] at hbW HCk HP HGa HCp hg ⊢
 have e2:g+1+1=g+2:=rfl
 rw[e2]
 generalize (((w.alloc (Obj.cells #[.slice none 0 0,.slice (some ⟨bt,0,none⟩) 1 1,.slice (some ⟨bf,0,none⟩) 1 1] 28)).alloc (Obj.cells #[.int .i64 0,.int .i64 0] 38)).alloc (Obj.cells #[.slice none 0 0,.slice none 0 0,.slice none 0 0,.slice none 0 0] 31))=W3 at *
 have HG:=hD hgw
 have HX0:=hD hx0
 have HX1:=hD hx1
 have HX2:=hD hx2
 have HBW:=hD hbW
 have HWs:=hD hWs
 clear hgw hx0 hx1 hx2 hbW hWs e2
 have c0:W3.cell? ⟨g,0,none⟩=some (.slice none 0 0):=HX0.out.cell 0
 have c1:W3.cell? ⟨g,1,none⟩=some (.slice (some ⟨bt,0,none⟩) 1 1):=HX0.out.cell 1
 have c2:W3.cell? ⟨g,2,none⟩=some (.slice (some ⟨bf,0,none⟩) 1 1):=HX0.out.cell 2
 go_upto_region 2 with(go_at_call 15;refine(HCk.out _ HBW.out).mono ?_;rintro e w4 ⟨E,rfl,hE,hb4⟩;have HB4:=hD hb4;have HE:=hD hE;clear hb4 hE)
 have HB5:Hid (Below g w w4):=HBW.out.trans (HB4.out.mono (by rw[HWs.out];omega))
 have HX04:=hD (HX0.out.below HB4.out)
 have HX14:=hD (HX1.out.below HB4.out)
 have HX24:=hD (HX2.out.below HB4.out)
 have hs4:g+3≤w4.heap.size:=by have:=HB4.out.size;rw[HWs.out] at this;exact this
 clear c0 c1 c2 HX0 HX1 HX2 HBW HWs HB4 HCk
 by_cases hE0:E=0
 ·subst hE0
  have hgd:FeGood t0:=HE.out.1 rfl
  have HGd:=hD hgd
  clear hgd HE
  have d0:w4.cell? ⟨g+1,0,none⟩=some (.int .i64 0):=HX14.out.cell 0
  have d1:w4.cell? ⟨g+1,1,none⟩=some (.int .i64 0):=HX14.out.cell 1
  go_upto_region 5 with(go_at_call 16;refine(HPc.out _).mono ?_;rintro e w5 ⟨rfl,hb5⟩;have HB6:=hD hb5;clear hb5)
  have HB7:Hid (Below g w w5):=HB5.out.trans (HB6.out.mono (by omega))
  have HX05:=hD (HX04.out.below HB6.out)
  have HX15:=hD (HX14.out.below HB6.out)
  have HX25:=hD (HX24.out.below HB6.out)
  have hs5:g+3≤w5.heap.size:=by have:=HB6.out.size;omega
  clear d0 d1 HX04 HX14 HX24 HB5 HB6 hs4
  go_upto_region 13 with(go_at_call 17;refine(HI.out _ _ (by omega) (by omega)).mono ?_;rintro e w' ⟨rfl,hh⟩;have hh:=hh.symm;subst hh)
  have p0:∀W,Below w5.heap.size w5 W→W.cell? ⟨g,0,none⟩=some (.slice none 0 0):=fun W h=>(HX05.out.below h).cell 0
  have p1:∀W,Below w5.heap.size w5 W→W.cell? ⟨g,1,none⟩=some (.slice (some ⟨bt,0,none⟩) 1 1):=fun W h=>(HX05.out.below h).cell 1
  refine jr 9 (jy [(2,det (.slice none 0 0)),(5,⟨fun v=>∃A' c',v = .slice A' 1 c',fun _ _=>True⟩)]) (by kernel_rfl) (by kernel_rfl) ?_
  simp only[List.take_succ_cons,List.take_zero,List.drop_succ_cons,List.drop_zero]
  repeat (first|(refine jf (v:=?_) (by rfl) (by rfl) (fun w hb=>?_) ?_;rotate_left;(· go_simp<;>(repeat' apply And.intro)<;>with_reducible rfl);try simp only[pZ,Nat.reduceAdd])|(refine je (by rfl) (by rfl) ?_;try simp only[pZ,Nat.reduceAdd]))
  refine j8 (f:=?_) (args:=?_) [] (by kernel_rfl) (by rfl) (by rfl) (fun w hb=>?_) (fun w hb hu=>?_) ?_;rotate_left 2;(· go_simp<;>(repeat' apply And.intro)<;>with_reducible rfl)
  ·exact(xo w).mono fun e w' h=>⟨h.1,by rw[h.2];exact Below.refl _ _⟩
  try simp only[pZ,Nat.reduceAdd]
  repeat (first|(refine jf (v:=?_) (by rfl) (by rfl) (fun w hb=>?_) ?_;rotate_left;(· go_simp<;>(repeat' apply And.intro)<;>with_reducible rfl);try simp only[pZ,Nat.reduceAdd])|(refine je (by rfl) (by rfl) ?_;try simp only[pZ,Nat.reduceAdd]))
  refine jl (f:=?_) (args:=?_) [] (by kernel_rfl) (by rfl) (by rfl) ?_ ?_ (fun w hb=>?_) (fun w hb hu=>?_) ?_;rotate_left 4;(· go_simp<;>(repeat' apply And.intro)<;>with_reducible rfl)
  ·have hbx:=(HP.out w (HB7.out.trans (hb.mono (by omega)))).tx
   refine(jaJ (some ⟨bt,0,none⟩) 1 [.string ti] w (.inr ⟨bt,0,rfl,hbx.lt,fun j v hv=>by rw[Nat.zero_add,hbx.cell j,List.getElem?_toArray];exact hv⟩) (by simp) (by simp) (by intro u hu;simp at hu;subst hu;rfl)).mono ?_
   rintro e w' ⟨v,he,ho,hb'⟩
   obtain⟨A',c',hv',_,_⟩:=jI ho
   exact⟨v,he,⟨A',c',hv'⟩,trivial,hb'⟩
  ·rintro v ⟨A1,c1,rfl⟩
   try simp only[pZ,Nat.reduceAdd]
   repeat (first|(refine jf (v:=?_) (by rfl) (by rfl) (fun w hb=>?_) ?_;rotate_left;(· go_simp<;>(repeat' apply And.intro)<;>with_reducible rfl);try simp only[pZ,Nat.reduceAdd])|(refine je (by rfl) (by rfl) ?_;try simp only[pZ,Nat.reduceAdd]))
   refine zH (t:=?_) (cs:=?_) (by rfl) (by rfl) (fun w hb=>?_) (fun ga hga=>?_);rotate_left 2;(· go_simp<;>(repeat' apply And.intro)<;>with_reducible rfl);try simp only[pZ,Nat.reduceAdd]
   refine jo fun w6 hb6 hf=>?_
   have HXa:=hD hf.1
   have HBf:=hD hb6
   have hga':g+3≤ga:=by omega
   have hs6:=hb6.size
   clear hb6 hf p0 p1
   have qa:=fun i=>HXa.out.free i
   have la:=HXa.out.lt
   have r0:w6.cell? ⟨ga,0,none⟩=some (.slice none 0 0):=HXa.out.cell 0
   have r1:w6.cell? ⟨ga,1,none⟩=some (.slice none 0 0):=HXa.out.cell 1
   have r2:w6.cell? ⟨ga,2,none⟩=some (.slice none 0 0):=HXa.out.cell 2
   have r3:w6.cell? ⟨ga,3,none⟩=some (.slice none 0 0):=HXa.out.cell 3
   go_upto_region 14 with fail
   clear qa la r0 r1 r2 r3
   have HX0:=hD ((((((HX05.out.below HBf.out).far (p:=⟨ga,0,none⟩) (by show g≠ga;omega) (.slice none 0 0)).far (p:=⟨ga,1,none⟩) (by show g≠ga;omega) (.slice A1 1 c1)).far (p:=⟨ga,2,none⟩) (by show g≠ga;omega) (.slice none 0 0)).far (p:=⟨ga,3,none⟩) (by show g≠ga;omega) (.slice none 0 0)))
   have HX1:=hD ((((((HX15.out.below HBf.out).far (p:=⟨ga,0,none⟩) (by show g+1≠ga;omega) (.slice none 0 0)).far (p:=⟨ga,1,none⟩) (by show g+1≠ga;omega) (.slice A1 1 c1)).far (p:=⟨ga,2,none⟩) (by show g+1≠ga;omega) (.slice none 0 0)).far (p:=⟨ga,3,none⟩) (by show g+1≠ga;omega) (.slice none 0 0)))
   have HX2:=hD ((((((HX25.out.below HBf.out).far (p:=⟨ga,0,none⟩) (by show g+2≠ga;omega) (.slice none 0 0)).far (p:=⟨ga,1,none⟩) (by show g+2≠ga;omega) (.slice A1 1 c1)).far (p:=⟨ga,2,none⟩) (by show g+2≠ga;omega) (.slice none 0 0)).far (p:=⟨ga,3,none⟩) (by show g+2≠ga;omega) (.slice none 0 0)))
   have hXa:=((((HXa.out.set_ 0 (.slice none 0 0)).set_ 1 (.slice A1 1 c1)).set_ 2 (.slice none 0 0)).set_ 3 (.slice none 0 0))
   have HB:=hD ((((((HB7.out.trans (HBf.out.mono (by omega))).setCell (p:=⟨ga,0,none⟩) (by show g≤ga;omega) (.slice none 0 0)).setCell (p:=⟨ga,1,none⟩) (by show g≤ga;omega) (.slice A1 1 c1)).setCell (p:=⟨ga,2,none⟩) (by show g≤ga;omega) (.slice none 0 0)).setCell (p:=⟨ga,3,none⟩) (by show g≤ga;omega) (.slice none 0 0)))
   generalize ((((w6.setCell ⟨ga,0,none⟩ (.slice none 0 0)).setCell ⟨ga,1,none⟩ (.slice A1 1 c1)).setCell ⟨ga,2,none⟩ (.slice none 0 0)).setCell ⟨ga,3,none⟩ (.slice none 0 0))=W7 at *
   have HXa:Hid (Box W7 ga 31 #[.slice none 0 0,.slice A1 1 c1,.slice none 0 0,.slice none 0 0]):=hXa
   have lg2:=HX2.out.lt
   clear hXa HX05 HX15 HX25 HB7 HBf hs6 hs5
   have c2:W7.cell? ⟨g,2,none⟩=some (.slice (some ⟨bf,0,none⟩) 1 1):=HX0.out.cell 2
   have hfx:Box W7 bf 24 #[.int .i64 k,.int .i64 a,.int .i64 b,.string nm,.slice A ks.length c]:=(HP.out W7 HB.out).fx
   obtain⟨y0,y1,y2,y3,y4⟩:=jR hfx
   clear hfx
   go_wp2_with fail
   go_loopw [16,63] (fun _ i wr=>(i = .int .i64 0∧wr=W7)∨(i = .int .i64 1∧∃(A2:Option Addr) (n2 c2:Nat),Hid (Box wr g 28 #[.slice none 0 0,.slice (some ⟨bt,0,none⟩) 1 1,.slice (some ⟨bf,0,none⟩) 1 1])∧Hid (Box wr (g+1) 38 #[.int .i64 0,.int .i64 0])∧Hid (Box wr (g+2) 31 #[.slice none 0 0,.slice none 0 0,.slice none 0 0,.slice none 0 0])∧Hid (Box wr ga 31 #[.slice none 0 0,.slice A1 1 c1,.slice A2 n2 c2,.slice none 0 0])∧Hid (Below g w wr))) (fun _ i _=>1-(RowKit.intOf i).toNat)
   case atStart=>exact .inl ⟨rfl,rfl⟩
   case round =>
    rcases hrel with⟨rfl,hh⟩|⟨rfl,A2,n2,c2',HX0,HX1,HX2,HXa,HB⟩
    ·have hh:=hh.symm
     subst hh
     have hbA:=ja W7 (.cells #[.int .i64 k,.int .i64 a,.int .i64 b,.string nm,.slice A ks.length c] 24)
     have hxA:=Box.new W7 24 #[.int .i64 k,.int .i64 a,.int .i64 b,.string nm,.slice A ks.length c]
     go_upto_region 17 with fail
     obtain⟨gk,hgk⟩:∃gk,gk=W7.heap.size:=⟨_,rfl⟩
     rw[←hgk] at hxA ⊢
     have hgk3:g+2<gk:=by omega
     clear hgk
     generalize W7.alloc (.cells #[.int .i64 k,.int .i64 a,.int .i64 b,.string nm,.slice A ks.length c] 24)=W8 at *
     have hz8:=hbA.size
     have HX0:=hD (HX0.out.below hbA)
     have HX1:=hD (HX1.out.below hbA)
     have HX2:=hD (HX2.out.below hbA)
     have HXa:=hD (HXa.out.below hbA)
     have HB:Hid (Below g w W8):=HB.out.trans (hbA.mono (by omega))
     have HXk:=hD hxA
     clear hxA hbA c2 y0 y1 y2 y3 y4
     have p0:∀W,Below W8.heap.size W8 W→W.cell? ⟨ga,2,none⟩=some (.slice none 0 0):=fun W h=>(HXa.out.below h).cell 2
     have z0:∀W,Below W8.heap.size W8 W→W.cell? ⟨gk,0,none⟩=some (.int .i64 k):=fun W h=>(HXk.out.below h).cell 0
     have z1:∀W,Below W8.heap.size W8 W→W.cell? ⟨gk,1,none⟩=some (.int .i64 a):=fun W h=>(HXk.out.below h).cell 1
     have z2:∀W,Below W8.heap.size W8 W→W.cell? ⟨gk,2,none⟩=some (.int .i64 b):=fun W h=>(HXk.out.below h).cell 2
     have z3:∀W,Below W8.heap.size W8 W→W.cell? ⟨gk,3,none⟩=some (.string nm):=fun W h=>(HXk.out.below h).cell 3
     have z4:∀W,Below W8.heap.size W8 W→W.cell? ⟨gk,4,none⟩=some (.slice A ks.length c):=fun W h=>(HXk.out.below h).cell 4
     refine jr 6 (jy [(4,⟨fun v=>∃(k a b:Int) (nm:ByteArray) (A:Option Addr) (n c:Nat),v = .agg #[.int .i64 k,.int .i64 a,.int .i64 b,.string nm,.slice A n c],fun _ _=>True⟩)]) (by kernel_rfl) (by kernel_rfl) ?_
     simp only[List.take_succ_cons,List.take_zero,List.drop_succ_cons,List.drop_zero]
     repeat (first|(refine jf (v:=?_) (by rfl) (by rfl) (fun w hb=>?_) ?_;rotate_left;(· go_simp<;>(repeat' apply And.intro)<;>with_reducible rfl);try simp only[pZ,Nat.reduceAdd])|(refine je (by rfl) (by rfl) ?_;try simp only[pZ,Nat.reduceAdd]))
     refine jl (f:=?_) (args:=?_) [] (by kernel_rfl) (by rfl) (by rfl) ?_ ?_ (fun w hb=>?_) (fun w hb hu=>?_) ?_;rotate_left 4;(· go_simp<;>(repeat' apply And.intro)<;>with_reducible rfl)
     ·refine(HCp.out HGd.out w (HB.out.trans (hb.mono (by omega)))).mono ?_
      rintro e w' ⟨k,a,b,nm,A,n,c,he,hb'⟩
      exact⟨_,he,⟨k,a,b,nm,A,n,c,rfl⟩,trivial,hb'⟩
     ·rintro v ⟨k3,a3,b3,nm3,A3,n3,c3,rfl⟩
      try simp only[pZ,Nat.reduceAdd]
      repeat (first|(refine jf (v:=?_) (by rfl) (by rfl) (fun w hb=>?_) ?_;rotate_left;(· go_simp<;>(repeat' apply And.intro)<;>with_reducible rfl);try simp only[pZ,Nat.reduceAdd])|(refine je (by rfl) (by rfl) ?_;try simp only[pZ,Nat.reduceAdd]))
      refine kV (n:=?_) (c:=?_) (t:=?_) (cs:=?_) (by rfl) (by rfl) (fun w hb=>?_) (fun g5 hg5=>?_);rotate_left 4;(· go_simp<;>(repeat' apply And.intro)<;>with_reducible rfl);try simp only[pZ,Nat.reduceAdd]
      refine jo fun w9 hb9 hf=>?_
      obtain⟨i0,hi0,hz0,hz1,hz2⟩:=info_parts jaU
      have HF9:=hD hf.1
      have HB9:=hD hb9
      have hs9:=hb9.size
      clear p0 z0 z1 z2 z3 z4 hb9 hf
      refine wpList_append_own _ rfl (.tmp 69) (.tmp 72) 22 rfl (g+3) 24 i0 (.agg #[.int .i64 0,.int .i64 0,.int .i64 0,.string ⟨#[]⟩,.slice none 0 0]) 5 64 Tryz.underlying22 hi0 hz0 hz1 hz2 rfl (by decide) (.slice none 0 0) 0 [] rfl (World.ownsRow_nil _ _ _ _) ⟨g5,0,none⟩ 1 1 [.int .i64 k3,.int .i64 a3,.int .i64 b3,.string nm3,.slice A3 n3 c3] rfl ?c0 ?c1 ?c2 ?c3 ?c4 ?c5 ?_
      case c0=>rfl
      case c1=>exact Qc (fun z v hv=>by rw[Nat.zero_add,HF9.out.cell z,List.getElem?_toArray];exact hv)
      case c2=>intro u hu;simp at hu;rcases hu with rfl|rfl|rfl|rfl|rfl<;>rfl
      case c3=>simp only[maxLen];omega
      case c4=>omega
      case c5=>omega
      intro v' w10 hown9 hgrow _
      obtain⟨A9,c9,hv9,_,_⟩:=jI hown9
      subst hv9
      have HX0:=hD ((HX0.out.below HB9.out).grown hgrow (by simp[Value.ownBlock]))
      have HX1:=hD ((HX1.out.below HB9.out).grown hgrow (by simp[Value.ownBlock]))
      have HX2:=hD ((HX2.out.below HB9.out).grown hgrow (by simp[Value.ownBlock]))
      have HXa:=hD ((HXa.out.below HB9.out).grown hgrow (by simp[Value.ownBlock]))
      have HB10:Hid (Below g w w10):=(HB.out.trans (HB9.out.mono (by omega))).grown hgrow (by omega) (fun q hq=>by simp[Value.ownBlock] at hq)
      clear hown9 hgrow
      have q3:w10.frozen? ⟨ga,2,none⟩=false:=HXa.out.free 2
      have u3:w10.cell? ⟨ga,2,none⟩=some (.slice none 0 0):=HXa.out.cell 2
      go_wp2_with fail
      go_roundw
      case rel =>
       exact .inr ⟨rfl,A9,_,c9,HX0.out.far (p:=⟨ga,2,none⟩) (by show g≠ga;omega) _,HX1.out.far (p:=⟨ga,2,none⟩) (by show g+1≠ga;omega) _,HX2.out.far (p:=⟨ga,2,none⟩) (by show g+2≠ga;omega) _,HXa.out.set_ 2 _,HB10.out.setCell (p:=⟨ga,2,none⟩) (by show g≤ga;omega) _⟩
      case measure=>simp[RowKit.intOf]
     ·exact⟨_,0,0,0,⟨#[]⟩,none,0,0,rfl⟩
     ·exact fun _ _ _ _ _=>trivial
    ·clear c2 y0 y1 y2 y3 y4 HP HCp HPc HI
     obtain⟨c2x,hc2x⟩:∃c2x,c2x=c2':=⟨_,rfl⟩
     rw[←hc2x] at HXa
     clear hc2x
     have hgw:g+2<wr.heap.size:=HX2.out.lt
     obtain⟨i0,hi0,hz0,hz1,hz2⟩:=info_parts jfm
     go_wp2_with fail
     go_loopw [17] (fun d ws=>∃(j:Nat) (Au:Option Addr) (cu:Nat) (ds:List DF),d = .int .i64 (lo+(j:Int))∧j≤n+1∧ds.length=j∧Hid (Box ws g 28 #[.slice none 0 0,.slice (some ⟨bt,0,none⟩) 1 1,.slice (some ⟨bf,0,none⟩) 1 1])∧Hid (Box ws (g+1) 38 #[.int .i64 0,.int .i64 0])∧Hid (Box ws (g+2) 31 #[.slice none 0 0,.slice none 0 0,.slice none 0 0,.slice none 0 0])∧Hid (Box ws ga 31 #[.slice none 0 0,.slice A1 1 c1,.slice A2 n2 c2x,.slice Au j cu])∧Hid (ws.ownsRow (g+3) 50 10 (.slice Au j cu) j (ds.flatMap dfF))∧Hid (Days ws (g+3) t0 ti lo ds)∧Hid (Below g w ws)) (fun d _=>n+1-(RowKit.intOf d-lo).toNat)
     case atStart=>exact⟨0,none,0,[],by simp,by omega,rfl,HX0,HX1,HX2,HXa,World.ownsRow_nil _ _ _ _,⟨fun i h=>by simp at h,fun x hx=>by simp at hx⟩,HB⟩
     case round =>
      obtain⟨j,Au,cu,ds,rfl,hj,hdl,HX0,HX1,HX2,HXa,HOw,HDs,HB⟩:=hrel
      rename World=>ws
      have hhi:=HHi.out
      have hgs:g+2<ws.heap.size:=HX2.out.lt
      by_cases hlt:j<n+1
      ·have tl:decide (lo+(j:Int)≤hi)=true:=decide_eq_true (by omega)
       have hd1:lo+(j:Int)≤1000040:=by omega
       have hd0:1≤lo+(j:Int):=by omega
       obtain⟨day,hday⟩:∃day,day=lo+(j:Int):=⟨_,rfl⟩
       have HDay:=hD hday
       rw[←hday] at tl hd1 hd0 ⊢
       clear hhi hday
       go_upto_region 22 with fail
       have p0:∀W,Below ws.heap.size ws W→W.cell? ⟨ga,3,none⟩=some (.slice Au j cu):=fun W h=>(HXa.out.below h).cell 3
       have p1:∀W,Below ws.heap.size ws W→W.cell? ⟨g,0,none⟩=some (.slice none 0 0):=fun W h=>(HX0.out.below h).cell 0
       have p2:∀W,Below ws.heap.size ws W→W.cell? ⟨g,1,none⟩=some (.slice (some ⟨bt,0,none⟩) 1 1):=fun W h=>(HX0.out.below h).cell 1
       have p3:∀W,Below ws.heap.size ws W→W.cell? ⟨g,2,none⟩=some (.slice (some ⟨bf,0,none⟩) 1 1):=fun W h=>(HX0.out.below h).cell 2
       have p4:∀W,Below ws.heap.size ws W→W.cell? ⟨g+1,0,none⟩=some (.int .i64 0):=fun W h=>(HX1.out.below h).cell 0
       have p5:∀W,Below ws.heap.size ws W→W.cell? ⟨g+1,1,none⟩=some (.int .i64 0):=fun W h=>(HX1.out.below h).cell 1
       refine jr 8 (jy [(6,⟨fun v=>∃x:DF,v = .agg #[.int .i64 x.d,.int .i64 x.wd,.slice none 0 0,.slice x.A x.n x.c,.int .i64 x.r1,.int .i64 x.r2,.int .i64 x.s1,.int .i64 x.s2,.int .i64 x.su,.int .i64 x.ph]∧x.d=day,fun v W=>∀x:DF,v = .agg (dfF x).toArray→x.ok W (g+3) t0 ti⟩)]) (by kernel_rfl) (by kernel_rfl) ?_
       simp only[List.take_succ_cons,List.take_zero,List.drop_succ_cons,List.drop_zero]
       repeat (first|(refine jf (v:=?_) (by rfl) (by rfl) (fun w hb=>?_) ?_;rotate_left;(· go_simp<;>(repeat' apply And.intro)<;>with_reducible rfl);try simp only[pZ,Nat.reduceAdd])|(refine je (by rfl) (by rfl) ?_;try simp only[pZ,Nat.reduceAdd]))
       refine jl (f:=?_) (args:=?_) [] (by kernel_rfl) (by rfl) (by rfl) ?_ ?_ (fun w hb=>?_) (fun w hb hu=>?_) ?_;rotate_left 4;(· go_simp<;>(repeat' apply And.intro)<;>with_reducible rfl)
       ·refine(HGa.out HGd.out day (by omega) (by omega) w (HB.out.trans (hb.mono (by omega)))).mono ?_
        rintro e w' ⟨x,he,hxd,hok,hb'⟩
        refine⟨_,he,⟨x,rfl,hxd⟩,fun y hy=>?_,hb'⟩
        have hxy:y=x:=by
         obtain⟨⟩:=x
         obtain⟨⟩:=y
         simp[dfF] at hy ⊢
         obtain⟨h1,h2,⟨h3,h4,h5⟩,h6,h7,h8,h9,h10,h11⟩:=hy
         exact⟨h1.symm,h2.symm,h3.symm,h4.symm,h5.symm,h6.symm,h7.symm,h8.symm,h9.symm,h10.symm,h11.symm⟩
        rw[hxy]
        exact hok.lower (by have:=hb.size;omega)
       ·rintro v ⟨x,rfl,hxd⟩
        try simp only[pZ,Nat.reduceAdd]
        repeat (first|(refine jf (v:=?_) (by rfl) (by rfl) (fun w hb=>?_) ?_;rotate_left;(· go_simp<;>(repeat' apply And.intro)<;>with_reducible rfl);try simp only[pZ,Nat.reduceAdd])|(refine je (by rfl) (by rfl) ?_;try simp only[pZ,Nat.reduceAdd]))
        refine kV (n:=?_) (c:=?_) (t:=?_) (cs:=?_) (by rfl) (by rfl) (fun w hb=>?_) (fun g7 hg7=>?_);rotate_left 4;(· go_simp<;>(repeat' apply And.intro)<;>with_reducible rfl);try simp only[pZ,Nat.reduceAdd]
        refine jo fun w9 hb9 hf=>?_
        have HF9:=hD hf.1
        have HK9:=hD (hf.2.1 x rfl)
        have HB9:=hD hb9
        have hs9:=hb9.size
        have HO9:=hD (jn HOw.out hb9)
        have HD9:Hid (Days w9 (g+3) t0 ti lo ds):=⟨HDs.out.d,fun y hy=>(HDs.out.k y hy).next hb9⟩
        have HXd:=hD hxd
        clear p0 p1 p2 p3 p4 p5 hb9 hf hxd
        refine wpList_append_own _ rfl (.tmp 84) (.tmp 90) 29 rfl (g+3) 50 i0 (.agg #[.int .i64 0,.int .i64 0,.slice none 0 0,.slice none 0 0,.int .i64 0,.int .i64 0,.int .i64 0,.int .i64 0,.int .i64 0,.int .i64 0]) 10 112 Tryz.underlying29 hi0 hz0 hz1 hz2 rfl (by decide) (.slice Au j cu) j (ds.flatMap dfF) rfl HO9.out ⟨g7,0,none⟩ 1 1 (dfF x) rfl ?c0 ?c1 ?c2 ?c3 ?c4 ?c5 ?_
        case c0=>rfl
        case c1=>exact Qc (fun z v hv=>by unfold dfF at hv;rw[HXd.out] at hv;rw[Nat.zero_add,HF9.out.cell z,List.getElem?_toArray];exact hv)
        case c2=>intro u hu;simp[dfF] at hu;rcases hu with rfl|rfl|rfl|rfl|rfl|rfl|rfl|rfl|rfl|rfl<;>rfl
        case c3=>simp only[maxLen];omega
        case c4=>omega
        case c5=>omega
        intro v' w10 hown9 hgrow _
        obtain⟨A9,c9,hv9,_,_⟩:=jI hown9
        subst hv9
        have ntp:∀{gg:Nat} {ty:TypeId} {cs:Array Value},Box w9 gg ty cs→50≠ty→some gg≠(Value.slice Au j cu).ownBlock:=fun hbx hne e=>vz HO9.out hbx hne e.symm
        have HX0:=hD ((HX0.out.below HB9.out).grown hgrow (ntp (HX0.out.below HB9.out) (by decide)))
        have HX1:=hD ((HX1.out.below HB9.out).grown hgrow (ntp (HX1.out.below HB9.out) (by decide)))
        have HX2:=hD ((HX2.out.below HB9.out).grown hgrow (ntp (HX2.out.below HB9.out) (by decide)))
        have HXa:=hD ((HXa.out.below HB9.out).grown hgrow (ntp (HXa.out.below HB9.out) (by decide)))
        have HD10:Hid (∀y∈ds++[x],y.ok w10 (g+3) t0 ti):=fun y hy=>by
         rcases List.mem_append.1 hy with hy|hy
         ·exact(HD9.out.k y hy).grown HO9.out (by decide) hgrow
         ·rw[List.mem_singleton.1 hy];exact HK9.out.grown HO9.out (by decide) hgrow
        have HB10:Hid (Below g w w10):=(HB.out.trans (HB9.out.mono (by omega))).grown hgrow (by omega) (fun q hq=>by have:=jY HO9.out q hq;omega)
        have HO10:=hD hown9
        clear hown9 hgrow ntp HD9 HK9 HF9
        have q3:w10.frozen? ⟨ga,3,none⟩=false:=HXa.out.free 3
        have u3:w10.cell? ⟨ga,3,none⟩=some (.slice Au j cu):=HXa.out.cell 3
        go_wp2_with fail
        go_roundw
        case rel =>
         refine⟨j+1,A9,c9,ds++[x],?_,by omega,by simp[hdl],HX0.out.far (p:=⟨ga,3,none⟩) (by show g≠ga;omega) _,HX1.out.far (p:=⟨ga,3,none⟩) (by show g+1≠ga;omega) _,HX2.out.far (p:=⟨ga,3,none⟩) (by show g+2≠ga;omega) _,HXa.out.set_ 3 _,?_,⟨?_,fun y hy=>(HD10.out y hy).far HXa.out (by decide) 3 _⟩,HB10.out.setCell (p:=⟨ga,3,none⟩) (by show g≤ga;omega) _⟩
         ·have:=HDay.out;subst this;go_num
         ·have h:=Jz HO10.out HXa.out (by decide) 3 (.slice A9 (j+1) c9)
          unfold Hid
          rw[List.flatMap_append]
          simpa using h
         ·intro i hi'
          rw[List.getElem_append]
          split
          ·exact HDs.out.d i _
          ·simp
           have hii:i=j:=by simp at hi';omega
           rw[HXd.out,HDay.out,hii]
        case measure=>have:=HDay.out;simp[RowKit.intOf];omega
       ·exact⟨_,⟨day,0,none,0,0,0,0,0,0,0,0⟩,rfl,rfl⟩
       ·exact fun v w w' hb h y hy=>(h y hy).next hb
      ·have tl:decide (lo+(j:Int)≤hi)=false:=decide_eq_false (by omega)
       have r0:ws.cell? ⟨ga,0,none⟩=some (.slice none 0 0):=HXa.out.cell 0
       have r1:ws.cell? ⟨ga,1,none⟩=some (.slice A1 1 c1):=HXa.out.cell 1
       have r2:ws.cell? ⟨ga,2,none⟩=some (.slice A2 n2 c2x):=HXa.out.cell 2
       have r3:ws.cell? ⟨ga,3,none⟩=some (.slice Au j cu):=HXa.out.cell 3
       have s0:ws.cell? ⟨g+2,0,none⟩=some (.slice none 0 0):=HX2.out.cell 0
       have s1:ws.cell? ⟨g+2,1,none⟩=some (.slice none 0 0):=HX2.out.cell 1
       have s2:ws.cell? ⟨g+2,2,none⟩=some (.slice none 0 0):=HX2.out.cell 2
       have s3:ws.cell? ⟨g+2,3,none⟩=some (.slice none 0 0):=HX2.out.cell 3
       have f2:=fun i=>HX2.out.free i
       clear hhi
       go_wp2_with fail
       clear r0 r1 r2 r3 s0 s1 s2 s3 f2
       have hX2:=((((HX2.out.set_ 0 (.slice none 0 0)).set_ 1 (.slice A1 1 c1)).set_ 2 (.slice A2 n2 c2x)).set_ 3 (.slice Au j cu))
       have hBe:=((((HB.out.setCell (p:=⟨g+2,0,none⟩) (by show g≤g+2;omega) (.slice none 0 0)).setCell (p:=⟨g+2,1,none⟩) (by show g≤g+2;omega) (.slice A1 1 c1)).setCell (p:=⟨g+2,2,none⟩) (by show g≤g+2;omega) (.slice A2 n2 c2x)).setCell (p:=⟨g+2,3,none⟩) (by show g≤g+2;omega) (.slice Au j cu))
       have hq:∀q,g+3≤q→((((ws.setCell ⟨g+2,0,none⟩ (.slice none 0 0)).setCell ⟨g+2,1,none⟩ (.slice A1 1 c1)).setCell ⟨g+2,2,none⟩ (.slice A2 n2 c2x)).setCell ⟨g+2,3,none⟩ (.slice Au j cu)).heap[q]?=ws.heap[q]?:=fun q hq=>by rw[Below.heap_setCell _ ⟨g+2,3,none⟩ _ q (by show q≠g+2;omega),Below.heap_setCell _ ⟨g+2,2,none⟩ _ q (by show q≠g+2;omega),Below.heap_setCell _ ⟨g+2,1,none⟩ _ q (by show q≠g+2;omega),Below.heap_setCell _ ⟨g+2,0,none⟩ _ q (by show q≠g+2;omega)]
       have hOw:World.ownsRow ((((ws.setCell ⟨g+2,0,none⟩ (.slice none 0 0)).setCell ⟨g+2,1,none⟩ (.slice A1 1 c1)).setCell ⟨g+2,2,none⟩ (.slice A2 n2 c2x)).setCell ⟨g+2,3,none⟩ (.slice Au j cu)) (g+3) 50 10 (.slice Au j cu) j (ds.flatMap dfF):=jx HOw.out fun q hb=>hq q (jY HOw.out q hb)
       have hDk:∀y∈ds,DF.ok y ((((ws.setCell ⟨g+2,0,none⟩ (.slice none 0 0)).setCell ⟨g+2,1,none⟩ (.slice A1 1 c1)).setCell ⟨g+2,2,none⟩ (.slice A2 n2 c2x)).setCell ⟨g+2,3,none⟩ (.slice Au j cu)) (g+3) t0 ti:=fun y hy=>by
        obtain⟨b,hb',ho⟩:=(HDs.out.k y hy).row
        exact⟨b,hb',jx ho fun q hb=>hq q (jY ho q hb)⟩
       clear hq
       generalize ((((ws.setCell ⟨g+2,0,none⟩ (.slice none 0 0)).setCell ⟨g+2,1,none⟩ (.slice A1 1 c1)).setCell ⟨g+2,2,none⟩ (.slice A2 n2 c2x)).setCell ⟨g+2,3,none⟩ (.slice Au j cu))=W9 at *
       have v0:W9.cell? ⟨g+2,0,none⟩=some (.slice none 0 0):=hX2.cell 0
       have v1:W9.cell? ⟨g+2,1,none⟩=some (.slice A1 1 c1):=hX2.cell 1
       have v2:W9.cell? ⟨g+2,2,none⟩=some (.slice A2 n2 c2x):=hX2.cell 2
       have v3:W9.cell? ⟨g+2,3,none⟩=some (.slice Au j cu):=hX2.cell 3
       refine bodyPost_ret (v:=.tuple #[.agg #[.slice none 0 0,.slice A1 1 c1,.slice A2 n2 c2x,.slice Au j cu],.int .i64 0]) (by simp[results,Tryz.results5,go_sem,v0,v1,v2,v3]) rfl ?_
       have hmd:=hdl.symm
       subst hmd
       refine⟨by rw[←HG.out];exact hBe,.inr ⟨A1,A2,Au,c1,n2,c2x,cu,ds,rfl,HGd.out,by omega,?_,⟨HDs.out.d,fun y hy=>?_⟩⟩⟩
       ·rw[←HG.out];exact jM hOw (by omega)
       ·rw[←HG.out];exact(hDk y hy).lower (by omega)
  ·exact⟨.slice none 1 0,none,0,rfl⟩
  ·exact fun _ _ _ _ _=>trivial
 ·have tE:decide (E=0)=false:=decide_eq_false hE0
  have qf:=fun i=>HX24.out.free i
  have c0:w4.cell? ⟨g+2,0,none⟩=some (.slice none 0 0):=HX24.out.cell 0
  have c1:w4.cell? ⟨g+2,1,none⟩=some (.slice none 0 0):=HX24.out.cell 1
  have c2:w4.cell? ⟨g+2,2,none⟩=some (.slice none 0 0):=HX24.out.cell 2
  have c3:w4.cell? ⟨g+2,3,none⟩=some (.slice none 0 0):=HX24.out.cell 3
  go_wp2_with fail
  have HX5:=hD ((((HX24.out.set_ 0 (.slice none 0 0)).set_ 1 (.slice none 0 0)).set_ 2 (.slice none 0 0)).set_ 3 (.slice none 0 0))
  have HB6:=hD ((((HB5.out.setCell (p:=⟨g+2,0,none⟩) (by show g≤g+2;omega) (.slice none 0 0)).setCell (p:=⟨g+2,1,none⟩) (by show g≤g+2;omega) (.slice none 0 0)).setCell (p:=⟨g+2,2,none⟩) (by show g≤g+2;omega) (.slice none 0 0)).setCell (p:=⟨g+2,3,none⟩) (by show g≤g+2;omega) (.slice none 0 0))
  clear qf c0 c1 c2 c3
  generalize (((w4.setCell ⟨g+2,0,none⟩ (.slice none 0 0)).setCell ⟨g+2,1,none⟩ (.slice none 0 0)).setCell ⟨g+2,2,none⟩ (.slice none 0 0)).setCell ⟨g+2,3,none⟩ (.slice none 0 0)=W5 at *
  have c0:W5.cell? ⟨g+2,0,none⟩=some (.slice none 0 0):=HX5.out.cell 0
  have c1:W5.cell? ⟨g+2,1,none⟩=some (.slice none 0 0):=HX5.out.cell 1
  have c2:W5.cell? ⟨g+2,2,none⟩=some (.slice none 0 0):=HX5.out.cell 2
  have c3:W5.cell? ⟨g+2,3,none⟩=some (.slice none 0 0):=HX5.out.cell 3
  refine bodyPost_ret (v:=.tuple #[.agg #[.slice none 0 0,.slice none 0 0,.slice none 0 0,.slice none 0 0],.int .i64 E]) (by simp[results,Tryz.results5,go_sem,c0,c1,c2,c3]) rfl ?_
  exact⟨by rw[←HG.out];exact HB6.out,.inl ⟨E,hE0,rfl,fun h=>hE0 (HE.out.2 h)⟩⟩
theorem JB (x:DF):(dfF x).length=10:=rfl
def df0:DF:=⟨0,0,none,0,0,0,0,0,0,0,0⟩
theorem QY (b:Bool) (ti:ByteArray) (A:Option Addr) (n c base:Nat) (w:World) (ho:w.ownsRow base 9 1 (.slice A n c) n (tlB b ti)) :
  Calls Tryz.prog 13 #[.slice A n c,.string ti] w fun e w'=>e = .returned (.bool b)∧w'=w:=by
 have hl:=ho.1
 cases b
 ·have h0:n=0:=by simpa[tlB] using hl.symm
  subst h0
  exact slices_Contains_string_empty A c ti w
 ·have h0:n=1:=by simpa[tlB] using hl.symm
  subst h0
  obtain⟨g,cap,hv,_,hlt⟩:=ho.form (by omega)
  have hA:A=some ⟨g,0,none⟩:=by injection hv
  subst hA
  have hc:=ho.cells (g:=g) rfl 0 (.string ti) rfl
  refine(slices_Contains_string g 0 1 c [ti] ti w (by simp) (by omega) fun j hj=>?_).mono ?_
  ·have:j=0:=by simp at hj;omega
   subst this
   exact hc
  ·rintro e w' ⟨rfl,rfl⟩
   refine⟨?_,rfl⟩
   rw[show([ti]:List ByteArray).take 1=[ti] from rfl,(Lib.containsS_iff [ti] ti).2 (by simp)]
def HavQ (l:List Int) (w:World) (e:Ending) (w':World):Prop:=∃(A:Option Addr) (c:Nat),e = .returned (.slice A l.length c)∧w'.ownsRow w.heap.size 3 1 (.slice A l.length c) l.length (jZ l)∧Below w.heap.size w w'
theorem JM (v1 v2:Value) (A:Option Addr) (c:Nat) (ds:List DF) (base:Nat) (t:FE) (ti:ByteArray) (lo:Int) (w:World) (o1:v1.oneCell'=true) (o2:v2.oneCell'=true) (hr:Row w w.heap.size A (ds.flatMap dfF)) (hds:Days w base t ti lo ds) (hl:ds.length≤100) :
  Calls Tryz.prog 7 #[.agg #[.slice none 0 0,v1,v2,.slice A ds.length c],.string ti] w (HavQ (daysF t lo ds.length) w):=by
 obtain⟨i0,hi0,hz0,hz1,hz2⟩:=info_parts vT
 have HR:=hD hr
 have HD:=hD hds
 clear hr hds
 go_enter Tryz.func7,Tryz.ntmps7
 go_upto_region 2 with fail
 obtain⟨g,hgw⟩:∃g,g=w.heap.size:=⟨_,rfl⟩
 have hB:=ja w (Obj.cells #[.slice none 0 0,v1,v2,.slice A ds.length c] 31)
 have hx:=Box.new w 31 #[.slice none 0 0,v1,v2,.slice A ds.length c]
 have hs:(w.alloc (Obj.cells #[.slice none 0 0,v1,v2,.slice A ds.length c] 31)).heap.size=g+1:=by rw[World.size_alloc,hgw]
 rw[←hgw] at hx HR hB ⊢
 generalize w.alloc (Obj.cells #[.slice none 0 0,v1,v2,.slice A ds.length c] 31)=W1 at *
 have HG:=hD hgw
 have HB:=hD hB
 have HWs:=hD hs
 have hg1:g+1≤W1.heap.size:=by omega
 clear hgw hB hs
 have x3:W1.cell? ⟨g,3,none⟩=some (.slice A ds.length c):=hx.cell 3
 have hgW:g≤w.heap.size:=by rw[←HG.out];exact Nat.le_refl _
 clear hx
 go_wp2_with fail
 clear x3
 go_loopw [5,7,11] (fun v _ i wr=>∃(j:Nat) (Ao:Option Addr) (co:Nat),j≤ds.length∧i = .int .i64 (j:Int)∧v = .slice Ao (daysF t lo j).length co∧Hid (wr.ownsRow (g+1) 3 1 (.slice Ao (daysF t lo j).length co) (daysF t lo j).length (jZ (daysF t lo j)))∧Hid (Below W1.heap.size W1 wr)) (fun _ _ i _=>ds.length-(RowKit.intOf i).toNat)
 case atStart=>exact⟨0,none,0,by omega,rfl,by simp[daysF],World.ownsRow_nil _ _ _ _,Below.refl _ _⟩
 case round =>
  obtain⟨j,Ao,co,hj,rfl,rfl,HO,HBr⟩:=hrel
  obtain⟨L,hL⟩:∃L,L=daysF t lo j:=⟨_,rfl⟩
  have hLl:L.length≤j:=by rw[hL];exact kN t lo j
  rw[←hL] at HO
  rw[←hL]
  have HL:=hD hL
  clear hL
  by_cases hlt:j<ds.length
  ·obtain⟨bA,oA,hA,hbl,hcs⟩:=HR.out.open_ (qg JB (by omega) ds (by omega))
   subst hA
   have hbel:Below g w wr:=HB.out.trans (HBr.out.mono (by omega))
   have hcr:∀q v,(ds.flatMap dfF)[q]?=some v→wr.cell? ⟨bA,oA+q,none⟩=some v:=fun q v hq=>(hbel.cell (p:=⟨bA,oA+q,none⟩) hbl).trans (hcs q v hq)
   have hmem:ds[j]∈ds:=List.getElem_mem hlt
   have hok:=((HD.out.k _ hmem).next (w':=wr) (by rw[←HG.out];exact hbel))
   have hdd:=HD.out.d j hlt
   have hgd:ds.getD j df0=ds[j]:=by simp[List.getD,hlt]
   obtain⟨x,hx⟩:∃x,x=ds.getD j df0:=⟨_,rfl⟩
   have d0:=fun z v hz hv=>jm JB df0 hcr j z hlt hz v hv
   rw[←hgd,←hx] at hok hdd
   rw[←hx] at d0
   clear hx hgd hmem hcr hcs
   obtain⟨xd,xw,xA,xn,xc,x1,x2,x3,x4,xs,xp⟩:=x
   have e0:=d0 0 _ (by omega) rfl
   have e1:=d0 1 _ (by omega) rfl
   have e2:=d0 2 _ (by omega) rfl
   have e3:=d0 3 _ (by omega) rfl
   have e4:=d0 4 _ (by omega) rfl
   have e5:=d0 5 _ (by omega) rfl
   have e6:=d0 6 _ (by omega) rfl
   have e7:=d0 7 _ (by omega) rfl
   have e8:=d0 8 _ (by omega) rfl
   have e9:=d0 9 _ (by omega) rfl
   rw[Nat.add_zero] at e0
   clear d0
   obtain⟨b,hb,hrow⟩:=hok.row
   have HDD:=hD hdd
   have HM:=hD hb
   have HRow:=hD hrow
   clear hok hdd hb hrow
   have t5:decide ((j:Int)<(ds.length:Int))=true:=decide_eq_true (by omega)
   go_upto_region 5 with fail
   have hbA:=ja wr (Obj.cells #[.int .i64 xd,.int .i64 xw,.slice none 0 0,.slice xA xn xc,.int .i64 x1,.int .i64 x2,.int .i64 x3,.int .i64 x4,.int .i64 xs,.int .i64 xp] 50)
   have hxA:=Box.new wr 50 #[.int .i64 xd,.int .i64 xw,.slice none 0 0,.slice xA xn xc,.int .i64 x1,.int .i64 x2,.int .i64 x3,.int .i64 x4,.int .i64 xs,.int .i64 xp]
   generalize wr.alloc (Obj.cells #[.int .i64 xd,.int .i64 xw,.slice none 0 0,.slice xA xn xc,.int .i64 x1,.int .i64 x2,.int .i64 x3,.int .i64 x4,.int .i64 xs,.int .i64 xp] 50)=W2 at *
   have HC:=hD (fun W (h:Below W2.heap.size W2 W)=>QY b ti xA xn xc base W (jn (jn HRow.out hbA) h))
   have HO2:=hD (jn HO.out hbA)
   have HB2:=hD (jb HBr.out hbA)
   have hs2:=HB2.out.size
   have f3:W2.cell? ⟨wr.heap.size,3,none⟩=some (.slice xA xn xc):=hxA.cell 3
   have f0:W2.cell? ⟨wr.heap.size,0,none⟩=some (.int .i64 xd):=hxA.cell 0
   clear e0 e1 e2 e3 e4 e5 e6 e7 e8 e9 hbA hxA HO HBr hbel
   have hdx:xd=lo+(j:Int):=HDD.out
   cases b
   ·have hnm:¬jC t (lo+(j:Int)):=fun h=>by
     have:=HM.out.2 (by show jC t xd;rw[hdx];exact h)
     exact absurd this (by simp)
    have hdN:daysF t lo (j+1)=L:=by rw[XW hnm,HL.out]
    have HDN:=hD hdN
    have HDX:=hD hdx
    clear hdN hdx hnm HM
    go_wp2_with (go_at_call 13;refine(HC.out _ (Below.refl _ _)).mono ?_;rintro e w' ⟨rfl,hh⟩;have hh:=hh.symm;subst hh)
    go_roundw
    case rel=>exact⟨j+1,Ao,co,by omega,by go_num,by rw[HDN.out],by rw[HDN.out];exact HO2,HB2⟩
    case measure=>simp[RowKit.intOf];omega
   ·have hym:jC t (lo+(j:Int)):=by
     have:=HM.out.1 rfl
     rw[←hdx];exact this
    have hdY:daysF t lo (j+1)=L++[lo+(j:Int)]:=by rw[QT hym,HL.out]
    rw[←hdx] at hdY
    have HDY:=hD hdY
    have HDX:=hD hdx
    clear hdY hdx hym HM
    have HBx:=hD (Box.new W2 3 #[.int .i64 xd])
    have HBy:=hD (ja W2 (Obj.cells #[.int .i64 xd] 3))
    go_wp2_with (first
     | (go_at_call 13;refine(HC.out _ (Below.refl _ _)).mono ?_;rintro e w' ⟨rfl,hh⟩;have hh:=hh.symm;subst hh)
     | (at_builtin;refine wpList_append_own _ rfl (.tmp 19) (.tmp 22) 39 rfl (g+1) 3 i0 (.int .i64 0) 1 8 Tryz.underlying39 hi0 hz0 hz1 hz2 rfl (by decide) (.slice Ao L.length co) L.length (jZ L) rfl (jn HO2.out HBy.out) ⟨W2.heap.size,0,none⟩ 1 1 [.int .i64 xd] rfl ?c0 ?c1 ?c2 ?c3 ?c4 ?c5 ?_))
    case c0=>rfl
    case c1=>exact Qc (fun z v hv=>by rw[Nat.zero_add,HBx.out.cell z,List.getElem?_toArray];exact hv)
    case c2=>intro u hu;simp at hu;subst hu;rfl
    case c3=>simp only[maxLen];omega
    case c4=>omega
    case c5=>rw[World.size_alloc];omega
    intro v' w9 hown9 hgrow _
    obtain⟨A9,c9,hv9,_,_⟩:=jI hown9
    subst hv9
    have HB9:Hid (Below W1.heap.size W1 w9):=(jb HB2.out HBy.out).grown hgrow (by rw[World.size_alloc];omega) (fun q hq=>by have:=jY HO2.out q hq;rw[HWs.out];omega)
    have HO9:Hid (w9.ownsRow (g+1) 3 1 (.slice A9 (L++[xd]).length c9) (L++[xd]).length (jZ (L++[xd]))):=by
     unfold Hid
     simpa[jZ] using hown9
    clear hown9 hgrow
    go_wp2_with fail
    go_roundw
    case rel=>exact⟨j+1,A9,c9,by omega,by go_num,by rw[HDY.out];simp,by rw[HDY.out];exact HO9,HB9⟩
    case measure=>simp[RowKit.intOf];omega
  ·have hje:j=ds.length:=by omega
   have t5:decide ((j:Int)<(ds.length:Int))=false:=decide_eq_false (by omega)
   have HLe:Hid (L=daysF t lo ds.length):=by rw[←hje];exact HL.out
   have HBe:Hid (Below g w wr):=HB.out.trans (HBr.out.mono (by omega))
   clear hje
   go_wp2_with fail
   go_ret
   rw[←HLe.out]
   exact⟨Ao,co,rfl,by rw[←HG.out];exact jM HO.out (by omega),by rw[←HG.out];exact HBe.out⟩
theorem df_at {w wr:World} {A:Option Addr} {ds:List DF} {base:Nat} {t:FE} {ti:ByteArray} {lo:Int} (hr:Row w w.heap.size A (ds.flatMap dfF)) (hd:Days w base t ti lo ds) (hb:Below w.heap.size w wr) (j:Nat) (hlt:j<ds.length) :
  ∃(bA oA:Nat) (x:DF),A=some ⟨bA,oA,none⟩∧x.d=lo+(j:Int)∧x.ok wr base t ti∧∀z v,z<10→(dfF x)[z]?=some v→wr.cell? ⟨bA,oA+j*10+z,none⟩=some v:=by
 obtain⟨bA,oA,hA,hbl,hcs⟩:=hr.open_ (qg JB (by omega) ds (by omega))
 have hcr:∀q v,(ds.flatMap dfF)[q]?=some v→wr.cell? ⟨bA,oA+q,none⟩=some v:=fun q v hq=>(hb.cell (p:=⟨bA,oA+q,none⟩) hbl).trans (hcs q v hq)
 have hmem:ds[j]∈ds:=List.getElem_mem hlt
 have hgd:ds.getD j df0=ds[j]:=by simp[List.getD,hlt]
 refine⟨bA,oA,ds[j],hA,hd.d j hlt,(hd.k _ hmem).next hb,fun z v hz hv=>?_⟩
 have h:=jm JB df0 hcr j z hlt hz v (by rw[hgd];exact hv)
 exact h
def LookQ (t:FE) (ti:ByteArray) (day:Int) (w:World) (e:Ending) (w':World):Prop:=∃x:DF,e = .returned (.tuple #[.agg #[.int .i64 x.d,.int .i64 x.wd,.slice none 0 0,.slice x.A x.n x.c,.int .i64 x.r1,.int .i64 x.r2,.int .i64 x.s1,.int .i64 x.s2,.int .i64 x.su,.int .i64 x.ph],.int .i64 0])∧x.d=day∧x.ok w' w.heap.size t ti∧Below w.heap.size w w'
theorem jcb (b o:Nat) (c:Nat) (l:List Value) (w:World) (hb:b<w.heap.size) (hcs:∀j v,l[j]?=some v→w.cell? ⟨b,o+j,none⟩=some v) (hn:l.length≤1000000) (h1:∀u∈l,u.oneCell'=true) :
  Calls Tryz.prog 18 #[.slice (some ⟨b,o,none⟩) l.length c] w fun e w'=>∃v,e = .returned v∧w'.ownsRow w.heap.size 9 1 v l.length l∧Below w.heap.size w w':=by
 obtain⟨i0,hi0,hz0,hz1,hz2⟩:=info_parts yb
 have HN:=hD (kG (w:=w.alloc (.cells #[] 9)) (fun j v hv=>(World.cell?_alloc_lt w _ ⟨b,o+j,none⟩ hb).trans (hcs j v hv)))
 have HO:Hid ((w.alloc (.cells #[] 9)).ownsRow w.heap.size 9 1 (.slice (some ⟨w.heap.size,0,none⟩) 0 0) 0 []):=World.ownsRow_made w #[] 0 (Nat.le_refl _) (by unfold maxLen;omega) (by simp)
 have H1:=hD h1
 clear hcs h1
 have hnil:∀w,(binOp .eql 25 (.slice (some ⟨b,o,none⟩) l.length c) (.slice none 0 0)).run Tryz.prog w = .ok (.bool false) w:=fun w=>Lib.run_eql_slice_nil w 25 _ _ _ _ _ _ Tryz.underlying25
 go_enter Tryz.func18,Tryz.ntmps18
 go_wp2_with (at_builtin;refine wpList_append_own _ rfl (.tmp 5) (.tmp 6) 25 rfl w.heap.size 9 i0 (.string ⟨#[]⟩) 1 16 Tryz.underlying25 hi0 hz0 hz1 hz2 rfl (by decide) _ 0 [] rfl HO.out ⟨b,o,none⟩ l.length c l rfl ?c0 ?c1 ?c2 ?c3 ?c4 ?c5 ?_)
 case c0=>omega
 case c1=>exact HN.out
 case c2=>exact H1.out
 case c3=>simp only[maxLen];omega
 case c4=>omega
 case c5=>simp
 intro v' w3 hown' hgrow _
 have hB:Below w.heap.size w w3:=(ja w _).grown hgrow (by simp) (fun k hk=>by simp[Value.ownBlock] at hk;omega)
 try simp only[Nat.zero_add,List.nil_append] at hown'
 clear hgrow
 go_wp2_with fail
 go_ret
 exact⟨v',rfl,hown',hB⟩
theorem jcr (A:Option Addr) (n c base:Nat) (b:Bool) (ti:ByteArray) (w:World) (ho:w.ownsRow base 9 1 (.slice A n c) n (tlB b ti)) :
  Calls Tryz.prog 18 #[.slice A n c] w fun e w'=>∃A' c',e = .returned (.slice A' n c')∧w'.ownsRow w.heap.size 9 1 (.slice A' n c') n (tlB b ti)∧Below w.heap.size w w':=by
 have hl:=ho.1
 rw[Nat.mul_one] at hl
 rcases ho.2 with⟨h0,h1⟩|⟨g,cap,cur,hv,hbb,hg,_⟩
 ·injection h0 with e1 e2 e3
  subst e1 e2 e3
  refine(xo w).mono ?_
  rintro e w' ⟨rfl,rfl⟩
  rw[List.eq_nil_of_length_eq_zero hl]
  exact⟨none,0,rfl,World.ownsRow_nil _ _ _ _,Below.refl _ _⟩
 ·have hA:A=some ⟨g,0,none⟩:=by injection hv
  subst hA
  subst hl
  have hlt:g<w.heap.size:=Box.lt (cs:=cur) (t:=9) hg
  refine(jcb g 0 c (tlB b ti) w hlt (fun j v hv=>by have:=ho.cells (g:=g) rfl j v hv;rw[xM] at this;exact this) (by cases b<;>simp[tlB]) (by intro u hu;cases b<;>simp[tlB] at hu;subst hu;rfl)).mono ?_
  rintro e w' ⟨v,rfl,hv2,hb⟩
  obtain⟨A',c',rfl,_,_⟩:=jI hv2
  exact⟨A',c',rfl,hv2,hb⟩
theorem jby (v1 v2:Value) (A:Option Addr) (c:Nat) (ds:List DF) (base:Nat) (t:FE) (ti:ByteArray) (lo:Int) (k:Nat) (w:World) (o1:v1.oneCell'=true) (o2:v2.oneCell'=true) (hr:Row w w.heap.size A (ds.flatMap dfF)) (hds:Days w base t ti lo ds) (hl:ds.length≤100) (hk:k<ds.length) (l0 : -1000000≤lo) (l1:lo≤1000000) :
  Calls Tryz.prog 12 #[.agg #[.slice none 0 0,v1,v2,.slice A ds.length c],.int .i64 (lo+(k:Int))] w (LookQ t ti (lo+(k:Int)) w):=by
 have HAt:=hD (fun(wr:World) (hb:Below w.heap.size w wr) j hlt=>df_at hr hds hb j hlt)
 clear hr hds
 obtain⟨day,hday⟩:∃day,day=lo+(k:Int):=⟨_,rfl⟩
 rw[←hday]
 have HDay:=hD hday
 clear hday
 go_enter Tryz.func12,Tryz.ntmps12
 go_upto_region 1 with fail
 obtain⟨g,hgw⟩:∃g,g=w.heap.size:=⟨_,rfl⟩
 have hB:=jb (ja w (Obj.cells #[.slice none 0 0,v1,v2,.slice A ds.length c] 31)) (ja _ (Obj.cells #[.int .i64 0,.int .i64 0,.slice none 0 0,.slice none 0 0,.int .i64 0,.int .i64 0,.int .i64 0,.int .i64 0,.int .i64 0,.int .i64 0] 50))
 have hx:=(Box.new w 31 #[.slice none 0 0,v1,v2,.slice A ds.length c]).alloc (Obj.cells #[.int .i64 0,.int .i64 0,.slice none 0 0,.slice none 0 0,.int .i64 0,.int .i64 0,.int .i64 0,.int .i64 0,.int .i64 0,.int .i64 0] 50)
 have hy:=Box.new (w.alloc (Obj.cells #[.slice none 0 0,v1,v2,.slice A ds.length c] 31)) 50 #[.int .i64 0,.int .i64 0,.slice none 0 0,.slice none 0 0,.int .i64 0,.int .i64 0,.int .i64 0,.int .i64 0,.int .i64 0,.int .i64 0]
 have hs:((w.alloc (Obj.cells #[.slice none 0 0,v1,v2,.slice A ds.length c] 31)).alloc (Obj.cells #[.int .i64 0,.int .i64 0,.slice none 0 0,.slice none 0 0,.int .i64 0,.int .i64 0,.int .i64 0,.int .i64 0,.int .i64 0,.int .i64 0] 50)).heap.size=g+2:=by rw[World.size_alloc,World.size_alloc,hgw]
 rw[World.size_alloc] at hy
 rw[←hgw] at hx hy hB HAt ⊢
 generalize (w.alloc (Obj.cells #[.slice none 0 0,v1,v2,.slice A ds.length c] 31)).alloc (Obj.cells #[.int .i64 0,.int .i64 0,.slice none 0 0,.slice none 0 0,.int .i64 0,.int .i64 0,.int .i64 0,.int .i64 0,.int .i64 0,.int .i64 0] 50)=W1 at *
 have HG:=hD hgw
 have HB:=hD hB
 have HY:=hD hy
 have hg1:g+2≤W1.heap.size:=by omega
 clear hgw hB hs hy
 have x3:W1.cell? ⟨g,3,none⟩=some (.slice A ds.length c):=hx.cell 3
 clear hx
 go_wp2_with fail
 clear x3
 go_loopw [7,11] (fun _ i wr=>∃j:Nat,j≤k∧i = .int .i64 (j:Int)∧Hid (Below W1.heap.size W1 wr)) (fun _ i _=>ds.length-(RowKit.intOf i).toNat)
 case atStart=>exact⟨0,by omega,rfl,Below.refl _ _⟩
 case round =>
  obtain⟨j,hj,rfl,HBr⟩:=hrel
  have hlt:j<ds.length:=by omega
  have hbel:Below g w wr:=HB.out.trans (HBr.out.mono (by omega))
  obtain⟨bA,oA,x,hA,hdd,hok,d0⟩:=HAt.out wr hbel j hlt
  subst hA
  obtain⟨xd,xw,xA,xn,xc,x1,x2,x3,x4,xs,xp⟩:=x
  have e0:=d0 0 _ (by omega) rfl
  have e1:=d0 1 _ (by omega) rfl
  have e2:=d0 2 _ (by omega) rfl
  have e3:=d0 3 _ (by omega) rfl
  have e4:=d0 4 _ (by omega) rfl
  have e5:=d0 5 _ (by omega) rfl
  have e6:=d0 6 _ (by omega) rfl
  have e7:=d0 7 _ (by omega) rfl
  have e8:=d0 8 _ (by omega) rfl
  have e9:=d0 9 _ (by omega) rfl
  rw[Nat.add_zero] at e0
  clear d0
  obtain⟨b,hb,hrow⟩:=hok.row
  have HDD:Hid (xd=lo+(j:Int)):=hdd
  have HM:=hD hb
  have HRow:=hD hrow
  clear hok hdd hb hrow
  have t5:decide ((j:Int)<(ds.length:Int))=true:=decide_eq_true (by omega)
  go_upto_region 4 with fail
  have hbA:=ja wr (Obj.cells #[.int .i64 xd,.int .i64 xw,.slice none 0 0,.slice xA xn xc,.int .i64 x1,.int .i64 x2,.int .i64 x3,.int .i64 x4,.int .i64 xs,.int .i64 xp] 50)
  have hxA:=Box.new wr 50 #[.int .i64 xd,.int .i64 xw,.slice none 0 0,.slice xA xn xc,.int .i64 x1,.int .i64 x2,.int .i64 x3,.int .i64 x4,.int .i64 xs,.int .i64 xp]
  obtain⟨gx,hgx⟩:∃gx,gx=wr.heap.size:=⟨_,rfl⟩
  have hgx2:g+2≤gx:=by have:=HBr.out.size;omega
  rw[←hgx] at hxA ⊢
  clear hgx
  generalize wr.alloc (Obj.cells #[.int .i64 xd,.int .i64 xw,.slice none 0 0,.slice xA xn xc,.int .i64 x1,.int .i64 x2,.int .i64 x3,.int .i64 x4,.int .i64 xs,.int .i64 xp] 50)=W2 at *
  have HB2:=hD (jb HBr.out hbA)
  have HX2:=hD hxA
  have HRow2:=hD (jn HRow.out hbA)
  clear e0 e1 e2 e3 e4 e5 e6 e7 e8 e9 hbA HBr hbel HRow hxA
  have f0:W2.cell? ⟨gx,0,none⟩=some (.int .i64 xd):=HX2.out.cell 0
  by_cases hjk:j=k
  ·have hxd:xd=day:=by rw[HDD.out,HDay.out,hjk]
   have hjl:j<ds.length:=hlt
   subst hxd
   have te:decide (xd=xd)=true:=decide_eq_true rfl
   have te2:(xd==xd)=true:=by simp
   go_upto_region 5 with fail
   have p0:∀W,Below W2.heap.size W2 W→W.cell? ⟨gx,2,none⟩=some (.slice none 0 0):=fun W h=>(HX2.out.below h).cell 2
   have p1:∀W,Below W2.heap.size W2 W→W.cell? ⟨gx,3,none⟩=some (.slice xA xn xc):=fun W h=>(HX2.out.below h).cell 3
   refine jr 7 (jy [(2,det (.slice none 0 0)),(5,⟨fun v=>∃A' c',v = .slice A' xn c',fun v W=>W.ownsRow W2.heap.size 9 1 v xn (tlB b ti)⟩)]) (by kernel_rfl) (by kernel_rfl) ?_
   simp only[List.take_succ_cons,List.take_zero,List.drop_succ_cons,List.drop_zero]
   repeat (first|(refine jf (v:=?_) (by rfl) (by rfl) (fun w hb=>?_) ?_;rotate_left;(· go_simp<;>(repeat' apply And.intro)<;>with_reducible rfl);try simp only[pZ,Nat.reduceAdd])|(refine je (by rfl) (by rfl) ?_;try simp only[pZ,Nat.reduceAdd]))
   refine j8 (f:=?_) (args:=?_) [] (by kernel_rfl) (by rfl) (by rfl) (fun w hb=>?_) (fun w hb hu=>?_) ?_;rotate_left 2;(· go_simp<;>(repeat' apply And.intro)<;>with_reducible rfl)
   ·exact(Js w).mono fun e w' h=>⟨h.1,by rw[h.2];exact Below.refl _ _⟩
   try simp only[pZ,Nat.reduceAdd]
   repeat (first|(refine jf (v:=?_) (by rfl) (by rfl) (fun w hb=>?_) ?_;rotate_left;(· go_simp<;>(repeat' apply And.intro)<;>with_reducible rfl);try simp only[pZ,Nat.reduceAdd])|(refine je (by rfl) (by rfl) ?_;try simp only[pZ,Nat.reduceAdd]))
   refine jl (f:=?_) (args:=?_) [] (by kernel_rfl) (by rfl) (by rfl) ?_ ?_ (fun w hb=>?_) (fun w hb hu=>?_) ?_;rotate_left 4;(· go_simp<;>(repeat' apply And.intro)<;>with_reducible rfl)
   ·refine(jcr xA xn xc base b ti w (jn HRow2.out hb)).mono ?_
    rintro e w' ⟨A',c',he,ho,hb'⟩
    exact⟨_,he,⟨A',c',rfl⟩,jM ho hb.size,hb'⟩
   ·rintro v ⟨A5,c5,rfl⟩
    try simp only[pZ,Nat.reduceAdd]
    repeat (first|(refine jf (v:=?_) (by rfl) (by rfl) (fun w hb=>?_) ?_;rotate_left;(· go_simp<;>(repeat' apply And.intro)<;>with_reducible rfl);try simp only[pZ,Nat.reduceAdd])|(refine je (by rfl) (by rfl) ?_;try simp only[pZ,Nat.reduceAdd]))
    refine jo fun w6 hb6 hf=>?_
    have HO6:=hD hf.1
    have HB6:=hD (jb HB2.out hb6)
    have HX6:=hD (HX2.out.below hb6)
    have hs6:=hb6.size
    have HY6:=hD (HY.out.below HB6.out)
    clear p0 p1 hb6 hf
    have q2:=HX6.out.free 2
    have q3:=HX6.out.free 3
    have u2:w6.cell? ⟨gx,2,none⟩=some (.slice none 0 0):=HX6.out.cell 2
    have u3:w6.cell? ⟨gx,3,none⟩=some (.slice xA xn xc):=HX6.out.cell 3
    go_upto_region 6 with fail
    clear q2 q3 u2 u3
    have hX7:=(HX6.out.set_ 2 (.slice none 0 0)).set_ 3 (.slice A5 xn c5)
    have hY7:=(HY6.out.far (p:=⟨gx,2,none⟩) (by show g+1≠gx;omega) (.slice none 0 0)).far (p:=⟨gx,3,none⟩) (by show g+1≠gx;omega) (.slice A5 xn c5)
    have hB7:Below g w ((w6.setCell ⟨gx,2,none⟩ (.slice none 0 0)).setCell ⟨gx,3,none⟩ (.slice A5 xn c5)):=((HB.out.trans (HB6.out.mono (by omega))).setCell (p:=⟨gx,2,none⟩) (by show g≤gx;omega) _).setCell (p:=⟨gx,3,none⟩) (by show g≤gx;omega) _
    have hO7:=Jz (Jz HO6.out HX6.out (by decide) 2 (.slice none 0 0)) (HX6.out.set_ 2 (.slice none 0 0)) (by decide) 3 (.slice A5 xn c5)
    have hs2:g+2≤W2.heap.size:=by have:=HX2.out.lt;omega
    generalize (w6.setCell ⟨gx,2,none⟩ (.slice none 0 0)).setCell ⟨gx,3,none⟩ (.slice A5 xn c5)=W7 at *
    have hX7:Box W7 gx 50 #[.int .i64 xd,.int .i64 xw,.slice none 0 0,.slice A5 xn c5,.int .i64 x1,.int .i64 x2,.int .i64 x3,.int .i64 x4,.int .i64 xs,.int .i64 xp]:=hX7
    have HY7:=hD hY7
    have HB7:=hD hB7
    have HO7:=hD hO7
    obtain⟨v0,v1',v2',v3,v4,v5,v6,v7,v8,v9⟩:=qu hX7
    obtain⟨d0',d1',d2',d3',d4',d5',d6',d7',d8',d9'⟩:=qu hY7
    have f27:=fun i=>HY7.out.free i
    have l27:=HY7.out.lt
    clear hX7 hY7 hB7 hO7 HX6 HB6 HO6 HY6
    go_wp2_with fail
    obtain⟨hX8,hq8,hb8⟩:=yQ HY7.out (.int .i64 xd) (.int .i64 xw) (.slice none 0 0) (.slice A5 xn c5) (.int .i64 x1) (.int .i64 x2) (.int .i64 x3) (.int .i64 x4) (.int .i64 xs) (.int .i64 xp)
    have hB8:Below g w ((((((((((W7.setCell ⟨g+1,0,none⟩ (.int .i64 xd)).setCell ⟨g+1,1,none⟩ (.int .i64 xw)).setCell ⟨g+1,2,none⟩ (.slice none 0 0)).setCell ⟨g+1,3,none⟩ (.slice A5 xn c5)).setCell ⟨g+1,4,none⟩ (.int .i64 x1)).setCell ⟨g+1,5,none⟩ (.int .i64 x2)).setCell ⟨g+1,6,none⟩ (.int .i64 x3)).setCell ⟨g+1,7,none⟩ (.int .i64 x4)).setCell ⟨g+1,8,none⟩ (.int .i64 xs)).setCell ⟨g+1,9,none⟩ (.int .i64 xp)):=hb8 g w HB7.out (by omega)
    have hF8:World.ownsRow ((((((((((W7.setCell ⟨g+1,0,none⟩ (.int .i64 xd)).setCell ⟨g+1,1,none⟩ (.int .i64 xw)).setCell ⟨g+1,2,none⟩ (.slice none 0 0)).setCell ⟨g+1,3,none⟩ (.slice A5 xn c5)).setCell ⟨g+1,4,none⟩ (.int .i64 x1)).setCell ⟨g+1,5,none⟩ (.int .i64 x2)).setCell ⟨g+1,6,none⟩ (.int .i64 x3)).setCell ⟨g+1,7,none⟩ (.int .i64 x4)).setCell ⟨g+1,8,none⟩ (.int .i64 xs)).setCell ⟨g+1,9,none⟩ (.int .i64 xp)) W2.heap.size 9 1 (.slice A5 xn c5) xn (tlB b ti):=jx HO7.out (fun q hq=>hq8 q (by have:=jY HO7.out q hq;omega))
    clear hq8 hb8
    generalize ((((((((((W7.setCell ⟨g+1,0,none⟩ (.int .i64 xd)).setCell ⟨g+1,1,none⟩ (.int .i64 xw)).setCell ⟨g+1,2,none⟩ (.slice none 0 0)).setCell ⟨g+1,3,none⟩ (.slice A5 xn c5)).setCell ⟨g+1,4,none⟩ (.int .i64 x1)).setCell ⟨g+1,5,none⟩ (.int .i64 x2)).setCell ⟨g+1,6,none⟩ (.int .i64 x3)).setCell ⟨g+1,7,none⟩ (.int .i64 x4)).setCell ⟨g+1,8,none⟩ (.int .i64 xs)).setCell ⟨g+1,9,none⟩ (.int .i64 xp))=W8 at *
    clear v0 v1' v2' v3 v4 v5 v6 v7 v8 v9 d0' d1' d2' d3' d4' d5' d6' d7' d8' d9' f27 l27
    obtain⟨v0,v1',v2',v3,v4,v5,v6,v7,v8,v9⟩:=qu hX8
    refine bodyPost_ret (v:=.tuple #[.agg #[.int .i64 xd,.int .i64 xw,.slice none 0 0,.slice A5 xn c5,.int .i64 x1,.int .i64 x2,.int .i64 x3,.int .i64 x4,.int .i64 xs,.int .i64 xp],.int .i64 0]) (by simp[results,Tryz.results12,go_sem,v0,v1',v2',v3,v4,v5,v6,v7,v8,v9]) rfl ?_
    refine⟨⟨xd,xw,A5,xn,c5,x1,x2,x3,x4,xs,xp⟩,rfl,rfl,⟨b,HM.out,?_⟩,by rw[←HG.out];exact hB8⟩
    rw[←HG.out]
    exact jM hF8 (by omega)
   ·exact⟨_,none,0,rfl⟩
   ·exact fun v w w' hb h=>jn h hb
  ·have te1:xd≠day:=by have:=HDD.out;have:=HDay.out;omega
   have te:decide (xd=day)=false:=decide_eq_false te1
   have te2:(xd==day)=false:=by simpa using te1
   go_wp2_with fail
   go_roundw
   case rel=>exact⟨j+1,by omega,by go_num,HB2⟩
   case measure=>simp[RowKit.intOf];omega
def xG:FE:=.node 4 10 0 ⟨#[]⟩ none 0 []
theorem ja3:FeOk xG:=.mk ⟨by omega,by omega,rfl,fun h=>(by cases h),fun h=>(by cases h),fun _=>rfl,fun _=>(by show(1≤(10:Int)∧(10:Int)≤100000)∧(0≤(0:Int)∧(0:Int)≤10-1);omega),fun h=>(by cases h)⟩ (fun x hx=>by cases hx)
theorem Y4:FeGood xG:=⟨ja3,by simp[xG,fsz,zK],by simp[xG,fht,xL],by simp[xG,fdh,vd,JD]⟩
theorem jcI (w:World) (B:Nat):FeIn w B xG:=.mk ⟨by decide,by decide⟩ ⟨by decide,by decide⟩ ⟨by decide,by decide⟩ (by decide) (by decide) (.inl rfl) (fun x hx=>by cases hx)
theorem QD (d:Int):jC xG d↔js d∧d%10=0:=by
 unfold xG
 rw[jC]
 show js d∧(d-0)%10=0↔_
 rw[Int.sub_zero]
theorem YM:daysF xG 9 2=[10]:=by
 rw[show(2:Nat)=1+1 from rfl,kI,yU,yU,if_neg (by rw[QD];omega),if_pos (by rw[QD];exact⟨⟨by decide,by decide⟩,by decide⟩)]
 rfl
theorem jan (w:World):Calls Tryz.prog 4 #[] w fun e w'=>e = .returned (.agg #[.int .i64 4,.int .i64 10,.int .i64 0,.string ⟨#[]⟩,.slice none 0 0])∧Below w.heap.size w w':=by
 have hx:=Box.new w 24 #[.int .i64 4,.int .i64 10,.int .i64 0,.string ⟨#[]⟩,.slice none 0 0]
 have HB:=hD (ja w (Obj.cells #[.int .i64 4,.int .i64 10,.int .i64 0,.string ⟨#[]⟩,.slice none 0 0] 24))
 obtain⟨r0,r1,r2,r3,r4⟩:=jR hx
 go_enter Tryz.func4,Tryz.ntmps4
 go_wp2_with fail
 refine bodyPost_ret (v:=.agg #[.int .i64 4,.int .i64 10,.int .i64 0,.string ⟨#[]⟩,.slice none 0 0]) (by simp[results,Tryz.results4,go_sem,r0,r1,r2,r3,r4]) rfl ?_
 exact⟨rfl,HB.out⟩
theorem VT (w:World):Calls Tryz.prog 6 #[] w fun e w'=>e = .returned (.pointer (some ⟨w.heap.size,0,none⟩))∧Box w' w.heap.size 64 #[.slice none 0 0,.slice none 0 0]∧Below w.heap.size w w':=by
 have HB:=hD (ja w (Obj.cells #[.slice none 0 0,.slice none 0 0] 64))
 have HX:=hD (Box.new w 64 #[.slice none 0 0,.slice none 0 0])
 go_enter Tryz.func6,Tryz.ntmps6
 go_wp2_with fail
 go_ret
 exact⟨rfl,HX.out,HB.out⟩
def AlmT (B:Nat) (w w':World):Prop:=∃(ga:Nat) (x0 x1 x2 x3:Value),B≤ga∧BoxN w ga 31 4∧w'=(((w.setCell ⟨ga,0,none⟩ x0).setCell ⟨ga,1,none⟩ x1).setCell ⟨ga,2,none⟩ x2).setCell ⟨ga,3,none⟩ x3
theorem kw {w:World} {g:Nat} {ty:TypeId} (h:BoxN w g ty 4):∃v0 v1 v2 v3,Box w g ty #[v0,v1,v2,v3]:=by
 obtain⟨cs,hcs,hbx⟩:=h
 match cs,hcs,hbx with
 | ⟨[d0,d1,d2,d3]⟩,_,hbx=>exact⟨d0,d1,d2,d3,hbx⟩
theorem vC {w:World} {g:Nat} {ty:TypeId} {v0 v1 v2 v3:Value} (h:Box w g ty #[v0,v1,v2,v3]) (x0 x1 x2 x3:Value):Box ((((w.setCell ⟨g,0,none⟩ x0).setCell ⟨g,1,none⟩ x1).setCell ⟨g,2,none⟩ x2).setCell ⟨g,3,none⟩ x3) g ty #[x0,x1,x2,x3] :=
 (((h.set_ 0 x0).set_ 1 x1).set_ 2 x2).set_ 3 x3
theorem AlmT.block {B:Nat} {w w':World} (h:AlmT B w w'):∃ga cs,B≤ga∧Box w ga 31 cs∧(∀q,q≠ga→w'.heap[q]?=w.heap[q]?)∧∃cs',cs'.size=4∧Box w' ga 31 cs':=by
 obtain⟨ga,x0,x1,x2,x3,hb,hbx,rfl⟩:=h
 obtain⟨v0,v1,v2,v3,hbx⟩:=kw hbx
 exact⟨ga,_,hb,hbx,fun q hq=>by rw[Below.heap_setCell _ ⟨ga,3,none⟩ _ q hq,Below.heap_setCell _ ⟨ga,2,none⟩ _ q hq,Below.heap_setCell _ ⟨ga,1,none⟩ _ q hq,Below.heap_setCell _ ⟨ga,0,none⟩ _ q hq],_,rfl,vC hbx x0 x1 x2 x3⟩
theorem AlmT.bel {B:Nat} {a w w':World} (h:AlmT B w w') (hb:Below B a w):Below B a w':=by
 obtain⟨ga,x0,x1,x2,x3,hga,hbx,rfl⟩:=h
 exact(((hb.setCell (p:=⟨ga,0,none⟩) hga x0).setCell (p:=⟨ga,1,none⟩) hga x1).setCell (p:=⟨ga,2,none⟩) hga x2).setCell (p:=⟨ga,3,none⟩) hga x3
theorem AlmT.boxN {B:Nat} {w w':World} (h:AlmT B w w') {q:Nat} (hq:BoxN w q 31 4):BoxN w' q 31 4:=by
 obtain⟨ga,cs,_,_,hk,cs',h4,hb'⟩:=h.block
 by_cases e:q=ga
 ·rw[e];exact⟨cs',h4,hb'⟩
 ·obtain⟨cq,hc,hbq⟩:=hq
  exact⟨cq,hc,(hk q e).trans hbq⟩
theorem AlmT.box {B:Nat} {w w':World} (h:AlmT B w w') {q:Nat} {ty:TypeId} {cq:Array Value} (hq:Box w q ty cq) (hne:ty≠31):Box w' q ty cq:=by
 obtain⟨ga,cs,_,hb,hk,_⟩:=h.block
 exact(hk q (KV hq hb hne)).trans hq
theorem AlmT.own {B:Nat} {w w':World} (h:AlmT B w w') {b1:Nat} {e1:TypeId} {s1:Nat} {v1:Value} {n1:Nat} {x1:List Value} (h1:w.ownsRow b1 e1 s1 v1 n1 x1) (hne:e1≠31):w'.ownsRow b1 e1 s1 v1 n1 x1:=by
 obtain⟨ga,cs,_,hb,hk,_⟩:=h.block
 exact jx h1 fun q hq=>hk q fun(e:q=ga)=>vz h1 hb hne (by rw[hq,e])
def BuiltV (t:FE) (ti:ByteArray) (lo:Int) (n base:Nat) (v:Value) (w:World):Prop :=
 (∃E:Int,E≠0∧v = .tuple #[.agg #[.slice none 0 0,.slice none 0 0,.slice none 0 0,.slice none 0 0],.int .i64 E]∧¬FeGood t) ∨
 (∃(A1 A2 A:Option Addr) (c1 n2 c2 c:Nat) (ds:List DF),v = .tuple #[.agg #[.slice none 0 0,.slice A1 1 c1,.slice A2 n2 c2,.slice A ds.length c],.int .i64 0]∧FeGood t∧ds.length=n+1∧w.ownsRow base 50 10 (.slice A ds.length c) ds.length (ds.flatMap dfF)∧Days w base t ti lo ds)
theorem BuiltV.next {t:FE} {ti:ByteArray} {lo:Int} {n base:Nat} {v:Value} {w w':World} (h:BuiltV t ti lo n base v w) (hb:Below w.heap.size w w'):BuiltV t ti lo n base v w':=by
 rcases h with h|⟨A1,A2,A,c1,n2,c2,c,ds,hv,hg,hl,ho,hd⟩
 ·exact .inl h
 ·exact .inr ⟨A1,A2,A,c1,n2,c2,c,ds,hv,hg,hl,jn ho hb,⟨hd.d,fun y hy=>(hd.k y hy).next hb⟩⟩
theorem BuiltV.alm {t:FE} {ti:ByteArray} {lo:Int} {n base B:Nat} {v:Value} {w w':World} (h:BuiltV t ti lo n base v w) (ht:AlmT B w w'):BuiltV t ti lo n base v w':=by
 rcases h with h|⟨A1,A2,A,c1,n2,c2,c,ds,hv,hg,hl,ho,hd⟩
 ·exact .inl h
 ·refine .inr ⟨A1,A2,A,c1,n2,c2,c,ds,hv,hg,hl,ht.own ho (by decide),⟨hd.d,fun y hy=>?_⟩⟩
  obtain⟨b,hb,hr⟩:=(hd.k y hy).row
  exact⟨b,hb,ht.own hr (by decide)⟩
def Ve (v:Value):Prop:=∃(A1 A2 A:Option Addr) (n1 c1 n2 c2 n c:Nat) (E:Int),v = .tuple #[.agg #[.slice none 0 0,.slice A1 n1 c1,.slice A2 n2 c2,.slice A n c],.int .i64 E]
theorem Zg (gr bt bf:Nat) (ti:ByteArray) (t:FE) (lo:Int) (n base:Nat) (w:World) (hv:Env w) (hT:SkyT w) (hg:Box w gr 64 #[.slice none 0 0,.slice none 0 0]) (hp:PlIn w bt bf ti t) (hti:qo ti) (l0:1≤lo) (l1:lo≤1000000) (hn:n≤40) (hbase:base≤w.heap.size) :
  Calls Tryz.prog 5 #[.pointer (some ⟨gr,0,none⟩),Kd bt bf,.agg #[.int .i64 0,.int .i64 0],.int .i64 lo,.int .i64 (lo+(n:Int))] w fun e w'=>∃v,e = .returned v∧Ve v∧BuiltV t ti lo n base v w'∧Below w.heap.size w w':=by
 refine(KP gr bt bf ti t lo n w hv hT hg.lt (hg.cell 0) hp hti l0 l1 hn).mono ?_
 rintro e w' ⟨hb,⟨E,hE,rfl,hno⟩|⟨A1,A2,A,c1,n2,c2,c,ds,rfl,hg,hl,ho,hd⟩⟩
 ·exact⟨_,rfl,⟨_,_,_,_,_,_,_,_,_,_,rfl⟩,.inl ⟨E,hE,rfl,hno⟩,hb⟩
 ·exact⟨_,rfl,⟨_,_,_,_,_,_,_,_,_,_,rfl⟩,.inr ⟨A1,A2,A,c1,n2,c2,c,ds,rfl,hg,hl,jM ho hbase,⟨hd.d,fun y hy=>(hd.k y hy).lower hbase⟩⟩,hb⟩
theorem jau (A:Option Addr) (c:Nat) (l:List Int) (d:Int) (w:World) (hr:Row w w.heap.size A (jZ l)) (hl:l.length≤1000) :
  Calls Tryz.prog 14 #[.slice A l.length c,.int .i64 d] w fun e w'=>∃b:Bool,e = .returned (.bool b)∧(b=true↔d∈l)∧w'=w:=by
 by_cases h0:0<l.length
 ·obtain⟨b,o,rfl,hb,hcs⟩:=hr.open_ (yO l h0)
  refine(slices_Contains_int b o l.length c l d w (by omega) (by omega) (fun j hj=>zC hcs j hj)).mono ?_
  rintro e w' ⟨rfl,rfl⟩
  exact⟨_,rfl,by rw[List.take_length];simp,rfl⟩
 ·have hl0:l=[]:=List.eq_nil_of_length_eq_zero (by omega)
  subst hl0
  refine(slices_Contains_int_empty A c d w).mono ?_
  rintro e w' ⟨rfl,rfl⟩
  exact⟨false,rfl,by simp,rfl⟩
theorem jaH:(Rows.laid_ephemeris_riseset_limits:DataW Unit)=Lib.tabData .i64 [-14543900,2182000]:=by kernel_rfl
theorem gLim:Tryz.prog.globalNamed "ephemeris/riseset.limits" = some 0:=by kernel_rfl
theorem jci:(Tryz.prog.globals[0]?).map (·.type)=some 146:=by kernel_rfl
theorem jfr {W:World} {rest:List (String×DataW Unit)} (h:laidMet Tryz.prog (("ephemeris/riseset.limits",Rows.laid_ephemeris_riseset_limits)::rest) W):W.cell? ⟨0,0,none⟩=some (.int .i64 (-14543900)):=by
 rw[jaH] at h
 have ht:=Lib.tabIs_of_head gLim jci Tryz.underlying146 Tryz.underlying3 (by kernel_rfl) (by kernel_rfl) h
 have:=ht.cell gLim 0 (by decide)
 rw[this]
 rfl
end
end Go.Proofs.YtkkjaaognefeiaaGreatDoor
