/- PlainInt, Whole1, Line1, Sq, Search1, PlainNum, Whole3 -/
import Derived.Deep.LoopGhost
import Derived.LoopTactic
import Derived.Shelf.Abstract
import Derived.Test.YtkkjaaognefeiaaGreatDoorGFs0
import Derived.Test.YtkkjaaognefeiaaGreatDoorGPlainMoon
set_option maxRecDepth 100000
set_option maxHeartbeats 16000000
set_option linter.unusedVariables false
set_option linter.unusedSimpArgs false
namespace Go.Proofs.YtkkjaaognefeiaaGreatDoor
section
theorem kZ (a b q r:Int) (e:a=b*q+r) (h:(0<b∧0≤r∧r<b)∨(b<0∧r≤0∧b<r)):a.fdiv b=q∧a.fmod b=r:=by
 have hq:a.fdiv b=q:=by
  rcases h with⟨hb,h1,h2⟩|⟨hb,h1,h2⟩
  ·rw[Int.fdiv_eq_ediv_of_nonneg _ (by omega)]
   have:=(Int.ediv_emod_unique (a:=a) (r:=r) (q:=q) hb).2 ⟨by omega,h1,h2⟩
   exact this.1
  ·rw[←Int.neg_fdiv_neg,Int.fdiv_eq_ediv_of_nonneg _ (by omega)]
   have:=(Int.ediv_emod_unique (a:=-a) (b:=-b) (r:=-r) (q:=q) (by omega)).2 ⟨by rw[Int.neg_mul];omega,by omega,by omega⟩
   exact this.1
 refine⟨hq,?_⟩
 have:=Int.mul_fdiv_add_fmod a b
 rw[hq] at this
 omega
theorem ym (a b:Int) (hb:b≠0):a=b*a.tdiv b+a.tmod b∧(0<a.tmod b→0<a)∧(a.tmod b<0→a<0)∧(a.tmod b).natAbs<b.natAbs:=by
 refine⟨(Int.mul_tdiv_add_tmod a b).symm,?_,?_,?_⟩
 ·intro h
  by_cases ha:0<a
  ·exact ha
  ·have:=Int.tmod_nonneg (a:=-a) b (by omega)
   rw[Int.neg_tmod] at this;omega
 ·intro h
  by_cases ha:a<0
  ·exact ha
  ·have:=Int.tmod_nonneg (a:=a) b (by omega)
   omega
 ·rw[Int.natAbs_tmod]
  exact Nat.mod_lt _ (by omega)
theorem Yq (a b:Int) (hb:b≠0) (h:a.tmod b=0∨(a.tmod b<0↔b<0)):a.tdiv b=a.fdiv b∧a.tmod b=a.fmod b:=by
 obtain⟨h1,_,_,h4⟩:=ym a b hb
 have:=kZ a b _ _ h1 (by omega)
 exact⟨this.1.symm,this.2.symm⟩
theorem jc0 (a b:Int) (hb:b≠0) (h0:a.tmod b≠0) (h:¬(a.tmod b<0↔b<0)):a.tdiv b-1=a.fdiv b∧a.tmod b+b=a.fmod b:=by
 obtain⟨h1,_,_,h4⟩:=ym a b hb
 have:=kZ a b (a.tdiv b-1) (a.tmod b+b) (by rw[Int.mul_sub];omega) (by omega)
 exact⟨this.1.symm,this.2.symm⟩
theorem jbw (a b:Int) (hb:0<b):a.fdiv b=a/b:=Int.fdiv_eq_ediv_of_nonneg _ (by omega)
theorem jb5 (a b:Int) (hb:0<b):a.fmod b=a%b:=Int.fmod_eq_emod_of_nonneg _ (by omega)
end
section
open Go.RowKit
theorem jdJ {k:IntKind} {a b:Int} (h:a=b):Ending.returned (.int k a) = .returned (.int k b):=by rw[h]
theorem jba {k k' k'':IntKind} {a b a' b' a'' b'':Int} (h:a=b) (h':a'=b') (h'':a''=b''):Ending.returned (.tuple #[.int k a,.int k' a',.int k'' a'']) = .returned (.tuple #[.int k b,.int k' b',.int k'' b'']):=by rw[h,h',h'']
theorem YD (a b:Int) (h1 : -9223372036854775807≤a) (h2:a≤9223372036854775807) : -9223372036854775807≤a.tdiv b∧a.tdiv b≤9223372036854775807:=by
 have h:=Int.natAbs_tdiv_le_natAbs a b
 omega
theorem Zq (a b:Int) (w:World) (h1 : -9223372036854775807≤a) (h2:a≤9223372036854775807) (h3 : -9223372036854775807≤b) (h4:b≤9223372036854775807) (h0:(b==0)=false) :
  Calls Tryz.prog 67 #[.int .i64 a,.int .i64 b] w fun e w'=>e = .returned (.tuple #[.int .i64 (a.fdiv b),.int .i64 (a.fmod b),.int .i64 0])∧∃n,w'=w.drewN n:=by
 have hb0:¬b=0:=by simpa using h0
 obtain⟨hq1,hq2⟩:=YD a b h1 h2
 have hr:=(ym a b hb0).2.2.2
 have hw:IntKind.i64.wrap (a.tdiv b)=a.tdiv b:=IntWalk.i64_in _ (by omega)
 by_cases hz:a.tmod b=0
 ·obtain⟨e1,e2⟩:=Yq a b hb0 (.inl hz)
  rw[←e1,←e2]
  clear e1 e2
  go_enter Tryz.func67,Tryz.ntmps67
  go_wp2
  go_quiet (fail)
  go_wp2
  go_ret3
  exact⟨jba rfl (by simp[hz]) rfl,_,rfl⟩
 ·by_cases hs:(a.tmod b<0↔b<0)
  ·obtain⟨e1,e2⟩:=Yq a b hb0 (.inr hs)
   rw[←e1,←e2]
   clear e1 e2
   have hd:(!decide (a.tmod b<0)==decide (b<0))=false:=by simpa using hs
   have H:=hD hs;clear hs
   go_enter Tryz.func67,Tryz.ntmps67
   go_wp2
   go_quiet (fail)
   go_wp2
   go_ret3
   exact⟨rfl,_,rfl⟩
  ·obtain⟨e1,e2⟩:=jc0 a b hb0 hz hs
   rw[←e1,←e2]
   clear e1 e2
   have hd:(!decide (a.tmod b<0)==decide (b<0))=true:=by simpa using hs
   have hl : -9223372036854775807≤a.tmod b+b:=by omega
   have hu:a.tmod b+b≤9223372036854775807:=by omega
   have H:=hD hs;clear hs
   go_enter Tryz.func67,Tryz.ntmps67
   go_wp2
   go_quiet (fail)
   go_wp2
   go_ret3
   exact⟨rfl,_,rfl⟩
theorem Xt (a:Int) (w:World) :
  Calls Tryz.prog 67 #[.int .i64 a,.int .i64 0] w fun e w'=>e = .returned (.tuple #[.int .i64 0,.int .i64 0,.int .i64 1])∧w=w':=by
 go_enter Tryz.func67,Tryz.ntmps67
 go_wp2
 go_ret3
 exact⟨rfl,rfl⟩
theorem Zx (a b:Int) (w:World) (h1 : -9223372036854775807≤a) (h2:a≤9223372036854775807) (h3:1≤b) (h4:b≤9223372036854775807) :
  Calls Tryz.prog 67 #[.int .i64 a,.int .i64 b] w fun e w'=>e = .returned (.tuple #[.int .i64 (a/b),.int .i64 (a%b),.int .i64 0])∧∃n,w'=w.drewN n:=by
 have h:=Zq a b w h1 h2 (by omega) h4 (by rw[beq_eq_false_iff_ne];omega)
 rw[jbw a b (by omega),jb5 a b (by omega)] at h
 exact h
theorem jW (a b:Int) (w:World) (h1 : -9223372036854775807≤a) (h2:a≤9223372036854775807) (h3:1≤b) (h4:b≤9223372036854775807) :
  Calls Tryz.prog 45 #[.int .i64 a,.int .i64 b] w fun e w'=>e = .returned (.int .i64 (a%b))∧∃n,w'=w.drewN n:=by
 go_enter Tryz.func45,Tryz.ntmps45
 go_wp2_with (go_at_call 67;refine(Zx _ _ _ h1 h2 h3 h4).mono ?_;rintro e w' ⟨rfl,n,rfl⟩)
 go_ret
 exact⟨rfl,_,rfl⟩
theorem JG (a b:Int) (w:World) (h1 : -9223372036854775807≤a) (h2:a≤9223372036854775807) (h3:1≤b) (h4:b≤9223372036854775807) :
  Calls Tryz.prog 60 #[.int .i64 a,.int .i64 b] w fun e w'=>e = .returned (.int .i64 (a/b))∧∃n,w'=w.drewN n:=by
 go_enter Tryz.func60,Tryz.ntmps60
 go_wp2_with (go_at_call 67;refine(Zx _ _ _ h1 h2 h3 h4).mono ?_;rintro e w' ⟨rfl,n,rfl⟩)
 go_ret
 exact⟨rfl,_,rfl⟩
theorem XA (w:World) :
  Calls Tryz.prog 67 #[.int .i64 (-9223372036854775808),.int .i64 86400000] w fun e w'=>e = .returned (.tuple #[.int .i64 (-9223372036854775808/86400000),.int .i64 (-9223372036854775808%86400000),.int .i64 0])∧∃n,w'=w.drewN n:=by
 go_enter Tryz.func67,Tryz.ntmps67
 go_wp2
 go_quiet (fail)
 go_wp2
 go_ret3
 exact⟨rfl,_,rfl⟩
theorem jd4 (a:Int) (w:World) (h1 : -9223372036854775808≤a) (h2:a≤9223372036854775807) :
  Calls Tryz.prog 67 #[.int .i64 a,.int .i64 86400000] w fun e w'=>e = .returned (.tuple #[.int .i64 (a/86400000),.int .i64 (a%86400000),.int .i64 0])∧∃n,w'=w.drewN n:=by
 by_cases h:a = -9223372036854775808
 ·subst h;exact XA w
 ·exact Zx a 86400000 w (by omega) h2 (by omega) (by omega)
theorem jdn (a:Int) (w:World) (h1 : -9223372036854775808≤a) (h2:a≤9223372036854775807) :
  Calls Tryz.prog 60 #[.int .i64 a,.int .i64 86400000] w fun e w'=>e = .returned (.int .i64 (a/86400000))∧∃n,w'=w.drewN n:=by
 go_enter Tryz.func60,Tryz.ntmps60
 go_wp2_with (go_at_call 67;refine(jd4 _ _ h1 h2).mono ?_;rintro e w' ⟨rfl,n,rfl⟩)
 go_ret
 exact⟨rfl,_,rfl⟩
theorem Qy (a n:Int) (h:1≤n):(a.tmod n+n)%n=a%n:=by
 have h1:=Int.mul_tdiv_add_tmod a n
 rw[Int.add_emod_right]
 have:a.tmod n=a-n*a.tdiv n:=by omega
 rw[this,Int.sub_mul_emod_self_left]
theorem YU (a n:Int) (w:World) (h1:1≤n) (h2:n≤1000000000000000) :
  Calls Tryz.prog 21 #[.int .i64 a,.int .i64 n] w fun e w'=>e = .returned (.int .i64 (a%n))∧w=w':=by
 have ht:=(ym a n (by omega)).2.2.2
 have e1:=Qy a n h1
 have E:=hD e1
 clear e1
 have b1:0≤a.tmod n+n:=by omega
 have b2:a.tmod n+n≤9223372036854775807:=by omega
 have b3:¬n=0:=by omega
 go_enter Tryz.func21,Tryz.ntmps21
 go_wp2
 go_ret
 exact⟨jdJ E.out,rfl⟩
theorem Kb (x low n:Int) (w:World) (h1:1≤n) (h2:n≤1000000000000000) (h3 : -1000000000000000≤low) (h4:low≤1000000000000000) :
  Calls Tryz.prog 8 #[.int .i64 x,.int .i64 low,.int .i64 n] w fun e w'=>e = .returned (.int .i64 (low+x%n))∧w=w':=by
 have b1:=Int.emod_nonneg x (show n≠0 by omega)
 have b2:=Int.emod_lt_of_pos x (show 0<n by omega)
 go_enter Tryz.func8,Tryz.ntmps8
 go_wp2_with (go_at_call 21;refine(YU _ _ _ (by omega) (by omega)).mono ?_;rintro e w' ⟨rfl,rfl⟩)
 go_ret
 exact⟨rfl,rfl⟩
theorem kH (d:Int) (w:World) (h1 : -4000000≤d) (h2:d≤4000000) :
  Calls Tryz.prog 34 #[.int .i64 d] w fun e w'=>e = .returned (.bool true)∧w=w':=by
 go_enter Tryz.func34,Tryz.ntmps34
 go_wp2
 go_ret
 exact⟨rfl,rfl⟩
theorem is_no (d:Int) (w:World) (h1:d < -4000000∨4000000<d) :
  Calls Tryz.prog 34 #[.int .i64 d] w fun e w'=>e = .returned (.bool false)∧w=w':=by
 rcases h1 with h|h
 ·go_enter Tryz.func34,Tryz.ntmps34
  go_wp2
  go_ret
  exact⟨rfl,rfl⟩
 ·have hd:decide (d≤4000000)=false:=by simp;omega
  go_enter Tryz.func34,Tryz.ntmps34
  go_wp2
  go_ret
  exact⟨rfl,rfl⟩
theorem Qz (d:Int) (w:World) (h1 : -4000000≤d) (h2:d≤4000000) :
  Calls Tryz.prog 53 #[.int .i64 d] w fun e w'=>e = .returned (.int .i64 0)∧w=w':=by
 go_enter Tryz.func53,Tryz.ntmps53
 go_wp2_with (go_at_call 34;refine(kH _ _ h1 h2).mono ?_;rintro e w' ⟨rfl,rfl⟩)
 go_ret
 exact⟨rfl,rfl⟩
theorem Z9 (d:Int) (w:World) (h1 : -1000000000000000≤d) (h2:d≤1000000000000000) :
  Calls Tryz.prog 54 #[.int .i64 d] w fun e w'=>e = .returned (.int .i64 ((d-1)%7))∧∃n,w'=w.drewN n:=by
 go_enter Tryz.func54,Tryz.ntmps54
 go_wp2_with (go_at_call 45;refine(jW _ _ _ (by omega) (by omega) (by omega) (by omega)).mono ?_;rintro e w' ⟨rfl,n,rfl⟩)
 go_ret
 exact⟨rfl,_,rfl⟩
theorem Ym (d:Int) (w:World) (h1 : -4000000≤d) (h2:d≤4000000) :
  Calls Tryz.prog 35 #[.int .i64 d] w fun e w'=>e = .returned (.tuple #[.int .i64 ((d-1)%7),.int .i64 0])∧∃n,w'=w.drewN n:=by
 go_enter Tryz.func35,Tryz.ntmps35
 go_wp2_with (first
  | (go_at_call 53;refine(Qz _ _ h1 h2).mono ?_;rintro e w' ⟨rfl,rfl⟩)
  | (go_at_call 54;refine(Z9 _ _ (by omega) (by omega)).mono ?_;rintro e w' ⟨rfl,n,rfl⟩))
 go_ret2
 exact⟨rfl,_,rfl⟩
end
section
open Go Go.Lib Go.RowKit
section
variable {w W W':World} {g q B:Nat} {t u:TypeId} {a b:Value} {cs ds es fs:Array Value}
abbrev two (W:World) (g:Nat) (x y:Value):World:=(W.setCell ⟨g,0,none⟩ x).setCell ⟨g,1,none⟩ y
theorem sqc (h:Hid (Box W g t #[a,b])):W.cell? ⟨g,0,none⟩=some a∧W.cell? ⟨g,1,none⟩=some b:=⟨h.out.cell 0,h.out.cell 1⟩
theorem sqf (h:Hid (Box W g t #[a,b])):W.frozen? ⟨g,0,none⟩=false∧W.cell? ⟨g,0,none⟩=some a∧W.frozen? ⟨g,1,none⟩=false∧W.cell? ⟨g,1,none⟩=some b:=⟨h.out.free 0,h.out.cell 0,h.out.free 1,h.out.cell 1⟩
theorem sqz (h:Hid (Box W g t #[a,b])):(∀w,Below W.heap.size W w→w.cell? ⟨g,0,none⟩=some a)∧(∀w,Below W.heap.size W w→w.cell? ⟨g,1,none⟩=some b):=⟨fun w hb=>(h.out.below hb).cell 0,fun w hb=>(h.out.below hb).cell 1⟩
theorem sqe (h:Hid (Box W g t #[a,b])):W.cell? ⟨g,0,none⟩=some a∧W.cell? ⟨g,1,none⟩=some b∧(∀i,W.frozen? ⟨g,i,none⟩=false)∧g<W.heap.size:=⟨h.out.cell 0,h.out.cell 1,fun i=>h.out.free i,h.out.lt⟩
theorem sqs (h:Hid (Box W g t #[a,b])) (x y:Value):Hid (Box ((W.setCell ⟨g,0,none⟩ x).setCell ⟨g,1,none⟩ y) g t #[x,y]):=hD ((h.out.set_ 0 x).set_ 1 y)
theorem sqr (h:Hid (Box W q t cs)) (hq:q≠g) (x y:Value):Hid (Box ((W.setCell ⟨g,0,none⟩ x).setCell ⟨g,1,none⟩ y) q t cs):=hD ((h.out.far (p:=⟨g,0,none⟩) hq x).far (p:=⟨g,1,none⟩) hq y)
theorem sqb (h:Hid (Below B w W)) (hg:B≤g) (x y:Value):Hid (Below B w ((W.setCell ⟨g,0,none⟩ x).setCell ⟨g,1,none⟩ y)):=hD ((h.out.setCell (p:=⟨g,0,none⟩) hg x).setCell (p:=⟨g,1,none⟩) hg y)
theorem sqk (h:Hid (Box W g t cs)) (hb:Below W.heap.size W W'):Hid (Box W' g t cs):=hD (h.out.below hb)
theorem sqt (h:Hid (Box W g t #[a,b])) (hb:Hid (Below B w W)) (hg:B≤g) (x y:Value):∃W4,Hid ((W.setCell ⟨g,0,none⟩ x).setCell ⟨g,1,none⟩ y=W4)∧W4.cell? ⟨g,0,none⟩=some x∧W4.cell? ⟨g,1,none⟩=some y∧Below B w W4 :=
 ⟨_,hD rfl,(sqs h x y).out.cell 0,(sqs h x y).out.cell 1,(sqb hb hg x y).out⟩
theorem sqn (hb:Below W.heap.size W W') (t:TypeId) (cs:Array Value):∃Wn gn,Hid (W'.alloc (Obj.cells cs t)=Wn)∧Hid (W'.heap.size=gn)∧Hid (Box Wn gn t cs)∧Below W.heap.size W Wn∧W.heap.size≤gn :=
 ⟨_,_,hD rfl,hD rfl,hD (Box.new W' t cs),jb hb (ja W' _),hb.size⟩
theorem sqm (hb:Below W.heap.size W W') (t:TypeId) (cs ds:Array Value):∃Wn gn,Hid ((W'.alloc (Obj.cells cs t)).alloc (Obj.cells ds t)=Wn)∧Hid (W'.heap.size=gn)∧Hid (Box Wn gn t cs)∧Hid (Box Wn (gn+1) t ds)∧Below W.heap.size W Wn∧W.heap.size≤gn :=
 ⟨_,_,hD rfl,hD rfl,hD ((Box.new W' t cs).alloc _),hD (by have h:=Box.new (W'.alloc (Obj.cells cs t)) t ds;rw[World.size_alloc] at h;exact h),jb hb (jh W' _ _),hb.size⟩
theorem J2 (w:World) (t:TypeId) (cs:Array Value):∃W g,Hid (w.alloc (Obj.cells cs t)=W)∧Hid (w.heap.size=g)∧Hid (Box W g t cs)∧Hid (Below g w W) :=
 ⟨_,_,hD rfl,hD rfl,hD (Box.new w t cs),hD (ja w _)⟩
theorem vA (w:World) (t:TypeId) (cs:Array Value) (u:TypeId) (ds:Array Value):∃W g,Hid ((w.alloc (Obj.cells cs t)).alloc (Obj.cells ds u)=W)∧Hid (w.heap.size=g)∧Hid (Box W g t cs)∧Hid (Box W (g+1) u ds)∧Hid (Below g w W) :=
 ⟨_,_,hD rfl,hD rfl,hD ((Box.new w t cs).alloc _),hD (by have h:=Box.new (w.alloc (Obj.cells cs t)) u ds;rw[World.size_alloc] at h;exact h),hD (jh w _ _)⟩
theorem Xk (w:World) (t:TypeId) (cs:Array Value) (u:TypeId) (ds:Array Value) (v:TypeId) (es:Array Value):∃W g,Hid (((w.alloc (Obj.cells cs t)).alloc (Obj.cells ds u)).alloc (Obj.cells es v)=W)∧Hid (w.heap.size=g)∧Hid (Box W g t cs)∧Hid (Box W (g+1) u ds)∧Hid (Box W (g+1+1) v es)∧Hid (Below g w W):=by
 obtain⟨W,g,h1,h2,h3,h4,h5⟩:=vA w t cs u ds
 have hs:W.heap.size=g+1+1:=by rw[←h1.out,World.size_alloc,World.size_alloc,h2.out]
 have hn:=Box.new W v es
 rw[hs] at hn
 exact⟨_,g,hD rfl,h2,hD (h1.out▸h3.out.alloc _),hD (h1.out▸h4.out.alloc _),hD (h1.out▸hn),hD (h1.out▸h5.out.alloc (by omega) _)⟩
theorem jez (w:World) (t:TypeId) (cs:Array Value) (u:TypeId) (ds:Array Value) (v:TypeId) (es:Array Value) (x:TypeId) (fs:Array Value):∃W g,Hid ((((w.alloc (Obj.cells cs t)).alloc (Obj.cells ds u)).alloc (Obj.cells es v)).alloc (Obj.cells fs x)=W)∧Hid (w.heap.size=g)∧Hid (Box W g t cs)∧Hid (Box W (g+1) u ds)∧Hid (Box W (g+1+1) v es)∧Hid (Box W (g+1+1+1) x fs)∧Hid (Below g w W):=by
 obtain⟨W,g,h1,h2,h3,h4,h6,h5⟩:=Xk w t cs u ds v es
 have hs:W.heap.size=g+1+1+1:=by rw[←h1.out,World.size_alloc,World.size_alloc,World.size_alloc,h2.out]
 have hn:=Box.new W x fs
 rw[hs] at hn
 exact⟨_,g,hD rfl,h2,hD (h1.out▸h3.out.alloc _),hD (h1.out▸h4.out.alloc _),hD (h1.out▸h6.out.alloc _),hD (h1.out▸hn),hD (h1.out▸h5.out.alloc (by omega) _)⟩
end
end
section
open Go.RowKit
def jeH (n:Nat) (p:Nat→Bool) (S:World→Prop) (e:Ending) (w':World):Prop :=
 ∃k:Nat,e = .returned (.int .i64 (k:Int))∧k≤n∧(∀t,t<k→p t=false)∧(∀t,k≤t→t<n→p t=true)∧S w'
def Zz (n:Nat) (p:Nat→Bool) (lo hi:Nat):Prop:=(∀t,t<lo→p t=false)∧(∀t,hi≤t→t<n→p t=true)
theorem J9 (g:Nat) (cb:Array Value) (n:Nat) (p:Nat→Bool) (S:World→Prop) (w:World) (hS:S w) (hsz:n≤4611686018427387903) (eg:∀args w,(callFunc g args).run Tryz.prog w = .ok (.enter g args) w)
  (hf:∀W i,S W→i<n→Calls Tryz.prog g (#[.int .i64 (i:Int)]++cb) W fun e w'=>e = .returned (.bool (p i))∧S w')
  (hmono:∀a b,a≤b→b<n→p a=true→p b=true) :
  Calls Tryz.prog 114 #[.int .i64 (n:Int),.func (.func g) #[] cb] w (jeH n p S):=by
 have HF:=hD hf
 have M:=hD hmono
 have HS:=hD hS
 clear hf hmono hS
 go_enter Tryz.func114,Tryz.ntmps114
 go_wp2
 go_loopg [5,6] n (fun kx s5 s6 wr=>∃(lo hi:Nat),s5 = .int .i64 lo∧s6 = .int .i64 hi∧lo≤hi∧hi≤n∧hi-lo≤kx∧Hid (Zz n p lo hi)∧Hid (S wr))
 case atStart=>exact⟨0,n,rfl,rfl,Nat.zero_le _,Nat.le_refl _,by omega,⟨fun t ht=>absurd ht (Nat.not_lt_zero _),fun t h1 h2=>by omega⟩,HS⟩
 case round =>
  obtain⟨lo,hi,rfl,rfl,hlh,hin,hg,I,HS'⟩:=hrel
  by_cases hlt:lo<hi
  ·have hc:=HF.out _ ((lo+hi)/2) HS'.out (by omega)
   rw[show(((lo+hi)/2:Nat):Int)=((lo:Int)+(hi:Int))/2 by omega] at hc
   cases hp:p ((lo+hi)/2)<;>rw[hp] at hc
   ·have HP:=hD hp
    clear hp
    go_wp2_with (go_at_fn g;refine hc.mono ?_;rintro e w' ⟨rfl,hs'⟩)
    go_roundg (hi-((lo+hi)/2+1))
    case measure=>omega
    case rel =>
     have I2:Hid (Zz n p ((lo+hi)/2+1) hi):=⟨fun t ht=>(by
      cases h:p t with
      | false=>rfl
      | true=>have:=M.out t ((lo+hi)/2) (by omega) (by omega) h;rw[HP.out] at this;cases this),I.out.2⟩
     exact⟨(lo+hi)/2+1,hi,by rw[show((lo:Int)+(hi:Int))/2+1=(((lo+hi)/2+1:Nat):Int) by omega],rfl,by omega,hin,Nat.le_refl _,I2,hs'⟩
   ·have HP:=hD hp
    clear hp
    go_wp2_with (go_at_fn g;refine hc.mono ?_;rintro e w' ⟨rfl,hs'⟩)
    go_roundg ((lo+hi)/2-lo)
    case measure=>omega
    case rel =>
     have I2:Hid (Zz n p lo ((lo+hi)/2)):=⟨I.out.1,fun t ht htn=>M.out ((lo+hi)/2) t ht htn HP.out⟩
     exact⟨lo,(lo+hi)/2,rfl,by rw[show((lo:Int)+(hi:Int))/2=(((lo+hi)/2:Nat):Int) by omega],by omega,by omega,Nat.le_refl _,I2,hs'⟩
  ·obtain rfl:hi=lo:=by omega
   go_wp2
   go_ret
   exact⟨hi,rfl,hin,I.out.1,I.out.2,HS'.out⟩
theorem Qp (ba bx:Nat) (A:Option Addr) (c:Nat) (l:List Int) (x:Int) (i:Nat) (W:World) (hi:i<l.length) (hl:l.length≤4611686018427387903)
  (ha:W.cell? ⟨ba,0,none⟩=some (.slice A l.length c)) (hx:W.cell? ⟨bx,0,none⟩=some (.int .i64 x)) (hr:Row W W.heap.size A (jZ l)) :
  Calls Tryz.prog 161 (#[.int .i64 (i:Int)]++#[.pointer (some ⟨ba,0,none⟩),.pointer (some ⟨bx,0,none⟩)]) W fun e w'=>e = .returned (.bool (decide (x≤l.getD i 0)))∧∃q,w'=W.drewN q:=by
 obtain⟨b,o,rfl,_,hcs⟩:=hr.open_ (yO l (by omega))
 have hc:=zC hcs i hi
 clear hcs hr
 generalize l.getD i 0=y at hc ⊢
 have hiz:(i:Int)<(l.length:Int):=by omega
 have hi0:(0:Int)≤(i:Int):=by omega
 go_enter Tryz.func161,Tryz.ntmps161
 go_wp2
 go_quiet (fail)
 go_wp2
 go_ret
 exact⟨rfl,_,rfl⟩
theorem yM (A:Option Addr) (c:Nat) (l:List Int) (x:Int) (w:World) (hr:Row w w.heap.size A (jZ l)) (hl:l.length≤4611686018427387903)
  (hs:∀a b,a≤b→b<l.length→l.getD a 0≤l.getD b 0) :
  Calls Tryz.prog 113 #[.slice A l.length c,.int .i64 x] w fun e w'=>e = .returned (.int .i64 (xJ l x:Nat))∧Below w.heap.size w w':=by
 have HR:=hD hr
 have HS:=hD hs
 clear hr hs
 go_enter Tryz.func113,Tryz.ntmps113
 go_wp2_with fail
 have hbx:Box ((w.alloc (.cells #[.slice A l.length c] 39)).alloc (.cells #[.int .i64 x] 3)) w.heap.size 39 #[.slice A l.length c]:=(Box.new w _ _).alloc _
 have hby:=Box.new (w.alloc (.cells #[.slice A l.length c] 39)) 3 #[.int .i64 x]
 have hB:=jh w (.cells #[.slice A l.length c] 39) (.cells #[.int .i64 x] 3)
 have hsz:(w.alloc (.cells #[.slice A l.length c] 39)).heap.size=w.heap.size+1:=by simp
 rw[hsz] at hby
 generalize (w.alloc (.cells #[.slice A l.length c] 39)).alloc (.cells #[.int .i64 x] 3)=W0 at *
 refine(J9 161 #[.pointer (some ⟨w.heap.size,0,none⟩),.pointer (some ⟨w.heap.size+1,0,none⟩)] l.length (fun i=>decide (x≤l.getD i 0)) (Below W0.heap.size W0) W0 (Below.refl _ _) hl (fun _ _=>rfl) ?_ ?_).mono ?_
 ·intro W i hb hi
  refine(Qp w.heap.size (w.heap.size+1) A c l x i W hi hl ((hbx.below hb).cell 0) ((hby.below hb).cell 0) ((HR.out.next hB).next hb)).mono ?_
  rintro e w' ⟨he,q,rfl⟩
  exact⟨he,jd hb q⟩
 ·intro a b hab hb h
  have:=HS.out a b hab hb
  have h':x≤l.getD a 0:=of_decide_eq_true h
  exact decide_eq_true (by omega)
 ·rintro e w' ⟨k,rfl,hk,h1,h2,hb⟩
  have hcn:=jcH x l k hk (fun t ht=>by have:=of_decide_eq_false (h1 t ht);omega) (fun t h3 h4=>of_decide_eq_true (h2 t h3 h4))
  go_wp2_with fail
  go_ret
  exact⟨by rw[hcn];rfl,jb hB hb⟩
end
section
def jfy (g h a m:Int):Prop:=∀c:Int,(c∣g∧c∣h)↔(c∣a∧c∣m)
structure EuInv (a m x y g h:Int):Prop where
 g0:0≤g
 h0:0≤h
 gm:g≤m
 hm:h≤m
 dx:m∣a*x-g
 dy:m∣a*y-h
 com:jfy g h a m
 sgn:(0≤x∧y≤0∧x*h-y*g=m)∨(x≤0∧0≤y∧y*g-x*h=m)
 x1 : -m≤x
 x2:x≤m
 y1 : -m≤y
 y2:y≤m
def eu:Nat→Int→Int→Int→Int→Int×Int
 | 0,x,_,g,_=>(x,g)
 | f+1,x,y,g,h=>if h=0 then(x,g) else eu f y (x-g/h*y) h (g-g/h*h)
end
section
open Go.RowKit
end
end Go.Proofs.YtkkjaaognefeiaaGreatDoor
