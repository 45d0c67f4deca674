/- Ins1, Ins2 -/
import Derived.Lib.Overlaps
import Derived.Laws.CopyRow
import Derived.Laws.Externs
import Derived.Test.YtabidjmmgnkhkaaGreatDoorGSlice1
import Derived.Test.YtabidjmmgnkhkaaGreatDoorGListArg
/- slices.Insert of one booking into a row of bookings of one's own. -/
namespace Go.Proofs.YtabidjmmgnkhkaaGreatDoor
open Go.RowKit Go.Lib
set_option linter.unusedVariables false
structure Bk where
 rm : ByteArray
 fr : Int
 «to» : Int
 who : ByteArray
def bk0 : Bk := ⟨⟨#[]⟩, 0, 0, ⟨#[]⟩⟩
def bkF (b : Bk) : List Value := [.string b.rm, .int .i64 b.fr, .int .i64 b.to, .string b.who]
abbrev Bk.cells (b : Bk) : Array Value := #[.string b.rm, .int .i64 b.fr, .int .i64 b.to, .string b.who]
abbrev Bk.val (b : Bk) : Value := .agg b.cells
theorem bkF_len (b : Bk) : (bkF b).length = 4 := rfl
theorem infoBk : (Tryz.prog.info? 53).map (fun i => (i.zero, i.size, i.bytes)) = some (some (.agg #[.string ⟨#[]⟩, .int .i64 0, .int .i64 0, .string ⟨#[]⟩]), 4, 48) := by kernel_rfl
theorem bks_one (l : List Bk) : ∀ u ∈ l.flatMap bkF, u.oneCell' = true := fun u hu => by
 obtain ⟨x, _, hx⟩ := List.mem_flatMap.1 hu
 simp [bkF] at hx
 rcases hx with rfl | rfl | rfl | rfl <;> rfl
theorem run_copy_rowS {P : Program} (w : World) (dT sT ty elem : TypeId) (s : Nat) (g o dLen dCap : Nat) (a : Addr) (sLen sCap : Nat) (cur : Array Value) (t : TypeId) (cs : List Value)
  (hu : P.underlying dT = some (.slice elem)) (hs : (P.info? elem).map (·.size) = some s)
  (hg : w.heap[g]? = some (.cells cur t (0, 0))) (hn : cs.length = Nat.min sLen dLen * s)
  (hsrc : ∀ j v, cs[j]? = some v → w.cell? (a.add j) = some v) (hfit : o + cs.length ≤ cur.size) (h1 : ∀ v ∈ cs, v.oneCell' = true) :
  (Builtin.copy_ #[dT, sT] ty #[.slice (some ⟨g, o, none⟩) dLen dCap, .slice (some a) sLen sCap]).run P w =
   .ok (goInt (Nat.min sLen dLen)) (w.setRow g (cur.toList.take o ++ cs ++ cur.toList.drop (o + cs.length)).toArray) := by
 have hl := run_loadCells_list (P := P) w a cs hsrc
 have hst := run_storeCells_at P g o t cs 0 cur w hg (by simpa using hfit) h1
 cases hq : P.info? elem with
 | none => simp [hq] at hs
 | some i =>
  have hi : i.size = s := by simpa [hq] using hs
  simp [Builtin.copy_, run_underlying hu, Builtin.lenOf, Builtin.firstCells, sizeOf, typeInfo, hq, hi, ← hn, hl, hst]
theorem wpList_copy_any {P : Program} {ops : Array Oper} {rest : List Oper} {o : Oper} {a : Act} {Q : Exit → Act → World → Prop} {w w' : World} (hw : Region.wanted o (yielded ops a.tmps) = true) (s x : Operand) (t u : TypeId)
  (ho : o.op = .call { callee := .builtin .copy, args := #[s, x], argTypes := #[t, u] }) (v xv v' : Value) (hs : a.eval s = v) (hx : a.eval x = xv)
  (hr : (Builtin.copy_ #[t, u] o.type #[v, xv]).run P w = .ok v' w') (h : wpList P ops Q rest (a.put o.dst v') w') : wpList P ops Q (o :: rest) a w := by
 refine wpList_step fun K hK => ?_
 rw [if_pos hw]
 unfold Oper.wp execOp
 simp only [ho, resolve, invoke, builtin, Sem.run_bind, Sem.run_pure, Result.andThen_ok, List.map_toArray, List.map_cons, List.map_nil, hs, hx, hr]
 exact hK _ _ h
theorem Box.row {w : World} {g : Nat} {t : TypeId} {cur : Array Value} (h : Box w g t cur) (cs : Array Value) : Box (w.setRow g cs) g t cs := setRow_heap w g cur cs t (0, 0) h
theorem heap_setRow_ne (w : World) (g b : Nat) (cs : Array Value) (h : b ≠ g) : (w.setRow g cs).heap[b]? = w.heap[b]? := by
 have h' : ¬ g = b := fun e => h e.symm
 simp [World.setRow, Array.getElem?_modify, h']
theorem size_setRow (w : World) (g : Nat) (cs : Array Value) : (w.setRow g cs).heap.size = w.heap.size := by simp [World.setRow]
theorem grown_setRow (w : World) (g : Nat) (cs : Array Value) : w.grownBy (w.setRow g cs) (some g) :=
 ⟨rfl, rfl, rfl, by rw [size_setRow]; omega, fun k _ hne => heap_setRow_ne w g k cs (fun e => hne (by rw [e]))⟩
theorem shifted {L P B D : List Value} {a b : Nat} (hP : P.length = a) (hB : B.length = b) (hL : L.take (a + D.length) = P ++ D) (hl : a + b + D.length ≤ L.length) :
  let L1 := L.take (a + b) ++ D ++ L.drop (a + b + D.length)
  let L2 := L1.take a ++ B ++ L1.drop (a + b)
  L1.length = L.length ∧ L2.length = L.length ∧ L2.take (a + b + D.length) = P ++ B ++ D := by
 have h1 : (L.take (a + b) ++ D ++ L.drop (a + b + D.length)).length = L.length := by simp; omega
 have hPt : L.take a = P := by
  have := congrArg (List.take a) hL
  rw [List.take_take, Nat.min_eq_left (by omega)] at this
  rw [this, List.take_append_of_le_length (by omega)]
  exact List.take_of_length_le (by omega)
 have h2 : (L.take (a + b) ++ D ++ L.drop (a + b + D.length)).take a = P := by
  rw [List.append_assoc, List.take_append_of_le_length (by simp; omega), List.take_take, Nat.min_eq_left (by omega)]
  exact hPt
 have h3 : (L.take (a + b) ++ D ++ L.drop (a + b + D.length)).drop (a + b) = D ++ L.drop (a + b + D.length) := by
  rw [List.append_assoc]
  have : (L.take (a + b)).length = a + b := by simp; omega
  rw [List.drop_append_of_le_length (by omega), List.drop_of_length_le (by omega), List.nil_append]
 refine ⟨h1, ?_, ?_⟩
 ·simp only [h2, h3]
  simp
  omega
 ·simp only [h2, h3]
  rw [← List.append_assoc, List.take_append_of_le_length (by simp; omega), List.take_of_length_le (by simp; omega)]
set_option maxHeartbeats 1000000 in
set_option maxRecDepth 100000 in
theorem insert_shift (base g n cap i gx : Nat) (cur : Array Value) (ys : List Bk) (b : Bk) (w : World) (hx : Box w g 53 cur) (hcur : cur.size = cap * 4) (hyn : ys.length = n) (htake : cur.toList.take (n * 4) = ys.flatMap bkF) (hroom : n + 1 ≤ cap) (hcm : cap ≤ maxLen) (hi : i < n) (hn : n ≤ 1000000)
  (hb : Box w gx 53 b.cells) (hne : gx ≠ g) (hbg : base ≤ g) :
  Calls Tryz.prog 36 #[.slice (some ⟨g, 0, none⟩) n cap, .int .i64 (i : Int), .slice (some ⟨gx, 0, none⟩) 1 1] w fun e w' => ∃ v', e = .returned v' ∧ w'.ownsRow base 53 4 v' (n + 1) ((ys.take i ++ [b] ++ ys.drop i).flatMap bkF) ∧ w.grownBy w' (some g) ∧ ∀ b, v'.ownBlock = some b → b = g ∨ w.heap.size ≤ b := by
 have hcm' := hcm
 unfold maxLen at hcm'
 have hsz : (Tryz.prog.info? 53).map (·.size) = some 4 := by
  obtain ⟨i0, hi0, h0, h1, h2⟩ := info_parts infoBk
  rw [hi0]; simp [h1]
 have hov : ∀ lb cb, (callFunc 60 #[.slice (some ⟨gx, 0, none⟩) 1 1, .slice (some ⟨g, (i + 1) * 4, none⟩) lb cb]).run Tryz.prog w = .ok (.value (.bool false)) w := fun lb cb => by
  rw [run_callFunc_extern Tryz.func60 (by kernel_rfl) (by kernel_rfl) (by kernel_rfl) (e := Extern.SlicesOverlaps.overlaps #[87, 87] #[4]) (by kernel_rfl),
   Lib.run_overlaps_apart w 87 4 53 Tryz.underlying87 4 (fun w => by kernel_rfl) ⟨gx, 0, none⟩ ⟨g, (i + 1) * 4, none⟩ 1 1 lb cb hne 53 53 4 cur.size (by unfold World.shape?; rw [show w.heap[gx]? = _ from hb]; rfl) (by unfold World.shape?; rw [show w.heap[g]? = _ from hx]) (by omega) (hb.free 0) (hb.free 4)]
  rfl
 have hPl : ((ys.take i).flatMap bkF).length = i * 4 := by rw [flat_length bkF_len]; simp; omega
 have hDl : ((ys.drop i).flatMap bkF).length = (n - i) * 4 := by rw [flat_length bkF_len]; simp; omega
 have hsplit : ys.flatMap bkF = (ys.take i).flatMap bkF ++ (ys.drop i).flatMap bkF := by rw [← List.flatMap_append, List.take_append_drop]
 obtain ⟨s1, s2, s3⟩ := shifted (L := cur.toList) (P := (ys.take i).flatMap bkF) (B := bkF b) (D := (ys.drop i).flatMap bkF) (a := i * 4) (b := 4) hPl rfl (by rw [hDl, show i * 4 + (n - i) * 4 = n * 4 from by omega, htake, hsplit]) (by rw [hDl, Array.length_toList]; omega)
 obtain ⟨D, hD⟩ : ∃ D, D = (ys.drop i).flatMap bkF := ⟨_, rfl⟩
 have hsrc : ∀ W, Below w.heap.size w W → ∀ j v, D[j]? = some v → W.cell? ((⟨g, i * 4, none⟩ : Addr).add j) = some v := fun W hbW j v hv => by
  have hj : j < D.length := (List.getElem?_eq_some_iff.1 hv).1
  rw [hD, hDl] at hj
  rw [addPlain, (hx.below hbW).cell]
  have h2 : (cur.toList.take (n * 4))[i * 4 + j]? = some v := by
   rw [htake, hsplit, List.getElem?_append_right (by omega), hPl, show i * 4 + j - i * 4 = j from by omega, ← hD]
   exact hv
  rw [List.getElem?_take, if_pos (by omega)] at h2
  simpa using h2
 have hcp1 : ∀ W, Below w.heap.size w W → ∀ ty dc sc, (Builtin.copy_ #[87, 87] ty #[.slice (some ⟨g, (i + 1) * 4, none⟩) (n - i) dc, .slice (some ⟨g, i * 4, none⟩) (n + 1 - i) sc]).run Tryz.prog W = .ok (goInt ((n - i : Nat) : Int)) (W.setRow g (cur.toList.take ((i + 1) * 4) ++ D ++ cur.toList.drop ((i + 1) * 4 + D.length)).toArray) := fun W hbW ty dc sc => by
  have := run_copy_rowS (P := Tryz.prog) W 87 87 ty 53 4 g ((i + 1) * 4) (n - i) dc ⟨g, i * 4, none⟩ (n + 1 - i) sc cur 53 D Tryz.underlying87 hsz (show Box W g _ _ from hx.below hbW) (by rw [hD, hDl, show Nat.min (n + 1 - i) (n - i) = n - i from by simp only [Nat.min_def]; split <;> omega]) (hsrc W hbW) (by rw [hD, hDl]; omega) (by rw [hD]; exact bks_one _)
  rwa [show Nat.min (n + 1 - i) (n - i) = n - i from by simp only [Nat.min_def]; split <;> omega] at this
 have HS1 := Lib.hid s1
 have HS2 := Lib.hid s2
 have HDl : Hid (D.length = (n - i) * 4) := by unfold Hid; rw [hD]; exact hDl
 have HS3 := Lib.hid s3
 have HX := Lib.hid hx
 have HBb := Lib.hid hb
 clear s1 s2 s3 hsrc hsplit htake hx hb hPl hDl
 have hz2 : ¬ ((i : Int) = (n : Int)) := by omega
 have hw1 : IntKind.i64.wrap ((i : Int) + 1) = (i : Int) + 1 := intFits _ (by omega) (by omega)
 have hb1 : (0 : Int) ≤ (i : Int) + 1 := by omega
 have htn : ((i : Int) + 1).toNat = i + 1 := by omega
 have hb2 : ¬ (cap = i + 1) := by omega
 have hb4 : ¬ (cap = i) := by omega
 have k0 : (0 : Int) ≤ (i : Int) := by omega
 have k1 : (i : Int) ≤ (n : Int) := by omega
 have k2 : i ≤ n := by omega
 have k3 : IntKind.i64.wrap ((n : Int) + 1) = (n : Int) + 1 := intFits _ (by omega) (by omega)
 have k4 : ((n : Int) + 1).toNat = n + 1 := by omega
 have k5 : ¬ ((cap : Int) < (n : Int) + 1) := by omega
 have k6 : (n : Int) + 1 ≤ (cap : Int) := by omega
 have k7 : (i : Int) + 1 ≤ (n : Int) + 1 := by omega
 have k8 : (0 : Int) ≤ (n : Int) + 1 := by omega
 have k9 : (i : Int) ≤ (n : Int) + 1 := by omega
 go_enter Tryz.func36, Tryz.ntmps36
 go_wp2_with (simp only [hov])
 have HCP := Lib.hid hcp1
 clear hcp1
 refine flow_begin_tail 8 (tellOf []) (by kernel_rfl) (by kernel_rfl) ?_
 simp only [List.take_succ_cons, List.take_zero, List.drop_succ_cons, List.drop_zero]
 repeat (first | (refine flow_val (v := ?_) (by rfl) (by rfl) (fun w hb => ?_) ?_; rotate_left; (· ((go_simp) <;> ((repeat' apply And.intro) <;> with_reducible rfl))); try simp only [Act.put, List.setIfInBounds_toArray, List.set_cons_zero, List.set_cons_succ, Nat.reduceAdd]) | (refine flow_skip (by rfl) (by rfl) ?_; try simp only [Act.put, List.setIfInBounds_toArray, List.set_cons_zero, List.set_cons_succ, Nat.reduceAdd]))
 refine flow_nil fun w1 hb1 _ => ?_
 refine wpList_copy_any rfl _ _ _ _ rfl _ _ _ rfl rfl (HCP.out w1 hb1 _ _ _) ?_
 refine wpList_nil ?_
 have hc1 : (cur.toList.take ((i + 1) * 4) ++ D ++ cur.toList.drop ((i + 1) * 4 + D.length)).length = cap * 4 := by
  rw [hD, show (i + 1) * 4 = i * 4 + 4 from by omega]
  exact HS1.out.trans (by rw [Array.length_toList]; exact hcur)
 obtain ⟨L1, hL1⟩ : ∃ L1, L1 = cur.toList.take ((i + 1) * 4) ++ D ++ cur.toList.drop ((i + 1) * 4 + D.length) := ⟨_, rfl⟩
 rw [← hL1] at hc1
 rw [← hL1]
 have hx1 := (HX.out.below hb1).row L1.toArray
 have hbx1 : Box (w1.setRow g L1.toArray) gx 53 b.cells := (heap_setRow_ne w1 g gx _ hne).trans (HBb.out.below hb1)
 have hg1 : w.grownBy (w1.setRow g L1.toArray) (some g) := World.grownBy.trans (b := w1) ⟨hb1.os, hb1.tape, hb1.output, hb1.size, fun k hk _ => hb1.block k hk⟩ (grown_setRow w1 g _)
 generalize w1.setRow g L1.toArray = W1 at *
 have hcp2 : ∀ ty dc, (Builtin.copy_ #[87, 87] ty #[.slice (some ⟨g, i * 4, none⟩) (n + 1 - i) dc, .slice (some ⟨gx, 0, none⟩) 1 1]).run Tryz.prog W1 = .ok (goInt 1) (W1.setRow g (L1.take (i * 4) ++ bkF b ++ L1.drop (i * 4 + 4)).toArray) := fun ty dc => by
  have := run_copy_rowS (P := Tryz.prog) W1 87 87 ty 53 4 g (i * 4) (n + 1 - i) dc ⟨gx, 0, none⟩ 1 1 L1.toArray 53 (bkF b) Tryz.underlying87 hsz hx1 (by rw [bkF_len, show Nat.min 1 (n + 1 - i) = 1 from by simp only [Nat.min_def]; split <;> omega])
   (World.news_of_block (cs := b.cells) hbx1) (by rw [bkF_len]; simp; omega) (by have := bks_one [b]; simpa using this)
  rwa [show Nat.min 1 (n + 1 - i) = 1 from by simp only [Nat.min_def]; split <;> omega] at this
 have HX2 := Lib.hid (hx1.row (L1.take (i * 4) ++ bkF b ++ L1.drop (i * 4 + 4)).toArray)
 have HG2 := Lib.hid (World.grownBy.trans hg1 (grown_setRow W1 g (L1.take (i * 4) ++ bkF b ++ L1.drop (i * 4 + 4)).toArray))
 have HL2 : Hid ((L1.take (i * 4) ++ bkF b ++ L1.drop (i * 4 + 4)).length = cap * 4 ∧ (L1.take (i * 4) ++ bkF b ++ L1.drop (i * 4 + 4)).take ((n + 1) * 4) = (ys.take i ++ [b] ++ ys.drop i).flatMap bkF) := by
  have e1 := HS2.out
  have e2 := HS3.out
  rw [← hD, show i * 4 + 4 = (i + 1) * 4 from by omega, ← hL1] at e1 e2
  refine ⟨by rw [show i * 4 + 4 = (i + 1) * 4 from by omega, e1, Array.length_toList]; exact hcur, ?_⟩
  rw [show i * 4 + 4 = (i + 1) * 4 from by omega, show (n + 1) * 4 = (i + 1) * 4 + D.length from by rw [HDl.out]; omega, e2, hD, List.flatMap_append, List.flatMap_append]
  simp
 clear hx1 hbx1 hg1 hL1 hc1
 have hcp3 : ∀ ty dc, (Builtin.copy_ #[87, 87] ty #[.slice (some ⟨g, i * 4, none⟩) (n + 1 - i) dc, .slice (some ⟨gx, 0, none⟩) 1 1]).run Tryz.prog W1 = .ok (goInt 1) (W1.setRow g (L1.take (i * 4) ++ bkF b ++ L1.drop (i * 4 + 4)).toArray) := hcp2
 clear hcp2
 generalize (L1.take (i * 4) ++ bkF b ++ L1.drop (i * 4 + 4)) = L2 at *
 go_wp2_with fail
 go_ret
 refine ⟨_, rfl, ⟨?_, .inr ⟨g, cap, L2.toArray, rfl, hbg, HX2.out, hroom, hcm, by simpa using HL2.out.1, by simpa using HL2.out.2⟩⟩, HG2.out, fun b hb => .inl (by simpa [Value.ownBlock] using hb.symm)⟩
 rw [flat_length bkF_len]
 simp
 omega
end Go.Proofs.YtabidjmmgnkhkaaGreatDoor
/- slices.Insert of one booking: at the end; without room. -/
namespace Go.Proofs.YtabidjmmgnkhkaaGreatDoor
open Go.RowKit Go.Lib
set_option linter.unusedVariables false
set_option maxHeartbeats 1000000 in
set_option maxRecDepth 100000 in
theorem insert_end (base gx : Nat) (v : Value) (ys : List Bk) (b : Bk) (w : World) (hown : w.ownsRow base 53 4 v ys.length (ys.flatMap bkF)) (hb : Box w gx 53 b.cells) (hbase : base ≤ w.heap.size) (hn : ys.length ≤ 1000000) :
  Calls Tryz.prog 36 #[v, .int .i64 (ys.length : Int), .slice (some ⟨gx, 0, none⟩) 1 1] w fun e w' => ∃ v', e = .returned v' ∧ w'.ownsRow base 53 4 v' (ys.length + 1) ((ys ++ [b]).flatMap bkF) ∧ w.grownBy w' v.ownBlock ∧ ∀ b, v'.ownBlock = some b → v.ownBlock = some b ∨ w.heap.size ≤ b := by
 obtain ⟨i0, hi0, hz0, hz1, hz2⟩ := info_parts infoBk
 obtain ⟨v', w', a1, a2, a3, _, a5⟩ := run_append_own_at (P := Tryz.prog) w base 87 87 53 i0 (.agg #[.string ⟨#[]⟩, .int .i64 0, .int .i64 0, .string ⟨#[]⟩]) 4 48 Tryz.underlying87 hi0 hz0 hz1 hz2 rfl (by decide) v ys.length (ys.flatMap bkF) hown ⟨gx, 0, none⟩ 1 1 (bkF b) rfl (World.news_of_block (cs := b.cells) hb) (by have := bks_one [b]; simpa using this) (by simp only [maxLen]; omega) (by omega) hbase
 have H2 : Hid (w'.ownsRow base 53 4 v' (ys.length + 1) ((ys ++ [b]).flatMap bkF)) := by
  unfold Hid
  rw [List.flatMap_append]
  simpa using a2
 have H5 : Hid (∀ b, v'.ownBlock = some b → v.ownBlock = some b ∨ w.heap.size ≤ b) := fun b hb => by
  rcases a5 with h | h
  ·exact .inl (by rw [← h]; exact hb)
  ·rw [h] at hb
   exact .inr (by injection hb with e; omega)
 have H3 := Lib.hid a3
 have H1 := Lib.hid a1
 clear a1 a2 a3 a5
 have hk : (ys.length : Int) ≤ (ys.length : Int) := by omega
 have hk0 : (0 : Int) ≤ (ys.length : Int) := by omega
 rcases hown.2 with ⟨hv, h0⟩ | ⟨g, cap, cur, hv, hbg, hg, hnc, hcm, hcs, htake⟩
 ·rw [hv] at H1 H3 H5
  rw [hv]
  rw [h0]
  rw [h0] at H2
  clear hown hb hv
  go_enter Tryz.func36, Tryz.ntmps36
  go_wp2_with (at_builtin; refine wpList_append_any rfl _ _ _ _ rfl _ _ _ rfl rfl H1.out ?_)
  go_ret
  exact ⟨v', rfl, H2.out, H3.out, H5.out⟩
 ·rw [hv] at H1 H3 H5
  rw [hv]
  clear hown hb hv htake hcs hg
  unfold maxLen at hcm
  generalize ys.length = n at *
  by_cases hcap : cap = n
  ·have q1 : ¬ n < cap := by omega
   go_enter Tryz.func36, Tryz.ntmps36
   go_wp2_with (at_builtin; refine wpList_append_any rfl _ _ _ _ rfl _ _ _ rfl rfl H1.out ?_)
   go_ret
   exact ⟨v', rfl, H2.out, H3.out, H5.out⟩
  ·go_enter Tryz.func36, Tryz.ntmps36
   go_wp2_with (at_builtin; refine wpList_append_any rfl _ _ _ _ rfl _ _ _ rfl rfl H1.out ?_)
   go_ret
   exact ⟨v', rfl, H2.out, H3.out, H5.out⟩
theorem bel_row {B g : Nat} {w0 w : World} (hb : Below B w0 w) (hBg : B ≤ g) (cs : Array Value) : Below B w0 (w.setRow g cs) :=
 ⟨hb.os, hb.tape, hb.output, by rw [size_setRow]; exact hb.size, fun k hk => (heap_setRow_ne w g k cs (by omega)).trans (hb.block k hk)⟩
theorem laid {Z P B D : List Value} {a b : Nat} (hP : P.length = a) (hB : B.length = b) (hZ : Z.take a = P) (hl : a + b + D.length ≤ Z.length) :
  let L1 := Z.take a ++ B ++ Z.drop (a + b)
  let L2 := L1.take (a + b) ++ D ++ L1.drop (a + b + D.length)
  L1.length = Z.length ∧ L2.length = Z.length ∧ L2.take (a + b + D.length) = P ++ B ++ D := by
 have h1 : (Z.take a ++ B ++ Z.drop (a + b)).length = Z.length := by simp; omega
 have h2 : (Z.take a ++ B ++ Z.drop (a + b)).take (a + b) = P ++ B := by
  rw [hZ, List.take_append_of_le_length (by simp; omega)]
  exact List.take_of_length_le (by simp; omega)
 refine ⟨h1, ?_, ?_⟩
 ·simp only [h2]
  rw [List.length_append, List.length_append, List.length_append, List.length_drop, h1]
  omega
 ·simp only [h2]
  rw [List.take_append_of_le_length (by simp; omega)]
  exact List.take_of_length_le (by simp; omega)
set_option maxHeartbeats 400000 in
set_option maxRecDepth 100000 in
theorem insert_grow (base g n i gx : Nat) (cur : Array Value) (ys : List Bk) (b : Bk) (w : World) (hx : Box w g 53 cur) (hcur : cur.size = n * 4) (hyn : ys.length = n) (htake : cur.toList.take (n * 4) = ys.flatMap bkF) (hi : i < n) (hn : n ≤ 1000000)
  (hb : Box w gx 53 b.cells) (hbase : base ≤ w.heap.size) :
  Calls Tryz.prog 36 #[.slice (some ⟨g, 0, none⟩) n n, .int .i64 (i : Int), .slice (some ⟨gx, 0, none⟩) 1 1] w fun e w' => ∃ v', e = .returned v' ∧ w'.ownsRow base 53 4 v' (n + 1) ((ys.take i ++ [b] ++ ys.drop i).flatMap bkF) ∧ w.grownBy w' (some g) ∧ ∀ b, v'.ownBlock = some b → b = g ∨ w.heap.size ≤ b := by
 obtain ⟨i0, hi0, hz0, hz1, hz2⟩ := info_parts infoBk
 have hsz : (Tryz.prog.info? 53).map (·.size) = some 4 := by rw [hi0]; simp [hz1]
 have hPl : ((ys.take i).flatMap bkF).length = i * 4 := by rw [flat_length bkF_len]; simp; omega
 have hDl : ((ys.drop i).flatMap bkF).length = (n - i) * 4 := by rw [flat_length bkF_len]; simp; omega
 have hsplit : ys.flatMap bkF = (ys.take i).flatMap bkF ++ (ys.drop i).flatMap bkF := by rw [← List.flatMap_append, List.take_append_drop]
 have hcell : ∀ W, Below w.heap.size w W → ∀ j v, (ys.flatMap bkF)[j]? = some v → W.cell? ⟨g, j, none⟩ = some v := fun W hbW j v hv => by
  rw [(hx.below hbW).cell]
  rw [← htake, List.getElem?_take] at hv
  split at hv
  ·simpa using hv
  ·cases hv
 obtain ⟨P, hP⟩ : ∃ P, P = (ys.take i).flatMap bkF := ⟨_, rfl⟩
 obtain ⟨D, hD⟩ : ∃ D, D = (ys.drop i).flatMap bkF := ⟨_, rfl⟩
 rw [← hP] at hPl hsplit
 rw [← hD] at hDl hsplit
 have hold : (Builtin.firstCells i0.size i (.slice (some ⟨g, 0, none⟩) i n)).run Tryz.prog w.drew = .ok P.toArray w.drew :=
  run_firstCells_some w.drew i0.size i ⟨g, 0, none⟩ i n P (by rw [hz1]; exact hPl) (fun j u hu => by
   rw [addPlain, Nat.zero_add]
   refine hcell w.drew (below_drew (Below.refl _ _) 1) j u ?_
   rw [hsplit, List.getElem?_append_left (List.getElem?_eq_some_iff.1 hu).1]
   exact hu)
 obtain ⟨k, hk⟩ : ∃ k, k = n + 1 - i := ⟨_, rfl⟩
 have hrz : ∀ ty, (Builtin.append_ #[87, 3] ty #[.slice (some ⟨g, 0, none⟩) i n, .int .i64 (k : Int)]).run Tryz.prog w =
   .ok (.slice (some ⟨w.heap.size, 0, none⟩) (n + 1) (grownCap w (n + 1) n 53)) (w.drew.alloc (.cells (P.toArray ++ Builtin.zeroCells (Value.agg #[.string ⟨#[]⟩, .int .i64 0, .int .i64 0, .string ⟨#[]⟩]).cells k ++ Builtin.zeroCells (Value.agg #[.string ⟨#[]⟩, .int .i64 0, .int .i64 0, .string ⟨#[]⟩]).cells (grownCap w (n + 1) n 53 - (n + 1))) 53)) := fun ty => by
  have h := Lib.run_append_grow_zeros w 87 3 ty 53 i0 (.agg #[.string ⟨#[]⟩, .int .i64 0, .int .i64 0, .string ⟨#[]⟩]) .i64 .i64 Tryz.underlying87 Tryz.underlying3 hi0 hz0 (some ⟨g, 0, none⟩) i n P hold k (by omega) (by omega) (by omega) (by omega) (by rw [hz2]; omega) (growslice_fits (by omega) (by rw [hz2]; omega))
  rw [show i + k = n + 1 from by omega] at h
  exact h
 have hGn : n + 1 ≤ grownCap w (n + 1) n 53 := grownCap_ge w _ _ _
 have hG63 := grownCap_le_maxLen w (n + 1) n 53 (by unfold maxLen; omega)
 obtain ⟨G, hG⟩ : ∃ G, G = grownCap w (n + 1) n 53 := ⟨_, rfl⟩
 rw [← hG] at hrz hGn hG63
 clear hG
 obtain ⟨Z, hZ⟩ : ∃ Z, Z = P.toArray ++ Builtin.zeroCells (Value.agg #[.string ⟨#[]⟩, .int .i64 0, .int .i64 0, .string ⟨#[]⟩]).cells k ++ Builtin.zeroCells (Value.agg #[.string ⟨#[]⟩, .int .i64 0, .int .i64 0, .string ⟨#[]⟩]).cells (G - (n + 1)) := ⟨_, rfl⟩
 rw [← hZ] at hrz
 have hZs : Z.size = G * 4 := by
  rw [hZ]
  simp [Builtin.zeroCells, Value.cells]
  omega
 have hZP : Z.toList.take (i * 4) = P := by
  rw [hZ]
  simp only [Array.toList_append, List.append_assoc]
  rw [List.take_append_of_le_length (by first | omega | (simp; omega))]
  exact List.take_of_length_le (by first | omega | (simp; omega))
 clear hZ hold
 obtain ⟨s1, s2, s3⟩ := laid (Z := Z.toList) (P := P) (B := bkF b) (D := D) (a := i * 4) (b := 4) hPl rfl hZP (by rw [hDl, Array.length_toList]; omega)
 have HX0 := Lib.hid (Box.new w.drew 53 Z)
 have hB0 : Below w.heap.size w (w.drew.alloc (.cells Z 53)) := (below_drew (Below.refl _ _) 1).alloc (Nat.le_refl _) _
 have HB0 := Lib.hid hB0
 have HBb := Lib.hid hb
 have hgl := hx.lt
 have hgxl := hb.lt
 have HCell := Lib.hid hcell
 have HS1 := Lib.hid s1
 have HS2 := Lib.hid s2
 have HS3 := Lib.hid s3
 clear s1 s2 s3 hcell hx hb hB0 hZP htake
 have hG' := hG63
 unfold maxLen at hG'
 have hz2' : ¬ ((i : Int) = (n : Int)) := by omega
 have hw1 : IntKind.i64.wrap ((i : Int) + 1) = (i : Int) + 1 := intFits _ (by omega) (by omega)
 have hb1 : (0 : Int) ≤ (i : Int) + 1 := by omega
 have htn : ((i : Int) + 1).toNat = i + 1 := by omega
 have hb2 : ¬ (G = i + 1) := by omega
 have hb4 : ¬ (G = i) := by omega
 have hb5 : ¬ (n = i) := by omega
 have k0 : (0 : Int) ≤ (i : Int) := by omega
 have k1 : (i : Int) ≤ (n : Int) := by omega
 have k2 : i ≤ n := by omega
 have k3 : IntKind.i64.wrap ((n : Int) + 1) = (n : Int) + 1 := intFits _ (by omega) (by omega)
 have k4 : IntKind.i64.wrap ((n : Int) + 1 - (i : Int)) = (k : Int) := by rw [show (n : Int) + 1 - (i : Int) = (k : Int) from by omega]; exact intFits _ (by omega) (by omega)
 have k5 : (n : Int) < (n : Int) + 1 := by omega
 have k7 : (i : Int) + 1 ≤ (n : Int) + 1 := by omega
 have k9 : (i : Int) ≤ (n : Int) + 1 := by omega
 have HK := Lib.hid hk
 have HP' := Lib.hid hP
 have HD' := Lib.hid hD
 have HRZ := Lib.hid hrz
 have HSP := Lib.hid hsplit
 clear hk hP hD hrz hsplit
 have hx0 : Box (w.alloc (Obj.cells Z 53)).drew w.heap.size 53 Z := Box.new w 53 Z
 have hbx0 : Box (w.alloc (Obj.cells Z 53)).drew gx 53 b.cells := HBb.out.below (below_drew (below_alloc1 w (Obj.cells Z 53)) 1)
 obtain ⟨L1, hL1⟩ : ∃ L1, L1 = Z.toList.take (i * 4) ++ bkF b ++ Z.toList.drop (i * 4 + 4) := ⟨_, rfl⟩
 have hc1 : L1.length = G * 4 := by rw [hL1]; exact HS1.out.trans (by rw [Array.length_toList]; exact hZs)
 have hcp1 : ∀ ty dc, (Builtin.copy_ #[87, 87] ty #[.slice (some ⟨w.heap.size, i * 4, none⟩) (n + 1 - i) dc, .slice (some ⟨gx, 0, none⟩) 1 1]).run Tryz.prog (w.alloc (Obj.cells Z 53)).drew = .ok (goInt 1) ((w.alloc (Obj.cells Z 53)).drew.setRow w.heap.size L1.toArray) := fun ty dc => by
  have := run_copy_rowS (P := Tryz.prog) (w.alloc (Obj.cells Z 53)).drew 87 87 ty 53 4 w.heap.size (i * 4) (n + 1 - i) dc ⟨gx, 0, none⟩ 1 1 Z 53 (bkF b) Tryz.underlying87 hsz hx0 (by rw [bkF_len, show Nat.min 1 (n + 1 - i) = 1 from by simp only [Nat.min_def]; split <;> omega])
   (World.news_of_block (cs := b.cells) hbx0) (by rw [bkF_len]; omega) (by have := bks_one [b]; simpa using this)
  rw [show Nat.min 1 (n + 1 - i) = 1 from by simp only [Nat.min_def]; split <;> omega, show i * 4 + (bkF b).length = i * 4 + 4 from rfl, ← hL1] at this
  exact this
 have HX1 := Lib.hid (hx0.row L1.toArray)
 have HB1 : Hid (Below w.heap.size w ((w.alloc (Obj.cells Z 53)).drew.setRow w.heap.size L1.toArray)) := bel_row (g := w.heap.size) (below_drew (below_alloc1 w (Obj.cells Z 53)) 1) (Nat.le_refl _) L1.toArray
 have HL1 := Lib.hid hL1
 clear hx0 hbx0 hL1 HX0 HB0
 go_enter Tryz.func36, Tryz.ntmps36
 go_wp2_with (at_builtin; refine wpList_append_any rfl _ _ _ _ rfl _ _ _ rfl rfl (HRZ.out _) ?_)
 generalize (w.alloc (Obj.cells Z 53)).drew.setRow w.heap.size L1.toArray = W1 at *
 clear hcp1
 refine flow_begin_tail 8 (tellOf []) (by kernel_rfl) (by kernel_rfl) ?_
 simp only [List.take_succ_cons, List.take_zero, List.drop_succ_cons, List.drop_zero]
 repeat (first | (refine flow_val (v := ?_) (by rfl) (by rfl) (fun w hb => ?_) ?_; rotate_left; (· ((go_simp) <;> ((repeat' apply And.intro) <;> with_reducible rfl))); try simp only [Act.put, List.setIfInBounds_toArray, List.set_cons_zero, List.set_cons_succ, Nat.reduceAdd]) | (refine flow_skip (by rfl) (by rfl) ?_; try simp only [Act.put, List.setIfInBounds_toArray, List.set_cons_zero, List.set_cons_succ, Nat.reduceAdd]))
 refine flow_nil fun w2 hb2 _ => ?_
 have hx2 := HX1.out.below hb2
 have hbw2 : Below w.heap.size w w2 := HB1.out.trans (hb2.mono HB1.out.size)
 have hcp2 : ∀ ty dc, (Builtin.copy_ #[87, 87] ty #[.slice (some ⟨w.heap.size, (i + 1) * 4, none⟩) (n - i) dc, .slice (some ⟨g, i * 4, none⟩) (n - i) (n - i)]).run Tryz.prog w2 = .ok (goInt ((n - i : Nat) : Int)) (w2.setRow w.heap.size (L1.take ((i + 1) * 4) ++ D ++ L1.drop ((i + 1) * 4 + D.length)).toArray) := fun ty dc => by
  have := run_copy_rowS (P := Tryz.prog) w2 87 87 ty 53 4 w.heap.size ((i + 1) * 4) (n - i) dc ⟨g, i * 4, none⟩ (n - i) (n - i) L1.toArray 53 D Tryz.underlying87 hsz hx2 (by rw [hDl, show Nat.min (n - i) (n - i) = n - i from Nat.min_self _])
   (fun j v hv => by
    rw [addPlain]
    refine HCell.out w2 hbw2 (i * 4 + j) v ?_
    rw [HSP.out, List.getElem?_append_right (by omega), hPl, show i * 4 + j - i * 4 = j from by omega]
    exact hv) (by rw [hDl]; simp; omega) (by rw [HD'.out]; exact bks_one _)
  rwa [show Nat.min (n - i) (n - i) = n - i from Nat.min_self _] at this
 refine wpList_copy_any rfl _ _ _ _ rfl _ _ _ rfl rfl (hcp2 _ _) ?_
 refine wpList_nil ?_
 have HX3 := Lib.hid (hx2.row (L1.take ((i + 1) * 4) ++ D ++ L1.drop ((i + 1) * 4 + D.length)).toArray)
 have HB3 := Lib.hid (bel_row (g := w.heap.size) hbw2 (Nat.le_refl _) (L1.take ((i + 1) * 4) ++ D ++ L1.drop ((i + 1) * 4 + D.length)).toArray)
 have HL2 : Hid ((L1.take ((i + 1) * 4) ++ D ++ L1.drop ((i + 1) * 4 + D.length)).length = G * 4 ∧ (L1.take ((i + 1) * 4) ++ D ++ L1.drop ((i + 1) * 4 + D.length)).take ((n + 1) * 4) = (ys.take i ++ [b] ++ ys.drop i).flatMap bkF) := by
  have e1 := HS2.out
  have e2 := HS3.out
  rw [← HL1.out, show i * 4 + 4 = (i + 1) * 4 from by omega] at e1 e2
  refine ⟨by rw [e1, Array.length_toList]; exact hZs, ?_⟩
  rw [show (n + 1) * 4 = (i + 1) * 4 + D.length from by rw [hDl]; omega, e2, HP'.out, HD'.out, List.flatMap_append, List.flatMap_append]
  simp
 clear hcp2 hx2
 generalize (L1.take ((i + 1) * 4) ++ D ++ L1.drop ((i + 1) * 4 + D.length)) = L2 at *
 generalize w2.setRow w.heap.size L2.toArray = W3 at *
 go_wp2_with fail
 go_ret
 have hB3 := HB3.out
 refine ⟨_, rfl, ⟨?_, .inr ⟨w.heap.size, G, L2.toArray, rfl, hbase, HX3.out, hGn, hG63, by simpa using HL2.out.1, by simpa using HL2.out.2⟩⟩, ⟨hB3.os, hB3.tape, hB3.output, hB3.size, fun k' hk' _ => hB3.block k' hk'⟩, fun b hb => .inr (Nat.le_of_eq (by simpa [Value.ownBlock] using hb))⟩
 rw [flat_length bkF_len]
 simp
 omega
theorem insert_any (base gx i : Nat) (v : Value) (ys : List Bk) (b : Bk) (w : World) (hown : w.ownsRow base 53 4 v ys.length (ys.flatMap bkF)) (hb : Box w gx 53 b.cells) (hgx : v.ownBlock ≠ some gx) (hbase : base ≤ w.heap.size) (hi : i ≤ ys.length) (hn : ys.length ≤ 1000000) :
  Calls Tryz.prog 36 #[v, .int .i64 (i : Int), .slice (some ⟨gx, 0, none⟩) 1 1] w fun e w' => ∃ v', e = .returned v' ∧ w'.ownsRow base 53 4 v' (ys.length + 1) ((ys.take i ++ [b] ++ ys.drop i).flatMap bkF) ∧ w.grownBy w' v.ownBlock ∧ ∀ b, v'.ownBlock = some b → v.ownBlock = some b ∨ w.heap.size ≤ b := by
 rcases Nat.lt_or_ge i ys.length with hlt | hge
 ·rcases hown.2 with ⟨hv, h0⟩ | ⟨g, cap, cur, hv, hbg, hg, hnc, hcm, hcs, htake⟩
  ·omega
  ·have hne : gx ≠ g := fun e => hgx (by rw [hv, e]; rfl)
   subst hv
   rcases Nat.lt_or_ge ys.length cap with hr | hr
   ·exact (insert_shift base g ys.length cap i gx cur ys b w hg hcs rfl htake hr hcm hlt hn hb hne hbg).mono fun e w' ⟨v', h1, h2, h3, h4⟩ => ⟨v', h1, h2, h3, fun b hb => (h4 b hb).imp (fun e => by rw [e]; rfl) id⟩
   ·obtain rfl : cap = ys.length := by omega
    exact (insert_grow base g ys.length i gx cur ys b w hg hcs rfl htake hlt hn hb hbase).mono fun e w' ⟨v', h1, h2, h3, h4⟩ => ⟨v', h1, h2, h3, fun b hb => (h4 b hb).imp (fun e => by rw [e]; rfl) id⟩
 ·obtain rfl : i = ys.length := by omega
  have := insert_end base gx v ys b w hown hb hbase hn
  rw [List.take_length, List.drop_length, List.append_nil]
  exact this
end Go.Proofs.YtabidjmmgnkhkaaGreatDoor
