/- InsC1, InsC2 -/
import Derived.Lib.Overlaps
import Derived.Laws.CopyRow
import Derived.Laws.Externs
import Derived.Deep.DeepCutAuto
import Derived.Test.YtifhlmakacoicaaDoorGOwn
import Derived.Test.YtifhlmakacoicaaDoorGMoon1
import Derived.Test.YtifhlmakacoicaaDoorGListArg
import Derived.Test.YtifhlmakacoicaaDoorGPlainZone
import Derived.Test.YtifhlmakacoicaaDoorGFlow
/- slices.Insert of one change into a row of changes of one's own (Ins1 and Ins2, turned to changes). -/
namespace Go.Proofs.YtifhlmakacoicaaDoor
open Go.RowKit Go.Lib
set_option linter.unusedVariables false

abbrev Chg.cells (b : Chg) : Array Value := #[.int .i64 b.a, .int .i64 b.o, .string b.l]
def chF (b : Chg) : List Value := [.int .i64 b.a, .int .i64 b.o, .string b.l]
theorem chF_len (b : Chg) : (chF b).length = 3 := rfl
theorem infoCh : (Tryd.prog.info? 26).map (fun i => (i.zero, i.size, i.bytes)) = some (some (.agg #[.int .i64 0, .int .i64 0, .string ⟨#[]⟩]), 3, 32) := by kernel_rfl
theorem chs_one' (l : List Chg) : ∀ u ∈ l.flatMap chF, u.oneCell' = true := fun u hu => by
  obtain ⟨x, _, hx⟩ := List.mem_flatMap.1 hu
  simp [chF] at hx
  rcases hx with rfl | rfl | rfl <;> rfl

/-- copy into a row, elements of any number of cells -/
theorem run_copy_rowS {P : Program} (w : World) (dT sT ty elem : TypeId) (s : Nat) (g o dLen dCap : Nat) (a : Addr) (sLen sCap : Nat) (cur : Array Value) (t : TypeId) (cs : List Value)
    (hu : P.underlying dT = some (.slice elem)) (hs : (P.info? elem).map (·.size) = some s)
    (hg : w.heap[g]? = some (.cells cur t (0, 0))) (hn : cs.length = Nat.min sLen dLen * s)
    (hsrc : ∀ j v, cs[j]? = some v → w.cell? (a.add j) = some v) (hfit : o + cs.length ≤ cur.size) (h1 : ∀ v ∈ cs, v.oneCell' = true) :
    (Builtin.copy_ #[dT, sT] ty #[.slice (some ⟨g, o, none⟩) dLen dCap, .slice (some a) sLen sCap]).run P w =
      .ok (goInt (Nat.min sLen dLen)) (w.setRow g (cur.toList.take o ++ cs ++ cur.toList.drop (o + cs.length)).toArray) := by
  have hl := run_loadCells_list (P := P) w a cs hsrc
  have hst := run_storeCells_at P g o t cs 0 cur w hg (by simpa using hfit) h1
  cases hq : P.info? elem with
  | none => simp [hq] at hs
  | some i =>
    have hi : i.size = s := by simpa [hq] using hs
    simp [Builtin.copy_, run_underlying hu, Builtin.lenOf, Builtin.firstCells, sizeOf, typeInfo, hq, hi, ← hn, hl, hst]
theorem wpList_copy_any {P : Program} {ops : Array Oper} {rest : List Oper} {o : Oper} {a : Act} {Q : Exit → Act → World → Prop} {w w' : World} (hw : Region.wanted o (yielded ops a.tmps) = true) (s x : Operand) (t u : TypeId)
    (ho : o.op = .call { callee := .builtin .copy, args := #[s, x], argTypes := #[t, u] }) (v xv v' : Value) (hs : a.eval s = v) (hx : a.eval x = xv)
    (hr : (Builtin.copy_ #[t, u] o.type #[v, xv]).run P w = .ok v' w') (h : wpList P ops Q rest (a.put o.dst v') w') : wpList P ops Q (o :: rest) a w := by
  refine wpList_step fun K hK => ?_
  rw [if_pos hw]
  unfold Oper.wp execOp
  simp only [ho, resolve, invoke, builtin, Sem.run_bind, Sem.run_pure, Result.andThen_ok, List.map_toArray, List.map_cons, List.map_nil, hs, hx, hr]
  exact hK _ _ h
theorem Box.row {w : World} {g : Nat} {t : TypeId} {cur : Array Value} (h : Box w g t cur) (cs : Array Value) : Box (w.setRow g cs) g t cs := setRow_heap w g cur cs t (0, 0) h
theorem heap_setRow_ne (w : World) (g b : Nat) (cs : Array Value) (h : b ≠ g) : (w.setRow g cs).heap[b]? = w.heap[b]? := by
  have h' : ¬ g = b := fun e => h e.symm
  simp [World.setRow, Array.getElem?_modify, h']
theorem size_setRow (w : World) (g : Nat) (cs : Array Value) : (w.setRow g cs).heap.size = w.heap.size := by simp [World.setRow]
theorem grown_setRow (w : World) (g : Nat) (cs : Array Value) : w.grownBy (w.setRow g cs) (some g) :=
  ⟨rfl, rfl, rfl, by rw [size_setRow]; omega, fun k _ hne => heap_setRow_ne w g k cs (fun e => hne (by rw [e]))⟩

/-- what a row holds once a part was moved up and another laid in the gap -/
theorem shifted {L P B D : List Value} {a b : Nat} (hP : P.length = a) (hB : B.length = b) (hL : L.take (a + D.length) = P ++ D) (hl : a + b + D.length ≤ L.length) :
    let L1 := L.take (a + b) ++ D ++ L.drop (a + b + D.length)
    let L2 := L1.take a ++ B ++ L1.drop (a + b)
    L1.length = L.length ∧ L2.length = L.length ∧ L2.take (a + b + D.length) = P ++ B ++ D := by
  have h1 : (L.take (a + b) ++ D ++ L.drop (a + b + D.length)).length = L.length := by simp; omega
  have hPt : L.take a = P := by
    have := congrArg (List.take a) hL
    rw [List.take_take, Nat.min_eq_left (by omega)] at this
    rw [this, List.take_append_of_le_length (by omega)]
    exact List.take_of_length_le (by omega)
  have h2 : (L.take (a + b) ++ D ++ L.drop (a + b + D.length)).take a = P := by
    rw [List.append_assoc, List.take_append_of_le_length (by simp; omega), List.take_take, Nat.min_eq_left (by omega)]
    exact hPt
  have h3 : (L.take (a + b) ++ D ++ L.drop (a + b + D.length)).drop (a + b) = D ++ L.drop (a + b + D.length) := by
    rw [List.append_assoc]
    have : (L.take (a + b)).length = a + b := by simp; omega
    rw [List.drop_append_of_le_length (by omega), List.drop_of_length_le (by omega), List.nil_append]
  refine ⟨h1, ?_, ?_⟩
  · simp only [h2, h3]
    simp
    omega
  · simp only [h2, h3]
    rw [← List.append_assoc, List.take_append_of_le_length (by simp; omega), List.take_of_length_le (by simp; omega)]

set_option maxHeartbeats 1000000 in
set_option maxRecDepth 100000 in
/-- Insert, in place -/
theorem cins_shift (base g n cap i gx : Nat) (cur : Array Value) (ys : List Chg) (b : Chg) (w : World) (hx : Box w g 26 cur) (hcur : cur.size = cap * 3) (hyn : ys.length = n) (htake : cur.toList.take (n * 3) = ys.flatMap chF) (hroom : n + 1 ≤ cap) (hcm : cap ≤ maxLen) (hi : i < n) (hn : n ≤ 1000000)
    (hb : Box w gx 26 b.cells) (hne : gx ≠ g) (hbg : base ≤ g) :
    Calls Tryd.prog 77 #[.slice (some ⟨g, 0, none⟩) n cap, .int .i64 (i : Int), .slice (some ⟨gx, 0, none⟩) 1 1] w fun e w' => ∃ v', e = .returned v' ∧ w'.ownsRow base 26 3 v' (n + 1) ((ys.take i ++ [b] ++ ys.drop i).flatMap chF) ∧ w.grownBy w' (some g) ∧ ∀ b, v'.ownBlock = some b → b = g ∨ w.heap.size ≤ b := by
  have hcm' := hcm
  unfold maxLen at hcm'
  have hsz : (Tryd.prog.info? 26).map (·.size) = some 3 := by
    obtain ⟨i0, hi0, h0, h1, h2⟩ := info_parts infoCh
    rw [hi0]; simp [h1]
  have hov : ∀ lb cb, (callFunc 85 #[.slice (some ⟨gx, 0, none⟩) 1 1, .slice (some ⟨g, (i + 1) * 3, none⟩) lb cb]).run Tryd.prog w = .ok (.value (.bool false)) w := fun lb cb => by
    rw [run_callFunc_extern Tryd.func85 (by kernel_rfl) (by kernel_rfl) (by kernel_rfl) (e := Extern.SlicesOverlaps.overlaps #[22, 22] #[4]) (by kernel_rfl),
      Lib.run_overlaps_apart w 22 4 26 Tryd.underlying22 3 (fun w => by kernel_rfl) ⟨gx, 0, none⟩ ⟨g, (i + 1) * 3, none⟩ 1 1 lb cb hne 26 26 3 cur.size (by unfold World.shape?; rw [show w.heap[gx]? = _ from hb]; rfl) (by unfold World.shape?; rw [show w.heap[g]? = _ from hx]) (by omega) (hb.free 0) (hb.free 3)]
    rfl
  have hPl : ((ys.take i).flatMap chF).length = i * 3 := by rw [flat_length chF_len]; simp; omega
  have hDl : ((ys.drop i).flatMap chF).length = (n - i) * 3 := by rw [flat_length chF_len]; simp; omega
  have hsplit : ys.flatMap chF = (ys.take i).flatMap chF ++ (ys.drop i).flatMap chF := by rw [← List.flatMap_append, List.take_append_drop]
  obtain ⟨s1, s2, s3⟩ := shifted (L := cur.toList) (P := (ys.take i).flatMap chF) (B := chF b) (D := (ys.drop i).flatMap chF) (a := i * 3) (b := 3) hPl rfl (by rw [hDl, show i * 3 + (n - i) * 3 = n * 3 from by omega, htake, hsplit]) (by rw [hDl, Array.length_toList]; omega)
  obtain ⟨D, hD⟩ : ∃ D, D = (ys.drop i).flatMap chF := ⟨_, rfl⟩
  have hsrc : ∀ W, Below w.heap.size w W → ∀ j v, D[j]? = some v → W.cell? ((⟨g, i * 3, none⟩ : Addr).add j) = some v := fun W hbW j v hv => by
    have hj : j < D.length := (List.getElem?_eq_some_iff.1 hv).1
    rw [hD, hDl] at hj
    rw [addPlain, (hx.below hbW).cell]
    have h2 : (cur.toList.take (n * 3))[i * 3 + j]? = some v := by
      rw [htake, hsplit, List.getElem?_append_right (by omega), hPl, show i * 3 + j - i * 3 = j from by omega, ← hD]
      exact hv
    rw [List.getElem?_take, if_pos (by omega)] at h2
    simpa using h2
  have hcp1 : ∀ W, Below w.heap.size w W → ∀ ty dc sc, (Builtin.copy_ #[22, 22] ty #[.slice (some ⟨g, (i + 1) * 3, none⟩) (n - i) dc, .slice (some ⟨g, i * 3, none⟩) (n + 1 - i) sc]).run Tryd.prog W = .ok (goInt ((n - i : Nat) : Int)) (W.setRow g (cur.toList.take ((i + 1) * 3) ++ D ++ cur.toList.drop ((i + 1) * 3 + D.length)).toArray) := fun W hbW ty dc sc => by
    have := run_copy_rowS (P := Tryd.prog) W 22 22 ty 26 3 g ((i + 1) * 3) (n - i) dc ⟨g, i * 3, none⟩ (n + 1 - i) sc cur 26 D Tryd.underlying22 hsz (show Box W g _ _ from hx.below hbW) (by rw [hD, hDl, show Nat.min (n + 1 - i) (n - i) = n - i from by simp only [Nat.min_def]; split <;> omega]) (hsrc W hbW) (by rw [hD, hDl]; omega) (by rw [hD]; exact chs_one' _)
    rwa [show Nat.min (n + 1 - i) (n - i) = n - i from by simp only [Nat.min_def]; split <;> omega] at this
  have HS1 := Lib.hid s1
  have HS2 := Lib.hid s2
  have HDl : Hid (D.length = (n - i) * 3) := by unfold Hid; rw [hD]; exact hDl
  have HS3 := Lib.hid s3
  have HX := Lib.hid hx
  have HBb := Lib.hid hb
  clear s1 s2 s3 hsrc hsplit htake hx hb hPl hDl
  have hz2 : ¬ ((i : Int) = (n : Int)) := by omega
  have hw1 : IntKind.i64.wrap ((i : Int) + 1) = (i : Int) + 1 := intFits _ (by omega) (by omega)
  have hb1 : (0 : Int) ≤ (i : Int) + 1 := by omega
  have htn : ((i : Int) + 1).toNat = i + 1 := by omega
  have hb2 : ¬ (cap = i + 1) := by omega
  have hb4 : ¬ (cap = i) := by omega
  have k0 : (0 : Int) ≤ (i : Int) := by omega
  have k1 : (i : Int) ≤ (n : Int) := by omega
  have k2 : i ≤ n := by omega
  have k3 : IntKind.i64.wrap ((n : Int) + 1) = (n : Int) + 1 := intFits _ (by omega) (by omega)
  have k4 : ((n : Int) + 1).toNat = n + 1 := by omega
  have k5 : ¬ ((cap : Int) < (n : Int) + 1) := by omega
  have k6 : (n : Int) + 1 ≤ (cap : Int) := by omega
  have k7 : (i : Int) + 1 ≤ (n : Int) + 1 := by omega
  have k8 : (0 : Int) ≤ (n : Int) + 1 := by omega
  have k9 : (i : Int) ≤ (n : Int) + 1 := by omega
  go_enter Tryd.func77, Tryd.ntmps77
  go_wp2_with (simp only [hov])
  have HCP := Lib.hid hcp1
  clear hcp1
  refine flow_begin_tail 8 (tellOf []) (by kernel_rfl) (by kernel_rfl) ?_
  simp only [List.take_succ_cons, List.take_zero, List.drop_succ_cons, List.drop_zero]
  repeat (first | (refine flow_val (v := ?_) (by rfl) (by rfl) (fun w hb => ?_) ?_; rotate_left; (· ((go_simp) <;> ((repeat' apply And.intro) <;> with_reducible rfl))); try simp only [Act.put, List.setIfInBounds_toArray, List.set_cons_zero, List.set_cons_succ, Nat.reduceAdd]) | (refine flow_skip (by rfl) (by rfl) ?_; try simp only [Act.put, List.setIfInBounds_toArray, List.set_cons_zero, List.set_cons_succ, Nat.reduceAdd]))
  refine flow_nil fun w1 hb1 _ => ?_
  refine wpList_copy_any rfl _ _ _ _ rfl _ _ _ rfl rfl (HCP.out w1 hb1 _ _ _) ?_
  refine wpList_nil ?_
  have hc1 : (cur.toList.take ((i + 1) * 3) ++ D ++ cur.toList.drop ((i + 1) * 3 + D.length)).length = cap * 3 := by
    rw [hD, show (i + 1) * 3 = i * 3 + 3 from by omega]
    exact HS1.out.trans (by rw [Array.length_toList]; exact hcur)
  obtain ⟨L1, hL1⟩ : ∃ L1, L1 = cur.toList.take ((i + 1) * 3) ++ D ++ cur.toList.drop ((i + 1) * 3 + D.length) := ⟨_, rfl⟩
  rw [← hL1] at hc1
  rw [← hL1]
  have hx1 := (HX.out.below hb1).row L1.toArray
  have hbx1 : Box (w1.setRow g L1.toArray) gx 26 b.cells := (heap_setRow_ne w1 g gx _ hne).trans (HBb.out.below hb1)
  have hg1 : w.grownBy (w1.setRow g L1.toArray) (some g) := World.grownBy.trans (b := w1) ⟨hb1.os, hb1.tape, hb1.output, hb1.size, fun k hk _ => hb1.block k hk⟩ (grown_setRow w1 g _)
  generalize w1.setRow g L1.toArray = W1 at *
  have hcp2 : ∀ ty dc, (Builtin.copy_ #[22, 22] ty #[.slice (some ⟨g, i * 3, none⟩) (n + 1 - i) dc, .slice (some ⟨gx, 0, none⟩) 1 1]).run Tryd.prog W1 = .ok (goInt 1) (W1.setRow g (L1.take (i * 3) ++ chF b ++ L1.drop (i * 3 + 3)).toArray) := fun ty dc => by
    have := run_copy_rowS (P := Tryd.prog) W1 22 22 ty 26 3 g (i * 3) (n + 1 - i) dc ⟨gx, 0, none⟩ 1 1 L1.toArray 26 (chF b) Tryd.underlying22 hsz hx1 (by rw [chF_len, show Nat.min 1 (n + 1 - i) = 1 from by simp only [Nat.min_def]; split <;> omega])
      (World.news_of_block (cs := b.cells) hbx1) (by rw [chF_len]; simp; omega) (by have := chs_one' [b]; simpa using this)
    rwa [show Nat.min 1 (n + 1 - i) = 1 from by simp only [Nat.min_def]; split <;> omega] at this
  have HX2 := Lib.hid (hx1.row (L1.take (i * 3) ++ chF b ++ L1.drop (i * 3 + 3)).toArray)
  have HG2 := Lib.hid (World.grownBy.trans hg1 (grown_setRow W1 g (L1.take (i * 3) ++ chF b ++ L1.drop (i * 3 + 3)).toArray))
  have HL2 : Hid ((L1.take (i * 3) ++ chF b ++ L1.drop (i * 3 + 3)).length = cap * 3 ∧ (L1.take (i * 3) ++ chF b ++ L1.drop (i * 3 + 3)).take ((n + 1) * 3) = (ys.take i ++ [b] ++ ys.drop i).flatMap chF) := by
    have e1 := HS2.out
    have e2 := HS3.out
    rw [← hD, show i * 3 + 3 = (i + 1) * 3 from by omega, ← hL1] at e1 e2
    refine ⟨by rw [show i * 3 + 3 = (i + 1) * 3 from by omega, e1, Array.length_toList]; exact hcur, ?_⟩
    rw [show i * 3 + 3 = (i + 1) * 3 from by omega, show (n + 1) * 3 = (i + 1) * 3 + D.length from by rw [HDl.out]; omega, e2, hD, List.flatMap_append, List.flatMap_append]
    simp
  clear hx1 hbx1 hg1 hL1 hc1
  have hcp3 : ∀ ty dc, (Builtin.copy_ #[22, 22] ty #[.slice (some ⟨g, i * 3, none⟩) (n + 1 - i) dc, .slice (some ⟨gx, 0, none⟩) 1 1]).run Tryd.prog W1 = .ok (goInt 1) (W1.setRow g (L1.take (i * 3) ++ chF b ++ L1.drop (i * 3 + 3)).toArray) := hcp2
  clear hcp2
  generalize (L1.take (i * 3) ++ chF b ++ L1.drop (i * 3 + 3)) = L2 at *
  go_wp2_with fail
  go_ret
  refine ⟨_, rfl, ⟨?_, .inr ⟨g, cap, L2.toArray, rfl, hbg, HX2.out, hroom, hcm, by simpa using HL2.out.1, by simpa using HL2.out.2⟩⟩, HG2.out, fun b hb => .inl (by simpa [Value.ownBlock] using hb.symm)⟩
  rw [flat_length chF_len]
  simp
  omega
end Go.Proofs.YtifhlmakacoicaaDoor

/- slices.Insert of one booking: at the end; without room. -/
namespace Go.Proofs.YtifhlmakacoicaaDoor
open Go.RowKit Go.Lib
set_option linter.unusedVariables false

set_option maxHeartbeats 1000000 in
set_option maxRecDepth 100000 in
/-- Insert at the end -/
theorem cins_end (base gx : Nat) (v : Value) (ys : List Chg) (b : Chg) (w : World) (hown : w.ownsRow base 26 3 v ys.length (ys.flatMap chF)) (hb : Box w gx 26 b.cells) (hbase : base ≤ w.heap.size) (hn : ys.length ≤ 1000000) :
    Calls Tryd.prog 77 #[v, .int .i64 (ys.length : Int), .slice (some ⟨gx, 0, none⟩) 1 1] w fun e w' => ∃ v', e = .returned v' ∧ w'.ownsRow base 26 3 v' (ys.length + 1) ((ys ++ [b]).flatMap chF) ∧ w.grownBy w' v.ownBlock ∧ ∀ b, v'.ownBlock = some b → v.ownBlock = some b ∨ w.heap.size ≤ b := by
  obtain ⟨i0, hi0, hz0, hz1, hz2⟩ := info_parts infoCh
  obtain ⟨v', w', a1, a2, a3, _, a5⟩ := run_append_own_at (P := Tryd.prog) w base 22 22 26 i0 (.agg #[.int .i64 0, .int .i64 0, .string ⟨#[]⟩]) 3 32 Tryd.underlying22 hi0 hz0 hz1 hz2 rfl (by decide) v ys.length (ys.flatMap chF) hown ⟨gx, 0, none⟩ 1 1 (chF b) rfl (World.news_of_block (cs := b.cells) hb) (by have := chs_one' [b]; simpa using this) (by simp only [maxLen]; omega) (by omega) hbase
  have H2 : Hid (w'.ownsRow base 26 3 v' (ys.length + 1) ((ys ++ [b]).flatMap chF)) := by
    unfold Hid
    rw [List.flatMap_append]
    simpa using a2
  have H5 : Hid (∀ b, v'.ownBlock = some b → v.ownBlock = some b ∨ w.heap.size ≤ b) := fun b hb => by
    rcases a5 with h | h
    · exact .inl (by rw [← h]; exact hb)
    · rw [h] at hb
      exact .inr (by injection hb with e; omega)
  have H3 := Lib.hid a3
  have H1 := Lib.hid a1
  clear a1 a2 a3 a5
  have hk : (ys.length : Int) ≤ (ys.length : Int) := by omega
  have hk0 : (0 : Int) ≤ (ys.length : Int) := by omega
  rcases hown.2 with ⟨hv, h0⟩ | ⟨g, cap, cur, hv, hbg, hg, hnc, hcm, hcs, htake⟩
  · rw [hv] at H1 H3 H5
    rw [hv]
    rw [h0]
    rw [h0] at H2
    clear hown hb hv
    go_enter Tryd.func77, Tryd.ntmps77
    go_wp2_with (at_builtin; refine wpList_append_any rfl _ _ _ _ rfl _ _ _ rfl rfl H1.out ?_)
    go_ret
    exact ⟨v', rfl, H2.out, H3.out, H5.out⟩
  · rw [hv] at H1 H3 H5
    rw [hv]
    clear hown hb hv htake hcs hg
    unfold maxLen at hcm
    generalize ys.length = n at *
    by_cases hcap : cap = n
    · have q1 : ¬ n < cap := by omega
      go_enter Tryd.func77, Tryd.ntmps77
      go_wp2_with (at_builtin; refine wpList_append_any rfl _ _ _ _ rfl _ _ _ rfl rfl H1.out ?_)
      go_ret
      exact ⟨v', rfl, H2.out, H3.out, H5.out⟩
    · go_enter Tryd.func77, Tryd.ntmps77
      go_wp2_with (at_builtin; refine wpList_append_any rfl _ _ _ _ rfl _ _ _ rfl rfl H1.out ?_)
      go_ret
      exact ⟨v', rfl, H2.out, H3.out, H5.out⟩

theorem bel_row {B g : Nat} {w0 w : World} (hb : Below B w0 w) (hBg : B ≤ g) (cs : Array Value) : Below B w0 (w.setRow g cs) :=
  ⟨hb.os, hb.tape, hb.output, by rw [size_setRow]; exact hb.size, fun k hk => (heap_setRow_ne w g k cs (by omega)).trans (hb.block k hk)⟩
/-- what a new row holds once two parts were laid behind the first -/
theorem laid {Z P B D : List Value} {a b : Nat} (hP : P.length = a) (hB : B.length = b) (hZ : Z.take a = P) (hl : a + b + D.length ≤ Z.length) :
    let L1 := Z.take a ++ B ++ Z.drop (a + b)
    let L2 := L1.take (a + b) ++ D ++ L1.drop (a + b + D.length)
    L1.length = Z.length ∧ L2.length = Z.length ∧ L2.take (a + b + D.length) = P ++ B ++ D := by
  have h1 : (Z.take a ++ B ++ Z.drop (a + b)).length = Z.length := by simp; omega
  have h2 : (Z.take a ++ B ++ Z.drop (a + b)).take (a + b) = P ++ B := by
    rw [hZ, List.take_append_of_le_length (by simp; omega)]
    exact List.take_of_length_le (by simp; omega)
  refine ⟨h1, ?_, ?_⟩
  · simp only [h2]
    rw [List.length_append, List.length_append, List.length_append, List.length_drop, h1]
    omega
  · simp only [h2]
    rw [List.take_append_of_le_length (by simp; omega)]
    exact List.take_of_length_le (by simp; omega)

set_option maxHeartbeats 400000 in
set_option maxRecDepth 100000 in
/-- Insert without room -/
theorem cins_grow (base g n i gx : Nat) (cur : Array Value) (ys : List Chg) (b : Chg) (w : World) (hx : Box w g 26 cur) (hcur : cur.size = n * 3) (hyn : ys.length = n) (htake : cur.toList.take (n * 3) = ys.flatMap chF) (hi : i < n) (hn : n ≤ 1000000)
    (hb : Box w gx 26 b.cells) (hbase : base ≤ w.heap.size) :
    Calls Tryd.prog 77 #[.slice (some ⟨g, 0, none⟩) n n, .int .i64 (i : Int), .slice (some ⟨gx, 0, none⟩) 1 1] w fun e w' => ∃ v', e = .returned v' ∧ w'.ownsRow base 26 3 v' (n + 1) ((ys.take i ++ [b] ++ ys.drop i).flatMap chF) ∧ w.grownBy w' (some g) ∧ ∀ b, v'.ownBlock = some b → b = g ∨ w.heap.size ≤ b := by
  obtain ⟨i0, hi0, hz0, hz1, hz2⟩ := info_parts infoCh
  have hsz : (Tryd.prog.info? 26).map (·.size) = some 3 := by rw [hi0]; simp [hz1]
  have hPl : ((ys.take i).flatMap chF).length = i * 3 := by rw [flat_length chF_len]; simp; omega
  have hDl : ((ys.drop i).flatMap chF).length = (n - i) * 3 := by rw [flat_length chF_len]; simp; omega
  have hsplit : ys.flatMap chF = (ys.take i).flatMap chF ++ (ys.drop i).flatMap chF := by rw [← List.flatMap_append, List.take_append_drop]
  have hcell : ∀ W, Below w.heap.size w W → ∀ j v, (ys.flatMap chF)[j]? = some v → W.cell? ⟨g, j, none⟩ = some v := fun W hbW j v hv => by
    rw [(hx.below hbW).cell]
    rw [← htake, List.getElem?_take] at hv
    split at hv
    · simpa using hv
    · cases hv
  obtain ⟨P, hP⟩ : ∃ P, P = (ys.take i).flatMap chF := ⟨_, rfl⟩
  obtain ⟨D, hD⟩ : ∃ D, D = (ys.drop i).flatMap chF := ⟨_, rfl⟩
  rw [← hP] at hPl hsplit
  rw [← hD] at hDl hsplit
  have hold : (Builtin.firstCells i0.size i (.slice (some ⟨g, 0, none⟩) i n)).run Tryd.prog w.drew = .ok P.toArray w.drew :=
    run_firstCells_some w.drew i0.size i ⟨g, 0, none⟩ i n P (by rw [hz1]; exact hPl) (fun j u hu => by
      rw [addPlain, Nat.zero_add]
      refine hcell w.drew (below_drew (Below.refl _ _) 1) j u ?_
      rw [hsplit, List.getElem?_append_left (List.getElem?_eq_some_iff.1 hu).1]
      exact hu)
  obtain ⟨k, hk⟩ : ∃ k, k = n + 1 - i := ⟨_, rfl⟩
  have hrz : ∀ ty, (Builtin.append_ #[22, 3] ty #[.slice (some ⟨g, 0, none⟩) i n, .int .i64 (k : Int)]).run Tryd.prog w =
      .ok (.slice (some ⟨w.heap.size, 0, none⟩) (n + 1) (grownCap w (n + 1) n 26)) (w.drew.alloc (.cells (P.toArray ++ Builtin.zeroCells (Value.agg #[.int .i64 0, .int .i64 0, .string ⟨#[]⟩]).cells k ++ Builtin.zeroCells (Value.agg #[.int .i64 0, .int .i64 0, .string ⟨#[]⟩]).cells (grownCap w (n + 1) n 26 - (n + 1))) 26)) := fun ty => by
    have h := Lib.run_append_grow_zeros w 22 3 ty 26 i0 (.agg #[.int .i64 0, .int .i64 0, .string ⟨#[]⟩]) .i64 .i64 Tryd.underlying22 Tryd.underlying3 hi0 hz0 (some ⟨g, 0, none⟩) i n P hold k (by omega) (by omega) (by omega) (by omega) (by rw [hz2]; omega) (growslice_fits (by omega) (by rw [hz2]; omega))
    rw [show i + k = n + 1 from by omega] at h
    exact h
  have hGn : n + 1 ≤ grownCap w (n + 1) n 26 := grownCap_ge w _ _ _
  have hG63 := grownCap_le_maxLen w (n + 1) n 26 (by unfold maxLen; omega)
  obtain ⟨G, hG⟩ : ∃ G, G = grownCap w (n + 1) n 26 := ⟨_, rfl⟩
  rw [← hG] at hrz hGn hG63
  clear hG
  obtain ⟨Z, hZ⟩ : ∃ Z, Z = P.toArray ++ Builtin.zeroCells (Value.agg #[.int .i64 0, .int .i64 0, .string ⟨#[]⟩]).cells k ++ Builtin.zeroCells (Value.agg #[.int .i64 0, .int .i64 0, .string ⟨#[]⟩]).cells (G - (n + 1)) := ⟨_, rfl⟩
  rw [← hZ] at hrz
  have hZs : Z.size = G * 3 := by
    rw [hZ]
    simp [Builtin.zeroCells, Value.cells]
    omega
  have hZP : Z.toList.take (i * 3) = P := by
    rw [hZ]
    simp only [Array.toList_append, List.append_assoc]
    rw [List.take_append_of_le_length (by first | omega | (simp; omega))]
    exact List.take_of_length_le (by first | omega | (simp; omega))
  clear hZ hold
  obtain ⟨s1, s2, s3⟩ := laid (Z := Z.toList) (P := P) (B := chF b) (D := D) (a := i * 3) (b := 3) hPl rfl hZP (by rw [hDl, Array.length_toList]; omega)
  have HX0 := Lib.hid (Box.new w.drew 26 Z)
  have hB0 : Below w.heap.size w (w.drew.alloc (.cells Z 26)) := (below_drew (Below.refl _ _) 1).alloc (Nat.le_refl _) _
  have HB0 := Lib.hid hB0
  have HBb := Lib.hid hb
  have hgl := hx.lt
  have hgxl := hb.lt
  have HCell := Lib.hid hcell
  have HS1 := Lib.hid s1
  have HS2 := Lib.hid s2
  have HS3 := Lib.hid s3
  clear s1 s2 s3 hcell hx hb hB0 hZP htake
  have hG' := hG63
  unfold maxLen at hG'
  have hz2' : ¬ ((i : Int) = (n : Int)) := by omega
  have hw1 : IntKind.i64.wrap ((i : Int) + 1) = (i : Int) + 1 := intFits _ (by omega) (by omega)
  have hb1 : (0 : Int) ≤ (i : Int) + 1 := by omega
  have htn : ((i : Int) + 1).toNat = i + 1 := by omega
  have hb2 : ¬ (G = i + 1) := by omega
  have hb4 : ¬ (G = i) := by omega
  have hb5 : ¬ (n = i) := by omega
  have k0 : (0 : Int) ≤ (i : Int) := by omega
  have k1 : (i : Int) ≤ (n : Int) := by omega
  have k2 : i ≤ n := by omega
  have k3 : IntKind.i64.wrap ((n : Int) + 1) = (n : Int) + 1 := intFits _ (by omega) (by omega)
  have k4 : IntKind.i64.wrap ((n : Int) + 1 - (i : Int)) = (k : Int) := by rw [show (n : Int) + 1 - (i : Int) = (k : Int) from by omega]; exact intFits _ (by omega) (by omega)
  have k5 : (n : Int) < (n : Int) + 1 := by omega
  have k7 : (i : Int) + 1 ≤ (n : Int) + 1 := by omega
  have k9 : (i : Int) ≤ (n : Int) + 1 := by omega
  have HK := Lib.hid hk
  have HP' := Lib.hid hP
  have HD' := Lib.hid hD
  have HRZ := Lib.hid hrz
  have HSP := Lib.hid hsplit
  clear hk hP hD hrz hsplit
  have hx0 : Box (w.alloc (Obj.cells Z 26)).drew w.heap.size 26 Z := Box.new w 26 Z
  have hbx0 : Box (w.alloc (Obj.cells Z 26)).drew gx 26 b.cells := HBb.out.below (below_drew (below_alloc1 w (Obj.cells Z 26)) 1)
  obtain ⟨L1, hL1⟩ : ∃ L1, L1 = Z.toList.take (i * 3) ++ chF b ++ Z.toList.drop (i * 3 + 3) := ⟨_, rfl⟩
  have hc1 : L1.length = G * 3 := by rw [hL1]; exact HS1.out.trans (by rw [Array.length_toList]; exact hZs)
  have hcp1 : ∀ ty dc, (Builtin.copy_ #[22, 22] ty #[.slice (some ⟨w.heap.size, i * 3, none⟩) (n + 1 - i) dc, .slice (some ⟨gx, 0, none⟩) 1 1]).run Tryd.prog (w.alloc (Obj.cells Z 26)).drew = .ok (goInt 1) ((w.alloc (Obj.cells Z 26)).drew.setRow w.heap.size L1.toArray) := fun ty dc => by
    have := run_copy_rowS (P := Tryd.prog) (w.alloc (Obj.cells Z 26)).drew 22 22 ty 26 3 w.heap.size (i * 3) (n + 1 - i) dc ⟨gx, 0, none⟩ 1 1 Z 26 (chF b) Tryd.underlying22 hsz hx0 (by rw [chF_len, show Nat.min 1 (n + 1 - i) = 1 from by simp only [Nat.min_def]; split <;> omega])
      (World.news_of_block (cs := b.cells) hbx0) (by rw [chF_len]; omega) (by have := chs_one' [b]; simpa using this)
    rw [show Nat.min 1 (n + 1 - i) = 1 from by simp only [Nat.min_def]; split <;> omega, show i * 3 + (chF b).length = i * 3 + 3 from rfl, ← hL1] at this
    exact this
  have HX1 := Lib.hid (hx0.row L1.toArray)
  have HB1 : Hid (Below w.heap.size w ((w.alloc (Obj.cells Z 26)).drew.setRow w.heap.size L1.toArray)) := bel_row (g := w.heap.size) (below_drew (below_alloc1 w (Obj.cells Z 26)) 1) (Nat.le_refl _) L1.toArray
  have HL1 := Lib.hid hL1
  clear hx0 hbx0 hL1 HX0 HB0
  go_enter Tryd.func77, Tryd.ntmps77
  go_wp2_with (at_builtin; refine wpList_append_any rfl _ _ _ _ rfl _ _ _ rfl rfl (HRZ.out _) ?_)
  generalize (w.alloc (Obj.cells Z 26)).drew.setRow w.heap.size L1.toArray = W1 at *
  clear hcp1
  refine flow_begin_tail 8 (tellOf []) (by kernel_rfl) (by kernel_rfl) ?_
  simp only [List.take_succ_cons, List.take_zero, List.drop_succ_cons, List.drop_zero]
  repeat (first | (refine flow_val (v := ?_) (by rfl) (by rfl) (fun w hb => ?_) ?_; rotate_left; (· ((go_simp) <;> ((repeat' apply And.intro) <;> with_reducible rfl))); try simp only [Act.put, List.setIfInBounds_toArray, List.set_cons_zero, List.set_cons_succ, Nat.reduceAdd]) | (refine flow_skip (by rfl) (by rfl) ?_; try simp only [Act.put, List.setIfInBounds_toArray, List.set_cons_zero, List.set_cons_succ, Nat.reduceAdd]))
  refine flow_nil fun w2 hb2 _ => ?_
  have hx2 := HX1.out.below hb2
  have hbw2 : Below w.heap.size w w2 := HB1.out.trans (hb2.mono HB1.out.size)
  have hcp2 : ∀ ty dc, (Builtin.copy_ #[22, 22] ty #[.slice (some ⟨w.heap.size, (i + 1) * 3, none⟩) (n - i) dc, .slice (some ⟨g, i * 3, none⟩) (n - i) (n - i)]).run Tryd.prog w2 = .ok (goInt ((n - i : Nat) : Int)) (w2.setRow w.heap.size (L1.take ((i + 1) * 3) ++ D ++ L1.drop ((i + 1) * 3 + D.length)).toArray) := fun ty dc => by
    have := run_copy_rowS (P := Tryd.prog) w2 22 22 ty 26 3 w.heap.size ((i + 1) * 3) (n - i) dc ⟨g, i * 3, none⟩ (n - i) (n - i) L1.toArray 26 D Tryd.underlying22 hsz hx2 (by rw [hDl, show Nat.min (n - i) (n - i) = n - i from Nat.min_self _])
      (fun j v hv => by
        rw [addPlain]
        refine HCell.out w2 hbw2 (i * 3 + j) v ?_
        rw [HSP.out, List.getElem?_append_right (by omega), hPl, show i * 3 + j - i * 3 = j from by omega]
        exact hv) (by rw [hDl]; simp; omega) (by rw [HD'.out]; exact chs_one' _)
    rwa [show Nat.min (n - i) (n - i) = n - i from Nat.min_self _] at this
  refine wpList_copy_any rfl _ _ _ _ rfl _ _ _ rfl rfl (hcp2 _ _) ?_
  refine wpList_nil ?_
  have HX3 := Lib.hid (hx2.row (L1.take ((i + 1) * 3) ++ D ++ L1.drop ((i + 1) * 3 + D.length)).toArray)
  have HB3 := Lib.hid (bel_row (g := w.heap.size) hbw2 (Nat.le_refl _) (L1.take ((i + 1) * 3) ++ D ++ L1.drop ((i + 1) * 3 + D.length)).toArray)
  have HL2 : Hid ((L1.take ((i + 1) * 3) ++ D ++ L1.drop ((i + 1) * 3 + D.length)).length = G * 3 ∧ (L1.take ((i + 1) * 3) ++ D ++ L1.drop ((i + 1) * 3 + D.length)).take ((n + 1) * 3) = (ys.take i ++ [b] ++ ys.drop i).flatMap chF) := by
    have e1 := HS2.out
    have e2 := HS3.out
    rw [← HL1.out, show i * 3 + 3 = (i + 1) * 3 from by omega] at e1 e2
    refine ⟨by rw [e1, Array.length_toList]; exact hZs, ?_⟩
    rw [show (n + 1) * 3 = (i + 1) * 3 + D.length from by rw [hDl]; omega, e2, HP'.out, HD'.out, List.flatMap_append, List.flatMap_append]
    simp
  clear hcp2 hx2
  generalize (L1.take ((i + 1) * 3) ++ D ++ L1.drop ((i + 1) * 3 + D.length)) = L2 at *
  generalize w2.setRow w.heap.size L2.toArray = W3 at *
  go_wp2_with fail
  go_ret
  have hB3 := HB3.out
  refine ⟨_, rfl, ⟨?_, .inr ⟨w.heap.size, G, L2.toArray, rfl, hbase, HX3.out, hGn, hG63, by simpa using HL2.out.1, by simpa using HL2.out.2⟩⟩, ⟨hB3.os, hB3.tape, hB3.output, hB3.size, fun k' hk' _ => hB3.block k' hk'⟩, fun b hb => .inr (Nat.le_of_eq (by simpa [Value.ownBlock] using hb))⟩
  rw [flat_length chF_len]
  simp
  omega

/-- Insert of one booking into a row of one's own -/
theorem cins_any (base gx i : Nat) (v : Value) (ys : List Chg) (b : Chg) (w : World) (hown : w.ownsRow base 26 3 v ys.length (ys.flatMap chF)) (hb : Box w gx 26 b.cells) (hgx : v.ownBlock ≠ some gx) (hbase : base ≤ w.heap.size) (hi : i ≤ ys.length) (hn : ys.length ≤ 1000000) :
    Calls Tryd.prog 77 #[v, .int .i64 (i : Int), .slice (some ⟨gx, 0, none⟩) 1 1] w fun e w' => ∃ v', e = .returned v' ∧ w'.ownsRow base 26 3 v' (ys.length + 1) ((ys.take i ++ [b] ++ ys.drop i).flatMap chF) ∧ w.grownBy w' v.ownBlock ∧ ∀ b, v'.ownBlock = some b → v.ownBlock = some b ∨ w.heap.size ≤ b := by
  rcases Nat.lt_or_ge i ys.length with hlt | hge
  · rcases hown.2 with ⟨hv, h0⟩ | ⟨g, cap, cur, hv, hbg, hg, hnc, hcm, hcs, htake⟩
    · omega
    · have hne : gx ≠ g := fun e => hgx (by rw [hv, e]; rfl)
      subst hv
      rcases Nat.lt_or_ge ys.length cap with hr | hr
      · exact (cins_shift base g ys.length cap i gx cur ys b w hg hcs rfl htake hr hcm hlt hn hb hne hbg).mono fun e w' ⟨v', h1, h2, h3, h4⟩ => ⟨v', h1, h2, h3, fun b hb => (h4 b hb).imp (fun e => by rw [e]; rfl) id⟩
      · obtain rfl : cap = ys.length := by omega
        exact (cins_grow base g ys.length i gx cur ys b w hg hcs rfl htake hlt hn hb hbase).mono fun e w' ⟨v', h1, h2, h3, h4⟩ => ⟨v', h1, h2, h3, fun b hb => (h4 b hb).imp (fun e => by rw [e]; rfl) id⟩
  · obtain rfl : i = ys.length := by omega
    have := cins_end base gx v ys b w hown hb hbase hn
    rw [List.take_length, List.drop_length, List.append_nil]
    exact this
end Go.Proofs.YtifhlmakacoicaaDoor
