/- slices.Insert of one booking into a row of bookings of one's own. -/
import Derived.Test.YtfindembancjdaaOwn
import Derived.Test.YtfindembancjdaaSlice1
import Derived.Test.YtfindembancjdaaListArg
import Derived.Test.YtfindembancjdaaFlow2
import Derived.Lib.Overlaps
import Derived.Laws.CopyRow
import Derived.Laws.Externs
namespace Go.Proofs.Ytfindembancjdaa
open Go.RowKit Go.Lib
set_option linter.unusedVariables false

/-- a booking -/
structure Bk where
  rm : ByteArray
  fr : Int
  to : Int
  who : ByteArray
def bk0 : Bk := ⟨⟨#[]⟩, 0, 0, ⟨#[]⟩⟩
def bkF (b : Bk) : List Value := [.string b.rm, .int .i64 b.fr, .int .i64 b.to, .string b.who]
abbrev Bk.cells (b : Bk) : Array Value := #[.string b.rm, .int .i64 b.fr, .int .i64 b.to, .string b.who]
abbrev Bk.val (b : Bk) : Value := .agg b.cells
theorem bkF_len (b : Bk) : (bkF b).length = 4 := rfl
theorem infoBk : (Try.prog.info? 55).map (fun i => (i.zero, i.size, i.bytes)) = some (some (.agg #[.string ⟨#[]⟩, .int .i64 0, .int .i64 0, .string ⟨#[]⟩]), 4, 48) := by kernel_rfl
theorem bks_one (l : List Bk) : ∀ u ∈ l.flatMap bkF, u.oneCell' = true := fun u hu => by
  obtain ⟨x, _, hx⟩ := List.mem_flatMap.1 hu
  simp [bkF] at hx
  rcases hx with rfl | rfl | rfl | rfl <;> rfl

/-- copy into a row, elements of any number of cells -/
theorem run_copy_rowS {P : Program} (w : World) (dT sT ty elem : TypeId) (s : Nat) (g o dLen dCap : Nat) (a : Addr) (sLen sCap : Nat) (cur : Array Value) (t : TypeId) (cs : List Value)
    (hu : P.underlying dT = some (.slice elem)) (hs : (P.info? elem).map (·.size) = some s)
    (hg : w.heap[g]? = some (.cells cur t (0, 0))) (hn : cs.length = Nat.min sLen dLen * s)
    (hsrc : ∀ j v, cs[j]? = some v → w.cell? (a.add j) = some v) (hfit : o + cs.length ≤ cur.size) (h1 : ∀ v ∈ cs, v.oneCell' = true) :
    (Builtin.copy_ #[dT, sT] ty #[.slice (some ⟨g, o, none⟩) dLen dCap, .slice (some a) sLen sCap]).run P w =
      .ok (goInt (Nat.min sLen dLen)) (w.setRow g (cur.toList.take o ++ cs ++ cur.toList.drop (o + cs.length)).toArray) := by
  have hl := run_loadCells_list (P := P) w a cs hsrc
  have hst := run_storeCells_at P g o t cs 0 cur w hg (by simpa using hfit) h1
  cases hq : P.info? elem with
  | none => simp [hq] at hs
  | some i =>
    have hi : i.size = s := by simpa [hq] using hs
    simp [Builtin.copy_, run_underlying hu, Builtin.lenOf, Builtin.firstCells, sizeOf, typeInfo, hq, hi, ← hn, hl, hst]
theorem wpList_copy_any {P : Program} {ops : Array Oper} {rest : List Oper} {o : Oper} {a : Act} {Q : Exit → Act → World → Prop} {w w' : World} (hw : Region.wanted o (yielded ops a.tmps) = true) (s x : Operand) (t u : TypeId)
    (ho : o.op = .call { callee := .builtin .copy, args := #[s, x], argTypes := #[t, u] }) (v xv v' : Value) (hs : a.eval s = v) (hx : a.eval x = xv)
    (hr : (Builtin.copy_ #[t, u] o.type #[v, xv]).run P w = .ok v' w') (h : wpList P ops Q rest (a.put o.dst v') w') : wpList P ops Q (o :: rest) a w := by
  refine wpList_step fun K hK => ?_
  rw [if_pos hw]
  unfold Oper.wp execOp
  simp only [ho, resolve, invoke, builtin, Sem.run_bind, Sem.run_pure, Result.andThen_ok, List.map_toArray, List.map_cons, List.map_nil, hs, hx, hr]
  exact hK _ _ h
theorem Box.row {w : World} {g : Nat} {t : TypeId} {cur : Array Value} (h : Box w g t cur) (cs : Array Value) : Box (w.setRow g cs) g t cs := setRow_heap w g cur cs t (0, 0) h
theorem heap_setRow_ne (w : World) (g b : Nat) (cs : Array Value) (h : b ≠ g) : (w.setRow g cs).heap[b]? = w.heap[b]? := by
  have h' : ¬ g = b := fun e => h e.symm
  simp [World.setRow, Array.getElem?_modify, h']
theorem size_setRow (w : World) (g : Nat) (cs : Array Value) : (w.setRow g cs).heap.size = w.heap.size := by simp [World.setRow]
theorem grown_setRow (w : World) (g : Nat) (cs : Array Value) : w.grownBy (w.setRow g cs) (some g) :=
  ⟨rfl, rfl, rfl, by rw [size_setRow]; omega, fun k _ hne => heap_setRow_ne w g k cs (fun e => hne (by rw [e]))⟩

/-- what a row holds once a part was moved up and another laid in the gap -/
theorem shifted {L P B D : List Value} {a b : Nat} (hP : P.length = a) (hB : B.length = b) (hL : L.take (a + D.length) = P ++ D) (hl : a + b + D.length ≤ L.length) :
    let L1 := L.take (a + b) ++ D ++ L.drop (a + b + D.length)
    let L2 := L1.take a ++ B ++ L1.drop (a + b)
    L1.length = L.length ∧ L2.length = L.length ∧ L2.take (a + b + D.length) = P ++ B ++ D := by
  have h1 : (L.take (a + b) ++ D ++ L.drop (a + b + D.length)).length = L.length := by simp; omega
  have hPt : L.take a = P := by
    have := congrArg (List.take a) hL
    rw [List.take_take, Nat.min_eq_left (by omega)] at this
    rw [this, List.take_append_of_le_length (by omega)]
    exact List.take_of_length_le (by omega)
  have h2 : (L.take (a + b) ++ D ++ L.drop (a + b + D.length)).take a = P := by
    rw [List.append_assoc, List.take_append_of_le_length (by simp; omega), List.take_take, Nat.min_eq_left (by omega)]
    exact hPt
  have h3 : (L.take (a + b) ++ D ++ L.drop (a + b + D.length)).drop (a + b) = D ++ L.drop (a + b + D.length) := by
    rw [List.append_assoc]
    have : (L.take (a + b)).length = a + b := by simp; omega
    rw [List.drop_append_of_le_length (by omega), List.drop_of_length_le (by omega), List.nil_append]
  refine ⟨h1, ?_, ?_⟩
  · simp only [h2, h3]
    simp
    omega
  · simp only [h2, h3]
    rw [← List.append_assoc, List.take_append_of_le_length (by simp; omega), List.take_of_length_le (by simp; omega)]

set_option maxHeartbeats 1000000 in
set_option maxRecDepth 100000 in
/-- Insert, in place -/
theorem insert_shift (base g n cap i gx : Nat) (cur : Array Value) (ys : List Bk) (b : Bk) (w : World) (hx : Box w g 55 cur) (hcur : cur.size = cap * 4) (hyn : ys.length = n) (htake : cur.toList.take (n * 4) = ys.flatMap bkF) (hroom : n + 1 ≤ cap) (hcm : cap ≤ maxLen) (hi : i < n) (hn : n ≤ 1000000)
    (hb : Box w gx 55 b.cells) (hne : gx ≠ g) (hbg : base ≤ g) :
    Calls Try.prog 58 #[.slice (some ⟨g, 0, none⟩) n cap, .int .i64 (i : Int), .slice (some ⟨gx, 0, none⟩) 1 1] w fun e w' => ∃ v', e = .returned v' ∧ w'.ownsRow base 55 4 v' (n + 1) ((ys.take i ++ [b] ++ ys.drop i).flatMap bkF) ∧ w.grownBy w' (some g) ∧ ∀ b, v'.ownBlock = some b → b = g ∨ w.heap.size ≤ b := by
  have hcm' := hcm
  unfold maxLen at hcm'
  have hsz : (Try.prog.info? 55).map (·.size) = some 4 := by
    obtain ⟨i0, hi0, h0, h1, h2⟩ := info_parts infoBk
    rw [hi0]; simp [h1]
  have hov : ∀ lb cb, (callFunc 88 #[.slice (some ⟨gx, 0, none⟩) 1 1, .slice (some ⟨g, (i + 1) * 4, none⟩) lb cb]).run Try.prog w = .ok (.value (.bool false)) w := fun lb cb => by
    rw [run_callFunc_extern Try.func88 (by kernel_rfl) (by kernel_rfl) (by kernel_rfl) (e := Extern.SlicesOverlaps.overlaps #[49, 49] #[4]) (by kernel_rfl),
      Lib.run_overlaps_apart w 49 4 55 Try.underlying49 4 (fun w => by kernel_rfl) ⟨gx, 0, none⟩ ⟨g, (i + 1) * 4, none⟩ 1 1 lb cb hne 55 55 4 cur.size (by unfold World.shape?; rw [show w.heap[gx]? = _ from hb]; rfl) (by unfold World.shape?; rw [show w.heap[g]? = _ from hx]) (by omega) (hb.free 0) (hb.free 4)]
    rfl
  have hPl : ((ys.take i).flatMap bkF).length = i * 4 := by rw [flat_length bkF_len]; simp; omega
  have hDl : ((ys.drop i).flatMap bkF).length = (n - i) * 4 := by rw [flat_length bkF_len]; simp; omega
  have hsplit : ys.flatMap bkF = (ys.take i).flatMap bkF ++ (ys.drop i).flatMap bkF := by rw [← List.flatMap_append, List.take_append_drop]
  obtain ⟨s1, s2, s3⟩ := shifted (L := cur.toList) (P := (ys.take i).flatMap bkF) (B := bkF b) (D := (ys.drop i).flatMap bkF) (a := i * 4) (b := 4) hPl rfl (by rw [hDl, show i * 4 + (n - i) * 4 = n * 4 from by omega, htake, hsplit]) (by rw [hDl, Array.length_toList]; omega)
  obtain ⟨D, hD⟩ : ∃ D, D = (ys.drop i).flatMap bkF := ⟨_, rfl⟩
  have hsrc : ∀ W, Below w.heap.size w W → ∀ j v, D[j]? = some v → W.cell? ((⟨g, i * 4, none⟩ : Addr).add j) = some v := fun W hbW j v hv => by
    have hj : j < D.length := (List.getElem?_eq_some_iff.1 hv).1
    rw [hD, hDl] at hj
    rw [addPlain, (hx.below hbW).cell]
    have h2 : (cur.toList.take (n * 4))[i * 4 + j]? = some v := by
      rw [htake, hsplit, List.getElem?_append_right (by omega), hPl, show i * 4 + j - i * 4 = j from by omega, ← hD]
      exact hv
    rw [List.getElem?_take, if_pos (by omega)] at h2
    simpa using h2
  have hcp1 : ∀ W, Below w.heap.size w W → ∀ ty dc sc, (Builtin.copy_ #[49, 49] ty #[.slice (some ⟨g, (i + 1) * 4, none⟩) (n - i) dc, .slice (some ⟨g, i * 4, none⟩) (n + 1 - i) sc]).run Try.prog W = .ok (goInt ((n - i : Nat) : Int)) (W.setRow g (cur.toList.take ((i + 1) * 4) ++ D ++ cur.toList.drop ((i + 1) * 4 + D.length)).toArray) := fun W hbW ty dc sc => by
    have := run_copy_rowS (P := Try.prog) W 49 49 ty 55 4 g ((i + 1) * 4) (n - i) dc ⟨g, i * 4, none⟩ (n + 1 - i) sc cur 55 D Try.underlying49 hsz (show Box W g _ _ from hx.below hbW) (by rw [hD, hDl, show Nat.min (n + 1 - i) (n - i) = n - i from by simp only [Nat.min_def]; split <;> omega]) (hsrc W hbW) (by rw [hD, hDl]; omega) (by rw [hD]; exact bks_one _)
    rwa [show Nat.min (n + 1 - i) (n - i) = n - i from by simp only [Nat.min_def]; split <;> omega] at this
  have HS1 := Lib.hid s1
  have HS2 := Lib.hid s2
  have HDl : Hid (D.length = (n - i) * 4) := by unfold Hid; rw [hD]; exact hDl
  have HS3 := Lib.hid s3
  have HX := Lib.hid hx
  have HBb := Lib.hid hb
  clear s1 s2 s3 hsrc hsplit htake hx hb hPl hDl
  have hz2 : ¬ ((i : Int) = (n : Int)) := by omega
  have hw1 : IntKind.i64.wrap ((i : Int) + 1) = (i : Int) + 1 := intFits _ (by omega) (by omega)
  have hb1 : (0 : Int) ≤ (i : Int) + 1 := by omega
  have htn : ((i : Int) + 1).toNat = i + 1 := by omega
  have hb2 : ¬ (cap = i + 1) := by omega
  have hb4 : ¬ (cap = i) := by omega
  have k0 : (0 : Int) ≤ (i : Int) := by omega
  have k1 : (i : Int) ≤ (n : Int) := by omega
  have k2 : i ≤ n := by omega
  have k3 : IntKind.i64.wrap ((n : Int) + 1) = (n : Int) + 1 := intFits _ (by omega) (by omega)
  have k4 : ((n : Int) + 1).toNat = n + 1 := by omega
  have k5 : ¬ ((cap : Int) < (n : Int) + 1) := by omega
  have k6 : (n : Int) + 1 ≤ (cap : Int) := by omega
  have k7 : (i : Int) + 1 ≤ (n : Int) + 1 := by omega
  have k8 : (0 : Int) ≤ (n : Int) + 1 := by omega
  have k9 : (i : Int) ≤ (n : Int) + 1 := by omega
  go_enter Try.func58, Try.ntmps58
  go_wp2_with (simp only [hov])
  have HCP := Lib.hid hcp1
  clear hcp1
  refine flow_begin_tail 8 (tellOf []) (by kernel_rfl) (by kernel_rfl) ?_
  simp only [List.take_succ_cons, List.take_zero, List.drop_succ_cons, List.drop_zero]
  repeat (first | (refine flow_val (v := ?_) (by rfl) (by rfl) (fun w hb => ?_) ?_; rotate_left; (· ((go_simp) <;> ((repeat' apply And.intro) <;> with_reducible rfl))); try simp only [Act.put, List.setIfInBounds_toArray, List.set_cons_zero, List.set_cons_succ, Nat.reduceAdd]) | (refine flow_skip (by rfl) (by rfl) ?_; try simp only [Act.put, List.setIfInBounds_toArray, List.set_cons_zero, List.set_cons_succ, Nat.reduceAdd]))
  refine flow_nil fun w1 hb1 _ => ?_
  refine wpList_copy_any rfl _ _ _ _ rfl _ _ _ rfl rfl (HCP.out w1 hb1 _ _ _) ?_
  refine wpList_nil ?_
  have hc1 : (cur.toList.take ((i + 1) * 4) ++ D ++ cur.toList.drop ((i + 1) * 4 + D.length)).length = cap * 4 := by
    rw [hD, show (i + 1) * 4 = i * 4 + 4 from by omega]
    exact HS1.out.trans (by rw [Array.length_toList]; exact hcur)
  obtain ⟨L1, hL1⟩ : ∃ L1, L1 = cur.toList.take ((i + 1) * 4) ++ D ++ cur.toList.drop ((i + 1) * 4 + D.length) := ⟨_, rfl⟩
  rw [← hL1] at hc1
  rw [← hL1]
  have hx1 := (HX.out.below hb1).row L1.toArray
  have hbx1 : Box (w1.setRow g L1.toArray) gx 55 b.cells := (heap_setRow_ne w1 g gx _ hne).trans (HBb.out.below hb1)
  have hg1 : w.grownBy (w1.setRow g L1.toArray) (some g) := World.grownBy.trans (b := w1) ⟨hb1.os, hb1.tape, hb1.output, hb1.size, fun k hk _ => hb1.block k hk⟩ (grown_setRow w1 g _)
  generalize w1.setRow g L1.toArray = W1 at *
  have hcp2 : ∀ ty dc, (Builtin.copy_ #[49, 49] ty #[.slice (some ⟨g, i * 4, none⟩) (n + 1 - i) dc, .slice (some ⟨gx, 0, none⟩) 1 1]).run Try.prog W1 = .ok (goInt 1) (W1.setRow g (L1.take (i * 4) ++ bkF b ++ L1.drop (i * 4 + 4)).toArray) := fun ty dc => by
    have := run_copy_rowS (P := Try.prog) W1 49 49 ty 55 4 g (i * 4) (n + 1 - i) dc ⟨gx, 0, none⟩ 1 1 L1.toArray 55 (bkF b) Try.underlying49 hsz hx1 (by rw [bkF_len, show Nat.min 1 (n + 1 - i) = 1 from by simp only [Nat.min_def]; split <;> omega])
      (World.news_of_block (cs := b.cells) hbx1) (by rw [bkF_len]; simp; omega) (by have := bks_one [b]; simpa using this)
    rwa [show Nat.min 1 (n + 1 - i) = 1 from by simp only [Nat.min_def]; split <;> omega] at this
  have HX2 := Lib.hid (hx1.row (L1.take (i * 4) ++ bkF b ++ L1.drop (i * 4 + 4)).toArray)
  have HG2 := Lib.hid (World.grownBy.trans hg1 (grown_setRow W1 g (L1.take (i * 4) ++ bkF b ++ L1.drop (i * 4 + 4)).toArray))
  have HL2 : Hid ((L1.take (i * 4) ++ bkF b ++ L1.drop (i * 4 + 4)).length = cap * 4 ∧ (L1.take (i * 4) ++ bkF b ++ L1.drop (i * 4 + 4)).take ((n + 1) * 4) = (ys.take i ++ [b] ++ ys.drop i).flatMap bkF) := by
    have e1 := HS2.out
    have e2 := HS3.out
    rw [← hD, show i * 4 + 4 = (i + 1) * 4 from by omega, ← hL1] at e1 e2
    refine ⟨by rw [show i * 4 + 4 = (i + 1) * 4 from by omega, e1, Array.length_toList]; exact hcur, ?_⟩
    rw [show i * 4 + 4 = (i + 1) * 4 from by omega, show (n + 1) * 4 = (i + 1) * 4 + D.length from by rw [HDl.out]; omega, e2, hD, List.flatMap_append, List.flatMap_append]
    simp
  clear hx1 hbx1 hg1 hL1 hc1
  have hcp3 : ∀ ty dc, (Builtin.copy_ #[49, 49] ty #[.slice (some ⟨g, i * 4, none⟩) (n + 1 - i) dc, .slice (some ⟨gx, 0, none⟩) 1 1]).run Try.prog W1 = .ok (goInt 1) (W1.setRow g (L1.take (i * 4) ++ bkF b ++ L1.drop (i * 4 + 4)).toArray) := hcp2
  clear hcp2
  generalize (L1.take (i * 4) ++ bkF b ++ L1.drop (i * 4 + 4)) = L2 at *
  go_wp2_with fail
  go_ret
  refine ⟨_, rfl, ⟨?_, .inr ⟨g, cap, L2.toArray, rfl, hbg, HX2.out, hroom, hcm, by simpa using HL2.out.1, by simpa using HL2.out.2⟩⟩, HG2.out, fun b hb => .inl (by simpa [Value.ownBlock] using hb.symm)⟩
  rw [flat_length bkF_len]
  simp
  omega
end Go.Proofs.Ytfindembancjdaa
