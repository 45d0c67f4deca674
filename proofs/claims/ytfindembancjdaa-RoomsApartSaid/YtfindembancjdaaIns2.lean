/- slices.Insert of one booking: at the end; without room. -/
import Derived.Test.YtfindembancjdaaIns1
import Derived.Test.YtfindembancjdaaSlice2
import Derived.Deep.DeepCutAuto
namespace Go.Proofs.Ytfindembancjdaa
open Go.RowKit Go.Lib
set_option linter.unusedVariables false

set_option maxHeartbeats 1000000 in
set_option maxRecDepth 100000 in
/-- Insert at the end -/
theorem insert_end (base gx : Nat) (v : Value) (ys : List Bk) (b : Bk) (w : World) (hown : w.ownsRow base 55 4 v ys.length (ys.flatMap bkF)) (hb : Box w gx 55 b.cells) (hbase : base ≤ w.heap.size) (hn : ys.length ≤ 1000000) :
    Calls Try.prog 58 #[v, .int .i64 (ys.length : Int), .slice (some ⟨gx, 0, none⟩) 1 1] w fun e w' => ∃ v', e = .returned v' ∧ w'.ownsRow base 55 4 v' (ys.length + 1) ((ys ++ [b]).flatMap bkF) ∧ w.grownBy w' v.ownBlock ∧ ∀ b, v'.ownBlock = some b → v.ownBlock = some b ∨ w.heap.size ≤ b := by
  obtain ⟨i0, hi0, hz0, hz1, hz2⟩ := info_parts infoBk
  obtain ⟨v', w', a1, a2, a3, _, a5⟩ := run_append_own_at (P := Try.prog) w base 49 49 55 i0 (.agg #[.string ⟨#[]⟩, .int .i64 0, .int .i64 0, .string ⟨#[]⟩]) 4 48 Try.underlying49 hi0 hz0 hz1 hz2 rfl (by decide) v ys.length (ys.flatMap bkF) hown ⟨gx, 0, none⟩ 1 1 (bkF b) rfl (World.news_of_block (cs := b.cells) hb) (by have := bks_one [b]; simpa using this) (by simp only [maxLen]; omega) (by omega) hbase
  have H2 : Hid (w'.ownsRow base 55 4 v' (ys.length + 1) ((ys ++ [b]).flatMap bkF)) := by
    unfold Hid
    rw [List.flatMap_append]
    simpa using a2
  have H5 : Hid (∀ b, v'.ownBlock = some b → v.ownBlock = some b ∨ w.heap.size ≤ b) := fun b hb => by
    rcases a5 with h | h
    · exact .inl (by rw [← h]; exact hb)
    · rw [h] at hb
      exact .inr (by injection hb with e; omega)
  have H3 := Lib.hid a3
  have H1 := Lib.hid a1
  clear a1 a2 a3 a5
  have hk : (ys.length : Int) ≤ (ys.length : Int) := by omega
  have hk0 : (0 : Int) ≤ (ys.length : Int) := by omega
  rcases hown.2 with ⟨hv, h0⟩ | ⟨g, cap, cur, hv, hbg, hg, hnc, hcm, hcs, htake⟩
  · rw [hv] at H1 H3 H5
    rw [hv]
    rw [h0]
    rw [h0] at H2
    clear hown hb hv
    go_enter Try.func58, Try.ntmps58
    go_wp2_with (at_builtin; refine wpList_append_any rfl _ _ _ _ rfl _ _ _ rfl rfl H1.out ?_)
    go_ret
    exact ⟨v', rfl, H2.out, H3.out, H5.out⟩
  · rw [hv] at H1 H3 H5
    rw [hv]
    clear hown hb hv htake hcs hg
    unfold maxLen at hcm
    generalize ys.length = n at *
    by_cases hcap : cap = n
    · have q1 : ¬ n < cap := by omega
      go_enter Try.func58, Try.ntmps58
      go_wp2_with (at_builtin; refine wpList_append_any rfl _ _ _ _ rfl _ _ _ rfl rfl H1.out ?_)
      go_ret
      exact ⟨v', rfl, H2.out, H3.out, H5.out⟩
    · go_enter Try.func58, Try.ntmps58
      go_wp2_with (at_builtin; refine wpList_append_any rfl _ _ _ _ rfl _ _ _ rfl rfl H1.out ?_)
      go_ret
      exact ⟨v', rfl, H2.out, H3.out, H5.out⟩

theorem bel_row {B g : Nat} {w0 w : World} (hb : Below B w0 w) (hBg : B ≤ g) (cs : Array Value) : Below B w0 (w.setRow g cs) :=
  ⟨hb.os, hb.tape, hb.output, by rw [size_setRow]; exact hb.size, fun k hk => (heap_setRow_ne w g k cs (by omega)).trans (hb.block k hk)⟩
/-- what a new row holds once two parts were laid behind the first -/
theorem laid {Z P B D : List Value} {a b : Nat} (hP : P.length = a) (hB : B.length = b) (hZ : Z.take a = P) (hl : a + b + D.length ≤ Z.length) :
    let L1 := Z.take a ++ B ++ Z.drop (a + b)
    let L2 := L1.take (a + b) ++ D ++ L1.drop (a + b + D.length)
    L1.length = Z.length ∧ L2.length = Z.length ∧ L2.take (a + b + D.length) = P ++ B ++ D := by
  have h1 : (Z.take a ++ B ++ Z.drop (a + b)).length = Z.length := by simp; omega
  have h2 : (Z.take a ++ B ++ Z.drop (a + b)).take (a + b) = P ++ B := by
    rw [hZ, List.take_append_of_le_length (by simp; omega)]
    exact List.take_of_length_le (by simp; omega)
  refine ⟨h1, ?_, ?_⟩
  · simp only [h2]
    rw [List.length_append, List.length_append, List.length_append, List.length_drop, h1]
    omega
  · simp only [h2]
    rw [List.take_append_of_le_length (by simp; omega)]
    exact List.take_of_length_le (by simp; omega)

set_option maxHeartbeats 400000 in
set_option maxRecDepth 100000 in
/-- Insert without room -/
theorem insert_grow (base g n i gx : Nat) (cur : Array Value) (ys : List Bk) (b : Bk) (w : World) (hx : Box w g 55 cur) (hcur : cur.size = n * 4) (hyn : ys.length = n) (htake : cur.toList.take (n * 4) = ys.flatMap bkF) (hi : i < n) (hn : n ≤ 1000000)
    (hb : Box w gx 55 b.cells) (hbase : base ≤ w.heap.size) :
    Calls Try.prog 58 #[.slice (some ⟨g, 0, none⟩) n n, .int .i64 (i : Int), .slice (some ⟨gx, 0, none⟩) 1 1] w fun e w' => ∃ v', e = .returned v' ∧ w'.ownsRow base 55 4 v' (n + 1) ((ys.take i ++ [b] ++ ys.drop i).flatMap bkF) ∧ w.grownBy w' (some g) ∧ ∀ b, v'.ownBlock = some b → b = g ∨ w.heap.size ≤ b := by
  obtain ⟨i0, hi0, hz0, hz1, hz2⟩ := info_parts infoBk
  have hsz : (Try.prog.info? 55).map (·.size) = some 4 := by rw [hi0]; simp [hz1]
  have hPl : ((ys.take i).flatMap bkF).length = i * 4 := by rw [flat_length bkF_len]; simp; omega
  have hDl : ((ys.drop i).flatMap bkF).length = (n - i) * 4 := by rw [flat_length bkF_len]; simp; omega
  have hsplit : ys.flatMap bkF = (ys.take i).flatMap bkF ++ (ys.drop i).flatMap bkF := by rw [← List.flatMap_append, List.take_append_drop]
  have hcell : ∀ W, Below w.heap.size w W → ∀ j v, (ys.flatMap bkF)[j]? = some v → W.cell? ⟨g, j, none⟩ = some v := fun W hbW j v hv => by
    rw [(hx.below hbW).cell]
    rw [← htake, List.getElem?_take] at hv
    split at hv
    · simpa using hv
    · cases hv
  obtain ⟨P, hP⟩ : ∃ P, P = (ys.take i).flatMap bkF := ⟨_, rfl⟩
  obtain ⟨D, hD⟩ : ∃ D, D = (ys.drop i).flatMap bkF := ⟨_, rfl⟩
  rw [← hP] at hPl hsplit
  rw [← hD] at hDl hsplit
  have hold : (Builtin.firstCells i0.size i (.slice (some ⟨g, 0, none⟩) i n)).run Try.prog w.drew = .ok P.toArray w.drew :=
    run_firstCells_some w.drew i0.size i ⟨g, 0, none⟩ i n P (by rw [hz1]; exact hPl) (fun j u hu => by
      rw [addPlain, Nat.zero_add]
      refine hcell w.drew (below_drew (Below.refl _ _) 1) j u ?_
      rw [hsplit, List.getElem?_append_left (List.getElem?_eq_some_iff.1 hu).1]
      exact hu)
  obtain ⟨k, hk⟩ : ∃ k, k = n + 1 - i := ⟨_, rfl⟩
  have hrz : ∀ ty, (Builtin.append_ #[49, 3] ty #[.slice (some ⟨g, 0, none⟩) i n, .int .i64 (k : Int)]).run Try.prog w =
      .ok (.slice (some ⟨w.heap.size, 0, none⟩) (n + 1) (grownCap w (n + 1) n 55)) (w.drew.alloc (.cells (P.toArray ++ Builtin.zeroCells (Value.agg #[.string ⟨#[]⟩, .int .i64 0, .int .i64 0, .string ⟨#[]⟩]).cells k ++ Builtin.zeroCells (Value.agg #[.string ⟨#[]⟩, .int .i64 0, .int .i64 0, .string ⟨#[]⟩]).cells (grownCap w (n + 1) n 55 - (n + 1))) 55)) := fun ty => by
    have h := Lib.run_append_grow_zeros w 49 3 ty 55 i0 (.agg #[.string ⟨#[]⟩, .int .i64 0, .int .i64 0, .string ⟨#[]⟩]) .i64 .i64 Try.underlying49 Try.underlying3 hi0 hz0 (some ⟨g, 0, none⟩) i n P hold k (by omega) (by omega) (by omega) (by omega) (by rw [hz2]; omega) (growslice_fits (by omega) (by rw [hz2]; omega))
    rw [show i + k = n + 1 from by omega] at h
    exact h
  have hGn : n + 1 ≤ grownCap w (n + 1) n 55 := grownCap_ge w _ _ _
  have hG63 := grownCap_le_maxLen w (n + 1) n 55 (by unfold maxLen; omega)
  obtain ⟨G, hG⟩ : ∃ G, G = grownCap w (n + 1) n 55 := ⟨_, rfl⟩
  rw [← hG] at hrz hGn hG63
  clear hG
  obtain ⟨Z, hZ⟩ : ∃ Z, Z = P.toArray ++ Builtin.zeroCells (Value.agg #[.string ⟨#[]⟩, .int .i64 0, .int .i64 0, .string ⟨#[]⟩]).cells k ++ Builtin.zeroCells (Value.agg #[.string ⟨#[]⟩, .int .i64 0, .int .i64 0, .string ⟨#[]⟩]).cells (G - (n + 1)) := ⟨_, rfl⟩
  rw [← hZ] at hrz
  have hZs : Z.size = G * 4 := by
    rw [hZ]
    simp [Builtin.zeroCells, Value.cells]
    omega
  have hZP : Z.toList.take (i * 4) = P := by
    rw [hZ]
    simp only [Array.toList_append, List.append_assoc]
    rw [List.take_append_of_le_length (by first | omega | (simp; omega))]
    exact List.take_of_length_le (by first | omega | (simp; omega))
  clear hZ hold
  obtain ⟨s1, s2, s3⟩ := laid (Z := Z.toList) (P := P) (B := bkF b) (D := D) (a := i * 4) (b := 4) hPl rfl hZP (by rw [hDl, Array.length_toList]; omega)
  have HX0 := Lib.hid (Box.new w.drew 55 Z)
  have hB0 : Below w.heap.size w (w.drew.alloc (.cells Z 55)) := (below_drew (Below.refl _ _) 1).alloc (Nat.le_refl _) _
  have HB0 := Lib.hid hB0
  have HBb := Lib.hid hb
  have hgl := hx.lt
  have hgxl := hb.lt
  have HCell := Lib.hid hcell
  have HS1 := Lib.hid s1
  have HS2 := Lib.hid s2
  have HS3 := Lib.hid s3
  clear s1 s2 s3 hcell hx hb hB0 hZP htake
  have hG' := hG63
  unfold maxLen at hG'
  have hz2' : ¬ ((i : Int) = (n : Int)) := by omega
  have hw1 : IntKind.i64.wrap ((i : Int) + 1) = (i : Int) + 1 := intFits _ (by omega) (by omega)
  have hb1 : (0 : Int) ≤ (i : Int) + 1 := by omega
  have htn : ((i : Int) + 1).toNat = i + 1 := by omega
  have hb2 : ¬ (G = i + 1) := by omega
  have hb4 : ¬ (G = i) := by omega
  have hb5 : ¬ (n = i) := by omega
  have k0 : (0 : Int) ≤ (i : Int) := by omega
  have k1 : (i : Int) ≤ (n : Int) := by omega
  have k2 : i ≤ n := by omega
  have k3 : IntKind.i64.wrap ((n : Int) + 1) = (n : Int) + 1 := intFits _ (by omega) (by omega)
  have k4 : IntKind.i64.wrap ((n : Int) + 1 - (i : Int)) = (k : Int) := by rw [show (n : Int) + 1 - (i : Int) = (k : Int) from by omega]; exact intFits _ (by omega) (by omega)
  have k5 : (n : Int) < (n : Int) + 1 := by omega
  have k7 : (i : Int) + 1 ≤ (n : Int) + 1 := by omega
  have k9 : (i : Int) ≤ (n : Int) + 1 := by omega
  have HK := Lib.hid hk
  have HP' := Lib.hid hP
  have HD' := Lib.hid hD
  have HRZ := Lib.hid hrz
  have HSP := Lib.hid hsplit
  clear hk hP hD hrz hsplit
  have hx0 : Box (w.alloc (Obj.cells Z 55)).drew w.heap.size 55 Z := Box.new w 55 Z
  have hbx0 : Box (w.alloc (Obj.cells Z 55)).drew gx 55 b.cells := HBb.out.below (below_drew (below_alloc1 w (Obj.cells Z 55)) 1)
  obtain ⟨L1, hL1⟩ : ∃ L1, L1 = Z.toList.take (i * 4) ++ bkF b ++ Z.toList.drop (i * 4 + 4) := ⟨_, rfl⟩
  have hc1 : L1.length = G * 4 := by rw [hL1]; exact HS1.out.trans (by rw [Array.length_toList]; exact hZs)
  have hcp1 : ∀ ty dc, (Builtin.copy_ #[49, 49] ty #[.slice (some ⟨w.heap.size, i * 4, none⟩) (n + 1 - i) dc, .slice (some ⟨gx, 0, none⟩) 1 1]).run Try.prog (w.alloc (Obj.cells Z 55)).drew = .ok (goInt 1) ((w.alloc (Obj.cells Z 55)).drew.setRow w.heap.size L1.toArray) := fun ty dc => by
    have := run_copy_rowS (P := Try.prog) (w.alloc (Obj.cells Z 55)).drew 49 49 ty 55 4 w.heap.size (i * 4) (n + 1 - i) dc ⟨gx, 0, none⟩ 1 1 Z 55 (bkF b) Try.underlying49 hsz hx0 (by rw [bkF_len, show Nat.min 1 (n + 1 - i) = 1 from by simp only [Nat.min_def]; split <;> omega])
      (World.news_of_block (cs := b.cells) hbx0) (by rw [bkF_len]; omega) (by have := bks_one [b]; simpa using this)
    rw [show Nat.min 1 (n + 1 - i) = 1 from by simp only [Nat.min_def]; split <;> omega, show i * 4 + (bkF b).length = i * 4 + 4 from rfl, ← hL1] at this
    exact this
  have HX1 := Lib.hid (hx0.row L1.toArray)
  have HB1 : Hid (Below w.heap.size w ((w.alloc (Obj.cells Z 55)).drew.setRow w.heap.size L1.toArray)) := bel_row (g := w.heap.size) (below_drew (below_alloc1 w (Obj.cells Z 55)) 1) (Nat.le_refl _) L1.toArray
  have HL1 := Lib.hid hL1
  clear hx0 hbx0 hL1 HX0 HB0
  go_enter Try.func58, Try.ntmps58
  go_wp2_with (at_builtin; refine wpList_append_any rfl _ _ _ _ rfl _ _ _ rfl rfl (HRZ.out _) ?_)
  generalize (w.alloc (Obj.cells Z 55)).drew.setRow w.heap.size L1.toArray = W1 at *
  clear hcp1
  refine flow_begin_tail 8 (tellOf []) (by kernel_rfl) (by kernel_rfl) ?_
  simp only [List.take_succ_cons, List.take_zero, List.drop_succ_cons, List.drop_zero]
  repeat (first | (refine flow_val (v := ?_) (by rfl) (by rfl) (fun w hb => ?_) ?_; rotate_left; (· ((go_simp) <;> ((repeat' apply And.intro) <;> with_reducible rfl))); try simp only [Act.put, List.setIfInBounds_toArray, List.set_cons_zero, List.set_cons_succ, Nat.reduceAdd]) | (refine flow_skip (by rfl) (by rfl) ?_; try simp only [Act.put, List.setIfInBounds_toArray, List.set_cons_zero, List.set_cons_succ, Nat.reduceAdd]))
  refine flow_nil fun w2 hb2 _ => ?_
  have hx2 := HX1.out.below hb2
  have hbw2 : Below w.heap.size w w2 := HB1.out.trans (hb2.mono HB1.out.size)
  have hcp2 : ∀ ty dc, (Builtin.copy_ #[49, 49] ty #[.slice (some ⟨w.heap.size, (i + 1) * 4, none⟩) (n - i) dc, .slice (some ⟨g, i * 4, none⟩) (n - i) (n - i)]).run Try.prog w2 = .ok (goInt ((n - i : Nat) : Int)) (w2.setRow w.heap.size (L1.take ((i + 1) * 4) ++ D ++ L1.drop ((i + 1) * 4 + D.length)).toArray) := fun ty dc => by
    have := run_copy_rowS (P := Try.prog) w2 49 49 ty 55 4 w.heap.size ((i + 1) * 4) (n - i) dc ⟨g, i * 4, none⟩ (n - i) (n - i) L1.toArray 55 D Try.underlying49 hsz hx2 (by rw [hDl, show Nat.min (n - i) (n - i) = n - i from Nat.min_self _])
      (fun j v hv => by
        rw [addPlain]
        refine HCell.out w2 hbw2 (i * 4 + j) v ?_
        rw [HSP.out, List.getElem?_append_right (by omega), hPl, show i * 4 + j - i * 4 = j from by omega]
        exact hv) (by rw [hDl]; simp; omega) (by rw [HD'.out]; exact bks_one _)
    rwa [show Nat.min (n - i) (n - i) = n - i from Nat.min_self _] at this
  refine wpList_copy_any rfl _ _ _ _ rfl _ _ _ rfl rfl (hcp2 _ _) ?_
  refine wpList_nil ?_
  have HX3 := Lib.hid (hx2.row (L1.take ((i + 1) * 4) ++ D ++ L1.drop ((i + 1) * 4 + D.length)).toArray)
  have HB3 := Lib.hid (bel_row (g := w.heap.size) hbw2 (Nat.le_refl _) (L1.take ((i + 1) * 4) ++ D ++ L1.drop ((i + 1) * 4 + D.length)).toArray)
  have HL2 : Hid ((L1.take ((i + 1) * 4) ++ D ++ L1.drop ((i + 1) * 4 + D.length)).length = G * 4 ∧ (L1.take ((i + 1) * 4) ++ D ++ L1.drop ((i + 1) * 4 + D.length)).take ((n + 1) * 4) = (ys.take i ++ [b] ++ ys.drop i).flatMap bkF) := by
    have e1 := HS2.out
    have e2 := HS3.out
    rw [← HL1.out, show i * 4 + 4 = (i + 1) * 4 from by omega] at e1 e2
    refine ⟨by rw [e1, Array.length_toList]; exact hZs, ?_⟩
    rw [show (n + 1) * 4 = (i + 1) * 4 + D.length from by rw [hDl]; omega, e2, HP'.out, HD'.out, List.flatMap_append, List.flatMap_append]
    simp
  clear hcp2 hx2
  generalize (L1.take ((i + 1) * 4) ++ D ++ L1.drop ((i + 1) * 4 + D.length)) = L2 at *
  generalize w2.setRow w.heap.size L2.toArray = W3 at *
  go_wp2_with fail
  go_ret
  have hB3 := HB3.out
  refine ⟨_, rfl, ⟨?_, .inr ⟨w.heap.size, G, L2.toArray, rfl, hbase, HX3.out, hGn, hG63, by simpa using HL2.out.1, by simpa using HL2.out.2⟩⟩, ⟨hB3.os, hB3.tape, hB3.output, hB3.size, fun k' hk' _ => hB3.block k' hk'⟩, fun b hb => .inr (Nat.le_of_eq (by simpa [Value.ownBlock] using hb))⟩
  rw [flat_length bkF_len]
  simp
  omega

/-- Insert of one booking into a row of one's own -/
theorem insert_any (base gx i : Nat) (v : Value) (ys : List Bk) (b : Bk) (w : World) (hown : w.ownsRow base 55 4 v ys.length (ys.flatMap bkF)) (hb : Box w gx 55 b.cells) (hgx : v.ownBlock ≠ some gx) (hbase : base ≤ w.heap.size) (hi : i ≤ ys.length) (hn : ys.length ≤ 1000000) :
    Calls Try.prog 58 #[v, .int .i64 (i : Int), .slice (some ⟨gx, 0, none⟩) 1 1] w fun e w' => ∃ v', e = .returned v' ∧ w'.ownsRow base 55 4 v' (ys.length + 1) ((ys.take i ++ [b] ++ ys.drop i).flatMap bkF) ∧ w.grownBy w' v.ownBlock ∧ ∀ b, v'.ownBlock = some b → v.ownBlock = some b ∨ w.heap.size ≤ b := by
  rcases Nat.lt_or_ge i ys.length with hlt | hge
  · rcases hown.2 with ⟨hv, h0⟩ | ⟨g, cap, cur, hv, hbg, hg, hnc, hcm, hcs, htake⟩
    · omega
    · have hne : gx ≠ g := fun e => hgx (by rw [hv, e]; rfl)
      subst hv
      rcases Nat.lt_or_ge ys.length cap with hr | hr
      · exact (insert_shift base g ys.length cap i gx cur ys b w hg hcs rfl htake hr hcm hlt hn hb hne hbg).mono fun e w' ⟨v', h1, h2, h3, h4⟩ => ⟨v', h1, h2, h3, fun b hb => (h4 b hb).imp (fun e => by rw [e]; rfl) id⟩
      · obtain rfl : cap = ys.length := by omega
        exact (insert_grow base g ys.length i gx cur ys b w hg hcs rfl htake hlt hn hb hbase).mono fun e w' ⟨v', h1, h2, h3, h4⟩ => ⟨v', h1, h2, h3, fun b hb => (h4 b hb).imp (fun e => by rw [e]; rfl) id⟩
  · obtain rfl : i = ys.length := by omega
    have := insert_end base gx v ys b w hown hb hbase hn
    rw [List.take_length, List.drop_length, List.append_nil]
    exact this
end Go.Proofs.Ytfindembancjdaa
