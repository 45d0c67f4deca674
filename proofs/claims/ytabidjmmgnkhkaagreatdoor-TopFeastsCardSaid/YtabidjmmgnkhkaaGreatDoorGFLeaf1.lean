/- FLeaf1, FLeaf2, FLeaf3 -/
import Derived.Maps.Own
import Derived.Maps.OwnOps
import Derived.Deep.CutBlock
import Derived.Test.YtabidjmmgnkhkaaGreatDoorGFLex1
/- Contract of leaf of a feast's text: parentheses. -/
namespace Go.Proofs.YtabidjmmgnkhkaaGreatDoor
open Go.RowKit
set_option linter.unusedVariables false
def parR : Fr → Fr
 | .no c => .no c
 | .yes x l => if tk l = [41] then .yes x (nx l) else .no 4
set_option maxHeartbeats 4000000 in
set_option maxRecDepth 100000 in
theorem leaf_parF (g : Nat) (S : ByteArray) (op : Int) (l : List UInt8) (r : Fr) (w : World) (hS : S.size ≤ 5000) (h0 : 0 ≤ op) (h20 : op < 20) (h : Fd w g S l op) (ht : tk l = [40])
  (hI : ∀ W, Fd W g S (nx l) (op + 1) → Calls Tryz.prog 40 #[.pointer (some ⟨g, 0, none⟩), .int .i64 0] W (FExQ g S (op + 1) r W)) :
  Calls Tryz.prog 105 #[.pointer (some ⟨g, 0, none⟩)] w (FExQ g S op (parR r) w) := by
 have HB0 := Lib.hid (below_alloc2 w (Obj.cells zeroFE 57) (Obj.cells zeroFE 57))
 have HX0 := Lib.hid ((Box.new w 57 zeroFE).alloc (Obj.cells zeroFE 57))
 have HY0 : Hid (Box ((w.alloc (Obj.cells zeroFE 57)).alloc (Obj.cells zeroFE 57)) (w.heap.size + 1) 57 zeroFE) := heap_alloc2_new _ _ _
 have HK := Lib.hid (fun W (hr : Fd W g S l op) => ftok_at g S l op W hr hS)
 rw [ht, show str [40] = (⟨#[40]⟩ : ByteArray) from rfl] at HK
 have HSC := Lib.hid (fun W (hr : Fd W g S l (op + 1)) => fscan_at g S l (op + 1) W hr hS)
 have HE := Lib.hid hI
 have hgl := h.lt
 have t20 : decide (20 < op + 1) = false := decide_eq_false (by omega)
 have HF0 := Lib.hid (h.next HB0.out)
 clear h hI ht
 go_enter Tryz.func105, Tryz.ntmps105
 go_wp2_with fail
 generalize hg2 : w.heap.size = g2 at *
 have HG2 := Lib.hid hg2
 generalize (w.alloc (Obj.cells zeroFE 57)).alloc (Obj.cells zeroFE 57) = w0 at *
 have HW0 : Hid (w.grownBy w0 (some g)) := grown_bel (by rw [hg2]; exact HB0.out)
 clear hg2 HB0
 refine (HK.out w0 HF0.out).mono ?_
 rintro e w2 ⟨rfl, m, rfl⟩
 have hf2 := HF0.out.drewN m
 obtain ⟨o1, o2⟩ := hf2.op
 have ol := hf2.lt
 have HX2 := Lib.hid (Box.far (HX0.out.drewN m) (p := ⟨g, 3, none⟩) (by show g2 ≠ g; omega) (.int .i64 (op + 1)))
 have HY2 := Lib.hid (Box.far (HY0.out.drewN m) (p := ⟨g, 3, none⟩) (by show g2 + 1 ≠ g; omega) (.int .i64 (op + 1)))
 have HF2 := Lib.hid (hf2.setop (op + 1))
 have HW2 : Hid (w.grownBy ((w0.drewN m).setCell ⟨g, 3, none⟩ (.int .i64 (op + 1))) (some g)) := World.grownBy.trans HW0.out (World.grownBy.trans (grown_bel (below_drewN w0 m)) (grown_set _ g 3 _))
 have HS2 := Lib.hid (HSC.out _ HF2.out)
 clear HX0 HY0 HF0 HW0 hf2 HSC HK
 go_wp2_with fail
 refine HS2.out.mono ?_
 rintro e w3 ⟨rfl, hr, hg⟩
 have HX3 := Lib.hid (HX2.out.grown hg (by simp; omega))
 have HY3 := Lib.hid (HY2.out.grown hg (by simp; omega))
 have HW3 := Lib.hid (World.grownBy.trans HW2.out hg)
 have HE3 := Lib.hid (HE.out w3 hr)
 have hs3 : g2 < w3.heap.size := HX3.out.lt
 have hs3' : g2 + 1 < w3.heap.size := HY3.out.lt
 clear hr hg HX2 HY2 HF2 HW2 HS2 HE o1 o2 ol
 go_wp2_with fail
 refine HE3.out.mono ?_
 intro e w4 hq
 cases r with
 | no c =>
  obtain ⟨t', rfl, hc0, hx, hg⟩ := hq
  obtain ⟨k, a, b, nm, A, c', ks⟩ := t'
  rw [show feV (.node k a b nm A c' ks) = .agg #[.int .i64 k, .int .i64 a, .int .i64 b, .string nm, .slice A ks.length c'] from rfl]
  have hx4 := HX3.out.grown hg (by simp; omega)
  have hy4 := HY3.out.grown hg (by simp; omega)
  have HX5 := Lib.hid (box_far5 hx4 (g2 + 1) k a b nm (.slice A ks.length c') (by omega))
  have HY5 := Lib.hid (box_set5 hy4 k a b nm (.slice A ks.length c'))
  have HXx := Lib.hid (hx.set5 (g2 + 1) k a b nm (.slice A ks.length c') (by omega))
  have HW5 := Lib.hid (grown_set5 (World.grownBy.trans HW3.out hg) (g2 + 1) k a b nm (.slice A ks.length c') (by rw [HG2.out]; omega))
  obtain ⟨y0, y1, y2, y3, y4⟩ := fecells hy4
  have yf : ∀ i, w4.frozen? ⟨g2 + 1, i, none⟩ = false := fun i => hy4.free i
  have yl : g2 + 1 < w4.heap.size := hy4.lt
  have HC0 := Lib.hid hc0
  clear hx hg hx4 hy4 HX3 HY3 HW3 HE3 hc0
  go_upto_region 12 with fail
  clear y0 y1 y2 y3 y4 yf yl
  dsimp only [set5] at HX5 HY5 HXx HW5
  generalize ((((w4.setCell ⟨g2 + 1, 0, none⟩ (.int .i64 k)).setCell ⟨g2 + 1, 1, none⟩ (.int .i64 a)).setCell ⟨g2 + 1, 2, none⟩ (.int .i64 b)).setCell ⟨g2 + 1, 3, none⟩ (.string nm)).setCell ⟨g2 + 1, 4, none⟩ (.slice A ks.length c') = W5 at *
  obtain ⟨a5, n5, op5, hr5⟩ := HXx.out
  have o1 : W5.cell? ⟨g, 3, none⟩ = some (.int .i64 op5) := Box.cell hr5 3
  have o2 : W5.frozen? ⟨g, 3, none⟩ = false := Box.free hr5 3
  have ol : g < W5.heap.size := Box.lt hr5
  have HX6 := Lib.hid (Box.far HX5.out (p := ⟨g, 3, none⟩) (by show g2 ≠ g; omega) (.int .i64 (wrap64 (op5 - 1))))
  have HY6 := Lib.hid (Box.far HY5.out (p := ⟨g, 3, none⟩) (by show g2 + 1 ≠ g; omega) (.int .i64 (wrap64 (op5 - 1))))
  have HXx6 : Hid (Fx (W5.setCell ⟨g, 3, none⟩ (.int .i64 (wrap64 (op5 - 1)))) g S c) := ⟨a5, n5, _, Box.set_ hr5 3 _⟩
  have HW6 := Lib.hid (World.grownBy.trans HW5.out (grown_set W5 g 3 (.int .i64 (wrap64 (op5 - 1)))))
  clear HX5 HY5 HXx HW5 hr5
  go_upto_region 15 with fail
  clear o1 o2 ol
  generalize W5.setCell ⟨g, 3, none⟩ (.int .i64 (wrap64 (op5 - 1))) = W6 at *
  obtain ⟨y0, y1, y2, y3, y4⟩ := fecells HY6.out
  obtain ⟨r0, r1, r2, r3, r4⟩ := fecells HX6.out
  have rf : ∀ i, W6.frozen? ⟨g2, i, none⟩ = false := fun i => HX6.out.free i
  have rl : g2 < W6.heap.size := HX6.out.lt
  have yl : g2 + 1 < W6.heap.size := HY6.out.lt
  clear HX6 HY6
  go_wp2_with fail
  refine bodyPost_ret (v := .tuple #[.agg #[.int .i64 k, .int .i64 a, .int .i64 b, .string nm, .slice A ks.length c'], .bool false]) (by simp [results, Tryz.results105, go_sem, r0, r1, r2, r3, r4]) rfl ?_
  exact fex_no HC0.out HG2.out hgl HXx6.out HW6.out
 | yes x l' =>
  obtain ⟨t', hsh, rfl, ha4, hf4, hg⟩ := hq
  obtain ⟨k, a, b, nm, A, c', ks⟩ := t'
  rw [show feV (.node k a b nm A c' ks) = .agg #[.int .i64 k, .int .i64 a, .int .i64 b, .string nm, .slice A ks.length c'] from rfl]
  have hx4 := HX3.out.grown hg (by simp; omega)
  have hy4 := HY3.out.grown hg (by simp; omega)
  have HX5 := Lib.hid (box_far5 hx4 (g2 + 1) k a b nm (.slice A ks.length c') (by omega))
  have HY5 := Lib.hid (box_set5 hy4 k a b nm (.slice A ks.length c'))
  have HF5 := Lib.hid (hf4.set5 (g2 + 1) k a b nm (.slice A ks.length c') (by omega))
  have HW5 := Lib.hid (grown_set5 (World.grownBy.trans HW3.out hg) (g2 + 1) k a b nm (.slice A ks.length c') (by rw [HG2.out]; omega))
  have HA5 := Lib.hid ((ha4.more (p' := fun b => g2 + 1 < b) fun b hb _ => by omega).set5 (g2 + 1) k a b nm (.slice A ks.length c') (by omega))
  have HSH := Lib.hid hsh
  obtain ⟨y0, y1, y2, y3, y4⟩ := fecells hy4
  have yf : ∀ i, w4.frozen? ⟨g2 + 1, i, none⟩ = false := fun i => hy4.free i
  have yl : g2 + 1 < w4.heap.size := hy4.lt
  clear hf4 ha4 hg hx4 hy4 HX3 HY3 HW3 HE3 hsh
  go_upto_region 12 with fail
  clear y0 y1 y2 y3 y4 yf yl
  dsimp only [set5] at HX5 HY5 HF5 HW5 HA5
  generalize ((((w4.setCell ⟨g2 + 1, 0, none⟩ (.int .i64 k)).setCell ⟨g2 + 1, 1, none⟩ (.int .i64 a)).setCell ⟨g2 + 1, 2, none⟩ (.int .i64 b)).setCell ⟨g2 + 1, 3, none⟩ (.string nm)).setCell ⟨g2 + 1, 4, none⟩ (.slice A ks.length c') = W5 at *
  have HT := Lib.hid (ftake_any g S l' (op + 1) [41] W5 HF5.out hS)
  rw [show str [41] = (⟨#[41]⟩ : ByteArray) from rfl] at HT
  unfold FTakeQ at HT
  by_cases ht : tk l' = [41]
  ·have HPe : Hid (parR (.yes x l') = .yes x (nx l')) := if_pos ht
   rw [decide_eq_true ht, if_pos ht] at HT
   clear ht
   go_wp2_with fail
   refine HT.out.mono ?_
   rintro e w6 ⟨rfl, hf6, hg⟩
   have hx6 := HX5.out.grown hg (by simp; omega)
   have hy6 := HY5.out.grown hg (by simp; omega)
   have ha6 : FeAt w6 (fun b => g2 + 1 < b) w6.heap.size (.node k a b nm A c' ks) := HA5.out.grown hg (fun b hb => by simp; omega)
   obtain ⟨o1, o2⟩ := hf6.op
   have ol := hf6.lt
   have HX7 := Lib.hid (Box.far hx6 (p := ⟨g, 3, none⟩) (by show g2 ≠ g; omega) (.int .i64 op))
   have HY7 := Lib.hid (Box.far hy6 (p := ⟨g, 3, none⟩) (by show g2 + 1 ≠ g; omega) (.int .i64 op))
   have HF7 := Lib.hid (hf6.setop op)
   have HA7 := Lib.hid (ha6.set_ g 3 (.int .i64 op) (by omega))
   have HW7 := Lib.hid (World.grownBy.trans HW5.out (World.grownBy.trans hg (grown_set w6 g 3 (.int .i64 op))))
   have hoo : op + 1 - 1 = op := by omega
   clear hx6 hy6 ha6 hf6 hg HX5 HY5 HF5 HW5 HA5 HT
   go_upto_region 15 with fail
   clear o1 o2 ol
   generalize w6.setCell ⟨g, 3, none⟩ (.int .i64 op) = W7 at *
   obtain ⟨y0, y1, y2, y3, y4⟩ := fecells HY7.out
   obtain ⟨r0, r1, r2, r3, r4⟩ := fecells HX7.out
   have rf : ∀ i, W7.frozen? ⟨g2, i, none⟩ = false := fun i => HX7.out.free i
   have rl : g2 < W7.heap.size := HX7.out.lt
   have yl : g2 + 1 < W7.heap.size := HY7.out.lt
   clear HX7 HY7 hoo
   go_wp2_with fail
   refine bodyPost_ret (v := .tuple #[.agg #[.int .i64 k, .int .i64 a, .int .i64 b, .string nm, .slice A ks.length c'], .bool true]) (by simp [results, Tryz.results105, go_sem, r0, r1, r2, r3, r4]) rfl ?_
   rw [HPe.out]
   exact fex_yes HG2.out hgl HF7.out HW7.out HSH.out (HA7.out.more fun b hb _ => by omega)
  ·have HPe : Hid (parR (.yes x l') = .no 4) := if_neg ht
   rw [decide_eq_false ht, if_neg ht] at HT
   clear ht
   have HFl := Lib.hid (fun W (hr : Fd W g S l' (op + 1)) => ffail_at g S l' (op + 1) 4 W hr)
   unfold FailQ at HFl
   go_upto_region 13 with fail
   refine HT.out.mono ?_
   rintro e w6 ⟨rfl, hf6, hg⟩
   have HX6 := Lib.hid (HX5.out.grown hg (by simp; omega))
   have HY6 := Lib.hid (HY5.out.grown hg (by simp; omega))
   have HW6 := Lib.hid (World.grownBy.trans HW5.out hg)
   have HF6 := Lib.hid hf6
   clear hf6 hg HX5 HY5 HF5 HW5 HA5 HT
   go_upto_region 13 with fail
   have c0 : ∀ W, w6.grownBy W (some g) → W.cell? ⟨g2 + 1, 0, none⟩ = some (.int .i64 k) := fun W hW => (HY6.out.grown hW (by simp; omega)).cell 0
   have c1 : ∀ W, w6.grownBy W (some g) → W.cell? ⟨g2 + 1, 1, none⟩ = some (.int .i64 a) := fun W hW => (HY6.out.grown hW (by simp; omega)).cell 1
   have c2 : ∀ W, w6.grownBy W (some g) → W.cell? ⟨g2 + 1, 2, none⟩ = some (.int .i64 b) := fun W hW => (HY6.out.grown hW (by simp; omega)).cell 2
   have c3 : ∀ W, w6.grownBy W (some g) → W.cell? ⟨g2 + 1, 3, none⟩ = some (.string nm) := fun W hW => (HY6.out.grown hW (by simp; omega)).cell 3
   have c4 : ∀ W, w6.grownBy W (some g) → W.cell? ⟨g2 + 1, 4, none⟩ = some (.slice A ks.length c') := fun W hW => (HY6.out.grown hW (by simp; omega)).cell 4
   refine flowG_begin_tail 3 2 (some g) (tellOf [(2, ⟨fun v => v = .bool false, fun v W => Fx W g S 4⟩)]) (by kernel_rfl) (by kernel_rfl) ?_
   simp only [List.take_succ_cons, List.take_zero, List.drop_succ_cons, List.drop_zero]
   repeat (first | (refine flowG_val (v := ?_) (by rfl) (by rfl) (fun w hb => ?_) ?_; rotate_left; (· ((go_simp) <;> ((repeat' apply And.intro) <;> with_reducible rfl))); try simp only [Act.put, List.setIfInBounds_toArray, List.set_cons_zero, List.set_cons_succ, Nat.reduceAdd]) | (refine flowG_skip (by rfl) (by rfl) ?_; try simp only [Act.put, List.setIfInBounds_toArray, List.set_cons_zero, List.set_cons_succ, Nat.reduceAdd]))
   refine flowG_call (f := ?_) (args := ?_) [] (by kernel_rfl) (by rfl) (by rfl) (by rfl) ?_ ?_ (fun w hb => ?_) (fun w hb hu => ?_) ?_; rotate_left 4; (· ((go_simp) <;> ((repeat' apply And.intro) <;> with_reducible rfl)))
   ·exact (HFl.out w (HF6.out.next hb)).mono fun e w' ⟨he, hx, hg⟩ => ⟨_, he, rfl, hx, hg⟩
   ·rintro v rfl
    try simp only [Act.put, List.setIfInBounds_toArray, List.set_cons_zero, List.set_cons_succ, Nat.reduceAdd]
    refine flowG_nil fun w7 hg7 hf => ?_
    have HX7 := HX6.out.grown hg7 (by simp; omega)
    have HXx7 := Lib.hid (show Fx w7 g S 4 from hf.1)
    have HW7 := Lib.hid (World.grownBy.trans HW6.out hg7)
    obtain ⟨r0, r1, r2, r3, r4⟩ := fecells HX7
    have rf : ∀ i, w7.frozen? ⟨g2, i, none⟩ = false := fun i => HX7.free i
    have rl : g2 < w7.heap.size := HX7.lt
    clear c0 c1 c2 c3 c4 HX7 HX6 HY6 HW6 HF6 HFl hg7 hf
    refine wpList_step fun K hK => ?_
    rw [if_pos (by rfl)]
    go_simp
    refine hK _ _ ?_
    clear hK K
    refine wpList_step fun K hK => ?_
    rw [if_pos (by rfl)]
    go_simp
    refine hK _ _ (wpList_nil ?_)
    clear hK K
    go_wp2_with fail
    refine bodyPost_ret (v := .tuple #[.agg #[.int .i64 k, .int .i64 a, .int .i64 b, .string nm, .slice A ks.length c'], .bool false]) (by simp [results, Tryz.results105, go_sem, r0, r1, r2, r3, r4]) rfl ?_
    rw [HPe.out]
    exact fex_no (by decide) HG2.out hgl HXx7.out HW7.out
   ·exact ⟨_, rfl⟩
   ·exact fun v w w' hb ho => Fx.next ho hb
end Go.Proofs.YtabidjmmgnkhkaaGreatDoor
/- Contract of leaf of a feast's text: what is no leaf. -/
namespace Go.Proofs.YtabidjmmgnkhkaaGreatDoor
open Go.RowKit
set_option linter.unusedVariables false
set_option maxHeartbeats 4000000 in
set_option maxRecDepth 100000 in
theorem leaf_large (g : Nat) (S : ByteArray) (op : Int) (l : List UInt8) (w : World) (hS : S.size ≤ 5000) (h20 : 20 ≤ op) (h21 : op ≤ 1000) (h : Fd w g S l op) (ht : tk l = [40]) :
  Calls Tryz.prog 105 #[.pointer (some ⟨g, 0, none⟩)] w (FExQ g S op (.no 2) w) := by
 have HB0 := Lib.hid (below_alloc2 w (Obj.cells zeroFE 57) (Obj.cells zeroFE 57))
 have HX0 := Lib.hid ((Box.new w 57 zeroFE).alloc (Obj.cells zeroFE 57))
 have HY0 : Hid (Box ((w.alloc (Obj.cells zeroFE 57)).alloc (Obj.cells zeroFE 57)) (w.heap.size + 1) 57 zeroFE) := heap_alloc2_new _ _ _
 have HK := Lib.hid (fun W (hr : Fd W g S l op) => ftok_at g S l op W hr hS)
 rw [ht, show str [40] = (⟨#[40]⟩ : ByteArray) from rfl] at HK
 have HFl := Lib.hid (fun W (hr : Fd W g S l (op + 1)) => ffail_at g S l (op + 1) 2 W hr)
 unfold FailQ at HFl
 have hgl := h.lt
 have t20 : decide (20 < op + 1) = true := decide_eq_true (by omega)
 have t21 : (20 : Int) < op + 1 := by omega
 have HF0 := Lib.hid (h.next HB0.out)
 clear h ht
 go_enter Tryz.func105, Tryz.ntmps105
 go_wp2_with fail
 generalize hg2 : w.heap.size = g2 at *
 have HG2 := Lib.hid hg2
 generalize (w.alloc (Obj.cells zeroFE 57)).alloc (Obj.cells zeroFE 57) = w0 at *
 have HW0 : Hid (w.grownBy w0 (some g)) := grown_bel (by rw [hg2]; exact HB0.out)
 clear hg2 HB0
 refine (HK.out w0 HF0.out).mono ?_
 rintro e w2 ⟨rfl, m, rfl⟩
 have hf2 := HF0.out.drewN m
 obtain ⟨o1, o2⟩ := hf2.op
 have ol := hf2.lt
 have HX2 := Lib.hid (Box.far (HX0.out.drewN m) (p := ⟨g, 3, none⟩) (by show g2 ≠ g; omega) (.int .i64 (op + 1)))
 have HY2 := Lib.hid (Box.far (HY0.out.drewN m) (p := ⟨g, 3, none⟩) (by show g2 + 1 ≠ g; omega) (.int .i64 (op + 1)))
 have HF2 := Lib.hid (hf2.setop (op + 1))
 have HW2 : Hid (w.grownBy ((w0.drewN m).setCell ⟨g, 3, none⟩ (.int .i64 (op + 1))) (some g)) := World.grownBy.trans HW0.out (World.grownBy.trans (grown_bel (below_drewN w0 m)) (grown_set _ g 3 _))
 clear HX0 HY0 HF0 HW0 hf2 HK
 go_upto_region 9 with fail
 clear o1 o2 ol
 generalize (w0.drewN m).setCell ⟨g, 3, none⟩ (.int .i64 (op + 1)) = w6 at *
 have c0 : ∀ W, w6.grownBy W (some g) → W.cell? ⟨g2 + 1, 0, none⟩ = some (.int .i64 0) := fun W hW => (HY2.out.grown hW (by simp; omega)).cell 0
 have c1 : ∀ W, w6.grownBy W (some g) → W.cell? ⟨g2 + 1, 1, none⟩ = some (.int .i64 0) := fun W hW => (HY2.out.grown hW (by simp; omega)).cell 1
 have c2 : ∀ W, w6.grownBy W (some g) → W.cell? ⟨g2 + 1, 2, none⟩ = some (.int .i64 0) := fun W hW => (HY2.out.grown hW (by simp; omega)).cell 2
 have c3 : ∀ W, w6.grownBy W (some g) → W.cell? ⟨g2 + 1, 3, none⟩ = some (.string ⟨#[]⟩) := fun W hW => (HY2.out.grown hW (by simp; omega)).cell 3
 have c4 : ∀ W, w6.grownBy W (some g) → W.cell? ⟨g2 + 1, 4, none⟩ = some (.slice none 0 0) := fun W hW => (HY2.out.grown hW (by simp; omega)).cell 4
 refine flowG_begin_tail 3 2 (some g) (tellOf [(2, ⟨fun v => v = .bool false, fun v W => Fx W g S 2⟩)]) (by kernel_rfl) (by kernel_rfl) ?_
 simp only [List.take_succ_cons, List.take_zero, List.drop_succ_cons, List.drop_zero]
 repeat (first | (refine flowG_val (v := ?_) (by rfl) (by rfl) (fun w hb => ?_) ?_; rotate_left; (· ((go_simp) <;> ((repeat' apply And.intro) <;> with_reducible rfl))); try simp only [Act.put, List.setIfInBounds_toArray, List.set_cons_zero, List.set_cons_succ, Nat.reduceAdd]) | (refine flowG_skip (by rfl) (by rfl) ?_; try simp only [Act.put, List.setIfInBounds_toArray, List.set_cons_zero, List.set_cons_succ, Nat.reduceAdd]))
 refine flowG_call (f := ?_) (args := ?_) [] (by kernel_rfl) (by rfl) (by rfl) (by rfl) ?_ ?_ (fun w hb => ?_) (fun w hb hu => ?_) ?_; rotate_left 4; (· ((go_simp) <;> ((repeat' apply And.intro) <;> with_reducible rfl)))
 ·exact (HFl.out w (HF2.out.next hb)).mono fun e w' ⟨he, hx, hg⟩ => ⟨_, he, rfl, hx, hg⟩
 ·rintro v rfl
  try simp only [Act.put, List.setIfInBounds_toArray, List.set_cons_zero, List.set_cons_succ, Nat.reduceAdd]
  refine flowG_nil fun w7 hg7 hf => ?_
  have HX7 := HX2.out.grown hg7 (by simp; omega)
  have HXx7 := Lib.hid (show Fx w7 g S 2 from hf.1)
  have HW7 := Lib.hid (World.grownBy.trans HW2.out hg7)
  obtain ⟨r0, r1, r2, r3, r4⟩ := fecells HX7
  have rf : ∀ i, w7.frozen? ⟨g2, i, none⟩ = false := fun i => HX7.free i
  have rl : g2 < w7.heap.size := HX7.lt
  clear c0 c1 c2 c3 c4 HX7 HX2 HY2 HW2 HF2 HFl hg7 hf
  refine wpList_step fun K hK => ?_
  rw [if_pos (by rfl)]
  go_simp
  refine hK _ _ ?_
  clear hK K
  refine wpList_step fun K hK => ?_
  rw [if_pos (by rfl)]
  go_simp
  refine hK _ _ (wpList_nil ?_)
  clear hK K
  go_wp2_with fail
  refine bodyPost_ret (v := .tuple #[.agg #[.int .i64 0, .int .i64 0, .int .i64 0, .string ⟨#[]⟩, .slice none 0 0], .bool false]) (by simp [results, Tryz.results105, go_sem, r0, r1, r2, r3, r4]) rfl ?_
  exact fex_no (ks := []) (by decide) HG2.out hgl HXx7.out HW7.out
 ·exact ⟨_, rfl⟩
 ·exact fun v w w' hb ho => Fx.next ho hb
theorem lit_ne {t c : Tok} (h : t ≠ c) : ((str t).toList == c) = false ∧ ¬ (str t).toList = c := by
 rw [beq_eq_false_iff_ne, str_toList]; exact ⟨h, h⟩
set_option maxHeartbeats 4000000 in
set_option maxRecDepth 100000 in
theorem leaf_none (g : Nat) (S : ByteArray) (op : Int) (l : List UInt8) (w : World) (hS : S.size ≤ 5000) (h : Fd w g S l op) (ht : tk l ≠ [40]) (hk : leafK (tk l) = none) :
  Calls Tryz.prog 105 #[.pointer (some ⟨g, 0, none⟩)] w (FExQ g S op (.no 4) w) := by
 have HB0 := Lib.hid (below_alloc2 w (Obj.cells zeroFE 57) (Obj.cells zeroFE 57))
 have HX0 := Lib.hid ((Box.new w 57 zeroFE).alloc (Obj.cells zeroFE 57))
 have HY0 : Hid (Box ((w.alloc (Obj.cells zeroFE 57)).alloc (Obj.cells zeroFE 57)) (w.heap.size + 1) 57 zeroFE) := heap_alloc2_new _ _ _
 have HK := Lib.hid (fun W (hr : Fd W g S l op) => ftok_at g S l op W hr hS)
 have HFl := Lib.hid (fun W (hr : Fd W g S l op) => ffail_at g S l op 4 W hr)
 unfold FailQ at HFl
 have hgl := h.lt
 have HF0 := Lib.hid (h.next HB0.out)
 obtain ⟨q1, q2⟩ := lit_ne ht
 obtain ⟨n1, n2, n3, n4, n5, n6⟩ : tk l ≠ [100, 97, 116, 101] ∧ tk l ≠ [109, 111, 110, 116, 104] ∧ tk l ≠ [119, 101, 101, 107, 100, 97, 121] ∧ tk l ≠ [101, 118, 101, 114, 121] ∧ tk l ≠ [100, 97, 121] ∧ tk l ≠ [100, 97, 121, 115] := by
  unfold leafK at hk
  refine ⟨?_, ?_, ?_, ?_, ?_, ?_⟩ <;> (intro e; rw [e] at hk; revert hk; decide)
 obtain ⟨a1, b1⟩ := lit_ne n1
 obtain ⟨a2, b2⟩ := lit_ne n2
 obtain ⟨a3, b3⟩ := lit_ne n3
 obtain ⟨a4, b4⟩ := lit_ne n4
 obtain ⟨a5, b5⟩ := lit_ne n5
 obtain ⟨a6, b6⟩ := lit_ne n6
 clear h ht hk n1 n2 n3 n4 n5 n6
 generalize str (tk l) = t at *
 go_enter Tryz.func105, Tryz.ntmps105
 go_wp2_with fail
 generalize hg2 : w.heap.size = g2 at *
 have HG2 := Lib.hid hg2
 generalize (w.alloc (Obj.cells zeroFE 57)).alloc (Obj.cells zeroFE 57) = w0 at *
 have HW0 : Hid (w.grownBy w0 (some g)) := grown_bel (by rw [hg2]; exact HB0.out)
 clear hg2 HB0
 refine (HK.out w0 HF0.out).mono ?_
 rintro e w2 ⟨rfl, m, rfl⟩
 have HX2 := Lib.hid (HX0.out.drewN m)
 have HY2 := Lib.hid (HY0.out.drewN m)
 have HF2 := Lib.hid (HF0.out.drewN m)
 have HW2 : Hid (w.grownBy (w0.drewN m) (some g)) := World.grownBy.trans HW0.out (grown_bel (below_drewN w0 m))
 clear HX0 HY0 HF0 HW0 HK
 go_upto_region 5 with fail
 generalize w0.drewN m = w6 at *
 have c0 : ∀ W, w6.grownBy W (some g) → W.cell? ⟨g2 + 1, 0, none⟩ = some (.int .i64 0) := fun W hW => (HY2.out.grown hW (by simp; omega)).cell 0
 have c1 : ∀ W, w6.grownBy W (some g) → W.cell? ⟨g2 + 1, 1, none⟩ = some (.int .i64 0) := fun W hW => (HY2.out.grown hW (by simp; omega)).cell 1
 have c2 : ∀ W, w6.grownBy W (some g) → W.cell? ⟨g2 + 1, 2, none⟩ = some (.int .i64 0) := fun W hW => (HY2.out.grown hW (by simp; omega)).cell 2
 have c3 : ∀ W, w6.grownBy W (some g) → W.cell? ⟨g2 + 1, 3, none⟩ = some (.string ⟨#[]⟩) := fun W hW => (HY2.out.grown hW (by simp; omega)).cell 3
 have c4 : ∀ W, w6.grownBy W (some g) → W.cell? ⟨g2 + 1, 4, none⟩ = some (.slice none 0 0) := fun W hW => (HY2.out.grown hW (by simp; omega)).cell 4
 refine flowG_begin_tail 3 2 (some g) (tellOf [(2, ⟨fun v => v = .bool false, fun v W => Fx W g S 4⟩)]) (by kernel_rfl) (by kernel_rfl) ?_
 simp only [List.take_succ_cons, List.take_zero, List.drop_succ_cons, List.drop_zero]
 repeat (first | (refine flowG_val (v := ?_) (by rfl) (by rfl) (fun w hb => ?_) ?_; rotate_left; (· ((go_simp) <;> ((repeat' apply And.intro) <;> with_reducible rfl))); try simp only [Act.put, List.setIfInBounds_toArray, List.set_cons_zero, List.set_cons_succ, Nat.reduceAdd]) | (refine flowG_skip (by rfl) (by rfl) ?_; try simp only [Act.put, List.setIfInBounds_toArray, List.set_cons_zero, List.set_cons_succ, Nat.reduceAdd]))
 refine flowG_call (f := ?_) (args := ?_) [] (by kernel_rfl) (by rfl) (by rfl) (by rfl) ?_ ?_ (fun w hb => ?_) (fun w hb hu => ?_) ?_; rotate_left 4; (· ((go_simp) <;> ((repeat' apply And.intro) <;> with_reducible rfl)))
 ·exact (HFl.out w (HF2.out.next hb)).mono fun e w' ⟨he, hx, hg⟩ => ⟨_, he, rfl, hx, hg⟩
 ·rintro v rfl
  try simp only [Act.put, List.setIfInBounds_toArray, List.set_cons_zero, List.set_cons_succ, Nat.reduceAdd]
  refine flowG_nil fun w7 hg7 hf => ?_
  have HX7 := HX2.out.grown hg7 (by simp; omega)
  have HXx7 := Lib.hid (show Fx w7 g S 4 from hf.1)
  have HW7 := Lib.hid (World.grownBy.trans HW2.out hg7)
  obtain ⟨r0, r1, r2, r3, r4⟩ := fecells HX7
  have rf : ∀ i, w7.frozen? ⟨g2, i, none⟩ = false := fun i => HX7.free i
  have rl : g2 < w7.heap.size := HX7.lt
  clear c0 c1 c2 c3 c4 HX7 HX2 HY2 HW2 HF2 HFl hg7 hf
  refine wpList_step fun K hK => ?_
  rw [if_pos (by rfl)]
  go_simp
  refine hK _ _ ?_
  clear hK K
  refine wpList_step fun K hK => ?_
  rw [if_pos (by rfl)]
  go_simp
  refine hK _ _ (wpList_nil ?_)
  clear hK K
  go_wp2_with fail
  refine bodyPost_ret (v := .tuple #[.agg #[.int .i64 0, .int .i64 0, .int .i64 0, .string ⟨#[]⟩, .slice none 0 0], .bool false]) (by simp [results, Tryz.results105, go_sem, r0, r1, r2, r3, r4]) rfl ?_
  exact fex_no (ks := []) (by decide) HG2.out hgl HXx7.out HW7.out
 ·exact ⟨_, rfl⟩
 ·exact fun v w w' hb ho => Fx.next ho hb
end Go.Proofs.YtabidjmmgnkhkaaGreatDoor
/- Contract of leaf of a feast's text: leaves. -/
namespace Go.Proofs.YtabidjmmgnkhkaaGreatDoor
open Go.RowKit Go.Maps Go.WideMaps
set_option linter.unusedVariables false
theorem leafK_cases {t : Tok} {k : Int} (h : leafK t = some k) : (t = [100, 97, 116, 101] ∧ k = 1) ∨ (t = [109, 111, 110, 116, 104] ∧ k = 2) ∨ (t = [119, 101, 101, 107, 100, 97, 121] ∧ k = 3) ∨ (t = [101, 118, 101, 114, 121] ∧ k = 4) ∨ (t = [100, 97, 121] ∧ k = 5) ∨ (t = [100, 97, 121, 115] ∧ k = 6) := by
 unfold leafK at h
 split at h
 ·injection h with h; exact .inl ⟨by assumption, h.symm⟩
 split at h
 ·injection h with h; exact .inr (.inl ⟨by assumption, h.symm⟩)
 split at h
 ·injection h with h; exact .inr (.inr (.inl ⟨by assumption, h.symm⟩))
 split at h
 ·injection h with h; exact .inr (.inr (.inr (.inl ⟨by assumption, h.symm⟩)))
 split at h
 ·injection h with h; exact .inr (.inr (.inr (.inr (.inl ⟨by assumption, h.symm⟩))))
 split at h
 ·injection h with h; exact .inr (.inr (.inr (.inr (.inr ⟨by assumption, h.symm⟩))))
 ·cases h
theorem Fd.len {w : World} {g : Nat} {S : ByteArray} {l : List UInt8} {op : Int} (h : Fd w g S l op) : l.length ≤ S.size := by
 obtain ⟨a, _, e, _⟩ := h
 have hl : S.data.toList.length = S.size := Array.length_toList
 have := congrArg List.length e
 rw [List.length_drop] at this
 omega
theorem wordR_s {l s l' : List UInt8} (h : wordR l = .yes s l') : s.length ≤ l.length := by
 unfold wordR at h
 split at h
 ·injection h with h _
  have := congrArg List.length (tk_pre l)
  rw [List.length_append] at this
  rw [← h]; omega
 ·cases h
def leafR (k : Int) (l : List UInt8) : Fr := match nameR (usN k) l with
 | .no c => .no c
 | .yes s l1 => match numR l1 with
  | .no c => .no c
  | .yes a l2 => match secR (usB k) l2 with
   | .no c => .no c
   | .yes b l3 => .yes (.node k a b (str s) none 0 []) l3
def Puts (w w' : World) (b : Nat) (s : ByteArray) (k : Int) : Prop := (Instr.mapUpdate 197 (.map (some b)) (.string s) (.int .i64 k)).run Tryz.prog w = .ok () w'
theorem put_one {w : World} {b n : Nat} {D : DataW Unit} (h : w.ownsMap Tryz.prog 9 (plainElem Tryz.prog 3) b n D) (hn : n < 100) (s : ByteArray) (k : Int) (hs : s.size ≤ 100) (hk : (Lit.int .i64 k).wf = true) :
  ∃ w', Puts w w' b s k ∧ w'.ownsMap Tryz.prog 9 (plainElem Tryz.prog 3) b (n + 1) (D.put (.string s.data.toList) (.lit (.int .i64 k))) ∧ w.grownBy w' (some b) :=
 h.update (string_keyed Tryz.underlying9) Tryz.underlying197 (by unfold maxLen; omega) (keyOf_string_mk Tryz.underlying9 (by unfold maxLen; omega)) (plainElem_int Tryz.underlying3 hk)
set_option maxRecDepth 100000 in
theorem map_look (w : World) : ∃ w1 w2 w3 w4 w5 w6 : World, Puts (w.alloc (Obj.map #[] 0)) w1 w.heap.size ⟨#[100, 97, 116, 101]⟩ 1 ∧ Puts w1 w2 w.heap.size ⟨#[109, 111, 110, 116, 104]⟩ 2 ∧ Puts w2 w3 w.heap.size ⟨#[119, 101, 101, 107, 100, 97, 121]⟩ 3 ∧ Puts w3 w4 w.heap.size ⟨#[101, 118, 101, 114, 121]⟩ 4 ∧ Puts w4 w5 w.heap.size ⟨#[100, 97, 121]⟩ 5 ∧ Puts w5 w6 w.heap.size ⟨#[100, 97, 121, 115]⟩ 6 ∧
  (∀ t k, leafK t = some k → (Instr.lookup 197 (.map (some w.heap.size)) (.string (str t)) false).run Tryz.prog w6 = .ok (.int .i64 k) w6) ∧ Below w.heap.size w w6 := by
 have h0 : (w.alloc (Obj.map #[] 0)).ownsMap Tryz.prog 9 (plainElem Tryz.prog 3) w.heap.size 0 (.map [] : DataW Unit) := World.ownsMap_made w Tryz.prog 9 _
 obtain ⟨w1, p1, h1, g1⟩ := put_one h0 (by omega) ⟨#[100, 97, 116, 101]⟩ 1 (by decide) (by decide)
 obtain ⟨w2, p2, h2, g2⟩ := put_one h1 (by omega) ⟨#[109, 111, 110, 116, 104]⟩ 2 (by decide) (by decide)
 obtain ⟨w3, p3, h3, g3⟩ := put_one h2 (by omega) ⟨#[119, 101, 101, 107, 100, 97, 121]⟩ 3 (by decide) (by decide)
 obtain ⟨w4, p4, h4, g4⟩ := put_one h3 (by omega) ⟨#[101, 118, 101, 114, 121]⟩ 4 (by decide) (by decide)
 obtain ⟨w5, p5, h5, g5⟩ := put_one h4 (by omega) ⟨#[100, 97, 121]⟩ 5 (by decide) (by decide)
 obtain ⟨w6, p6, h6, g6⟩ := put_one h5 (by omega) ⟨#[100, 97, 121, 115]⟩ 6 (by decide) (by decide)
 refine ⟨w1, w2, w3, w4, w5, w6, p1, p2, p3, p4, p5, p6, fun t k hk => ?_, ?_⟩
 ·have hz : (zeroValue 3).run Tryz.prog w6 = .ok (.int .i64 0) w6 := by kernel_rfl
  have hkey : keyOf Tryz.prog 9 (.string (str t)) = some (.string (str t).data.toList) := keyOf_string_mk Tryz.underlying9 (by
   rw [str_size]; rcases leafK_cases hk with ⟨rfl, _⟩ | ⟨rfl, _⟩ | ⟨rfl, _⟩ | ⟨rfl, _⟩ | ⟨rfl, _⟩ | ⟨rfl, _⟩ <;> decide)
  obtain ⟨c, hrun, hat, _⟩ := h6.lookup_int (string_keyed Tryz.underlying9) Tryz.underlying197 Tryz.underlying3 hz hkey
  rw [hrun]
  rw [str_data] at hat
  have e : c = k := by
   rcases leafK_cases hk with ⟨rfl, rfl⟩ | ⟨rfl, rfl⟩ | ⟨rfl, rfl⟩ | ⟨rfl, rfl⟩ | ⟨rfl, rfl⟩ | ⟨rfl, rfl⟩
   all_goals
    have e2 := hat.symm.trans (b := _) (c := DataW.lit (.int .i64 _)) (by rfl)
    injection e2 with e2
    injection e2
  rw [e]
 ·have g := ((((g1.trans g2).trans g3).trans g4).trans g5).trans g6
  refine ⟨g.os, g.tape, g.output, ?_, fun b hb => ?_⟩
  ·have := g.size
   rw [World.size_alloc] at this
   omega
  ·rw [g.block b (by rw [World.size_alloc]; omega) (fun e => by injection e with e; omega)]
   exact (below_alloc1 w (Obj.map #[] 0)).block b hb
set_option maxHeartbeats 4000000 in
set_option maxRecDepth 100000 in
theorem leaf_some (g : Nat) (S : ByteArray) (op : Int) (l : List UInt8) (k : Int) (w : World) (hS : S.size ≤ 5000) (h : Fd w g S l op) (hk : leafK (tk l) = some k) :
  Calls Tryz.prog 105 #[.pointer (some ⟨g, 0, none⟩)] w (FExQ g S op (leafR k (nx l)) w) := by
 have HB0 := Lib.hid (below_alloc2 w (Obj.cells zeroFE 57) (Obj.cells zeroFE 57))
 have HX0 := Lib.hid ((Box.new w 57 zeroFE).alloc (Obj.cells zeroFE 57))
 have HY0 : Hid (Box ((w.alloc (Obj.cells zeroFE 57)).alloc (Obj.cells zeroFE 57)) (w.heap.size + 1) 57 zeroFE) := heap_alloc2_new _ _ _
 have HK := Lib.hid (fun W (hr : Fd W g S l op) => ftok_at g S l op W hr hS)
 have HSC := Lib.hid (fun W (hr : Fd W g S l op) => fscan_at g S l op W hr hS)
 have hgl := h.lt
 have HF0 := Lib.hid (h.next HB0.out)
 generalize hT : str (tk l) = T at *
 have HKC : Hid ((T = ⟨#[100, 97, 116, 101]⟩ ∧ leafK [100, 97, 116, 101] = some k) ∨ (T = ⟨#[109, 111, 110, 116, 104]⟩ ∧ leafK [109, 111, 110, 116, 104] = some k) ∨ (T = ⟨#[119, 101, 101, 107, 100, 97, 121]⟩ ∧ leafK [119, 101, 101, 107, 100, 97, 121] = some k) ∨ (T = ⟨#[101, 118, 101, 114, 121]⟩ ∧ leafK [101, 118, 101, 114, 121] = some k) ∨ (T = ⟨#[100, 97, 121]⟩ ∧ leafK [100, 97, 121] = some k) ∨ (T = ⟨#[100, 97, 121, 115]⟩ ∧ leafK [100, 97, 121, 115] = some k)) := by
  unfold Hid
  have hk2 := hk
  rcases leafK_cases hk with ⟨h, _⟩ | ⟨h, _⟩ | ⟨h, _⟩ | ⟨h, _⟩ | ⟨h, _⟩ | ⟨h, _⟩
  all_goals
   rw [h] at hT hk2
   unfold str at hT
   first
    | exact .inl ⟨hT.symm, hk2⟩
    | exact .inr (.inl ⟨hT.symm, hk2⟩)
    | exact .inr (.inr (.inl ⟨hT.symm, hk2⟩))
    | exact .inr (.inr (.inr (.inl ⟨hT.symm, hk2⟩)))
    | exact .inr (.inr (.inr (.inr (.inl ⟨hT.symm, hk2⟩))))
    | exact .inr (.inr (.inr (.inr (.inr ⟨hT.symm, hk2⟩))))
 clear hT
 have HK2 := Lib.hid hk
 clear h hk
 obtain ⟨N, hN⟩ : ∃ N, N = usN k := ⟨_, rfl⟩
 obtain ⟨B, hB⟩ : ∃ B, B = usB k := ⟨_, rfl⟩
 have HRe : Hid (leafR k (nx l) = match nameR N (nx l) with | .no c => .no c | .yes s l1 => match numR l1 with | .no c => .no c | .yes a l2 => match secR B l2 with | .no c => .no c | .yes b l3 => .yes (.node k a b (str s) none 0 []) l3) := by unfold Hid; rw [hN, hB]; rfl
 have HFi := Lib.hid (fun W => fields_any k W)
 rw [← hN, ← hB] at HFi
 clear hN hB
 have HK6 : Hid (1 ≤ k ∧ k ≤ 6) := by unfold Hid; rcases leafK_cases HK2.out with ⟨_, h⟩ | ⟨_, h⟩ | ⟨_, h⟩ | ⟨_, h⟩ | ⟨_, h⟩ | ⟨_, h⟩ <;> omega
 generalize leafR k (nx l) = R at *
 generalize usA k = UA at *
 go_enter Tryz.func105, Tryz.ntmps105
 go_wp2_with fail
 generalize hg2 : w.heap.size = g2 at *
 have HG2 := Lib.hid hg2
 generalize (w.alloc (Obj.cells zeroFE 57)).alloc (Obj.cells zeroFE 57) = w0 at *
 have HW0 : Hid (w.grownBy w0 (some g)) := grown_bel (by rw [hg2]; exact HB0.out)
 clear hg2 HB0
 refine (HK.out w0 HF0.out).mono ?_
 rintro e w2 ⟨rfl, m, rfl⟩
 have HX2 := Lib.hid (HX0.out.drewN m)
 have HY2 := Lib.hid (HY0.out.drewN m)
 have HF2 := Lib.hid (HF0.out.drewN m)
 have HW2 : Hid (w.grownBy (w0.drewN m) (some g)) := World.grownBy.trans HW0.out (grown_bel (below_drewN w0 m))
 clear HX0 HY0 HF0 HW0 HK
 generalize w0.drewN m = w6 at *
 have hxl := HX2.out.lt
 have hyl := HY2.out.lt
 have HS2 := Lib.hid (HSC.out w6 HF2.out)
 clear HSC
 go_upto_block 0 with fail
 go_cut [5, 58] (fun s5 s58 wx => s5 = .bool true ∧ s58 = .bool true ∧ Hid (Box wx g2 57 zeroFE) ∧ Hid (Box wx (g2 + 1) 57 #[.int .i64 k, .int .i64 0, .int .i64 0, .string ⟨#[]⟩, .slice none 0 0]) ∧ Hid (Fd wx g S (nx l) op) ∧ Hid (w.grownBy wx (some g)))
 case first =>
  rcases HKC.out with ⟨rfl, hkk⟩ | ⟨rfl, hkk⟩ | ⟨rfl, hkk⟩ | ⟨rfl, hkk⟩ | ⟨rfl, hkk⟩ | ⟨rfl, hkk⟩
  all_goals
   have HKK := Lib.hid hkk
   clear hkk HKC
   go_wp2_with fail
   refine HS2.out.mono ?_
   rintro e w7 ⟨rfl, hf, hg⟩
   obtain ⟨m1, m2, m3, m4, m5, m6, p1, p2, p3, p4, p5, p6, hlk, hbm⟩ := map_look w7
   unfold Puts at p1 p2 p3 p4 p5 p6
   have hx7 := (HX2.out.grown hg (by simp; omega))
   have hy7 := (HY2.out.grown hg (by simp; omega)).below hbm
   have HX7 := Lib.hid ((hx7.below hbm).far (p := ⟨g2 + 1, 0, none⟩) (by show g2 ≠ g2 + 1; omega) (.int .i64 k))
   have HY7 := Lib.hid (hy7.set_ 0 (.int .i64 k))
   have HF7 := Lib.hid ((hf.next hbm).set_ (g2 + 1) 0 (.int .i64 k) (by omega))
   have HW7 := Lib.hid (grown_setnew' (World.grownBy.trans (World.grownBy.trans HW2.out hg) (grown_bel hbm)) (g2 + 1) 0 (.int .i64 k) (by rw [HG2.out]; omega))
   have y0 := hy7.cell 0
   have yf := hy7.free 0
   have yl := hy7.lt
   have hlk1 := hlk _ _ HKK.out
   unfold str at hlk1
   clear hlk HKK HX2 HY2 HF2 HW2 HS2 hf hg hx7 hy7 hbm
   have hmm := @run_makeMap Tryz.prog
   go_wp2_with fail
   go_meet
   exact ⟨rfl, rfl, HX7, HY7, HF7, HW7⟩
 case rest =>
 clear HX2 HY2 HF2 HW2 HS2 HKC HK2 hxl hyl
 obtain ⟨rfl, rfl, HX7, HY7, HF7, HW7⟩ := hcut
 obtain ⟨y0, y1, y2, y3, y4⟩ := fecells HY7.out
 have yf : ∀ i, wc.frozen? ⟨g2 + 1, i, none⟩ = false := fun i => HY7.out.free i
 have yl := HY7.out.lt
 go_upto_if 79 with fail
 refine (HFi.out wc).mono ?_
 rintro e w8 ⟨rfl, hw⟩
 subst hw
 go_upto_if 79 with fail
 go_cut [5] (fun s5 wx => (∃ (s : List UInt8) (l1 : List UInt8), s5 = .bool true ∧ Hid (nameR N (nx l) = .yes s l1) ∧ s.length ≤ 5000 ∧ Hid (Box wx g2 57 zeroFE) ∧ Hid (Box wx (g2 + 1) 57 #[.int .i64 k, .int .i64 0, .int .i64 0, .string (str s), .slice none 0 0]) ∧ Hid (Fd wx g S l1 op) ∧ Hid (w.grownBy wx (some g))) ∨ (∃ c : Int, s5 = .bool false ∧ Hid (nameR N (nx l) = .no c) ∧ Hid (c ≠ 0) ∧ Hid (Box wx g2 57 zeroFE) ∧ Hid (Box wx (g2 + 1) 57 #[.int .i64 k, .int .i64 0, .int .i64 0, .string ⟨#[]⟩, .slice none 0 0]) ∧ Hid (Fx wx g S c) ∧ Hid (w.grownBy wx (some g))))
 case first =>
  cases N with
  | false =>
   go_wp2_with fail
   go_meet
   exact .inl ⟨[], nx l, rfl, rfl, Nat.zero_le _, HX7, HY7, HF7, HW7⟩
  | true =>
   have HWd := Lib.hid (fword_any g S (nx l) op (g2 + 1) 3 ⟨#[]⟩ wc HF7.out hS y3 (yf 3) (by omega))
   have hlen := HF7.out.len
   cases hw : wordR (nx l) with
   | no c =>
    have HWr := Lib.hid hw
    rw [hw] at HWd
    clear hw
    go_wp2_with fail
    refine HWd.out.mono ?_
    rintro e w9 ⟨rfl, hc0, hx, hg⟩
    have HX9 := Lib.hid (HX7.out.grown hg (by simp; omega))
    have HY9 := Lib.hid (HY7.out.grown hg (by simp; omega))
    have HW9 := Lib.hid (World.grownBy.trans HW7.out hg)
    have HXx := Lib.hid hx
    have HC0 := Lib.hid hc0
    clear hx hg hc0 HX7 HY7 HW7 HF7 HWd y0 y1 y2 y3 y4 yf yl
    go_wp2_with fail
    go_meet
    exact .inr ⟨c, rfl, HWr, HC0, HX9, HY9, HXx, HW9⟩
   | yes s l1 =>
    have HWr := Lib.hid hw
    have hsl := wordR_s hw
    rw [hw] at HWd
    clear hw
    go_wp2_with fail
    refine HWd.out.mono ?_
    rintro e w9 ⟨rfl, hf, hg⟩
    have HX9 := Lib.hid ((HX7.out.far (p := ⟨g2 + 1, 3, none⟩) (by show g2 ≠ g2 + 1; omega) (.string (str s))).grown hg (by simp; omega))
    have HY9 := Lib.hid ((HY7.out.set_ 3 (.string (str s))).grown hg (by simp; omega))
    have HW9 := Lib.hid (World.grownBy.trans (grown_setnew' HW7.out (g2 + 1) 3 (.string (str s)) (by rw [HG2.out]; omega)) hg)
    have HF9 := Lib.hid hf
    clear hf hg HX7 HY7 HW7 HF7 HWd y0 y1 y2 y3 y4 yf yl
    go_wp2_with fail
    go_meet
    exact .inl ⟨s, l1, rfl, HWr, by omega, HX9, HY9, HF9, HW9⟩
 case rest =>
 clear HX7 HY7 HF7 HW7 y0 y1 y2 y3 y4 yf yl HFi
 rename World => wB
 rcases hcut with ⟨s, l1, rfl, HNm, hsl, HX7, HY7, HF7, HW7⟩ | ⟨c, rfl, HNm, HC0, HX7, HY7, HXx, HW7⟩
 ·obtain ⟨y0, y1, y2, y3, y4⟩ := fecells HY7.out
  have yf : ∀ i, wB.frozen? ⟨g2 + 1, i, none⟩ = false := fun i => HY7.out.free i
  have yl := HY7.out.lt
  have HNa := Lib.hid (fnumber_any g S l1 op (g2 + 1) 1 0 wB HF7.out hS y1 (yf 1) (by omega))
  cases hn : numR l1 with
  | no c =>
   have HRf : Hid (R = .no c) := by unfold Hid; rw [HRe.out, HNm.out]; show (match numR l1 with | .no c => Fr.no c | .yes a l2 => _) = _; rw [hn]
   rw [hn] at HNa
   clear hn
   go_upto_region 28 with fail
   refine HNa.out.mono ?_
   rintro e w9 ⟨rfl, hc0, hx, hg⟩
   have HX9 := Lib.hid (HX7.out.grown hg (by simp; omega))
   have HY9 := Lib.hid (HY7.out.grown hg (by simp; omega))
   have HW9 := Lib.hid (World.grownBy.trans HW7.out hg)
   have HXx := Lib.hid hx
   have HC0 := Lib.hid hc0
   clear hx hg hc0 HX7 HY7 HW7 HF7 HNa y0 y1 y2 y3 y4 yf yl
   obtain ⟨y0, y1, y2, y3, y4⟩ := fecells HY9.out
   obtain ⟨r0, r1, r2, r3, r4⟩ := fecells HX9.out
   have rf : ∀ i, w9.frozen? ⟨g2, i, none⟩ = false := fun i => (HX9.out).free i
   have rl : g2 < w9.heap.size := (HX9.out).lt
   have yl : g2 + 1 < w9.heap.size := (HY9.out).lt
   go_wp2_with fail
   refine bodyPost_ret (v := .tuple #[.agg #[.int .i64 k, .int .i64 0, .int .i64 0, .string (str s), .slice none 0 0], .bool false]) (by simp [results, Tryz.results105, go_sem, r0, r1, r2, r3, r4]) rfl ?_
   rw [HRf.out]; exact fex_no (ks := []) HC0.out HG2.out hgl HXx.out HW9.out
  | yes a l2 =>
   have hab := numR_bound hn
   have HN1 := Lib.hid hn
   rw [hn] at HNa
   clear hn
   go_upto_region 28 with fail
   refine HNa.out.mono ?_
   rintro e w9 ⟨rfl, hf, hg⟩
   have HX9 := Lib.hid ((HX7.out.far (p := ⟨g2 + 1, 1, none⟩) (by show g2 ≠ g2 + 1; omega) (.int .i64 a)).grown hg (by simp; omega))
   have HY9 : Hid (Box w9 (g2 + 1) 57 #[.int .i64 k, .int .i64 a, .int .i64 0, .string (str s), .slice none 0 0]) := (HY7.out.set_ 1 (.int .i64 a)).grown hg (by simp; omega)
   have HW9 := Lib.hid (World.grownBy.trans (grown_setnew' HW7.out (g2 + 1) 1 (.int .i64 a) (by rw [HG2.out]; omega)) hg)
   have HF9 := Lib.hid hf
   clear hf hg HX7 HY7 HW7 HF7 HNa y0 y1 y2 y3 y4 yf yl
   cases B with
   | false =>
    have HRf : Hid (R = .yes (.node k a 0 (str s) none 0 []) l2) := by unfold Hid; rw [HRe.out, HNm.out]; show (match numR l1 with | .no c => Fr.no c | .yes a l2 => _) = _; rw [HN1.out]; rfl
    obtain ⟨y0, y1, y2, y3, y4⟩ := fecells HY9.out
    obtain ⟨r0, r1, r2, r3, r4⟩ := fecells HX9.out
    have rf : ∀ i, w9.frozen? ⟨g2, i, none⟩ = false := fun i => (HX9.out).free i
    have rl : g2 < w9.heap.size := (HX9.out).lt
    have yl : g2 + 1 < w9.heap.size := (HY9.out).lt
    go_wp2_with fail
    refine bodyPost_ret (v := .tuple #[.agg #[.int .i64 k, .int .i64 a, .int .i64 0, .string (str s), .slice none 0 0], .bool true]) (by simp [results, Tryz.results105, go_sem, r0, r1, r2, r3, r4]) rfl ?_
    rw [HRf.out]
    exact fex_yes (ks := []) HG2.out hgl HF9.out HW9.out (by rw [shp_node]; rfl) (FeAt.leaf _ _ _ k a 0 (str s) 0 (by have := HK6.out; unfold I64; omega) (by unfold I64; omega) (by unfold I64; omega) (by rw [str_size]; unfold maxLen; omega))
   | true =>
    obtain ⟨y0, y1, y2, y3, y4⟩ := fecells HY9.out
    have yf : ∀ i, w9.frozen? ⟨g2 + 1, i, none⟩ = false := fun i => HY9.out.free i
    have yl := HY9.out.lt
    have HNb := Lib.hid (fnumber_any g S l2 op (g2 + 1) 2 0 w9 HF9.out hS y2 (yf 2) (by omega))
    cases hn : numR l2 with
    | no c =>
     have HRf : Hid (R = .no c) := by unfold Hid; rw [HRe.out, HNm.out]; show (match numR l1 with | .no c => Fr.no c | .yes a l2 => _) = _; rw [HN1.out]; show (match numR l2 with | .no c => Fr.no c | .yes a l2 => _) = _; rw [hn]
     rw [hn] at HNb
     clear hn
     go_upto_region 28 with fail
     refine HNb.out.mono ?_
     rintro e w10 ⟨rfl, hc0, hx, hg⟩
     have HX10 := Lib.hid (HX9.out.grown hg (by simp; omega))
     have HY10 := Lib.hid (HY9.out.grown hg (by simp; omega))
     have HW10 := Lib.hid (World.grownBy.trans HW9.out hg)
     have HXx := Lib.hid hx
     have HC0 := Lib.hid hc0
     clear hx hg hc0 HX9 HY9 HW9 HF9 HNb y0 y1 y2 y3 y4 yf yl
     obtain ⟨y0, y1, y2, y3, y4⟩ := fecells HY10.out
     obtain ⟨r0, r1, r2, r3, r4⟩ := fecells HX10.out
     have rf : ∀ i, w10.frozen? ⟨g2, i, none⟩ = false := fun i => (HX10.out).free i
     have rl : g2 < w10.heap.size := (HX10.out).lt
     have yl : g2 + 1 < w10.heap.size := (HY10.out).lt
     go_wp2_with fail
     refine bodyPost_ret (v := .tuple #[.agg #[.int .i64 k, .int .i64 a, .int .i64 0, .string (str s), .slice none 0 0], .bool false]) (by simp [results, Tryz.results105, go_sem, r0, r1, r2, r3, r4]) rfl ?_
     rw [HRf.out]; exact fex_no (ks := []) HC0.out HG2.out hgl HXx.out HW10.out
    | yes b l3 =>
     have hbb := numR_bound hn
     have HRf : Hid (R = .yes (.node k a b (str s) none 0 []) l3) := by unfold Hid; rw [HRe.out, HNm.out]; show (match numR l1 with | .no c => Fr.no c | .yes a l2 => _) = _; rw [HN1.out]; show (match numR l2 with | .no c => Fr.no c | .yes a l2 => _) = _; rw [hn]
     rw [hn] at HNb
     clear hn
     go_upto_region 28 with fail
     refine HNb.out.mono ?_
     rintro e w10 ⟨rfl, hf, hg⟩
     have HX10 := Lib.hid ((HX9.out.far (p := ⟨g2 + 1, 2, none⟩) (by show g2 ≠ g2 + 1; omega) (.int .i64 b)).grown hg (by simp; omega))
     have HY10 : Hid (Box w10 (g2 + 1) 57 #[.int .i64 k, .int .i64 a, .int .i64 b, .string (str s), .slice none 0 0]) := (HY9.out.set_ 2 (.int .i64 b)).grown hg (by simp; omega)
     have HW10 := Lib.hid (World.grownBy.trans (grown_setnew' HW9.out (g2 + 1) 2 (.int .i64 b) (by rw [HG2.out]; omega)) hg)
     have HF10 := Lib.hid hf
     clear hf hg HX9 HY9 HW9 HF9 HNb y0 y1 y2 y3 y4 yf yl
     obtain ⟨y0, y1, y2, y3, y4⟩ := fecells HY10.out
     obtain ⟨r0, r1, r2, r3, r4⟩ := fecells HX10.out
     have rf : ∀ i, w10.frozen? ⟨g2, i, none⟩ = false := fun i => (HX10.out).free i
     have rl : g2 < w10.heap.size := (HX10.out).lt
     have yl : g2 + 1 < w10.heap.size := (HY10.out).lt
     go_wp2_with fail
     refine bodyPost_ret (v := .tuple #[.agg #[.int .i64 k, .int .i64 a, .int .i64 b, .string (str s), .slice none 0 0], .bool true]) (by simp [results, Tryz.results105, go_sem, r0, r1, r2, r3, r4]) rfl ?_
     rw [HRf.out]
     exact fex_yes (ks := []) HG2.out hgl HF10.out HW10.out (by rw [shp_node]; rfl) (FeAt.leaf _ _ _ k a b (str s) 0 (by have := HK6.out; unfold I64; omega) (by unfold I64; omega) (by unfold I64; omega) (by rw [str_size]; unfold maxLen; omega))
 ·have HRf : Hid (R = .no c) := by unfold Hid; rw [HRe.out, HNm.out]
  obtain ⟨y0, y1, y2, y3, y4⟩ := fecells HY7.out
  obtain ⟨r0, r1, r2, r3, r4⟩ := fecells HX7.out
  have rf : ∀ i, wB.frozen? ⟨g2, i, none⟩ = false := fun i => (HX7.out).free i
  have rl : g2 < wB.heap.size := (HX7.out).lt
  have yl : g2 + 1 < wB.heap.size := (HY7.out).lt
  go_wp2_with fail
  refine bodyPost_ret (v := .tuple #[.agg #[.int .i64 k, .int .i64 0, .int .i64 0, .string ⟨#[]⟩, .slice none 0 0], .bool false]) (by simp [results, Tryz.results105, go_sem, r0, r1, r2, r3, r4]) rfl ?_
  rw [HRf.out]; exact fex_no (ks := []) HC0.out HG2.out hgl HXx.out HW7.out
end Go.Proofs.YtabidjmmgnkhkaaGreatDoor
