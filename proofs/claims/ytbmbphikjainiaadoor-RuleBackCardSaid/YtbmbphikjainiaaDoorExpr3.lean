/- Contracts of package rule: expr at 'not' and at a sign. -/
import Derived.Test.YtbmbphikjainiaaDoorExpr2
import Derived.Deep.DeepCutAuto
namespace Go.Proofs.YtbmbphikjainiaaDoor
open Go.RowKit
set_option linter.unusedVariables false

/-- a node over one operand is made -/
theorem expr_done1 {g : Nat} {S : ByteArray} {op : Int} {a x : RE} {ts : List Tok} {w W5 : World} {g4 : Nat} {k : Int} {A0 : Option Addr} {c0 : Nat} (hg4 : w.heap.size = g4) (hgg : g < g4) (hgs : g4 < W5.heap.size) (hr : Reads W5 g S op ts) (hg : w.grownBy W5 (some g)) (hs : Same x a)
    (ha : ReAt W5 (fun b => g4 < b) W5.heap.size x) (hk : I64 k) : ExprQ g S op (.node k 0 A0 c0 [a]) ts w (.returned (.tuple #[.agg #[.int .i64 k, .int .i64 0, .slice (some ⟨W5.heap.size, 0, none⟩) 1 1], .bool true])) ((set3 W5 g4 k 0 (.slice (some ⟨W5.heap.size, 0, none⟩) 1 1)).alloc (.cells (reC x) 24)) := by
  have hsz : (set3 W5 g4 k 0 (.slice (some ⟨W5.heap.size, 0, none⟩) 1 1)).heap.size = W5.heap.size := by simp [set3]
  have h1 := ha.set_ g4 0 (.int .i64 k) (by omega)
  have h2 := h1.set_ g4 1 (.int .i64 0) (by omega)
  have h3 := h2.set_ g4 2 (.slice (some ⟨W5.heap.size, 0, none⟩) 1 1) (by omega)
  have hb := below_alloc1 (set3 W5 g4 k 0 (.slice (some ⟨W5.heap.size, 0, none⟩) 1 1)) (Obj.cells (reC x) 24)
  have hbx := Box.new (set3 W5 g4 k 0 (.slice (some ⟨W5.heap.size, 0, none⟩) 1 1)) 24 (reC x)
  rw [hsz] at hbx
  refine ⟨.node k 0 (some ⟨W5.heap.size, 0, none⟩) 1 [x], same_node _ _ _ _ _ _ _ _ (by simp only [List.map_cons, List.map_nil]; rw [show strip x = strip a from hs]), rfl, ?_, ?_, ?_⟩
  · exact ((h3.next hb).one hbx (show g4 < W5.heap.size from hgs) hk (by unfold I64; omega)).more fun b hb' _ => by omega
  · exact (reads_set (reads_set (reads_set hr g4 0 _ (by omega)) g4 1 _ (by omega)) g4 2 _ (by omega)).next hb
  · exact World.grownBy.trans (grown_setnew (grown_setnew (grown_setnew hg g4 0 _ (by omega)) g4 1 _ (by omega)) g4 2 _ (by omega)) (grown_bel hb)

set_option maxHeartbeats 4000000 in
set_option maxRecDepth 100000 in
theorem expr_not (g : Nat) (S : ByteArray) (op : Int) (a : RE) (A0 : Option Addr) (c0 : Nat) (ts : List Tok) (w : World) (hS : S.size ≤ 5000) (h : RdOk w g S op ([110, 111, 116] :: (prT 2 a ++ ts)))
    (hI : ∀ W, RdOk W g S op (prT 2 a ++ ts) → Calls Tryd.prog 33 #[.pointer (some ⟨g, 0, none⟩), .int .i64 2] W (ExprQ g S op a ts W)) :
    Calls Tryd.prog 33 #[.pointer (some ⟨g, 0, none⟩), .int .i64 2] w (ExprQ g S op (.node 11 0 A0 c0 [a]) ts w) := by
  have HB0 := Lib.hid (below_alloc1 w (Obj.cells zeroRE 24))
  have HX0 := Lib.hid (Box.new w 24 zeroRE)
  have HT := Lib.hid (take_yes g S op [110, 111, 116] (prT 2 a ++ ts) _ (h.next HB0.out).rd hS)
  have HE := Lib.hid hI
  have hgl := h.rd.lt
  have HOK := Lib.hid h
  unfold TakeQ at HT
  clear h hI
  go_enter Tryd.func33, Tryd.ntmps33
  go_wp2_with fail
  refine HT.out.mono ?_
  rintro e w1 ⟨rfl, hr, hg⟩
  generalize hg4 : w.heap.size = g4 at *
  have HG4 := Lib.hid hg4
  clear hg4
  have HX1 := Lib.hid (HX0.out.grown hg (by simp; omega))
  have HG1 : Hid (w.grownBy w1 (some g)) := World.grownBy.trans (grown_bel (by rw [HG4.out]; exact HB0.out)) hg
  have HE1 := Lib.hid (HE.out w1 (HOK.out.go HG1.out hr))
  have hs1 : g4 < w1.heap.size := HX1.out.lt
  clear hr hg HX0 HB0 HT HE
  go_wp2_with fail
  refine HE1.out.mono ?_
  rintro e w4 ⟨t', hs, rfl, ha, hr, hg⟩
  cases t' with
  | node k n A c ks =>
  rw [show reV (.node k n A c ks) = .agg #[.int .i64 k, .int .i64 n, .slice A ks.length c] from rfl]
  have HSM := Lib.hid hs
  have HX4 := Lib.hid (HX1.out.grown hg (by simp; omega))
  have HR4 := Lib.hid hr
  have HG4b : Hid (w.grownBy w4 (some g)) := World.grownBy.trans HG1.out hg
  have hsz : g4 < w4.heap.size := HX4.out.lt
  have HA4 := Lib.hid (ha.more (p' := fun b => g4 < b) fun b hb hB => by omega)
  clear hs ha hr hg HX1 HE1
  go_upto_region 6 with fail
  have HB5 := Lib.hid (below_alloc1 w4 (Obj.cells #[.int .i64 k, .int .i64 n, .slice A ks.length c] 24))
  have hx5 := HX4.out.alloc (Obj.cells #[.int .i64 k, .int .i64 n, .slice A ks.length c] 24)
  have hy5 := Box.new w4 24 #[.int .i64 k, .int .i64 n, .slice A ks.length c]
  have HR5 := Lib.hid (HR4.out.next HB5.out)
  have HG5 : Hid (w.grownBy (w4.alloc (Obj.cells #[.int .i64 k, .int .i64 n, .slice A ks.length c] 24)) (some g)) := World.grownBy.trans HG4b.out (grown_bel HB5.out)
  have HA5 := Lib.hid (HA4.out.next HB5.out)
  clear HX4 HR4 HG4b HA4 HB5
  generalize w4.alloc (Obj.cells #[.int .i64 k, .int .i64 n, .slice A ks.length c] 24) = W5 at *
  generalize w4.heap.size = g6 at *
  have y0 : W5.cell? ⟨g6, 0, none⟩ = some (.int .i64 k) := hy5.cell 0
  have y1 : W5.cell? ⟨g6, 1, none⟩ = some (.int .i64 n) := hy5.cell 1
  have y2 : W5.cell? ⟨g6, 2, none⟩ = some (.slice A ks.length c) := hy5.cell 2
  have yl : g6 < W5.heap.size := hy5.lt
  have r0 : W5.cell? ⟨g4, 0, none⟩ = some (.int .i64 0) := hx5.cell 0
  have r1 : W5.cell? ⟨g4, 1, none⟩ = some (.int .i64 0) := hx5.cell 1
  have r2 : W5.cell? ⟨g4, 2, none⟩ = some (.slice none 0 0) := hx5.cell 2
  have rf : ∀ i, W5.frozen? ⟨g4, i, none⟩ = false := fun i => hx5.free i
  have rl : g4 < W5.heap.size := hx5.lt
  clear hx5 hy5
  go_wp2_with fail
  refine bodyPost_ret (v := .tuple #[.agg #[.int .i64 11, .int .i64 0, .slice (some ⟨W5.heap.size, 0, none⟩) 1 1], .bool true]) (by simp [results, Tryd.results33, go_sem, r0, r1, r2, rl]) rfl ?_
  exact expr_done1 HG4.out hgl rl HR5.out HG5.out HSM.out HA5.out (by unfold I64; omega)

set_option maxHeartbeats 4000000 in
set_option maxRecDepth 100000 in
theorem expr_neg (g : Nat) (S : ByteArray) (op : Int) (a : RE) (A0 : Option Addr) (c0 : Nat) (ts : List Tok) (w : World) (hS : S.size ≤ 5000) (h : RdOk w g S op ([45] :: (prT 6 a ++ ts)))
    (hI : ∀ W, RdOk W g S op (prT 6 a ++ ts) → Calls Tryd.prog 33 #[.pointer (some ⟨g, 0, none⟩), .int .i64 6] W (ExprQ g S op a ts W)) :
    Calls Tryd.prog 33 #[.pointer (some ⟨g, 0, none⟩), .int .i64 6] w (ExprQ g S op (.node 3 0 A0 c0 [a]) ts w) := by
  have HB0 := Lib.hid (below_alloc1 w (Obj.cells zeroRE 24))
  have HX0 := Lib.hid (Box.new w 24 zeroRE)
  have HT := Lib.hid (take_yes g S op [45] (prT 6 a ++ ts) _ (h.next HB0.out).rd hS)
  have HE := Lib.hid hI
  have hgl := h.rd.lt
  have HOK := Lib.hid h
  unfold TakeQ at HT
  clear h hI
  go_enter Tryd.func33, Tryd.ntmps33
  go_wp2_with fail
  refine HT.out.mono ?_
  rintro e w1 ⟨rfl, hr, hg⟩
  generalize hg4 : w.heap.size = g4 at *
  have HG4 := Lib.hid hg4
  clear hg4
  have HX1 := Lib.hid (HX0.out.grown hg (by simp; omega))
  have HG1 : Hid (w.grownBy w1 (some g)) := World.grownBy.trans (grown_bel (by rw [HG4.out]; exact HB0.out)) hg
  have HE1 := Lib.hid (HE.out w1 (HOK.out.go HG1.out hr))
  have hs1 : g4 < w1.heap.size := HX1.out.lt
  clear hr hg HX0 HB0 HT HE
  go_wp2_with fail
  refine HE1.out.mono ?_
  rintro e w4 ⟨t', hs, rfl, ha, hr, hg⟩
  cases t' with
  | node k n A c ks =>
  rw [show reV (.node k n A c ks) = .agg #[.int .i64 k, .int .i64 n, .slice A ks.length c] from rfl]
  have HSM := Lib.hid hs
  have HX4 := Lib.hid (HX1.out.grown hg (by simp; omega))
  have HR4 := Lib.hid hr
  have HG4b : Hid (w.grownBy w4 (some g)) := World.grownBy.trans HG1.out hg
  have hsz : g4 < w4.heap.size := HX4.out.lt
  have HA4 := Lib.hid (ha.more (p' := fun b => g4 < b) fun b hb hB => by omega)
  clear hs ha hr hg HX1 HE1
  go_upto_region 11 with fail
  have HB5 := Lib.hid (below_alloc1 w4 (Obj.cells #[.int .i64 k, .int .i64 n, .slice A ks.length c] 24))
  have hx5 := HX4.out.alloc (Obj.cells #[.int .i64 k, .int .i64 n, .slice A ks.length c] 24)
  have hy5 := Box.new w4 24 #[.int .i64 k, .int .i64 n, .slice A ks.length c]
  have HR5 := Lib.hid (HR4.out.next HB5.out)
  have HG5 : Hid (w.grownBy (w4.alloc (Obj.cells #[.int .i64 k, .int .i64 n, .slice A ks.length c] 24)) (some g)) := World.grownBy.trans HG4b.out (grown_bel HB5.out)
  have HA5 := Lib.hid (HA4.out.next HB5.out)
  clear HX4 HR4 HG4b HA4 HB5
  generalize w4.alloc (Obj.cells #[.int .i64 k, .int .i64 n, .slice A ks.length c] 24) = W5 at *
  generalize w4.heap.size = g6 at *
  have y0 : W5.cell? ⟨g6, 0, none⟩ = some (.int .i64 k) := hy5.cell 0
  have y1 : W5.cell? ⟨g6, 1, none⟩ = some (.int .i64 n) := hy5.cell 1
  have y2 : W5.cell? ⟨g6, 2, none⟩ = some (.slice A ks.length c) := hy5.cell 2
  have yl : g6 < W5.heap.size := hy5.lt
  have r0 : W5.cell? ⟨g4, 0, none⟩ = some (.int .i64 0) := hx5.cell 0
  have r1 : W5.cell? ⟨g4, 1, none⟩ = some (.int .i64 0) := hx5.cell 1
  have r2 : W5.cell? ⟨g4, 2, none⟩ = some (.slice none 0 0) := hx5.cell 2
  have rf : ∀ i, W5.frozen? ⟨g4, i, none⟩ = false := fun i => hx5.free i
  have rl : g4 < W5.heap.size := hx5.lt
  clear hx5 hy5
  go_wp2_with fail
  refine bodyPost_ret (v := .tuple #[.agg #[.int .i64 3, .int .i64 0, .slice (some ⟨W5.heap.size, 0, none⟩) 1 1], .bool true]) (by simp [results, Tryd.results33, go_sem, r0, r1, r2, rl]) rfl ?_
  exact expr_done1 HG4.out hgl rl HR5.out HG5.out HSM.out HA5.out (by unfold I64; omega)
end Go.Proofs.YtbmbphikjainiaaDoor
