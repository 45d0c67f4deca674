/- Contracts of package rule: expr where neither 'not' nor a sign comes. -/
import Derived.Test.YtbmbphikjainiaaDoorExpr3
namespace Go.Proofs.YtbmbphikjainiaaDoor
open Go.RowKit
set_option linter.unusedVariables false

set_option maxHeartbeats 4000000 in
set_option maxRecDepth 100000 in
theorem expr_up2 (g : Nat) (S : ByteArray) (op : Int) (t : RE) (tk0 : List Tok) (ts : List Tok) (w : World) (hS : S.size ≤ 5000) (h : RdOk w g S op tk0) (hne : tk0.headD [] ≠ [110, 111, 116])
    (hI : ∀ W, RdOk W g S op tk0 → Calls Tryd.prog 33 #[.pointer (some ⟨g, 0, none⟩), .int .i64 3] W (ExprQ g S op t ts W)) :
    Calls Tryd.prog 33 #[.pointer (some ⟨g, 0, none⟩), .int .i64 2] w (ExprQ g S op t ts w) := by
  have HB0 := Lib.hid (below_alloc1 w (Obj.cells zeroRE 24))
  have HX0 := Lib.hid (Box.new w 24 zeroRE)
  have HT := Lib.hid (take_no g S op [110, 111, 116] tk0 _ (h.next HB0.out).rd hS hne)
  have HE := Lib.hid hI
  have hgl := h.rd.lt
  have HOK := Lib.hid h
  unfold TakeQ at HT
  clear h hI hne
  go_enter Tryd.func33, Tryd.ntmps33
  go_wp2_with fail
  refine HT.out.mono ?_
  rintro e w1 ⟨rfl, hr, hg⟩
  generalize hg4 : w.heap.size = g4 at *
  have HG4 := Lib.hid hg4
  clear hg4
  have HX1 := Lib.hid (HX0.out.grown hg (by simp; omega))
  have HG1 : Hid (w.grownBy w1 (some g)) := World.grownBy.trans (grown_bel (by rw [HG4.out]; exact HB0.out)) hg
  have HE1 := Lib.hid (HE.out w1 (HOK.out.go HG1.out hr))
  have hs1 : g4 < w1.heap.size := HX1.out.lt
  clear hr hg HX0 HB0 HT HE
  go_wp2_with fail
  refine HE1.out.mono ?_
  rintro e w4 ⟨t', hs, rfl, ha, hr, hg⟩
  cases t' with
  | node k n A c ks =>
  rw [show reV (.node k n A c ks) = .agg #[.int .i64 k, .int .i64 n, .slice A ks.length c] from rfl]
  have HSM := Lib.hid hs
  have hx4 := HX1.out.grown hg (by simp; omega)
  have HR4 := Lib.hid hr
  have HG4b : Hid (w.grownBy w4 (some g)) := World.grownBy.trans HG1.out hg
  have HA4 := Lib.hid (ha.more (p' := fun b => g4 < b) fun b hb hB => by omega)
  have r0 : w4.cell? ⟨g4, 0, none⟩ = some (.int .i64 0) := hx4.cell 0
  have r1 : w4.cell? ⟨g4, 1, none⟩ = some (.int .i64 0) := hx4.cell 1
  have r2 : w4.cell? ⟨g4, 2, none⟩ = some (.slice none 0 0) := hx4.cell 2
  have rf : ∀ i, w4.frozen? ⟨g4, i, none⟩ = false := fun i => hx4.free i
  have rl : g4 < w4.heap.size := hx4.lt
  clear hs ha hr hg HX1 HE1 hx4
  go_wp2_with fail
  refine bodyPost_ret (v := .tuple #[.agg #[.int .i64 k, .int .i64 n, .slice A ks.length c], .bool true]) (by simp [results, Tryd.results33, go_sem, r0, r1, r2]) rfl ?_
  exact expr_done HG4.out hgl HR4.out HG4b.out HSM.out HA4.out

set_option maxHeartbeats 4000000 in
set_option maxRecDepth 100000 in
theorem expr_up6 (g : Nat) (S : ByteArray) (op : Int) (t : RE) (tk0 : List Tok) (ts : List Tok) (w : World) (hS : S.size ≤ 5000) (h : RdOk w g S op tk0) (hne : tk0.headD [] ≠ [45])
    (hI : ∀ W, RdOk W g S op tk0 → Calls Tryd.prog 50 #[.pointer (some ⟨g, 0, none⟩)] W (ExprQ g S op t ts W)) :
    Calls Tryd.prog 33 #[.pointer (some ⟨g, 0, none⟩), .int .i64 6] w (ExprQ g S op t ts w) := by
  have HB0 := Lib.hid (below_alloc1 w (Obj.cells zeroRE 24))
  have HX0 := Lib.hid (Box.new w 24 zeroRE)
  have HT := Lib.hid (take_no g S op [45] tk0 _ (h.next HB0.out).rd hS hne)
  have HE := Lib.hid hI
  have hgl := h.rd.lt
  have HOK := Lib.hid h
  unfold TakeQ at HT
  clear h hI hne
  go_enter Tryd.func33, Tryd.ntmps33
  go_wp2_with fail
  refine HT.out.mono ?_
  rintro e w1 ⟨rfl, hr, hg⟩
  generalize hg4 : w.heap.size = g4 at *
  have HG4 := Lib.hid hg4
  clear hg4
  have HX1 := Lib.hid (HX0.out.grown hg (by simp; omega))
  have HG1 : Hid (w.grownBy w1 (some g)) := World.grownBy.trans (grown_bel (by rw [HG4.out]; exact HB0.out)) hg
  have HE1 := Lib.hid (HE.out w1 (HOK.out.go HG1.out hr))
  have hs1 : g4 < w1.heap.size := HX1.out.lt
  clear hr hg HX0 HB0 HT HE
  go_wp2_with fail
  refine HE1.out.mono ?_
  rintro e w4 ⟨t', hs, rfl, ha, hr, hg⟩
  cases t' with
  | node k n A c ks =>
  rw [show reV (.node k n A c ks) = .agg #[.int .i64 k, .int .i64 n, .slice A ks.length c] from rfl]
  have HSM := Lib.hid hs
  have hx4 := HX1.out.grown hg (by simp; omega)
  have HR4 := Lib.hid hr
  have HG4b : Hid (w.grownBy w4 (some g)) := World.grownBy.trans HG1.out hg
  have HA4 := Lib.hid (ha.more (p' := fun b => g4 < b) fun b hb hB => by omega)
  have r0 : w4.cell? ⟨g4, 0, none⟩ = some (.int .i64 0) := hx4.cell 0
  have r1 : w4.cell? ⟨g4, 1, none⟩ = some (.int .i64 0) := hx4.cell 1
  have r2 : w4.cell? ⟨g4, 2, none⟩ = some (.slice none 0 0) := hx4.cell 2
  have rf : ∀ i, w4.frozen? ⟨g4, i, none⟩ = false := fun i => hx4.free i
  have rl : g4 < w4.heap.size := hx4.lt
  clear hs ha hr hg HX1 HE1 hx4
  go_wp2_with fail
  refine bodyPost_ret (v := .tuple #[.agg #[.int .i64 k, .int .i64 n, .slice A ks.length c], .bool true]) (by simp [results, Tryd.results33, go_sem, r0, r1, r2]) rfl ?_
  exact expr_done HG4.out hgl HR4.out HG4b.out HSM.out HA4.out
end Go.Proofs.YtbmbphikjainiaaDoor
