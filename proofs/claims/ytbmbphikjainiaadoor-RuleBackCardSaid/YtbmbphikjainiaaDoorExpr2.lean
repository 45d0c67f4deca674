/- Contracts of package rule: leaf at parentheses. -/
import Derived.Test.YtbmbphikjainiaaDoorExpr1
namespace Go.Proofs.YtbmbphikjainiaaDoor
open Go.RowKit
set_option linter.unusedVariables false

set_option maxHeartbeats 4000000 in
set_option maxRecDepth 100000 in
theorem leaf_par (g : Nat) (S : ByteArray) (op : Int) (t : RE) (ts : List Tok) (w : World) (hS : S.size ≤ 5000) (h0 : 0 ≤ op) (h12 : op < 12) (h : RdOk w g S op ([40] :: (prT 0 t ++ [41] :: ts)))
    (hI : ∀ W, RdOk W g S (op + 1) (prT 0 t ++ [41] :: ts) → Calls Tryd.prog 33 #[.pointer (some ⟨g, 0, none⟩), .int .i64 0] W (ExprQ g S (op + 1) t ([41] :: ts) W)) :
    Calls Tryd.prog 50 #[.pointer (some ⟨g, 0, none⟩)] w (ExprQ g S op t ts w) := by
  have HB0 := Lib.hid (below_alloc1 w (Obj.cells zeroRE 24))
  have HX0 := Lib.hid (Box.new w 24 zeroRE)
  have HT := Lib.hid (take_no g S op [121] ([40] :: (prT 0 t ++ [41] :: ts)) _ (h.next HB0.out).rd hS (by show ([40] : Tok) ≠ [121]; decide))
  have HK := Lib.hid (fun W (hr : Reads W g S op ([40] :: (prT 0 t ++ [41] :: ts))) => tok_at g S op ([40] :: (prT 0 t ++ [41] :: ts)) W hr hS)
  rw [show tokS ([40] :: (prT 0 t ++ [41] :: ts)) = ⟨#[40]⟩ from rfl] at HK
  have HSC := Lib.hid (fun W (hr : Reads W g S (op + 1) ([40] :: (prT 0 t ++ [41] :: ts))) => scan_at g S (op + 1) [40] (prT 0 t ++ [41] :: ts) W hr hS)
  have HE := Lib.hid hI
  have HT2 := Lib.hid (fun W (hr : Reads W g S (op + 1) ([41] :: ts)) => take_yes g S (op + 1) [41] ts W hr hS)
  have hgl := h.rd.lt
  have t12 : decide (12 < op + 1) = false := decide_eq_false (by omega)
  have HOK := Lib.hid h
  unfold TakeQ at HT HT2
  clear h hI
  go_enter Tryd.func50, Tryd.ntmps50
  go_wp2_with fail
  refine HT.out.mono ?_
  rintro e w1 ⟨rfl, hr, hg⟩
  generalize hg4 : w.heap.size = g4 at *
  have HG4 := Lib.hid hg4
  clear hg4
  have HX1 := Lib.hid (HX0.out.grown hg (by simp; omega))
  have HR1 := Lib.hid hr
  have HG1 : Hid (w.grownBy w1 (some g)) := World.grownBy.trans (grown_bel (by rw [HG4.out]; exact HB0.out)) hg
  clear hr hg HX0 HB0 HT
  go_wp2_with fail
  refine (HK.out w1 HR1.out).mono ?_
  rintro e w2 ⟨rfl, m, rfl⟩
  obtain ⟨o1, o2⟩ := rd_op (HR1.out.drewN m)
  have ol : g < (w1.drewN m).heap.size := (HR1.out.drewN m).lt
  have HX2 := Lib.hid (Box.far (HX1.out.drewN m) (p := ⟨g, 3, none⟩) (by show g4 ≠ g; omega) (.int .i64 (op + 1)))
  have HR2 := Lib.hid (rd_setop (HR1.out.drewN m) (op + 1))
  have HG2 : Hid (w.grownBy ((w1.drewN m).setCell ⟨g, 3, none⟩ (.int .i64 (op + 1))) (some g)) := World.grownBy.trans HG1.out (World.grownBy.trans (grown_bel (below_drewN w1 m)) (grown_set _ g 3 _))
  clear HX1 HR1 HG1 HK
  have HS2 := Lib.hid (HSC.out _ HR2.out)
  clear HSC
  go_wp2_with fail
  refine HS2.out.mono ?_
  rintro e w3 ⟨rfl, hr, hg⟩
  have HX3 := Lib.hid (HX2.out.grown hg (by simp; omega))
  have HG3 : Hid (w.grownBy w3 (some g)) := World.grownBy.trans HG2.out hg
  have HE3 := Lib.hid (HE.out w3 (HOK.out.go HG3.out hr))
  have hs3 : g4 < w3.heap.size := HX3.out.lt
  clear hr hg HX2 HR2 HG2 HS2 HE o1 o2 ol
  go_wp2_with fail
  refine HE3.out.mono ?_
  rintro e w4 ⟨t', hs, rfl, ha, hr, hg⟩
  cases t' with
  | node k n A c ks =>
  rw [show reV (.node k n A c ks) = .agg #[.int .i64 k, .int .i64 n, .slice A ks.length c] from rfl]
  have HSM := Lib.hid hs
  have HX4 := Lib.hid (HX3.out.grown hg (by simp; omega))
  have HR4 := Lib.hid hr
  have HG4b : Hid (w.grownBy w4 (some g)) := World.grownBy.trans HG3.out hg
  have hsz : g4 < w4.heap.size := HX4.out.lt
  have HA4 := Lib.hid (ha.more (p' := fun b => g4 < b ∧ b < w4.heap.size) fun b hb hB => ⟨by omega, hB⟩)
  clear hs ha hr hg HX3 HE3
  have HB5 := Lib.hid (below_alloc1 w4 (Obj.cells #[.int .i64 k, .int .i64 n, .slice A ks.length c] 24))
  have HX5 := Lib.hid (HX4.out.alloc (Obj.cells #[.int .i64 k, .int .i64 n, .slice A ks.length c] 24))
  have HY5 := Lib.hid (Box.new w4 24 #[.int .i64 k, .int .i64 n, .slice A ks.length c])
  have HR5 := Lib.hid (HR4.out.next HB5.out)
  have HG5 : Hid (w.grownBy (w4.alloc (Obj.cells #[.int .i64 k, .int .i64 n, .slice A ks.length c] 24)) (some g)) := World.grownBy.trans HG4b.out (grown_bel HB5.out)
  have HA5 : Hid (ReAt (w4.alloc (Obj.cells #[.int .i64 k, .int .i64 n, .slice A ks.length c] 24)) (fun b => g4 < b ∧ b < w4.heap.size) (w4.alloc (Obj.cells #[.int .i64 k, .int .i64 n, .slice A ks.length c] 24)).heap.size (.node k n A c ks)) := HA4.out.next HB5.out
  clear HX4 HR4 HG4b HA4 HB5
  have HT5 := Lib.hid (HT2.out _ HR5.out)
  clear HT2
  go_wp2_with fail
  generalize w4.alloc (Obj.cells #[.int .i64 k, .int .i64 n, .slice A ks.length c] 24) = W5 at *
  generalize w4.heap.size = g6 at *
  refine HT5.out.mono ?_
  rintro e w6 ⟨rfl, hr, hg⟩
  obtain ⟨o1, o2⟩ := rd_op hr
  have ol : g < w6.heap.size := hr.lt
  have hx6 := HX5.out.grown hg (by simp; omega)
  have hy6 := HY5.out.grown hg (by simp; omega)
  have HA6 : Hid (ReAt w6 (fun b => g4 < b ∧ b < g6) w6.heap.size (.node k n A c ks)) := HA5.out.grown hg (fun b hb => by simp; omega)
  have HX7 := Lib.hid (Box.far hx6 (p := ⟨g, 3, none⟩) (by show g4 ≠ g; omega) (.int .i64 op))
  have HY7 := Lib.hid (Box.far hy6 (p := ⟨g, 3, none⟩) (by show g6 ≠ g; omega) (.int .i64 op))
  have HR7 := Lib.hid (rd_setop hr op)
  have HG7 : Hid (w.grownBy (w6.setCell ⟨g, 3, none⟩ (.int .i64 op)) (some g)) := World.grownBy.trans HG5.out (World.grownBy.trans hg (grown_set _ g 3 _))
  have HA7 := Lib.hid (HA6.out.set_ g 3 (.int .i64 op) (by omega))
  have y0 : w6.cell? ⟨g6, 0, none⟩ = some (.int .i64 k) := hy6.cell 0
  have y1 : w6.cell? ⟨g6, 1, none⟩ = some (.int .i64 n) := hy6.cell 1
  have y2 : w6.cell? ⟨g6, 2, none⟩ = some (.slice A ks.length c) := hy6.cell 2
  have yl : g6 < w6.heap.size := hy6.lt
  have r0 : w6.cell? ⟨g4, 0, none⟩ = some (.int .i64 0) := hx6.cell 0
  have r1 : w6.cell? ⟨g4, 1, none⟩ = some (.int .i64 0) := hx6.cell 1
  have r2 : w6.cell? ⟨g4, 2, none⟩ = some (.slice none 0 0) := hx6.cell 2
  have rf : ∀ i, w6.frozen? ⟨g4, i, none⟩ = false := fun i => hx6.free i
  have rl : g4 < w6.heap.size := hx6.lt
  have hoo : op + 1 - 1 = op := by omega
  clear hr hg hx6 hy6 HX5 HY5 HR5 HG5 HA5 HT5 HA6
  go_wp2_with fail
  refine bodyPost_ret (v := .tuple #[.agg #[.int .i64 k, .int .i64 n, .slice A ks.length c], .bool true]) (by simp [results, Tryd.results50, go_sem, r0, r1, r2]) rfl ?_
  exact expr_done HG4.out hgl HR7.out HG7.out HSM.out (HA7.out.more fun b hb _ => hb.1)
end Go.Proofs.YtbmbphikjainiaaDoor
