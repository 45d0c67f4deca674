/- Contracts of package rule: month. -/
import Derived.Test.YtbmbphikjainiaaDoorExpr6
namespace Go.Proofs.YtbmbphikjainiaaDoor
open Go.RowKit
set_option linter.unusedVariables false

/-- the words of a month behind 'month' -/
def monT (c : Tok) (sh lo : Int) : List Tok := c :: (numT sh ++ if lo = sh then [] else numT lo)
def MonQ (g : Nat) (S : ByteArray) (v : Value) (w : World) (e : Ending) (w' : World) : Prop := e = .returned (.tuple #[v, .bool true]) ∧ Reads w' g S 0 [] ∧ w.grownBy w' (some g)
abbrev zeroM : Array Value := #[.string ⟨#[]⟩, .int .i64 0, .int .i64 0]
theorem numT_ne (n : Int) : ∃ c r, numT n = c :: r ∧ c ≠ [] := by
  unfold numT
  split
  · exact ⟨_, _, rfl, by simp⟩
  · exact ⟨_, _, rfl, itoa_ne n⟩
set_option maxHeartbeats 4000000 in
set_option maxRecDepth 100000 in
theorem month_at (g : Nat) (S : ByteArray) (c : Tok) (sh lo : Int) (w : World) (hS : S.size ≤ 5000) (hc : ∀ b ∈ c, isLow b = true) (h1 : -9999999999 ≤ sh) (h2 : sh ≤ 9999999999) (h3 : -9999999999 ≤ lo) (h4 : lo ≤ 9999999999) (h : Reads w g S 0 (monT c sh lo)) :
    Calls Tryd.prog 34 #[.pointer (some ⟨g, 0, none⟩)] w (MonQ g S (.agg #[.string (str c), .int .i64 sh, .int .i64 lo]) w) := by
  have HB0 := Lib.hid (below_alloc2 w (Obj.cells zeroM 60) (Obj.cells zeroM 60))
  have HX0 := Lib.hid ((Box.new w 60 zeroM).alloc (Obj.cells zeroM 60))
  have HY0 := Lib.hid (Box.new (w.alloc (Obj.cells zeroM 60)) 60 zeroM)
  rw [show (w.alloc (Obj.cells zeroM 60)).heap.size = w.heap.size + 1 from by simp] at HY0
  have HW := Lib.hid (word_yes g S 0 c _ _ (h.next HB0.out) hS hc)
  have HN1 := Lib.hid (fun W (hr : Reads W g S 0 (numT sh ++ if lo = sh then [] else numT lo)) => number_at g S 0 sh (if lo = sh then [] else numT lo) W hr hS h1 h2)
  have HN2 := Lib.hid (fun W (hr : Reads W g S 0 (numT lo ++ [])) => number_at g S 0 lo [] W hr hS h3 h4)
  have HT := Lib.hid (fun W (hr : Reads W g S 0 (if lo = sh then [] else numT lo)) => tok_at g S 0 (if lo = sh then [] else numT lo) W hr hS)
  have hgl := h.lt
  unfold WordQ at HW HN1 HN2
  unfold MonQ
  clear h hc h1 h2 h3 h4
  go_enter Tryd.func34, Tryd.ntmps34
  go_wp2_with fail
  refine HW.out.mono ?_
  rintro e w1 ⟨rfl, hr, hg⟩
  generalize hg4 : w.heap.size = g4 at *
  have HG4 := Lib.hid hg4
  clear hg4
  have hx1 := HX0.out.grown hg (by simp; omega)
  have hy1 := HY0.out.grown hg (by simp; omega)
  have hg1 : w.grownBy w1 (some g) := World.grownBy.trans (grown_bel (by rw [HG4.out]; exact HB0.out)) hg
  have HX1 := Lib.hid (Box.far hx1 (p := ⟨g4 + 1, 0, none⟩) (by show g4 ≠ g4 + 1; omega) (.string (str c)))
  have HY1 : Hid (Box (w1.setCell ⟨g4 + 1, 0, none⟩ (.string (str c))) (g4 + 1) 60 #[.string (str c), .int .i64 0, .int .i64 0]) := hy1.set_ 0 _
  have HR1 := Lib.hid (reads_set hr (g4 + 1) 0 (.string (str c)) (by omega))
  have HG1 := Lib.hid (grown_setnew hg1 (g4 + 1) 0 (.string (str c)) (by have := HG4.out; omega))
  have q0 : w1.cell? ⟨g4 + 1, 0, none⟩ = some (.string ⟨#[]⟩) := hy1.cell 0
  have qf : ∀ i, w1.frozen? ⟨g4 + 1, i, none⟩ = false := fun i => hy1.free i
  have ql : g4 + 1 < w1.heap.size := hy1.lt
  clear hx1 hy1 hg1 hr hg HX0 HY0 HB0 HW
  go_upto_region 6 with fail
  clear q0 qf ql
  generalize w1.setCell ⟨g4 + 1, 0, none⟩ (.string (str c)) = w2 at *
  have HN1b := Lib.hid (HN1.out w2 HR1.out)
  clear HN1
  have ql2 : g4 + 1 < w2.heap.size := HY1.out.lt
  go_wp2_with fail
  refine HN1b.out.mono ?_
  rintro e w3 ⟨rfl, hr, hg⟩
  have hx3 := HX1.out.grown hg (by simp; omega)
  have hy3 := HY1.out.grown hg (by simp; omega)
  have hg3 : w.grownBy w3 (some g) := World.grownBy.trans HG1.out hg
  have HX3 := Lib.hid (Box.far (Box.far hx3 (p := ⟨g4 + 1, 1, none⟩) (by show g4 ≠ g4 + 1; omega) (.int .i64 sh)) (p := ⟨g4 + 1, 2, none⟩) (by show g4 ≠ g4 + 1; omega) (.int .i64 sh))
  have HY3 : Hid (Box ((w3.setCell ⟨g4 + 1, 1, none⟩ (.int .i64 sh)).setCell ⟨g4 + 1, 2, none⟩ (.int .i64 sh)) (g4 + 1) 60 #[.string (str c), .int .i64 sh, .int .i64 sh]) := (hy3.set_ 1 _).set_ 2 _
  have HR3 := Lib.hid (reads_set (reads_set hr (g4 + 1) 1 (.int .i64 sh) (by omega)) (g4 + 1) 2 (.int .i64 sh) (by omega))
  have HG3 := Lib.hid (grown_setnew (grown_setnew hg3 (g4 + 1) 1 (.int .i64 sh) (by have := HG4.out; omega)) (g4 + 1) 2 (.int .i64 sh) (by have := HG4.out; omega))
  have q1 : w3.cell? ⟨g4 + 1, 1, none⟩ = some (.int .i64 0) := hy3.cell 1
  have q2 : w3.cell? ⟨g4 + 1, 2, none⟩ = some (.int .i64 0) := hy3.cell 2
  have qf : ∀ i, w3.frozen? ⟨g4 + 1, i, none⟩ = false := fun i => hy3.free i
  have ql : g4 + 1 < w3.heap.size := hy3.lt
  clear hx3 hy3 hg3 hr hg HX1 HY1 HG1 HR1 HN1b ql2
  go_upto_region 10 with fail
  clear q1 q2 qf ql
  generalize (w3.setCell ⟨g4 + 1, 1, none⟩ (.int .i64 sh)).setCell ⟨g4 + 1, 2, none⟩ (.int .i64 sh) = w4 at *
  have HT4 := Lib.hid (HT.out w4 HR3.out)
  clear HT
  by_cases hls : lo = sh
  · subst hls
    rw [if_pos rfl] at HT4 HR3
    rw [show tokS [] = ⟨#[]⟩ from rfl] at HT4
    go_wp2_with fail
    refine HT4.out.mono ?_
    rintro e w5 ⟨rfl, m, rfl⟩
    have hx5 := HX3.out.drewN m
    have hy5 := HY3.out.drewN m
    have HR5 := Lib.hid (HR3.out.drewN m)
    have HG5 : Hid (w.grownBy (w4.drewN m) (some g)) := World.grownBy.trans HG3.out (grown_bel (below_drewN w4 m))
    clear HX3 HY3 HR3 HG3 HT4
    generalize w4.drewN m = w6 at *
    have y0 : w6.cell? ⟨g4 + 1, 0, none⟩ = some (.string (str c)) := hy5.cell 0
    have y1 : w6.cell? ⟨g4 + 1, 1, none⟩ = some (.int .i64 lo) := hy5.cell 1
    have y2 : w6.cell? ⟨g4 + 1, 2, none⟩ = some (.int .i64 lo) := hy5.cell 2
    have yl : g4 + 1 < w6.heap.size := hy5.lt
    have r0 : w6.cell? ⟨g4, 0, none⟩ = some (.string ⟨#[]⟩) := hx5.cell 0
    have r1 : w6.cell? ⟨g4, 1, none⟩ = some (.int .i64 0) := hx5.cell 1
    have r2 : w6.cell? ⟨g4, 2, none⟩ = some (.int .i64 0) := hx5.cell 2
    have rf : ∀ i, w6.frozen? ⟨g4, i, none⟩ = false := fun i => hx5.free i
    have rl : g4 < w6.heap.size := hx5.lt
    clear hx5 hy5
    go_wp2_with fail
    refine bodyPost_ret (v := .tuple #[.agg #[.string (str c), .int .i64 lo, .int .i64 lo], .bool true]) (by simp [results, Tryd.results34, go_sem, r0, r1, r2]) rfl ?_
    exact ⟨rfl, reads_set (reads_set (reads_set HR5.out g4 0 _ (by omega)) g4 1 _ (by omega)) g4 2 _ (by omega), grown_setnew (grown_setnew (grown_setnew HG5.out g4 0 _ (by have := HG4.out; omega)) g4 1 _ (by have := HG4.out; omega)) g4 2 _ (by have := HG4.out; omega)⟩
  · rw [if_neg hls] at HT4 HR3
    obtain ⟨cc, rr, hcr, hcne⟩ := numT_ne lo
    have t0 : (tokS (numT lo)).toList.isEmpty = false := by rw [hcr]; unfold tokS; rw [str_toList]; cases cc with | nil => exact absurd rfl hcne | cons _ _ => rfl
    have t1 : ¬ (tokS (numT lo)).toList = [] := by rw [hcr]; unfold tokS; rw [str_toList]; exact hcne
    have HN2b := Lib.hid (fun m => HN2.out (w4.drewN m) (by rw [List.append_nil]; exact HR3.out.drewN m))
    clear HN2 hcr hcne
    generalize tokS (numT lo) = tkS at *
    go_wp2_with fail
    refine HT4.out.mono ?_
    rintro e w5 ⟨rfl, m, rfl⟩
    have HN2c := Lib.hid (HN2b.out m)
    have ql : g4 + 1 < (w4.drewN m).heap.size := (HY3.out.drewN m).lt
    clear HN2b HT4
    go_wp2_with fail
    refine HN2c.out.mono ?_
    rintro e w6 ⟨rfl, hr, hg⟩
    have hx6 := (HX3.out.drewN m).grown hg (by simp; omega)
    have hy6 := (HY3.out.drewN m).grown hg (by simp; omega)
    have HR6 := Lib.hid hr
    have HG6 : Hid (w.grownBy w6 (some g)) := World.grownBy.trans HG3.out (World.grownBy.trans (grown_bel (below_drewN w4 m)) hg)
    have y0 : w6.cell? ⟨g4 + 1, 0, none⟩ = some (.string (str c)) := hy6.cell 0
    have y1 : w6.cell? ⟨g4 + 1, 1, none⟩ = some (.int .i64 sh) := hy6.cell 1
    have y2 : w6.cell? ⟨g4 + 1, 2, none⟩ = some (.int .i64 sh) := hy6.cell 2
    have yf : ∀ i, w6.frozen? ⟨g4 + 1, i, none⟩ = false := fun i => hy6.free i
    have yl : g4 + 1 < w6.heap.size := hy6.lt
    have r0 : w6.cell? ⟨g4, 0, none⟩ = some (.string ⟨#[]⟩) := hx6.cell 0
    have r1 : w6.cell? ⟨g4, 1, none⟩ = some (.int .i64 0) := hx6.cell 1
    have r2 : w6.cell? ⟨g4, 2, none⟩ = some (.int .i64 0) := hx6.cell 2
    have rf : ∀ i, w6.frozen? ⟨g4, i, none⟩ = false := fun i => hx6.free i
    have rl : g4 < w6.heap.size := hx6.lt
    clear hx6 hy6 hr hg HX3 HY3 HR3 HG3 HN2c ql
    go_wp2_with fail
    refine bodyPost_ret (v := .tuple #[.agg #[.string (str c), .int .i64 sh, .int .i64 lo], .bool true]) (by simp [results, Tryd.results34, go_sem, r0, r1, r2]) rfl ?_
    have hgw := HG4.out
    exact ⟨rfl, reads_set (reads_set (reads_set (reads_set HR6.out (g4 + 1) 2 _ (by omega)) g4 0 _ (by omega)) g4 1 _ (by omega)) g4 2 _ (by omega), grown_setnew (grown_setnew (grown_setnew (grown_setnew HG6.out (g4 + 1) 2 _ (by omega)) g4 0 _ (by omega)) g4 1 _ (by omega)) g4 2 _ (by omega)⟩
end Go.Proofs.YtbmbphikjainiaaDoor
