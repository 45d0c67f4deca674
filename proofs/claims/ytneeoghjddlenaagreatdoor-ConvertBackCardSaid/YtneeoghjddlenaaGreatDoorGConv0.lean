/- Conv0, Conv1, Conv2 -/
import Derived.Test.YtneeoghjddlenaaGreatDoorGAr1
import Derived.Test.YtneeoghjddlenaaGreatDoorGCat1
import Derived.Test.YtneeoghjddlenaaGreatDoorGOwn
import Derived.Test.YtneeoghjddlenaaGreatDoorGCatOk
import Derived.Test.YtneeoghjddlenaaGreatDoorGMem
/- Contracts of package convert at arithmetic calendars: New, one, date, days. -/
namespace Go.Proofs.YtneeoghjddlenaaGreatDoor
open Go Go.RowKit
set_option linter.unusedVariables false

/-- a registry without calendars of its own -/
def RegIn (w : World) (gr : Nat) : Prop := Box w gr 49 #[.slice none 0 0, .slice none 0 0]
theorem new_any (w : World) : Calls Tryz.prog 6 #[] w fun e w' => e = .returned (.pointer (some ⟨w.heap.size, 0, none⟩)) ∧ RegIn w' w.heap.size ∧ Below w.heap.size w w' := by
  have HB := Lib.hid (below_alloc1 w (Obj.cells #[.slice none 0 0, .slice none 0 0] 49))
  have HX := Lib.hid (Box.new w 49 #[.slice none 0 0, .slice none 0 0])
  go_enter Tryz.func6, Tryz.ntmps6
  go_wp2_with fail
  go_ret
  exact ⟨rfl, HX.out, HB.out⟩
set_option maxRecDepth 100000 in
theorem index_none (s : ByteArray) (w : World) : Calls Tryz.prog 23 #[.slice none 0 0, .string s] w fun e w' => e = .returned (.int .i64 (-1)) ∧ w' = w := by
  go_enter Tryz.func23, Tryz.ntmps23
  go_wp2_with fail
  go_loopw [5, 8] (fun _ i wr => i = .int .i64 0 ∧ wr = w) (fun _ _ _ => 0)
  case atStart => exact ⟨rfl, rfl⟩
  case round =>
    obtain ⟨rfl, rfl⟩ := hrel
    go_wp2_with fail
    go_ret
    exact ⟨rfl, rfl⟩
set_option maxRecDepth 100000 in
theorem one_yes (day : Int) (w : World) : Calls Tryz.prog 184 #[.int .i64 day, .int .i64 0] w fun e w' => e = .returned (.slice (some ⟨w.heap.size, 0, none⟩) 1 1) ∧ Box w' w.heap.size 3 #[.int .i64 day] ∧ Below w.heap.size w w' := by
  have HB := Lib.hid (below_alloc1 w (Obj.cells #[.int .i64 day] 3))
  have HX := Lib.hid (Box.new w 3 #[.int .i64 day])
  go_enter Tryz.func184, Tryz.ntmps184
  go_wp2_with fail
  go_ret
  exact ⟨rfl, HX.out, HB.out⟩
set_option maxRecDepth 100000 in
set_option maxHeartbeats 4000000 in
theorem adate_any (c : Cal) (day : Int) (w : World) (hv : CalV w c) : Calls Tryz.prog 182 #[c.val, .int .i64 day] w (IsFD c day w) := by
  have HB := Lib.hid (below_alloc2 w (Obj.cells c.cells 73) (Obj.cells #[.int .i64 0, .int .i64 0, .int .i64 0] 23))
  have HX := Lib.hid ((Box.new w 73 c.cells).alloc (Obj.cells #[.int .i64 0, .int .i64 0, .int .i64 0] 23))
  have HD := Lib.hid (Box.new (w.alloc (Obj.cells c.cells 73)) 23 #[.int .i64 0, .int .i64 0, .int .i64 0])
  simp only [World.size_alloc] at HD
  have HC := Lib.hid (hv.next HB.out)
  unfold IsFD
  clear hv
  go_enter Tryz.func182, Tryz.ntmps182
  go_upto_region 1 with fail
  generalize (w.alloc (Obj.cells c.cells 73)).alloc (Obj.cells #[.int .i64 0, .int .i64 0, .int .i64 0] 23) = W0 at *
  generalize hg : w.heap.size = g at *
  have HG := Lib.hid hg
  clear hg
  have x0 : W0.cell? ⟨g, 0, none⟩ = some (.string c.nm) := HX.out.cell 0
  have x1 : W0.cell? ⟨g, 1, none⟩ = some (.int .i64 c.ep) := HX.out.cell 1
  have x2 : W0.cell? ⟨g, 2, none⟩ = some (.int .i64 c.cy) := HX.out.cell 2
  have x3 : W0.cell? ⟨g, 3, none⟩ = some (.slice c.A1 c.mo.length c.c1) := HX.out.cell 3
  have x4 : W0.cell? ⟨g, 4, none⟩ = some (.slice c.A2 c.lp.length c.c2) := HX.out.cell 4
  go_wp2_with fail
  refine Calls.mono (FromDay_any c day W0 HC.out) ?_
  rintro e w3 ⟨hb3, hc⟩
  have HD3 := Lib.hid (HD.out.below hb3)
  have HB3 : Hid (Below g w w3) := HB.out.trans (hb3.mono (by have := HX.out.lt; omega))
  clear hb3 HX HD HB HC x0 x1 x2 x3 x4
  have rf : ∀ i, w3.frozen? ⟨g + 1, i, none⟩ = false := fun i => HD3.out.free i
  have r0 : w3.cell? ⟨g + 1, 0, none⟩ = some (.int .i64 0) := HD3.out.cell 0
  have r1 : w3.cell? ⟨g + 1, 1, none⟩ = some (.int .i64 0) := HD3.out.cell 1
  have r2 : w3.cell? ⟨g + 1, 2, none⟩ = some (.int .i64 0) := HD3.out.cell 2
  have hl := HD3.out.lt
  rcases hc with ⟨y, m, d, h1, h2, h3, rfl⟩ | ⟨h1, rfl⟩
  · have HH := Lib.hid (show -10000 ≤ y ∧ y ≤ 10000 ∧ IsOn c y m d day from ⟨h1, h2, h3⟩)
    clear h1 h2 h3
    go_wp2_with fail
    refine bodyPost_ret (v := .tuple #[.agg #[.int .i64 y, .int .i64 ((m : Int) + 1), .int .i64 (d + 1)], .int .i64 0]) (by simp [results, Tryz.results182, go_sem, r0, r1, r2]) rfl ?_
    exact ⟨by rw [HG.out]; exact ((HB3.out.setCell (p := ⟨g + 1, 0, none⟩) (show g ≤ g + 1 by omega) _).setCell (p := ⟨g + 1, 1, none⟩) (show g ≤ g + 1 by omega) _).setCell (p := ⟨g + 1, 2, none⟩) (show g ≤ g + 1 by omega) _, .inl ⟨y, m, d, HH.out.1, HH.out.2.1, HH.out.2.2, rfl⟩⟩
  · have HH := Lib.hid h1
    clear h1
    go_wp2_with fail
    refine bodyPost_ret (v := .tuple #[.agg #[.int .i64 0, .int .i64 0, .int .i64 0], .int .i64 3]) (by simp [results, Tryz.results182, go_sem, r0, r1, r2]) rfl ?_
    exact ⟨by rw [HG.out]; exact ((HB3.out.setCell (p := ⟨g + 1, 0, none⟩) (show g ≤ g + 1 by omega) _).setCell (p := ⟨g + 1, 1, none⟩) (show g ≤ g + 1 by omega) _).setCell (p := ⟨g + 1, 2, none⟩) (show g ≤ g + 1 by omega) _, .inr ⟨HH.out, rfl⟩⟩
set_option maxRecDepth 100000 in
set_option maxHeartbeats 4000000 in
theorem adays_any (c : Cal) (y : Int) (m : Nat) (d day : Int) (w : World) (hv : CalV w c) (hy1 : -10000 ≤ y) (hy2 : y ≤ 10000) (ho : IsOn c y m d day) (hd1 : -4000000 ≤ day) (hd2 : day ≤ 4000000) :
    Calls Tryz.prog 183 #[c.val, .agg #[.int .i64 y, .int .i64 ((m : Int) + 1), .int .i64 (d + 1)]] w fun e w' => ∃ gd, e = .returned (.slice (some ⟨gd, 0, none⟩) 1 1) ∧ Box w' gd 3 #[.int .i64 day] ∧ w.heap.size ≤ gd ∧ Below w.heap.size w w' := by
  have HB := Lib.hid (below_alloc2 w (Obj.cells c.cells 73) (Obj.cells #[.int .i64 y, .int .i64 ((m : Int) + 1), .int .i64 (d + 1)] 23))
  have HX := Lib.hid ((Box.new w 73 c.cells).alloc (Obj.cells #[.int .i64 y, .int .i64 ((m : Int) + 1), .int .i64 (d + 1)] 23))
  have HD := Lib.hid (Box.new (w.alloc (Obj.cells c.cells 73)) 23 #[.int .i64 y, .int .i64 ((m : Int) + 1), .int .i64 (d + 1)])
  simp only [World.size_alloc] at HD
  have HT : Hid (∀ W, CalV W c → Calls Tryz.prog 185 #[c.val, .agg #[.int .i64 y, .int .i64 ((m : Int) + 1), .int .i64 (d + 1)]] W fun e w' => e = .returned (.tuple #[.int .i64 day, .int .i64 0]) ∧ Below W.heap.size W w') := fun W h => by
    refine Calls.mono (ToDay_any c y ((m : Int) + 1) (d + 1) W h) ?_
    rintro e w' ⟨hb, hc⟩
    refine ⟨?_, hb⟩
    rcases hc with ⟨m0, n, hm0, _, _, ho', rfl⟩ | ⟨hno, _⟩
    · obtain rfl : m = m0 := by omega
      rw [show d + 1 - 1 = d from by omega] at ho'
      have : n = day := by rw [ho'.on, ho.on]
      rw [this]
      unfold dayR
      rw [if_pos ⟨hd1, hd2⟩]
    · exact absurd (hno m day rfl hy1 hy2 (by rw [show d + 1 - 1 = d from by omega]; exact ho)) id
  have HC := Lib.hid (hv.next HB.out)
  have HO := Lib.hid (fun W => one_yes day W)
  clear hv ho
  go_enter Tryz.func183, Tryz.ntmps183
  go_upto_region 1 with fail
  generalize (w.alloc (Obj.cells c.cells 73)).alloc (Obj.cells #[.int .i64 y, .int .i64 ((m : Int) + 1), .int .i64 (d + 1)] 23) = W0 at *
  generalize hg : w.heap.size = g at *
  have HG := Lib.hid hg
  clear hg
  have x0 : W0.cell? ⟨g, 0, none⟩ = some (.string c.nm) := HX.out.cell 0
  have x1 : W0.cell? ⟨g, 1, none⟩ = some (.int .i64 c.ep) := HX.out.cell 1
  have x2 : W0.cell? ⟨g, 2, none⟩ = some (.int .i64 c.cy) := HX.out.cell 2
  have x3 : W0.cell? ⟨g, 3, none⟩ = some (.slice c.A1 c.mo.length c.c1) := HX.out.cell 3
  have x4 : W0.cell? ⟨g, 4, none⟩ = some (.slice c.A2 c.lp.length c.c2) := HX.out.cell 4
  have y0 : W0.cell? ⟨g + 1, 0, none⟩ = some (.int .i64 y) := HD.out.cell 0
  have y1 : W0.cell? ⟨g + 1, 1, none⟩ = some (.int .i64 ((m : Int) + 1)) := HD.out.cell 1
  have y2 : W0.cell? ⟨g + 1, 2, none⟩ = some (.int .i64 (d + 1)) := HD.out.cell 2
  go_wp2_with fail
  refine Calls.mono (HT.out W0 HC.out) ?_
  rintro e w3 ⟨rfl, hb3⟩
  have HB3 : Hid (Below g w w3) := HB.out.trans (hb3.mono (by have := HX.out.lt; omega))
  have hs3 : g ≤ w3.heap.size := by have := HX.out.lt; have := hb3.size; omega
  clear hb3 HX HD HB HC HT x0 x1 x2 x3 x4 y0 y1 y2
  go_wp2_with fail
  refine Calls.mono (HO.out w3) ?_
  rintro e w4 ⟨rfl, hx4, hb4⟩
  have HB4 : Hid (Below g w w4) := HB3.out.trans (hb4.mono hs3)
  have HX4 := Lib.hid hx4
  clear hx4 hb4 HO HB3
  go_wp2_with fail
  go_ret
  exact ⟨w3.heap.size, rfl, HX4.out, by rw [HG.out]; exact hs3, by rw [HG.out]; exact HB4.out⟩
end Go.Proofs.YtneeoghjddlenaaGreatDoor

/- Contracts of package convert, at a registry without calendars of its own: find, Date. -/
namespace Go.Proofs.YtneeoghjddlenaaGreatDoor
open Go Go.RowKit
set_option linter.unusedVariables false

set_option maxRecDepth 100000 in
theorem meth_date (x : Value) (w : World) : (method 338 73 x "ephemeris/convert.date").run Tryz.prog w = .ok (182, x) w := by kernel_rfl
set_option maxRecDepth 100000 in
theorem meth_days (x : Value) (w : World) : (method 338 73 x "ephemeris/convert.days").run Tryz.prog w = .ok (183, x) w := by kernel_rfl
/-- a calendar as an entry -/
def entV (c : Cal) : Value := .iface 73 c.val
def FindQ (r : CatRow) (w : World) (e : Ending) (w' : World) : Prop := ∃ c : Cal, e = .returned (.tuple #[entV c, .int .i64 0]) ∧ CalOf r c ∧ CalV w' c ∧ Below w.heap.size w w'
set_option maxRecDepth 100000 in
set_option maxHeartbeats 4000000 in
theorem cfind_any (r : CatRow) (hr : r ∈ catR) (gr : Nat) (w : World) (hv : Env w) (hx : RegIn w gr) : Calls Tryz.prog 14 #[.pointer (some ⟨gr, 0, none⟩), .string (str r.nm)] w (FindQ r w) := by
  have HE := Lib.hid hv
  have HT := Lib.hid (fun w (h : Env w) => Calendar_any r hr w h)
  have HI := Lib.hid (fun s W => index_none s W)
  have x0 : w.cell? ⟨gr, 0, none⟩ = some (.slice none 0 0) := Box.cell hx 0
  unfold CalQ at HT
  unfold FindQ entV
  clear hv hx
  go_enter Tryz.func14, Tryz.ntmps14
  go_wp2_with (go_at_call 23; refine Calls.mono (HI.out _ _) ?_; rintro e w' ⟨rfl, rfl⟩)
  refine Calls.mono (HT.out _ HE.out) ?_
  rintro e w1 ⟨c, rfl, hof, hcv, _, _, hb1⟩
  have HB1 := Lib.hid hb1
  have HOf := Lib.hid hof
  have HCv := Lib.hid hcv
  clear hof hcv hb1 HE HT x0
  go_upto_region 5 with fail
  have HB2 := Lib.hid (HB1.out.alloc HB1.out.size (Obj.cells c.cells 40))
  have HC2 := Lib.hid (HCv.out.next (below_alloc1 w1 (Obj.cells c.cells 40)))
  have HX2 := Lib.hid (Box.new w1 40 c.cells)
  clear HB1 HCv
  generalize w1.alloc (Obj.cells c.cells 40) = w2 at *
  generalize w1.heap.size = gc at *
  obtain ⟨y0, y1, y2, y3, y4⟩ := ccells HX2.out
  go_wp2_with fail
  go_ret2
  exact ⟨c, rfl, HOf.out, HC2.out, HB2.out⟩
set_option maxRecDepth 100000 in
set_option maxHeartbeats 4000000 in
theorem rdate_any (r : CatRow) (hr : r ∈ catR) (gr : Nat) (day : Int) (w : World) (hv : Env w) (hx : RegIn w gr) : Calls Tryz.prog 7 #[.pointer (some ⟨gr, 0, none⟩), .string (str r.nm), .int .i64 day] w (DateQ r day w) := by
  have HB := Lib.hid (below_alloc1 w (Obj.cells #[.int .i64 0, .int .i64 0, .int .i64 0] 23))
  have HX := Lib.hid (Box.new w 23 #[.int .i64 0, .int .i64 0, .int .i64 0])
  have HF := Lib.hid (cfind_any r hr gr _ (hv.next HB.out) (Box.alloc hx (Obj.cells #[.int .i64 0, .int .i64 0, .int .i64 0] 23)))
  unfold FindQ entV at HF
  unfold DateQ
  clear hv hx
  go_enter Tryz.func7, Tryz.ntmps7
  go_wp2_with fail
  generalize w.alloc (Obj.cells #[.int .i64 0, .int .i64 0, .int .i64 0] 23) = W0 at *
  generalize hg : w.heap.size = g at *
  have HG := Lib.hid hg
  clear hg
  refine Calls.mono HF.out ?_
  rintro e w1 ⟨c, rfl, hof, hcv, hb1⟩
  have HX1 := Lib.hid (HX.out.below hb1)
  have HB1 : Hid (Below g w w1) := HB.out.trans (hb1.mono (by have := HX.out.lt; omega))
  have HOf := Lib.hid hof
  have HCv := Lib.hid hcv
  have HOk := Lib.hid hcv.ok
  clear hof hcv hb1 HX HB HF
  have hmd := meth_date
  go_wp2_with fail
  refine Calls.mono (adate_any c day w1 HCv.out) ?_
  rintro e w3 ⟨hb3, hc⟩
  have HX3 := Lib.hid (HX1.out.below hb3)
  have HB3 : Hid (Below g w w3) := HB1.out.trans (hb3.mono (by have := HX1.out.lt; omega))
  clear hb3 HX1 HB1 HCv hmd
  have rf : ∀ i, w3.frozen? ⟨g, i, none⟩ = false := fun i => HX3.out.free i
  have r0 : w3.cell? ⟨g, 0, none⟩ = some (.int .i64 0) := HX3.out.cell 0
  have r1 : w3.cell? ⟨g, 1, none⟩ = some (.int .i64 0) := HX3.out.cell 1
  have r2 : w3.cell? ⟨g, 2, none⟩ = some (.int .i64 0) := HX3.out.cell 2
  have hl := HX3.out.lt
  rcases hc with ⟨y, m, d, h1, h2, h3, rfl⟩ | ⟨h1, rfl⟩
  · have HH := Lib.hid (show -10000 ≤ y ∧ y ≤ 10000 ∧ IsOn c y m d day from ⟨h1, h2, h3⟩)
    clear h1 h2 h3
    go_wp2_with fail
    refine bodyPost_ret (v := .tuple #[.agg (dateC y ((m : Int) + 1) (d + 1)), .int .i64 0]) (by simp [results, Tryz.results7, go_sem, r0, r1, r2]) rfl ?_
    exact ⟨c, HOf.out, HOk.out, by rw [HG.out]; exact ((HB3.out.setCell (p := ⟨g, 0, none⟩) (Nat.le_refl _) _).setCell (p := ⟨g, 1, none⟩) (Nat.le_refl _) _).setCell (p := ⟨g, 2, none⟩) (Nat.le_refl _) _, .inl ⟨y, m, d, HH.out.1, HH.out.2.1, HH.out.2.2, rfl⟩⟩
  · have HH := Lib.hid h1
    clear h1
    go_wp2_with fail
    refine bodyPost_ret (v := .tuple #[.agg (dateC 0 0 0), .int .i64 3]) (by simp [results, Tryz.results7, go_sem, r0, r1, r2]) rfl ?_
    exact ⟨c, HOf.out, HOk.out, by rw [HG.out]; exact ((HB3.out.setCell (p := ⟨g, 0, none⟩) (Nat.le_refl _) _).setCell (p := ⟨g, 1, none⟩) (Nat.le_refl _) _).setCell (p := ⟨g, 2, none⟩) (Nat.le_refl _) _, .inr ⟨HH.out, rfl⟩⟩
end Go.Proofs.YtneeoghjddlenaaGreatDoor

/- Contract of convert's Turn, at a registry without calendars of its own. -/
namespace Go.Proofs.YtneeoghjddlenaaGreatDoor
open Go Go.RowKit
set_option linter.unusedVariables false

theorem infoDate3 : (Tryz.prog.info? 23).map (fun i => (i.zero, i.size, i.bytes)) = some (some (.agg #[.int .i64 0, .int .i64 0, .int .i64 0]), 3, 24) := by kernel_rfl
/-- what Turn says of a date on this day -/
def TurnT (r2 : CatRow) (day : Int) (u : Value) (w : World) : Prop := ∀ (A : Option Addr) (n c : Nat), u = .tuple #[.slice A n c, .int .i64 0] →
  ((n = 0 ∧ ∃ c2 : Cal, CalOf r2 c2 ∧ CalOk c2 ∧ ¬ (c2.ny (-10000) ≤ day ∧ day < c2.ny 10001)) ∨ (n = 1 ∧ ∃ (c2 : Cal) (g : Nat) (y : Int) (m : Nat) (d : Int), A = some ⟨g, 0, none⟩ ∧ CalOf r2 c2 ∧ CalOk c2 ∧ -10000 ≤ y ∧ y ≤ 10000 ∧ IsOn c2 y m d day ∧ g < w.heap.size ∧
    w.cell? ⟨g, 0, none⟩ = some (.int .i64 y) ∧ w.cell? ⟨g, 1, none⟩ = some (.int .i64 ((m : Int) + 1)) ∧ w.cell? ⟨g, 2, none⟩ = some (.int .i64 (d + 1))))
theorem TurnT.next {r2 : CatRow} {day : Int} (u : Value) (w w' : World) (hb : Below w.heap.size w w') (h : TurnT r2 day u w) : TurnT r2 day u w' := fun A n c e => by
  rcases h A n c e with h | ⟨h1, c2, g, y, m, d, h2, h3, h4, h5, h6, h7, h8, h9, h10, h11⟩
  · exact .inl h
  · exact .inr ⟨h1, c2, g, y, m, d, h2, h3, h4, h5, h6, h7, Nat.lt_of_lt_of_le h8 hb.size, (hb.cell (p := ⟨g, 0, none⟩) h8).trans h9, (hb.cell (p := ⟨g, 1, none⟩) h8).trans h10, (hb.cell (p := ⟨g, 2, none⟩) h8).trans h11⟩
def turnT (r2 : CatRow) (day : Int) : Told := ⟨fun u => ∃ (A : Option Addr) (n c : Nat), u = .tuple #[.slice A n c, .int .i64 0], TurnT r2 day⟩
/-- the dates that were found so far -/
def Found (c2 : Cal) (day : Int) (base : Nat) (v : Value) (w : World) : Prop :=
  (∃ (y : Int) (m : Nat) (d : Int), -10000 ≤ y ∧ y ≤ 10000 ∧ IsOn c2 y m d day ∧ w.ownsRow base 23 3 v 1 [.int .i64 y, .int .i64 ((m : Int) + 1), .int .i64 (d + 1)]) ∨ (v = .slice none 0 0 ∧ ¬ (c2.ny (-10000) ≤ day ∧ day < c2.ny 10001))
theorem Found.told {r2 : CatRow} {c2 : Cal} {day : Int} {base : Nat} {v : Value} {w : World} (hof : CalOf r2 c2) (ok : CalOk c2) (h : Found c2 day base v w) : (turnT r2 day).V (.tuple #[v, .int .i64 0]) ∧ (turnT r2 day).F (.tuple #[v, .int .i64 0]) w := by
  rcases h with ⟨y, m, d, h1, h2, h3, hown⟩ | ⟨rfl, hno⟩
  · have hlt := fun b hb => (own_lt hown b hb).2
    obtain ⟨g, cap, rfl⟩ := ownsRow_succ (k := 0) hown
    refine ⟨⟨_, _, _, rfl⟩, fun A n c e => ?_⟩
    have e2 : (some ⟨g, 0, none⟩ = A ∧ 0 + 1 = n ∧ cap = c) := by simpa using e
    obtain ⟨rfl, rfl, rfl⟩ := e2
    have q := fun i x hx => hown.cells (g := g) rfl i x hx
    simp only [addPlain, Nat.zero_add] at q
    exact .inr ⟨rfl, c2, g, y, m, d, rfl, hof, ok, h1, h2, h3, hlt g rfl, q 0 _ rfl, q 1 _ rfl, q 2 _ rfl⟩
  · refine ⟨⟨_, _, _, rfl⟩, fun A n c e => ?_⟩
    have e2 : (none = A ∧ 0 = n ∧ 0 = c) := by simpa using e
    obtain ⟨rfl, rfl, rfl⟩ := e2
    exact .inl ⟨rfl, c2, hof, ok, hno⟩

set_option maxRecDepth 100000 in
set_option maxHeartbeats 8000000 in
theorem turn_any (r1 r2 : CatRow) (hr1 : r1 ∈ catR) (hr2 : r2 ∈ catR) (c0 : Cal) (hof0 : CalOf r1 c0) (gr : Nat) (y : Int) (m : Nat) (d day : Int) (w : World) (hv : Env w) (hx : RegIn w gr) (hy1 : -10000 ≤ y) (hy2 : y ≤ 10000) (ho : IsOn c0 y m d day) (hd1 : -4000000 ≤ day) (hd2 : day ≤ 4000000) :
    Calls Tryz.prog 10 #[.pointer (some ⟨gr, 0, none⟩), .string (str r1.nm), .agg #[.int .i64 y, .int .i64 ((m : Int) + 1), .int .i64 (d + 1)], .string (str r2.nm)] w
      fun e w' => ∃ v, e = .returned v ∧ (turnT r2 day).V v ∧ (turnT r2 day).F v w' ∧ Below w.heap.size w w' := by
  obtain ⟨i0, hi0, hz0, hz1, hz2⟩ := info_parts infoDate3
  have HB := Lib.hid (below_alloc1 w (Obj.cells #[.int .i64 y, .int .i64 ((m : Int) + 1), .int .i64 (d + 1)] 23))
  have HX := Lib.hid (Box.new w 23 #[.int .i64 y, .int .i64 ((m : Int) + 1), .int .i64 (d + 1)])
  have HE := Lib.hid (hv.next HB.out)
  have HR := Lib.hid (Box.alloc hx (Obj.cells #[.int .i64 y, .int .i64 ((m : Int) + 1), .int .i64 (d + 1)] 23))
  have HF1 := Lib.hid (fun W (h : Env W) (hx : RegIn W gr) => cfind_any r1 hr1 gr W h hx)
  have HF2 := Lib.hid (fun W (h : Env W) (hx : RegIn W gr) => cfind_any r2 hr2 gr W h hx)
  have HDs : Hid (∀ c W, CalOf r1 c → CalV W c → Calls Tryz.prog 183 #[c.val, .agg #[.int .i64 y, .int .i64 ((m : Int) + 1), .int .i64 (d + 1)]] W fun e w' => ∃ gd, e = .returned (.slice (some ⟨gd, 0, none⟩) 1 1) ∧ Box w' gd 3 #[.int .i64 day] ∧ W.heap.size ≤ gd ∧ Below W.heap.size W w') := fun c W hof hcv =>
    adays_any c y m d day W hcv hy1 hy2 ((hof0.on hof _ _ _ _).1 ho) hd1 hd2
  have hday := Lib.hid (show -4000000 ≤ day ∧ day ≤ 4000000 from ⟨hd1, hd2⟩)
  unfold FindQ entV at HF1 HF2
  clear hv hx ho hd1 hd2 hof0
  go_enter Tryz.func10, Tryz.ntmps10
  go_wp2_with fail
  generalize w.alloc (Obj.cells #[.int .i64 y, .int .i64 ((m : Int) + 1), .int .i64 (d + 1)] 23) = W0 at *
  generalize hg : w.heap.size = g at *
  have HG := Lib.hid hg
  clear hg
  refine Calls.mono (HF1.out W0 HE.out HR.out) ?_
  rintro e w1 ⟨c, rfl, hof, hcv, hb1⟩
  have HX1 := Lib.hid (HX.out.below hb1)
  have HB1 : Hid (Below g w w1) := HB.out.trans (hb1.mono (by have := HX.out.lt; omega))
  have HE1 := Lib.hid (HE.out.next hb1)
  have HR1 := Lib.hid (Box.below HR.out hb1)
  have HOf := Lib.hid hof
  have HCv := Lib.hid hcv
  clear hof hcv hb1 HX HB HE HR HF1
  go_wp2_with fail
  refine Calls.mono (HF2.out w1 HE1.out HR1.out) ?_
  rintro e w2 ⟨c2, rfl, hof2, hcv2, hb2⟩
  have HX2 := Lib.hid (HX1.out.below hb2)
  have HB2 : Hid (Below g w w2) := HB1.out.trans (hb2.mono (by have := HX1.out.lt; omega))
  have HOf2 := Lib.hid hof2
  have HCv2 := Lib.hid hcv2
  have HOk2 := Lib.hid hcv2.ok
  have HC1 := Lib.hid (HCv.out.next hb2)
  clear hof2 hcv2 hb2 HX1 HB1 HE1 HR1 HF2 HCv
  have y0 : w2.cell? ⟨g, 0, none⟩ = some (.int .i64 y) := HX2.out.cell 0
  have y1 : w2.cell? ⟨g, 1, none⟩ = some (.int .i64 ((m : Int) + 1)) := HX2.out.cell 1
  have y2 : w2.cell? ⟨g, 2, none⟩ = some (.int .i64 (d + 1)) := HX2.out.cell 2
  have hmd := meth_date
  have hms := meth_days
  go_wp2_with fail
  refine Calls.mono (HDs.out c w2 HOf.out HC1.out) ?_
  rintro e w3 ⟨gl, rfl, hxl, hgl, hb3⟩
  have HB3 : Hid (Below g w w3) := HB2.out.trans (hb3.mono (by have := HX2.out.lt; omega))
  have hg3 : g ≤ w3.heap.size := by have := HX2.out.lt; have := hb3.size; omega
  have HL3 := Lib.hid hxl
  have HC3 := Lib.hid (HCv2.out.next hb3)
  clear hb3 hxl HX2 HB2 HC1 HCv2 y0 y1 y2 HDs HOf hms hgl
  go_wp2_with fail
  go_loopw [13, 15, 16, 17, 40] (fun v13 _ _ _ i wr => Hid (Below w3.heap.size w3 wr) ∧ ((i = .int .i64 0 ∧ v13 = .slice none 0 0) ∨ (i = .int .i64 1 ∧ Hid (Found c2 day w3.heap.size v13 wr)))) (fun _ _ _ _ i _ => 1 - (intOf i).toNat)
  case atStart => exact ⟨Below.refl _ _, .inl ⟨rfl, rfl⟩⟩
  case round =>
    obtain ⟨hbr, hor⟩ := hrel
    have HBr := Lib.hid (HB3.out.trans (hbr.out.mono hg3))
    rcases hor with ⟨rfl, rfl⟩ | ⟨rfl, hfd⟩
    · have z0 : wr.cell? ⟨gl, 0, none⟩ = some (.int .i64 day) := (HL3.out.below hbr.out).cell 0
      have HCr := Lib.hid (HC3.out.next hbr.out)
      go_wp2_with fail
      refine Calls.mono (adate_any c2 day wr HCr.out) ?_
      rintro e w5 ⟨hb5, hc⟩
      have HR5 := Lib.hid (below_then hbr.out hb5)
      clear hb5 z0 HCr hbr HBr
      rcases hc with ⟨y', m', d', h1, h2, h3, rfl⟩ | ⟨h1, rfl⟩
      · have HH := Lib.hid (show -10000 ≤ y' ∧ y' ≤ 10000 ∧ IsOn c2 y' m' d' day from ⟨h1, h2, h3⟩)
        clear h1 h2 h3
        go_upto_region 13 with fail
        have HR6 := Lib.hid (below_then HR5.out (below_alloc1 w5 (Obj.cells #[.int .i64 y', .int .i64 ((m' : Int) + 1), .int .i64 (d' + 1)] 23)))
        have HD6 := Lib.hid (Box.new w5 23 #[.int .i64 y', .int .i64 ((m' : Int) + 1), .int .i64 (d' + 1)])
        clear HR5
        generalize w5.alloc (Obj.cells #[.int .i64 y', .int .i64 ((m' : Int) + 1), .int .i64 (d' + 1)] 23) = w6 at *
        generalize w5.heap.size = gd at *
        have z0 : w6.cell? ⟨gd, 0, none⟩ = some (.int .i64 y') := HD6.out.cell 0
        have z1 : w6.cell? ⟨gd, 1, none⟩ = some (.int .i64 ((m' : Int) + 1)) := HD6.out.cell 1
        have z2 : w6.cell? ⟨gd, 2, none⟩ = some (.int .i64 (d' + 1)) := HD6.out.cell 2
        have hsz := HR6.out.size
        go_wp2_with (at_builtin; refine wpList_append_own _ rfl (.tmp 52) (.tmp 54) 31 rfl w3.heap.size 23 i0 (.agg #[.int .i64 0, .int .i64 0, .int .i64 0]) 3 24 Tryz.underlying31 hi0 hz0 hz1 hz2 rfl (by decide) (.slice none 0 0) 0 [] rfl (World.ownsRow_nil _ _ _ _) ⟨w6.heap.size, 0, none⟩ 1 1 [.int .i64 y', .int .i64 ((m' : Int) + 1), .int .i64 (d' + 1)] rfl rfl ?c1 ?c2 ?c3 ?c4 ?c5 ?_)
        case c1 => exact fun j u hj => World.news_of_block (cs := #[.int .i64 y', .int .i64 ((m' : Int) + 1), .int .i64 (d' + 1)]) (t := 23) (fr := (0, 0)) (heap_alloc_new w6 _) j u hj
        case c2 => simp [Value.oneCell']
        case c3 => unfold maxLen; omega
        case c4 => omega
        case c5 => simp only [World.size_alloc]; omega
        intro v' w7 hown' hgrow _
        have HFd : Hid (Found c2 day w3.heap.size v' w7) := .inl ⟨y', m', d', HH.out.1, HH.out.2.1, HH.out.2.2, hown'⟩
        have HB7 := Lib.hid ((HR6.out.alloc hsz (Obj.cells #[.int .i64 y', .int .i64 ((m' : Int) + 1), .int .i64 (d' + 1)] 23)).grown hgrow (by simp only [World.size_alloc]; omega) (fun b hb => by cases hb))
        clear hgrow hown' HR6 HD6 z0 z1 z2
        go_wp2_with fail
        go_roundw
        case rel => exact ⟨HB7, .inr ⟨rfl, HFd⟩⟩
        case measure => simp [intOf]
      · have HNo : Hid (¬ (c2.ny (-10000) ≤ day ∧ day < c2.ny 10001)) := fun h => h1 ⟨hday.out.1, hday.out.2, h.1, h.2⟩
        clear h1
        go_wp2_with fail
        have HR6 := Lib.hid (below_then HR5.out (below_alloc1 w5 (Obj.cells #[.int .i64 0, .int .i64 0, .int .i64 0] 23)))
        go_roundw
        case rel => exact ⟨HR6, .inr ⟨rfl, .inr ⟨rfl, HNo.out⟩⟩⟩
        case measure => simp [intOf]
    · have hT := hfd.out.told HOf2.out HOk2.out
      have HT1 := Lib.hid hT.1
      have HT2 := Lib.hid hT.2
      clear hbr hT hfd
      go_wp2_with fail
      go_ret2
      exact ⟨.tuple #[u13, .int .i64 0], rfl, HT1.out, HT2.out, by rw [HG.out]; exact HBr.out⟩
end Go.Proofs.YtneeoghjddlenaaGreatDoor
