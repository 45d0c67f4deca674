/- Sv16, Tm1, Tm2, Tm3, Tm4, Tm5, Tm6, TmPl2, Sv19, TmPl3, TopCut -/
import Derived.Deep.DeepCutAuto
import Derived.Test.YtoaflcnphijhpaaGreatDoorGSv7
import Derived.Test.YtoaflcnphijhpaaGreatDoorGSv2
import Derived.Test.YtoaflcnphijhpaaGreatDoorGFe1
import Derived.Test.YtoaflcnphijhpaaGreatDoorGFeArg
import Derived.Test.YtoaflcnphijhpaaGreatDoorGSliceFind
import Derived.Test.YtoaflcnphijhpaaGreatDoorGFlowAt
import Derived.Test.YtoaflcnphijhpaaGreatDoorGMoon1
import Derived.Test.YtoaflcnphijhpaaGreatDoorGLine1
/- Contracts of solve.check, Has, First and Next. -/
namespace Go.Proofs.YtoaflcnphijhpaaGreatDoor
open Go Go.RowKit
attribute [local go_sem] Oper.semAt_some
set_option linter.unusedVariables false

/-- what check says -/
def ChkQ (t : FE) (ds : List Int) (w : World) (e : Ending) (w' : World) : Prop := ∃ E : Int, e = .returned (.int .i64 E) ∧ (E = 0 ↔ FeGood t ∧ ∀ d ∈ ds, DayIn d) ∧ Below w.heap.size w w'
theorem ints_at (ds : List Int) (j : Nat) (h : j < ds.length) : (ints ds)[j]? = some (.int .i64 (ds.getD j 0)) := by
  unfold ints
  rw [List.getElem?_map, List.getD_eq_getElem?_getD, List.getElem?_eq_getElem h]
  rfl
set_option maxHeartbeats 2000000 in
set_option maxRecDepth 100000 in
theorem check_any (t : FE) (ds : List Int) (b0 o0 cp : Nat) (w : World) (hv : Env w) (hin : FeIn w w.heap.size t) (hb0 : b0 < w.heap.size) (hc0 : ∀ j, j < ds.length → w.cell? ⟨b0, o0 + j, none⟩ = some (.int .i64 (ds.getD j 0))) (hl : ds.length ≤ 100) :
    Calls Tryz.prog 43 #[feV t, .slice (some ⟨b0, o0, none⟩) ds.length cp] w (ChkQ t ds w) := by
  obtain ⟨k, a, b, nm, A, c, ks⟩ := t
  show Calls Tryz.prog 43 #[.agg #[.int .i64 k, .int .i64 a, .int .i64 b, .string nm, .slice A ks.length c], .slice (some ⟨b0, o0, none⟩) ds.length cp] w _
  have hba := below_alloc1 w (Obj.cells #[.int .i64 k, .int .i64 a, .int .i64 b, .string nm, .slice A ks.length c] 25)
  have HX := Lib.hid (Box.new w 25 #[.int .i64 k, .int .i64 a, .int .i64 b, .string nm, .slice A ks.length c])
  have HCk := Lib.hid (fcheck_any (.node k a b nm A c ks) (w.alloc (Obj.cells #[.int .i64 k, .int .i64 a, .int .i64 b, .string nm, .slice A ks.length c] 25)) (hv.next hba) (hin.next hba hba.size))
  have HB := Lib.hid hba
  have HC0 := Lib.hid hc0
  have HD := Lib.hid (fun n W => isDay_any n W)
  unfold FCheckQ at HCk
  obtain ⟨G, hG⟩ : ∃ G : Prop, G = FeGood (.node k a b nm A c ks) := ⟨_, rfl⟩
  rw [← hG] at HCk
  have HGe := Lib.hid hG
  clear hba hv hin hc0 hG
  go_enter Tryz.func43, Tryz.ntmps43
  go_upto_region 1 with fail
  generalize w.alloc (Obj.cells #[.int .i64 k, .int .i64 a, .int .i64 b, .string nm, .slice A ks.length c] 25) = W1 at *
  obtain ⟨x0, x1, x2, x3, x4⟩ := fecells HX.out
  go_wp2_with fail
  refine HCk.out.mono ?_
  rintro e w2 ⟨E, rfl, hE, hb2⟩
  have HB2 := Lib.hid (below_then HB.out hb2)
  have HE := Lib.hid hE
  clear hb2 hE HCk HB x0 x1 x2 x3 x4 HX
  by_cases hE0 : E = 0
  case neg =>
    have t1 : (E != 0) = true := by rw [bne_iff_ne]; exact hE0
    have HR : Hid (E = 0 ↔ FeGood (.node k a b nm A c ks) ∧ ∀ d ∈ ds, DayIn d) := ⟨fun h => absurd h hE0, fun h => HE.out.2 (by rw [HGe.out]; exact h.1)⟩
    clear hE0 HE
    go_wp2_with fail
    go_ret
    exact ⟨E, rfl, HR.out, HB2.out⟩
  subst hE0
  have HGd := Lib.hid (HE.out.1 rfl)
  clear HE
  go_wp2_with fail
  go_loopw [7, 15] (fun _ i wr => ∃ j : Nat, j ≤ ds.length ∧ i = .int .i64 (j : Int) ∧ wr = w2 ∧ Hid (∀ i, i < j → DayIn (ds.getD i 0))) (fun _ i _ => ds.length - (intOf i).toNat)
  case atStart => exact ⟨0, by omega, rfl, rfl, fun i hi => by omega⟩
  case round =>
    obtain ⟨j, hj, rfl, rfl, hall⟩ := hrel
    by_cases hlt : j < ds.length
    case neg =>
      have hje : ds.length ≤ j := by omega
      have HR : Hid (FeGood (.node k a b nm A c ks) ∧ ∀ d ∈ ds, DayIn d) := ⟨by rw [← HGe.out]; exact HGd.out, fun d hd => by
        obtain ⟨i, hi, rfl⟩ := List.getElem_of_mem hd
        have := hall.out i (by omega)
        simpa [List.getD, hi] using this⟩
      go_wp2_with fail
      go_ret
      exact ⟨0, rfl, ⟨fun _ => HR.out, fun _ => rfl⟩, HB2.out⟩
    have hcell := (HB2.out.cell (p := ⟨b0, o0 + j, none⟩) hb0).trans (HC0.out j hlt)
    have hmem : ds.getD j 0 ∈ ds := by
      rw [List.getD_eq_getElem?_getD, List.getElem?_eq_getElem hlt]
      exact List.getElem_mem hlt
    have HMm := Lib.hid hmem
    obtain ⟨d, hd⟩ : ∃ d, d = ds.getD j 0 := ⟨_, rfl⟩
    rw [← hd] at hcell HMm
    have HDe := Lib.hid hd
    have HD1 := Lib.hid (fun W => HD.out d W)
    clear hmem hd
    by_cases hdd : -4000000 ≤ d ∧ d ≤ 4000000
    · rw [decide_eq_true hdd] at HD1
      have HAll : Hid (∀ i, i < j + 1 → DayIn (ds.getD i 0)) := fun i hi => by
        by_cases e : i = j
        · rw [e, ← HDe.out]; exact hdd
        · exact hall.out i (by omega)
      clear hdd hall
      go_wp2_with (go_at_call 41; refine (HD1.out _).mono ?_; rintro e w' ⟨rfl, rfl⟩)
      go_roundw
      case rel => exact ⟨j + 1, by omega, by go_num, by first | rfl | trivial, HAll⟩
      case measure => simp [intOf]; omega
    · rw [decide_eq_false hdd] at HD1
      have HR : Hid (¬ (FeGood (.node k a b nm A c ks) ∧ ∀ d ∈ ds, DayIn d)) := fun h => hdd (h.2 d HMm.out)
      clear hdd hall
      go_wp2_with (go_at_call 41; refine (HD1.out _).mono ?_; rintro e w' ⟨rfl, rfl⟩)
      go_ret
      exact ⟨3, rfl, ⟨fun h => by omega, fun h => absurd h HR.out⟩, HB2.out⟩

theorem one_at (day : Int) (g1 : Nat) (W : World) (hc : W.cell? ⟨g1, 0, none⟩ = some (.int .i64 day)) : ∀ j, j < [day].length → W.cell? ⟨g1, 0 + j, none⟩ = some (.int .i64 ([day].getD j 0)) := by
  intro j hj
  obtain rfl : j = 0 := by simpa using hj
  exact hc
/-- what Has says -/
def HasQ (t : FE) (day : Int) (w : World) (e : Ending) (w' : World) : Prop := ∃ (is : Bool) (E : Int), e = .returned (.tuple #[.bool is, .int .i64 E]) ∧ (E = 0 ↔ FeGood t ∧ DayIn day) ∧ (E = 0 → (is = true ↔ memF t day)) ∧ (E ≠ 0 → is = false) ∧ Below w.heap.size w w'
set_option maxHeartbeats 2000000 in
set_option maxRecDepth 100000 in
theorem has_any (t : FE) (day : Int) (w : World) (hv : Env w) (hin : FeIn w w.heap.size t) : Calls Tryz.prog 22 #[feV t, .int .i64 day] w (HasQ t day w) := by
  have HV := Lib.hid (fun W (h : Below w.heap.size w W) => hv.next h)
  have HIn := Lib.hid (fun W (h : Below w.heap.size w W) => hin.next h h.size)
  clear hv hin
  obtain ⟨t0, ht0⟩ : ∃ t0, t0 = t := ⟨_, rfl⟩
  obtain ⟨k, a, b, nm, A, c, ks⟩ := t
  have HCk := Lib.hid (fun g1 W (h : Below w.heap.size w W) (hg : g1 < W.heap.size) (hc : W.cell? ⟨g1, 0, none⟩ = some (.int .i64 day)) => check_any (.node k a b nm A c ks) [day] g1 0 1 W (HV.out W h) (HIn.out W h) hg (one_at day g1 W hc) (by simp))
  have HOp := Lib.hid (fun (hok : FeOk (.node k a b nm A c ks)) W (h : Below w.heap.size w W) => open_any W (HV.out W h) (.node k a b nm A c ks) (HIn.out W h) hok W (Below.refl _ _))
  have HSt := Lib.hid (fun (hg : FeGood (.node k a b nm A c ks)) (hd : DayIn day) (T : ST) (p : Nat → Prop) W (h : StAt W p T (.node k a b nm A c ks)) => set_any h hg.ok W day day 1 (Below.refl _ _) (by omega) (by have := hg.ht; have := hd.1; omega) (by have := hg.ht; have := hd.2; omega) (by omega) (by have := hg.ht; omega))
  rw [← ht0] at HCk HOp HSt ⊢
  have HT0 := Lib.hid ht0
  have hfe : feV t0 = .agg #[.int .i64 k, .int .i64 a, .int .i64 b, .string nm, .slice A ks.length c] := by rw [ht0]; rfl
  rw [hfe] at HCk HOp ⊢
  have HB := Lib.hid (below_alloc2 w (Obj.cells #[.int .i64 k, .int .i64 a, .int .i64 b, .string nm, .slice A ks.length c] 25) (Obj.cells #[.int .i64 day] 3))
  have HX := Lib.hid ((Box.new w 25 #[.int .i64 k, .int .i64 a, .int .i64 b, .string nm, .slice A ks.length c]).alloc (Obj.cells #[.int .i64 day] 3))
  have hY := Box.new (w.alloc (Obj.cells #[.int .i64 k, .int .i64 a, .int .i64 b, .string nm, .slice A ks.length c] 25)) 3 #[.int .i64 day]
  rw [World.size_alloc] at hY
  have HY := Lib.hid hY
  have xb := Box.new w 25 #[.int .i64 k, .int .i64 a, .int .i64 b, .string nm, .slice A ks.length c]
  obtain ⟨x0, x1, x2, x3, x4⟩ := fecells xb
  unfold ChkQ at HCk
  unfold OpenQ at HOp
  unfold SetQ at HSt
  clear ht0 hfe hY
  go_enter Tryz.func22, Tryz.ntmps22
  go_wp2_with fail
  clear x0 x1 x2 x3 x4 xb
  generalize (w.alloc (Obj.cells #[.int .i64 k, .int .i64 a, .int .i64 b, .string nm, .slice A ks.length c] 25)).alloc (Obj.cells #[.int .i64 day] 3) = W2 at *
  refine (HCk.out _ W2 HB.out HY.out.lt (HY.out.cell 0)).mono ?_
  rintro e w3 ⟨E, rfl, hE, hb3⟩
  have HB3 := Lib.hid (below_then HB.out hb3)
  have HX3 := Lib.hid (HX.out.below hb3)
  have HE := Lib.hid hE
  clear hb3 hE HCk HB HX HY
  by_cases hE0 : E = 0
  case neg =>
    have t1 : (E != 0) = true := by rw [bne_iff_ne]; exact hE0
    have HR : Hid ((E = 0 ↔ FeGood t0 ∧ DayIn day) ∧ E ≠ 0) := ⟨⟨fun h => absurd h hE0, fun h => HE.out.2 ⟨h.1, fun d hd => by rw [List.mem_singleton] at hd; rw [hd]; exact h.2⟩⟩, hE0⟩
    clear hE0 HE
    go_wp2_with fail
    go_ret2
    exact ⟨false, E, rfl, HR.out.1, fun h => absurd h HR.out.2, fun _ => rfl, HB3.out⟩
  subst hE0
  have HGd := Lib.hid (HE.out.1 rfl)
  have hok := HGd.out.1.ok
  have HOk := Lib.hid hok
  clear HE hok
  obtain ⟨x0, x1, x2, x3, x4⟩ := fecells HX3.out
  go_wp2_with fail
  refine (HOp.out HOk.out w3 HB3.out).mono ?_
  rintro e w4 ⟨T, rfl, hT, hb4⟩
  have HB4 := Lib.hid (below_then HB3.out hb4)
  have HS4 := Lib.hid (HSt.out HGd.out.1 (HGd.out.2 day (by simp)) T _ w4 hT)
  clear hT hb4 HOp HSt HX3 x0 x1 x2 x3 x4
  go_wp2_with fail
  refine HS4.out.mono ?_
  rintro e w5 ⟨gs, rfl, hbs, _, hb5⟩
  have HB5 := Lib.hid (below_then HB4.out hb5)
  obtain ⟨L, hL, hLc, hLm⟩ := hbs.list
  obtain ⟨x, hx⟩ : ∃ x, L[0]? = some x := ⟨_, List.getElem?_eq_getElem (by omega)⟩
  have hcx : w5.cell? ⟨gs, 0, none⟩ = some (.bool x) := hLc 0 x hx
  have hxm : x = true ↔ memF t0 day := by
    have := hLm 0 (by omega)
    rw [List.getD_eq_getElem?_getD, hx] at this
    simpa using this
  have HXm := Lib.hid hxm
  have HR : Hid (FeGood t0 ∧ DayIn day) := ⟨HGd.out.1, HGd.out.2 day (by simp)⟩
  clear hb5 HB4 HS4 hLc hLm hx hxm hbs
  go_wp2_with fail
  go_ret2
  exact ⟨x, 0, rfl, ⟨fun _ => HR.out, fun _ => rfl⟩, fun _ => HXm.out, fun h => absurd rfl h, HB5.out⟩
end Go.Proofs.YtoaflcnphijhpaaGreatDoor

/- Contracts of terms.none, Check and check. -/
namespace Go.Proofs.YtoaflcnphijhpaaGreatDoor
open Go Go.RowKit
attribute [local go_sem] Oper.semAt_some
set_option linter.unusedVariables false

/-- what none says -/
def NoneQ (t : FE) (w : World) (e : Ending) (w' : World) : Prop := ∃ B : Bool, e = .returned (.bool B) ∧ (B = true ↔ NoneF t) ∧ Below w.heap.size w w'
theorem NoneQ.yes {t : FE} {w w' : World} (h : NoneF t) (hb : Below w.heap.size w w') : NoneQ t w (.returned (.bool true)) w' := ⟨true, rfl, ⟨fun _ => h, fun _ => rfl⟩, hb⟩
theorem NoneQ.no {t : FE} {w w' : World} (h : ¬ NoneF t) (hb : Below w.heap.size w w') : NoneQ t w (.returned (.bool false)) w' := ⟨false, rfl, ⟨fun e => (by cases e), fun p => absurd p h⟩, hb⟩
set_option maxRecDepth 100000 in
theorem none_any (t : FE) (w : World) : Calls Tryz.prog 77 #[feV t] w (NoneQ t w) := by
  obtain ⟨k, a, b, nm, A, c, ks⟩ := t
  show Calls Tryz.prog 77 #[.agg #[.int .i64 k, .int .i64 a, .int .i64 b, .string nm, .slice A ks.length c]] w _
  have HB := Lib.hid (below_alloc1 w (Obj.cells #[.int .i64 k, .int .i64 a, .int .i64 b, .string nm, .slice A ks.length c] 25))
  have hx := Box.new w 25 #[.int .i64 k, .int .i64 a, .int .i64 b, .string nm, .slice A ks.length c]
  obtain ⟨x0, x1, x2, x3, x4⟩ := fecells hx
  have hE := nm_emptyF nm
  have hP : Hid (NoneF (.node k a b nm A c ks) ↔ (k = 0 ∧ a = 0 ∧ b = 0 ∧ nm.size = 0 ∧ ks.length = 0)) := Iff.rfl
  clear hx
  by_cases c1 : k = 0
  case neg =>
    have t1 : (k == 0) = false := by rw [beq_eq_false_iff_ne]; exact c1
    have HN : Hid (¬ NoneF (.node k a b nm A c ks)) := fun h => c1 (hP.out.1 h).1
    clear c1
    go_enter Tryz.func77, Tryz.ntmps77
    go_wp2_with fail
    go_ret
    exact NoneQ.no HN.out HB.out
  have t1 : (k == 0) = true := by rw [beq_iff_eq]; exact c1
  have C1 := Lib.hid c1
  clear c1
  by_cases c2 : a = 0
  case neg =>
    have t2 : (a == 0) = false := by rw [beq_eq_false_iff_ne]; exact c2
    have HN : Hid (¬ NoneF (.node k a b nm A c ks)) := fun h => c2 (hP.out.1 h).2.1
    clear c2
    go_enter Tryz.func77, Tryz.ntmps77
    go_wp2_with fail
    go_ret
    exact NoneQ.no HN.out HB.out
  have t2 : (a == 0) = true := by rw [beq_iff_eq]; exact c2
  have C2 := Lib.hid c2
  clear c2
  by_cases c3 : b = 0
  case neg =>
    have t3 : (b == 0) = false := by rw [beq_eq_false_iff_ne]; exact c3
    have HN : Hid (¬ NoneF (.node k a b nm A c ks)) := fun h => c3 (hP.out.1 h).2.2.1
    clear c3
    go_enter Tryz.func77, Tryz.ntmps77
    go_wp2_with fail
    go_ret
    exact NoneQ.no HN.out HB.out
  have t3 : (b == 0) = true := by rw [beq_iff_eq]; exact c3
  have C3 := Lib.hid c3
  clear c3
  by_cases c4 : nm.size = 0
  case neg =>
    rw [decide_eq_false c4] at hE
    have HN : Hid (¬ NoneF (.node k a b nm A c ks)) := fun h => c4 (hP.out.1 h).2.2.2.1
    clear c4
    go_enter Tryz.func77, Tryz.ntmps77
    go_wp2_with fail
    go_ret
    exact NoneQ.no HN.out HB.out
  rw [decide_eq_true c4] at hE
  have C4 := Lib.hid c4
  clear c4
  by_cases c5 : ks.length = 0
  · have t5 : ((ks.length : Int) == 0) = true := by rw [beq_iff_eq]; omega
    have t5' : (ks.length == 0) = true := by rw [beq_iff_eq]; exact c5
    have HY : Hid (NoneF (.node k a b nm A c ks)) := hP.out.2 ⟨C1.out, C2.out, C3.out, C4.out, c5⟩
    clear c5
    go_enter Tryz.func77, Tryz.ntmps77
    go_wp2_with fail
    go_ret
    exact NoneQ.yes HY.out HB.out
  · have t5 : ((ks.length : Int) == 0) = false := by rw [beq_eq_false_iff_ne]; omega
    have t5' : (ks.length == 0) = false := by rw [beq_eq_false_iff_ne]; exact c5
    have HN : Hid (¬ NoneF (.node k a b nm A c ks)) := fun h => c5 (hP.out.1 h).2.2.2.2
    clear c5
    go_enter Tryz.func77, Tryz.ntmps77
    go_wp2_with fail
    go_ret
    exact NoneQ.no HN.out HB.out

theorem wkcells {w : World} {g : Nat} {Ar : Option Addr} {n cr : Nat} {k a b : Int} {nm : ByteArray} {A : Option Addr} {l c : Nat} (h : Box w g 27 #[.slice Ar n cr, .int .i64 k, .int .i64 a, .int .i64 b, .string nm, .slice A l c]) :
    w.cell? ⟨g, 0, none⟩ = some (.slice Ar n cr) ∧ w.cell? ⟨g, 1, none⟩ = some (.int .i64 k) ∧ w.cell? ⟨g, 2, none⟩ = some (.int .i64 a) ∧ w.cell? ⟨g, 3, none⟩ = some (.int .i64 b) ∧ w.cell? ⟨g, 4, none⟩ = some (.string nm) ∧ w.cell? ⟨g, 5, none⟩ = some (.slice A l c) := ⟨h.cell 0, h.cell 1, h.cell 2, h.cell 3, h.cell 4, h.cell 5⟩
/-- what Check says -/
def WCheckQ (x : Wk) (w : World) (e : Ending) (w' : World) : Prop := ∃ E : Int, e = .returned (.int .i64 E) ∧ (E = 0 ↔ WkGood x.rs x.t) ∧ Below w.heap.size w w'
theorem WCheckQ.no {x : Wk} {w w' : World} {E : Int} (h : ¬ WkGood x.rs x.t) (hE : E ≠ 0) (hb : Below w.heap.size w w') : WCheckQ x w (.returned (.int .i64 E)) w' := ⟨E, rfl, ⟨fun e => absurd e hE, fun p => absurd p h⟩, hb⟩
set_option maxHeartbeats 2000000 in
set_option maxRecDepth 100000 in
theorem wcheck_any (x : Wk) (w : World) (hv : Env w) (hin : WkIn w w.heap.size x) : Calls Tryz.prog 74 #[wkV x] w (WCheckQ x w) := by
  obtain ⟨rs, Ar, cr, t⟩ := x
  have HRow : Hid (Row w w.heap.size Ar (ints rs)) := hin.row
  have hln : rs.length ≤ maxLen := hin.ln
  unfold maxLen at hln
  have HCk := Lib.hid (fun W (h : Below w.heap.size w W) => fcheck_any t W (hv.next h) (hin.fe.next h h.size))
  have HNo := Lib.hid (fun W => none_any t W)
  unfold FCheckQ at HCk
  unfold NoneQ at HNo
  have HG : Hid (∀ E W', ¬ WkGood rs t → E ≠ 0 → Below w.heap.size w W' → WCheckQ ⟨rs, Ar, cr, t⟩ w (.returned (.int .i64 E)) W') := fun E W' a b c => WCheckQ.no a b c
  have HY : Hid (∀ W', WkGood rs t → Below w.heap.size w W' → WCheckQ ⟨rs, Ar, cr, t⟩ w (.returned (.int .i64 0)) W') := fun W' a c => ⟨0, rfl, ⟨fun _ => a, fun _ => rfl⟩, c⟩
  generalize WCheckQ ⟨rs, Ar, cr, t⟩ w = POST at *
  clear hv hin
  obtain ⟨t0, ht0⟩ : ∃ t0, t0 = t := ⟨_, rfl⟩
  obtain ⟨k, a, b, nm, A, c, ks⟩ := t
  show Calls Tryz.prog 74 #[.agg #[.slice Ar rs.length cr, .int .i64 k, .int .i64 a, .int .i64 b, .string nm, .slice A ks.length c]] w _
  rw [← ht0] at HCk HNo HG HY
  have hfe : feV t0 = .agg #[.int .i64 k, .int .i64 a, .int .i64 b, .string nm, .slice A ks.length c] := by rw [ht0]; rfl
  rw [hfe] at HCk HNo
  have HB := Lib.hid (below_alloc1 w (Obj.cells #[.slice Ar rs.length cr, .int .i64 k, .int .i64 a, .int .i64 b, .string nm, .slice A ks.length c] 27))
  have HX := Lib.hid (Box.new w 27 #[.slice Ar rs.length cr, .int .i64 k, .int .i64 a, .int .i64 b, .string nm, .slice A ks.length c])
  clear ht0 hfe
  go_enter Tryz.func74, Tryz.ntmps74
  go_upto_region 1 with fail
  generalize w.alloc (Obj.cells #[.slice Ar rs.length cr, .int .i64 k, .int .i64 a, .int .i64 b, .string nm, .slice A ks.length c] 27) = W1 at *
  obtain ⟨x0, x1, x2, x3, x4, x5⟩ := wkcells HX.out
  by_cases h6 : 6 < rs.length
  · have t1 : decide ((6 : Int) < (rs.length : Int)) = true := decide_eq_true (by omega)
    have t1' : decide (6 < rs.length) = true := decide_eq_true h6
    have HN : Hid (¬ WkGood rs t0) := fun h => by have := h.1.ln; omega
    go_wp2_with fail
    exact HG.out 2 _ HN.out (by omega) HB.out
  have t1 : decide ((6 : Int) < (rs.length : Int)) = false := decide_eq_false (by omega)
  go_wp2_with fail
  go_loopw [3, 4, 12] (fun _ _ i wr => ∃ j : Nat, j ≤ rs.length ∧ i = .int .i64 (j : Int) ∧ wr = W1 ∧ Hid (∀ i, i < j → (0 ≤ rs.getD i 0 ∧ rs.getD i 0 ≤ 6) ∧ (0 < i → rs.getD (i - 1) 0 < rs.getD i 0))) (fun _ _ i _ => rs.length - (intOf i).toNat)
  case atStart => exact ⟨0, by omega, rfl, rfl, fun i hi => by omega⟩
  case round =>
    obtain ⟨j, hj, rfl, rfl, hall⟩ := hrel
    by_cases hlt : j < rs.length
    case neg =>
      have hje : rs.length ≤ j := by omega
      have HR : Hid (RestOk rs) := ⟨by omega, fun i hi => (hall.out i (by omega)).1, fun i h0 hi => (hall.out i (by omega)).2 h0⟩
      have HNo1 := Lib.hid (HNo.out wr)
      clear hall hlt HNo
      go_wp2_with fail
      refine HNo1.out.mono ?_
      rintro e w3 ⟨B, rfl, hB, hb3⟩
      have HB3 := Lib.hid (below_then HB.out hb3)
      have HX3 := Lib.hid (HX.out.below hb3)
      have HBi := Lib.hid hB
      clear hb3 hB HNo1 HB HX x0 x1 x2 x3 x4 x5
      cases B with
      | true =>
        go_wp2_with fail
        exact HY.out _ ⟨HR.out, .inl (HBi.out.1 (by first | rfl | trivial))⟩ HB3.out
      | false =>
        have HNn : Hid (¬ NoneF t0) := fun h => by have := HBi.out.2 h; cases this
        have HCk3 := Lib.hid (HCk.out w3 HB3.out)
        obtain ⟨x0, x1, x2, x3, x4, x5⟩ := wkcells HX3.out
        clear HBi HCk
        go_wp2_with fail
        refine HCk3.out.mono ?_
        rintro e w4 ⟨E, rfl, hE, hb4⟩
        have HB4 := Lib.hid (below_then HB3.out hb4)
        have HE := Lib.hid hE
        clear hb4 hE HCk3 HB3 HX3 x0 x1 x2 x3 x4 x5
        go_wp2_with fail
        by_cases hE0 : E = 0
        · subst hE0
          exact HY.out _ ⟨HR.out, .inr (HE.out.1 rfl)⟩ HB4.out
        · exact HG.out E _ (fun h => h.2.elim HNn.out (fun h => hE0 (HE.out.2 h))) hE0 HB4.out
    obtain ⟨bb, o, rfl, hbb, hcc⟩ := HRow.out.open_ (ints_ne rs (by omega))
    have hcj := (HB.out.cell (p := ⟨bb, o + j, none⟩) hbb).trans (ints_cell hcc j hlt)
    obtain ⟨v, hv⟩ : ∃ v, v = rs.getD j 0 := ⟨_, rfl⟩
    rw [← hv] at hcj
    have HVe := Lib.hid hv
    have hlt2 : (j : Int) < (rs.length : Int) := by omega
    by_cases v0 : v < 0
    · have t2 : decide (v < 0) = true := decide_eq_true v0
      have HN : Hid (¬ WkGood rs t0) := fun h => by have := (h.1.rg j hlt).1; rw [← hv] at this; omega
      clear hv hall hcc
      go_wp2_with fail
      exact HG.out 3 _ HN.out (by omega) HB.out
    have t2 : decide (v < 0) = false := decide_eq_false v0
    by_cases v6 : 6 < v
    · have t3 : decide (6 < v) = true := decide_eq_true v6
      have HN : Hid (¬ WkGood rs t0) := fun h => by have := (h.1.rg j hlt).2; rw [← hv] at this; omega
      clear hv hall hcc
      go_wp2_with fail
      exact HG.out 3 _ HN.out (by omega) HB.out
    have t3 : decide (6 < v) = false := decide_eq_false v6
    by_cases hj0 : j = 0
    · have HAll : Hid (∀ i, i < j + 1 → (0 ≤ rs.getD i 0 ∧ rs.getD i 0 ≤ 6) ∧ (0 < i → rs.getD (i - 1) 0 < rs.getD i 0)) := fun i hi => by
        have e : i = j := by omega
        subst e
        rw [← hv]
        exact ⟨by omega, fun h => by omega⟩
      have t4 : decide ((0 : Int) < (j : Int)) = false := decide_eq_false (by omega)
      have t4' : decide (0 < j) = false := decide_eq_false (by omega)
      have hjn : ¬ 0 < j := by omega
      clear hv hall hcc hj0
      go_wp2_with fail
      go_roundw
      case rel => exact ⟨j + 1, by omega, by go_num, by first | rfl | trivial, HAll⟩
      case measure => simp [intOf]; omega
    obtain ⟨p, hp⟩ : ∃ p : Nat, p = j - 1 := ⟨_, rfl⟩
    have hpl : p < rs.length := by omega
    have hcp := (HB.out.cell (p := ⟨bb, o + p, none⟩) hbb).trans (ints_cell hcc p hpl)
    obtain ⟨u, hu⟩ : ∃ u, u = rs.getD p 0 := ⟨_, rfl⟩
    rw [← hu] at hcp
    have t4 : decide ((0 : Int) < (j : Int)) = true := decide_eq_true (by omega)
    have hj1 : 0 < j := by omega
    have ew : IntKind.i64.wrap ((j : Int) - 1) = (p : Int) := by rw [intFits _ (by omega) (by omega)]; omega
    have hpl2 : (p : Int) < (rs.length : Int) := by omega
    have hp0 : (0 : Int) ≤ (p : Int) := by omega
    by_cases hvu : v ≤ u
    · have t5 : decide (v ≤ u) = true := decide_eq_true hvu
      have HN : Hid (¬ WkGood rs t0) := fun h => by have := h.1.inc j hj1 hlt; rw [← hv, show j - 1 = p from by omega, ← hu] at this; omega
      clear hv hu hp hall hcc hj0
      go_wp2_with fail
      exact HG.out 9 _ HN.out (by omega) HB.out
    have t5 : decide (v ≤ u) = false := decide_eq_false hvu
    have HAll : Hid (∀ i, i < j + 1 → (0 ≤ rs.getD i 0 ∧ rs.getD i 0 ≤ 6) ∧ (0 < i → rs.getD (i - 1) 0 < rs.getD i 0)) := fun i hi => by
      by_cases e : i = j
      · subst e
        rw [show i - 1 = p from by omega, ← hv, ← hu]
        exact ⟨by omega, fun _ => by omega⟩
      · exact hall.out i (by omega)
    clear hv hu hp hall hcc hj0
    go_wp2_with fail
    go_roundw
    case rel => exact ⟨j + 1, by omega, by go_num, by first | rfl | trivial, HAll⟩
    case measure => simp [intOf]; omega
end Go.Proofs.YtoaflcnphijhpaaGreatDoor

/- Contract of terms.works. -/
namespace Go.Proofs.YtoaflcnphijhpaaGreatDoor
open Go Go.RowKit
attribute [local go_sem] Oper.semAt_some
set_option linter.unusedVariables false

theorem BoolsAt.put {w : World} {g : Nat} {low : Int} {n : Nat} {M M' : Int → Prop} (h : BoolsAt w g low n M) (j : Nat) (hj : j < n) (B : Bool) (h1 : B = true ↔ M' (low + (j : Int))) (h2 : ∀ d, low ≤ d → d < low + n → d ≠ low + (j : Int) → (M d ↔ M' d)) : BoolsAt (w.setCell ⟨g, j, none⟩ (.bool B)) g low n M' := by
  obtain ⟨cs, h3, h4, h5⟩ := h
  refine ⟨_, h3.set_ _ _, by simpa using h4, fun i hi => ?_⟩
  by_cases he : j = i
  · subst he
    exact ⟨B, Array.getElem?_setIfInBounds_self_of_lt (by omega), h1⟩
  · obtain ⟨b, h6, h7⟩ := h5 i hi
    exact ⟨b, by rw [Array.getElem?_setIfInBounds_ne he]; exact h6, h7.trans (h2 _ (by omega) (by omega) (by omega))⟩
/-- what works says -/
def WorksQ (x : Wk) (low : Int) (n : Nat) (w : World) (e : Ending) (w' : World) : Prop := ∃ gs, e = .returned (.slice (some ⟨gs, 0, none⟩) n n) ∧ BoolsAt w' gs low n (WorkD x.rs x.t) ∧ w.heap.size ≤ gs ∧ Below w.heap.size w w'
set_option maxHeartbeats 8000000 in
set_option maxRecDepth 100000 in
theorem works_any (x : Wk) (w : World) (hv : Env w) (hin : WkIn w w.heap.size x) (hg : WkGood x.rs x.t) (low high : Int) (n : Nat) (hhigh : high = low + n - 1) (hlo : -5000000 ≤ low) (hhi : high ≤ 5000000) (hn : 1 ≤ n) (hn2 : n ≤ 3000) :
    Calls Tryz.prog 39 #[wkV x, .int .i64 low, .int .i64 high] w (WorksQ x low n w) := by
  obtain ⟨rs, Ar, cr, t⟩ := x
  have HRow : Hid (Row w w.heap.size Ar (ints rs)) := hin.row
  have hln0 : rs.length ≤ maxLen := hin.ln
  have HGd : Hid (NoneF t ∨ FeGood t) := hg.2
  have HNo := Lib.hid (fun W => none_any t W)
  have HOp := Lib.hid (fun (hok : FeOk t) W (h : Below w.heap.size w W) => open_any W (hv.next h) t (hin.fe.next h h.size) hok W (Below.refl _ _))
  have HSt := Lib.hid (fun (hf : FeGood t) (T : ST) (p : Nat → Prop) W (h : StAt W p T t) => set_any h hf.ok W low high n (Below.refl _ _) hhigh (by have := hf.ht; omega) (by have := hf.ht; omega) hn (by have := hf.ht; omega))
  unfold NoneQ at HNo
  unfold OpenQ at HOp
  unfold SetQ at HSt
  unfold WorksQ
  show Calls Tryz.prog 39 #[wkV ⟨rs, Ar, cr, t⟩, .int .i64 low, .int .i64 high] w fun e w' => ∃ gs, e = .returned (.slice (some ⟨gs, 0, none⟩) n n) ∧ BoolsAt w' gs low n (WorkD rs t) ∧ w.heap.size ≤ gs ∧ Below w.heap.size w w'
  have hmk := fun W => run_make_row' (P := Tryz.prog) 88 4 (.bool false) 1 Tryz.underlying88 sv_infoBool rfl .i64 .i64 n (by omega) (by omega) W
  have ew1 : IntKind.i64.wrap (high - low) = (n : Int) - 1 := by rw [intFits _ (by omega) (by omega)]; omega
  have ew2 : IntKind.i64.wrap ((n : Int) - 1 + 1) = (n : Int) := by rw [intFits _ (by omega) (by omega)]; omega
  have hhi3 : low + n - 1 ≤ 5000000 := by omega
  clear hv hin hg hhigh
  obtain ⟨t0, ht0⟩ : ∃ t0, t0 = t := ⟨_, rfl⟩
  obtain ⟨k, a, b, nm, A, c, ks⟩ := t
  show Calls Tryz.prog 39 #[.agg #[.slice Ar rs.length cr, .int .i64 k, .int .i64 a, .int .i64 b, .string nm, .slice A ks.length c], .int .i64 low, .int .i64 high] w _
  rw [← ht0] at HGd HNo HOp HSt ⊢
  have hfe : feV t0 = .agg #[.int .i64 k, .int .i64 a, .int .i64 b, .string nm, .slice A ks.length c] := by rw [ht0]; rfl
  rw [hfe] at HNo HOp
  have HB := Lib.hid (below_alloc2 w (Obj.cells #[.slice Ar rs.length cr, .int .i64 k, .int .i64 a, .int .i64 b, .string nm, .slice A ks.length c] 27) (Obj.cells (madeCells #[.bool false] n) 4))
  have HX := Lib.hid ((Box.new w 27 #[.slice Ar rs.length cr, .int .i64 k, .int .i64 a, .int .i64 b, .string nm, .slice A ks.length c]).alloc (Obj.cells (madeCells #[.bool false] n) 4))
  have hs := Box.new (w.alloc (Obj.cells #[.slice Ar rs.length cr, .int .i64 k, .int .i64 a, .int .i64 b, .string nm, .slice A ks.length c] 27)) 4 (madeCells #[.bool false] n)
  rw [World.size_alloc] at hs
  have HS : Hid (BoolsAt ((w.alloc (Obj.cells #[.slice Ar rs.length cr, .int .i64 k, .int .i64 a, .int .i64 b, .string nm, .slice A ks.length c] 27)).alloc (Obj.cells (madeCells #[.bool false] n) 4)) (w.heap.size + 1) low n (fun _ => False)) := ⟨_, hs, made_size n, fun i hi => ⟨false, made_get n i hi, ⟨fun h => (by cases h), fun h => h.elim⟩⟩⟩
  clear ht0 hfe hs
  go_enter Tryz.func39, Tryz.ntmps39
  go_upto_region 3 with fail
  generalize (w.alloc (Obj.cells #[.slice Ar rs.length cr, .int .i64 k, .int .i64 a, .int .i64 b, .string nm, .slice A ks.length c] 27)).alloc (Obj.cells (madeCells #[.bool false] n) 4) = W2 at *
  obtain ⟨g, hgg⟩ : ∃ g, g = w.heap.size := ⟨_, rfl⟩
  rw [← hgg] at HX HS ⊢
  obtain ⟨gs, hgs⟩ : ∃ gs, gs = g + 1 := ⟨_, rfl⟩
  rw [← hgs] at HS ⊢
  have hgl : g < gs := by omega
  have hwl : w.heap.size ≤ gs := by omega
  have HGG := Lib.hid hgg
  clear hgg hgs hmk ew1 ew2
  obtain ⟨x0, x1, x2, x3, x4, x5⟩ := wkcells HX.out
  go_wp2_with fail
  refine (HNo.out W2).mono ?_
  rintro e w1 ⟨B, rfl, hB, hb1⟩
  have HB1 := Lib.hid (below_then HB.out hb1)
  have HX1 := Lib.hid (HX.out.below hb1)
  have HS1 := Lib.hid (HS.out.next hb1)
  have HBi := Lib.hid hB
  clear hb1 hB HB HX HS HNo x0 x1 x2 x3 x4 x5
  cases B with
  | true =>
    have HNn : Hid (NoneF t0) := HBi.out.1 rfl
    clear HBi HOp HSt HGd
    go_wp2_with fail
    go_loopw [9, 10, 28] (fun _ _ i wr => ∃ j : Nat, j ≤ n ∧ i = .int .i64 (j : Int) ∧ Hid (Box wr g 27 #[.slice Ar rs.length cr, .int .i64 k, .int .i64 a, .int .i64 b, .string nm, .slice A ks.length c]) ∧ Hid (BoolsAt wr gs low n (fun d => WorkD rs t0 d ∧ d < low + (j : Int))) ∧ Hid (Below w.heap.size w wr)) (fun _ _ i _ => n - (intOf i).toNat)
    case atStart => exact ⟨0, by omega, rfl, HX1, HS1.out.same (fun d h1 h2 => ⟨fun h => h.elim, fun h => by omega⟩), HB1⟩
    case round =>
      obtain ⟨j, hj, rfl, hX, hbs, hbr⟩ := hrel
      clear HX1 HS1 HB1 
      by_cases hlt : j < n
      case neg =>
        have hje : n ≤ j := by omega
        go_wp2_with fail
        go_ret
        exact ⟨gs, rfl, hbs.out.same fun d h1 h2 => ⟨fun h => h.1, fun h => ⟨h, by omega⟩⟩, hwl, hbr.out⟩
      have hlt2 : (j : Int) < (n : Int) := by omega
      have ew : IntKind.i64.wrap (low + (j : Int)) = low + (j : Int) := intFits _ (by omega) (by omega)
      have d0 : ∀ W, Below wr.heap.size wr W → W.cell? ⟨g, 0, none⟩ = some (.slice Ar rs.length cr) := fun W hW => (hX.out.below hW).cell 0
      go_upto_region 9 with fail
      clear ew
      obtain ⟨day, hday⟩ : ∃ day, day = low + (j : Int) := ⟨_, rfl⟩
      rw [← hday] at ⊢
      have HDe := Lib.hid hday
      have hdb : -9000000 ≤ day ∧ day ≤ 9000000 := by omega
      clear hday
      have HD := Lib.hid (fun W => isDay_any day W)
      obtain ⟨m, hm⟩ : ∃ m, m = (day - 1) % 7 := ⟨_, rfl⟩
      have HMd := Lib.hid (fun W => mod_pos (day - 1) 7 W (by omega) (by omega) (by omega) (by omega))
      rw [← hm] at HMd
      have HMe := Lib.hid hm
      have HCo := Lib.hid (fun W (h : Below w.heap.size w W) => contains_ints Ar cr rs m W ((HRow.out.below h).more h.size) hln0)
      have ew5 : IntKind.i64.wrap (day - 1) = day - 1 := intFits _ (by omega) (by omega)
      clear hm
      by_cases hd : -4000000 ≤ day ∧ day ≤ 4000000
      case neg =>
        rw [decide_eq_false hd] at HD
        have HV : Hid (false = true ↔ WorkD rs t0 (low + (j : Int)) ∧ low + (j : Int) < low + ((j + 1 : Nat) : Int)) := ⟨fun h => (by cases h), fun h => absurd (by rw [HDe.out]; exact h.1.1) hd⟩
        clear hd
        refine flow_begin_tail 25 (tellOf [(3, det (.bool false))]) (by kernel_rfl) (by kernel_rfl) ?_
        simp only [List.take_succ_cons, List.take_zero, List.drop_succ_cons, List.drop_zero]
        repeat (first | (refine flow_val (v := ?_) (by rfl) (by rfl) (fun w hb => ?_) ?_; rotate_left; (· ((go_simp) <;> ((repeat' apply And.intro) <;> with_reducible rfl))); try simp only [Act.put, List.setIfInBounds_toArray, List.set_cons_zero, List.set_cons_succ, Nat.reduceAdd]) | (refine flow_skip (by rfl) (by rfl) ?_; try simp only [Act.put, List.setIfInBounds_toArray, List.set_cons_zero, List.set_cons_succ, Nat.reduceAdd]))
        refine flow_call (f := ?_) (args := ?_) [] (by kernel_rfl) (by rfl) (by rfl) (fun w hb => ?_) (fun w hb hu => ?_) ?_; rotate_left 2; (· ((go_simp) <;> ((repeat' apply And.intro) <;> with_reducible rfl)))
        · exact (HD.out w).mono fun e w' ⟨he, hw⟩ => ⟨he, by subst hw; exact Below.refl _ _⟩
        try simp only [Act.put, List.setIfInBounds_toArray, List.set_cons_zero, List.set_cons_succ, Nat.reduceAdd]
        repeat (first | (refine flow_val (v := ?_) (by rfl) (by rfl) (fun w hb => ?_) ?_; rotate_left; (· ((go_simp) <;> ((repeat' apply And.intro) <;> with_reducible rfl))); try simp only [Act.put, List.setIfInBounds_toArray, List.set_cons_zero, List.set_cons_succ, Nat.reduceAdd]) | (refine flow_skip (by rfl) (by rfl) ?_; try simp only [Act.put, List.setIfInBounds_toArray, List.set_cons_zero, List.set_cons_succ, Nat.reduceAdd]))
        refine flow_nil fun w2 hb2 _ => ?_
        have hbs2 := hbs.out.next hb2
        have HX2 := Lib.hid (hX.out.below hb2)
        have HB2 := Lib.hid (below_then hbr.out hb2)

        have HP2 : Hid (BoolsAt (w2.setCell ⟨gs, j, none⟩ (.bool false)) gs low n (fun d => WorkD rs t0 d ∧ d < low + ((j + 1 : Nat) : Int))) := hbs2.put j hlt _ HV.out (fun d h1 h2 hne => ⟨fun h => ⟨h.1, by omega⟩, fun h => ⟨h.1, by omega⟩⟩)
        obtain ⟨cs2, hq1, hq2, hq3⟩ := hbs2
        obtain ⟨old, hq4, _⟩ := hq3 j hlt
        have hqc : w2.cell? ⟨gs, j, none⟩ = some (.bool old) := (hq1.cell j).trans hq4
        have hqf : w2.frozen? ⟨gs, j, none⟩ = false := hq1.free j
        have hql : gs < w2.heap.size := hq1.lt
        have HX3 : Hid (Box (w2.setCell ⟨gs, j, none⟩ (.bool false)) g 27 #[.slice Ar rs.length cr, .int .i64 k, .int .i64 a, .int .i64 b, .string nm, .slice A ks.length c]) := HX2.out.far (p := ⟨gs, j, none⟩) (by show g ≠ gs; omega) _
        have HB3 : Hid (Below w.heap.size w (w2.setCell ⟨gs, j, none⟩ (.bool false))) := HB2.out.setCell (p := ⟨gs, j, none⟩) (by show w.heap.size ≤ gs; omega) _

        clear hq1 hq2 hq3 hq4 hb2 HX2 HB2 hX hbs hbr d0 
        refine wpList_step fun K hK => ?_
        rw [if_pos (by rfl)]
        go_simp
        refine hK _ _ (wpList_nil ?_)
        clear hK K hqc hqf hql
        generalize w2.setCell ⟨gs, j, none⟩ (.bool false) = w3 at *
        go_wp2_with fail
        go_roundw
        case rel => exact ⟨j + 1, by omega, by go_num, HX3, HP2, HB3⟩
        case measure => simp [intOf]; omega
      rw [decide_eq_true hd] at HD
      have HDd : Hid (DayIn day) := hd
      clear hd
      by_cases hct : m ∈ rs
      · rw [decide_eq_true hct] at HCo
        have HV : Hid (false = true ↔ WorkD rs t0 (low + (j : Int)) ∧ low + (j : Int) < low + ((j + 1 : Nat) : Int)) := ⟨fun h => (by cases h), fun h => absurd hct (by rw [HMe.out, HDe.out]; exact h.1.2.1)⟩
        clear hct
        refine flow_begin_tail 25 (tellOf [(3, det (.bool true)), (9, det (.int .i64 m)), (10, det (.bool true))]) (by kernel_rfl) (by kernel_rfl) ?_
        simp only [List.take_succ_cons, List.take_zero, List.drop_succ_cons, List.drop_zero]
        repeat (first | (refine flow_val (v := ?_) (by rfl) (by rfl) (fun w hb => ?_) ?_; rotate_left; (· ((go_simp) <;> ((repeat' apply And.intro) <;> with_reducible rfl))); try simp only [Act.put, List.setIfInBounds_toArray, List.set_cons_zero, List.set_cons_succ, Nat.reduceAdd]) | (refine flow_skip (by rfl) (by rfl) ?_; try simp only [Act.put, List.setIfInBounds_toArray, List.set_cons_zero, List.set_cons_succ, Nat.reduceAdd]))
        refine flow_call (f := ?_) (args := ?_) [] (by kernel_rfl) (by rfl) (by rfl) (fun w hb => ?_) (fun w hb hu => ?_) ?_; rotate_left 2; (· ((go_simp) <;> ((repeat' apply And.intro) <;> with_reducible rfl)))
        · exact (HD.out w).mono fun e w' ⟨he, hw⟩ => ⟨he, by subst hw; exact Below.refl _ _⟩
        try simp only [Act.put, List.setIfInBounds_toArray, List.set_cons_zero, List.set_cons_succ, Nat.reduceAdd]
        repeat (first | (refine flow_val (v := ?_) (by rfl) (by rfl) (fun w hb => ?_) ?_; rotate_left; (· ((go_simp) <;> ((repeat' apply And.intro) <;> with_reducible rfl))); try simp only [Act.put, List.setIfInBounds_toArray, List.set_cons_zero, List.set_cons_succ, Nat.reduceAdd]) | (refine flow_skip (by rfl) (by rfl) ?_; try simp only [Act.put, List.setIfInBounds_toArray, List.set_cons_zero, List.set_cons_succ, Nat.reduceAdd]))
        refine flow_call (f := ?_) (args := ?_) [] (by kernel_rfl) (by rfl) (by rfl) (fun w hb => ?_) (fun w hb hu => ?_) ?_; rotate_left 2; (· ((go_simp) <;> ((repeat' apply And.intro) <;> with_reducible rfl)))
        · exact (HMd.out w).mono fun e w' ⟨he, nq, hw⟩ => ⟨he, by rw [hw]; exact below_drewN _ _⟩
        try simp only [Act.put, List.setIfInBounds_toArray, List.set_cons_zero, List.set_cons_succ, Nat.reduceAdd]
        repeat (first | (refine flow_val (v := ?_) (by rfl) (by rfl) (fun w hb => ?_) ?_; rotate_left; (· ((go_simp) <;> ((repeat' apply And.intro) <;> with_reducible rfl))); try simp only [Act.put, List.setIfInBounds_toArray, List.set_cons_zero, List.set_cons_succ, Nat.reduceAdd]) | (refine flow_skip (by rfl) (by rfl) ?_; try simp only [Act.put, List.setIfInBounds_toArray, List.set_cons_zero, List.set_cons_succ, Nat.reduceAdd]))
        refine flow_call (f := ?_) (args := ?_) [] (by kernel_rfl) (by rfl) (by rfl) (fun w hb => ?_) (fun w hb hu => ?_) ?_; rotate_left 2; (· ((go_simp) <;> ((repeat' apply And.intro) <;> with_reducible rfl)))
        · exact (HCo.out w (below_then hbr.out hb)).mono fun e w' ⟨he, hw⟩ => ⟨he, by subst hw; exact Below.refl _ _⟩
        try simp only [Act.put, List.setIfInBounds_toArray, List.set_cons_zero, List.set_cons_succ, Nat.reduceAdd]
        repeat (first | (refine flow_val (v := ?_) (by rfl) (by rfl) (fun w hb => ?_) ?_; rotate_left; (· ((go_simp) <;> ((repeat' apply And.intro) <;> with_reducible rfl))); try simp only [Act.put, List.setIfInBounds_toArray, List.set_cons_zero, List.set_cons_succ, Nat.reduceAdd]) | (refine flow_skip (by rfl) (by rfl) ?_; try simp only [Act.put, List.setIfInBounds_toArray, List.set_cons_zero, List.set_cons_succ, Nat.reduceAdd]))
        refine flow_nil fun w2 hb2 _ => ?_
        have hbs2 := hbs.out.next hb2
        have HX2 := Lib.hid (hX.out.below hb2)
        have HB2 := Lib.hid (below_then hbr.out hb2)

        have HP2 : Hid (BoolsAt (w2.setCell ⟨gs, j, none⟩ (.bool false)) gs low n (fun d => WorkD rs t0 d ∧ d < low + ((j + 1 : Nat) : Int))) := hbs2.put j hlt _ HV.out (fun d h1 h2 hne => ⟨fun h => ⟨h.1, by omega⟩, fun h => ⟨h.1, by omega⟩⟩)
        obtain ⟨cs2, hq1, hq2, hq3⟩ := hbs2
        obtain ⟨old, hq4, _⟩ := hq3 j hlt
        have hqc : w2.cell? ⟨gs, j, none⟩ = some (.bool old) := (hq1.cell j).trans hq4
        have hqf : w2.frozen? ⟨gs, j, none⟩ = false := hq1.free j
        have hql : gs < w2.heap.size := hq1.lt
        have HX3 : Hid (Box (w2.setCell ⟨gs, j, none⟩ (.bool false)) g 27 #[.slice Ar rs.length cr, .int .i64 k, .int .i64 a, .int .i64 b, .string nm, .slice A ks.length c]) := HX2.out.far (p := ⟨gs, j, none⟩) (by show g ≠ gs; omega) _
        have HB3 : Hid (Below w.heap.size w (w2.setCell ⟨gs, j, none⟩ (.bool false))) := HB2.out.setCell (p := ⟨gs, j, none⟩) (by show w.heap.size ≤ gs; omega) _

        clear hq1 hq2 hq3 hq4 hb2 HX2 HB2 hX hbs hbr d0 
        refine wpList_step fun K hK => ?_
        rw [if_pos (by rfl)]
        go_simp
        refine hK _ _ (wpList_nil ?_)
        clear hK K hqc hqf hql
        generalize w2.setCell ⟨gs, j, none⟩ (.bool false) = w3 at *
        go_wp2_with fail
        go_roundw
        case rel => exact ⟨j + 1, by omega, by go_num, HX3, HP2, HB3⟩
        case measure => simp [intOf]; omega
      · rw [decide_eq_false hct] at HCo
        have HV : Hid (true = true ↔ WorkD rs t0 (low + (j : Int)) ∧ low + (j : Int) < low + ((j + 1 : Nat) : Int)) := ⟨fun _ => ⟨⟨by rw [← HDe.out]; exact HDd.out, by rw [← HDe.out, ← HMe.out]; exact hct, .inl HNn.out⟩, by omega⟩, fun _ => rfl⟩
        clear hct
        have hnil : ∀ w, (binOp .eql 88 (.slice none 0 0) (.slice none 0 0)).run Tryz.prog w = .ok (.bool true) w := fun w => Lib.run_eql_slice_nil w 88 _ _ _ _ _ _ Tryz.underlying88
        refine flow_begin_tail 25 (tellOf [(3, det (.bool true)), (9, det (.int .i64 m)), (10, det (.bool false))]) (by kernel_rfl) (by kernel_rfl) ?_
        simp only [List.take_succ_cons, List.take_zero, List.drop_succ_cons, List.drop_zero]
        repeat (first | (refine flow_val (v := ?_) (by rfl) (by rfl) (fun w hb => ?_) ?_; rotate_left; (· ((go_simp) <;> ((repeat' apply And.intro) <;> with_reducible rfl))); try simp only [Act.put, List.setIfInBounds_toArray, List.set_cons_zero, List.set_cons_succ, Nat.reduceAdd]) | (refine flow_skip (by rfl) (by rfl) ?_; try simp only [Act.put, List.setIfInBounds_toArray, List.set_cons_zero, List.set_cons_succ, Nat.reduceAdd]))
        refine flow_call (f := ?_) (args := ?_) [] (by kernel_rfl) (by rfl) (by rfl) (fun w hb => ?_) (fun w hb hu => ?_) ?_; rotate_left 2; (· ((go_simp) <;> ((repeat' apply And.intro) <;> with_reducible rfl)))
        · exact (HD.out w).mono fun e w' ⟨he, hw⟩ => ⟨he, by subst hw; exact Below.refl _ _⟩
        try simp only [Act.put, List.setIfInBounds_toArray, List.set_cons_zero, List.set_cons_succ, Nat.reduceAdd]
        repeat (first | (refine flow_val (v := ?_) (by rfl) (by rfl) (fun w hb => ?_) ?_; rotate_left; (· ((go_simp) <;> ((repeat' apply And.intro) <;> with_reducible rfl))); try simp only [Act.put, List.setIfInBounds_toArray, List.set_cons_zero, List.set_cons_succ, Nat.reduceAdd]) | (refine flow_skip (by rfl) (by rfl) ?_; try simp only [Act.put, List.setIfInBounds_toArray, List.set_cons_zero, List.set_cons_succ, Nat.reduceAdd]))
        refine flow_call (f := ?_) (args := ?_) [] (by kernel_rfl) (by rfl) (by rfl) (fun w hb => ?_) (fun w hb hu => ?_) ?_; rotate_left 2; (· ((go_simp) <;> ((repeat' apply And.intro) <;> with_reducible rfl)))
        · exact (HMd.out w).mono fun e w' ⟨he, nq, hw⟩ => ⟨he, by rw [hw]; exact below_drewN _ _⟩
        try simp only [Act.put, List.setIfInBounds_toArray, List.set_cons_zero, List.set_cons_succ, Nat.reduceAdd]
        repeat (first | (refine flow_val (v := ?_) (by rfl) (by rfl) (fun w hb => ?_) ?_; rotate_left; (· ((go_simp) <;> ((repeat' apply And.intro) <;> with_reducible rfl))); try simp only [Act.put, List.setIfInBounds_toArray, List.set_cons_zero, List.set_cons_succ, Nat.reduceAdd]) | (refine flow_skip (by rfl) (by rfl) ?_; try simp only [Act.put, List.setIfInBounds_toArray, List.set_cons_zero, List.set_cons_succ, Nat.reduceAdd]))
        refine flow_call (f := ?_) (args := ?_) [] (by kernel_rfl) (by rfl) (by rfl) (fun w hb => ?_) (fun w hb hu => ?_) ?_; rotate_left 2; (· ((go_simp) <;> ((repeat' apply And.intro) <;> with_reducible rfl)))
        · exact (HCo.out w (below_then hbr.out hb)).mono fun e w' ⟨he, hw⟩ => ⟨he, by subst hw; exact Below.refl _ _⟩
        try simp only [Act.put, List.setIfInBounds_toArray, List.set_cons_zero, List.set_cons_succ, Nat.reduceAdd]
        repeat (first | (refine flow_val (v := ?_) (by rfl) (by rfl) (fun w hb => ?_) ?_; rotate_left; (· ((go_simp) <;> ((repeat' apply And.intro) <;> with_reducible rfl))); try simp only [Act.put, List.setIfInBounds_toArray, List.set_cons_zero, List.set_cons_succ, Nat.reduceAdd]) | (refine flow_skip (by rfl) (by rfl) ?_; try simp only [Act.put, List.setIfInBounds_toArray, List.set_cons_zero, List.set_cons_succ, Nat.reduceAdd]))
        refine flow_nil fun w2 hb2 _ => ?_
        have hbs2 := hbs.out.next hb2
        have HX2 := Lib.hid (hX.out.below hb2)
        have HB2 := Lib.hid (below_then hbr.out hb2)

        have HP2 : Hid (BoolsAt (w2.setCell ⟨gs, j, none⟩ (.bool true)) gs low n (fun d => WorkD rs t0 d ∧ d < low + ((j + 1 : Nat) : Int))) := hbs2.put j hlt _ HV.out (fun d h1 h2 hne => ⟨fun h => ⟨h.1, by omega⟩, fun h => ⟨h.1, by omega⟩⟩)
        obtain ⟨cs2, hq1, hq2, hq3⟩ := hbs2
        obtain ⟨old, hq4, _⟩ := hq3 j hlt
        have hqc : w2.cell? ⟨gs, j, none⟩ = some (.bool old) := (hq1.cell j).trans hq4
        have hqf : w2.frozen? ⟨gs, j, none⟩ = false := hq1.free j
        have hql : gs < w2.heap.size := hq1.lt
        have HX3 : Hid (Box (w2.setCell ⟨gs, j, none⟩ (.bool true)) g 27 #[.slice Ar rs.length cr, .int .i64 k, .int .i64 a, .int .i64 b, .string nm, .slice A ks.length c]) := HX2.out.far (p := ⟨gs, j, none⟩) (by show g ≠ gs; omega) _
        have HB3 : Hid (Below w.heap.size w (w2.setCell ⟨gs, j, none⟩ (.bool true))) := HB2.out.setCell (p := ⟨gs, j, none⟩) (by show w.heap.size ≤ gs; omega) _

        clear hq1 hq2 hq3 hq4 hb2 HX2 HB2 hX hbs hbr d0 
        refine wpList_step fun K hK => ?_
        rw [if_pos (by rfl)]
        go_simp
        refine hK _ _ (wpList_nil ?_)
        clear hK K hqc hqf hql
        generalize w2.setCell ⟨gs, j, none⟩ (.bool true) = w3 at *
        go_wp2_with fail
        go_roundw
        case rel => exact ⟨j + 1, by omega, by go_num, HX3, HP2, HB3⟩
        case measure => simp [intOf]; omega
  | false =>
    have HNn : Hid (¬ NoneF t0) := fun h => by have := HBi.out.2 h; cases this
    have HF : Hid (FeGood t0) := HGd.out.resolve_left HNn.out
    obtain ⟨x0, x1, x2, x3, x4, x5⟩ := wkcells HX1.out
    clear HBi HGd
    go_wp2_with fail
    refine (HOp.out HF.out.ok w1 HB1.out).mono ?_
    rintro e w4 ⟨T, rfl, hT, hb4⟩
    have HB4 := Lib.hid (below_then HB1.out hb4)
    have HX4 := Lib.hid (HX1.out.below hb4)
    have HS4 := Lib.hid (HS1.out.next hb4)
    have HSe := Lib.hid (HSt.out HF.out T _ w4 hT)
    have hgsl : gs < w4.heap.size := by obtain ⟨_, q, _⟩ := HS4.out; exact q.lt
    clear hT hb4 HOp HSt HB1 HX1 HS1 x0 x1 x2 x3 x4 x5
    go_wp2_with fail
    refine HSe.out.mono ?_
    rintro e w5 ⟨gq, rfl, hq, hgq, hb5⟩
    have HB1 := Lib.hid (below_then HB4.out hb5)
    have HX1 := Lib.hid (HX4.out.below hb5)
    have HS1 := Lib.hid (HS4.out.next hb5)
    have HQ1 := Lib.hid hq
    have hqs : gs < gq := by omega
    clear hb5 hq hgq hgsl HSe HB4 HX4 HS4
    go_wp2_with fail
    go_loopw [9, 10, 28] (fun _ _ i wr => ∃ j : Nat, j ≤ n ∧ i = .int .i64 (j : Int) ∧ Hid (Box wr g 27 #[.slice Ar rs.length cr, .int .i64 k, .int .i64 a, .int .i64 b, .string nm, .slice A ks.length c]) ∧ Hid (BoolsAt wr gs low n (fun d => WorkD rs t0 d ∧ d < low + (j : Int))) ∧ Hid (Below w.heap.size w wr) ∧ Hid (BoolsAt wr gq low n (memF t0))) (fun _ _ i _ => n - (intOf i).toNat)
    case atStart => exact ⟨0, by omega, rfl, HX1, HS1.out.same (fun d h1 h2 => ⟨fun h => h.elim, fun h => by omega⟩), HB1, HQ1⟩
    case round =>
      obtain ⟨j, hj, rfl, hX, hbs, hbr, hfr⟩ := hrel
      clear HX1 HS1 HB1 HQ1
      by_cases hlt : j < n
      case neg =>
        have hje : n ≤ j := by omega
        go_wp2_with fail
        go_ret
        exact ⟨gs, rfl, hbs.out.same fun d h1 h2 => ⟨fun h => h.1, fun h => ⟨h, by omega⟩⟩, hwl, hbr.out⟩
      have hlt2 : (j : Int) < (n : Int) := by omega
      have ew : IntKind.i64.wrap (low + (j : Int)) = low + (j : Int) := intFits _ (by omega) (by omega)
      have d0 : ∀ W, Below wr.heap.size wr W → W.cell? ⟨g, 0, none⟩ = some (.slice Ar rs.length cr) := fun W hW => (hX.out.below hW).cell 0
      obtain ⟨L, hL, hLc, hLm⟩ := hfr.out.list
      obtain ⟨x, hx⟩ : ∃ x, L[j]? = some x := ⟨_, List.getElem?_eq_getElem (by omega)⟩
      have hxc := hLc j x hx
      have hqlt : gq < wr.heap.size := by obtain ⟨_, q, _⟩ := hfr.out; exact q.lt
      have dq : ∀ W, Below wr.heap.size wr W → W.cell? ⟨gq, j, none⟩ = some (.bool x) := fun W hW => (hW.cell (p := ⟨gq, j, none⟩) hqlt).trans hxc
      have hxm : x = true ↔ memF t0 (low + (j : Int)) := by
        have := hLm j hlt
        rwa [List.getD_eq_getElem?_getD, hx] at this
      have HXm := Lib.hid hxm
      clear hx hxm hxc hLc hLm
      go_upto_region 9 with fail
      clear ew
      obtain ⟨day, hday⟩ : ∃ day, day = low + (j : Int) := ⟨_, rfl⟩
      rw [← hday] at ⊢
      have HDe := Lib.hid hday
      have hdb : -9000000 ≤ day ∧ day ≤ 9000000 := by omega
      clear hday
      have HD := Lib.hid (fun W => isDay_any day W)
      obtain ⟨m, hm⟩ : ∃ m, m = (day - 1) % 7 := ⟨_, rfl⟩
      have HMd := Lib.hid (fun W => mod_pos (day - 1) 7 W (by omega) (by omega) (by omega) (by omega))
      rw [← hm] at HMd
      have HMe := Lib.hid hm
      have HCo := Lib.hid (fun W (h : Below w.heap.size w W) => contains_ints Ar cr rs m W ((HRow.out.below h).more h.size) hln0)
      have ew5 : IntKind.i64.wrap (day - 1) = day - 1 := intFits _ (by omega) (by omega)
      clear hm
      by_cases hd : -4000000 ≤ day ∧ day ≤ 4000000
      case neg =>
        rw [decide_eq_false hd] at HD
        have HV : Hid (false = true ↔ WorkD rs t0 (low + (j : Int)) ∧ low + (j : Int) < low + ((j + 1 : Nat) : Int)) := ⟨fun h => (by cases h), fun h => absurd (by rw [HDe.out]; exact h.1.1) hd⟩
        clear hd
        refine flow_begin_tail 25 (tellOf [(3, det (.bool false))]) (by kernel_rfl) (by kernel_rfl) ?_
        simp only [List.take_succ_cons, List.take_zero, List.drop_succ_cons, List.drop_zero]
        repeat (first | (refine flow_val (v := ?_) (by rfl) (by rfl) (fun w hb => ?_) ?_; rotate_left; (· ((go_simp) <;> ((repeat' apply And.intro) <;> with_reducible rfl))); try simp only [Act.put, List.setIfInBounds_toArray, List.set_cons_zero, List.set_cons_succ, Nat.reduceAdd]) | (refine flow_skip (by rfl) (by rfl) ?_; try simp only [Act.put, List.setIfInBounds_toArray, List.set_cons_zero, List.set_cons_succ, Nat.reduceAdd]))
        refine flow_call (f := ?_) (args := ?_) [] (by kernel_rfl) (by rfl) (by rfl) (fun w hb => ?_) (fun w hb hu => ?_) ?_; rotate_left 2; (· ((go_simp) <;> ((repeat' apply And.intro) <;> with_reducible rfl)))
        · exact (HD.out w).mono fun e w' ⟨he, hw⟩ => ⟨he, by subst hw; exact Below.refl _ _⟩
        try simp only [Act.put, List.setIfInBounds_toArray, List.set_cons_zero, List.set_cons_succ, Nat.reduceAdd]
        repeat (first | (refine flow_val (v := ?_) (by rfl) (by rfl) (fun w hb => ?_) ?_; rotate_left; (· ((go_simp) <;> ((repeat' apply And.intro) <;> with_reducible rfl))); try simp only [Act.put, List.setIfInBounds_toArray, List.set_cons_zero, List.set_cons_succ, Nat.reduceAdd]) | (refine flow_skip (by rfl) (by rfl) ?_; try simp only [Act.put, List.setIfInBounds_toArray, List.set_cons_zero, List.set_cons_succ, Nat.reduceAdd]))
        refine flow_nil fun w2 hb2 _ => ?_
        have hbs2 := hbs.out.next hb2
        have HX2 := Lib.hid (hX.out.below hb2)
        have HB2 := Lib.hid (below_then hbr.out hb2)
        have HQ2 := Lib.hid (hfr.out.next hb2)
        have HP2 : Hid (BoolsAt (w2.setCell ⟨gs, j, none⟩ (.bool false)) gs low n (fun d => WorkD rs t0 d ∧ d < low + ((j + 1 : Nat) : Int))) := hbs2.put j hlt _ HV.out (fun d h1 h2 hne => ⟨fun h => ⟨h.1, by omega⟩, fun h => ⟨h.1, by omega⟩⟩)
        obtain ⟨cs2, hq1, hq2, hq3⟩ := hbs2
        obtain ⟨old, hq4, _⟩ := hq3 j hlt
        have hqc : w2.cell? ⟨gs, j, none⟩ = some (.bool old) := (hq1.cell j).trans hq4
        have hqf : w2.frozen? ⟨gs, j, none⟩ = false := hq1.free j
        have hql : gs < w2.heap.size := hq1.lt
        have HX3 : Hid (Box (w2.setCell ⟨gs, j, none⟩ (.bool false)) g 27 #[.slice Ar rs.length cr, .int .i64 k, .int .i64 a, .int .i64 b, .string nm, .slice A ks.length c]) := HX2.out.far (p := ⟨gs, j, none⟩) (by show g ≠ gs; omega) _
        have HB3 : Hid (Below w.heap.size w (w2.setCell ⟨gs, j, none⟩ (.bool false))) := HB2.out.setCell (p := ⟨gs, j, none⟩) (by show w.heap.size ≤ gs; omega) _
        have HQ3 : Hid (BoolsAt (w2.setCell ⟨gs, j, none⟩ (.bool false)) gq low n (memF t0)) := by obtain ⟨cs, p1, p2, p3⟩ := HQ2.out; exact ⟨cs, p1.far (p := ⟨gs, j, none⟩) (by show gq ≠ gs; omega) _, p2, p3⟩
        clear hq1 hq2 hq3 hq4 hb2 HX2 HB2 hX hbs hbr d0 HQ2 hfr dq
        refine wpList_step fun K hK => ?_
        rw [if_pos (by rfl)]
        go_simp
        refine hK _ _ (wpList_nil ?_)
        clear hK K hqc hqf hql
        generalize w2.setCell ⟨gs, j, none⟩ (.bool false) = w3 at *
        go_wp2_with fail
        go_roundw
        case rel => exact ⟨j + 1, by omega, by go_num, HX3, HP2, HB3, HQ3⟩
        case measure => simp [intOf]; omega
      rw [decide_eq_true hd] at HD
      have HDd : Hid (DayIn day) := hd
      clear hd
      by_cases hct : m ∈ rs
      · rw [decide_eq_true hct] at HCo
        have HV : Hid (false = true ↔ WorkD rs t0 (low + (j : Int)) ∧ low + (j : Int) < low + ((j + 1 : Nat) : Int)) := ⟨fun h => (by cases h), fun h => absurd hct (by rw [HMe.out, HDe.out]; exact h.1.2.1)⟩
        clear hct
        refine flow_begin_tail 25 (tellOf [(3, det (.bool true)), (9, det (.int .i64 m)), (10, det (.bool true))]) (by kernel_rfl) (by kernel_rfl) ?_
        simp only [List.take_succ_cons, List.take_zero, List.drop_succ_cons, List.drop_zero]
        repeat (first | (refine flow_val (v := ?_) (by rfl) (by rfl) (fun w hb => ?_) ?_; rotate_left; (· ((go_simp) <;> ((repeat' apply And.intro) <;> with_reducible rfl))); try simp only [Act.put, List.setIfInBounds_toArray, List.set_cons_zero, List.set_cons_succ, Nat.reduceAdd]) | (refine flow_skip (by rfl) (by rfl) ?_; try simp only [Act.put, List.setIfInBounds_toArray, List.set_cons_zero, List.set_cons_succ, Nat.reduceAdd]))
        refine flow_call (f := ?_) (args := ?_) [] (by kernel_rfl) (by rfl) (by rfl) (fun w hb => ?_) (fun w hb hu => ?_) ?_; rotate_left 2; (· ((go_simp) <;> ((repeat' apply And.intro) <;> with_reducible rfl)))
        · exact (HD.out w).mono fun e w' ⟨he, hw⟩ => ⟨he, by subst hw; exact Below.refl _ _⟩
        try simp only [Act.put, List.setIfInBounds_toArray, List.set_cons_zero, List.set_cons_succ, Nat.reduceAdd]
        repeat (first | (refine flow_val (v := ?_) (by rfl) (by rfl) (fun w hb => ?_) ?_; rotate_left; (· ((go_simp) <;> ((repeat' apply And.intro) <;> with_reducible rfl))); try simp only [Act.put, List.setIfInBounds_toArray, List.set_cons_zero, List.set_cons_succ, Nat.reduceAdd]) | (refine flow_skip (by rfl) (by rfl) ?_; try simp only [Act.put, List.setIfInBounds_toArray, List.set_cons_zero, List.set_cons_succ, Nat.reduceAdd]))
        refine flow_call (f := ?_) (args := ?_) [] (by kernel_rfl) (by rfl) (by rfl) (fun w hb => ?_) (fun w hb hu => ?_) ?_; rotate_left 2; (· ((go_simp) <;> ((repeat' apply And.intro) <;> with_reducible rfl)))
        · exact (HMd.out w).mono fun e w' ⟨he, nq, hw⟩ => ⟨he, by rw [hw]; exact below_drewN _ _⟩
        try simp only [Act.put, List.setIfInBounds_toArray, List.set_cons_zero, List.set_cons_succ, Nat.reduceAdd]
        repeat (first | (refine flow_val (v := ?_) (by rfl) (by rfl) (fun w hb => ?_) ?_; rotate_left; (· ((go_simp) <;> ((repeat' apply And.intro) <;> with_reducible rfl))); try simp only [Act.put, List.setIfInBounds_toArray, List.set_cons_zero, List.set_cons_succ, Nat.reduceAdd]) | (refine flow_skip (by rfl) (by rfl) ?_; try simp only [Act.put, List.setIfInBounds_toArray, List.set_cons_zero, List.set_cons_succ, Nat.reduceAdd]))
        refine flow_call (f := ?_) (args := ?_) [] (by kernel_rfl) (by rfl) (by rfl) (fun w hb => ?_) (fun w hb hu => ?_) ?_; rotate_left 2; (· ((go_simp) <;> ((repeat' apply And.intro) <;> with_reducible rfl)))
        · exact (HCo.out w (below_then hbr.out hb)).mono fun e w' ⟨he, hw⟩ => ⟨he, by subst hw; exact Below.refl _ _⟩
        try simp only [Act.put, List.setIfInBounds_toArray, List.set_cons_zero, List.set_cons_succ, Nat.reduceAdd]
        repeat (first | (refine flow_val (v := ?_) (by rfl) (by rfl) (fun w hb => ?_) ?_; rotate_left; (· ((go_simp) <;> ((repeat' apply And.intro) <;> with_reducible rfl))); try simp only [Act.put, List.setIfInBounds_toArray, List.set_cons_zero, List.set_cons_succ, Nat.reduceAdd]) | (refine flow_skip (by rfl) (by rfl) ?_; try simp only [Act.put, List.setIfInBounds_toArray, List.set_cons_zero, List.set_cons_succ, Nat.reduceAdd]))
        refine flow_nil fun w2 hb2 _ => ?_
        have hbs2 := hbs.out.next hb2
        have HX2 := Lib.hid (hX.out.below hb2)
        have HB2 := Lib.hid (below_then hbr.out hb2)
        have HQ2 := Lib.hid (hfr.out.next hb2)
        have HP2 : Hid (BoolsAt (w2.setCell ⟨gs, j, none⟩ (.bool false)) gs low n (fun d => WorkD rs t0 d ∧ d < low + ((j + 1 : Nat) : Int))) := hbs2.put j hlt _ HV.out (fun d h1 h2 hne => ⟨fun h => ⟨h.1, by omega⟩, fun h => ⟨h.1, by omega⟩⟩)
        obtain ⟨cs2, hq1, hq2, hq3⟩ := hbs2
        obtain ⟨old, hq4, _⟩ := hq3 j hlt
        have hqc : w2.cell? ⟨gs, j, none⟩ = some (.bool old) := (hq1.cell j).trans hq4
        have hqf : w2.frozen? ⟨gs, j, none⟩ = false := hq1.free j
        have hql : gs < w2.heap.size := hq1.lt
        have HX3 : Hid (Box (w2.setCell ⟨gs, j, none⟩ (.bool false)) g 27 #[.slice Ar rs.length cr, .int .i64 k, .int .i64 a, .int .i64 b, .string nm, .slice A ks.length c]) := HX2.out.far (p := ⟨gs, j, none⟩) (by show g ≠ gs; omega) _
        have HB3 : Hid (Below w.heap.size w (w2.setCell ⟨gs, j, none⟩ (.bool false))) := HB2.out.setCell (p := ⟨gs, j, none⟩) (by show w.heap.size ≤ gs; omega) _
        have HQ3 : Hid (BoolsAt (w2.setCell ⟨gs, j, none⟩ (.bool false)) gq low n (memF t0)) := by obtain ⟨cs, p1, p2, p3⟩ := HQ2.out; exact ⟨cs, p1.far (p := ⟨gs, j, none⟩) (by show gq ≠ gs; omega) _, p2, p3⟩
        clear hq1 hq2 hq3 hq4 hb2 HX2 HB2 hX hbs hbr d0 HQ2 hfr dq
        refine wpList_step fun K hK => ?_
        rw [if_pos (by rfl)]
        go_simp
        refine hK _ _ (wpList_nil ?_)
        clear hK K hqc hqf hql
        generalize w2.setCell ⟨gs, j, none⟩ (.bool false) = w3 at *
        go_wp2_with fail
        go_roundw
        case rel => exact ⟨j + 1, by omega, by go_num, HX3, HP2, HB3, HQ3⟩
        case measure => simp [intOf]; omega
      · rw [decide_eq_false hct] at HCo
        have HV : Hid ((!x) = true ↔ WorkD rs t0 (low + (j : Int)) ∧ low + (j : Int) < low + ((j + 1 : Nat) : Int)) := by
          rw [Bool.not_eq_true']
          constructor
          · intro hx
            refine ⟨⟨by rw [← HDe.out]; exact HDd.out, by rw [← HDe.out, ← HMe.out]; exact hct, .inr fun hm => ?_⟩, by omega⟩
            have := HXm.out.2 hm
            rw [hx] at this
            cases this
          · intro h
            rw [Bool.eq_false_iff]
            intro hx
            exact h.1.2.2.elim HNn.out (fun h2 => h2 (HXm.out.1 hx))
        clear hct
        have hnil : ∀ w, (binOp .eql 88 (.slice (some ⟨gq, 0, none⟩) n n) (.slice none 0 0)).run Tryz.prog w = .ok (.bool false) w := fun w => Lib.run_eql_slice_nil w 88 _ _ _ _ _ _ Tryz.underlying88
        refine flow_begin_tail 25 (tellOf [(3, det (.bool true)), (9, det (.int .i64 m)), (10, det (.bool false))]) (by kernel_rfl) (by kernel_rfl) ?_
        simp only [List.take_succ_cons, List.take_zero, List.drop_succ_cons, List.drop_zero]
        repeat (first | (refine flow_val (v := ?_) (by rfl) (by rfl) (fun w hb => ?_) ?_; rotate_left; (· ((go_simp) <;> ((repeat' apply And.intro) <;> with_reducible rfl))); try simp only [Act.put, List.setIfInBounds_toArray, List.set_cons_zero, List.set_cons_succ, Nat.reduceAdd]) | (refine flow_skip (by rfl) (by rfl) ?_; try simp only [Act.put, List.setIfInBounds_toArray, List.set_cons_zero, List.set_cons_succ, Nat.reduceAdd]))
        refine flow_call (f := ?_) (args := ?_) [] (by kernel_rfl) (by rfl) (by rfl) (fun w hb => ?_) (fun w hb hu => ?_) ?_; rotate_left 2; (· ((go_simp) <;> ((repeat' apply And.intro) <;> with_reducible rfl)))
        · exact (HD.out w).mono fun e w' ⟨he, hw⟩ => ⟨he, by subst hw; exact Below.refl _ _⟩
        try simp only [Act.put, List.setIfInBounds_toArray, List.set_cons_zero, List.set_cons_succ, Nat.reduceAdd]
        repeat (first | (refine flow_val (v := ?_) (by rfl) (by rfl) (fun w hb => ?_) ?_; rotate_left; (· ((go_simp) <;> ((repeat' apply And.intro) <;> with_reducible rfl))); try simp only [Act.put, List.setIfInBounds_toArray, List.set_cons_zero, List.set_cons_succ, Nat.reduceAdd]) | (refine flow_skip (by rfl) (by rfl) ?_; try simp only [Act.put, List.setIfInBounds_toArray, List.set_cons_zero, List.set_cons_succ, Nat.reduceAdd]))
        refine flow_call (f := ?_) (args := ?_) [] (by kernel_rfl) (by rfl) (by rfl) (fun w hb => ?_) (fun w hb hu => ?_) ?_; rotate_left 2; (· ((go_simp) <;> ((repeat' apply And.intro) <;> with_reducible rfl)))
        · exact (HMd.out w).mono fun e w' ⟨he, nq, hw⟩ => ⟨he, by rw [hw]; exact below_drewN _ _⟩
        try simp only [Act.put, List.setIfInBounds_toArray, List.set_cons_zero, List.set_cons_succ, Nat.reduceAdd]
        repeat (first | (refine flow_val (v := ?_) (by rfl) (by rfl) (fun w hb => ?_) ?_; rotate_left; (· ((go_simp) <;> ((repeat' apply And.intro) <;> with_reducible rfl))); try simp only [Act.put, List.setIfInBounds_toArray, List.set_cons_zero, List.set_cons_succ, Nat.reduceAdd]) | (refine flow_skip (by rfl) (by rfl) ?_; try simp only [Act.put, List.setIfInBounds_toArray, List.set_cons_zero, List.set_cons_succ, Nat.reduceAdd]))
        refine flow_call (f := ?_) (args := ?_) [] (by kernel_rfl) (by rfl) (by rfl) (fun w hb => ?_) (fun w hb hu => ?_) ?_; rotate_left 2; (· ((go_simp) <;> ((repeat' apply And.intro) <;> with_reducible rfl)))
        · exact (HCo.out w (below_then hbr.out hb)).mono fun e w' ⟨he, hw⟩ => ⟨he, by subst hw; exact Below.refl _ _⟩
        try simp only [Act.put, List.setIfInBounds_toArray, List.set_cons_zero, List.set_cons_succ, Nat.reduceAdd]
        repeat (first | (refine flow_val (v := ?_) (by rfl) (by rfl) (fun w hb => ?_) ?_; rotate_left; (· ((go_simp) <;> ((repeat' apply And.intro) <;> with_reducible rfl))); try simp only [Act.put, List.setIfInBounds_toArray, List.set_cons_zero, List.set_cons_succ, Nat.reduceAdd]) | (refine flow_skip (by rfl) (by rfl) ?_; try simp only [Act.put, List.setIfInBounds_toArray, List.set_cons_zero, List.set_cons_succ, Nat.reduceAdd]))
        refine flow_nil fun w2 hb2 _ => ?_
        have hbs2 := hbs.out.next hb2
        have HX2 := Lib.hid (hX.out.below hb2)
        have HB2 := Lib.hid (below_then hbr.out hb2)
        have HQ2 := Lib.hid (hfr.out.next hb2)
        have HP2 : Hid (BoolsAt (w2.setCell ⟨gs, j, none⟩ (.bool (!x))) gs low n (fun d => WorkD rs t0 d ∧ d < low + ((j + 1 : Nat) : Int))) := hbs2.put j hlt _ HV.out (fun d h1 h2 hne => ⟨fun h => ⟨h.1, by omega⟩, fun h => ⟨h.1, by omega⟩⟩)
        obtain ⟨cs2, hq1, hq2, hq3⟩ := hbs2
        obtain ⟨old, hq4, _⟩ := hq3 j hlt
        have hqc : w2.cell? ⟨gs, j, none⟩ = some (.bool old) := (hq1.cell j).trans hq4
        have hqf : w2.frozen? ⟨gs, j, none⟩ = false := hq1.free j
        have hql : gs < w2.heap.size := hq1.lt
        have HX3 : Hid (Box (w2.setCell ⟨gs, j, none⟩ (.bool (!x))) g 27 #[.slice Ar rs.length cr, .int .i64 k, .int .i64 a, .int .i64 b, .string nm, .slice A ks.length c]) := HX2.out.far (p := ⟨gs, j, none⟩) (by show g ≠ gs; omega) _
        have HB3 : Hid (Below w.heap.size w (w2.setCell ⟨gs, j, none⟩ (.bool (!x)))) := HB2.out.setCell (p := ⟨gs, j, none⟩) (by show w.heap.size ≤ gs; omega) _
        have HQ3 : Hid (BoolsAt (w2.setCell ⟨gs, j, none⟩ (.bool (!x))) gq low n (memF t0)) := by obtain ⟨cs, p1, p2, p3⟩ := HQ2.out; exact ⟨cs, p1.far (p := ⟨gs, j, none⟩) (by show gq ≠ gs; omega) _, p2, p3⟩
        clear hq1 hq2 hq3 hq4 hb2 HX2 HB2 hX hbs hbr d0 HQ2 hfr dq
        refine wpList_step fun K hK => ?_
        rw [if_pos (by rfl)]
        go_simp
        refine hK _ _ (wpList_nil ?_)
        clear hK K hqc hqf hql
        generalize w2.setCell ⟨gs, j, none⟩ (.bool (!x)) = w3 at *
        go_wp2_with fail
        go_roundw
        case rel => exact ⟨j + 1, by omega, by go_num, HX3, HP2, HB3, HQ3⟩
        case measure => simp [intOf]; omega
end Go.Proofs.YtoaflcnphijhpaaGreatDoor

/- Contracts of terms.check and Is. -/
namespace Go.Proofs.YtoaflcnphijhpaaGreatDoor
open Go Go.RowKit
attribute [local go_sem] Oper.semAt_some
set_option linter.unusedVariables false

theorem outside_any (d : Int) (W : World) : Calls Tryz.prog 76 #[.int .i64 d] W fun e w' => e = .returned (.bool (!decide (-4000000 ≤ d ∧ d ≤ 4000000))) ∧ w' = W := by
  have HD := Lib.hid (isDay_any d W)
  generalize decide (-4000000 ≤ d ∧ d ≤ 4000000) = B at *
  go_enter Tryz.func76, Tryz.ntmps76
  go_wp2_with (go_at_call 41; refine (HD.out).mono ?_; rintro e w' ⟨rfl, rfl⟩)
  go_ret
  exact ⟨rfl, rfl⟩
/-- what check says -/
def WkChkQ (x : Wk) (ds : List Int) (w : World) (e : Ending) (w' : World) : Prop := ∃ E : Int, e = .returned (.int .i64 E) ∧ (E = 0 ↔ WkGood x.rs x.t ∧ ∀ d ∈ ds, DayIn d) ∧ Below w.heap.size w w'
set_option maxHeartbeats 2000000 in
set_option maxRecDepth 100000 in
theorem tcheck_any (x : Wk) (ds : List Int) (A1 : Option Addr) (cp : Nat) (w : World) (hv : Env w) (hin : WkIn w w.heap.size x) (hr : Row w w.heap.size A1 (ints ds)) (hl : ds.length ≤ 100) :
    Calls Tryz.prog 38 #[wkV x, .slice A1 ds.length cp] w (WkChkQ x ds w) := by
  have HCk := Lib.hid (fun W (h : Below w.heap.size w W) => wcheck_any x W (hv.next h) (hin.next h h.size))
  have HCf := Lib.hid (fun W (h : Below w.heap.size w W) => containsFunc_ints 76 #[] (fun d => !decide (-4000000 ≤ d ∧ d ≤ 4000000)) (fun W' => W' = W) A1 cp ds W rfl (by unfold maxLen; omega) (fun _ _ => rfl) (fun W' e => by rw [e]; exact (hr.below h).more h.size) (fun W' d e => by rw [e]; exact outside_any d W))
  unfold WCheckQ at HCk
  clear hv hin hr
  obtain ⟨rs, Ar, cr, t⟩ := x
  obtain ⟨G, hG⟩ : ∃ G : Prop, G = WkGood rs t := ⟨_, rfl⟩
  have HGe : Hid (∀ E w', (E = 0 ↔ G ∧ ∀ d ∈ ds, DayIn d) → Below w.heap.size w w' → WkChkQ ⟨rs, Ar, cr, t⟩ ds w (.returned (.int .i64 E)) w') := fun E w' h hb => ⟨E, rfl, by show E = 0 ↔ WkGood rs t ∧ _; rw [← hG]; exact h, hb⟩
  have HCk2 : Hid (∀ W, Below w.heap.size w W → Calls Tryz.prog 74 #[wkV ⟨rs, Ar, cr, t⟩] W fun e w' => ∃ E : Int, e = .returned (.int .i64 E) ∧ (E = 0 ↔ G) ∧ Below W.heap.size W w') := by
    rw [hG]; exact HCk.out
  generalize WkChkQ ⟨rs, Ar, cr, t⟩ ds w = POST at *
  clear hG HCk
  obtain ⟨k, a, b, nm, A, c, ks⟩ := t
  have hfe : wkV ⟨rs, Ar, cr, .node k a b nm A c ks⟩ = .agg #[.slice Ar rs.length cr, .int .i64 k, .int .i64 a, .int .i64 b, .string nm, .slice A ks.length c] := rfl
  rw [hfe] at HCk2 ⊢
  have HB := Lib.hid (below_alloc1 w (Obj.cells #[.slice Ar rs.length cr, .int .i64 k, .int .i64 a, .int .i64 b, .string nm, .slice A ks.length c] 27))
  have HX := Lib.hid (Box.new w 27 #[.slice Ar rs.length cr, .int .i64 k, .int .i64 a, .int .i64 b, .string nm, .slice A ks.length c])
  clear hfe
  go_enter Tryz.func38, Tryz.ntmps38
  go_upto_region 1 with fail
  generalize w.alloc (Obj.cells #[.slice Ar rs.length cr, .int .i64 k, .int .i64 a, .int .i64 b, .string nm, .slice A ks.length c] 27) = W1 at *
  obtain ⟨x0, x1, x2, x3, x4, x5⟩ := wkcells HX.out
  go_wp2_with fail
  refine (HCk2.out W1 HB.out).mono ?_
  rintro e w2 ⟨E, rfl, hE, hb2⟩
  have HB2 := Lib.hid (below_then HB.out hb2)
  have HE := Lib.hid hE
  clear hb2 hE HCk2 HB HX x0 x1 x2 x3 x4 x5
  by_cases hE0 : E = 0
  case neg =>
    have t1 : (E != 0) = true := by rw [bne_iff_ne]; exact hE0
    have HN : Hid (E = 0 ↔ G ∧ ∀ d ∈ ds, DayIn d) := ⟨fun h => absurd h hE0, fun h => HE.out.2 h.1⟩
    clear hE0 HE
    go_wp2_with fail
    exact HGe.out _ _ HN.out HB2.out
  subst hE0
  have HGd := Lib.hid (HE.out.1 rfl)
  have HC2 := Lib.hid (HCf.out w2 HB2.out)
  clear HE HCf
  obtain ⟨V, hV⟩ : ∃ V, V = ds.any (fun d => !decide (-4000000 ≤ d ∧ d ≤ 4000000)) := ⟨_, rfl⟩
  rw [← hV] at HC2
  have hiff : V = false ↔ ∀ d ∈ ds, DayIn d := by
    rw [hV, List.any_eq_false]
    constructor
    · intro h d hd
      have := h d hd
      simpa [DayIn] using this
    · intro h d hd
      have := h d hd
      simpa [DayIn] using this
  have HI := Lib.hid hiff
  clear hV hiff
  go_wp2_with fail
  refine HC2.out.mono ?_
  rintro e w3 ⟨rfl, rfl⟩
  cases V with
  | true =>
    have HN : Hid ((3 : Int) = 0 ↔ G ∧ ∀ d ∈ ds, DayIn d) := ⟨fun h => by omega, fun h => by have := HI.out.2 h.2; cases this⟩
    go_wp2_with fail
    exact HGe.out _ _ HN.out HB2.out
  | false =>
    have HN : Hid (G ∧ ∀ d ∈ ds, DayIn d) := ⟨HGd.out, HI.out.1 rfl⟩
    go_wp2_with fail
    exact HGe.out _ _ ⟨fun _ => HN.out, fun _ => rfl⟩ HB2.out

/-- what Is says -/
def WkIsQ (x : Wk) (day : Int) (w : World) (e : Ending) (w' : World) : Prop := ∃ (is : Bool) (E : Int), e = .returned (.tuple #[.bool is, .int .i64 E]) ∧ (E = 0 ↔ WkGood x.rs x.t ∧ DayIn day) ∧ (E = 0 → (is = true ↔ WorkD x.rs x.t day)) ∧ Below w.heap.size w w'
end Go.Proofs.YtoaflcnphijhpaaGreatDoor

/- Contracts of terms.Is, Count, Add and Term. -/
namespace Go.Proofs.YtoaflcnphijhpaaGreatDoor
open Go Go.RowKit
attribute [local go_sem] Oper.semAt_some
set_option linter.unusedVariables false

theorem WorkD.day {rs : List Int} {t : FE} {d : Int} (h : WorkD rs t d) : DayIn d := h.1
set_option maxHeartbeats 2000000 in
set_option maxRecDepth 100000 in
theorem wkis_any (x : Wk) (day : Int) (w : World) (hv : Env w) (hin : WkIn w w.heap.size x) : Calls Tryz.prog 17 #[wkV x, .int .i64 day] w (WkIsQ x day w) := by
  have HV := Lib.hid (fun W (h : Below w.heap.size w W) => hv.next h)
  have HIn := Lib.hid (fun W (h : Below w.heap.size w W) => hin.next h h.size)
  have HCk := Lib.hid (fun g1 W (h : Below w.heap.size w W) (hb : Box W g1 3 #[.int .i64 day]) => tcheck_any x [day] (some ⟨g1, 0, none⟩) 1 W (hv.next h) (hin.next h h.size) (Row.of_box hb) (by simp))
  have HWk := Lib.hid (fun (hg : WkGood x.rs x.t) (lo hi : Int) (n : Nat) (h1 : hi = lo + n - 1) (h2 : -5000000 ≤ lo) (h3 : hi ≤ 5000000) (h4 : 1 ≤ n) (h5 : n ≤ 3000) W (h : Below w.heap.size w W) => works_any x W (hv.next h) (hin.next h h.size) hg lo hi n h1 h2 h3 h4 h5)
  unfold WkChkQ at HCk
  unfold WorksQ at HWk
  obtain ⟨P, hP⟩ : ∃ P : Int → Prop, P = WorkD x.rs x.t := ⟨_, rfl⟩
  obtain ⟨G, hG⟩ : ∃ G : Prop, G = WkGood x.rs x.t := ⟨_, rfl⟩
  rw [← hG] at HCk
  rw [← hP, ← hG] at HWk
  unfold WkIsQ
  rw [← hP, ← hG]
  clear hv hin hP hG
  obtain ⟨rs, Ar, cr, t⟩ := x
  obtain ⟨k, a, b, nm, A, c, ks⟩ := t
  have hfe : wkV ⟨rs, Ar, cr, .node k a b nm A c ks⟩ = .agg #[.slice Ar rs.length cr, .int .i64 k, .int .i64 a, .int .i64 b, .string nm, .slice A ks.length c] := rfl
  rw [hfe] at HCk HWk ⊢
  have HB := Lib.hid (below_alloc2 w (Obj.cells #[.slice Ar rs.length cr, .int .i64 k, .int .i64 a, .int .i64 b, .string nm, .slice A ks.length c] 27) (Obj.cells #[.int .i64 day] 3))
  have HX := Lib.hid ((Box.new w 27 #[.slice Ar rs.length cr, .int .i64 k, .int .i64 a, .int .i64 b, .string nm, .slice A ks.length c]).alloc (Obj.cells #[.int .i64 day] 3))
  have hY := Box.new (w.alloc (Obj.cells #[.slice Ar rs.length cr, .int .i64 k, .int .i64 a, .int .i64 b, .string nm, .slice A ks.length c] 27)) 3 #[.int .i64 day]
  rw [World.size_alloc] at hY
  have HY := Lib.hid hY
  have xb := Box.new w 27 #[.slice Ar rs.length cr, .int .i64 k, .int .i64 a, .int .i64 b, .string nm, .slice A ks.length c]
  obtain ⟨x0, x1, x2, x3, x4, x5⟩ := wkcells xb
  clear hfe hY
  go_enter Tryz.func17, Tryz.ntmps17
  go_wp2_with fail
  clear x0 x1 x2 x3 x4 x5 xb
  generalize (w.alloc (Obj.cells #[.slice Ar rs.length cr, .int .i64 k, .int .i64 a, .int .i64 b, .string nm, .slice A ks.length c] 27)).alloc (Obj.cells #[.int .i64 day] 3) = W2 at *
  refine (HCk.out _ W2 HB.out HY.out).mono ?_
  rintro e w3 ⟨E, rfl, hE, hb3⟩
  have HB3 := Lib.hid (below_then HB.out hb3)
  have HX3 := Lib.hid (HX.out.below hb3)
  have HE := Lib.hid hE
  clear hb3 hE HCk HB HX HY
  by_cases hE0 : E = 0
  case neg =>
    have t1 : (E != 0) = true := by rw [bne_iff_ne]; exact hE0
    have HN : Hid (E ≠ 0 ∧ (E = 0 ↔ G ∧ DayIn day)) := ⟨hE0, fun h => absurd h hE0, fun h => HE.out.2 ⟨h.1, fun d hd => by rw [List.mem_singleton] at hd; rw [hd]; exact h.2⟩⟩
    clear hE0 HE
    go_wp2_with fail
    go_ret2
    exact ⟨false, E, rfl, HN.out.2, fun h => absurd h HN.out.1, HB3.out⟩
  subst hE0
  have HGd := Lib.hid (HE.out.1 rfl)
  have hday : DayIn day := HGd.out.2 day (by simp)
  have HDy := Lib.hid hday
  obtain ⟨hd1, hd2⟩ := hday
  have HW3 := Lib.hid (HWk.out HGd.out.1 day day 1 (by omega) (by omega) (by omega) (by omega) (by omega) w3 HB3.out)
  clear HE HWk
  obtain ⟨x0, x1, x2, x3, x4, x5⟩ := wkcells HX3.out
  go_wp2_with fail
  refine HW3.out.mono ?_
  rintro e w4 ⟨gs, rfl, hbs, _, hb4⟩
  have HB4 := Lib.hid (below_then HB3.out hb4)
  obtain ⟨L, hL, hLc, hLm⟩ := hbs.list
  obtain ⟨y, hy⟩ : ∃ y, L[0]? = some y := ⟨_, List.getElem?_eq_getElem (by omega)⟩
  have hcx : w4.cell? ⟨gs, 0, none⟩ = some (.bool y) := hLc 0 y hy
  have hxm : y = true ↔ P day := by
    have := hLm 0 (by omega)
    rw [List.getD_eq_getElem?_getD, hy] at this
    simpa using this
  have HXm := Lib.hid hxm
  clear hb4 HB3 HX3 HW3 hLc hLm hy hxm hbs x0 x1 x2 x3 x4 x5
  go_wp2_with fail
  go_ret2
  exact ⟨y, 0, rfl, ⟨fun _ => ⟨HGd.out.1, HDy.out⟩, fun _ => rfl⟩, fun _ => HXm.out, HB4.out⟩

set_option maxHeartbeats 2000000 in
set_option maxRecDepth 100000 in
theorem wkcount_pos (x : Wk) (fr tt : Int) (w : World) (hv : Env w) (hin : WkIn w w.heap.size x) (hgd : WkGood x.rs x.t) (hd1 : DayIn fr) (hd2 : DayIn tt) (hft : fr ≤ tt) (hfl : tt - fr ≤ 2000) : Calls Tryz.prog 15 #[wkV x, .int .i64 fr, .int .i64 tt] w fun e w' => e = .returned (.tuple #[.int .i64 ((cntW (WorkD x.rs x.t) fr (tt - fr).toNat : Int)), .int .i64 0]) ∧ Below w.heap.size w w' := by
  have HV := Lib.hid (fun W (h : Below w.heap.size w W) => hv.next h)
  have HIn := Lib.hid (fun W (h : Below w.heap.size w W) => hin.next h h.size)
  have HCk := Lib.hid (fun g1 W (h : Below w.heap.size w W) (hb : Box W g1 3 #[.int .i64 fr, .int .i64 tt]) => tcheck_any x [fr, tt] (some ⟨g1, 0, none⟩) 2 W (hv.next h) (hin.next h h.size) (Row.of_box hb) (by simp))
  have HWk := Lib.hid (fun (hg : WkGood x.rs x.t) (lo hi : Int) (n : Nat) (h1 : hi = lo + n - 1) (h2 : -5000000 ≤ lo) (h3 : hi ≤ 5000000) (h4 : 1 ≤ n) (h5 : n ≤ 3000) W (h : Below w.heap.size w W) => works_any x W (hv.next h) (hin.next h h.size) hg lo hi n h1 h2 h3 h4 h5)
  unfold WkChkQ at HCk
  unfold WorksQ at HWk
  obtain ⟨P, hP⟩ : ∃ P : Int → Prop, P = WorkD x.rs x.t := ⟨_, rfl⟩
  obtain ⟨G, hG⟩ : ∃ G : Prop, G = WkGood x.rs x.t := ⟨_, rfl⟩
  rw [← hG] at HCk
  rw [← hP, ← hG] at HWk
  rw [← hP]
  have hg2 : G := by rw [hG]; exact hgd
  have HGd := Lib.hid hg2
  have HDs := Lib.hid (And.intro hd1 hd2)
  obtain ⟨q1, q2⟩ := hd1
  obtain ⟨q3, q4⟩ := hd2
  clear hv hin hP hG hg2 hgd
  obtain ⟨rs, Ar, cr, t⟩ := x
  obtain ⟨k, a, b, nm, A, c, ks⟩ := t
  have hfe : wkV ⟨rs, Ar, cr, .node k a b nm A c ks⟩ = .agg #[.slice Ar rs.length cr, .int .i64 k, .int .i64 a, .int .i64 b, .string nm, .slice A ks.length c] := rfl
  rw [hfe] at HCk HWk ⊢
  obtain ⟨N, hN⟩ : ∃ N : Nat, N = (tt - fr).toNat := ⟨_, rfl⟩
  rw [← hN]
  have hNi : tt - fr = (N : Int) := by omega
  have ew1 : IntKind.i64.wrap (tt - fr) = (N : Int) := by rw [hNi]; exact intFits _ (by omega) (by omega)
  have hN2 : N ≤ 2000 := by omega
  have hNb : (N : Int) ≤ tt - fr ∧ tt - fr ≤ N := by omega
  have t2 : decide (tt < fr) = false := decide_eq_false (by omega)
  have t3 : decide (2000 < (N : Int)) = false := decide_eq_false (by omega)
  have t3' : ¬ 2000 < N := by omega
  have HB := Lib.hid (below_alloc2 w (Obj.cells #[.slice Ar rs.length cr, .int .i64 k, .int .i64 a, .int .i64 b, .string nm, .slice A ks.length c] 27) (Obj.cells #[.int .i64 fr, .int .i64 tt] 3))
  have HX := Lib.hid ((Box.new w 27 #[.slice Ar rs.length cr, .int .i64 k, .int .i64 a, .int .i64 b, .string nm, .slice A ks.length c]).alloc (Obj.cells #[.int .i64 fr, .int .i64 tt] 3))
  have hY := Box.new (w.alloc (Obj.cells #[.slice Ar rs.length cr, .int .i64 k, .int .i64 a, .int .i64 b, .string nm, .slice A ks.length c] 27)) 3 #[.int .i64 fr, .int .i64 tt]
  rw [World.size_alloc] at hY
  have HY := Lib.hid hY
  have xb := Box.new w 27 #[.slice Ar rs.length cr, .int .i64 k, .int .i64 a, .int .i64 b, .string nm, .slice A ks.length c]
  obtain ⟨x0, x1, x2, x3, x4, x5⟩ := wkcells xb
  clear hfe hY hN hNi hft hfl
  go_enter Tryz.func15, Tryz.ntmps15
  go_wp2_with fail
  clear x0 x1 x2 x3 x4 x5 xb
  generalize (w.alloc (Obj.cells #[.slice Ar rs.length cr, .int .i64 k, .int .i64 a, .int .i64 b, .string nm, .slice A ks.length c] 27)).alloc (Obj.cells #[.int .i64 fr, .int .i64 tt] 3) = W2 at *
  refine (HCk.out _ W2 HB.out HY.out).mono ?_
  rintro e w3 ⟨E, rfl, hE, hb3⟩
  have HB3 := Lib.hid (below_then HB.out hb3)
  have HX3 := Lib.hid (HX.out.below hb3)
  have hE0 : E = 0 := hE.2 ⟨HGd.out, fun d hd => by
    simp only [List.mem_cons, List.not_mem_nil, or_false] at hd
    rcases hd with rfl | rfl
    · exact HDs.out.1
    · exact HDs.out.2⟩
  subst hE0
  have HW3 := Lib.hid (HWk.out HGd.out fr tt (N + 1) (by omega) (by omega) (by omega) (by omega) (by omega) w3 HB3.out)
  clear hb3 hE HCk HB HX HY HWk
  obtain ⟨x0, x1, x2, x3, x4, x5⟩ := wkcells HX3.out
  go_wp2_with fail
  refine HW3.out.mono ?_
  rintro e w4 ⟨gs, rfl, hbs, _, hb4⟩
  have HB4 := Lib.hid (below_then HB3.out hb4)
  obtain ⟨L, hL, hLc, hLm⟩ := hbs.list
  have HLs := Lib.hid (And.intro hLc hLm)
  clear hb4 HB3 HX3 HW3 hLc hLm hbs x0 x1 x2 x3 x4 x5
  have hNN : N ≤ N + 1 := by omega
  go_wp2_with fail
  go_loopw [12, 14, 43] (fun s12 _ i wr => ∃ j : Nat, j ≤ N ∧ i = .int .i64 (j : Int) ∧ s12 = .int .i64 ((cntW P fr j : Int)) ∧ wr = w4) (fun _ _ i _ => N - (intOf i).toNat)
  case atStart => exact ⟨0, by omega, rfl, by simp [cntW_zero], rfl⟩
  case round =>
    obtain ⟨j, hj, rfl, rfl, rfl⟩ := hrel
    by_cases hlt : j < N
    case neg =>
      obtain rfl : j = N := by omega
      go_wp2_with fail
      go_ret2
      exact ⟨rfl, HB4.out⟩
    obtain ⟨y, hy⟩ : ∃ y, L[j]? = some y := ⟨_, List.getElem?_eq_getElem (by omega)⟩
    have hcx := HLs.out.1 j y hy
    have hxm : y = true ↔ P (fr + (j : Int)) := by
      have := HLs.out.2 j (by omega)
      rwa [List.getD_eq_getElem?_getD, hy] at this
    have hle := cntW_le P fr j
    obtain ⟨q, hq⟩ : ∃ q : Int, q = (cntW P fr j : Int) := ⟨_, rfl⟩
    have hqb : -3000 ≤ q ∧ q ≤ 3000 := by omega
    rw [← hq]
    cases y with
    | false =>
      have HN : Hid (Value.int .i64 ((cntW P fr (j + 1) : Int)) = .int .i64 q) := by unfold Hid; rw [cntW_no (fun h => by have := hxm.2 h; cases this), hq]
      clear hq hxm hy hle
      go_wp2_with fail
      go_roundw
      case rel => exact ⟨j + 1, by omega, by go_num, HN.out.symm, by first | rfl | trivial⟩
      case measure => simp [intOf]; omega
    | true =>
      have HN : Hid (Value.int .i64 ((cntW P fr (j + 1) : Int)) = .int .i64 (q + 1)) := by unfold Hid; rw [cntW_yes (hxm.1 rfl), hq]; congr 1
      have ew : IntKind.i64.wrap (q + 1) = q + 1 := by rw [intFits _ (by omega) (by omega)]
      clear hq hxm hy hle
      go_wp2_with fail
      go_roundw
      case rel => exact ⟨j + 1, by omega, by go_num, HN.out.symm, by first | rfl | trivial⟩
      case measure => simp [intOf]; omega

set_option maxHeartbeats 2000000 in
set_option maxRecDepth 100000 in
theorem wkcount_neg (x : Wk) (fr tt : Int) (w : World) (hv : Env w) (hin : WkIn w w.heap.size x) (hgd : WkGood x.rs x.t) (hd1 : DayIn fr) (hd2 : DayIn tt) (hft : tt < fr) (hfl : fr - tt ≤ 2000) : Calls Tryz.prog 15 #[wkV x, .int .i64 fr, .int .i64 tt] w fun e w' => e = .returned (.tuple #[.int .i64 (-(cntW (WorkD x.rs x.t) tt (fr - tt).toNat : Int)), .int .i64 0]) ∧ Below w.heap.size w w' := by
  have HV := Lib.hid (fun W (h : Below w.heap.size w W) => hv.next h)
  have HIn := Lib.hid (fun W (h : Below w.heap.size w W) => hin.next h h.size)
  have HCk := Lib.hid (fun g1 W (h : Below w.heap.size w W) (hb : Box W g1 3 #[.int .i64 fr, .int .i64 tt]) => tcheck_any x [fr, tt] (some ⟨g1, 0, none⟩) 2 W (hv.next h) (hin.next h h.size) (Row.of_box hb) (by simp))
  have HWk := Lib.hid (fun (hg : WkGood x.rs x.t) (lo hi : Int) (n : Nat) (h1 : hi = lo + n - 1) (h2 : -5000000 ≤ lo) (h3 : hi ≤ 5000000) (h4 : 1 ≤ n) (h5 : n ≤ 3000) W (h : Below w.heap.size w W) => works_any x W (hv.next h) (hin.next h h.size) hg lo hi n h1 h2 h3 h4 h5)
  unfold WkChkQ at HCk
  unfold WorksQ at HWk
  obtain ⟨P, hP⟩ : ∃ P : Int → Prop, P = WorkD x.rs x.t := ⟨_, rfl⟩
  obtain ⟨G, hG⟩ : ∃ G : Prop, G = WkGood x.rs x.t := ⟨_, rfl⟩
  rw [← hG] at HCk
  rw [← hP, ← hG] at HWk
  rw [← hP]
  have hg2 : G := by rw [hG]; exact hgd
  have HGd := Lib.hid hg2
  have HDs := Lib.hid (And.intro hd1 hd2)
  obtain ⟨q1, q2⟩ := hd1
  obtain ⟨q3, q4⟩ := hd2
  clear hv hin hP hG hg2 hgd
  obtain ⟨rs, Ar, cr, t⟩ := x
  obtain ⟨k, a, b, nm, A, c, ks⟩ := t
  have hfe : wkV ⟨rs, Ar, cr, .node k a b nm A c ks⟩ = .agg #[.slice Ar rs.length cr, .int .i64 k, .int .i64 a, .int .i64 b, .string nm, .slice A ks.length c] := rfl
  rw [hfe] at HCk HWk ⊢
  obtain ⟨N, hN⟩ : ∃ N : Nat, N = (fr - tt).toNat := ⟨_, rfl⟩
  rw [← hN]
  have hNi : fr - tt = (N : Int) := by omega
  have ew1 : IntKind.i64.wrap (fr - tt) = (N : Int) := by rw [hNi]; exact intFits _ (by omega) (by omega)
  have hN2 : N ≤ 2000 := by omega
  have hNb : (N : Int) ≤ fr - tt ∧ fr - tt ≤ N := by omega
  have t2 : decide (tt < fr) = true := decide_eq_true hft
  have t3 : decide (2000 < (N : Int)) = false := decide_eq_false (by omega)
  have t3' : ¬ 2000 < N := by omega
  have HB := Lib.hid (below_alloc2 w (Obj.cells #[.slice Ar rs.length cr, .int .i64 k, .int .i64 a, .int .i64 b, .string nm, .slice A ks.length c] 27) (Obj.cells #[.int .i64 fr, .int .i64 tt] 3))
  have HX := Lib.hid ((Box.new w 27 #[.slice Ar rs.length cr, .int .i64 k, .int .i64 a, .int .i64 b, .string nm, .slice A ks.length c]).alloc (Obj.cells #[.int .i64 fr, .int .i64 tt] 3))
  have hY := Box.new (w.alloc (Obj.cells #[.slice Ar rs.length cr, .int .i64 k, .int .i64 a, .int .i64 b, .string nm, .slice A ks.length c] 27)) 3 #[.int .i64 fr, .int .i64 tt]
  rw [World.size_alloc] at hY
  have HY := Lib.hid hY
  have xb := Box.new w 27 #[.slice Ar rs.length cr, .int .i64 k, .int .i64 a, .int .i64 b, .string nm, .slice A ks.length c]
  obtain ⟨x0, x1, x2, x3, x4, x5⟩ := wkcells xb
  clear hfe hY hN hNi hft hfl
  go_enter Tryz.func15, Tryz.ntmps15
  go_wp2_with fail
  clear x0 x1 x2 x3 x4 x5 xb
  generalize (w.alloc (Obj.cells #[.slice Ar rs.length cr, .int .i64 k, .int .i64 a, .int .i64 b, .string nm, .slice A ks.length c] 27)).alloc (Obj.cells #[.int .i64 fr, .int .i64 tt] 3) = W2 at *
  refine (HCk.out _ W2 HB.out HY.out).mono ?_
  rintro e w3 ⟨E, rfl, hE, hb3⟩
  have HB3 := Lib.hid (below_then HB.out hb3)
  have HX3 := Lib.hid (HX.out.below hb3)
  have hE0 : E = 0 := hE.2 ⟨HGd.out, fun d hd => by
    simp only [List.mem_cons, List.not_mem_nil, or_false] at hd
    rcases hd with rfl | rfl
    · exact HDs.out.1
    · exact HDs.out.2⟩
  subst hE0
  have HW3 := Lib.hid (HWk.out HGd.out tt fr (N + 1) (by omega) (by omega) (by omega) (by omega) (by omega) w3 HB3.out)
  clear hb3 hE HCk HB HX HY HWk
  obtain ⟨x0, x1, x2, x3, x4, x5⟩ := wkcells HX3.out
  go_wp2_with fail
  refine HW3.out.mono ?_
  rintro e w4 ⟨gs, rfl, hbs, _, hb4⟩
  have HB4 := Lib.hid (below_then HB3.out hb4)
  obtain ⟨L, hL, hLc, hLm⟩ := hbs.list
  have HLs := Lib.hid (And.intro hLc hLm)
  clear hb4 HB3 HX3 HW3 hLc hLm hbs x0 x1 x2 x3 x4 x5
  have hNN : N ≤ N + 1 := by omega
  go_wp2_with fail
  go_loopw [12, 14, 43] (fun s12 _ i wr => ∃ j : Nat, j ≤ N ∧ i = .int .i64 (j : Int) ∧ s12 = .int .i64 (-(cntW P tt j : Int)) ∧ wr = w4) (fun _ _ i _ => N - (intOf i).toNat)
  case atStart => exact ⟨0, by omega, rfl, by simp [cntW_zero], rfl⟩
  case round =>
    obtain ⟨j, hj, rfl, rfl, rfl⟩ := hrel
    by_cases hlt : j < N
    case neg =>
      obtain rfl : j = N := by omega
      go_wp2_with fail
      go_ret2
      exact ⟨rfl, HB4.out⟩
    obtain ⟨y, hy⟩ : ∃ y, L[j]? = some y := ⟨_, List.getElem?_eq_getElem (by omega)⟩
    have hcx := HLs.out.1 j y hy
    have hxm : y = true ↔ P (tt + (j : Int)) := by
      have := HLs.out.2 j (by omega)
      rwa [List.getD_eq_getElem?_getD, hy] at this
    have hle := cntW_le P tt j
    obtain ⟨q, hq⟩ : ∃ q : Int, q = -(cntW P tt j : Int) := ⟨_, rfl⟩
    have hqb : -3000 ≤ q ∧ q ≤ 3000 := by omega
    rw [← hq]
    cases y with
    | false =>
      have HN : Hid (Value.int .i64 (-(cntW P tt (j + 1) : Int)) = .int .i64 q) := by unfold Hid; rw [cntW_no (fun h => by have := hxm.2 h; cases this), hq]
      clear hq hxm hy hle
      go_wp2_with fail
      go_roundw
      case rel => exact ⟨j + 1, by omega, by go_num, HN.out.symm, by first | rfl | trivial⟩
      case measure => simp [intOf]; omega
    | true =>
      have HN : Hid (Value.int .i64 (-(cntW P tt (j + 1) : Int)) = .int .i64 (q - 1)) := by unfold Hid; rw [cntW_yes (hxm.1 rfl), hq]; congr 1; omega
      have ew : IntKind.i64.wrap (q + -1) = q - 1 := by rw [intFits _ (by omega) (by omega)]; omega
      clear hq hxm hy hle
      go_wp2_with fail
      go_roundw
      case rel => exact ⟨j + 1, by omega, by go_num, HN.out.symm, by first | rfl | trivial⟩
      case measure => simp [intOf]; omega
end Go.Proofs.YtoaflcnphijhpaaGreatDoor

/- Contracts of terms.Add. -/
namespace Go.Proofs.YtoaflcnphijhpaaGreatDoor
open Go Go.RowKit
attribute [local go_sem] Oper.semAt_some
set_option linter.unusedVariables false

/-- what Add says forward -/
def AddQ (P : Int → Prop) (first : Int) (len k : Nat) (w : World) (e : Ending) (w' : World) : Prop := ∃ d E : Int, e = .returned (.tuple #[.int .i64 d, .int .i64 E]) ∧ Below w.heap.size w w' ∧ ((E = 0 ∧ FwdP P first len k d) ∨ (E = 6 ∧ cntW P first len < k))
set_option maxHeartbeats 2000000 in
set_option maxRecDepth 100000 in
theorem wkadd_fwd (x : Wk) (day n : Int) (first : Int) (kk len : Nat) (w : World) (hv : Env w) (hin : WkIn w w.heap.size x) (hgd : WkGood x.rs x.t) (hd : DayIn day) (hn0 : 0 ≤ n) (hn5 : n ≤ 500) (hfk : (n = 0 ∧ first = day ∧ kk = 1 ∧ len = 2001) ∨ (1 ≤ n ∧ first = day + 1 ∧ (kk : Int) = n ∧ len = 2000)) :
    Calls Tryz.prog 13 #[wkV x, .int .i64 day, .int .i64 n] w (AddQ (WorkD x.rs x.t) first len kk w) := by
  have HFK := Lib.hid hfk
  have hlen : first + len = day + 2001 ∧ 1 ≤ kk ∧ kk ≤ 500 ∧ len ≤ 2001 ∧ 1 ≤ len ∧ day ≤ first := by omega
  clear hfk
  have HV := Lib.hid (fun W (h : Below w.heap.size w W) => hv.next h)
  have HIn := Lib.hid (fun W (h : Below w.heap.size w W) => hin.next h h.size)
  have HCk := Lib.hid (fun g1 W (h : Below w.heap.size w W) (hb : Box W g1 3 #[.int .i64 day]) => tcheck_any x [day] (some ⟨g1, 0, none⟩) 1 W (hv.next h) (hin.next h h.size) (Row.of_box hb) (by simp))
  have HWk := Lib.hid (fun (hg : WkGood x.rs x.t) (lo hi : Int) (n : Nat) (h1 : hi = lo + n - 1) (h2 : -5000000 ≤ lo) (h3 : hi ≤ 5000000) (h4 : 1 ≤ n) (h5 : n ≤ 3000) W (h : Below w.heap.size w W) => works_any x W (hv.next h) (hin.next h h.size) hg lo hi n h1 h2 h3 h4 h5)
  unfold WkChkQ at HCk
  unfold WorksQ at HWk
  obtain ⟨P, hP⟩ : ∃ P : Int → Prop, P = WorkD x.rs x.t := ⟨_, rfl⟩
  obtain ⟨G, hG⟩ : ∃ G : Prop, G = WkGood x.rs x.t := ⟨_, rfl⟩
  rw [← hG] at HCk
  rw [← hP, ← hG] at HWk
  have hg2 : G := by rw [hG]; exact hgd
  have HGd := Lib.hid hg2
  have HDs := Lib.hid hd
  obtain ⟨q1, q2⟩ := hd
  clear hv hin hG hg2 hgd
  rw [← hP]
  clear hP
  obtain ⟨rs, Ar, cr, t⟩ := x
  obtain ⟨k, a, b, nm, A, c, ks⟩ := t
  have hfe : wkV ⟨rs, Ar, cr, .node k a b nm A c ks⟩ = .agg #[.slice Ar rs.length cr, .int .i64 k, .int .i64 a, .int .i64 b, .string nm, .slice A ks.length c] := rfl
  rw [hfe] at HCk HWk ⊢
  have HB := Lib.hid (below_alloc2 w (Obj.cells #[.slice Ar rs.length cr, .int .i64 k, .int .i64 a, .int .i64 b, .string nm, .slice A ks.length c] 27) (Obj.cells #[.int .i64 day] 3))
  have HX := Lib.hid ((Box.new w 27 #[.slice Ar rs.length cr, .int .i64 k, .int .i64 a, .int .i64 b, .string nm, .slice A ks.length c]).alloc (Obj.cells #[.int .i64 day] 3))
  have hY := Box.new (w.alloc (Obj.cells #[.slice Ar rs.length cr, .int .i64 k, .int .i64 a, .int .i64 b, .string nm, .slice A ks.length c] 27)) 3 #[.int .i64 day]
  rw [World.size_alloc] at hY
  have HY := Lib.hid hY
  have xb := Box.new w 27 #[.slice Ar rs.length cr, .int .i64 k, .int .i64 a, .int .i64 b, .string nm, .slice A ks.length c]
  obtain ⟨x0, x1, x2, x3, x4, x5⟩ := wkcells xb
  clear hfe hY
  go_enter Tryz.func13, Tryz.ntmps13
  go_wp2_with fail
  clear x0 x1 x2 x3 x4 x5 xb
  generalize (w.alloc (Obj.cells #[.slice Ar rs.length cr, .int .i64 k, .int .i64 a, .int .i64 b, .string nm, .slice A ks.length c] 27)).alloc (Obj.cells #[.int .i64 day] 3) = W2 at *
  refine (HCk.out _ W2 HB.out HY.out).mono ?_
  rintro e w3 ⟨E, rfl, hE, hb3⟩
  have HB3 := Lib.hid (below_then HB.out hb3)
  have HX3 := Lib.hid (HX.out.below hb3)
  have hE0 : E = 0 := hE.2 ⟨HGd.out, fun d hd => by rw [List.mem_singleton] at hd; rw [hd]; exact HDs.out⟩
  subst hE0
  clear hb3 hE HCk HB HX HY
  have t1 : decide (n < -500) = false := decide_eq_false (by omega)
  have t2 : decide (500 < n) = false := decide_eq_false (by omega)
  have t3 : decide (n < 0) = false := decide_eq_false (by omega)
  have ew1 : IntKind.i64.wrap (day + 1) = day + 1 := intFits _ (by omega) (by omega)
  have ew2 : IntKind.i64.wrap (day + 2000) = day + 2000 := intFits _ (by omega) (by omega)
  have HW3 := Lib.hid (HWk.out HGd.out first (day + 2000) len (by omega) (by omega) (by omega) (by omega) (by omega) w3 HB3.out)
  clear HWk
  obtain ⟨x0, x1, x2, x3, x4, x5⟩ := wkcells HX3.out
  go_upto_if 57 with fail
  go_cut [2, 11] (fun s2 s11 wx => s2 = .int .i64 (kk : Int) ∧ s11 = .int .i64 first ∧ wx = w3)
  case first =>
    rcases HFK.out with ⟨e1, e2, e3, _⟩ | ⟨e1, e2, e3, _⟩
    · have HR : Hid (first = day ∧ kk = 1) := ⟨e2, e3⟩
      subst e1
      clear e2 e3 HW3
      go_wp2_with fail
      go_meet
      exact ⟨by rw [HR.out.2]; rfl, by rw [HR.out.1], rfl⟩
    · have t4 : (n == 0) = false := by rw [beq_eq_false_iff_ne]; omega
      have HR : Hid (first = day + 1 ∧ (kk : Int) = n) := ⟨e2, e3⟩
      clear e1 e2 e3 HW3
      go_wp2_with fail
      go_meet
      exact ⟨by rw [HR.out.2], by rw [HR.out.1], rfl⟩
  case rest =>
  obtain ⟨rfl, rfl, hwc⟩ := hcut
  subst hwc
  clear t1 t2 t3 ew1
  go_wp2_with fail
  refine HW3.out.mono ?_
  rintro e w4 ⟨gs, rfl, hbs, _, hb4⟩
  have HB4 := Lib.hid (below_then HB3.out hb4)
  obtain ⟨L, hL, hLc, hLm⟩ := hbs.list
  have HLs := Lib.hid (And.intro hLc hLm)
  clear hb4 HB3 HX3 HW3 hLc hLm hbs x0 x1 x2 x3 x4 x5
  go_wp2_with fail
  go_loopw [2, 12, 13, 65] (fun s2 _ _ i wr => ∃ j : Nat, j ≤ len ∧ i = .int .i64 (j : Int) ∧ s2 = .int .i64 ((kk : Int) - (cntW P first j : Int)) ∧ cntW P first j < kk ∧ wr = w4) (fun _ _ _ i _ => len - (intOf i).toNat)
  case atStart => exact ⟨0, by omega, rfl, by simp [cntW_zero], by rw [cntW_zero]; omega, rfl⟩
  case round =>
    obtain ⟨j, hj, rfl, rfl, hlk, rfl⟩ := hrel
    by_cases hlt : j < len
    case neg =>
      obtain rfl : j = len := by omega
      have HLk := Lib.hid hlk
      clear hlk
      go_wp2_with fail
      go_ret2
      exact ⟨0, 6, rfl, HB4.out, .inr ⟨rfl, HLk.out⟩⟩
    obtain ⟨y, hy⟩ : ∃ y, L[j]? = some y := ⟨_, List.getElem?_eq_getElem (by omega)⟩
    have hcx := HLs.out.1 j y hy
    have hxm : y = true ↔ P (first + (j : Int)) := by
      have := HLs.out.2 j hlt
      rwa [List.getD_eq_getElem?_getD, hy] at this
    obtain ⟨q, hq⟩ : ∃ q : Int, q = (kk : Int) - (cntW P first j : Int) := ⟨_, rfl⟩
    have hqb : 1 ≤ q ∧ q ≤ 500 := by omega
    rw [← hq]
    have HLk := Lib.hid hlk
    have HQ := Lib.hid hq
    cases y with
    | false =>
      have hc := cntW_no (n := j) (fun h => by have := hxm.2 h; cases this)
      have HN : Hid (Value.int .i64 ((kk : Int) - (cntW P first (j + 1) : Int)) = Value.int .i64 q ∧ cntW P first (j + 1) < kk) := ⟨by rw [hc, hq], by rw [hc]; exact hlk⟩
      have t5 : (q == 0) = false := by rw [beq_eq_false_iff_ne]; omega
      clear hq hxm hy hlk hc
      go_wp2_with fail
      go_roundw
      case rel => exact ⟨j + 1, by omega, by go_num, HN.out.1.symm, HN.out.2, by first | rfl | trivial⟩
      case measure => simp [intOf]; omega
    | true =>
      have hp := hxm.1 rfl
      have hc := cntW_yes (n := j) hp
      have ew : IntKind.i64.wrap (q - 1) = q - 1 := intFits _ (by omega) (by omega)
      by_cases hq1 : q = 1
      · have t5 : (q - 1 == 0) = true := by rw [beq_iff_eq]; omega
        have ew5 : IntKind.i64.wrap (first + (j : Int)) = first + (j : Int) := intFits _ (by omega) (by omega)
        have HN : Hid (FwdP P first len kk (first + (j : Int))) := ⟨j, hlt, rfl, hp, by omega⟩
        have H1 := Lib.hid hq1
        clear hq hxm hy hlk hc hp hq1
        go_wp2_with fail
        go_ret2
        exact ⟨_, 0, rfl, HB4.out, .inl ⟨rfl, HN.out⟩⟩
      · have t5 : (q - 1 == 0) = false := by rw [beq_eq_false_iff_ne]; omega
        have HN : Hid (Value.int .i64 ((kk : Int) - (cntW P first (j + 1) : Int)) = Value.int .i64 (q - 1) ∧ cntW P first (j + 1) < kk) := ⟨by rw [hc, hq]; congr 1; omega, by omega⟩
        have hq2 : 1 < q := by omega
        clear hq hxm hy hlk hc hp hq1
        go_wp2_with fail
        go_roundw
        case rel => exact ⟨j + 1, by omega, by go_num, HN.out.1.symm, HN.out.2, by first | rfl | trivial⟩
        case measure => simp [intOf]; omega

theorem cntW_skip {P : Int → Prop} {a : Int} {n : Nat} (h : ¬ P a) : cntW P a (n + 1) = cntW P (a + 1) n := by
  rw [Nat.add_comm n 1, cntW_add, cntW_one, if_neg h]
  show 0 + cntW P (a + ((1 : Nat) : Int)) n = _
  rw [Nat.zero_add]; rfl
/-- what Add says back -/
def AddBQ (P : Int → Prop) (day : Int) (k : Nat) (w : World) (e : Ending) (w' : World) : Prop := ∃ d E : Int, e = .returned (.tuple #[.int .i64 d, .int .i64 E]) ∧ Below w.heap.size w w' ∧ ((E = 0 ∧ BackP P day k d) ∨ (E = 6 ∧ cntW P (day - 2000) 2000 < k))
set_option maxHeartbeats 2000000 in
set_option maxRecDepth 100000 in
theorem wkadd_back (x : Wk) (day n : Int) (kk : Nat) (w : World) (hv : Env w) (hin : WkIn w w.heap.size x) (hgd : WkGood x.rs x.t) (hd : DayIn day) (hn0 : n < 0) (hn5 : -500 ≤ n) (hk : (kk : Int) = -n) :
    Calls Tryz.prog 13 #[wkV x, .int .i64 day, .int .i64 n] w (AddBQ (WorkD x.rs x.t) day kk w) := by
  have HV := Lib.hid (fun W (h : Below w.heap.size w W) => hv.next h)
  have HIn := Lib.hid (fun W (h : Below w.heap.size w W) => hin.next h h.size)
  have HCk := Lib.hid (fun g1 W (h : Below w.heap.size w W) (hb : Box W g1 3 #[.int .i64 day]) => tcheck_any x [day] (some ⟨g1, 0, none⟩) 1 W (hv.next h) (hin.next h h.size) (Row.of_box hb) (by simp))
  have HWk := Lib.hid (fun (hg : WkGood x.rs x.t) (lo hi : Int) (n : Nat) (h1 : hi = lo + n - 1) (h2 : -5000000 ≤ lo) (h3 : hi ≤ 5000000) (h4 : 1 ≤ n) (h5 : n ≤ 3000) W (h : Below w.heap.size w W) => works_any x W (hv.next h) (hin.next h h.size) hg lo hi n h1 h2 h3 h4 h5)
  unfold WkChkQ at HCk
  unfold WorksQ at HWk
  obtain ⟨P, hP⟩ : ∃ P : Int → Prop, P = WorkD x.rs x.t := ⟨_, rfl⟩
  obtain ⟨G, hG⟩ : ∃ G : Prop, G = WkGood x.rs x.t := ⟨_, rfl⟩
  rw [← hG] at HCk
  rw [← hP, ← hG] at HWk
  have hg2 : G := by rw [hG]; exact hgd
  have HGd := Lib.hid hg2
  have HDs := Lib.hid hd
  obtain ⟨q1, q2⟩ := hd
  clear hv hin hG hg2 hgd
  rw [← hP]
  clear hP
  obtain ⟨rs, Ar, cr, t⟩ := x
  obtain ⟨k, a, b, nm, A, c, ks⟩ := t
  have hfe : wkV ⟨rs, Ar, cr, .node k a b nm A c ks⟩ = .agg #[.slice Ar rs.length cr, .int .i64 k, .int .i64 a, .int .i64 b, .string nm, .slice A ks.length c] := rfl
  rw [hfe] at HCk HWk ⊢
  have HB := Lib.hid (below_alloc2 w (Obj.cells #[.slice Ar rs.length cr, .int .i64 k, .int .i64 a, .int .i64 b, .string nm, .slice A ks.length c] 27) (Obj.cells #[.int .i64 day] 3))
  have HX := Lib.hid ((Box.new w 27 #[.slice Ar rs.length cr, .int .i64 k, .int .i64 a, .int .i64 b, .string nm, .slice A ks.length c]).alloc (Obj.cells #[.int .i64 day] 3))
  have hY := Box.new (w.alloc (Obj.cells #[.slice Ar rs.length cr, .int .i64 k, .int .i64 a, .int .i64 b, .string nm, .slice A ks.length c] 27)) 3 #[.int .i64 day]
  rw [World.size_alloc] at hY
  have HY := Lib.hid hY
  have xb := Box.new w 27 #[.slice Ar rs.length cr, .int .i64 k, .int .i64 a, .int .i64 b, .string nm, .slice A ks.length c]
  obtain ⟨x0, x1, x2, x3, x4, x5⟩ := wkcells xb
  clear hfe hY
  go_enter Tryz.func13, Tryz.ntmps13
  go_wp2_with fail
  clear x0 x1 x2 x3 x4 x5 xb
  generalize (w.alloc (Obj.cells #[.slice Ar rs.length cr, .int .i64 k, .int .i64 a, .int .i64 b, .string nm, .slice A ks.length c] 27)).alloc (Obj.cells #[.int .i64 day] 3) = W2 at *
  refine (HCk.out _ W2 HB.out HY.out).mono ?_
  rintro e w3 ⟨E, rfl, hE, hb3⟩
  have HB3 := Lib.hid (below_then HB.out hb3)
  have HX3 := Lib.hid (HX.out.below hb3)
  have hE0 : E = 0 := hE.2 ⟨HGd.out, fun d hd => by rw [List.mem_singleton] at hd; rw [hd]; exact HDs.out⟩
  subst hE0
  clear hb3 hE HCk HB HX HY
  have t1 : decide (n < -500) = false := decide_eq_false (by omega)
  have t2 : decide (500 < n) = false := decide_eq_false (by omega)
  have t3 : decide (n < 0) = true := decide_eq_true hn0
  have ew1 : IntKind.i64.wrap (day - 1) = day - 1 := intFits _ (by omega) (by omega)
  have ew2 : IntKind.i64.wrap (day - 2000) = day - 2000 := intFits _ (by omega) (by omega)
  have HW3 := Lib.hid (HWk.out HGd.out (day - 2000) (day - 1) 2000 (by omega) (by omega) (by omega) (by omega) (by omega) w3 HB3.out)
  have hkk : (kk : Int) ≤ -n ∧ -n ≤ kk := by omega
  clear HWk hk
  obtain ⟨x0, x1, x2, x3, x4, x5⟩ := wkcells HX3.out
  go_wp2_with fail
  refine HW3.out.mono ?_
  rintro e w4 ⟨gs, rfl, hbs, _, hb4⟩
  have HB4 := Lib.hid (below_then HB3.out hb4)
  obtain ⟨L, hL, hLc, hLm⟩ := hbs.list
  have HLs := Lib.hid (And.intro hLc hLm)
  have hLl : L.length ≤ 2000 ∧ 2000 ≤ L.length := by omega
  clear hb4 HB3 HX3 HW3 hLc hLm hbs x0 x1 x2 x3 x4 x5 t1 t2 t3 hL
  go_wp2_with fail
  go_loopw [2, 10] (fun s2 i wr => ∃ j : Nat, j ≤ 2000 ∧ i = .int .i64 (1999 - (j : Int)) ∧ s2 = .int .i64 (n + (cntW P (day - (j : Int)) j : Int)) ∧ cntW P (day - (j : Int)) j < kk ∧ wr = w4) (fun _ i _ => (intOf i + 1).toNat)
  case atStart => exact ⟨0, by omega, by simp, by simp [cntW_zero], by rw [cntW_zero]; omega, rfl⟩
  case round =>
    obtain ⟨j, hj, rfl, rfl, hlk, rfl⟩ := hrel
    by_cases hlt : j < 2000
    case neg =>
      obtain rfl : j = 2000 := by omega
      have HLk := Lib.hid hlk
      have t5 : decide ((0 : Int) ≤ 1999 - ((2000 : Nat) : Int)) = false := rfl
      clear hlk
      go_wp2_with fail
      go_ret2
      exact ⟨0, 6, rfl, HB4.out, .inr ⟨rfl, HLk.out⟩⟩
    obtain ⟨m, hm⟩ : ∃ m : Nat, m = 1999 - j := ⟨_, rfl⟩
    have hmi : (1999 : Int) - (j : Int) = (m : Int) := by omega
    have hmb : m < 2000 := by omega
    obtain ⟨y, hy⟩ : ∃ y, L[m]? = some y := ⟨_, List.getElem?_eq_getElem (by omega)⟩
    have hcx := HLs.out.1 m y hy
    have hxm : y = true ↔ P (day - ((j + 1 : Nat) : Int)) := by
      have := HLs.out.2 m hmb
      rwa [List.getD_eq_getElem?_getD, hy, show day - 2000 + (m : Int) = day - ((j + 1 : Nat) : Int) from by omega] at this
    have hstep : day - ((j + 1 : Nat) : Int) + 1 = day - (j : Int) := by omega
    obtain ⟨q, hq⟩ : ∃ q : Int, q = n + (cntW P (day - (j : Int)) j : Int) := ⟨_, rfl⟩
    have hqb : -500 ≤ q ∧ q ≤ -1 := by omega
    rw [← hq, hmi]
    have t6 : decide ((0 : Int) ≤ (m : Int)) = true := decide_eq_true (by omega)
    have hm0 : (0 : Int) ≤ (m : Int) := by omega
    have hm1 : (m : Int) < 2000 := by omega
    have ewm : IntKind.i64.wrap ((m : Int) - 1) = (m : Int) - 1 := intFits _ (by omega) (by omega)
    have HMi : Hid ((1999 : Int) - ((j + 1 : Nat) : Int) = (m : Int) - 1) := by unfold Hid; omega
    cases y with
    | false =>
      have hc := cntW_skip (n := j) (fun h => by have := hxm.2 h; cases this)
      rw [hstep] at hc
      have HN : Hid (Value.int .i64 (n + (cntW P (day - ((j + 1 : Nat) : Int)) (j + 1) : Int)) = Value.int .i64 q ∧ cntW P (day - ((j + 1 : Nat) : Int)) (j + 1) < kk) := ⟨by rw [hc, hq], by rw [hc]; exact hlk⟩
      have t5 : (q == 0) = false := by rw [beq_eq_false_iff_ne]; omega
      clear hq hxm hy hlk hc hm hmi hstep
      go_wp2_with fail
      go_roundw
      case rel => exact ⟨j + 1, by omega, by rw [HMi.out], HN.out.1.symm, HN.out.2, by first | rfl | trivial⟩
      case measure => simp [intOf] <;> omega
    | true =>
      have hp := hxm.1 rfl
      have hc := cntW_first (n := j) hp
      rw [hstep] at hc
      have ew : IntKind.i64.wrap (q + 1) = q + 1 := intFits _ (by omega) (by omega)
      by_cases hq1 : q = -1
      · have t5 : (q + 1 == 0) = true := by rw [beq_iff_eq]; omega
        have ew5 : IntKind.i64.wrap (day - 2000 + (m : Int)) = day - 2000 + (m : Int) := intFits _ (by omega) (by omega)
        have HN : Hid (BackP P day kk (day - 2000 + (m : Int))) := by
          rw [show day - 2000 + (m : Int) = day - ((j + 1 : Nat) : Int) from by omega]
          exact ⟨j + 1, by omega, by omega, rfl, hp, by omega⟩
        have H1 := Lib.hid hq1
        clear hq hxm hy hlk hc hp hq1 hm hmi hstep
        go_wp2_with fail
        go_ret2
        exact ⟨_, 0, rfl, HB4.out, .inl ⟨rfl, HN.out⟩⟩
      · have t5 : (q + 1 == 0) = false := by rw [beq_eq_false_iff_ne]; omega
        have HN : Hid (Value.int .i64 (n + (cntW P (day - ((j + 1 : Nat) : Int)) (j + 1) : Int)) = Value.int .i64 (q + 1) ∧ cntW P (day - ((j + 1 : Nat) : Int)) (j + 1) < kk) := ⟨by rw [hc, hq]; congr 1; omega, by omega⟩
        have hq2 : q < -1 := by omega
        clear hq hxm hy hlk hc hp hq1 hm hmi hstep
        go_wp2_with fail
        go_roundw
        case rel => exact ⟨j + 1, by omega, by rw [HMi.out], HN.out.1.symm, HN.out.2, by first | rfl | trivial⟩
        case measure => simp [intOf] <;> omega
end Go.Proofs.YtoaflcnphijhpaaGreatDoor

/- Contracts of terms.Add at working days that are not valid, and of terms.Term. -/
namespace Go.Proofs.YtoaflcnphijhpaaGreatDoor
open Go Go.RowKit
attribute [local go_sem] Oper.semAt_some
set_option linter.unusedVariables false

theorem FwdP.unique {P : Int → Prop} {first : Int} {len k : Nat} {d e : Int} (h : FwdP P first len k d) (h' : FwdP P first len k e) : d = e := by
  have key : ∀ {d e : Int}, FwdP P first len k d → FwdP P first len k e → ¬ d < e := by
    rintro d e ⟨i, hi1, rfl, hp, hc⟩ ⟨j, hj1, rfl, hq, hc'⟩ hlt
    have h1 := cntW_yes (n := j) hq
    have h2 := cntW_mono P first (show i + 1 ≤ j by omega)
    omega
  have a := key h h'
  have b := key h' h
  omega
/-- what Add says of days that are not valid -/
def AddNo (w : World) (e : Ending) (w' : World) : Prop := ∃ E : Int, e = .returned (.tuple #[.int .i64 0, .int .i64 E]) ∧ E ≠ 0 ∧ Below w.heap.size w w'
set_option maxHeartbeats 2000000 in
set_option maxRecDepth 100000 in
theorem wkadd_bad (x : Wk) (day n : Int) (w : World) (hv : Env w) (hin : WkIn w w.heap.size x) (hgd : ¬ WkGood x.rs x.t) : Calls Tryz.prog 13 #[wkV x, .int .i64 day, .int .i64 n] w (AddNo w) := by
  have HCk := Lib.hid (fun g1 W (h : Below w.heap.size w W) (hb : Box W g1 3 #[.int .i64 day]) => tcheck_any x [day] (some ⟨g1, 0, none⟩) 1 W (hv.next h) (hin.next h h.size) (Row.of_box hb) (by simp))
  unfold WkChkQ at HCk
  obtain ⟨G, hG⟩ : ∃ G : Prop, G = WkGood x.rs x.t := ⟨_, rfl⟩
  rw [← hG] at HCk hgd
  have HNg := Lib.hid hgd
  clear hv hin hG hgd
  obtain ⟨rs, Ar, cr, t⟩ := x
  obtain ⟨k, a, b, nm, A, c, ks⟩ := t
  have hfe : wkV ⟨rs, Ar, cr, .node k a b nm A c ks⟩ = .agg #[.slice Ar rs.length cr, .int .i64 k, .int .i64 a, .int .i64 b, .string nm, .slice A ks.length c] := rfl
  rw [hfe] at HCk ⊢
  have HB := Lib.hid (below_alloc2 w (Obj.cells #[.slice Ar rs.length cr, .int .i64 k, .int .i64 a, .int .i64 b, .string nm, .slice A ks.length c] 27) (Obj.cells #[.int .i64 day] 3))
  have hY := Box.new (w.alloc (Obj.cells #[.slice Ar rs.length cr, .int .i64 k, .int .i64 a, .int .i64 b, .string nm, .slice A ks.length c] 27)) 3 #[.int .i64 day]
  rw [World.size_alloc] at hY
  have HY := Lib.hid hY
  have xb := Box.new w 27 #[.slice Ar rs.length cr, .int .i64 k, .int .i64 a, .int .i64 b, .string nm, .slice A ks.length c]
  obtain ⟨x0, x1, x2, x3, x4, x5⟩ := wkcells xb
  clear hfe hY
  go_enter Tryz.func13, Tryz.ntmps13
  go_wp2_with fail
  clear x0 x1 x2 x3 x4 x5 xb
  generalize (w.alloc (Obj.cells #[.slice Ar rs.length cr, .int .i64 k, .int .i64 a, .int .i64 b, .string nm, .slice A ks.length c] 27)).alloc (Obj.cells #[.int .i64 day] 3) = W2 at *
  refine (HCk.out _ W2 HB.out HY.out).mono ?_
  rintro e w3 ⟨E, rfl, hE, hb3⟩
  have HB3 := Lib.hid (below_then HB.out hb3)
  have hE0 : E ≠ 0 := fun h => HNg.out (hE.1 h).1
  have HE0 := Lib.hid hE0
  have t1 : (E != 0) = true := by rw [bne_iff_ne]; exact hE0
  clear hb3 hE HCk HB HY hE0
  go_wp2_with fail
  go_ret2
  exact ⟨E, rfl, HE0.out, HB3.out⟩

/-- what Term says -/
def TermQ (x : Wk) (first : Int) (w : World) (e : Ending) (w' : World) : Prop := ∃ d E : Int, e = .returned (.tuple #[.int .i64 d, .int .i64 E]) ∧ Below w.heap.size w w' ∧ (E = 0 → WkGood x.rs x.t ∧ DayIn first ∧ FwdP (WorkD x.rs x.t) first 2001 1 d) ∧ (E ≠ 0 → WkGood x.rs x.t → DayIn first → cntW (WorkD x.rs x.t) first 2001 < 1)
set_option maxHeartbeats 2000000 in
set_option maxRecDepth 100000 in
theorem term_any (x : Wk) (day n : Int) (w : World) (hv : Env w) (hin : WkIn w w.heap.size x) (hd : DayIn day) (hn : 0 ≤ n ∧ n ≤ 1000) : Calls Tryz.prog 16 #[wkV x, .int .i64 day, .int .i64 n] w (TermQ x (day + n) w) := by
  have HCk := Lib.hid (fun g1 W (h : Below w.heap.size w W) (hb : Box W g1 3 #[.int .i64 day]) => tcheck_any x [day] (some ⟨g1, 0, none⟩) 1 W (hv.next h) (hin.next h h.size) (Row.of_box hb) (by simp))
  have HAd := Lib.hid (fun (hg : WkGood x.rs x.t) (d : Int) (hd : DayIn d) W (h : Below w.heap.size w W) => wkadd_fwd x d 0 d 1 2001 W (hv.next h) (hin.next h h.size) hg hd (by omega) (by omega) (.inl ⟨rfl, rfl, rfl, rfl⟩))
  unfold WkChkQ at HCk
  unfold AddQ at HAd
  have HPo : Hid (∀ d E w', Below w.heap.size w w' → (E = 0 → WkGood x.rs x.t ∧ DayIn (day + n) ∧ FwdP (WorkD x.rs x.t) (day + n) 2001 1 d) → (E ≠ 0 → WkGood x.rs x.t → DayIn (day + n) → cntW (WorkD x.rs x.t) (day + n) 2001 < 1) → TermQ x (day + n) w (.returned (.tuple #[.int .i64 d, .int .i64 E])) w') := fun d E w' a b c => ⟨d, E, rfl, a, b, c⟩
  obtain ⟨P, hP⟩ : ∃ P : Int → Prop, P = WorkD x.rs x.t := ⟨_, rfl⟩
  obtain ⟨G, hG⟩ : ∃ G : Prop, G = WkGood x.rs x.t := ⟨_, rfl⟩
  rw [← hG] at HCk
  rw [← hP, ← hG] at HAd HPo
  have HDs := Lib.hid hd
  obtain ⟨q1, q2⟩ := hd
  have HDi := Lib.hid (fun W => isDay_any (day + n) W)
  clear hv hin hG hP
  generalize TermQ x (day + n) w = POST at *
  obtain ⟨rs, Ar, cr, t⟩ := x
  obtain ⟨k, a, b, nm, A, c, ks⟩ := t
  have hfe : wkV ⟨rs, Ar, cr, .node k a b nm A c ks⟩ = .agg #[.slice Ar rs.length cr, .int .i64 k, .int .i64 a, .int .i64 b, .string nm, .slice A ks.length c] := rfl
  rw [hfe] at HCk HAd ⊢
  have HB := Lib.hid (below_alloc2 w (Obj.cells #[.slice Ar rs.length cr, .int .i64 k, .int .i64 a, .int .i64 b, .string nm, .slice A ks.length c] 27) (Obj.cells #[.int .i64 day] 3))
  have HX := Lib.hid ((Box.new w 27 #[.slice Ar rs.length cr, .int .i64 k, .int .i64 a, .int .i64 b, .string nm, .slice A ks.length c]).alloc (Obj.cells #[.int .i64 day] 3))
  have hY := Box.new (w.alloc (Obj.cells #[.slice Ar rs.length cr, .int .i64 k, .int .i64 a, .int .i64 b, .string nm, .slice A ks.length c] 27)) 3 #[.int .i64 day]
  rw [World.size_alloc] at hY
  have HY := Lib.hid hY
  have xb := Box.new w 27 #[.slice Ar rs.length cr, .int .i64 k, .int .i64 a, .int .i64 b, .string nm, .slice A ks.length c]
  obtain ⟨x0, x1, x2, x3, x4, x5⟩ := wkcells xb
  have ew1 : IntKind.i64.wrap (day + n) = day + n := intFits _ (by omega) (by omega)
  have t2 : decide (n < 0) = false := decide_eq_false (by omega)
  have t3 : decide (1000 < n) = false := decide_eq_false (by omega)
  clear hfe hY
  go_enter Tryz.func16, Tryz.ntmps16
  go_wp2_with fail
  clear x0 x1 x2 x3 x4 x5 xb
  generalize (w.alloc (Obj.cells #[.slice Ar rs.length cr, .int .i64 k, .int .i64 a, .int .i64 b, .string nm, .slice A ks.length c] 27)).alloc (Obj.cells #[.int .i64 day] 3) = W2 at *
  refine (HCk.out _ W2 HB.out HY.out).mono ?_
  rintro e w3 ⟨E, rfl, hE, hb3⟩
  have HB3 := Lib.hid (below_then HB.out hb3)
  have HX3 := Lib.hid (HX.out.below hb3)
  have HE := Lib.hid hE
  clear hb3 hE HCk HB HX HY
  by_cases hE0 : E = 0
  case neg =>
    have t1 : (E != 0) = true := by rw [bne_iff_ne]; exact hE0
    have HN : Hid (E ≠ 0 ∧ ¬ G) := ⟨hE0, fun h => hE0 (HE.out.2 ⟨h, fun d hd => by rw [List.mem_singleton] at hd; rw [hd]; exact HDs.out⟩)⟩
    clear hE0 HE
    go_wp2_with fail
    exact HPo.out 0 E _ HB3.out (fun h => absurd h HN.out.1) (fun _ h => absurd h HN.out.2)
  subst hE0
  have HGd := Lib.hid (HE.out.1 rfl).1
  clear HE
  obtain ⟨x0, x1, x2, x3, x4, x5⟩ := wkcells HX3.out
  by_cases hdn : -4000000 ≤ day + n ∧ day + n ≤ 4000000
  case neg =>
    rw [decide_eq_false hdn] at HDi
    have HN : Hid (¬ DayIn (day + n)) := hdn
    clear hdn
    go_wp2_with (go_at_call 41; refine (HDi.out _).mono ?_; rintro e w' ⟨rfl, rfl⟩)
    exact HPo.out 0 6 _ HB3.out (fun h => by omega) (fun _ _ h => absurd h HN.out)
  rw [decide_eq_true hdn] at HDi
  have HDn : Hid (DayIn (day + n)) := hdn
  have HAd3 := Lib.hid (HAd.out HGd.out (day + n) hdn w3 HB3.out)
  clear hdn HAd
  go_wp2_with (go_at_call 41; refine (HDi.out _).mono ?_; rintro e w' ⟨rfl, rfl⟩)
  refine HAd3.out.mono ?_
  rintro e w4 ⟨d, E, rfl, hb4, hor⟩
  have HB4 := Lib.hid (below_then HB3.out hb4)
  have HOr := Lib.hid hor
  clear hb4 hor HAd3 HB3 HX3 x0 x1 x2 x3 x4 x5
  go_wp2_with fail
  refine HPo.out d E _ HB4.out (fun h => ?_) (fun h _ _ => ?_)
  · rcases HOr.out with ⟨_, hf⟩ | ⟨hE, _⟩
    · exact ⟨HGd.out, HDn.out, hf⟩
    · omega
  · rcases HOr.out with ⟨hE, _⟩ | ⟨_, hf⟩
    · exact absurd hE h
    · exact hf
end Go.Proofs.YtoaflcnphijhpaaGreatDoor

/- Working days, plain: the constants of the laws, and what the laws say. -/
namespace Go.Proofs.YtoaflcnphijhpaaGreatDoor
open Go Go.RowKit
set_option linter.unusedVariables false

theorem fe0_none : NoneF fe0 := ⟨rfl, rfl, rfl, rfl, rfl⟩
theorem fe0_in (w : World) (B : Nat) : FeIn w B fe0 := .mk ⟨by decide, by decide⟩ ⟨by decide, by decide⟩ ⟨by decide, by decide⟩ (by decide) (by decide) (.inl rfl) (fun x hx => by cases hx)
theorem rest56 : RestOk [5, 6] := ⟨by decide, fun i hi => by have h : i < 2 := hi; rcases (show i = 0 ∨ i = 1 by omega) with rfl | rfl <;> decide, fun i h0 hi => by have h : i < 2 := hi; rcases (show i = 1 by omega) with rfl; decide⟩
theorem rest1 (d : Int) (h0 : 0 ≤ d) (h6 : d ≤ 6) : RestOk [d] := ⟨by simp, fun i hi => by have h : i < 1 := hi; rcases (show i = 0 by omega) with rfl; exact ⟨h0, h6⟩, fun i h0 hi => by have h : i < 1 := hi; omega⟩
theorem five_good : WkGood [5, 6] fe0 := ⟨rest56, .inl fe0_none⟩
theorem five_in {W : World} {g : Nat} (h : Box W g 3 #[.int .i64 5, .int .i64 6]) : WkIn W W.heap.size ⟨[5, 6], some ⟨g, 0, none⟩, 2, fe0⟩ := ⟨Row.of_box h, fe0_in _ _, by show 2 ≤ maxLen; decide⟩
theorem one_in {W : World} {g : Nat} {d : Int} {t : FE} (h : Box W g 3 #[.int .i64 d]) (ht : FeIn W W.heap.size t) : WkIn W W.heap.size ⟨[d], some ⟨g, 0, none⟩, 1, t⟩ := ⟨Row.of_box h, ht, by show 1 ≤ maxLen; decide⟩
theorem work5 (d : Int) (h : DayIn d) : WorkD [5, 6] fe0 d ↔ (d - 1) % 7 ≠ 5 ∧ (d - 1) % 7 ≠ 6 := by
  unfold WorkD
  simp [h, fe0_none]
theorem work6 (d : Int) (h : DayIn d) : WorkD [6] fe0 d ↔ (d - 1) % 7 ≠ 6 := by
  unfold WorkD
  simp [h, fe0_none]
theorem five_fwd : FwdP (WorkD [5, 6] fe0) 2 2000 5 8 := by
  refine ⟨6, by omega, by omega, (work5 8 ⟨by omega, by omega⟩).2 (by omega), ?_⟩
  rw [cntW_yes ((work5 _ ⟨by omega, by omega⟩).2 (by omega)), cntW_no (n := 5) (fun h => by have := (work5 _ ⟨by omega, by omega⟩).1 h; omega), cntW_no (n := 4) (fun h => by have := (work5 _ ⟨by omega, by omega⟩).1 h; omega), cntW_yes (n := 3) ((work5 _ ⟨by omega, by omega⟩).2 (by omega)), cntW_yes (n := 2) ((work5 _ ⟨by omega, by omega⟩).2 (by omega)), cntW_yes (n := 1) ((work5 _ ⟨by omega, by omega⟩).2 (by omega)), cntW_yes (n := 0) ((work5 _ ⟨by omega, by omega⟩).2 (by omega)), cntW_zero]
theorem five_term : FwdP (WorkD [5, 6] fe0) 6 2001 1 8 := by
  refine ⟨2, by omega, by omega, (work5 8 ⟨by omega, by omega⟩).2 (by omega), ?_⟩
  rw [cntW_yes ((work5 _ ⟨by omega, by omega⟩).2 (by omega)), cntW_no (n := 1) (fun h => by have := (work5 _ ⟨by omega, by omega⟩).1 h; omega), cntW_no (n := 0) (fun h => by have := (work5 _ ⟨by omega, by omega⟩).1 h; omega), cntW_zero]
theorem six_cnt : cntW (WorkD [6] fe0) 1 7 = 6 := by
  rw [cntW_no (n := 6) (fun h => by have := (work6 _ ⟨by omega, by omega⟩).1 h; omega), cntW_yes (n := 5) ((work6 _ ⟨by omega, by omega⟩).2 (by omega)), cntW_yes (n := 4) ((work6 _ ⟨by omega, by omega⟩).2 (by omega)), cntW_yes (n := 3) ((work6 _ ⟨by omega, by omega⟩).2 (by omega)), cntW_yes (n := 2) ((work6 _ ⟨by omega, by omega⟩).2 (by omega)), cntW_yes (n := 1) ((work6 _ ⟨by omega, by omega⟩).2 (by omega)), cntW_yes (n := 0) ((work6 _ ⟨by omega, by omega⟩).2 (by omega)), cntW_zero]
theorem fwd_some {P : Int → Prop} {first : Int} {len k : Nat} {d : Int} (h : FwdP P first len k d) : k ≤ cntW P first len := by
  obtain ⟨i, hi, _, _, hc⟩ := h
  have := cntW_mono P first (show i + 1 ≤ len by omega)
  omega
/-- the days ahead of a working day hold the k days that lie between -/
theorem back_some {P : Int → Prop} {s e : Int} {i k : Nat} (he : e = s + 1 + (i : Int)) (hi : i < 2000) (hc : cntW P s (i + 1) = k) : k ≤ cntW P (e - 2000) 2000 := by
  obtain ⟨m, hm⟩ : ∃ m : Nat, 2000 = m + (i + 1) := ⟨2000 - (i + 1), by omega⟩
  have h := cntW_add P (e - 2000) m (i + 1)
  rw [← hm, show e - 2000 + (m : Int) = s from by omega, hc] at h
  omega
theorem fwd_first {P : Int → Prop} {s : Int} {len : Nat} {e : Int} (h : FwdP P s len 1 e) : ∃ i : Nat, i < len ∧ e = s + (i : Int) ∧ P e ∧ cntW P s i = 0 := by
  obtain ⟨i, hi, rfl, hp, hc⟩ := h
  rw [cntW_yes hp] at hc
  exact ⟨i, hi, rfl, hp, by omega⟩
theorem wkcells0 {w : World} {g : Nat} (h : Box w g 27 #[.slice none 0 0, .int .i64 0, .int .i64 0, .int .i64 0, .string ⟨#[]⟩, .slice none 0 0]) :
    w.cell? ⟨g, 0, none⟩ = some (.slice none 0 0) ∧ w.cell? ⟨g, 1, none⟩ = some (.int .i64 0) ∧ w.cell? ⟨g, 2, none⟩ = some (.int .i64 0) ∧ w.cell? ⟨g, 3, none⟩ = some (.int .i64 0) ∧ w.cell? ⟨g, 4, none⟩ = some (.string ⟨#[]⟩) ∧ w.cell? ⟨g, 5, none⟩ = some (.slice none 0 0) := ⟨h.cell 0, h.cell 1, h.cell 2, h.cell 3, h.cell 4, h.cell 5⟩
end Go.Proofs.YtoaflcnphijhpaaGreatDoor

/- Contracts of solve.Between and Count. -/
namespace Go.Proofs.YtoaflcnphijhpaaGreatDoor
open Go Go.RowKit
attribute [local go_sem] Oper.semAt_some
set_option linter.unusedVariables false

open Classical in
/-- the days of the set among the n days from a on -/
noncomputable def daysF (t : FE) (a : Int) (n : Nat) : List Int := ((List.range n).map fun (i : Nat) => a + (i : Int)).filter fun d => decide (memF t d)
open Classical in
theorem daysF_add (t : FE) (a : Int) (n m : Nat) : daysF t a (n + m) = daysF t a n ++ daysF t (a + n) m := by
  unfold daysF
  rw [List.range_add, List.map_append, List.filter_append, List.map_map]
  congr 2
  apply List.map_congr_left
  intro i _
  simp [Int.add_assoc]
open Classical in
theorem daysF_one (t : FE) (a : Int) : daysF t a 1 = if memF t a then [a] else [] := by
  unfold daysF
  by_cases h : memF t a <;> simp [h]
theorem daysF_yes {t : FE} {a : Int} {n : Nat} (h : memF t (a + n)) : daysF t a (n + 1) = daysF t a n ++ [a + (n : Int)] := by rw [daysF_add, daysF_one, if_pos h]
theorem daysF_no {t : FE} {a : Int} {n : Nat} (h : ¬ memF t (a + n)) : daysF t a (n + 1) = daysF t a n := by rw [daysF_add, daysF_one, if_neg h, List.append_nil]
theorem daysF_len (t : FE) (a : Int) (n : Nat) : (daysF t a n).length ≤ n := by
  unfold daysF
  refine Nat.le_trans (List.length_filter_le _ _) ?_
  simp
theorem daysF_mem (t : FE) (a : Int) (n : Nat) (d : Int) : d ∈ daysF t a n ↔ a ≤ d ∧ d < a + n ∧ memF t d := by
  unfold daysF
  simp only [List.mem_filter, List.mem_map, List.mem_range, decide_eq_true_eq]
  constructor
  · rintro ⟨⟨i, hi, rfl⟩, h⟩
    exact ⟨by omega, by omega, h⟩
  · rintro ⟨h1, h2, h3⟩
    exact ⟨⟨(d - a).toNat, by omega, by omega⟩, h3⟩
/-- what Between says -/
def BetGood (t : FE) (a b : Int) : Prop := FeGood t ∧ DayIn a ∧ DayIn b ∧ a ≤ b ∧ b - a ≤ 3000
def BetQ (t : FE) (a b : Int) (w : World) (e : Ending) (w' : World) : Prop := Below w.heap.size w w' ∧ ((∃ E : Int, E ≠ 0 ∧ e = .returned (.tuple #[.slice none 0 0, .int .i64 E]) ∧ ¬ BetGood t a b) ∨
  (∃ (A : Option Addr) (l c : Nat), e = .returned (.tuple #[.slice A l c, .int .i64 0]) ∧ BetGood t a b ∧ l = (daysF t a (b - a + 1).toNat).length ∧ w'.ownsRow w.heap.size 3 1 (.slice A l c) l (ints (daysF t a (b - a + 1).toNat))))
theorem BetQ.no {t : FE} {a b : Int} {w w' : World} {E : Int} (h : ¬ BetGood t a b) (hE : E ≠ 0) (hb : Below w.heap.size w w') : BetQ t a b w (.returned (.tuple #[.slice none 0 0, .int .i64 E])) w' := ⟨hb, .inl ⟨E, hE, rfl, h⟩⟩
theorem two_at (a b : Int) (g1 : Nat) (W : World) (h0 : W.cell? ⟨g1, 0, none⟩ = some (.int .i64 a)) (h1 : W.cell? ⟨g1, 1, none⟩ = some (.int .i64 b)) : ∀ j, j < [a, b].length → W.cell? ⟨g1, 0 + j, none⟩ = some (.int .i64 ([a, b].getD j 0)) := by
  intro j hj
  have : j = 0 ∨ j = 1 := by simp at hj; omega
  rcases this with rfl | rfl
  · exact h0
  · exact h1
theorem one_intS (x : Int) : ∀ u ∈ [Value.int .i64 x], u.oneCell' = true := fun u hu => by simp at hu; subst hu; rfl

set_option maxHeartbeats 2000000 in
set_option maxRecDepth 100000 in
theorem between_any (t : FE) (lo hi : Int) (w : World) (hv : Env w) (hin : FeIn w w.heap.size t) : Calls Tryz.prog 36 #[feV t, .int .i64 lo, .int .i64 hi] w (BetQ t lo hi w) := by
  obtain ⟨i0, hi0, hz0, hz1, hz2⟩ := info_parts infoInt2
  have HV := Lib.hid (fun W (h : Below w.heap.size w W) => hv.next h)
  have HIn := Lib.hid (fun W (h : Below w.heap.size w W) => hin.next h h.size)
  clear hv hin
  obtain ⟨t0, ht0⟩ : ∃ t0, t0 = t := ⟨_, rfl⟩
  obtain ⟨k, a, b, nm, A, c, ks⟩ := t
  have HCk := Lib.hid (fun g1 W (h : Below w.heap.size w W) (hg : g1 < W.heap.size) (h0 : W.cell? ⟨g1, 0, none⟩ = some (.int .i64 lo)) (h1 : W.cell? ⟨g1, 1, none⟩ = some (.int .i64 hi)) => check_any (.node k a b nm A c ks) [lo, hi] g1 0 2 W (HV.out W h) (HIn.out W h) hg (two_at lo hi g1 W h0 h1) (by simp))
  have HOp := Lib.hid (fun (hok : FeOk (.node k a b nm A c ks)) W (h : Below w.heap.size w W) => open_any W (HV.out W h) (.node k a b nm A c ks) (HIn.out W h) hok W (Below.refl _ _))
  have HSt := Lib.hid (fun (hg : FeGood (.node k a b nm A c ks)) (h1 : DayIn lo) (h2 : DayIn hi) (n : Nat) (hn : hi = lo + n - 1) (hn1 : 1 ≤ n) (hn2 : n ≤ 3001) (T : ST) (p : Nat → Prop) W (h : StAt W p T (.node k a b nm A c ks)) => set_any h hg.ok W lo hi n (Below.refl _ _) hn (by have := hg.ht; have := h1.1; omega) (by have := hg.ht; have := h2.2; omega) hn1 (by have := hg.ht; omega))
  rw [← ht0] at HCk HOp HSt ⊢
  have HT0 := Lib.hid ht0
  have hfe : feV t0 = .agg #[.int .i64 k, .int .i64 a, .int .i64 b, .string nm, .slice A ks.length c] := by rw [ht0]; rfl
  rw [hfe] at HCk HOp ⊢
  have HB := Lib.hid (below_alloc2 w (Obj.cells #[.int .i64 k, .int .i64 a, .int .i64 b, .string nm, .slice A ks.length c] 25) (Obj.cells #[.int .i64 lo, .int .i64 hi] 3))
  have HX := Lib.hid ((Box.new w 25 #[.int .i64 k, .int .i64 a, .int .i64 b, .string nm, .slice A ks.length c]).alloc (Obj.cells #[.int .i64 lo, .int .i64 hi] 3))
  have hY := Box.new (w.alloc (Obj.cells #[.int .i64 k, .int .i64 a, .int .i64 b, .string nm, .slice A ks.length c] 25)) 3 #[.int .i64 lo, .int .i64 hi]
  rw [World.size_alloc] at hY
  have HY := Lib.hid hY
  have xb := Box.new w 25 #[.int .i64 k, .int .i64 a, .int .i64 b, .string nm, .slice A ks.length c]
  obtain ⟨x0, x1, x2, x3, x4⟩ := fecells xb
  unfold ChkQ at HCk
  unfold OpenQ at HOp
  unfold SetQ at HSt
  clear ht0 hfe hY
  go_enter Tryz.func36, Tryz.ntmps36
  go_wp2_with fail
  clear x0 x1 x2 x3 x4 xb
  generalize (w.alloc (Obj.cells #[.int .i64 k, .int .i64 a, .int .i64 b, .string nm, .slice A ks.length c] 25)).alloc (Obj.cells #[.int .i64 lo, .int .i64 hi] 3) = W2 at *
  refine (HCk.out _ W2 HB.out HY.out.lt (HY.out.cell 0) (HY.out.cell 1)).mono ?_
  rintro e w3 ⟨E, rfl, hE, hb3⟩
  have HB3 := Lib.hid (below_then HB.out hb3)
  have HX3 := Lib.hid (HX.out.below hb3)
  have HE := Lib.hid hE
  clear hb3 hE HCk HB HX HY
  by_cases hE0 : E = 0
  case neg =>
    have t1 : (E != 0) = true := by rw [bne_iff_ne]; exact hE0
    have HR : Hid (E ≠ 0 ∧ ¬ BetGood t0 lo hi) := ⟨hE0, fun h => hE0 (HE.out.2 ⟨h.1, fun d hd => by
      simp only [List.mem_cons, List.not_mem_nil, or_false] at hd
      rcases hd with rfl | rfl
      · exact h.2.1
      · exact h.2.2.1⟩)⟩
    clear hE0 HE
    go_wp2_with fail
    go_ret2
    exact BetQ.no HR.out.2 HR.out.1 HB3.out
  subst hE0
  have HGd := Lib.hid (HE.out.1 rfl)
  have hd1 : DayIn lo := HGd.out.2 lo (by simp)
  have hd2 : DayIn hi := HGd.out.2 hi (by simp)
  have HDs := Lib.hid (And.intro hd1 hd2)
  unfold DayIn at hd1 hd2
  clear HE
  by_cases hgt : hi < lo
  · have t2 : decide (hi < lo) = true := decide_eq_true hgt
    have HR : Hid (¬ BetGood t0 lo hi) := fun h => by have := h.2.2.2.1; omega
    go_wp2_with fail
    go_ret2
    exact BetQ.no HR.out (by omega) HB3.out
  have t2 : decide (hi < lo) = false := decide_eq_false hgt
  have ew : IntKind.i64.wrap (hi - lo) = hi - lo := intFits _ (by omega) (by omega)
  by_cases hlg : 3000 < hi - lo
  · have t3 : decide (3000 < hi - lo) = true := decide_eq_true hlg
    have HR : Hid (¬ BetGood t0 lo hi) := fun h => by have := h.2.2.2.2; omega
    go_wp2_with fail
    go_ret2
    exact BetQ.no HR.out (by omega) HB3.out
  have t3 : decide (3000 < hi - lo) = false := decide_eq_false hlg
  have HOk := Lib.hid HGd.out.1.ok
  obtain ⟨n, hn⟩ : ∃ n : Nat, n = (hi - lo + 1).toNat := ⟨_, rfl⟩
  have hnn : (n : Int) ≤ hi - lo + 1 ∧ hi - lo + 1 ≤ n := by omega
  have hn1 : 1 ≤ n ∧ n ≤ 3001 := by omega
  have HNe := Lib.hid hn
  have HGB : Hid (BetGood t0 lo hi) := ⟨HGd.out.1, HDs.out.1, HDs.out.2, by omega, by omega⟩
  clear hn hgt hlg
  obtain ⟨x0, x1, x2, x3, x4⟩ := fecells HX3.out
  go_wp2_with fail
  refine (HOp.out HOk.out w3 HB3.out).mono ?_
  rintro e w4 ⟨T, rfl, hT, hb4⟩
  have HB4 := Lib.hid (below_then HB3.out hb4)
  have HS4 := Lib.hid (HSt.out HGd.out.1 HDs.out.1 HDs.out.2 n (by omega) (by omega) (by omega) T _ w4 hT)
  clear hT hb4 HOp HSt HX3 x0 x1 x2 x3 x4
  go_wp2_with fail
  refine HS4.out.mono ?_
  rintro e w5 ⟨gs, rfl, hbs, hgs, hb5⟩
  have HB5 := Lib.hid (below_then HB4.out hb5)
  obtain ⟨L, hL, hLc, hLm⟩ := hbs.list
  have HL := Lib.hid (And.intro hLc hLm)
  have hgl : gs < w5.heap.size := by obtain ⟨_, q, _⟩ := hbs; exact q.lt
  clear hb5 HB4 HS4 hLc hLm hbs t2 t3 ew
  go_wp2_with fail
  go_loopw [9, 10, 11, 33] (fun s9 _ _ i wr => ∃ j : Nat, j ≤ n ∧ i = .int .i64 (j : Int) ∧ Hid (wr.ownsRow w5.heap.size 3 1 s9 (daysF t0 lo j).length (ints (daysF t0 lo j))) ∧ Hid (Below w5.heap.size w5 wr)) (fun _ _ _ i _ => n - (intOf i).toNat)
  case atStart => exact ⟨0, by omega, rfl, World.ownsRow_nil _ _ _ _, Below.refl _ _⟩
  case round =>
    obtain ⟨j, hj, rfl, hown, hbr⟩ := hrel
    have hln := daysF_len t0 lo j
    by_cases hlt : j < n
    case neg =>
      have hje : n ≤ j := by omega
      have hjn : j = n := by omega
      obtain ⟨A9, c9, rfl, _⟩ := own_form hown.out
      have HO : Hid (wr.ownsRow w.heap.size 3 1 (.slice A9 (daysF t0 lo j).length c9) (daysF t0 lo j).length (ints (daysF t0 lo j))) := own_lower hown.out HB5.out.size
      have HJ : Hid (j = (hi - lo + 1).toNat) := by unfold Hid; rw [hjn]; exact HNe.out
      have HBw := Lib.hid (below_then HB5.out hbr.out)
      clear hjn hown hbr
      go_wp2_with fail
      go_ret2
      refine ⟨HBw.out, .inr ⟨A9, _, c9, rfl, HGB.out, by rw [HJ.out], ?_⟩⟩
      rw [← HJ.out]
      exact HO.out
    obtain ⟨x, hx⟩ : ∃ x, L[j]? = some x := ⟨_, List.getElem?_eq_getElem (by omega)⟩
    have hcx := (hbr.out.cell (p := ⟨gs, j, none⟩) hgl).trans (HL.out.1 j x hx)
    have hxm : x = true ↔ memF t0 (lo + (j : Int)) := by
      have := HL.out.2 j hlt
      rwa [List.getD_eq_getElem?_getD, hx] at this
    have HXm := Lib.hid hxm
    have ew3 : IntKind.i64.wrap (lo + (j : Int)) = lo + (j : Int) := intFits _ (by omega) (by omega)
    have hszr := hbr.out.size
    clear hx hxm
    cases x with
    | false =>
      have hno : ¬ memF t0 (lo + (j : Int)) := fun h => by have := HXm.out.2 h; cases this
      have HO : Hid (wr.ownsRow w5.heap.size 3 1 u9 (daysF t0 lo (j + 1)).length (ints (daysF t0 lo (j + 1)))) := by unfold Hid; rw [daysF_no hno]; exact hown.out
      clear hno HXm hown
      go_wp2_with fail
      go_roundw
      case rel => exact ⟨j + 1, by omega, by go_num, HO, hbr⟩
      case measure => simp [intOf]; omega
    | true =>
      have HYs := Lib.hid (daysF_yes (HXm.out.1 rfl))
      have hown' := hown.out
      obtain ⟨l9, hl9⟩ : ∃ l9, l9 = (daysF t0 lo j).length := ⟨_, rfl⟩
      go_wp2_with (at_builtin; refine wpList_append_own _ rfl (.tmp 39) (.tmp 43) 22 rfl w5.heap.size 3 i0 (.int .i64 0) 1 8 Tryz.underlying22 hi0 hz0 hz1 hz2 rfl (by decide) u9 (daysF t0 lo j).length _ rfl (hown'.alloc _) ⟨wr.heap.size, 0, none⟩ 1 1 [.int .i64 (lo + (j : Int))] rfl rfl (cell_one_new _ _ _) (one_intS _) ?c3 ?c4 ?c5 ?_)
      case c3 => first | omega | (simp only [maxLen]; omega) | (simp; omega)
      case c4 => first | omega | (simp only [maxLen]; omega) | (simp; omega)
      case c5 => first | omega | (simp only [World.size_alloc]; omega) | (simp; omega)
      intro v' w6 hown6 hgrow _
      have HO : Hid (w6.ownsRow w5.heap.size 3 1 v' (daysF t0 lo (j + 1)).length (ints (daysF t0 lo (j + 1)))) := by
        unfold Hid
        rw [HYs.out, List.length_append]
        have e : ints (daysF t0 lo j ++ [lo + (j : Int)]) = ints (daysF t0 lo j) ++ [.int .i64 (lo + (j : Int))] := by simp [ints]
        rw [e]
        exact hown6
      have HB6 : Hid (Below w5.heap.size w5 w6) := (hbr.out.alloc hszr _).grown hgrow (by simp only [World.size_alloc]; omega) (fun k hk => (own_lt hown' k hk).1)
      clear hown6 hgrow hown' hown hbr HYs HXm hl9
      go_wp2_with fail
      go_roundw
      case rel => exact ⟨j + 1, by omega, by go_num, HO, HB6⟩
      case measure => simp [intOf]; omega

/-- what Count says -/
def CountQ (t : FE) (a b : Int) (w : World) (e : Ending) (w' : World) : Prop := Below w.heap.size w w' ∧ ((∃ E : Int, E ≠ 0 ∧ e = .returned (.tuple #[.int .i64 0, .int .i64 E]) ∧ ¬ BetGood t a b) ∨
  (e = .returned (.tuple #[.int .i64 ((daysF t a (b - a + 1).toNat).length : Int), .int .i64 0]) ∧ BetGood t a b))
set_option maxRecDepth 100000 in
theorem count_any (t : FE) (lo hi : Int) (w : World) (hv : Env w) (hin : FeIn w w.heap.size t) : Calls Tryz.prog 21 #[feV t, .int .i64 lo, .int .i64 hi] w (CountQ t lo hi w) := by
  have HBt := Lib.hid (fun W (h : Below w.heap.size w W) => between_any t lo hi W (hv.next h) (hin.next h h.size))
  unfold BetQ at HBt
  clear hv hin
  obtain ⟨t0, ht0⟩ : ∃ t0, t0 = t := ⟨_, rfl⟩
  obtain ⟨k, a, b, nm, A, c, ks⟩ := t
  rw [← ht0] at HBt ⊢
  have hfe : feV t0 = .agg #[.int .i64 k, .int .i64 a, .int .i64 b, .string nm, .slice A ks.length c] := by rw [ht0]; rfl
  rw [hfe] at HBt ⊢
  have HB := Lib.hid (below_alloc1 w (Obj.cells #[.int .i64 k, .int .i64 a, .int .i64 b, .string nm, .slice A ks.length c] 25))
  have hx := Box.new w 25 #[.int .i64 k, .int .i64 a, .int .i64 b, .string nm, .slice A ks.length c]
  obtain ⟨x0, x1, x2, x3, x4⟩ := fecells hx
  clear ht0 hfe hx
  go_enter Tryz.func21, Tryz.ntmps21
  go_wp2_with fail
  refine (HBt.out _ HB.out).mono ?_
  rintro e w2 ⟨hb2, hc⟩
  have HB2 := Lib.hid (below_then HB.out hb2)
  clear hb2 x0 x1 x2 x3 x4 HBt
  rcases hc with ⟨E, hE, rfl, hno⟩ | ⟨A9, l, c9, rfl, hg, rfl, hown⟩
  · have HR := Lib.hid (And.intro hE hno)
    clear hE hno
    go_wp2_with fail
    go_ret2
    exact ⟨HB2.out, .inl ⟨E, HR.out.1, rfl, HR.out.2⟩⟩
  · have HR := Lib.hid hg
    clear hg hown
    go_wp2_with fail
    go_ret2
    exact ⟨HB2.out, .inr ⟨rfl, HR.out⟩⟩
end Go.Proofs.YtoaflcnphijhpaaGreatDoor

/- Days of rest as an expression, plain. -/
namespace Go.Proofs.YtoaflcnphijhpaaGreatDoor
open Go Go.RowKit
set_option linter.unusedVariables false

/-- the expression 'weekday d or t' -/
def restF (d : Int) (g : Nat) (t : FE) : FE := .node 9 0 0 ⟨#[]⟩ (some ⟨g, 0, none⟩) 2 [.node 3 d 0 ⟨#[]⟩ none 0 [], t]
theorem restF_good {d : Int} {g : Nat} {t : FE} (h : FeGood (restF d g t)) : FeGood t := by
  obtain ⟨ok, sz, ht, dh⟩ := h
  cases ok with
  | mk node kids =>
    refine ⟨kids t (by simp), ?_, ?_, ?_⟩
    · simp only [restF, fsz, fszL] at sz; omega
    · simp only [restF, fht, fhtL] at ht; omega
    · simp only [restF, fdh, fdhL] at dh; omega
theorem good_not_none {t : FE} (h : FeGood t) : ¬ NoneF t := by
  obtain ⟨ok, _, _, _⟩ := h
  cases ok with
  | mk node kids =>
    intro hn
    have := node.k0
    have := hn.1
    omega
theorem work_rest {d : Int} {g : Nat} {t : FE} (h : FeGood t) (day : Int) (hd : DayIn day) : WorkD [d] t day ↔ ¬ memF (restF d g t) day := by
  have e0 : memL [.node 3 d 0 ⟨#[]⟩ none 0 [], t] 0 day ↔ memF (.node 3 d 0 ⟨#[]⟩ none 0 []) day := memL_get _ 0 day (by simp)
  have e1 : memL [.node 3 d 0 ⟨#[]⟩ none 0 [], t] 1 day ↔ memF t day := memL_get _ 1 day (by simp)
  have e2 : memF (.node 3 d 0 ⟨#[]⟩ none 0 []) day ↔ (day - 1) % 7 = d := by
    rw [memF]
    show DayIn day ∧ (day - 1) % 7 = d ↔ _
    simp [hd]
  unfold restF
  rw [memF]
  show _ ↔ ¬ (DayIn day ∧ (memL _ 0 day ∨ memL _ 1 day))
  rw [e0, e1, e2]
  unfold WorkD
  have := good_not_none h
  simp [hd, this]
theorem days_count {P : Int → Prop} {t : FE} {a : Int} : ∀ n : Nat, (∀ d, a ≤ d → d < a + n → (P d ↔ ¬ memF t d)) → (daysF t a n).length + cntW P a n = n
  | 0, _ => by rw [cntW_zero]; simp [daysF]
  | n + 1, h => by
    have ih := days_count n fun d h1 h2 => h d h1 (by omega)
    have hn := h (a + (n : Int)) (by omega) (by omega)
    by_cases hm : memF t (a + (n : Int))
    · rw [daysF_yes hm, cntW_no (fun hp => hn.1 hp hm), List.length_append]
      simp only [List.length_cons, List.length_nil]
      omega
    · rw [daysF_no hm, cntW_yes (hn.2 hm)]
      omega
theorem six_good : WkGood [6] fe0 := ⟨rest1 6 (by omega) (by omega), .inl fe0_none⟩
theorem restF_in {W : World} {g : Nat} {d : Int} {t : FE} (hr : 0 ≤ d ∧ d ≤ 6) (ht : FeIn W W.heap.size t) (hb : Box W g 25 ((feF (.node 3 d 0 ⟨#[]⟩ none 0 []) ++ feF t).toArray)) : FeIn W W.heap.size (restF d g t) := by
  refine .mk ⟨by omega, by omega⟩ ⟨by omega, by omega⟩ ⟨by omega, by omega⟩ (by decide) (by simp [maxLen]) ?_ ?_
  · have h := Row.of_box hb
    have e : [.node 3 d 0 ⟨#[]⟩ none 0 [], t].flatMap feF = (feF (.node 3 d 0 ⟨#[]⟩ none 0 []) ++ feF t).toArray.toList := by simp
    rw [e]
    exact h
  · intro x hx
    simp only [List.mem_cons, List.not_mem_nil, or_false] at hx
    rcases hx with rfl | rfl
    · exact .mk ⟨by omega, by omega⟩ ⟨by omega, by omega⟩ ⟨by omega, by omega⟩ (by decide) (by simp [maxLen]) (.inl rfl) (fun x hx => by cases hx)
    · exact ht
end Go.Proofs.YtoaflcnphijhpaaGreatDoor

/- Contracts of the great laws' own mod and cut. -/
namespace Go.Proofs.YtoaflcnphijhpaaGreatDoor
open Go.RowKit
set_option linter.unusedVariables false

theorem amod_any (a n : Int) (w : World) (h1 : 1 ≤ n) (h2 : n ≤ 1000000000000000) :
    Calls Tryz.prog 18 #[.int .i64 a, .int .i64 n] w fun e w' => e = .returned (.int .i64 (a % n)) ∧ w = w' := by
  have ht := (tmod_facts a n (by omega)).2.2.2
  have e1 := tmod_add_emod a n h1
  have E := Lib.hid e1
  clear e1
  have b1 : 0 ≤ a.tmod n + n := by omega
  have b2 : a.tmod n + n ≤ 9223372036854775807 := by omega
  have b3 : ¬ n = 0 := by omega
  go_enter Tryz.func18, Tryz.ntmps18
  go_wp2
  go_ret
  exact ⟨ret_int E.out, rfl⟩

theorem acut_any (x low n : Int) (w : World) (h1 : 1 ≤ n) (h2 : n ≤ 1000000000000000) (h3 : -1000000000000000 ≤ low) (h4 : low ≤ 1000000000000000) :
    Calls Tryz.prog 19 #[.int .i64 x, .int .i64 low, .int .i64 n] w fun e w' => e = .returned (.int .i64 (low + x % n)) ∧ w = w' := by
  have b1 := Int.emod_nonneg x (show n ≠ 0 by omega)
  have b2 := Int.emod_lt_of_pos x (show 0 < n by omega)
  go_enter Tryz.func19, Tryz.ntmps19
  go_wp2_with (go_at_call 18; refine (amod_any _ _ _ (by omega) (by omega)).mono ?_; rintro e w' ⟨rfl, rfl⟩)
  go_ret
  exact ⟨rfl, rfl⟩

end Go.Proofs.YtoaflcnphijhpaaGreatDoor
