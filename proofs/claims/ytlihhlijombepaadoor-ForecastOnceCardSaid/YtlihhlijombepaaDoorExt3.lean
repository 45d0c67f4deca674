/- forecast.Extend in one form; year by year. -/
import Derived.Test.YtlihhlijombepaaDoorExt2
namespace Go.Proofs.YtlihhlijombepaaDoor
open Go.RowKit
set_option linter.unusedVariables false

def ExtNo (w : World) (e : Ending) (w' : World) : Prop := Below w.heap.size w w' ∧ ∃ E : Int, E ≠ 0 ∧ e = .returned (.tuple #[.agg #[.string ⟨#[]⟩, .int .i64 0, .slice none 0 0], .int .i64 E])
set_option maxHeartbeats 2000000 in
set_option maxRecDepth 100000 in
theorem extend_no (nm : ByteArray) (first : Int) (A : Option Addr) (c : Nat) (chs : List Chg) (B : Option Addr) (d : Nat) (rs : List ZR) (y y2 : Int) (w : World) (hz : ZIn w nm A chs) (hr : RIn w B rs) (hno : ¬ (ForeOk rs ∧ ZoneOk nm first chs)) :
    Calls Tryd.prog 23 #[.agg #[.string nm, .int .i64 first, .slice A chs.length c], .slice B rs.length d, .int .i64 y, .int .i64 y2] w (ExtNo w) := by
  have HZ0 := Lib.hid hz
  have HR0 := Lib.hid hr
  have HNO := Lib.hid hno
  have HB0 := Lib.hid (below_alloc2 w (Obj.cells #[.string nm, .int .i64 first, .slice A chs.length c] 24) (Obj.cells #[.string ⟨#[]⟩, .int .i64 0, .slice none 0 0] 24))
  have HX0 := Lib.hid ((Box.new w 24 #[.string nm, .int .i64 first, .slice A chs.length c]).alloc (Obj.cells #[.string ⟨#[]⟩, .int .i64 0, .slice none 0 0] 24))
  have HY0 := Lib.hid (Box.new (w.alloc (Obj.cells #[.string nm, .int .i64 first, .slice A chs.length c] 24)) 24 #[.string ⟨#[]⟩, .int .i64 0, .slice none 0 0])
  rw [show (w.alloc (Obj.cells #[.string nm, .int .i64 first, .slice A chs.length c] 24)).heap.size = w.heap.size + 1 from by simp] at HY0
  clear hz hr hno
  go_enter Tryd.func23, Tryd.ntmps23
  go_wp2_with fail
  generalize (w.alloc (Obj.cells #[.string nm, .int .i64 first, .slice A chs.length c] 24)).alloc (Obj.cells #[.string ⟨#[]⟩, .int .i64 0, .slice none 0 0] 24) = W0 at *
  generalize hg : w.heap.size = g at *
  have HG := Lib.hid hg
  clear hg
  refine (fcheck_any B d rs _ (HR0.out.next (w' := W0) (by rw [HG.out]; exact HB0.out))).mono ?_
  rintro e w1 ⟨E, rfl, hE, hb1⟩
  have HE := Lib.hid hE
  have HX1 := Lib.hid (HX0.out.below hb1)
  have HY1 := Lib.hid (HY0.out.below hb1)
  have HB1 := Lib.hid (show Below g w w1 from HB0.out.trans (hb1.mono (by have := HX0.out.lt; omega)))
  clear hE hb1 HB0 HX0 HY0
  have x0 : w1.cell? ⟨g, 0, none⟩ = some (.string nm) := HX1.out.cell 0
  have x1 : w1.cell? ⟨g, 1, none⟩ = some (.int .i64 first) := HX1.out.cell 1
  have x2 : w1.cell? ⟨g, 2, none⟩ = some (.slice A chs.length c) := HX1.out.cell 2
  have r0 : w1.cell? ⟨g + 1, 0, none⟩ = some (.string ⟨#[]⟩) := HY1.out.cell 0
  have r1 : w1.cell? ⟨g + 1, 1, none⟩ = some (.int .i64 0) := HY1.out.cell 1
  have r2 : w1.cell? ⟨g + 1, 2, none⟩ = some (.slice none 0 0) := HY1.out.cell 2
  have rf : ∀ i, w1.frozen? ⟨g + 1, i, none⟩ = false := fun i => HY1.out.free i
  have hgg : g + 1 < w1.heap.size := HY1.out.lt
  by_cases hE0 : E = 0
  · have HOKF := Lib.hid (HE.out.1 hE0)
    clear HE
    subst hE0
    go_wp2_with fail
    refine ((HZ0.out.next (w' := w1) (by rw [HG.out]; exact HB1.out)).check first c).mono ?_
    rintro e w2 ⟨E, rfl, hE, hb2⟩
    have hE0 : E ≠ 0 := fun h => HNO.out ⟨HOKF.out, hE.1 h⟩
    have t5 : (E != 0) = true := by rw [bne_iff_ne]; exact hE0
    have HY2 := Lib.hid (HY1.out.below hb2)
    have HB2 := Lib.hid (show Below g w w2 from HB1.out.trans (hb2.mono (by omega)))
    clear x0 x1 x2 r0 r1 r2 rf hE hb2 hgg
    have r0 : w2.cell? ⟨g + 1, 0, none⟩ = some (.string ⟨#[]⟩) := HY2.out.cell 0
    have r1 : w2.cell? ⟨g + 1, 1, none⟩ = some (.int .i64 0) := HY2.out.cell 1
    have r2 : w2.cell? ⟨g + 1, 2, none⟩ = some (.slice none 0 0) := HY2.out.cell 2
    have rf : ∀ i, w2.frozen? ⟨g + 1, i, none⟩ = false := fun i => HY2.out.free i
    have hgg : g + 1 < w2.heap.size := HY2.out.lt
    go_wp2_with fail
    refine bodyPost_ret (v := .tuple #[.agg #[.string ⟨#[]⟩, .int .i64 0, .slice none 0 0], .int .i64 E]) (by simp [results, Tryd.results23, go_sem, r0, r1, r2]) rfl ?_
    refine ⟨?_, E, hE0, rfl⟩
    rw [HG.out]
    exact ((HB2.out.setCell (p := ⟨g + 1, 0, none⟩) (by show g ≤ g + 1; omega) _).setCell (p := ⟨g + 1, 1, none⟩) (by show g ≤ g + 1; omega) _).setCell (p := ⟨g + 1, 2, none⟩) (by show g ≤ g + 1; omega) _
  · have t5 : (E != 0) = true := by rw [bne_iff_ne]; exact hE0
    go_wp2_with fail
    refine bodyPost_ret (v := .tuple #[.agg #[.string ⟨#[]⟩, .int .i64 0, .slice none 0 0], .int .i64 E]) (by simp [results, Tryd.results23, go_sem, r0, r1, r2]) rfl ?_
    refine ⟨?_, E, hE0, rfl⟩
    rw [HG.out]
    exact ((HB1.out.setCell (p := ⟨g + 1, 0, none⟩) (by show g ≤ g + 1; omega) _).setCell (p := ⟨g + 1, 1, none⟩) (by show g ≤ g + 1; omega) _).setCell (p := ⟨g + 1, 2, none⟩) (by show g ≤ g + 1; omega) _

theorem getD_app (l r : List Chg) (i : Nat) (h : i < l.length) : (l ++ r).getD i chg0 = l.getD i chg0 := by
  simp [List.getD, List.getElem?_append_left h]
theorem zoneOk_pre {nm : ByteArray} {first : Int} {l r : List Chg} (h : ZoneOk nm first (l ++ r)) : ZoneOk nm first l := by
  obtain ⟨h1, h2, h3, h4⟩ := h
  rw [List.length_append] at h3
  refine ⟨h1, h2, by omega, fun i hi => ?_⟩
  obtain ⟨a1, a2, a3, a4⟩ := h4 i (by rw [List.length_append]; omega)
  rw [getD_app l r i hi] at a1 a2 a3 a4
  refine ⟨a1, a2, a3, fun h0 => ?_⟩
  have := a4 h0
  rwa [getD_app l r (i - 1) (by omega)] at this
/-- what Extend says, in one form -/
def ExtOne (nm : ByteArray) (first : Int) (rs : List ZR) (L : List Chg) (w : World) (e : Ending) (w' : World) : Prop :=
  ∃ (E f' : Int) (nm' : ByteArray) (A : Option Addr) (c : Nat) (L' : List Chg), e = .returned (.tuple #[.agg #[.string nm', .int .i64 f', .slice A L'.length c], .int .i64 E]) ∧ (E = 0 ↔ ForeOk rs ∧ ZoneOk nm first L) ∧ (E = 0 → nm' = nm ∧ f' = first ∧ L' = L) ∧ ZIn w' nm' A L' ∧ (∀ a, A = some a → w.heap.size ≤ a.block) ∧ Below w.heap.size w w'
theorem zin_nil (w : World) : ZIn w ⟨#[]⟩ none [] := ⟨.inl rfl, by show 0 ≤ maxLen; unfold maxLen; omega, by show 0 ≤ maxLen; unfold maxLen; omega, fun x hx => by cases hx⟩
theorem extend_any (nm : ByteArray) (first : Int) (A : Option Addr) (c : Nat) (chs : List Chg) (B : Option Addr) (d : Nat) (rs : List ZR) (y y2 : Int) (w : World) (hz : ZIn w nm A chs) (hr : RIn w B rs)
    (h1 : -10000 ≤ y) (h2 : y ≤ y2) (h3 : y2 ≤ 10000) (h4 : y2 - y ≤ 50) :
    Calls Tryd.prog 23 #[.agg #[.string nm, .int .i64 first, .slice A chs.length c], .slice B rs.length d, .int .i64 y, .int .i64 y2] w (ExtOne nm first rs (chs ++ extL rs (befZ first chs) y (y2 - y + 1).toNat) w) := by
  by_cases h : ForeOk rs ∧ ZoneOk nm first chs
  · refine (extend_yes nm first A c chs B d rs y y2 w hz hr h.2 h.1 h1 h2 h3 h4).mono ?_
    rintro e w' ⟨hb, ⟨ok, A', c', he, hz', hA'⟩ | ⟨no, E, hE, he⟩⟩
    · exact ⟨0, first, nm, A', c', _, he, ⟨fun _ => ⟨h.1, ok⟩, fun _ => rfl⟩, fun _ => ⟨rfl, rfl, rfl⟩, hz', hA', hb⟩
    · exact ⟨E, 0, ⟨#[]⟩, none, 0, [], he, ⟨fun h => absurd h hE, fun h => absurd h.2 no⟩, fun h => absurd h hE, zin_nil _, (fun a h => by cases h), hb⟩
  · refine (extend_no nm first A c chs B d rs y y2 w hz hr h).mono ?_
    rintro e w' ⟨hb, E, hE, he⟩
    exact ⟨E, 0, ⟨#[]⟩, none, 0, [], he, ⟨fun h => absurd h hE, fun h' => absurd ⟨h'.1, zoneOk_pre h'.2⟩ h⟩, fun h => absurd h hE, zin_nil _, (fun a h => by cases h), hb⟩

/-- year by year -/
theorem foreChs_lastO (before y : Int) (rs : List ZR) (h : 1 ≤ rs.length) : ((foreChs before y rs rs.length).getD (rs.length - 1) chg0).o = lastO rs := by
  rw [foreChs_get _ _ _ _ _ (by omega)]
  rfl
theorem befZ_ext (first : Int) (chs : List Chg) (rs : List ZR) (y : Int) (j : Nat) (h : 1 ≤ rs.length) : befZ first (chs ++ extL rs (befZ first chs) y j) = befY (befZ first chs) rs j := by
  cases j with
  | zero => simp [extL, befY]
  | succ j =>
    generalize befZ first chs = bf
    unfold befY
    rw [if_neg (by omega), extL_succ, ← List.append_assoc]
    generalize chs ++ extL rs bf y j = L
    unfold befZ
    have hl : (L ++ foreChs (befY bf rs j) (y + (j : Int)) rs rs.length).length = L.length + rs.length := by rw [List.length_append, foreChs_len]
    rw [if_neg (by omega), hl]
    have e : (L ++ foreChs (befY bf rs j) (y + (j : Int)) rs rs.length).getD (L.length + rs.length - 1) chg0 = (foreChs (befY bf rs j) (y + (j : Int)) rs rs.length).getD (rs.length - 1) chg0 := by
      simp only [List.getD]
      rw [List.getElem?_append_right (by omega), show L.length + rs.length - 1 - L.length = rs.length - 1 from by omega]
    rw [e, foreChs_lastO _ _ _ h]
theorem ext_step (first : Int) (chs : List Chg) (rs : List ZR) (y : Int) (j : Nat) (h : 1 ≤ rs.length) :
    (chs ++ extL rs (befZ first chs) y j) ++ extL rs (befZ first (chs ++ extL rs (befZ first chs) y j)) (y + (j : Int)) 1 = chs ++ extL rs (befZ first chs) y (j + 1) := by
  rw [befZ_ext first chs rs y j h, extL_succ rs (befZ first chs) y j, List.append_assoc]
  congr 2
  generalize befY (befZ first chs) rs j = b
  simp [extL, befY]
theorem ext_mono (first : Int) (chs : List Chg) (rs : List ZR) (y : Int) (nm : ByteArray) (j n : Nat) (hj : j ≤ n) (h : ZoneOk nm first (chs ++ extL rs (befZ first chs) y n)) : ZoneOk nm first (chs ++ extL rs (befZ first chs) y j) := by
  induction n with
  | zero => obtain rfl : j = 0 := by omega
            exact h
  | succ n ih =>
    rcases (show j = n + 1 ∨ j ≤ n by omega) with rfl | hj'
    · exact h
    · rw [extL_succ, ← List.append_assoc] at h
      exact ih hj' (zoneOk_pre h)
end Go.Proofs.YtlihhlijombepaaDoor
