/- Zone1, Zone2 -/
import Derived.Test.YtifhlmakacoicaaDoorGPlainZone
/- Contracts of package zone: Check. -/
namespace Go.Proofs.YtifhlmakacoicaaDoor
open Go.RowKit
set_option linter.unusedVariables false

/-- What a check says: 0 just if P. -/
def IsChk (P : Prop) (w : World) (e : Ending) (w' : World) : Prop := ∃ E : Int, e = .returned (.int .i64 E) ∧ (E = 0 ↔ P) ∧ Below w.heap.size w w'
theorem IsChk.no {P : Prop} {w w' : World} {E : Int} (h : ¬ P) (hE : E ≠ 0) (hb : Below w.heap.size w w') : IsChk P w (.returned (.int .i64 E)) w' := ⟨E, rfl, ⟨fun e => absurd e hE, fun p => absurd p h⟩, hb⟩
theorem IsChk.yes {P : Prop} {w w' : World} (h : P) (hb : Below w.heap.size w w') : IsChk P w (.returned (.int .i64 0)) w' := ⟨0, rfl, ⟨fun _ => h, fun _ => rfl⟩, hb⟩

set_option maxHeartbeats 2000000 in
set_option maxRecDepth 100000 in
theorem zcheck_any (nm : ByteArray) (first : Int) (A : Option Addr) (c : Nat) (chs : List Chg) (w : World) (hA : Row w w.heap.size A (chCells chs)) (hn : nm.size ≤ maxLen) (hl : chs.length ≤ maxLen) (hfit : ∀ x ∈ chs, ChgFit x) :
    Calls Tryd.prog 23 #[.agg #[.string nm, .int .i64 first, .slice A chs.length c]] w (IsChk (ZoneOk nm first chs) w) := by
  unfold maxLen at hl
  have hB := below_alloc1 w (Obj.cells #[.string nm, .int .i64 first, .slice A chs.length c] 24)
  have HB := Lib.hid hB
  have hz : Hid (∀ Q, (ZoneOk nm first chs → Q) → (ZoneOk nm first chs → Q)) := fun _ h => h
  go_enter Tryd.func23, Tryd.ntmps23
  go_wp2_with fail
  refine (isName_any nm _ hn).mono ?_
  rintro e w1 ⟨q, rfl, hq, rfl⟩
  by_cases h1 : NameOk nm
  case neg =>
    obtain rfl : q = false := by cases q <;> simp_all
    clear hq
    go_wp2_with fail
    go_ret
    exact IsChk.no (fun h => h1 h.1) (by omega) HB.out
  obtain rfl : q = true := hq.2 h1
  have H1 := Lib.hid h1
  clear hq h1
  go_wp2_with fail
  refine (isOffset_any first _).mono ?_
  rintro e w1 ⟨q, rfl, hq, rfl⟩
  by_cases h2 : OffOk first
  case neg =>
    obtain rfl : q = false := by cases q <;> simp_all
    clear hq
    go_wp2_with fail
    go_ret
    exact IsChk.no (fun h => h2 h.2.1) (by omega) HB.out
  obtain rfl : q = true := hq.2 h2
  have H2 := Lib.hid h2
  clear hq h2
  by_cases h3 : 200 < chs.length
  · have t1 : decide (200 < (chs.length : Int)) = true := decide_eq_true (by omega)
    go_wp2_with fail
    go_ret
    exact IsChk.no (fun h => by have := h.2.2.1; omega) (by omega) HB.out
  have t1 : decide (200 < (chs.length : Int)) = false := decide_eq_false (by omega)
  go_wp2_with fail
  obtain ⟨W0, hW⟩ : ∃ W0, W0 = w.alloc (Obj.cells #[.string nm, .int .i64 first, .slice A chs.length c] 24) := ⟨_, rfl⟩
  have hx : Box W0 w.heap.size 24 #[.string nm, .int .i64 first, .slice A chs.length c] := by rw [hW]; exact Box.new _ _ _
  have hA0 : Row W0 W0.heap.size A (chCells chs) := by rw [hW]; exact hA.alloc _
  rw [← hW] at HB ⊢
  clear hW hB t1 hA
  go_loopw [3, 4, 20] (fun _ _ i wr => ∃ k : Nat, k ≤ chs.length ∧ i = .int .i64 k ∧ Hid (∀ j, j < k → ChgOk chs j) ∧ Below W0.heap.size W0 wr) (fun _ _ i _ => chs.length - (intOf i).toNat)
  case atStart => exact ⟨0, by omega, rfl, (fun j hj => by omega), Below.refl _ _⟩
  case round =>
    obtain ⟨k, hk, rfl, hall, hbr⟩ := hrel
    have hBw := Lib.hid (below_then HB.out hbr)
    have hzr := hbr.size
    by_cases hlt : k < chs.length
    · obtain ⟨b, o, rfl, hb, hc⟩ := hA0.open_ (chCells_ne chs (by omega))
      have hc' : ∀ j v, (chCells chs)[j]? = some v → wr.cell? ⟨b, o + j, none⟩ = some v := fun j v hv => (hbr.cell (p := ⟨b, o + j, none⟩) hb).trans (hc j v hv)
      obtain ⟨y0, y1, y2⟩ := ch_cells hc' k hlt
      have hbl : b < wr.heap.size := by omega
      have hxr := hx.belowB hbr hx.lt
      have hxl := hxr.lt
      have x2 : wr.cell? ⟨w.heap.size, 2, none⟩ = some (.slice (some ⟨b, o, none⟩) chs.length c) := hxr.cell 2
      have hf : ChgFit (chs.getD k chg0) := hfit _ (by simp [List.getD, List.getElem?_eq_getElem hlt])
      have hdef : Hid (ChgOk chs k ↔ InstOk (chs.getD k chg0).a ∧ OffOk (chs.getD k chg0).o ∧ LabelOk (chs.getD k chg0).l ∧ (0 < k → (chs.getD (k - 1) chg0).a < (chs.getD k chg0).a)) := Iff.rfl
      have hprev : 0 < k → wr.cell? ⟨b, o + (k - 1) * 3, none⟩ = some (.int .i64 (chs.getD (k - 1) chg0).a) := fun h => (ch_cells hc' (k - 1) (by omega)).1
      obtain ⟨f1, f2, f3, f4, f5⟩ := hf
      generalize (chs.getD (k - 1) chg0).a = pa at *
      generalize (chs.getD k chg0).a = ca at *
      generalize (chs.getD k chg0).o = co at *
      generalize (chs.getD k chg0).l = cl at *
      have HD : Hid (¬ (InstOk ca ∧ OffOk co ∧ LabelOk cl ∧ (0 < k → pa < ca)) → ¬ ZoneOk nm first chs) := fun hn hz' => hn (hdef.out.1 (hz'.2.2.2 k hlt))
      have HP := Lib.hid hprev
      clear hc hc' hprev hz
      by_cases i1 : InstOk ca
      case neg =>
        have HI := Lib.hid (fun w => isInstant_no ca w f1 f2 i1)
        go_wp2_with (go_at_call 24; refine (HI.out _).mono ?_; rintro e w' ⟨rfl, n1, rfl⟩)
        go_ret
        exact IsChk.no (HD.out (fun h => i1 h.1)) (by omega) (below_drew ((hBw.out).alloc (hBw.out).size _) _)
      have HI := Lib.hid (fun w => isInstant_yes ca w i1)
      by_cases i2 : OffOk co
      case neg =>
        go_wp2_with (first
          | (go_at_call 24; refine (HI.out _).mono ?_; rintro e w' ⟨rfl, n1, rfl⟩)
          | (go_at_call 58; refine (isOffset_any co _).mono ?_; rintro e w' ⟨q, rfl, hq, rfl⟩; obtain rfl : q = false := (by cases q <;> simp_all); clear hq))
        go_ret
        exact IsChk.no (HD.out (fun h => i2 h.2.1)) (by omega) (below_drew ((hBw.out).alloc (hBw.out).size _) _)
      by_cases i3 : LabelOk cl
      case neg =>
        go_wp2_with (first
          | (go_at_call 24; refine (HI.out _).mono ?_; rintro e w' ⟨rfl, n1, rfl⟩)
          | (go_at_call 58; refine (isOffset_any co _).mono ?_; rintro e w' ⟨q, rfl, hq, rfl⟩; obtain rfl : q = true := hq.2 i2; clear hq)
          | (go_at_call 59; refine (isLabel_any cl _ f5).mono ?_; rintro e w' ⟨q, rfl, hq, rfl⟩; obtain rfl : q = false := (by cases q <;> simp_all); clear hq))
        go_ret
        exact IsChk.no (HD.out (fun h => i3 h.2.2.1)) (by omega) (below_drew ((hBw.out).alloc (hBw.out).size _) _)
      by_cases k0 : k = 0
      · subst k0
        have t0 : decide ((0 : Int) < 0) = false := by decide
        rw [Nat.zero_mul, Nat.add_zero] at y0 y1 y2
        go_wp2_with (first
          | (go_at_call 24; refine (HI.out _).mono ?_; rintro e w' ⟨rfl, n1, rfl⟩)
          | (go_at_call 58; refine (isOffset_any co _).mono ?_; rintro e w' ⟨q, rfl, hq, rfl⟩; obtain rfl : q = true := hq.2 i2; clear hq)
          | (go_at_call 59; refine (isLabel_any cl _ f5).mono ?_; rintro e w' ⟨q, rfl, hq, rfl⟩; obtain rfl : q = true := hq.2 i3; clear hq))
        go_quiet (fail)
        go_wp2_with fail
        go_roundw
        case rel =>
          refine ⟨0 + 1, by omega, rfl, fun j hj => ?_, (by first | exact below_drew (hbr.alloc hzr _) _ | exact below_drew (below_drew (hbr.alloc hzr _) _) _)⟩
          obtain rfl : j = 0 := by omega
          exact hdef.out.2 ⟨i1, i2, i3, fun h => by omega⟩
        case measure => simp [intOf]; omega
      · obtain ⟨m, rfl⟩ : ∃ m, k = m + 1 := ⟨k - 1, by omega⟩
        have hp := HP.out (by omega)
        rw [Nat.add_sub_cancel] at hp
        have t0 : decide ((0 : Int) < ((m + 1 : Nat) : Int)) = true := decide_eq_true (by omega)
        have t0' : decide ((0 : Int) < (m : Int) + 1) = true := decide_eq_true (by omega)
        have hw0 : IntKind.i64.wrap (m : Int) = (m : Int) := IntWalk.i64_in _ (by omega)
        have m0 : (0 : Int) ≤ (m : Int) := by omega
        have m1 : (m : Int) < (chs.length : Int) := by omega
        by_cases hle : ca ≤ pa
        · have t2 : decide (ca ≤ pa) = true := decide_eq_true hle
          go_wp2_with (first
          | (go_at_call 24; refine (HI.out _).mono ?_; rintro e w' ⟨rfl, n1, rfl⟩)
          | (go_at_call 58; refine (isOffset_any co _).mono ?_; rintro e w' ⟨q, rfl, hq, rfl⟩; obtain rfl : q = true := hq.2 i2; clear hq)
          | (go_at_call 59; refine (isLabel_any cl _ f5).mono ?_; rintro e w' ⟨q, rfl, hq, rfl⟩; obtain rfl : q = true := hq.2 i3; clear hq))
          go_quiet (fail)
          go_wp2_with fail
          go_ret
          exact IsChk.no (HD.out (fun h => by have := h.2.2.2 (by omega); omega)) (by omega) (below_drew (below_drew ((hBw.out).alloc (hBw.out).size _) _) _)
        · have t2 : decide (ca ≤ pa) = false := decide_eq_false hle
          go_wp2_with (first
          | (go_at_call 24; refine (HI.out _).mono ?_; rintro e w' ⟨rfl, n1, rfl⟩)
          | (go_at_call 58; refine (isOffset_any co _).mono ?_; rintro e w' ⟨q, rfl, hq, rfl⟩; obtain rfl : q = true := hq.2 i2; clear hq)
          | (go_at_call 59; refine (isLabel_any cl _ f5).mono ?_; rintro e w' ⟨q, rfl, hq, rfl⟩; obtain rfl : q = true := hq.2 i3; clear hq))
          go_quiet (fail)
          go_wp2_with fail
          go_roundw
          case rel =>
            refine ⟨m + 1 + 1, by omega, by go_num, fun j hj => ?_, (by first | exact below_drew (hbr.alloc hzr _) _ | exact below_drew (below_drew (hbr.alloc hzr _) _) _)⟩
            by_cases hjk : j < m + 1
            · exact hall.out j hjk
            · obtain rfl : j = m + 1 := by omega
              exact hdef.out.2 ⟨i1, i2, i3, fun _ => by omega⟩
          case measure => simp [intOf]; omega
    · go_wp2_with fail
      go_ret
      exact IsChk.yes ⟨H1.out, H2.out, by omega, fun i hi => hall.out i (by omega)⟩ hBw.out
end Go.Proofs.YtifhlmakacoicaaDoor

/- Contracts of package zone: offset, check, Local. -/
namespace Go.Proofs.YtifhlmakacoicaaDoor
open Go.RowKit
set_option linter.unusedVariables false

/-- a zone lies in memory -/
structure ZIn (w : World) (nm : ByteArray) (A : Option Addr) (chs : List Chg) : Prop where
  row : Row w w.heap.size A (chCells chs)
  name : nm.size ≤ maxLen
  len : chs.length ≤ maxLen
  fit : ∀ x ∈ chs, ChgFit x
theorem ZIn.next {w w' : World} {nm : ByteArray} {A : Option Addr} {chs : List Chg} (h : ZIn w nm A chs) (hb : Below w.heap.size w w') : ZIn w' nm A chs := ⟨h.row.next hb, h.name, h.len, h.fit⟩
theorem ZIn.alloc {w : World} {nm : ByteArray} {A : Option Addr} {chs : List Chg} (h : ZIn w nm A chs) (o : Obj) : ZIn (w.alloc o) nm A chs := h.next (below_alloc1 w o)
theorem ZIn.drewN {w : World} {nm : ByteArray} {A : Option Addr} {chs : List Chg} (h : ZIn w nm A chs) (n : Nat) : ZIn (w.drewN n) nm A chs := ⟨h.row, h.name, h.len, h.fit⟩
theorem ZIn.check {w : World} {nm : ByteArray} {A : Option Addr} {chs : List Chg} (h : ZIn w nm A chs) (first : Int) (c : Nat) :
    Calls Tryd.prog 23 #[.agg #[.string nm, .int .i64 first, .slice A chs.length c]] w (IsChk (ZoneOk nm first chs) w) := zcheck_any nm first A c chs w h.row h.name h.len h.fit

/-- What offset says. -/
def IsOff (n : Int) (w : World) (e : Ending) (w' : World) : Prop := ∃ l : ByteArray, e = .returned (.tuple #[.int .i64 n, .string l]) ∧ Below w.heap.size w w'

set_option maxHeartbeats 2000000 in
set_option maxRecDepth 100000 in
theorem zoffset_any (nm : ByteArray) (first : Int) (A : Option Addr) (c : Nat) (chs : List Chg) (t : Int) (w : World) (hz : ZIn w nm A chs) :
    Calls Tryd.prog 56 #[.agg #[.string nm, .int .i64 first, .slice A chs.length c], .int .i64 t] w (IsOff (offAt first chs t) w) := by
  have hl := hz.len
  unfold maxLen at hl
  have hA := hz.row
  clear hz
  have hsl := seg_le chs t
  have HS := Lib.hid (seg_before chs t)
  have HSA := Lib.hid (seg_after chs t)
  unfold offAt
  have HI0 : Hid (offI first chs 0 = first) := rfl
  generalize seg chs t = sg at *
  go_enter Tryd.func56, Tryd.ntmps56
  go_wp2_with fail
  obtain ⟨W0, hW⟩ : ∃ W0, W0 = w.alloc (Obj.cells #[.string nm, .int .i64 first, .slice A chs.length c] 24) := ⟨_, rfl⟩
  have hA0 : Row W0 W0.heap.size A (chCells chs) := by rw [hW]; exact hA.alloc _
  have HB : Hid (Below w.heap.size w W0) := by rw [hW]; exact below_alloc1 _ _
  rw [← hW]
  clear hW hA
  go_loopw [6, 7, 9, 15] (fun n l _ i wr => ∃ (k : Nat) (s : ByteArray), k ≤ sg ∧ i = .int .i64 k ∧ n = .int .i64 (offI first chs k) ∧ l = .string s ∧ Below W0.heap.size W0 wr) (fun _ _ _ i _ => chs.length - (intOf i).toNat)
  case atStart => exact ⟨0, _, by omega, rfl, by rw [HI0.out], rfl, Below.refl _ _⟩
  case round =>
    obtain ⟨k, s, hk, rfl, rfl, rfl, hbr⟩ := hrel
    have hBw := Lib.hid (below_then HB.out hbr)
    have hzr := hbr.size
    by_cases hlt : k < chs.length
    · obtain ⟨b, o, rfl, hb, hc⟩ := hA0.open_ (chCells_ne chs (by omega))
      have hc' : ∀ j v, (chCells chs)[j]? = some v → wr.cell? ⟨b, o + j, none⟩ = some v := fun j v hv => (hbr.cell (p := ⟨b, o + j, none⟩) hb).trans (hc j v hv)
      obtain ⟨y0, y1, y2⟩ := ch_cells hc' k hlt
      have hbl : b < wr.heap.size := by omega
      have hI1 : Hid (offI first chs (k + 1) = (chs.getD k chg0).o) := rfl
      have hkn : k < sg → (chs.getD k chg0).a ≤ t := HS.out k
      have hks : k = sg → t < (chs.getD k chg0).a := fun h => by
        have := HSA.out
        rw [← h] at this
        rcases this with e | e
        · omega
        · exact e
      generalize hnk : offI first chs k = nk at *
      have Hnk := Lib.hid hnk
      clear hnk
      generalize (chs.getD k chg0).a = ca at *
      generalize (chs.getD k chg0).o = co at *
      generalize (chs.getD k chg0).l = cl at *
      clear hc hc'
      by_cases hks' : k < sg
      · have t1 : decide (t < ca) = false := decide_eq_false (by have := hkn hks'; omega)
        clear hkn hks
        go_wp2_with fail
        go_quiet (fail)
        go_wp2_with fail
        go_roundw
        case rel => exact ⟨k + 1, cl, by omega, by go_num, by rw [hI1.out], rfl, below_drew (hbr.alloc hzr _) _⟩
        case measure => simp [intOf]; omega
      · obtain rfl : k = sg := by omega
        have t1 : decide (t < ca) = true := decide_eq_true (hks rfl)
        clear hkn hks
        go_wp2_with fail
        go_ret2
        exact ⟨s, by rw [Hnk.out]; rfl, (hBw.out).alloc (hBw.out).size _⟩
    · obtain rfl : k = sg := by omega
      go_wp2_with fail
      go_ret2
      exact ⟨s, rfl, hBw.out⟩

/-- a zone and an instant are valid -/
theorem zcheckI_yes (nm : ByteArray) (first : Int) (A : Option Addr) (c : Nat) (chs : List Chg) (t : Int) (w : World) (hz : ZIn w nm A chs) (hok : ZoneOk nm first chs) (ht : InstOk t) :
    Calls Tryd.prog 55 #[.agg #[.string nm, .int .i64 first, .slice A chs.length c], .int .i64 t] w fun e w' => e = .returned (.int .i64 0) ∧ Below w.heap.size w w' := by
  go_enter Tryd.func55, Tryd.ntmps55
  go_wp2_with fail
  refine ((hz.alloc _).check first c).mono ?_
  rintro e w1 ⟨E, rfl, hE, hb1⟩
  obtain rfl : E = 0 := hE.2 hok
  have hB := below_next (Below.refl _ _) hb1
  clear hE hb1 hz hok
  go_wp2_with (go_at_call 24; refine (isInstant_yes t _ ht).mono ?_; rintro e w' ⟨rfl, n1, rfl⟩)
  go_ret
  exact ⟨rfl, below_drew hB _⟩
theorem zcheckI_no (nm : ByteArray) (first : Int) (A : Option Addr) (c : Nat) (chs : List Chg) (t : Int) (w : World) (hz : ZIn w nm A chs) (hno : ¬ (ZoneOk nm first chs ∧ InstOk t)) (h0 : -9223372036854775808 ≤ t) (h0' : t ≤ 9223372036854775807) :
    Calls Tryd.prog 55 #[.agg #[.string nm, .int .i64 first, .slice A chs.length c], .int .i64 t] w (IsChk False w) := by
  go_enter Tryd.func55, Tryd.ntmps55
  go_wp2_with fail
  refine ((hz.alloc _).check first c).mono ?_
  rintro e w1 ⟨E, rfl, hE, hb1⟩
  have hB := below_next (Below.refl _ _) hb1
  clear hb1 hz
  by_cases hok : ZoneOk nm first chs
  · obtain rfl : E = 0 := hE.2 hok
    have ht : ¬ InstOk t := fun h => hno ⟨hok, h⟩
    clear hE hok hno
    go_wp2_with (go_at_call 24; refine (isInstant_no t _ h0 h0' ht).mono ?_; rintro e w' ⟨rfl, n1, rfl⟩)
    go_ret
    exact IsChk.no (fun h => h) (by omega) (below_drew hB _)
  · have hE0 : E ≠ 0 := fun h => hok (hE.1 h)
    have t1 : (E != 0) = true := by rw [bne_iff_ne]; exact hE0
    clear hE hok hno
    go_wp2_with fail
    go_ret
    exact IsChk.no (fun h => h) hE0 hB

/-- what Split gives -/
def splitV (x : Int) : Value := if -345600000000000 ≤ x ∧ x < 345600086400000 then .tuple #[.int .i64 (x / 86400000), .int .i64 (x % 86400000), .int .i64 0] else .tuple #[.int .i64 0, .int .i64 0, .int .i64 3]
theorem off_in {nm : ByteArray} {first : Int} {chs : List Chg} (hok : ZoneOk nm first chs) (i : Nat) (hi : i ≤ chs.length) : -64800000 ≤ offI first chs i ∧ offI first chs i ≤ 64800000 ∧ offI first chs i % 1000 = 0 := by
  unfold offI
  by_cases h : i = 0
  · rw [if_pos h]; have := hok.2.1; exact ⟨this.2.1, this.2.2, this.1⟩
  · rw [if_neg h]; have := (hok.2.2.2 (i - 1) (by omega)).2.1; exact ⟨this.2.1, this.2.2, this.1⟩

/-- a failure of Local -/
def IsFail3 (w : World) (e : Ending) (w' : World) : Prop := ∃ E : Int, E ≠ 0 ∧ e = .returned (.tuple #[.int .i64 0, .int .i64 0, .int .i64 E]) ∧ Below w.heap.size w w'
end Go.Proofs.YtifhlmakacoicaaDoor
