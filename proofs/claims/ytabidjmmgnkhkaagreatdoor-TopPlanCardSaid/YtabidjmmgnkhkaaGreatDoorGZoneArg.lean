/- PlainZone, Zone1, Zone2, ZoneArg, TmPl -/
import Derived.Test.YtabidjmmgnkhkaaGreatDoorGFeArg
/- Plain words for zones. -/
namespace Go.Proofs.YtabidjmmgnkhkaaGreatDoor
open Go.RowKit
set_option linter.unusedVariables false
structure Chg where
 a : Int
 o : Int
 l : ByteArray
def chg0 : Chg := ⟨0, 0, ⟨#[]⟩⟩
def chCells (l : List Chg) : List Value := l.flatMap fun c => [.int .i64 c.a, .int .i64 c.o, .string c.l]
theorem chCells_length (l : List Chg) : (chCells l).length = l.length * 3 := by
 induction l with
 | nil => rfl
 | cons x r ih => simp only [chCells, List.flatMap_cons, List.length_append, List.length_cons, List.length_nil] at *; omega
theorem chCells_get (l : List Chg) (i : Nat) (h : i < l.length) : (chCells l)[i * 3]? = some (.int .i64 (l.getD i chg0).a) ∧ (chCells l)[i * 3 + 1]? = some (.int .i64 (l.getD i chg0).o) ∧ (chCells l)[i * 3 + 2]? = some (.string (l.getD i chg0).l) := by
 induction l generalizing i with
 | nil => simp at h
 | cons x r ih =>
  cases i with
  | zero => simp [chCells]
  | succ i =>
   have := ih i (by simpa using h)
   simp only [chCells, List.flatMap_cons] at this ⊢
   rw [show (i + 1) * 3 = (i * 3) + 3 from by omega]
   simpa using this
theorem ch_cells {w : World} {b o : Nat} {l : List Chg} (h : ∀ j v, (chCells l)[j]? = some v → w.cell? ⟨b, o + j, none⟩ = some v) (i : Nat) (hi : i < l.length) :
  w.cell? ⟨b, o + i * 3, none⟩ = some (.int .i64 (l.getD i chg0).a) ∧ w.cell? ⟨b, o + i * 3 + 1, none⟩ = some (.int .i64 (l.getD i chg0).o) ∧ w.cell? ⟨b, o + i * 3 + 2, none⟩ = some (.string (l.getD i chg0).l) := by
 obtain ⟨h1, h2, h3⟩ := chCells_get l i hi
 exact ⟨h _ _ h1, by have := h _ _ h2; rwa [← Nat.add_assoc] at this, by have := h _ _ h3; rwa [← Nat.add_assoc] at this⟩
theorem chCells_ne (l : List Chg) (h : 0 < l.length) : chCells l ≠ [] := by
 intro e
 have := chCells_length l
 rw [e] at this
 simp at this
 omega
def ChgOk (chs : List Chg) (i : Nat) : Prop := InstOk (chs.getD i chg0).a ∧ OffOk (chs.getD i chg0).o ∧ LabelOk (chs.getD i chg0).l ∧ (0 < i → (chs.getD (i - 1) chg0).a < (chs.getD i chg0).a)
def ZoneOk (nm : ByteArray) (first : Int) (chs : List Chg) : Prop := NameOk nm ∧ OffOk first ∧ chs.length ≤ 200 ∧ ∀ i, i < chs.length → ChgOk chs i
def ChgFit (c : Chg) : Prop := -9223372036854775808 ≤ c.a ∧ c.a ≤ 9223372036854775807 ∧ -9223372036854775808 ≤ c.o ∧ c.o ≤ 9223372036854775807 ∧ c.l.size ≤ maxLen
def seg : List Chg → Int → Nat
 | [], _ => 0
 | c :: r, t => if t < c.a then 0 else seg r t + 1
theorem seg_le (chs : List Chg) (t : Int) : seg chs t ≤ chs.length := by
 induction chs with
 | nil => simp [seg]
 | cons c r ih => unfold seg; split <;> simp <;> omega
theorem seg_before (chs : List Chg) (t : Int) : ∀ j, j < seg chs t → (chs.getD j chg0).a ≤ t := by
 induction chs with
 | nil => intro j hj; simp [seg] at hj
 | cons c r ih =>
  intro j hj
  unfold seg at hj
  by_cases h : t < c.a
  ·rw [if_pos h] at hj; omega
  ·rw [if_neg h] at hj
   cases j with
   | zero => simp; omega
   | succ j => have := ih j (by omega); simpa using this
theorem seg_after (chs : List Chg) (t : Int) : seg chs t = chs.length ∨ t < (chs.getD (seg chs t) chg0).a := by
 induction chs with
 | nil => simp [seg]
 | cons c r ih =>
  unfold seg
  by_cases h : t < c.a
  ·rw [if_pos h]; right; simpa using h
  ·rw [if_neg h]
   rcases ih with e | e
   ·left; simp [e]
   ·right; simpa using e
def Sorted (chs : List Chg) : Prop := ∀ i, 0 < i → i < chs.length → (chs.getD (i - 1) chg0).a < (chs.getD i chg0).a
theorem Sorted.lt {chs : List Chg} (h : Sorted chs) : ∀ (d i : Nat), i + d + 1 < chs.length → (chs.getD i chg0).a < (chs.getD (i + d + 1) chg0).a := by
 intro d
 induction d with
 | zero => intro i hi; have := h (i + 1) (by omega) hi; simpa using this
 | succ d ih =>
  intro i hi
  have h1 := ih i (by omega)
  have h2 := h (i + d + 1 + 1) (by omega) (by omega)
  rw [Nat.add_sub_cancel] at h2
  rw [show i + (d + 1) + 1 = i + d + 1 + 1 from by omega]
  omega
theorem Sorted.le {chs : List Chg} (h : Sorted chs) (i j : Nat) (hij : i ≤ j) (hj : j < chs.length) : (chs.getD i chg0).a ≤ (chs.getD j chg0).a := by
 rcases Nat.lt_or_ge i j with hlt | hge
 ·have := h.lt (j - i - 1) i (by omega)
  rw [show i + (j - i - 1) + 1 = j from by omega] at this
  omega
 ·obtain rfl : i = j := by omega
  omega
def InSeg (chs : List Chg) (i : Nat) (t : Int) : Prop := (i = 0 ∨ (chs.getD (i - 1) chg0).a ≤ t) ∧ (i = chs.length ∨ t < (chs.getD i chg0).a)
theorem inSeg_seg (chs : List Chg) (t : Int) : InSeg chs (seg chs t) t := by
 refine ⟨?_, seg_after chs t⟩
 by_cases h : seg chs t = 0
 ·exact .inl h
 ·exact .inr (seg_before chs t _ (by omega))
theorem seg_eq {chs : List Chg} (h : Sorted chs) (i : Nat) (hi : i ≤ chs.length) (t : Int) (hs : InSeg chs i t) : seg chs t = i := by
 obtain ⟨h1, h2⟩ := hs
 have hl := seg_le chs t
 have hb := seg_before chs t
 have ha := seg_after chs t
 rcases Nat.lt_trichotomy (seg chs t) i with g | g | g
 ·exfalso
  rcases ha with ha | ha
  ·omega
  ·have := h.le (seg chs t) (i - 1) (by omega) (by omega)
   rcases h1 with h1 | h1
   ·omega
   ·omega
 ·exact g
 ·exfalso
  have := hb i g
  rcases h2 with h2 | h2
  ·omega
  ·omega
def offI (first : Int) (chs : List Chg) (i : Nat) : Int := if i = 0 then first else (chs.getD (i - 1) chg0).o
def offAt (first : Int) (chs : List Chg) (t : Int) : Int := offI first chs (seg chs t)
end Go.Proofs.YtabidjmmgnkhkaaGreatDoor
/- Contracts of package zone: Check. -/
namespace Go.Proofs.YtabidjmmgnkhkaaGreatDoor
open Go.RowKit
set_option linter.unusedVariables false
def IsChk (P : Prop) (w : World) (e : Ending) (w' : World) : Prop := ∃ E : Int, e = .returned (.int .i64 E) ∧ (E = 0 ↔ P) ∧ Below w.heap.size w w'
theorem IsChk.no {P : Prop} {w w' : World} {E : Int} (h : ¬ P) (hE : E ≠ 0) (hb : Below w.heap.size w w') : IsChk P w (.returned (.int .i64 E)) w' := ⟨E, rfl, ⟨fun e => absurd e hE, fun p => absurd p h⟩, hb⟩
theorem IsChk.yes {P : Prop} {w w' : World} (h : P) (hb : Below w.heap.size w w') : IsChk P w (.returned (.int .i64 0)) w' := ⟨0, rfl, ⟨fun _ => h, fun _ => rfl⟩, hb⟩
set_option maxHeartbeats 2000000 in
set_option maxRecDepth 100000 in
theorem zcheck_any (nm : ByteArray) (first : Int) (A : Option Addr) (c : Nat) (chs : List Chg) (w : World) (hA : Row w w.heap.size A (chCells chs)) (hn : nm.size ≤ maxLen) (hl : chs.length ≤ maxLen) (hfit : ∀ x ∈ chs, ChgFit x) :
  Calls Tryz.prog 51 #[.agg #[.string nm, .int .i64 first, .slice A chs.length c]] w (IsChk (ZoneOk nm first chs) w) := by
 unfold maxLen at hl
 have hB := below_alloc1 w (Obj.cells #[.string nm, .int .i64 first, .slice A chs.length c] 37)
 have HB := Lib.hid hB
 have hz : Hid (∀ Q, (ZoneOk nm first chs → Q) → (ZoneOk nm first chs → Q)) := fun _ h => h
 go_enter Tryz.func51, Tryz.ntmps51
 go_wp2_with fail
 refine (isName_any nm _ hn).mono ?_
 rintro e w1 ⟨q, rfl, hq, rfl⟩
 by_cases h1 : NameOk nm
 case neg =>
  obtain rfl : q = false := by cases q <;> simp_all
  clear hq
  go_wp2_with fail
  go_ret
  exact IsChk.no (fun h => h1 h.1) (by omega) HB.out
 obtain rfl : q = true := hq.2 h1
 have H1 := Lib.hid h1
 clear hq h1
 go_wp2_with fail
 refine (isOffset_any first _).mono ?_
 rintro e w1 ⟨q, rfl, hq, rfl⟩
 by_cases h2 : OffOk first
 case neg =>
  obtain rfl : q = false := by cases q <;> simp_all
  clear hq
  go_wp2_with fail
  go_ret
  exact IsChk.no (fun h => h2 h.2.1) (by omega) HB.out
 obtain rfl : q = true := hq.2 h2
 have H2 := Lib.hid h2
 clear hq h2
 by_cases h3 : 200 < chs.length
 ·have t1 : decide (200 < (chs.length : Int)) = true := decide_eq_true (by omega)
  go_wp2_with fail
  go_ret
  exact IsChk.no (fun h => by have := h.2.2.1; omega) (by omega) HB.out
 have t1 : decide (200 < (chs.length : Int)) = false := decide_eq_false (by omega)
 go_wp2_with fail
 obtain ⟨W0, hW⟩ : ∃ W0, W0 = w.alloc (Obj.cells #[.string nm, .int .i64 first, .slice A chs.length c] 37) := ⟨_, rfl⟩
 have hx : Box W0 w.heap.size 37 #[.string nm, .int .i64 first, .slice A chs.length c] := by rw [hW]; exact Box.new _ _ _
 have hA0 : Row W0 W0.heap.size A (chCells chs) := by rw [hW]; exact hA.alloc _
 rw [← hW] at HB ⊢
 clear hW hB t1 hA
 go_loopw [3, 4, 20] (fun _ _ i wr => ∃ k : Nat, k ≤ chs.length ∧ i = .int .i64 k ∧ Hid (∀ j, j < k → ChgOk chs j) ∧ Below W0.heap.size W0 wr) (fun _ _ i _ => chs.length - (intOf i).toNat)
 case atStart => exact ⟨0, by omega, rfl, (fun j hj => by omega), Below.refl _ _⟩
 case round =>
  obtain ⟨k, hk, rfl, hall, hbr⟩ := hrel
  have hBw := Lib.hid (below_then HB.out hbr)
  have hzr := hbr.size
  by_cases hlt : k < chs.length
  ·obtain ⟨b, o, rfl, hb, hc⟩ := hA0.open_ (chCells_ne chs (by omega))
   have hc' : ∀ j v, (chCells chs)[j]? = some v → wr.cell? ⟨b, o + j, none⟩ = some v := fun j v hv => (hbr.cell (p := ⟨b, o + j, none⟩) hb).trans (hc j v hv)
   obtain ⟨y0, y1, y2⟩ := ch_cells hc' k hlt
   have hbl : b < wr.heap.size := by omega
   have hxr := hx.belowB hbr hx.lt
   have hxl := hxr.lt
   have x2 : wr.cell? ⟨w.heap.size, 2, none⟩ = some (.slice (some ⟨b, o, none⟩) chs.length c) := hxr.cell 2
   have hf : ChgFit (chs.getD k chg0) := hfit _ (by simp [List.getD, List.getElem?_eq_getElem hlt])
   have hdef : Hid (ChgOk chs k ↔ InstOk (chs.getD k chg0).a ∧ OffOk (chs.getD k chg0).o ∧ LabelOk (chs.getD k chg0).l ∧ (0 < k → (chs.getD (k - 1) chg0).a < (chs.getD k chg0).a)) := Iff.rfl
   have hprev : 0 < k → wr.cell? ⟨b, o + (k - 1) * 3, none⟩ = some (.int .i64 (chs.getD (k - 1) chg0).a) := fun h => (ch_cells hc' (k - 1) (by omega)).1
   obtain ⟨f1, f2, f3, f4, f5⟩ := hf
   generalize (chs.getD (k - 1) chg0).a = pa at *
   generalize (chs.getD k chg0).a = ca at *
   generalize (chs.getD k chg0).o = co at *
   generalize (chs.getD k chg0).l = cl at *
   have HD : Hid (¬ (InstOk ca ∧ OffOk co ∧ LabelOk cl ∧ (0 < k → pa < ca)) → ¬ ZoneOk nm first chs) := fun hn hz' => hn (hdef.out.1 (hz'.2.2.2 k hlt))
   have HP := Lib.hid hprev
   clear hc hc' hprev hz
   by_cases i1 : InstOk ca
   case neg =>
    have HI := Lib.hid (fun w => isInstant_no ca w f1 f2 i1)
    go_wp2_with (go_at_call 27; refine (HI.out _).mono ?_; rintro e w' ⟨rfl, n1, rfl⟩)
    go_ret
    exact IsChk.no (HD.out (fun h => i1 h.1)) (by omega) (below_drew ((hBw.out).alloc (hBw.out).size _) _)
   have HI := Lib.hid (fun w => isInstant_yes ca w i1)
   by_cases i2 : OffOk co
   case neg =>
    go_wp2_with (first
     | (go_at_call 27; refine (HI.out _).mono ?_; rintro e w' ⟨rfl, n1, rfl⟩)
     | (go_at_call 85; refine (isOffset_any co _).mono ?_; rintro e w' ⟨q, rfl, hq, rfl⟩; obtain rfl : q = false := (by cases q <;> simp_all); clear hq))
    go_ret
    exact IsChk.no (HD.out (fun h => i2 h.2.1)) (by omega) (below_drew ((hBw.out).alloc (hBw.out).size _) _)
   by_cases i3 : LabelOk cl
   case neg =>
    go_wp2_with (first
     | (go_at_call 27; refine (HI.out _).mono ?_; rintro e w' ⟨rfl, n1, rfl⟩)
     | (go_at_call 85; refine (isOffset_any co _).mono ?_; rintro e w' ⟨q, rfl, hq, rfl⟩; obtain rfl : q = true := hq.2 i2; clear hq)
     | (go_at_call 86; refine (isLabel_any cl _ f5).mono ?_; rintro e w' ⟨q, rfl, hq, rfl⟩; obtain rfl : q = false := (by cases q <;> simp_all); clear hq))
    go_ret
    exact IsChk.no (HD.out (fun h => i3 h.2.2.1)) (by omega) (below_drew ((hBw.out).alloc (hBw.out).size _) _)
   by_cases k0 : k = 0
   ·subst k0
    have t0 : decide ((0 : Int) < 0) = false := by decide
    rw [Nat.zero_mul, Nat.add_zero] at y0 y1 y2
    go_wp2_with (first
     | (go_at_call 27; refine (HI.out _).mono ?_; rintro e w' ⟨rfl, n1, rfl⟩)
     | (go_at_call 85; refine (isOffset_any co _).mono ?_; rintro e w' ⟨q, rfl, hq, rfl⟩; obtain rfl : q = true := hq.2 i2; clear hq)
     | (go_at_call 86; refine (isLabel_any cl _ f5).mono ?_; rintro e w' ⟨q, rfl, hq, rfl⟩; obtain rfl : q = true := hq.2 i3; clear hq))
    go_quiet (fail)
    go_wp2_with fail
    go_roundw
    case rel =>
     refine ⟨0 + 1, by omega, rfl, fun j hj => ?_, (by first | exact below_drew (hbr.alloc hzr _) _ | exact below_drew (below_drew (hbr.alloc hzr _) _) _)⟩
     obtain rfl : j = 0 := by omega
     exact hdef.out.2 ⟨i1, i2, i3, fun h => by omega⟩
    case measure => simp [intOf]; omega
   ·obtain ⟨m, rfl⟩ : ∃ m, k = m + 1 := ⟨k - 1, by omega⟩
    have hp := HP.out (by omega)
    rw [Nat.add_sub_cancel] at hp
    have t0 : decide ((0 : Int) < ((m + 1 : Nat) : Int)) = true := decide_eq_true (by omega)
    have t0' : decide ((0 : Int) < (m : Int) + 1) = true := decide_eq_true (by omega)
    have hw0 : IntKind.i64.wrap (m : Int) = (m : Int) := IntWalk.i64_in _ (by omega)
    have m0 : (0 : Int) ≤ (m : Int) := by omega
    have m1 : (m : Int) < (chs.length : Int) := by omega
    by_cases hle : ca ≤ pa
    ·have t2 : decide (ca ≤ pa) = true := decide_eq_true hle
     go_wp2_with (first
     | (go_at_call 27; refine (HI.out _).mono ?_; rintro e w' ⟨rfl, n1, rfl⟩)
     | (go_at_call 85; refine (isOffset_any co _).mono ?_; rintro e w' ⟨q, rfl, hq, rfl⟩; obtain rfl : q = true := hq.2 i2; clear hq)
     | (go_at_call 86; refine (isLabel_any cl _ f5).mono ?_; rintro e w' ⟨q, rfl, hq, rfl⟩; obtain rfl : q = true := hq.2 i3; clear hq))
     go_quiet (fail)
     go_wp2_with fail
     go_ret
     exact IsChk.no (HD.out (fun h => by have := h.2.2.2 (by omega); omega)) (by omega) (below_drew (below_drew ((hBw.out).alloc (hBw.out).size _) _) _)
    ·have t2 : decide (ca ≤ pa) = false := decide_eq_false hle
     go_wp2_with (first
     | (go_at_call 27; refine (HI.out _).mono ?_; rintro e w' ⟨rfl, n1, rfl⟩)
     | (go_at_call 85; refine (isOffset_any co _).mono ?_; rintro e w' ⟨q, rfl, hq, rfl⟩; obtain rfl : q = true := hq.2 i2; clear hq)
     | (go_at_call 86; refine (isLabel_any cl _ f5).mono ?_; rintro e w' ⟨q, rfl, hq, rfl⟩; obtain rfl : q = true := hq.2 i3; clear hq))
     go_quiet (fail)
     go_wp2_with fail
     go_roundw
     case rel =>
      refine ⟨m + 1 + 1, by omega, by go_num, fun j hj => ?_, (by first | exact below_drew (hbr.alloc hzr _) _ | exact below_drew (below_drew (hbr.alloc hzr _) _) _)⟩
      by_cases hjk : j < m + 1
      ·exact hall.out j hjk
      ·obtain rfl : j = m + 1 := by omega
       exact hdef.out.2 ⟨i1, i2, i3, fun _ => by omega⟩
     case measure => simp [intOf]; omega
  ·go_wp2_with fail
   go_ret
   exact IsChk.yes ⟨H1.out, H2.out, by omega, fun i hi => hall.out i (by omega)⟩ hBw.out
end Go.Proofs.YtabidjmmgnkhkaaGreatDoor
/- Contracts of package zone: offset, check, Local. -/
namespace Go.Proofs.YtabidjmmgnkhkaaGreatDoor
open Go.RowKit
set_option linter.unusedVariables false
structure ZIn (w : World) (nm : ByteArray) (A : Option Addr) (chs : List Chg) : Prop where
 row : Row w w.heap.size A (chCells chs)
 name : nm.size ≤ maxLen
 len : chs.length ≤ maxLen
 fit : ∀ x ∈ chs, ChgFit x
theorem ZIn.next {w w' : World} {nm : ByteArray} {A : Option Addr} {chs : List Chg} (h : ZIn w nm A chs) (hb : Below w.heap.size w w') : ZIn w' nm A chs := ⟨h.row.next hb, h.name, h.len, h.fit⟩
theorem ZIn.alloc {w : World} {nm : ByteArray} {A : Option Addr} {chs : List Chg} (h : ZIn w nm A chs) (o : Obj) : ZIn (w.alloc o) nm A chs := h.next (below_alloc1 w o)
theorem ZIn.check {w : World} {nm : ByteArray} {A : Option Addr} {chs : List Chg} (h : ZIn w nm A chs) (first : Int) (c : Nat) :
  Calls Tryz.prog 51 #[.agg #[.string nm, .int .i64 first, .slice A chs.length c]] w (IsChk (ZoneOk nm first chs) w) := zcheck_any nm first A c chs w h.row h.name h.len h.fit
def IsOff (n : Int) (w : World) (e : Ending) (w' : World) : Prop := ∃ l : ByteArray, e = .returned (.tuple #[.int .i64 n, .string l]) ∧ Below w.heap.size w w'
set_option maxHeartbeats 2000000 in
set_option maxRecDepth 100000 in
theorem zoffset_any (nm : ByteArray) (first : Int) (A : Option Addr) (c : Nat) (chs : List Chg) (t : Int) (w : World) (hz : ZIn w nm A chs) :
  Calls Tryz.prog 119 #[.agg #[.string nm, .int .i64 first, .slice A chs.length c], .int .i64 t] w (IsOff (offAt first chs t) w) := by
 have hl := hz.len
 unfold maxLen at hl
 have hA := hz.row
 clear hz
 have hsl := seg_le chs t
 have HS := Lib.hid (seg_before chs t)
 have HSA := Lib.hid (seg_after chs t)
 unfold offAt
 have HI0 : Hid (offI first chs 0 = first) := rfl
 generalize seg chs t = sg at *
 go_enter Tryz.func119, Tryz.ntmps119
 go_wp2_with fail
 obtain ⟨W0, hW⟩ : ∃ W0, W0 = w.alloc (Obj.cells #[.string nm, .int .i64 first, .slice A chs.length c] 37) := ⟨_, rfl⟩
 have hA0 : Row W0 W0.heap.size A (chCells chs) := by rw [hW]; exact hA.alloc _
 have HB : Hid (Below w.heap.size w W0) := by rw [hW]; exact below_alloc1 _ _
 rw [← hW]
 clear hW hA
 go_loopw [6, 7, 9, 15] (fun n l _ i wr => ∃ (k : Nat) (s : ByteArray), k ≤ sg ∧ i = .int .i64 k ∧ n = .int .i64 (offI first chs k) ∧ l = .string s ∧ Below W0.heap.size W0 wr) (fun _ _ _ i _ => chs.length - (intOf i).toNat)
 case atStart => exact ⟨0, _, by omega, rfl, by rw [HI0.out], rfl, Below.refl _ _⟩
 case round =>
  obtain ⟨k, s, hk, rfl, rfl, rfl, hbr⟩ := hrel
  have hBw := Lib.hid (below_then HB.out hbr)
  have hzr := hbr.size
  by_cases hlt : k < chs.length
  ·obtain ⟨b, o, rfl, hb, hc⟩ := hA0.open_ (chCells_ne chs (by omega))
   have hc' : ∀ j v, (chCells chs)[j]? = some v → wr.cell? ⟨b, o + j, none⟩ = some v := fun j v hv => (hbr.cell (p := ⟨b, o + j, none⟩) hb).trans (hc j v hv)
   obtain ⟨y0, y1, y2⟩ := ch_cells hc' k hlt
   have hbl : b < wr.heap.size := by omega
   have hI1 : Hid (offI first chs (k + 1) = (chs.getD k chg0).o) := rfl
   have hkn : k < sg → (chs.getD k chg0).a ≤ t := HS.out k
   have hks : k = sg → t < (chs.getD k chg0).a := fun h => by
    have := HSA.out
    rw [← h] at this
    rcases this with e | e
    ·omega
    ·exact e
   generalize hnk : offI first chs k = nk at *
   have Hnk := Lib.hid hnk
   clear hnk
   generalize (chs.getD k chg0).a = ca at *
   generalize (chs.getD k chg0).o = co at *
   generalize (chs.getD k chg0).l = cl at *
   clear hc hc'
   by_cases hks' : k < sg
   ·have t1 : decide (t < ca) = false := decide_eq_false (by have := hkn hks'; omega)
    clear hkn hks
    go_wp2_with fail
    go_quiet (fail)
    go_wp2_with fail
    go_roundw
    case rel => exact ⟨k + 1, cl, by omega, by go_num, by rw [hI1.out], rfl, below_drew (hbr.alloc hzr _) _⟩
    case measure => simp [intOf]; omega
   ·obtain rfl : k = sg := by omega
    have t1 : decide (t < ca) = true := decide_eq_true (hks rfl)
    clear hkn hks
    go_wp2_with fail
    go_ret2
    exact ⟨s, by rw [Hnk.out]; rfl, (hBw.out).alloc (hBw.out).size _⟩
  ·obtain rfl : k = sg := by omega
   go_wp2_with fail
   go_ret2
   exact ⟨s, rfl, hBw.out⟩
theorem zcheckI_yes (nm : ByteArray) (first : Int) (A : Option Addr) (c : Nat) (chs : List Chg) (t : Int) (w : World) (hz : ZIn w nm A chs) (hok : ZoneOk nm first chs) (ht : InstOk t) :
  Calls Tryz.prog 118 #[.agg #[.string nm, .int .i64 first, .slice A chs.length c], .int .i64 t] w fun e w' => e = .returned (.int .i64 0) ∧ Below w.heap.size w w' := by
 go_enter Tryz.func118, Tryz.ntmps118
 go_wp2_with fail
 refine ((hz.alloc _).check first c).mono ?_
 rintro e w1 ⟨E, rfl, hE, hb1⟩
 obtain rfl : E = 0 := hE.2 hok
 have hB := below_next (Below.refl _ _) hb1
 clear hE hb1 hz hok
 go_wp2_with (go_at_call 27; refine (isInstant_yes t _ ht).mono ?_; rintro e w' ⟨rfl, n1, rfl⟩)
 go_ret
 exact ⟨rfl, below_drew hB _⟩
def splitV (x : Int) : Value := if -345600000000000 ≤ x ∧ x < 345600086400000 then .tuple #[.int .i64 (x / 86400000), .int .i64 (x % 86400000), .int .i64 0] else .tuple #[.int .i64 0, .int .i64 0, .int .i64 3]
theorem split_any (x : Int) (w : World) (h0 : -9223372036854775808 ≤ x) (h0' : x ≤ 9223372036854775807) :
  Calls Tryz.prog 120 #[.int .i64 x] w fun e w' => e = .returned (splitV x) ∧ ∃ n, w' = w.drewN n := by
 unfold splitV
 by_cases h : -345600000000000 ≤ x ∧ x < 345600086400000
 ·rw [if_pos h]; exact split_yes x w h.1 h.2
 ·rw [if_neg h]; exact split_no x w h0 h0' (by omega)
theorem off_in {nm : ByteArray} {first : Int} {chs : List Chg} (hok : ZoneOk nm first chs) (i : Nat) (hi : i ≤ chs.length) : -64800000 ≤ offI first chs i ∧ offI first chs i ≤ 64800000 ∧ offI first chs i % 1000 = 0 := by
 unfold offI
 by_cases h : i = 0
 ·rw [if_pos h]; have := hok.2.1; exact ⟨this.2.1, this.2.2, this.1⟩
 ·rw [if_neg h]; have := (hok.2.2.2 (i - 1) (by omega)).2.1; exact ⟨this.2.1, this.2.2, this.1⟩
set_option maxHeartbeats 1000000 in
set_option maxRecDepth 100000 in
theorem zlocal_yes (nm : ByteArray) (first : Int) (A : Option Addr) (c : Nat) (chs : List Chg) (t : Int) (w : World) (hz : ZIn w nm A chs) (hok : ZoneOk nm first chs) (ht : InstOk t) :
  Calls Tryz.prog 90 #[.agg #[.string nm, .int .i64 first, .slice A chs.length c], .int .i64 t] w fun e w' => e = .returned (splitV (t + offAt first chs t)) ∧ Below w.heap.size w w' := by
 have ho := off_in hok (seg chs t) (seg_le chs t)
 have Hc := Lib.hid (fun w hz => zcheckI_yes nm first A c chs t w hz hok ht)
 have Ho := Lib.hid (fun w hz => zoffset_any nm first A c chs t w hz)
 change -64800000 ≤ offAt first chs t ∧ offAt first chs t ≤ 64800000 ∧ offAt first chs t % 1000 = 0 at ho
 obtain ⟨o1, o2, _⟩ := ho
 obtain ⟨t1, t2⟩ := ht
 generalize offAt first chs t = n at *
 clear hok
 go_enter Tryz.func90, Tryz.ntmps90
 go_wp2_with fail
 refine (Hc.out _ (hz.alloc _)).mono ?_
 rintro e w1 ⟨rfl, hb1⟩
 have hB := below_next (Below.refl _ _) hb1
 have hx := (Box.new w 37 #[.string nm, .int .i64 first, .slice A chs.length c]).below hb1
 replace hz := (hz.alloc _).next hb1
 clear hb1
 have x0 : w1.cell? ⟨w.heap.size, 0, none⟩ = some (.string nm) := hx.cell 0
 have x1 : w1.cell? ⟨w.heap.size, 1, none⟩ = some (.int .i64 first) := hx.cell 1
 have x2 : w1.cell? ⟨w.heap.size, 2, none⟩ = some (.slice A chs.length c) := hx.cell 2
 go_wp2_with fail
 refine (Ho.out _ hz).mono ?_
 rintro e w2 ⟨l, rfl, hb2⟩
 replace hB := below_then hB hb2
 clear hb2 x0 x1 x2 hx
 go_wp2_with fail
 refine (split_any _ _ (by omega) (by omega)).mono ?_
 rintro e w3 ⟨rfl, n3, rfl⟩
 unfold splitV
 by_cases h : -345600000000000 ≤ t + n ∧ t + n < 345600086400000
 ·rw [if_pos h]
  go_wp2_with fail
  go_ret3
  exact ⟨by unfold splitV; rw [if_pos h]; rfl, below_drew hB _⟩
 ·rw [if_neg h]
  go_wp2_with fail
  go_ret3
  exact ⟨by unfold splitV; rw [if_neg h]; rfl, below_drew hB _⟩
end Go.Proofs.YtabidjmmgnkhkaaGreatDoor
/- A zone that came in as an argument, read. -/
namespace Go.Proofs.YtabidjmmgnkhkaaGreatDoor
open Go.RowKit Go.Joins Go.ChangeShapes Go.WideShapes Go.Deep
set_option linter.unusedVariables false
theorem list_of {α : Type} (d : α) (P : Nat → α → Prop) : ∀ n, (∀ i, i < n → ∃ x, P i x) → ∃ l : List α, l.length = n ∧ ∀ i, i < n → P i (l.getD i d) := by
 intro n
 induction n with
 | zero => intro _; exact ⟨[], rfl, fun i hi => by omega⟩
 | succ n ih =>
  intro h
  obtain ⟨l, hl, hp⟩ := ih (fun i hi => h i (by omega))
  obtain ⟨x, hx⟩ := h n (by omega)
  refine ⟨l ++ [x], by simp [hl], fun i hi => ?_⟩
  by_cases hin : i < n
  ·have e : (l ++ [x]).getD i d = l.getD i d := by simp [List.getD, List.getElem?_append_left (show i < l.length by omega)]
   rw [e]; exact hp i hin
  ·obtain rfl : i = n := by omega
   have e : (l ++ [x]).getD i d = x := by rw [← hl]; simp [List.getD]
   rw [e]; exact hx
theorem add_plain (b o j : Nat) : (⟨b, o, none⟩ : Addr).add j = ⟨b, o + j, none⟩ := by unfold Addr.add; split <;> simp_all
section
variable {H : Type} {enc : TypeId × Value → H} {W : World}
set_option maxRecDepth 100000 in
theorem chg_of_trod {n : Nat} {cs : List Value} {y : DataW H × List MemPlace} (h : DataW.trod enc Tryz.prog W 0 (fun _ => true) true n 150 cs = some y) :
  ∃ x : Chg, cs = [.int .i64 x.a, .int .i64 x.o, .string x.l] ∧ ChgFit x := by
 obtain ⟨xs, m, _, _, hlen, hxl, hf⟩ := DataW.trod_struct Tryz.underlying150 h
 have hC : Tryz.prog.cellsOf 150 = 3 := by kernel_rfl
 rw [hC] at hlen
 match cs, hlen with
 | [c0, c1, c2], _ =>
  have e0 : Tryz.prog.cellsOf 3 = 1 := by kernel_rfl
  have e1 : Tryz.prog.cellsOf 9 = 1 := by kernel_rfl
  have h0 := hf 0 _ rfl
  have h1 := hf 1 _ rfl
  have h2 := hf 2 _ rfl
  match xs, hxl with
  | [x0, x1, x2], _ =>
   simp [e0, e1] at h0 h1 h2
   obtain ⟨a, ea, _, wa⟩ := DataW.trod_int Tryz.underlying3 h0
   obtain ⟨o, eo, _, wo⟩ := DataW.trod_int Tryz.underlying3 h1
   obtain ⟨l, el, _, wl⟩ := DataW.trod_string Tryz.underlying9 h2
   simp at ea eo el
   subst ea eo el
   exact ⟨⟨a, o, l⟩, rfl, (bounds_i64 wa).1, (bounds_i64 wa).2, (bounds_i64 wo).1, (bounds_i64 wo).2, wl⟩
set_option maxRecDepth 100000 in
theorem chgs_of_trod {n : Nat} {v : Value} {y : DataW H × List MemPlace} (h : DataW.trod enc Tryz.prog W 0 (fun _ => true) true n 35 [v] = some y) :
  ∃ (A : Option Addr) (chs : List Chg) (c : Nat), v = .slice A chs.length c ∧ Row W W.heap.size A (chCells chs) ∧ chs.length ≤ maxLen ∧ ∀ x ∈ chs, ChgFit x := by
 have hC : Tryz.prog.cellsOf 150 = 3 := by kernel_rfl
 rcases open_slice Tryz.underlying35 h with ⟨hcs, _⟩ | ⟨a, len, cap, m, n', D, Pl, hcs, _, hl, hm, hmm, _, hi⟩
 ·simp only [List.cons.injEq, and_true] at hcs
  exact ⟨none, [], 0, hcs, .inl rfl, by simp, fun x hx => by cases hx⟩
 ·simp only [List.cons.injEq, and_true] at hcs
  simp only [if_true] at hmm
  rw [hC] at hi
  have hp : ∀ i, i < len → ∃ x : Chg, ChgFit x ∧ W.cell? (a.add (i * 3)) = some (.int .i64 x.a) ∧ W.cell? (a.add (i * 3 + 1)) = some (.int .i64 x.o) ∧ W.cell? (a.add (i * 3 + 2)) = some (.string x.l) := by
   intro i hil
   obtain ⟨cs', hc, ht⟩ := hi i (by omega)
   obtain ⟨x, rfl, hx⟩ := chg_of_trod ht
   obtain ⟨_, _, hat⟩ := World.cells?_some hc
   have h0 := hat 0 (by omega)
   have h1 := hat 1 (by omega)
   have h2 := hat 2 (by omega)
   rw [Go.Deep.add_add] at h0 h1 h2
   exact ⟨x, hx, by simpa using h0, by simpa using h1, by simpa using h2⟩
  obtain ⟨chs, hlen, hall⟩ := list_of chg0 _ len hp
  refine ⟨some a, chs, cap, by rw [hlen]; exact hcs, ?_, by omega, fun x hx => ?_⟩
  ·by_cases h0 : len = 0
   ·left
    have : chs = [] := List.eq_nil_of_length_eq_zero (by omega)
    rw [this]; rfl
   ·obtain ⟨_, hc0, _, _⟩ := hall 0 (by omega)
    rw [Nat.zero_mul] at hc0
    obtain ⟨b, off, spot⟩ := a
    have hspot : spot = none := by simpa [Addr.add] using World.cell?_spot hc0
    subst hspot
    refine .inr ⟨b, off, rfl, ?_, fun j v hv => ?_⟩
    ·rw [add_plain] at hc0; exact block_lt_of_cell hc0
    ·have hj : j < chs.length * 3 := by
      have := (List.getElem?_eq_some_iff.1 hv).1
      rwa [chCells_length] at this
     obtain ⟨i, r, hr, rfl⟩ : ∃ i r, r < 3 ∧ j = i * 3 + r := ⟨j / 3, j % 3, Nat.mod_lt _ (by omega), by omega⟩
     have hi' : i < chs.length := by omega
     obtain ⟨g0, g1, g2⟩ := chCells_get chs i hi'
     obtain ⟨_, k0, k1, k2⟩ := hall i (by omega)
     simp only [add_plain] at k0 k1 k2
     match r, hr with
     | 0, _ => rw [Nat.add_zero] at hv ⊢; rw [g0] at hv; rw [k0]; exact hv
     | 1, _ => rw [g1] at hv; rw [k1]; exact hv
     | 2, _ => rw [g2] at hv; rw [k2]; exact hv
  ·obtain ⟨k, hk, e⟩ := List.getElem_of_mem hx
   have := (hall k (by omega)).1
   simp [List.getD, List.getElem?_eq_getElem hk, e] at this
   exact this
end
end Go.Proofs.YtabidjmmgnkhkaaGreatDoor
/- Working days, plain. -/
namespace Go.Proofs.YtabidjmmgnkhkaaGreatDoor
open Go Go.RowKit
set_option linter.unusedVariables false
structure RestOk (rs : List Int) : Prop where
 ln : rs.length ≤ 6
 rg : ∀ i, i < rs.length → 0 ≤ rs.getD i 0 ∧ rs.getD i 0 ≤ 6
 inc : ∀ i, 0 < i → i < rs.length → rs.getD (i - 1) 0 < rs.getD i 0
open Classical in
noncomputable def cntW (P : Int → Prop) (a : Int) (n : Nat) : Nat := ((List.range n).filter fun (i : Nat) => decide (P (a + (i : Int)))).length
open Classical in
theorem cntW_add (P : Int → Prop) (a : Int) (n m : Nat) : cntW P a (n + m) = cntW P a n + cntW P (a + n) m := by
 unfold cntW
 rw [List.range_add, List.filter_append, List.length_append, List.filter_map, List.length_map]
 congr 2
 apply List.filter_congr
 intro i _
 simp [Int.add_assoc]
open Classical in
theorem cntW_one (P : Int → Prop) (a : Int) : cntW P a 1 = if P a then 1 else 0 := by
 unfold cntW
 by_cases h : P a <;> simp [h]
theorem cntW_yes {P : Int → Prop} {a : Int} {n : Nat} (h : P (a + n)) : cntW P a (n + 1) = cntW P a n + 1 := by rw [cntW_add, cntW_one, if_pos h]
theorem cntW_no {P : Int → Prop} {a : Int} {n : Nat} (h : ¬ P (a + n)) : cntW P a (n + 1) = cntW P a n := by rw [cntW_add, cntW_one, if_neg h]; rfl
theorem cntW_le (P : Int → Prop) (a : Int) (n : Nat) : cntW P a n ≤ n := by
 unfold cntW
 refine Nat.le_trans (List.length_filter_le _ _) ?_
 simp
end Go.Proofs.YtabidjmmgnkhkaaGreatDoor
