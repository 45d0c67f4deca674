/- The walk of ForecastOnce: it returns true at every input; it writes nothing that was there. -/
import Derived.Test.YtlihhlijombepaaDoorExt3
import Derived.Test.YtlihhlijombepaaDoorZt2
import Derived.Test.YtlihhlijombepaaDoorLaid
import Derived.Test.YtlihhlijombepaaDoorZoneArg
import Derived.Test.YtlihhlijombepaaDoorForeArg
namespace Go.Proofs.YtlihhlijombepaaDoor.forecastOnce
open Go.RowKit
set_option linter.unusedVariables false

def oneR : List ZR := [⟨3, 5, 6, 0, 3600000, ⟨#[83]⟩⟩]
theorem one_ok : ForeOk oneR := by
  refine ⟨⟨by decide, by decide⟩, fun i hi => ?_⟩
  match i, hi with
  | 0, _ =>
    refine ⟨⟨by decide, by decide, by decide, by decide, by decide, by decide, by decide, by decide⟩, ⟨by decide, by decide, by decide⟩, ⟨?_, by decide, by decide⟩, fun h => by omega⟩
    intro k hk
    match k, hk with
    | 0, _ => decide +revert
def nmA : ByteArray := ⟨#[97]⟩
theorem nm_ok : NameOk nmA := by
  refine ⟨by decide, by decide, by rw [nmA, Lib.toList_data]; decide, by rw [nmA, Lib.toList_data]; decide, by rw [nmA, Lib.toList_data]; decide, by rw [nmA, Lib.toList_data]; decide, fun k hk => ?_⟩
  have : k = 0 := by
    have : nmA.size = 1 := by decide
    omega
  subst this
  decide +revert
theorem one_ext : extL oneR (befZ 0 []) 2024 1 = [⟨63847526400000, 3600000, ⟨#[83]⟩⟩] := by
  have h : foreDay 2024 2 5 6 = 738976 := by decide
  have h1 : extL oneR (befZ 0 []) 2024 1 = [⟨foreDay 2024 2 5 6 * 86400000 + 0 - 0, 3600000, ⟨#[83]⟩⟩] := rfl
  rw [h1, h]
  rfl
theorem one_zone : ZoneOk nmA 0 ([] ++ extL oneR (befZ 0 []) 2024 1) := by
  rw [one_ext]
  refine ⟨nm_ok, ⟨by decide, by decide, by decide⟩, by decide, fun i hi => ?_⟩
  match i, hi with
  | 0, _ => exact ⟨⟨by decide, by decide⟩, ⟨by decide, by decide, by decide⟩, (one_ok.2 0 (by decide)).2.2.1, fun h => by omega⟩

theorem row_setc {w : World} {B : Nat} {A : Option Addr} {cs : List Value} (h : Row w B A cs) (p : Addr) (v : Value) (hp : ∀ a, A = some a → a.block ≠ p.block) : Row (w.setCell p v) B A cs := by
  rcases h with h | ⟨b, o, e, hB, hc⟩
  · exact .inl h
  · refine .inr ⟨b, o, e, hB, fun j u hu => ?_⟩
    rw [World.cell?_setCell_far w p ⟨b, o + j, none⟩ v (fun e' => hp _ e e'.symm)]
    exact hc j u hu
theorem zin_set {w : World} {nm : ByteArray} {A : Option Addr} {chs : List Chg} (h : ZIn w nm A chs) (p : Addr) (v : Value) (hp : ∀ a, A = some a → a.block ≠ p.block) : ZIn (w.setCell p v) nm A chs :=
  ⟨by rw [show (w.setCell p v).heap.size = w.heap.size from by simp]; exact row_setc h.row p v hp, h.name, h.len, h.fit⟩
/-- what the loop keeps -/
def St (nm : ByteArray) (first : Int) (rs : List ZR) (EX : Nat → List Chg) (n j : Nat) (F : Int) (nj : ByteArray) (fj : Int) (Lj : List Chg) : Prop :=
  (F = 0 → nj = nm ∧ fj = first ∧ Lj = EX j ∧ (0 < j → ForeOk rs ∧ ZoneOk nm first (EX j))) ∧ (F ≠ 0 → ¬ (ForeOk rs ∧ ZoneOk nm first (EX n)))

set_option maxHeartbeats 8000000 in
set_option maxRecDepth 100000 in
theorem core (nm : ByteArray) (first : Int) (A : Option Addr) (chs : List Chg) (c : Nat) (B : Option Addr) (d : Nat) (rs : List ZR) (from0 years : Int) (w : World) (hz : ZIn w nm A chs) (hr : RIn w B rs) (hp : Pow w) :
    Calls Tryd.prog 4 #[.agg #[.string nm, .int .i64 first, .slice A chs.length c], .slice B rs.length d, .int .i64 from0, .int .i64 years] w fun e w' => e = .returned (.bool true) ∧ Below w.heap.size w w' := by
  have H0 : Hid (∀ w A, RIn w A oneR → Calls Tryd.prog 23 #[.agg #[.string nmA, .int .i64 0, .slice none 0 0], .slice A 1 1, .int .i64 2024, .int .i64 2024] w fun e w' => ∃ A c, e = .returned (.tuple #[.agg #[.string nmA, .int .i64 0, .slice A 1 c], .int .i64 0]) ∧ Below w.heap.size w w') := fun w A hA => by
    refine (extend_yes nmA 0 none 0 [] A 1 oneR 2024 2024 w ⟨.inl rfl, by show 1 ≤ maxLen; unfold maxLen; omega, by show 0 ≤ maxLen; unfold maxLen; omega, fun x hx => by cases hx⟩ hA ⟨nm_ok, ⟨by decide, by decide, by decide⟩, by decide, fun i hi => by simp at hi⟩ one_ok (by omega) (by omega) (by omega) (by omega)).mono ?_
    rintro e w' ⟨hb, ⟨ok, A', c', he, hz', hA'⟩ | ⟨no, E, hE, he⟩⟩
    · exact ⟨A', c', he, hb⟩
    · exact absurd one_zone no
  have HC1 := Lib.hid (fun w => cut_any from0 (-3000) 6000 w (by omega) (by omega) (by omega) (by omega))
  have HC2 := Lib.hid (fun w => cut_any years 1 6 w (by omega) (by omega) (by omega) (by omega))
  have hy1 : -3000 ≤ -3000 + from0 % 6000 := by omega
  have hy2 : -3000 + from0 % 6000 ≤ 3000 := by omega
  obtain ⟨n, hn⟩ : ∃ n : Nat, 1 + years % 6 = (n : Int) := ⟨(1 + years % 6).toNat, by omega⟩
  have hn1 : 1 ≤ n := by omega
  have hn6 : n ≤ 6 := by omega
  rw [hn] at HC2
  clear hn
  generalize -3000 + from0 % 6000 = y at *
  have HZ0 := Lib.hid hz
  have HR0 := Lib.hid hr
  have HP0 := Lib.hid hp
  obtain ⟨EX, hEX⟩ : ∃ EX : Nat → List Chg, EX = fun j => chs ++ extL rs (befZ first chs) y j := ⟨_, rfl⟩
  have HE0 : Hid (EX 0 = chs) := by unfold Hid; rw [hEX]; simp [extL]
  have HES : Hid (∀ j, 1 ≤ rs.length → EX j ++ extL rs (befZ first (EX j)) (y + (j : Int)) 1 = EX (j + 1)) := by
    intro j h; rw [hEX]; exact ext_step first chs rs y j h
  have HEM : Hid (∀ j n, j ≤ n → ZoneOk nm first (EX n) → ZoneOk nm first (EX j)) := by
    intro j n h; rw [hEX]; exact ext_mono first chs rs y nm j n h
  have HAll : Hid (∀ W, ZIn W nm A chs → RIn W B rs → Calls Tryd.prog 23 #[.agg #[.string nm, .int .i64 first, .slice A chs.length c], .slice B rs.length d, .int .i64 y, .int .i64 (y + (n : Int) - 1)] W (ExtOne nm first rs (EX n) W)) := fun W hz hr => by
    have h := extend_any nm first A c chs B d rs y (y + (n : Int) - 1) W hz hr (by omega) (by omega) (by omega) (by omega)
    rw [show (y + (n : Int) - 1 - y + 1).toNat = n from by omega] at h
    rw [hEX]; exact h
  have HOne : Hid (∀ (j : Nat) W nm' f' A' c' L', j < n → ZIn W nm' A' L' → RIn W B rs → Calls Tryd.prog 23 #[.agg #[.string nm', .int .i64 f', .slice A' L'.length c'], .slice B rs.length d, .int .i64 (y + (j : Int)), .int .i64 (y + (j : Int))] W (ExtOne nm' f' rs (L' ++ extL rs (befZ f' L') (y + (j : Int)) 1) W)) := fun j W nm' f' A' c' L' hj hz hr => by
    have h := extend_any nm' f' A' c' L' B d rs (y + (j : Int)) (y + (j : Int)) W hz hr (by omega) (by omega) (by omega) (by omega)
    rw [show (y + (j : Int) - (y + (j : Int)) + 1).toNat = 1 from by omega] at h
    exact h
  clear hz hr hp hEX
  go_enter Tryd.func4, Tryd.ntmps4
  go_wp2_with fail
  have q1 := Box.new (w.alloc (Obj.cells #[.string nm, .int .i64 first, .slice A chs.length c] 24)) 56 #[.int .i64 3, .int .i64 5, .int .i64 6, .int .i64 0, .int .i64 3600000, .string ⟨#[83]⟩]
  have hx1 := (Box.new w 24 #[.string nm, .int .i64 first, .slice A chs.length c]).alloc (Obj.cells #[.int .i64 3, .int .i64 5, .int .i64 6, .int .i64 0, .int .i64 3600000, .string ⟨#[83]⟩] 56)
  have hB1 := below_alloc2 w (Obj.cells #[.string nm, .int .i64 first, .slice A chs.length c] 24) (Obj.cells #[.int .i64 3, .int .i64 5, .int .i64 6, .int .i64 0, .int .i64 3600000, .string ⟨#[83]⟩] 56)
  rw [show (w.alloc (Obj.cells #[.string nm, .int .i64 first, .slice A chs.length c] 24)).heap.size = w.heap.size + 1 from by simp] at q1
  generalize (w.alloc (Obj.cells #[.string nm, .int .i64 first, .slice A chs.length c] 24)).alloc (Obj.cells #[.int .i64 3, .int .i64 5, .int .i64 6, .int .i64 0, .int .i64 3600000, .string ⟨#[83]⟩] 56) = W1 at *
  generalize hg : w.heap.size = g at *
  have HG := Lib.hid hg
  clear hg
  have HRO : Hid (RIn W1 (some ⟨g + 1, 0, none⟩) oneR) := ⟨Row.of_box q1, by show 1 ≤ maxLen; unfold maxLen; omega, fun x hx => by
    simp [oneR] at hx
    subst hx
    exact ⟨by decide, by decide, by decide, by decide, by decide, by decide, by decide, by decide, by decide, by decide, by show 1 ≤ maxLen; unfold maxLen; omega⟩⟩
  refine (H0.out _ _ HRO.out).mono ?_
  rintro e w2 ⟨A2, c2, rfl, hb2⟩
  have HX2 := Lib.hid (hx1.below hb2)
  have HB2 := Lib.hid (hB1.trans (hb2.mono (by have := hx1.lt; omega)))
  clear hx1 hB1 q1 hb2 HRO H0
  go_wp2_with fail
  have hX3 := HX2.out.alloc (Obj.cells #[.string nmA, .int .i64 0, .slice A2 1 c2] 24)
  have hB3 := HB2.out.alloc (by have := HX2.out.lt; omega) (Obj.cells #[.string nmA, .int .i64 0, .slice A2 1 c2] 24)
  generalize w2.alloc (Obj.cells #[.string nmA, .int .i64 0, .slice A2 1 c2] 24) = W3 at *
  generalize w2.heap.size = gz at *
  have HX3 := Lib.hid hX3
  have HB3 := Lib.hid hB3
  clear hX3 hB3 HX2 HB2
  have x0 : W3.cell? ⟨g, 0, none⟩ = some (.string nm) := HX3.out.cell 0
  have x1 : W3.cell? ⟨g, 1, none⟩ = some (.int .i64 first) := HX3.out.cell 1
  have x2 : W3.cell? ⟨g, 2, none⟩ = some (.slice A chs.length c) := HX3.out.cell 2
  have HZ3 := Lib.hid (HZ0.out.next (w' := W3) (by rw [HG.out]; exact HB3.out))
  have HR3 := Lib.hid (HR0.out.next (w' := W3) (by rw [HG.out]; exact HB3.out))
  go_wp2_with (first | (go_at_call 24; ((with_reducible refine (HC1.out _).mono ?_)); rintro e w' ⟨rfl, rfl⟩) | (go_at_call 24; ((with_reducible refine (HC2.out _).mono ?_)); rintro e w' ⟨rfl, rfl⟩))
  refine (HAll.out _ HZ3.out HR3.out).mono ?_
  rintro e w4 ⟨E, f', nm', A', c', L', rfl, hE, hE1, hz', hA', hb4⟩
  have HE := Lib.hid hE
  have HE1 := Lib.hid hE1
  have HX4 := Lib.hid (HX3.out.below hb4)
  have HB4 := Lib.hid (HB3.out.trans (hb4.mono (by have := HX3.out.lt; omega)))
  clear hE hE1 hA' hb4 HZ3 HR3 x0 x1 x2 HX3 HB3
  have x0 : w4.cell? ⟨g, 0, none⟩ = some (.string nm) := HX4.out.cell 0
  have x1 : w4.cell? ⟨g, 1, none⟩ = some (.int .i64 first) := HX4.out.cell 1
  have x2 : w4.cell? ⟨g, 2, none⟩ = some (.slice A chs.length c) := HX4.out.cell 2
  have hgl : g < w4.heap.size := HX4.out.lt
  have HZA := Lib.hid hz'
  clear hz'
  go_wp2_with fail
  have hga : g < (w4.alloc (Obj.cells #[.string nm', .int .i64 f', .slice A' L'.length c'] 24)).heap.size := by simp; omega
  have hY5 := (Box.new w4 24 #[.string nm', .int .i64 f', .slice A' L'.length c']).alloc (Obj.cells #[.string nm, .int .i64 first, .slice A chs.length c] 24)
  have hS5 := Box.new (w4.alloc (Obj.cells #[.string nm', .int .i64 f', .slice A' L'.length c'] 24)) 24 #[.string nm, .int .i64 first, .slice A chs.length c]
  rw [show (w4.alloc (Obj.cells #[.string nm', .int .i64 f', .slice A' L'.length c'] 24)).heap.size = w4.heap.size + 1 from by simp] at hS5
  have hZ5 := (HZA.out.alloc (Obj.cells #[.string nm', .int .i64 f', .slice A' L'.length c'] 24)).alloc (Obj.cells #[.string nm, .int .i64 first, .slice A chs.length c] 24)
  have hB5 : Below g w ((w4.alloc (Obj.cells #[.string nm', .int .i64 f', .slice A' L'.length c'] 24)).alloc (Obj.cells #[.string nm, .int .i64 first, .slice A chs.length c] 24)) :=
    (HB4.out.alloc (by omega) _).alloc (by omega) _
  have HBW := Lib.hid (((below_alloc1 w4 (Obj.cells #[.string nm', .int .i64 f', .slice A' L'.length c'] 24)).alloc (by simp) (Obj.cells #[.string nm, .int .i64 first, .slice A chs.length c] 24)))
  have HZS := Lib.hid (HZ0.out.next (w' := (w4.alloc (Obj.cells #[.string nm', .int .i64 f', .slice A' L'.length c'] 24)).alloc (Obj.cells #[.string nm, .int .i64 first, .slice A chs.length c] 24)) (by rw [HG.out]; exact hB5))
  clear hB5 hZ5 x0 x1 x2 hga HX4
  generalize (w4.alloc (Obj.cells #[.string nm', .int .i64 f', .slice A' L'.length c'] 24)).alloc (Obj.cells #[.string nm, .int .i64 first, .slice A chs.length c] 24) = W5 at *
  generalize hgy : w4.heap.size = gy at *
  have HGY := Lib.hid hgy
  clear hgy
  have HY5 := Lib.hid hY5
  have HS5 := Lib.hid hS5
  clear hY5 hS5
  have HST : Hid (St nm first rs EX n 0 0 nm first chs) := ⟨fun _ => ⟨rfl, rfl, HE0.out.symm, fun h => by omega⟩, fun h => absurd rfl h⟩
  go_loopw [15, 16] (fun fv yv wr => ∃ (j : Nat) (F : Int) (nj : ByteArray) (fj : Int) (Aj : Option Addr) (cj : Nat) (Lj : List Chg), j ≤ n ∧ fv = .int .i64 F ∧ yv = .int .i64 (y + (j : Int)) ∧ Hid (Box wr gy 24 #[.string nm', .int .i64 f', .slice A' L'.length c']) ∧ Hid (Box wr (gy + 1) 24 #[.string nj, .int .i64 fj, .slice Aj Lj.length cj]) ∧ Hid (ZIn wr nj Aj Lj) ∧ Hid (Below gy w4 wr) ∧ Hid (St nm first rs EX n j F nj fj Lj)) (fun _ yv _ => (y + (n : Int) - intOf yv).toNat)
  case atStart => exact ⟨0, 0, nm, first, A, c, chs, by omega, rfl, by simp, HY5, HS5, HZS, HBW, HST⟩
  case round =>
    clear HY5 HS5 HZS HBW HST
    obtain ⟨j, F, nj, fj, Aj, cj, Lj, hj, rfl, rfl, hby, hbs, hzj, hbw, hst⟩ := hrel
    have HBr := Lib.hid (HB4.out.trans (hbw.out.mono (show g ≤ gy by omega)))
    by_cases hgo : F = 0 ∧ j < n
    · obtain ⟨hF, hlt⟩ := hgo
      obtain ⟨e1, e2, e3, _⟩ := hst.out.1 hF
      subst e1 e2 e3 hF
      have hR := Lib.hid (HR0.out.next (w' := wr) (by rw [HG.out]; exact HBr.out))
      have HC := Lib.hid (HOne.out j wr nj fj Aj cj (EX j) hlt hzj.out hR.out)
      have t1 : decide (y + (j : Int) < y + (n : Int)) = true := decide_eq_true (by omega)
      have z0 : wr.cell? ⟨gy + 1, 0, none⟩ = some (.string nj) := hbs.out.cell 0
      have z1 : wr.cell? ⟨gy + 1, 1, none⟩ = some (.int .i64 fj) := hbs.out.cell 1
      have z2 : wr.cell? ⟨gy + 1, 2, none⟩ = some (.slice Aj (EX j).length cj) := hbs.out.cell 2
      have HLJ : Hid (∀ k, EX k = EX k) := fun _ => rfl
      go_wp2_with fail
      refine HC.out.mono ?_
      rintro e w6 ⟨E2, f2, n2, A6, c6, L6, rfl, hE, hE1, hz6, hA6, hb6⟩
      have HE2 := Lib.hid hE
      have HE3 := Lib.hid hE1
      have HZ6 := Lib.hid hz6
      have hA7 : Hid (∀ a, A6 = some a → a.block ≠ gy + 1) := fun a ha => by have := hA6 a ha; have := hbs.out.lt; omega
      have hbs6 := hbs.out.below hb6
      have hby6 := hby.out.below hb6
      have HB6 := Lib.hid (hbw.out.trans (hb6.mono (by have := hbs.out.lt; omega)))
      have q0 : w6.cell? ⟨gy + 1, 0, none⟩ = some (.string nj) := hbs6.cell 0
      have q1 : w6.cell? ⟨gy + 1, 1, none⟩ = some (.int .i64 fj) := hbs6.cell 1
      have q2 : w6.cell? ⟨gy + 1, 2, none⟩ = some (.slice Aj (EX j).length cj) := hbs6.cell 2
      have qf : ∀ i, w6.frozen? ⟨gy + 1, i, none⟩ = false := fun i => hbs6.free i
      have ql : gy + 1 < w6.heap.size := hbs6.lt
      have HBS6 := Lib.hid hbs6
      have HBY6 := Lib.hid hby6
      clear hE hE1 hz6 hA6 hb6 hbs6 hby6 z0 z1 z2 HC hR
      go_wp2_with fail
      have HBS7 : Hid (Box (((w6.setCell ⟨gy + 1, 0, none⟩ (.string n2)).setCell ⟨gy + 1, 1, none⟩ (.int .i64 f2)).setCell ⟨gy + 1, 2, none⟩ (.slice A6 L6.length c6)) (gy + 1) 24 #[.string n2, .int .i64 f2, .slice A6 L6.length c6]) := ((HBS6.out.set_ 0 _).set_ 1 _).set_ 2 _
      have HBY7 := Lib.hid (((HBY6.out.far (p := ⟨gy + 1, 0, none⟩) (by show gy ≠ gy + 1; omega) (.string n2)).far (p := ⟨gy + 1, 1, none⟩) (by show gy ≠ gy + 1; omega) (.int .i64 f2)).far (p := ⟨gy + 1, 2, none⟩) (by show gy ≠ gy + 1; omega) (.slice A6 L6.length c6))
      have HZ7 := Lib.hid (zin_set (zin_set (zin_set HZ6.out ⟨gy + 1, 0, none⟩ (.string n2) hA7.out) ⟨gy + 1, 1, none⟩ (.int .i64 f2) hA7.out) ⟨gy + 1, 2, none⟩ (.slice A6 L6.length c6) hA7.out)
      have HB7 := Lib.hid (((HB6.out.setCell (p := ⟨gy + 1, 0, none⟩) (by show gy ≤ gy + 1; omega) (.string n2)).setCell (p := ⟨gy + 1, 1, none⟩) (by show gy ≤ gy + 1; omega) (.int .i64 f2)).setCell (p := ⟨gy + 1, 2, none⟩) (by show gy ≤ gy + 1; omega) (.slice A6 L6.length c6))
      have HST7 : Hid (St nj fj rs EX n (j + 1) E2 n2 f2 L6) := by
        refine ⟨fun h0 => ?_, fun h0 hh => ?_⟩
        · obtain ⟨hf, ho⟩ := HE2.out.1 h0
          obtain ⟨a1, a2, a3⟩ := HE3.out h0
          rw [HES.out j hf.1.1] at ho a3
          exact ⟨a1, a2, a3, fun _ => ⟨hf, ho⟩⟩
        · refine h0 (HE2.out.2 ⟨hh.1, ?_⟩)
          rw [HES.out j hh.1.1.1]
          exact HEM.out (j + 1) n (by omega) hh.2
      clear q0 q1 q2 qf ql HBS6 HBY6 HZ6 HB6
      generalize ((w6.setCell ⟨gy + 1, 0, none⟩ (.string n2)).setCell ⟨gy + 1, 1, none⟩ (.int .i64 f2)).setCell ⟨gy + 1, 2, none⟩ (.slice A6 L6.length c6) = W7 at *
      go_roundw
      case rel => exact ⟨j + 1, E2, n2, f2, A6, c6, L6, by omega, rfl, by go_num, HBY7, HBS7, HZ7, HB7, HST7⟩
      case measure => simp [intOf]; omega
    · by_cases hE0 : E = 0
      · obtain ⟨hf, ho⟩ := HE.out.1 hE0
        obtain ⟨a1, a2, a3⟩ := HE1.out hE0
        have hF : F = 0 := by
          by_cases h : F = 0
          · exact h
          · exact absurd ⟨hf, ho⟩ (hst.out.2 h)
        obtain rfl : j = n := by omega
        obtain ⟨e1, e2, e3, _⟩ := hst.out.1 hF
        have hzz := Lib.hid (HZA.out.next (w' := wr) (by rw [HGY.out]; exact hbw.out))
        have hpw := Lib.hid (HP0.out.next (w' := wr) (by rw [HG.out]; exact HBr.out))
        subst hE0 hF a1 a2 a3 e1 e2 e3
        have t1 : decide (y + (j : Int) < y + (j : Int)) = false := decide_eq_false (by omega)
        have HP1 := Lib.hid (zprint_yes nj fj A' c' (EX j) wr hzz.out ho hpw.out)
        have HP2 := Lib.hid (fun W (hW : Below wr.heap.size wr W) => zprint_yes nj fj Aj cj (EX j) W (hzj.out.next hW) ho (hpw.out.next hW))
        unfold PrQ at HP1 HP2
        generalize str (printL nj fj (EX j)) = S at *
        have y0 : wr.cell? ⟨gy, 0, none⟩ = some (.string nj) := hby.out.cell 0
        have y1 : wr.cell? ⟨gy, 1, none⟩ = some (.int .i64 fj) := hby.out.cell 1
        have y2 : wr.cell? ⟨gy, 2, none⟩ = some (.slice A' (EX j).length c') := hby.out.cell 2
        clear hf ho
        go_wp2_with fail
        refine HP1.out.mono ?_
        rintro e w8 ⟨rfl, hb8⟩
        have hbs8 := hbs.out.below hb8
        have HB8 := Lib.hid (HBr.out.trans (hb8.mono (by have := hby.out.lt; have := HB4.out.size; have := HG.out; have := HGY.out; have := hbw.out.size; omega)))
        have HP3 := Lib.hid (HP2.out w8 hb8)
        have z0 : w8.cell? ⟨gy + 1, 0, none⟩ = some (.string nj) := hbs8.cell 0
        have z1 : w8.cell? ⟨gy + 1, 1, none⟩ = some (.int .i64 fj) := hbs8.cell 1
        have z2 : w8.cell? ⟨gy + 1, 2, none⟩ = some (.slice Aj (EX j).length cj) := hbs8.cell 2
        have hl8 := hbs8.lt
        clear hb8 hbs8 y0 y1 y2 HP1 HP2
        go_wp2_with fail
        refine HP3.out.mono ?_
        rintro e w9 ⟨rfl, hb9⟩
        have HB9 := Lib.hid (HB8.out.trans (hb9.mono (by have := HB8.out.size; have := HG.out; omega)))
        clear hb9
        go_wp2_with fail
        go_ret
        exact ⟨rfl, by rw [HG.out]; exact HB9.out⟩
      · have hF : F ≠ 0 := by
          intro h
          obtain rfl : j = n := by omega
          obtain ⟨e1, e2, e3, e4⟩ := hst.out.1 h
          exact hE0 (HE.out.2 (e4 (by omega)))
        have t1 : (F == 0) = false := by rw [beq_eq_false_iff_ne]; exact hF
        have t2 : (F != 0) = true := by rw [bne_iff_ne]; exact hF
        have t3 : (E != 0) = true := by rw [bne_iff_ne]; exact hE0
        by_cases hlt : j < n
        · have t4 : decide (y + (j : Int) < y + (n : Int)) = true := decide_eq_true (by omega)
          go_wp2_with fail
          go_ret
          exact ⟨rfl, by rw [HG.out]; exact HBr.out⟩
        · have t4 : decide (y + (j : Int) < y + (n : Int)) = false := decide_eq_false (by omega)
          go_wp2_with fail
          go_ret
          exact ⟨rfl, by rw [HG.out]; exact HBr.out⟩

set_option maxRecDepth 100000 in
theorem walk {H : Type} {enc : TypeId × Value → H} {base : Nat} {W : World} (v0 : Value) (d0 : DataW H) (p0 : List MemPlace) (hv0 : Value.okWide Tryd.prog W .any base 24 v0) (h0 : DataW.Trod enc Tryd.prog W 0 (fun _ => true) true 24 v0 d0 p0)
    (v1 : Value) (d1 : DataW H) (p1 : List MemPlace) (hv1 : Value.okWide Tryd.prog W .any base 54 v1) (h1 : DataW.Trod enc Tryd.prog W 0 (fun _ => true) true 54 v1 d1 p1)
    (a2 : Int) (w2 : (Lit.int .i64 a2).wf = true) (a3 : Int) (w3 : (Lit.int .i64 a3).wf = true) (hL : laidMet Tryd.prog Rows.forecastOnceRow.laid W) (hsh : W.ShapedOpen Tryd.prog) :
    Calls Tryd.prog 4 #[v0, v1, .int .i64 a2, .int .i64 a3] W fun e w' => e = .returned (.bool true) ∧ Below W.heap.size W w' := by
  obtain ⟨nm, first, A, chs, c, rfl, hz⟩ := zone_open hv0 h0
  obtain ⟨B, rs, d, rfl, hr⟩ := rules_open hv1 h1
  exact core nm first A chs c B d rs a2 a3 W hz hr (pow_of hL.tail.tail)
end Go.Proofs.YtlihhlijombepaaDoor.forecastOnce
