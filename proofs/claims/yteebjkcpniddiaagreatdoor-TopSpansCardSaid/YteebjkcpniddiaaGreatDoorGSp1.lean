/- Sp1, Sp2, Sp3, Sp4, Sp5, Sp6 -/
import Derived.Deep.DeepCutAuto
import Derived.Test.YteebjkcpniddiaaGreatDoorGSpPlain
import Derived.Test.YteebjkcpniddiaaGreatDoorGAr1
import Derived.Test.YteebjkcpniddiaaGreatDoorGCat1
import Derived.Test.YteebjkcpniddiaaGreatDoorGSearch1
import Derived.Test.YteebjkcpniddiaaGreatDoorGFlow
import Derived.Test.YteebjkcpniddiaaGreatDoorGSpText
import Derived.Test.YteebjkcpniddiaaGreatDoorGSeq1
import Derived.Test.YteebjkcpniddiaaGreatDoorGShTrim
/- Contracts of span.inRange, span.Check, span.add. -/
namespace Go.Proofs.YteebjkcpniddiaaGreatDoor
open Go.RowKit
set_option linter.unusedVariables false

theorem inRange_any (n k : Int) (w : World) (hk : 0 ≤ k) (hk2 : k ≤ 400000000000000) : Calls Tryz.prog 85 #[.int .i64 n, .int .i64 k] w fun e w' => e = .returned (.bool (decide (-k ≤ n ∧ n ≤ k))) ∧ w = w' := by
  by_cases h1 : -k ≤ n
  · by_cases h2 : n ≤ k
    · rw [decide_eq_true ⟨h1, h2⟩]
      have t1 : decide (-k ≤ n) = true := decide_eq_true h1
      have t2 : decide (n ≤ k) = true := decide_eq_true h2
      go_enter Tryz.func85, Tryz.ntmps85
      go_wp2_with fail
      go_ret
      exact ⟨rfl, rfl⟩
    · rw [decide_eq_false (fun h => h2 h.2)]
      have t1 : decide (-k ≤ n) = true := decide_eq_true h1
      have t2 : decide (n ≤ k) = false := decide_eq_false h2
      go_enter Tryz.func85, Tryz.ntmps85
      go_wp2_with fail
      go_ret
      exact ⟨rfl, rfl⟩
  · rw [decide_eq_false (fun h => h1 h.1)]
    have t1 : decide (-k ≤ n) = false := decide_eq_false h1
    go_enter Tryz.func85, Tryz.ntmps85
    go_wp2_with fail
    go_ret
    exact ⟨rfl, rfl⟩
/-- a duration that is permitted -/
def LenOk (y m d s : Int) : Prop := (-10000 ≤ y ∧ y ≤ 10000) ∧ (-10000 ≤ m ∧ m ≤ 10000) ∧ (-8000000 ≤ d ∧ d ≤ 8000000) ∧ (-345600000000000 ≤ s ∧ s ≤ 345600000000000)

set_option maxHeartbeats 1000000 in
set_option maxRecDepth 100000 in
theorem spCheck_any (y m d s : Int) (w : World) : Calls Tryz.prog 52 #[.agg (lenC y m d s)] w fun e w' => ∃ E : Int, e = .returned (.int .i64 E) ∧ (E = 0 ↔ LenOk y m d s) ∧ (E = 0 ∨ E = 3) ∧ Below w.heap.size w w' := by
  have HB := Lib.hid (below_alloc1 w (Obj.cells (lenC y m d s) 23))
  have HX := Box.new w 23 (lenC y m d s)
  have x0 : (w.alloc (Obj.cells (lenC y m d s) 23)).cell? ⟨w.heap.size, 0, none⟩ = some (.int .i64 y) := HX.cell 0
  have x1 : (w.alloc (Obj.cells (lenC y m d s) 23)).cell? ⟨w.heap.size, 1, none⟩ = some (.int .i64 m) := HX.cell 1
  have x2 : (w.alloc (Obj.cells (lenC y m d s) 23)).cell? ⟨w.heap.size, 2, none⟩ = some (.int .i64 d) := HX.cell 2
  have x3 : (w.alloc (Obj.cells (lenC y m d s) 23)).cell? ⟨w.heap.size, 3, none⟩ = some (.int .i64 s) := HX.cell 3
  have hd : Hid (LenOk y m d s ↔ (-10000 ≤ y ∧ y ≤ 10000) ∧ (-10000 ≤ m ∧ m ≤ 10000) ∧ (-8000000 ≤ d ∧ d ≤ 8000000) ∧ (-345600000000000 ≤ s ∧ s ≤ 345600000000000)) := Iff.rfl
  have HI1 := Lib.hid (fun W => inRange_any y 10000 W (by omega) (by omega))
  have HI2 := Lib.hid (fun W => inRange_any m 10000 W (by omega) (by omega))
  have HI3 := Lib.hid (fun W => inRange_any d 8000000 W (by omega) (by omega))
  have HI4 := Lib.hid (fun W => inRange_any s 345600000000000 W (by omega) (by omega))
  clear HX
  have no : ∀ w', Below w.heap.size w w' → ¬ LenOk y m d s → ∃ E : Int, (Ending.returned (Value.int .i64 3)) = .returned (.int .i64 E) ∧ (E = 0 ↔ LenOk y m d s) ∧ (E = 0 ∨ E = 3) ∧ Below w.heap.size w w' := fun w' hb h => ⟨3, rfl, ⟨fun h => by omega, fun h' => absurd h' h⟩, .inr rfl, hb⟩
  have NO := Lib.hid no
  clear no
  by_cases h1 : -10000 ≤ y ∧ y ≤ 10000
  case neg =>
    rw [decide_eq_false h1] at HI1
    go_enter Tryz.func52, Tryz.ntmps52
    go_wp2_with (go_at_call 85; refine (HI1.out _).mono ?_; rintro e w' ⟨rfl, rfl⟩)
    go_ret
    exact NO.out _ HB.out fun h => h1 (hd.out.1 h).1
  rw [decide_eq_true h1] at HI1
  by_cases h2 : -10000 ≤ m ∧ m ≤ 10000
  case neg =>
    rw [decide_eq_false h2] at HI2
    go_enter Tryz.func52, Tryz.ntmps52
    go_wp2_with (go_at_call 85; first | (refine (HI1.out _).mono ?_; rintro e w' ⟨rfl, rfl⟩; clear HI1) | (refine (HI2.out _).mono ?_; rintro e w' ⟨rfl, rfl⟩))
    go_ret
    exact NO.out _ HB.out fun h => h2 (hd.out.1 h).2.1
  rw [decide_eq_true h2] at HI2
  by_cases h3 : -8000000 ≤ d ∧ d ≤ 8000000
  case neg =>
    rw [decide_eq_false h3] at HI3
    go_enter Tryz.func52, Tryz.ntmps52
    go_wp2_with (go_at_call 85; first | (refine (HI1.out _).mono ?_; rintro e w' ⟨rfl, rfl⟩; clear HI1) | (refine (HI2.out _).mono ?_; rintro e w' ⟨rfl, rfl⟩; clear HI2) | (refine (HI3.out _).mono ?_; rintro e w' ⟨rfl, rfl⟩; clear HI3))
    go_ret
    exact NO.out _ HB.out fun h => h3 (hd.out.1 h).2.2.1
  rw [decide_eq_true h3] at HI3
  by_cases h4 : -345600000000000 ≤ s ∧ s ≤ 345600000000000
  case neg =>
    rw [decide_eq_false h4] at HI4
    go_enter Tryz.func52, Tryz.ntmps52
    go_wp2_with (go_at_call 85; first | (refine (HI1.out _).mono ?_; rintro e w' ⟨rfl, rfl⟩; clear HI1) | (refine (HI2.out _).mono ?_; rintro e w' ⟨rfl, rfl⟩; clear HI2) | (refine (HI3.out _).mono ?_; rintro e w' ⟨rfl, rfl⟩; clear HI3) | (refine (HI4.out _).mono ?_; rintro e w' ⟨rfl, rfl⟩; clear HI4))
    go_ret
    exact NO.out _ HB.out fun h => h4 (hd.out.1 h).2.2.2
  rw [decide_eq_true h4] at HI4
  have hok := Lib.hid (hd.out.2 ⟨h1, h2, h3, h4⟩)
  clear h1 h2 h3 h4
  go_enter Tryz.func52, Tryz.ntmps52
  go_wp2_with (go_at_call 85; first | (refine (HI1.out _).mono ?_; rintro e w' ⟨rfl, rfl⟩; clear HI1) | (refine (HI2.out _).mono ?_; rintro e w' ⟨rfl, rfl⟩; clear HI2) | (refine (HI3.out _).mono ?_; rintro e w' ⟨rfl, rfl⟩; clear HI3) | (refine (HI4.out _).mono ?_; rintro e w' ⟨rfl, rfl⟩; clear HI4))
  go_ret
  exact ⟨0, rfl, ⟨fun _ => hok.out, fun _ => rfl⟩, .inl rfl, HB.out⟩
end Go.Proofs.YteebjkcpniddiaaGreatDoor

/- Contracts of span.add, span.Add. -/
namespace Go.Proofs.YteebjkcpniddiaaGreatDoor
open Go Go.RowKit
set_option linter.unusedVariables false

theorem lcells {w : World} {g : Nat} {y m d s : Int} (h : Box w g 23 (lenC y m d s)) : w.cell? ⟨g, 0, none⟩ = some (.int .i64 y) ∧ w.cell? ⟨g, 1, none⟩ = some (.int .i64 m) ∧ w.cell? ⟨g, 2, none⟩ = some (.int .i64 d) ∧ w.cell? ⟨g, 3, none⟩ = some (.int .i64 s) := ⟨h.cell 0, h.cell 1, h.cell 2, h.cell 3⟩
theorem isInst_any (t : Int) (w : World) (h0 : -9223372036854775808 ≤ t) (h0' : t ≤ 9223372036854775807) : Calls Tryz.prog 44 #[.int .i64 t] w fun e w' => ∃ b, e = .returned (.bool b) ∧ (b = true ↔ InstOk t) ∧ ∃ n, w' = w.drewN n := by
  by_cases h : InstOk t
  · refine (isInstant_yes t w h).mono ?_
    rintro e w' ⟨rfl, n, rfl⟩
    exact ⟨true, rfl, ⟨fun _ => h, fun _ => rfl⟩, n, rfl⟩
  · refine (isInstant_no t w h0 h0' h).mono ?_
    rintro e w' ⟨rfl, n, rfl⟩
    exact ⟨false, rfl, ⟨fun h => (by cases h), fun h' => absurd h' h⟩, n, rfl⟩

set_option maxHeartbeats 8000000 in
set_option maxRecDepth 100000 in
theorem add_any (c : Cal) (y : Int) (m : Nat) (d a yr : Int) (mn : Nat) (dd ms : Int) (w : World) (hv : CalV w c) (ha : InstOk a)
    (ho : (yr = 0 ∧ mn = 0) ∨ (IsOn c y m d (a / 86400000) ∧ -10000 ≤ y ∧ y ≤ 10000)) (hr1 : 0 ≤ yr) (hr2 : yr ≤ 10000) (hn : mn ≤ 10000) (hd1 : -8000000 ≤ dd) (hd2 : dd ≤ 8000000) (hm1 : -345600000000000 ≤ ms) (hm2 : ms ≤ 345600000000000) :
    Calls Tryz.prog 50 #[c.val, .int .i64 a, .agg (lenC yr (mn : Int) dd ms)] w fun e w' => ∃ o F, e = .returned (.tuple #[.int .i64 o, .int .i64 F]) ∧ AddP c y m d a yr mn dd ms o F ∧ Below w.heap.size w w' := by
  have HB := Lib.hid (below_alloc2 w (Obj.cells c.cells 75) (Obj.cells (lenC yr (mn : Int) dd ms) 23))
  have HC := Lib.hid ((Box.new w 75 c.cells).alloc (Obj.cells (lenC yr (mn : Int) dd ms) 23))
  have HX := Lib.hid (Box.new (w.alloc (Obj.cells c.cells 75)) 23 (lenC yr (mn : Int) dd ms))
  simp only [World.size_alloc] at HX
  have HV := Lib.hid (hv.next HB.out)
  have HS := Lib.hid (fun W => split_yes a W ha.1 ha.2)
  have HA := Lib.hid ha
  have ha1 := ha.1
  have ha2 := ha.2
  have HL := Lib.hid (fun (hne : ¬ (yr = 0 ∧ mn = 0)) W (hW : CalV W c) => by
    have ho' := ho.resolve_left hne
    exact Later_full c (a / 86400000) y m d yr mn W hW ho'.1 ho'.2.1 ho'.2.2 hr1 hr2 hn (by omega) (by omega))
  have HP : Hid (∀ v E o F, MvP c y m d a yr mn v E → RestP a v E dd ms o F → AddP c y m d a yr mn dd ms o F) := fun v E o F h1 h2 => ⟨v, E, h1, h2⟩
  have HIs : Hid (∀ v E, MvP c y m d a yr mn v E → DayOk v) := fun v E h => h.is ha
  clear hv ho
  generalize AddP c y m d a yr mn dd ms = AP at *
  obtain ⟨v0, hv0⟩ : ∃ v0, v0 = a / 86400000 := ⟨_, rfl⟩
  obtain ⟨r0, hr0⟩ : ∃ r0, r0 = a % 86400000 := ⟨_, rfl⟩
  have hb0 : -4000000 ≤ v0 ∧ v0 ≤ 4000000 := by omega
  have hc0 : 0 ≤ r0 ∧ r0 < 86400000 := by omega
  have HV0 := Lib.hid hv0
  have HR0 := Lib.hid hr0
  rw [← hv0, ← hr0] at HS
  rw [← hv0] at HL
  clear ha hv0 hr0
  go_enter Tryz.func50, Tryz.ntmps50
  go_upto_region 1 with fail
  generalize (w.alloc (Obj.cells c.cells 75)).alloc (Obj.cells (lenC yr (mn : Int) dd ms) 23) = W0 at *
  generalize hg : w.heap.size = g at *
  have HG := Lib.hid hg
  clear hg
  go_upto_region 4 with (go_at_call 45; refine (HS.out _).mono ?_; rintro e w' ⟨rfl, nq, rfl⟩)
  have HB1 : Hid (Below g w (W0.drewN nq)) := below_drew HB.out nq
  have HC1 := Lib.hid (HC.out.drewN nq)
  have HX1 := Lib.hid (HX.out.drewN nq)
  have HV1 : Hid (CalV (W0.drewN nq) c) := ⟨⟨HV.out.r.r1.drewN nq, HV.out.r.r2.drewN nq⟩, HV.out.f, HV.out.ok⟩
  clear HB HC HX HV HS
  generalize W0.drewN nq = W1 at *
  obtain ⟨x0, x1, x2, x3⟩ := lcells HX1.out
  obtain ⟨B, hB⟩ : ∃ B : Bool, B = !decide (yr = 0 ∧ mn = 0) := ⟨_, rfl⟩
  go_cut [28] (fun s28 wx => s28 = .bool B ∧ wx = W1)
  case first =>
    by_cases h1 : yr = 0
    · have t1 : (yr != 0) = false := by simp [h1]
      by_cases h2 : mn = 0
      · have t2 : ((mn : Int) != 0) = false := by simp [h2]
        have hb : B = false := by rw [hB]; simp [h1, h2]
        clear h1 h2 hB
        subst hb
        go_wp2_with fail
        go_meet
        exact ⟨rfl, rfl⟩
      · have t2 : ((mn : Int) != 0) = true := by simpa using h2
        have hb : B = true := by rw [hB]; simp [h2]
        clear h1 h2 hB
        subst hb
        go_wp2_with fail
        go_meet
        exact ⟨rfl, rfl⟩
    · have t1 : (yr != 0) = true := by simpa using h1
      have hb : B = true := by rw [hB]; simp [h1]
      clear h1 hB
      subst hb
      go_wp2_with fail
      go_meet
      exact ⟨rfl, rfl⟩
  case rest =>
  obtain ⟨rfl, hw⟩ := hcut
  subst hw
  have HBe := Lib.hid hB
  clear hB x0 x1 x2 x3
  go_upto_if 28 with fail
  go_cut [8, 10] (fun s8 s10 wx => ∃ v, s8 = .int .i64 v ∧ s10 = .int .i64 0 ∧ Hid (MvP c y m d a yr mn v 0) ∧ Hid (Below g w wx) ∧ Hid (Box wx (g + 1) 23 (lenC yr (mn : Int) dd ms)))
  case first =>
    cases B
    · have hz : yr = 0 ∧ mn = 0 := by simpa using HBe.out
      have HM : Hid (MvP c y m d a yr mn v0 0) := .inl ⟨hz.1, hz.2, HV0.out, rfl⟩
      clear hz HBe HL
      go_wp2_with fail
      go_meet
      exact ⟨v0, rfl, rfl, HM, HB1, HX1⟩
    · have hz : ¬ (yr = 0 ∧ mn = 0) := fun h => by
        have h2 := HBe.out
        rw [decide_eq_true h] at h2
        cases h2
      have HM : Hid (∀ v E, LaterP c y m d yr mn v E → MvP c y m d a yr mn v E) := fun v E h => .inr ⟨hz, h⟩
      have HLt := Lib.hid (HL.out hz)
      clear hz HBe HL
      obtain ⟨x0, x1, x2, x3⟩ := lcells HX1.out
      obtain ⟨y0, y1, y2, y3, y4⟩ := ccells HC1.out
      go_wp2_with fail
      refine (HLt.out _ HV1.out).mono ?_
      rintro e w2 ⟨hb2, v, E, rfl, hl⟩
      have HP2 := Lib.hid (HM.out v E hl)
      have HB2 : Hid (Below g w w2) := HB1.out.trans (hb2.mono (by have := HX1.out.lt; omega))
      have HX2 := Lib.hid (HX1.out.below hb2)
      clear hb2 hl x0 x1 x2 x3 y0 y1 y2 y3 y4 HLt HM
      by_cases hE : E = 0
      · subst hE
        go_wp2_with fail
        go_meet
        exact ⟨v, rfl, rfl, HP2, HB2, HX2⟩
      · have t1 : (E != 0) = true := by simpa using hE
        have HF := Lib.hid (HP.out v E 0 E HP2.out (.inl ⟨hE, rfl, rfl⟩))
        clear hE
        go_wp2_with fail
        go_ret2
        exact ⟨0, E, rfl, HF.out, by rw [HG.out]; exact HB2.out⟩
  case rest =>
  obtain ⟨v, rfl, rfl, HM, HB2, HX2⟩ := hcut
  have hv := HIs.out v 0 HM.out
  unfold DayOk at hv
  have HR := Lib.hid (fun o F h => HP.out v 0 o F HM.out h)
  clear HL HBe HB1 HX1 HC1 HV1 HM HIs HP HV0
  obtain ⟨x0, x1, x2, x3⟩ := lcells HX2.out
  have e1 : IntKind.i64.wrap (v + dd) = v + dd := intFits _ (by omega) (by omega)
  by_cases hd : DayOk (v + dd)
  case neg =>
    have HF := Lib.hid (HR.out 0 3 (.inr (.inl ⟨rfl, hd, rfl, rfl⟩)))
    have HD := Lib.hid (isDay_any (v + dd) wc)
    rw [decide_eq_false (show ¬ (-4000000 ≤ v + dd ∧ v + dd ≤ 4000000) from hd)] at HD
    clear hd HR
    go_wp2_with (go_at_call 73; refine HD.out.mono ?_; rintro e w' ⟨rfl, rfl⟩)
    go_ret2
    exact ⟨0, 3, rfl, HF.out, by rw [HG.out]; exact HB2.out⟩
  case pos =>
  have HD := Lib.hid (isDay_any (v + dd) wc)
  rw [decide_eq_true (show (-4000000 ≤ v + dd ∧ v + dd ≤ 4000000) from hd)] at HD
  have HDk := Lib.hid hd
  unfold DayOk at hd
  have e2 : IntKind.i64.wrap ((v + dd) * 86400000) = (v + dd) * 86400000 := intFits _ (by omega) (by omega)
  have e3 : IntKind.i64.wrap ((v + dd) * 86400000 + r0) = (v + dd) * 86400000 + r0 := intFits _ (by omega) (by omega)
  have e4 : IntKind.i64.wrap ((v + dd) * 86400000 + r0 + ms) = (v + dd) * 86400000 + r0 + ms := intFits _ (by omega) (by omega)
  have HI := Lib.hid (isInst_any ((v + dd) * 86400000 + r0 + ms) wc (by omega) (by omega))
  go_upto_region 12 with (go_at_call 73; refine HD.out.mono ?_; rintro e w' ⟨rfl, rfl⟩)
  go_wp2_with fail
  refine HI.out.mono ?_
  rintro e w3 ⟨bb, rfl, hbb, n3, rfl⟩
  have HB3 : Hid (Below g w (wc.drewN n3)) := below_drew HB2.out n3
  cases bb
  · have hno : ¬ InstOk ((v + dd) * 86400000 + r0 + ms) := fun h => by have := hbb.2 h; cases this
    rw [HR0.out] at hno
    have HF := Lib.hid (HR.out 0 3 (.inr (.inr (.inl ⟨rfl, HDk.out, hno, rfl, rfl⟩))))
    clear hno hbb HR HI HD
    go_wp2_with fail
    go_ret2
    exact ⟨0, 3, rfl, HF.out, by rw [HG.out]; exact HB3.out⟩
  · have hyes := hbb.1 rfl
    rw [HR0.out] at hyes
    have HF := Lib.hid (HR.out ((v + dd) * 86400000 + a % 86400000 + ms) 0 (.inr (.inr (.inr ⟨rfl, HDk.out, hyes, rfl, rfl⟩))))
    rw [← HR0.out] at HF
    clear hyes hbb HR HI HD
    go_wp2_with fail
    go_ret2
    exact ⟨_, 0, rfl, HF.out, by rw [HG.out]; exact HB3.out⟩
end Go.Proofs.YteebjkcpniddiaaGreatDoor

/- Contracts of span.most and of the lengths that Between hands to it. -/
namespace Go.Proofs.YteebjkcpniddiaaGreatDoor
open Go Go.RowKit
set_option linter.unusedVariables false

set_option maxRecDepth 100000 in
theorem len1_any (n : Int) (w : World) : Calls Tryz.prog 48 #[.int .i64 n] w fun e w' => e = .returned (.agg (lenC n 0 0 0)) ∧ Below w.heap.size w w' := by
  have HB := Lib.hid (below_alloc1 w (Obj.cells (lenC n 0 0 0) 23))
  go_enter Tryz.func48, Tryz.ntmps48
  go_wp2_with fail
  refine bodyPost_ret (v := .agg (lenC n 0 0 0)) (by simp [results, Tryz.results48, go_sem, lenC]) rfl ?_
  exact ⟨rfl, HB.out⟩
set_option maxRecDepth 100000 in
theorem len2_any (g : Nat) (n y m d s : Int) (w : World) (h : Box w g 23 (lenC y m d s)) : Calls Tryz.prog 49 #[.int .i64 n, .pointer (some ⟨g, 0, none⟩)] w fun e w' => e = .returned (.agg (lenC y n 0 0)) ∧ Below w.heap.size w w' := by
  have HB := Lib.hid (below_alloc1 w (Obj.cells (lenC y n 0 0) 23))
  have x0 : ∀ o, (w.alloc o).cell? ⟨g, 0, none⟩ = some (.int .i64 y) := fun o => (lcells (h.alloc o)).1
  clear h
  go_enter Tryz.func49, Tryz.ntmps49
  go_wp2_with fail
  refine bodyPost_ret (v := .agg (lenC y n 0 0)) (by simp [results, Tryz.results49, go_sem, lenC]) rfl ?_
  exact ⟨rfl, HB.out⟩

set_option maxHeartbeats 4000000 in
set_option maxRecDepth 100000 in
theorem most_one (g : Nat) (cb : Array Value) (eg : ∀ args w, (callFunc g args).run Tryz.prog w = .ok (.enter g args) w) (gc ga go gb : Nat) (c : Cal) (y : Int) (m : Nat) (d a b yr : Int) (mn i : Nat) (w : World)
    (hc : Box w gc 75 c.cells) (hv : CalV w c) (hga : Box w ga 3 #[.int .i64 a]) (hgo : Box w go 84 #[.func (.func g) #[] cb]) (hgb : Box w gb 3 #[.int .i64 b])
    (ha : InstOk a) (ho : IsOn c y m d (a / 86400000)) (hy1 : -10000 ≤ y) (hy2 : y ≤ 10000) (hi : i < 10000) (hr1 : 0 ≤ yr) (hr2 : yr ≤ 10000) (hn : mn ≤ 10000)
    (hf : ∀ W, Below w.heap.size w W → Calls Tryz.prog g (#[.int .i64 ((i : Int) + 1)] ++ cb) W fun e w' => e = .returned (.agg (lenC yr (mn : Int) 0 0)) ∧ Below W.heap.size W w') :
    Calls Tryz.prog 82 #[.int .i64 (i : Int), .pointer (some ⟨gc, 0, none⟩), .pointer (some ⟨ga, 0, none⟩), .pointer (some ⟨go, 0, none⟩), .pointer (some ⟨gb, 0, none⟩)] w
      fun e w' => ∃ bb : Bool, e = .returned (.bool bb) ∧ (bb = false → MostQ c y m d a b yr mn) ∧ (bb = true → MostP c y m d a b yr mn) ∧ Below w.heap.size w w' := by
  have HF := Lib.hid hf
  have HEx := Lib.hid (AddP.ex hv.ok y ho.m1 d ho.d0 a yr mn 0 0)
  have HA := Lib.hid (fun W (hb : Below w.heap.size w W) => add_any c y m d a yr mn 0 0 W (hv.next hb) ha (.inr ⟨ho, hy1, hy2⟩) hr1 hr2 hn (by omega) (by omega) (by omega) (by omega))
  have HGb := Lib.hid hgb
  have x1 : ∀ W, Below w.heap.size w W → W.cell? ⟨ga, 0, none⟩ = some (.int .i64 a) := fun W hb => (hga.below hb).cell 0
  have x2 : ∀ W, Below w.heap.size w W → W.cell? ⟨go, 0, none⟩ = some (.func (.func g) #[] cb) := fun W hb => (hgo.below hb).cell 0
  have y0 : ∀ W, Below w.heap.size w W → W.cell? ⟨gc, 0, none⟩ = some (.string c.nm) := fun W hb => (ccells (hc.below hb)).1
  have y1 := fun W (hb : Below w.heap.size w W) => (ccells (hc.below hb)).2.1
  have y2 := fun W (hb : Below w.heap.size w W) => (ccells (hc.below hb)).2.2.1
  have y3 := fun W (hb : Below w.heap.size w W) => (ccells (hc.below hb)).2.2.2.1
  have y4 := fun W (hb : Below w.heap.size w W) => (ccells (hc.below hb)).2.2.2.2
  clear hf hv ha ho hga hgo hgb hc
  have e1 : IntKind.i64.wrap ((i : Int) + 1) = (i : Int) + 1 := intFits _ (by omega) (by omega)
  go_enter Tryz.func82, Tryz.ntmps82
  go_upto_region 1 with fail
  refine flow_begin (tellOf [(5, det (.agg (lenC yr (mn : Int) 0 0))), (6, pairT (fun v E => AddP c y m d a yr mn 0 0 v E))]) (by kernel_rfl) (by kernel_rfl) ?_
  repeat (first | (refine flow_val (v := ?_) (by rfl) (by rfl) (fun w hb => ?_) ?_; rotate_left; (· ((go_simp) <;> ((repeat' apply And.intro) <;> with_reducible rfl))); try simp only [Act.put, List.setIfInBounds_toArray, List.set_cons_zero, List.set_cons_succ, Nat.reduceAdd]) | (refine flow_skip (by rfl) (by rfl) ?_; try simp only [Act.put, List.setIfInBounds_toArray, List.set_cons_zero, List.set_cons_succ, Nat.reduceAdd]))
  refine flow_call (f := g) (args := #[.int .i64 ((i : Int) + 1)] ++ cb) [] (by kernel_rfl) (by rfl) (by rfl) (fun w hb => ?_) (fun w hb hu => ?_) ?_
  · go_simp
    try simp only [eg]
    try rfl
  · exact HF.out w hb
  try simp only [Act.put, List.setIfInBounds_toArray, List.set_cons_zero, List.set_cons_succ, Nat.reduceAdd]
  repeat (first | (refine flow_val (v := ?_) (by rfl) (by rfl) (fun w hb => ?_) ?_; rotate_left; (· ((go_simp) <;> ((repeat' apply And.intro) <;> with_reducible rfl))); try simp only [Act.put, List.setIfInBounds_toArray, List.set_cons_zero, List.set_cons_succ, Nat.reduceAdd]) | (refine flow_skip (by rfl) (by rfl) ?_; try simp only [Act.put, List.setIfInBounds_toArray, List.set_cons_zero, List.set_cons_succ, Nat.reduceAdd]))
  refine flow_pair (f := ?_) (args := ?_) [] HEx.out (by kernel_rfl) (by rfl) (by rfl) (fun w hb => ?_) (fun w hb hu => ?_) (fun v E hp => ?_); rotate_left 2; (· ((go_simp) <;> ((repeat' apply And.intro) <;> with_reducible rfl)))
  · exact HA.out w hb
  try simp only [Act.put, List.setIfInBounds_toArray, List.set_cons_zero, List.set_cons_succ, Nat.reduceAdd]
  repeat (first | (refine flow_val (v := ?_) (by rfl) (by rfl) (fun w hb => ?_) ?_; rotate_left; (· ((go_simp) <;> ((repeat' apply And.intro) <;> with_reducible rfl))); try simp only [Act.put, List.setIfInBounds_toArray, List.set_cons_zero, List.set_cons_succ, Nat.reduceAdd]) | (refine flow_skip (by rfl) (by rfl) ?_; try simp only [Act.put, List.setIfInBounds_toArray, List.set_cons_zero, List.set_cons_succ, Nat.reduceAdd]))
  refine flow_nil fun w1 hb1 _ => ?_
  have HB1 := Lib.hid hb1
  have HP := Lib.hid hp
  have z0 : w1.cell? ⟨gb, 0, none⟩ = some (.int .i64 b) := (HGb.out.below hb1).cell 0
  clear hb1 hp x1 x2 y0 y1 y2 y3 y4 HF HA HEx HGb
  by_cases hE : E = 0
  · subst hE
    by_cases hb : b < v
    · have HQ : Hid (MostP c y m d a b yr mn) := ⟨v, 0, HP.out, .inr hb⟩
      have t1 : decide (b < v) = true := decide_eq_true hb
      clear hb
      go_wp2_with fail
      go_ret
      exact ⟨true, rfl, fun h => (by cases h), fun _ => HQ.out, HB1.out⟩
    · have HQ : Hid (MostQ c y m d a b yr mn) := ⟨v, HP.out, by omega⟩
      have t1 : decide (b < v) = false := decide_eq_false hb
      clear hb
      go_wp2_with fail
      go_ret
      exact ⟨false, rfl, fun _ => HQ.out, fun h => (by cases h), HB1.out⟩
  · have HQ : Hid (MostP c y m d a b yr mn) := ⟨v, E, HP.out, .inl hE⟩
    have t1 : (E != 0) = true := by rw [bne_iff_ne]; exact hE
    clear hE
    go_wp2_with fail
    go_ret
    exact ⟨true, rfl, fun h => (by cases h), fun _ => HQ.out, HB1.out⟩

/-- what most says -/
def MostR (c : Cal) (y : Int) (m : Nat) (d a b : Int) (yf : Nat → Int) (mf : Nat → Nat) (w : World) (e : Ending) (w' : World) : Prop :=
  ∃ k : Nat, e = .returned (.int .i64 (k : Int)) ∧ k ≤ 10000 ∧ (∀ j, k = j + 1 → MostQ c y m d a b (yf k) (mf k)) ∧ (k < 10000 → MostP c y m d a b (yf (k + 1)) (mf (k + 1))) ∧ Below w.heap.size w w'
set_option maxHeartbeats 1000000 in
set_option maxRecDepth 100000 in
/-- the search of most -/
theorem most_search (g : Nat) (cb : Array Value) (eg : ∀ args w, (callFunc g args).run Tryz.prog w = .ok (.enter g args) w) (gc ga go gb : Nat) (yf : Nat → Int) (mf : Nat → Nat) (c : Cal) (y : Int) (m : Nat) (d a b : Int) (w : World)
    (hc : Box w gc 75 c.cells) (hga : Box w ga 3 #[.int .i64 a]) (hgo : Box w go 84 #[.func (.func g) #[] cb]) (hgb : Box w gb 3 #[.int .i64 b])
    (hv : CalV w c) (ha : InstOk a) (ho : IsOn c y m d (a / 86400000)) (hy1 : -10000 ≤ y) (hy2 : y ≤ 10000) (hr : ∀ n, n ≤ 10000 → (0 ≤ yf n ∧ yf n ≤ 10000) ∧ mf n ≤ 10000)
    (hf : ∀ W (i : Nat), Below w.heap.size w W → i < 10000 → Calls Tryz.prog g (#[.int .i64 ((i : Int) + 1)] ++ cb) W fun e w' => e = .returned (.agg (lenC (yf (i + 1)) (mf (i + 1) : Int) 0 0)) ∧ Below W.heap.size W w') :
    Calls Tryz.prog 81 #[.int .i64 ((10000 : Nat) : Int), .func (.func 82) #[] #[.pointer (some ⟨gc, 0, none⟩), .pointer (some ⟨ga, 0, none⟩), .pointer (some ⟨go, 0, none⟩), .pointer (some ⟨gb, 0, none⟩)]] w (MostR c y m d a b yf mf w) := by
  refine (search_edge 82 _ 10000 (fun i => MostQ c y m d a b (yf (i + 1)) (mf (i + 1))) (fun i => MostP c y m d a b (yf (i + 1)) (mf (i + 1))) (fun W' => Below w.heap.size w W') w (Below.refl _ _) (by omega) (fun _ _ => rfl) (fun W' i hW' hi => ?_)).mono ?_
  · have hq := hr (i + 1) (by omega)
    refine (most_one g cb eg gc ga go gb c y m d a b (yf (i + 1)) (mf (i + 1)) i W' (hc.below hW') (hv.next hW') (hga.below hW') (hgo.below hW') (hgb.below hW') ha ho hy1 hy2 hi hq.1.1 hq.1.2 hq.2 (fun W2 h2 => hf W2 i (below_then hW' h2) hi)).mono ?_
    rintro e w' ⟨bb, rfl, h1, h2, h3⟩
    exact ⟨bb, rfl, h1, h2, below_then hW' h3⟩
  · rintro e w' ⟨k, rfl, hk, h1, h2, hb⟩
    exact ⟨k, rfl, hk, fun j hj => by subst hj; exact h1 j rfl, h2, hb⟩

set_option maxHeartbeats 4000000 in
set_option maxRecDepth 100000 in
theorem most_any (g : Nat) (cb : Array Value) (eg : ∀ args w, (callFunc g args).run Tryz.prog w = .ok (.enter g args) w) (yf : Nat → Int) (mf : Nat → Nat) (c : Cal) (y : Int) (m : Nat) (d a b : Int) (w : World)
    (hv : CalV w c) (ha : InstOk a) (ho : IsOn c y m d (a / 86400000)) (hy1 : -10000 ≤ y) (hy2 : y ≤ 10000) (hr : ∀ n, n ≤ 10000 → (0 ≤ yf n ∧ yf n ≤ 10000) ∧ mf n ≤ 10000)
    (hf : ∀ W (i : Nat), Below w.heap.size w W → i < 10000 → Calls Tryz.prog g (#[.int .i64 ((i : Int) + 1)] ++ cb) W fun e w' => e = .returned (.agg (lenC (yf (i + 1)) (mf (i + 1) : Int) 0 0)) ∧ Below W.heap.size W w') :
    Calls Tryz.prog 47 #[c.val, .int .i64 a, .int .i64 b, .func (.func g) #[] cb] w (MostR c y m d a b yf mf w) := by
  have hB := below_then (below_alloc3 w (Obj.cells c.cells 75) (Obj.cells #[.int .i64 a] 3) (Obj.cells #[.int .i64 b] 3)) (below_alloc1 _ (Obj.cells #[.func (.func g) #[] cb] 84))
  have HS := Lib.hid (most_search g cb eg w.heap.size (w.heap.size + 1) (w.heap.size + 1 + 1 + 1) (w.heap.size + 1 + 1) yf mf c y m d a b _
    ((((Box.new w 75 c.cells).alloc (Obj.cells #[.int .i64 a] 3)).alloc (Obj.cells #[.int .i64 b] 3)).alloc (Obj.cells #[.func (.func g) #[] cb] 84))
    (by have h := ((Box.new (w.alloc (Obj.cells c.cells 75)) 3 #[.int .i64 a]).alloc (Obj.cells #[.int .i64 b] 3)).alloc (Obj.cells #[.func (.func g) #[] cb] 84); simp only [World.size_alloc] at h; exact h)
    (by have h := Box.new (((w.alloc (Obj.cells c.cells 75)).alloc (Obj.cells #[.int .i64 a] 3)).alloc (Obj.cells #[.int .i64 b] 3)) 84 #[.func (.func g) #[] cb]; simp only [World.size_alloc] at h; exact h)
    (by have h := (Box.new ((w.alloc (Obj.cells c.cells 75)).alloc (Obj.cells #[.int .i64 a] 3)) 3 #[.int .i64 b]).alloc (Obj.cells #[.func (.func g) #[] cb] 84); simp only [World.size_alloc] at h; exact h)
    (hv.next hB) ha ho hy1 hy2 hr (fun W i h1 h2 => hf W i (below_then hB h1) h2))
  have HB := Lib.hid hB
  have tN : ((10000 : Nat) : Int) = 10000 := rfl
  rw [tN] at HS
  clear hv ha ho hr hf hB tN
  go_enter Tryz.func47, Tryz.ntmps47
  go_upto_region 1 with fail
  generalize (((w.alloc (Obj.cells c.cells 75)).alloc (Obj.cells #[.int .i64 a] 3)).alloc (Obj.cells #[.int .i64 b] 3)).alloc (Obj.cells #[.func (.func g) #[] cb] 84) = W0 at *
  go_wp2_with fail
  refine Calls.mono HS.out ?_
  rintro e w' ⟨k, rfl, hk, h1, h2, hb⟩
  have HH : Hid (MostR c y m d a b yf mf w (.returned (.int .i64 (k : Int))) w') := ⟨k, rfl, hk, h1, h2, below_then HB.out hb⟩
  clear hk h1 h2 hb HS
  go_wp2_with fail
  go_ret
  exact HH.out
end Go.Proofs.YteebjkcpniddiaaGreatDoor

/- Contracts of span.Add and span.Between. -/
namespace Go.Proofs.YteebjkcpniddiaaGreatDoor
open Go Go.RowKit
set_option linter.unusedVariables false

/-- what Add says, for a day with this date -/
def AddQ (r : CatRow) (a yr : Int) (mn : Nat) (dd ms : Int) (w : World) (e : Ending) (w' : World) : Prop :=
  Below w.heap.size w w' ∧ ∃ c : Cal, CalOf r c ∧ CalOk c ∧ ∃ o F, e = .returned (.tuple #[.int .i64 o, .int .i64 F]) ∧
    ∀ (y : Int) (m : Nat) (d : Int), ((yr = 0 ∧ mn = 0) ∨ (IsOn c y m d (a / 86400000) ∧ -10000 ≤ y ∧ y ≤ 10000)) → AddP c y m d a yr mn dd ms o F

set_option maxHeartbeats 4000000 in
set_option maxRecDepth 100000 in
theorem Add_any (r : CatRow) (hr : r ∈ catR) (c0 : Cal) (hof0 : CalOf r c0) (y : Int) (m : Nat) (d a yr : Int) (mn : Nat) (dd ms : Int) (w : World) (hv : Env w) (ha : InstOk a) (ho : (yr = 0 ∧ mn = 0) ∨ (IsOn c0 y m d (a / 86400000) ∧ -10000 ≤ y ∧ y ≤ 10000)) (hl : LenOk yr (mn : Int) dd ms) (hr1 : 0 ≤ yr) :
    Calls Tryz.prog 18 #[.string (str r.nm), .int .i64 a, .agg (lenC yr (mn : Int) dd ms)] w fun e w' => ∃ o F, e = .returned (.tuple #[.int .i64 o, .int .i64 F]) ∧ AddP c0 y m d a yr mn dd ms o F ∧ Below w.heap.size w w' := by
  have HB := Lib.hid (below_alloc1 w (Obj.cells (lenC yr (mn : Int) dd ms) 23))
  have HX := Lib.hid (Box.new w 23 (lenC yr (mn : Int) dd ms))
  have HE := Lib.hid (hv.next HB.out)
  have HT := Lib.hid (fun w (h : Env w) => Calendar_any r hr w h)
  have HK : Hid (∀ W, Calls Tryz.prog 52 #[.agg (lenC yr (mn : Int) dd ms)] W fun e w' => e = .returned (.int .i64 0) ∧ Below W.heap.size W w') := fun W => (spCheck_any yr mn dd ms W).mono fun e w' ⟨E, he, hE, _, hb⟩ => ⟨by rw [he, hE.2 hl], hb⟩
  have HAd : Hid (∀ c W, CalOf r c → CalV W c → Calls Tryz.prog 50 #[c.val, .int .i64 a, .agg (lenC yr (mn : Int) dd ms)] W fun e w' => ∃ o F, e = .returned (.tuple #[.int .i64 o, .int .i64 F]) ∧ AddP c0 y m d a yr mn dd ms o F ∧ Below W.heap.size W w') := fun c W hof hcv => by
    obtain ⟨⟨l1, l2⟩, ⟨l3, l4⟩, ⟨l5, l6⟩, l7, l8⟩ := hl
    refine (add_any c y m d a yr mn dd ms W hcv ha (ho.imp_right fun h => ⟨(hof0.on hof _ _ _ _).1 h.1, h.2⟩) hr1 l2 (by omega) l5 l6 l7 l8).mono ?_
    rintro e w' ⟨o, F, he, h1, h2⟩
    exact ⟨o, F, he, h1.cong hof hof0, h2⟩
  unfold CalQ at HT
  clear hv ha ho hl hr hof0
  generalize AddP c0 y m d a yr mn dd ms = AP at *
  go_enter Tryz.func18, Tryz.ntmps18
  go_upto_region 1 with fail
  generalize w.alloc (Obj.cells (lenC yr (mn : Int) dd ms) 23) = W0 at *
  generalize hg : w.heap.size = g at *
  have HG := Lib.hid hg
  clear hg
  obtain ⟨x0, x1, x2, x3⟩ := lcells HX.out
  go_wp2_with fail
  refine Calls.mono (HK.out _) ?_
  rintro e w1 ⟨rfl, hb1⟩
  have HX1 := Lib.hid (HX.out.below hb1)
  have HB1 : Hid (Below g w w1) := HB.out.trans (hb1.mono (by have := HX.out.lt; omega))
  have HE1 := Lib.hid (HE.out.next hb1)
  clear hb1 HX HB HE HK x0 x1 x2 x3
  go_wp2_with fail
  refine Calls.mono (HT.out _ HE1.out) ?_
  rintro e w2 ⟨c, rfl, hof, hcv, _, _, hb2⟩
  have HX2 := Lib.hid (HX1.out.below hb2)
  have HB2 : Hid (Below g w w2) := HB1.out.trans (hb2.mono (by have := HX1.out.lt; omega))
  have HA2 := Lib.hid (fun W hb => HAd.out c W hof (hcv.next hb))
  clear hof hcv hb2 HX1 HB1 HE1 HT HAd
  go_upto_region 7 with fail
  have HX3 := Lib.hid (HX2.out.alloc (Obj.cells c.cells 75))
  have HB3 : Hid (Below g w (w2.alloc (Obj.cells c.cells 75))) := HB2.out.alloc (by have := HX2.out.lt; omega) _
  have HA3 := Lib.hid (HA2.out _ (below_alloc1 w2 (Obj.cells c.cells 75)))
  have HY3 := Lib.hid (Box.new w2 75 c.cells)
  clear HX2 HB2 HA2
  generalize w2.alloc (Obj.cells c.cells 75) = w3 at *
  generalize w2.heap.size = gc at *
  obtain ⟨y0, y1, y2, y3, y4⟩ := ccells HY3.out
  obtain ⟨x0, x1, x2, x3⟩ := lcells HX3.out
  go_wp2_with fail
  refine Calls.mono HA3.out ?_
  rintro e w4 ⟨o, F, rfl, hA, hb4⟩
  have HP := Lib.hid hA
  have HB4 : Hid (Below g w w4) := HB3.out.trans (hb4.mono (by have := HX3.out.lt; omega))
  clear hA hb4 HA3 HX3 HB3 HY3 x0 x1 x2 x3 y0 y1 y2 y3 y4
  go_wp2_with fail
  go_ret2
  exact ⟨o, F, rfl, HP.out, by rw [HG.out]; exact HB4.out⟩

/-- what Between says of a ≤ b -/
def BetQ (r : CatRow) (a b : Int) (w : World) (e : Ending) (w' : World) : Prop :=
  Below w.heap.size w w' ∧ ∃ (Y : Int) (M : Nat) (D S E : Int), e = .returned (.tuple #[.agg (lenC Y (M : Int) D S), .int .i64 E]) ∧
    ((E = 3 ∧ ∃ (t : Int) (c : Cal), (t = a ∨ t = b) ∧ CalOf r c ∧ CalOk c ∧ ¬ (c.ny (-10000) ≤ t / 86400000 ∧ t / 86400000 < c.ny 10001)) ∨ (E = 0 ∧ 0 ≤ Y ∧ Y ≤ 10000 ∧ M ≤ 10000 ∧ BetP r a b Y M D S))

theorem two_at (a b : Int) (j : Nat) (hj : j < 2) (W : World) : (Instr.index 79 (.agg #[.int .i64 a, .int .i64 b]) (.int .i64 (j : Int))).run Tryz.prog W = .ok (.int .i64 (if j = 0 then a else b)) W := by
  rcases (show j = 0 ∨ j = 1 by omega) with rfl | rfl
  · simp [Instr.index, run_underlying Tryz.underlying79, asIntOf, go_sem]
  · simp [Instr.index, run_underlying Tryz.underlying79, asIntOf, go_sem]

/-- what the two searches found, added -/
theorem bet_done {c : Cal} {y : Int} {m : Nat} {d a b : Int} {k1 k2 : Nat} {o F : Int} (ha : InstOk a) (hle : a ≤ b) (h1 : ∀ j, k1 = j + 1 → MostQ c y m d a b (k1 : Int) 0) (h2 : ∀ j, k2 = j + 1 → MostQ c y m d a b (k1 : Int) k2) (hA : AddP c y m d a (k1 : Int) k2 0 0 o F) : F = 0 ∧ o ≤ b := by
  have key : MostQ c y m d a b (k1 : Int) k2 := by
    cases k2 with
    | zero =>
      cases k1 with
      | zero => exact MostQ.none c y m d ha hle
      | succ j => exact h1 j rfl
    | succ j => exact h2 j rfl
  obtain ⟨at_, hq, hl⟩ := key
  obtain ⟨rfl, rfl⟩ := hq.unique hA
  exact ⟨rfl, hl⟩
theorem AddP.inst {c : Cal} {y : Int} {m : Nat} {d a yr : Int} {mn : Nat} {dd ms o : Int} (h : AddP c y m d a yr mn dd ms o 0) : InstOk o := by
  obtain ⟨v, E, h1, h2⟩ := h
  rcases h2 with ⟨b1, e3, e4⟩ | ⟨b1, b2, e3, e4⟩ | ⟨b1, b2, b3, e3, e4⟩ | ⟨b1, b2, b3, e3, e4⟩
  · exact absurd e4.symm b1
  · omega
  · omega
  · rw [e3]; exact b3

set_option maxHeartbeats 8000000 in
set_option maxRecDepth 100000 in
theorem Between_any (r : CatRow) (hr : r ∈ catR) (a b : Int) (w : World) (hv : Env w) (ha : InstOk a) (hb : InstOk b) (hle : a ≤ b) : Calls Tryz.prog 15 #[.string (str r.nm), .int .i64 a, .int .i64 b] w (BetQ r a b w) := by
  have HB := Lib.hid (below_alloc1 w (Obj.cells #[.int .i64 0, .int .i64 0, .int .i64 0, .int .i64 0] 23))
  have HX := Lib.hid (Box.new w 23 #[.int .i64 0, .int .i64 0, .int .i64 0, .int .i64 0])
  have HE := Lib.hid (hv.next HB.out)
  have HT := Lib.hid (fun w (h : Env w) => Calendar_any r hr w h)
  have HIa := Lib.hid (fun W => isInstant_yes a W ha)
  have HIb := Lib.hid (fun W => isInstant_yes b W hb)
  have HA := Lib.hid ha
  have HBb := Lib.hid hb
  have HLe := Lib.hid hle
  have tle : decide (b < a) = false := decide_eq_false (by omega)
  unfold CalQ at HT
  unfold BetQ
  clear hv ha hb hle
  go_enter Tryz.func15, Tryz.ntmps15
  go_wp2_with fail
  generalize w.alloc (Obj.cells #[.int .i64 0, .int .i64 0, .int .i64 0, .int .i64 0] 23) = W0 at *
  generalize hg : w.heap.size = g at *
  have HG := Lib.hid hg
  clear hg
  refine (HT.out _ HE.out).mono ?_
  rintro e w1 ⟨c, rfl, hof, hcv, _, _, hb1⟩
  have HX1 := Lib.hid (HX.out.below hb1)
  have HB1 : Hid (Below g w w1) := HB.out.trans (hb1.mono (by have := HX.out.lt; omega))
  have HOf := Lib.hid hof
  have HCv := Lib.hid hcv
  have HOk := Lib.hid hcv.ok
  clear hof hcv hb1 HX HB HE HT
  go_upto_region 4 with fail
  have HX2 := Lib.hid (HX1.out.alloc (Obj.cells c.cells 75))
  have HB2 : Hid (Below g w (w1.alloc (Obj.cells c.cells 75))) := HB1.out.alloc (by have := HX1.out.lt; omega) _
  have HC2 := Lib.hid (HCv.out.next (below_alloc1 w1 (Obj.cells c.cells 75)))
  have HY2 := Lib.hid (Box.new w1 75 c.cells)
  clear HX1 HB1 HCv
  generalize w1.alloc (Obj.cells c.cells 75) = w2 at *
  generalize w1.heap.size = gc at *
  go_wp2_with (go_at_call 44; first
    | (refine Calls.mono (HIa.out _) ?_; rintro e w' ⟨rfl, na, rfl⟩; clear HIa)
    | (refine Calls.mono (HIb.out _) ?_; rintro e w' ⟨rfl, nb, rfl⟩; clear HIb))
  have HX3 := Lib.hid (HX2.out.drewN (na + nb))
  have HB3 : Hid (Below g w (w2.drewN (na + nb))) := below_drew HB2.out (na + nb)
  have HC3 : Hid (CalV (w2.drewN (na + nb)) c) := HC2.out.next (below_drewN w2 (na + nb))
  have HY3 := Lib.hid (HY2.out.drewN (na + nb))
  clear HX2 HB2 HC2 HY2 tle
  generalize w2.drewN (na + nb) = w3 at *
  go_loopw [11, 12, 13, 14, 15, 16, 44] (fun _ _ _ _ _ _ i wr => ∃ j : Nat, j ≤ 2 ∧ i = .int .i64 (j : Int) ∧ Hid (1 ≤ j → ∃ (y : Int) (m : Nat) (d : Int), -10000 ≤ y ∧ y ≤ 10000 ∧ IsOn c y m d (a / 86400000)) ∧ Hid (Below w3.heap.size w3 wr)) (fun _ _ _ _ _ _ i _ => 2 - (intOf i).toNat)
  case atStart => exact ⟨0, by omega, rfl, fun h => absurd h (by omega), Below.refl _ _⟩
  case round =>
    obtain ⟨j, hj, rfl, hin, hbr⟩ := hrel
    have HXr := Lib.hid (HX3.out.below hbr.out)
    have HYr := Lib.hid (HY3.out.below hbr.out)
    have HCr := Lib.hid (HC3.out.next hbr.out)
    have HBr : Hid (Below g w wr) := HB3.out.trans (hbr.out.mono (by have := HX3.out.lt; omega))
    by_cases hlt : j < 2
    · have t1 : decide ((j : Int) < 2) = true := decide_eq_true (by omega)
      have hix := two_at a b j hlt
      obtain ⟨t, ht⟩ : ∃ t, t = (if j = 0 then a else b) := ⟨_, rfl⟩
      rw [← ht] at hix
      have hta : t = a ∨ t = b := by
        rw [ht]
        split
        · exact .inl rfl
        · exact .inr rfl
      have htI : InstOk t := by
        rcases hta with h | h
        · rw [h]; exact HA.out
        · rw [h]; exact HBb.out
      have HSp := Lib.hid (fun W => split_yes t W htI.1 htI.2)
      have HT0 : Hid (j = 0 → t = a) := fun h => by rw [ht, if_pos h]
      have HTt := Lib.hid hta
      have HTi := Lib.hid htI
      obtain ⟨v, hv⟩ : ∃ v, v = t / 86400000 := ⟨_, rfl⟩
      rw [← hv] at HSp
      have HVt := Lib.hid hv
      clear ht hta htI hv
      go_upto_region 12 with (go_at_call 45; refine Calls.mono (HSp.out _) ?_; rintro e w' ⟨rfl, ns, rfl⟩)
      have HY4 := Lib.hid (HYr.out.drewN ns)
      have HX4 := Lib.hid (HXr.out.drewN ns)
      have HC4 := Lib.hid (HCr.out.next (below_drewN wr ns))
      have HB4 : Hid (Below g w (wr.drewN ns)) := below_drew HBr.out ns
      have HR4 : Hid (Below w3.heap.size w3 (wr.drewN ns)) := below_drew hbr.out ns
      clear HXr HYr HCr HBr hbr HSp hix
      generalize wr.drewN ns = w4 at *
      obtain ⟨y0, y1, y2, y3, y4⟩ := ccells HY4.out
      go_wp2_with fail
      refine Calls.mono (FromDay_any c v w4 HC4.out) ?_
      rintro e w5 ⟨hb5, hc⟩
      have HX5 := Lib.hid (HX4.out.below hb5)
      have HB5 : Hid (Below g w w5) := HB4.out.trans (hb5.mono (by have := HX4.out.lt; omega))
      have HR5 := Lib.hid (below_then HR4.out hb5)
      clear hb5 y0 y1 y2 y3 y4 HY4 HX4 HC4 HB4 HR4
      rcases hc with ⟨y, m, d, h1, h2, h3, rfl⟩ | ⟨h1, rfl⟩
      · have HI2 : Hid (1 ≤ j + 1 → ∃ (y : Int) (m : Nat) (d : Int), -10000 ≤ y ∧ y ≤ 10000 ∧ IsOn c y m d (a / 86400000)) := fun _ => by
          by_cases hj0 : j = 0
          · have e1 := HT0.out hj0
            have e2 := HVt.out
            rw [e1] at e2
            exact ⟨y, m, d, h1, h2, by rw [← e2]; exact h3⟩
          · exact hin.out (by omega)
        clear h1 h2 h3 hin
        go_wp2_with fail
        have HR6 := Lib.hid (below_then HR5.out (below_alloc1 w5 (Obj.cells #[.int .i64 y, .int .i64 ((m : Int) + 1), .int .i64 (d + 1)] 61)))
        go_roundw
        case rel => exact ⟨j + 1, by omega, by go_num, HI2, HR6⟩
        case measure => simp [intOf]; omega
      · have HNo : Hid (¬ (c.ny (-10000) ≤ t / 86400000 ∧ t / 86400000 < c.ny 10001)) := fun h => h1 (by
          have h4 := HTi.out
          have h5 := HVt.out
          unfold InstOk at h4
          rw [h5]
          exact ⟨by omega, by omega, h.1, h.2⟩)
        clear h1 hin
        go_upto_region 13 with fail
        have HX6 := Lib.hid (HX5.out.alloc (Obj.cells #[.int .i64 0, .int .i64 0, .int .i64 0] 61))
        have HB6 : Hid (Below g w (w5.alloc (Obj.cells #[.int .i64 0, .int .i64 0, .int .i64 0] 61))) := HB5.out.alloc (by have := HX5.out.lt; omega) _
        clear HX5 HB5 HR5
        generalize w5.alloc (Obj.cells #[.int .i64 0, .int .i64 0, .int .i64 0] 61) = w6 at *
        have rf : ∀ i, w6.frozen? ⟨g, i, none⟩ = false := fun i => HX6.out.free i
        have r0 : w6.cell? ⟨g, 0, none⟩ = some (.int .i64 0) := HX6.out.cell 0
        have r1 : w6.cell? ⟨g, 1, none⟩ = some (.int .i64 0) := HX6.out.cell 1
        have r2 : w6.cell? ⟨g, 2, none⟩ = some (.int .i64 0) := HX6.out.cell 2
        have r3 : w6.cell? ⟨g, 3, none⟩ = some (.int .i64 0) := HX6.out.cell 3
        have hl := HX6.out.lt
        go_wp2_with fail
        refine bodyPost_ret (v := .tuple #[.agg (lenC 0 0 0 0), .int .i64 3]) (by simp [results, Tryz.results15, go_sem, lenC, r0, r1, r2, r3]) rfl ?_
        exact ⟨by rw [HG.out]; exact (((HB6.out.setCell (p := ⟨g, 0, none⟩) (Nat.le_refl _) _).setCell (p := ⟨g, 1, none⟩) (Nat.le_refl _) _).setCell (p := ⟨g, 2, none⟩) (Nat.le_refl _) _).setCell (p := ⟨g, 3, none⟩) (Nat.le_refl _) _, 0, 0, 0, 0, 3, rfl, .inl ⟨rfl, t, c, HTt.out, HOf.out, HOk.out, HNo.out⟩⟩
    · have t1 : decide ((j : Int) < 2) = false := decide_eq_false (by omega)
      obtain ⟨y, m, d, hy1, hy2, ho⟩ := hin.out (by omega)
      have hgl := HXr.out.lt
      have HCn : Hid (∀ W, Below wr.heap.size wr W → CalV W c) := fun W hW => HCr.out.next hW
      have HXn : Hid (∀ W, Below wr.heap.size wr W → Box W g 23 #[.int .i64 0, .int .i64 0, .int .i64 0, .int .i64 0]) := fun W hW => HXr.out.below hW
      have HYn : Hid (∀ W, Below wr.heap.size wr W → Box W gc 75 c.cells) := fun W hW => HYr.out.below hW
      have HBn : Hid (∀ W, Below wr.heap.size wr W → Below g w W) := fun W hW => HBr.out.trans (hW.mono (by omega))
      have HM1 : Hid (∀ W, Below wr.heap.size wr W → Calls Tryz.prog 47 #[c.val, .int .i64 a, .int .i64 b, .func (.func 48) #[] #[]] W (MostR c y m d a b (fun n => (n : Int)) (fun _ => 0) W)) := fun W hW =>
        most_any 48 #[] (fun _ _ => rfl) (fun n => (n : Int)) (fun _ => 0) c y m d a b W (HCn.out W hW) HA.out ho hy1 hy2 (fun n hn => ⟨⟨by omega, by omega⟩, by omega⟩) (fun W' i hW' hi => by
          rw [show (#[.int .i64 ((i : Int) + 1)] ++ #[] : Array Value) = #[.int .i64 ((i : Int) + 1)] from by simp]
          have h := len1_any ((i : Int) + 1) W'
          rw [show (i : Int) + 1 = ((i + 1 : Nat) : Int) from by omega] at h
          rw [show (i : Int) + 1 = ((i + 1 : Nat) : Int) from by omega]
          exact h)
      have HM2 : Hid (∀ (k1 gx : Nat) W, k1 ≤ 10000 → Below wr.heap.size wr W → Box W gx 23 (lenC (k1 : Int) 0 0 0) → Calls Tryz.prog 47 #[c.val, .int .i64 a, .int .i64 b, .func (.func 49) #[] #[.pointer (some ⟨gx, 0, none⟩)]] W (MostR c y m d a b (fun _ => (k1 : Int)) (fun n => n) W)) := fun k1 gx W hk hW hx =>
        most_any 49 #[.pointer (some ⟨gx, 0, none⟩)] (fun _ _ => rfl) (fun _ => (k1 : Int)) (fun n => n) c y m d a b W (HCn.out W hW) HA.out ho hy1 hy2 (fun n hn => ⟨⟨by omega, by omega⟩, by omega⟩) (fun W' i hW' hi => by
          rw [show (#[.int .i64 ((i : Int) + 1)] ++ #[.pointer (some ⟨gx, 0, none⟩)] : Array Value) = #[.int .i64 ((i : Int) + 1), .pointer (some ⟨gx, 0, none⟩)] from by simp]
          have h := len2_any gx ((i : Int) + 1) (k1 : Int) 0 0 0 W' (hx.below hW')
          rw [show (i : Int) + 1 = ((i + 1 : Nat) : Int) from by omega] at h
          rw [show (i : Int) + 1 = ((i + 1 : Nat) : Int) from by omega]
          exact h)
      have HM3 : Hid (∀ (k1 k2 : Nat) W, k1 ≤ 10000 → k2 ≤ 10000 → Below wr.heap.size wr W → Calls Tryz.prog 50 #[c.val, .int .i64 a, .agg (lenC (k1 : Int) (k2 : Int) 0 0)] W fun e w' => ∃ o F, e = .returned (.tuple #[.int .i64 o, .int .i64 F]) ∧ AddP c y m d a (k1 : Int) k2 0 0 o F ∧ Below W.heap.size W w') := fun k1 k2 W h1 h2 hW =>
        add_any c y m d a (k1 : Int) k2 0 0 W (HCn.out W hW) HA.out (.inr ⟨ho, hy1, hy2⟩) (by omega) (by omega) h2 (by omega) (by omega) (by omega) (by omega)
      have HOn := Lib.hid (show -10000 ≤ y ∧ y ≤ 10000 ∧ IsOn c y m d (a / 86400000) from ⟨hy1, hy2, ho⟩)
      clear hin hy1 hy2 ho HXr HYr HCr HBr hbr hlt hgl
      go_upto_region 17 with fail
      have hb4 := below_alloc1 wr (Obj.cells #[.int .i64 0, .int .i64 0, .int .i64 0, .int .i64 0] 23)
      have HZ4 := Lib.hid (Box.new wr 23 #[.int .i64 0, .int .i64 0, .int .i64 0, .int .i64 0])
      have HW4 := Lib.hid hb4
      have hgx : wr.heap.size < (wr.alloc (Obj.cells #[.int .i64 0, .int .i64 0, .int .i64 0, .int .i64 0] 23)).heap.size := HZ4.out.lt
      generalize wr.alloc (Obj.cells #[.int .i64 0, .int .i64 0, .int .i64 0, .int .i64 0] 23) = w4 at *
      obtain ⟨y0, y1, y2, y3, y4⟩ := ccells (HYn.out _ hb4)
      clear hb4
      generalize wr.heap.size = gx at *
      go_wp2_with fail
      refine Calls.mono (HM1.out w4 HW4.out) ?_
      rintro e w5 ⟨k1, rfl, hk1, hq1, hp1, hb5⟩
      have HW5 : Hid (Below gx wr w5) := HW4.out.trans (hb5.mono (by omega))
      have HZ5 := Lib.hid (HZ4.out.below hb5)
      have H1 := Lib.hid hq1
      have HP1 := Lib.hid hp1
      clear hb5 HZ4 HW4 y0 y1 y2 y3 y4 hq1 hp1 HM1 hgx
      have rf : ∀ i, w5.frozen? ⟨gx, i, none⟩ = false := fun i => HZ5.out.free i
      have r0 : w5.cell? ⟨gx, 0, none⟩ = some (.int .i64 0) := HZ5.out.cell 0
      have hl := HZ5.out.lt
      go_upto_region 18 with fail
      have HW6 : Hid (Below gx wr (w5.setCell ⟨gx, 0, none⟩ (.int .i64 (k1 : Int)))) := HW5.out.setCell (p := ⟨gx, 0, none⟩) (Nat.le_refl _) _
      have HZ6 : Hid (Box (w5.setCell ⟨gx, 0, none⟩ (.int .i64 (k1 : Int))) gx 23 (lenC (k1 : Int) 0 0 0)) := HZ5.out.set_ 0 _
      clear HW5 HZ5 rf r0 hl
      generalize w5.setCell ⟨gx, 0, none⟩ (.int .i64 (k1 : Int)) = w6 at *
      obtain ⟨y0, y1, y2, y3, y4⟩ := ccells (HYn.out _ HW6.out)
      go_wp2_with fail
      refine Calls.mono (HM2.out k1 gx w6 hk1 HW6.out HZ6.out) ?_
      rintro e w7 ⟨k2, rfl, hk2, hq2, _, hb7⟩
      have hgx := HZ6.out.lt
      have HW7 : Hid (Below gx wr w7) := HW6.out.trans (hb7.mono (by omega))
      have HZ7 := Lib.hid (HZ6.out.below hb7)
      have H2 := Lib.hid hq2
      clear hb7 HZ6 HW6 y0 y1 y2 y3 y4 hq2 HM2 hgx
      have rf : ∀ i, w7.frozen? ⟨gx, i, none⟩ = false := fun i => HZ7.out.free i
      have r0 : w7.cell? ⟨gx, 1, none⟩ = some (.int .i64 0) := HZ7.out.cell 1
      have hl := HZ7.out.lt
      go_upto_region 19 with fail
      have HW8 : Hid (Below gx wr (w7.setCell ⟨gx, 1, none⟩ (.int .i64 (k2 : Int)))) := HW7.out.setCell (p := ⟨gx, 1, none⟩) (Nat.le_refl _) _
      have HZ8 : Hid (Box (w7.setCell ⟨gx, 1, none⟩ (.int .i64 (k2 : Int))) gx 23 (lenC (k1 : Int) (k2 : Int) 0 0)) := HZ7.out.set_ 1 _
      clear HW7 HZ7 rf r0 hl
      generalize w7.setCell ⟨gx, 1, none⟩ (.int .i64 (k2 : Int)) = w8 at *
      obtain ⟨y0, y1, y2, y3, y4⟩ := ccells (HYn.out _ HW8.out)
      obtain ⟨x0, x1, x2, x3⟩ := lcells HZ8.out
      go_wp2_with fail
      refine Calls.mono (HM3.out k1 k2 w8 hk1 hk2 HW8.out) ?_
      rintro e w9 ⟨o, F, rfl, hA, hb9⟩
      obtain ⟨rfl, hob⟩ := bet_done HA.out HLe.out H1.out H2.out hA
      have hoi := hA.inst
      have hbi := HBb.out
      unfold InstOk at hoi hbi
      have hgx := HZ8.out.lt
      have HW9 : Hid (Below gx wr w9) := HW8.out.trans (hb9.mono (by omega))
      have HZ9 := Lib.hid (HZ8.out.below hb9)
      have HAd := Lib.hid hA
      clear hb9 HZ8 HW8 y0 y1 y2 y3 y4 x0 x1 x2 x3 hA HM3 hgx H1 H2
      obtain ⟨D, hD⟩ : ∃ D, D = (b - o) / 86400000 := ⟨_, rfl⟩
      obtain ⟨S, hS⟩ : ∃ S, S = (b - o) % 86400000 := ⟨_, rfl⟩
      have q1 : (b - o).tdiv 86400000 = D := by rw [hD]; exact Int.tdiv_eq_ediv_of_nonneg (by omega)
      have q2 : (b - o).tmod 86400000 = S := by rw [hS]; exact Int.tmod_eq_emod_of_nonneg (by omega)
      have e1 : IntKind.i64.wrap (b - o) = b - o := intFits _ (by omega) (by omega)
      have e2 : IntKind.i64.wrap D = D := intFits _ (by omega) (by omega)
      have e3 : IntKind.i64.wrap S = S := intFits _ (by omega) (by omega)
      have HD := Lib.hid hD
      have HS := Lib.hid hS
      have HOb := Lib.hid hob
      clear hD hS hob hoi hbi
      have rf : ∀ i, w9.frozen? ⟨gx, i, none⟩ = false := fun i => HZ9.out.free i
      have r2 : w9.cell? ⟨gx, 2, none⟩ = some (.int .i64 0) := HZ9.out.cell 2
      have r3 : w9.cell? ⟨gx, 3, none⟩ = some (.int .i64 0) := HZ9.out.cell 3
      have hl := HZ9.out.lt
      go_upto_region 23 with fail
      have HW10 : Hid (Below gx wr ((w9.setCell ⟨gx, 2, none⟩ (.int .i64 D)).setCell ⟨gx, 3, none⟩ (.int .i64 S))) := (HW9.out.setCell (p := ⟨gx, 2, none⟩) (Nat.le_refl _) _).setCell (p := ⟨gx, 3, none⟩) (Nat.le_refl _) _
      have HZ10 : Hid (Box ((w9.setCell ⟨gx, 2, none⟩ (.int .i64 D)).setCell ⟨gx, 3, none⟩ (.int .i64 S)) gx 23 (lenC (k1 : Int) (k2 : Int) D S)) := (HZ9.out.set_ 2 _).set_ 3 _
      clear HW9 HZ9 rf r2 r3 hl e1 e2 e3 q1 q2
      generalize (w9.setCell ⟨gx, 2, none⟩ (.int .i64 D)).setCell ⟨gx, 3, none⟩ (.int .i64 S) = w10 at *
      obtain ⟨x0, x1, x2, x3⟩ := lcells HZ10.out
      have HX10 := Lib.hid (HXn.out _ HW10.out)
      have HB10 := Lib.hid (HBn.out _ HW10.out)
      have rf : ∀ i, w10.frozen? ⟨g, i, none⟩ = false := fun i => HX10.out.free i
      have r0 : w10.cell? ⟨g, 0, none⟩ = some (.int .i64 0) := HX10.out.cell 0
      have r1 : w10.cell? ⟨g, 1, none⟩ = some (.int .i64 0) := HX10.out.cell 1
      have r2 : w10.cell? ⟨g, 2, none⟩ = some (.int .i64 0) := HX10.out.cell 2
      have r3 : w10.cell? ⟨g, 3, none⟩ = some (.int .i64 0) := HX10.out.cell 3
      have hl := HX10.out.lt
      go_wp2_with fail
      refine bodyPost_ret (v := .tuple #[.agg (lenC (k1 : Int) (k2 : Int) D S), .int .i64 0]) (by simp [results, Tryz.results15, go_sem, lenC, r0, r1, r2, r3]) rfl ?_
      refine ⟨by rw [HG.out]; exact (((HB10.out.setCell (p := ⟨g, 0, none⟩) (Nat.le_refl _) _).setCell (p := ⟨g, 1, none⟩) (Nat.le_refl _) _).setCell (p := ⟨g, 2, none⟩) (Nat.le_refl _) _).setCell (p := ⟨g, 3, none⟩) (Nat.le_refl _) _, (k1 : Int), k2, D, S, 0, rfl, .inr ⟨rfl, by omega, by omega, hk2, c, y, m, d, o, HOf.out, HOk.out, HOn.out.2.2, HOn.out.1, HOn.out.2.1, HAd.out, HOb.out, HD.out, HS.out, fun hY => ?_⟩⟩
      have h := HP1.out (by omega)
      exact h
end Go.Proofs.YteebjkcpniddiaaGreatDoor

/- Contracts of span.show, span.Text. -/
namespace Go.Proofs.YteebjkcpniddiaaGreatDoor
open Go Go.RowKit
set_option linter.unusedVariables false

/-- the j-th number -/
def vN (y m d s : Int) (j : Nat) : Int := if j = 0 then y else if j = 1 then m else if j = 2 then d else s
/-- the numbers up to the j-th that are written -/
def itN (y m d s : Int) (j : Nat) : List (Int × Nat) := (List.range j).filterMap fun i => if vN y m d s i = 0 then none else some (vN y m d s i, i)
theorem itN_succ (y m d s : Int) (j : Nat) : itN y m d s (j + 1) = itN y m d s j ++ (if vN y m d s j = 0 then [] else [(vN y m d s j, j)]) := by
  unfold itN
  rw [List.range_succ, List.filterMap_append]
  congr 1
  by_cases h : vN y m d s j = 0 <;> simp [h]
theorem itN_all (y m d s : Int) : itN y m d s 4 = itemsL y m d s := by
  rw [itN_succ, itN_succ, itN_succ, itN_succ]
  show ((([] ++ _) ++ _) ++ _) ++ _ = _
  unfold itemsL
  simp only [vN, List.nil_append, List.append_assoc]
  rfl
theorem itN_len (y m d s : Int) : ∀ j, (itN y m d s j).length ≤ j
  | 0 => Nat.le_refl _
  | j + 1 => by
    have ih := itN_len y m d s j
    rw [itN_succ, List.length_append]
    split <;> simp <;> omega
/-- the row of the texts -/
def itV (y m d s : Int) (j : Nat) : List Value := (itN y m d s j).map fun p => .string (str (itemT p))
theorem itV_len (y m d s : Int) (j : Nat) : (itV y m d s j).length = (itN y m d s j).length := List.length_map _
theorem ints_at (y m d s : Int) (j : Nat) (hj : j < 4) (W : World) : (Instr.index 148 (.agg #[.int .i64 y, .int .i64 m, .int .i64 d, .int .i64 s]) (.int .i64 (j : Int))).run Tryz.prog W = .ok (.int .i64 (vN y m d s j)) W := by
  rcases (show j = 0 ∨ j = 1 ∨ j = 2 ∨ j = 3 by omega) with rfl | rfl | rfl | rfl <;>
  simp [Instr.index, run_underlying Tryz.underlying148, asIntOf, go_sem, vN]
theorem units_at (j : Nat) (hj : j < 4) (W : World) : (Instr.index 149 (.agg #[.string ⟨#[121]⟩, .string ⟨#[109]⟩, .string ⟨#[100]⟩, .string ⟨#[109, 115]⟩]) (.int .i64 (j : Int))).run Tryz.prog W = .ok (.string (str (unitL j))) W := by
  rcases (show j = 0 ∨ j = 1 ∨ j = 2 ∨ j = 3 by omega) with rfl | rfl | rfl | rfl <;>
  simp [Instr.index, run_underlying Tryz.underlying149, asIntOf, go_sem, unitL, str]
def numOk (n : Int) : Prop := n.natAbs < 1000000000000000
theorem vN_in {y m d s : Int} (h0 : numOk y) (h1 : numOk m) (h2 : numOk d) (h3 : numOk s) (j : Nat) : numOk (vN y m d s j) := by
  unfold vN
  split
  · exact h0
  · split
    · exact h1
    · split
      · exact h2
      · exact h3
theorem joinA_len : ∀ (l : List (List UInt8)) (a : List UInt8), (∀ x ∈ a :: l, x.length ≤ 20) → (joinS [32] a l).length ≤ 21 * (l.length + 1)
  | [], a, h => by have := h a (by simp); simp [joinS]; omega
  | b :: l, a, h => by
    have h1 := h a (by simp)
    have ih := joinA_len l b (fun x hx => h x (List.mem_cons_of_mem _ hx))
    rw [joinS]
    simp only [List.length_append, List.length_cons, List.length_nil]
    omega

set_option maxHeartbeats 4000000 in
set_option maxRecDepth 100000 in
theorem show_any (y m d s : Int) (w : World) (h0 : numOk y) (h1 : numOk m) (h2 : numOk d) (h3 : numOk s) (hp : Pow w) :
    Calls Tryz.prog 59 #[.agg (lenC y m d s)] w fun e w' => e = .returned (.string (str (spanT y m d s))) ∧ Below w.heap.size w w' := by
  obtain ⟨i0, hi0, hz0, hz1, hz2⟩ := info_parts infoStr
  have HB := Lib.hid (below_alloc1 w (Obj.cells (lenC y m d s) 23))
  have HX := Lib.hid (Box.new w 23 (lenC y m d s))
  have HP := Lib.hid (hp.next HB.out)
  have HV := Lib.hid (fun j => vN_in h0 h1 h2 h3 j)
  have HN := Lib.hid (show numOk y ∧ numOk m ∧ numOk d ∧ numOk s from ⟨h0, h1, h2, h3⟩)
  clear h0 h1 h2 h3 hp
  go_enter Tryz.func59, Tryz.ntmps59
  go_upto_region 2 with fail
  generalize w.alloc (Obj.cells (lenC y m d s) 23) = W0 at *
  generalize hg : w.heap.size = g at *
  have HG := Lib.hid hg
  clear hg
  obtain ⟨x0, x1, x2, x3⟩ := lcells HX.out
  go_wp2_with fail
  clear x0 x1 x2 x3
  go_loopw [3, 4, 5, 15] (fun v _ _ i wr => ∃ j : Nat, j ≤ 4 ∧ i = .int .i64 (j : Int) ∧ Hid (wr.ownsRow W0.heap.size 9 1 v (itN y m d s j).length (itV y m d s j)) ∧ Hid (Below W0.heap.size W0 wr)) (fun _ _ _ i _ => 4 - (intOf i).toNat)
  case atStart => exact ⟨0, by omega, rfl, World.ownsRow_nil _ _ _ _, Below.refl _ _⟩
  case round =>
    obtain ⟨j, hj, rfl, hown, hbr⟩ := hrel
    by_cases hlt : j < 4
    · have t1 : decide ((j : Int) < 4) = true := decide_eq_true (by omega)
      have hix := ints_at y m d s j hlt
      have hux := units_at j hlt
      have hv := HV.out j
      have hS := itN_succ y m d s j
      obtain ⟨x, hx⟩ : ∃ x, x = vN y m d s j := ⟨_, rfl⟩
      rw [← hx] at hix hv hS
      clear hx
      by_cases hz : x = 0
      · have t2 : (x != 0) = false := by rw [bne_eq_false_iff_eq]; exact hz
        rw [if_pos hz, List.append_nil] at hS
        have HO2 : Hid (wr.ownsRow W0.heap.size 9 1 u3 (itN y m d s (j + 1)).length (itV y m d s (j + 1))) := by unfold Hid itV; rw [hS]; exact hown.out
        clear hz hS hv hown hux
        go_wp2_with fail
        go_roundw
        case rel => exact ⟨j + 1, by omega, by go_num, HO2, hbr⟩
        case measure => simp [intOf]; omega
      · have t2 : (x != 0) = true := by rw [bne_iff_ne]; exact hz
        rw [if_neg hz] at hS
        unfold numOk at hv
        go_upto_region 6 with fail
        have hown' := hown.out
        have hbl : ∀ b, (u3 : Value).ownBlock = some b → b < wr.heap.size := fun b hb => (own_lt hown' b hb).2
        have hsz := hbr.out.size
        have hln := itN_len y m d s j
        have HP2 := Lib.hid (HP.out.next hbr.out)
        have hit := itoa_size x (by omega) (by omega)
        have hul : (str (unitL j)).size ≤ 2 := by rw [str_size]; exact unit_len j
        have hst : str (Lib.itoa x) ++ str (unitL j) = str (itemT (x, j)) := by rw [str_append]; rfl
        refine flowG_begin_tail 9 8 (u3 : Value).ownBlock (tellOf [(2, det (.string (str (Lib.itoa x))))]) (by kernel_rfl) (by kernel_rfl) ?_
        simp only [List.take_succ_cons, List.take_zero, List.drop_succ_cons, List.drop_zero]
        repeat (first | (refine flowG_val (v := ?_) (by rfl) (by rfl) (fun w hb => ?_) ?_; rotate_left; (· ((go_simp) <;> ((repeat' apply And.intro) <;> with_reducible rfl))); try simp only [Act.put, List.setIfInBounds_toArray, List.set_cons_zero, List.set_cons_succ, Nat.reduceAdd]) | (refine flowG_skip (by rfl) (by rfl) ?_; try simp only [Act.put, List.setIfInBounds_toArray, List.set_cons_zero, List.set_cons_succ, Nat.reduceAdd]))
        refine flowG_told (f := ?_) (args := ?_) (t := det (.string (str (Lib.itoa x)))) [] (by kernel_rfl) (by rfl) (by rfl) ⟨_, rfl⟩ (fun _ _ _ _ _ => trivial) (fun w hb => ?_) (fun w hb hu => ?_) ?_; rotate_left 2; (· ((go_simp) <;> ((repeat' apply And.intro) <;> with_reducible rfl)))
        · exact (itoa_any x w (by omega) (by omega) (HP.out.next (hbr.out.grown hb hsz (fun k hk => (own_lt hown' k hk).1)))).mono fun e w' ⟨he, hb'⟩ => ⟨_, he, rfl, trivial, hb'⟩
        rintro v rfl
        try simp only [Act.put, List.setIfInBounds_toArray, List.set_cons_zero, List.set_cons_succ, Nat.reduceAdd]
        repeat (first | (refine flowG_val (v := ?_) (by rfl) (by rfl) (fun w hb => ?_) ?_; rotate_left; (· ((go_simp) <;> ((repeat' apply And.intro) <;> with_reducible rfl))); try simp only [Act.put, List.setIfInBounds_toArray, List.set_cons_zero, List.set_cons_succ, Nat.reduceAdd]) | (refine flowG_val (v := ?_) (by rfl) (by rfl) (fun w hb => ?_) ?_; rotate_left; (· (go_simp; (refine (if_neg ?_).trans ?_); (· omega); (· with_reducible rfl))); try simp only [Act.put, List.setIfInBounds_toArray, List.set_cons_zero, List.set_cons_succ, Nat.reduceAdd]) | (refine flowG_skip (by rfl) (by rfl) ?_; try simp only [Act.put, List.setIfInBounds_toArray, List.set_cons_zero, List.set_cons_succ, Nat.reduceAdd]))
        refine flowG_lits (n := ?_) (c := ?_) (t := ?_) (cs := ?_) hbl (by rfl) (by rfl) (fun w hb => ?_) (fun g7 hg7 => ?_); rotate_left 4; (· ((go_simp) <;> ((repeat' apply And.intro) <;> with_reducible rfl))); try simp only [Act.put, List.setIfInBounds_toArray, List.set_cons_zero, List.set_cons_succ, Nat.reduceAdd]
        refine flowG_app [7] (by kernel_rfl) rfl (by rfl) (by rfl) (.tmp 21) (.tmp 28) 86 rfl W0.heap.size 9 i0 (.string ⟨#[]⟩) 1 16 Tryz.underlying86 hi0 hz0 hz1 hz2 rfl (by decide) u3 (itN y m d s j).length (itV y m d s j) rfl rfl hown' hsz ⟨g7, 0, none⟩ 1 1 [.string (str (Lib.itoa x) ++ str (unitL j))] rfl rfl (fun w hb hu => World.news_of_block (cs := #[.string (str (Lib.itoa x) ++ str (unitL j))]) (t := 9) (fr := (0, 0)) (usef_head hu)) (by simp [Value.oneCell']) (by simp only [maxLen]; omega) (by omega) fun A8 cap => ?_
        try simp only [Act.put, List.setIfInBounds_toArray, List.set_cons_zero, List.set_cons_succ, Nat.reduceAdd]
        refine flowG_nil fun w2 hgrow hf => ?_
        have hown2 := hf.1
        have HO2 : Hid (w2.ownsRow W0.heap.size 9 1 (.slice A8 ((itN y m d s j).length + 1) cap) (itN y m d s (j + 1)).length (itV y m d s (j + 1))) := by
          unfold Hid itV
          rw [hS, List.length_append, List.map_append]
          rw [hst] at hown2
          exact hown2
        have HB2 := Lib.hid (hbr.out.grown hgrow hsz (fun k hk => (own_lt hown' k hk).1))
        clear hown2 hgrow hf hown' hown hbr hbl hst hS hux hix
        refine wpList_step fun K hK => ?_
        rw [if_pos (by rfl)]
        go_simp
        refine hK _ _ (wpList_nil ?_)
        clear hK K
        go_wp2_with fail
        go_roundw
        case rel => exact ⟨j + 1, by omega, by go_num, HO2, HB2⟩
        case measure => simp [intOf]; omega
    · have hj4 : j = 4 := by omega
      have t1 : decide ((j : Int) < 4) = false := decide_eq_false (by omega)
      have hi := itN_all y m d s
      rw [← hj4] at hi
      have hown' := hown.out
      have hbw : Hid (Below g w wr) := HB.out.trans (hbr.out.mono (by have := HX.out.lt; omega))
      have HN' := HN.out
      unfold numOk at HN'
      have hin := read_in y m d s (by omega) (by omega) (by omega) (by omega)
      have hrl := read_len y m d s
      by_cases hn : itN y m d s j = []
      · have hT : str (spanT y m d s) = ⟨#[48, 100]⟩ := by
          unfold spanT readL
          rw [← hi, if_pos hn]
          rw [show Lib.join (([(0, 2)] : List (Int × Nat)).map itemT) [32] = [48, 100] from by decide +kernel]
          rfl
        rw [hn] at hown'
        obtain ⟨A, cc, rfl, _⟩ := own_form hown'
        clear hown' hown hi hin hrl hn hj4 HN'
        go_wp2_with fail
        go_ret
        exact ⟨by rw [hT]; rfl, by rw [HG.out]; exact hbw.out⟩
      · have hR : readL y m d s = itN y m d s j := by
          unfold readL
          rw [← hi, if_neg hn]
        have hT : spanT y m d s = Lib.join ((itN y m d s j).map itemT) [32] := by unfold spanT; rw [hR]
        rw [hR] at hin hrl
        have hjl : (Lib.join ((itN y m d s j).map itemT) [32]).length ≤ 84 := by
          match hq : itN y m d s j, hn with
          | p :: r, _ =>
            rw [hq] at hin hrl
            rw [List.map_cons, join_S]
            have h := joinA_len (r.map itemT) (itemT p) (fun x hx => by
              rw [← List.map_cons] at hx
              obtain ⟨q, hq, rfl⟩ := List.mem_map.1 hx
              exact itemT_len q (hin q hq).2)
            rw [List.length_map] at h
            simp only [List.length_cons] at hrl
            omega
        have hpos : 0 < (itN y m d s j).length := List.length_pos_iff.2 hn
        obtain ⟨A, cc, rfl, _⟩ := own_form hown'
        have HJ : Hid (Calls Tryz.prog 98 #[.slice A (itN y m d s j).length cc, .string ⟨#[32]⟩] wr fun e w' => e = .returned (.string (str (spanT y m d s))) ∧ Below wr.heap.size wr w') := by
          rcases hown'.2 with ⟨_, h0⟩ | ⟨gb, cap, cur, he, hb, hg, h1, h2, h3, h4⟩
          · omega
          · injection he with e1 e2 e3
            subst e1 e3
            have hm : (((itN y m d s j).map itemT).map str).map (·.data.toList) = (itN y m d s j).map itemT := by
              rw [List.map_map]
              have : ((fun x : ByteArray => x.data.toList) ∘ str) = id := by funext l; exact str_data l
              rw [this, List.map_id]
            have hlen : (((itN y m d s j).map itemT).map str).length = (itN y m d s j).length := by simp
            have h := strings_Join gb 0 cc (((itN y m d s j).map itemT).map str) ⟨#[32]⟩ wr (fun jj x hx => ?_) (own_lt hown' gb rfl).2 (by omega) (by omega) (by rw [hm]; exact Nat.le_trans hjl (by omega))
            · rw [hm, hlen] at h
              rw [hT]
              exact h
            · rw [Nat.zero_add, hown'.cellAt jj (by
                have := (List.getElem?_eq_some_iff.1 hx).1
                omega)]
              unfold itV
              rw [List.getElem?_map, List.getElem?_map] at hx
              rw [List.getElem?_map]
              cases hz : (itN y m d s j)[jj]? with
              | none => rw [hz] at hx; cases hx
              | some y => rw [hz] at hx; injection hx with hx; subst hx; rfl
        have t2 : (((itN y m d s j).length : Int) == 0) = false := by rw [beq_eq_false_iff_ne]; omega
        clear hown' hown hi hin hrl hn hj4 HN' hjl hT hR
        go_wp2_with fail
        refine HJ.out.mono ?_
        rintro e w1 ⟨rfl, hb⟩
        have HB1 : Hid (Below g w w1) := hbw.out.trans (hb.mono (by have := HX.out.lt; have := hbr.out.size; omega))
        clear hb HJ
        go_wp2_with fail
        go_ret
        exact ⟨rfl, by rw [HG.out]; exact HB1.out⟩

set_option maxRecDepth 100000 in
theorem spText_any (y m d s : Int) (w : World) (hl : LenOk y m d s) (hp : Pow w) : Calls Tryz.prog 22 #[.agg (lenC y m d s)] w fun e w' => e = .returned (.tuple #[.string (str (spanT y m d s)), .int .i64 0]) ∧ Below w.heap.size w w' := by
  have HB := Lib.hid (below_alloc1 w (Obj.cells (lenC y m d s) 23))
  have HX := Lib.hid (Box.new w 23 (lenC y m d s))
  have HP := Lib.hid (hp.next HB.out)
  have HCk : Hid (∀ W, Calls Tryz.prog 52 #[.agg (lenC y m d s)] W fun e w' => e = .returned (.int .i64 0) ∧ Below W.heap.size W w') := fun W => (spCheck_any y m d s W).mono fun e w' ⟨E, he, hE, _, hb⟩ => ⟨by rw [he, hE.2 hl], hb⟩
  have HSh : Hid (∀ W, Pow W → Calls Tryz.prog 59 #[.agg (lenC y m d s)] W fun e w' => e = .returned (.string (str (spanT y m d s))) ∧ Below W.heap.size W w') := fun W h => by
    obtain ⟨⟨a, b⟩, ⟨c, dd⟩, ⟨e, f⟩, g, i⟩ := hl
    exact show_any y m d s W (by unfold numOk; omega) (by unfold numOk; omega) (by unfold numOk; omega) (by unfold numOk; omega) h
  clear hp hl
  generalize spanT y m d s = T at *
  go_enter Tryz.func22, Tryz.ntmps22
  go_upto_region 1 with fail
  generalize w.alloc (Obj.cells (lenC y m d s) 23) = W0 at *
  generalize hg : w.heap.size = g at *
  have HG := Lib.hid hg
  clear hg
  obtain ⟨x0, x1, x2, x3⟩ := lcells HX.out
  go_wp2_with fail
  refine Calls.mono (HCk.out _) ?_
  rintro e w1 ⟨rfl, hb1⟩
  have HX1 := Lib.hid (HX.out.below hb1)
  have HB1 : Hid (Below g w w1) := HB.out.trans (hb1.mono (by have := HX.out.lt; omega))
  have HP1 := Lib.hid (HP.out.next hb1)
  clear hb1 HX HB HP HCk x0 x1 x2 x3
  obtain ⟨x0, x1, x2, x3⟩ := lcells HX1.out
  go_wp2_with fail
  refine Calls.mono (HSh.out _ HP1.out) ?_
  rintro e w2 ⟨rfl, hb2⟩
  have HB2 : Hid (Below g w w2) := HB1.out.trans (hb2.mono (by have := HX1.out.lt; omega))
  clear hb2 HX1 HB1 HP1 HSh x0 x1 x2 x3
  go_wp2_with fail
  go_ret2
  exact ⟨rfl, by rw [HG.out]; exact HB2.out⟩
end Go.Proofs.YteebjkcpniddiaaGreatDoor

/- Contract of span.Read at the text of a duration. -/
namespace Go.Proofs.YteebjkcpniddiaaGreatDoor
open Go Go.RowKit
attribute [local go_sem] Oper.semAt_some
set_option linter.unusedVariables false

theorem stOf_size (l : List (Int × Nat)) : (stOf l).size = 4 := by
  unfold stOf
  have key : ∀ (l : List (Int × Nat)) (cs : Array Value), (l.foldl (fun cs p => cs.setIfInBounds p.2 (.int .i64 p.1)) cs).size = cs.size := by
    intro l
    induction l with
    | nil => intro cs; rfl
    | cons p l ih => intro cs; rw [List.foldl_cons, ih]; simp
  rw [key]
  rfl
theorem spanT_len (y m d s : Int) (h0 : numOk y) (h1 : numOk m) (h2 : numOk d) (h3 : numOk s) : (spanT y m d s).length ≤ 84 := by
  unfold numOk at *
  have hin := read_in y m d s (by omega) (by omega) (by omega) (by omega)
  have hl := read_len y m d s
  have hne := read_ne y m d s
  unfold spanT
  generalize readL y m d s = l at *
  match l, hne with
  | p :: r, _ =>
    rw [List.map_cons, join_S]
    have h := joinA_len (r.map itemT) (itemT p) (fun x hx => by
      rw [← List.map_cons] at hx
      obtain ⟨q, hq, rfl⟩ := List.mem_map.1 hx
      exact itemT_len q (hin q hq).2)
    rw [List.length_map] at h
    simp only [List.length_cons] at hl
    omega
theorem LenOk.nums {y m d s : Int} (h : LenOk y m d s) : numOk y ∧ numOk m ∧ numOk d ∧ numOk s := by
  obtain ⟨⟨a, b⟩, ⟨c, d⟩, ⟨e, f⟩, g, i⟩ := h
  unfold numOk
  exact ⟨by omega, by omega, by omega, by omega⟩

set_option maxHeartbeats 8000000 in
set_option maxRecDepth 100000 in
theorem read_any (y m d s : Int) (w : World) (hl : LenOk y m d s) (hp : Pow w) (h : Shp w) : Calls Tryz.prog 23 #[.string (str (spanT y m d s))] w fun e w' => e = .returned (.tuple #[.agg (lenC y m d s), .int .i64 0]) ∧ Below w.heap.size w w' := by
  obtain ⟨n0, n1, n2, n3⟩ := hl.nums
  have hTl := spanT_len y m d s n0 n1 n2 n3
  have HPc := Lib.hid (span_pieces y m d s)
  have HIn : Hid (∀ p ∈ readL y m d s, p.2 ≤ 3 ∧ p.1.natAbs < 10000000000000000) := by
    unfold numOk at n0 n1 n2 n3
    exact read_in y m d s (by omega) (by omega) (by omega) (by omega)
  have HSt := Lib.hid (st_read y m d s)
  have HSh := Lib.hid (fun W (hp : Pow W) => show_any y m d s W n0 n1 n2 n3 hp)
  have HCk : Hid (∀ W, Calls Tryz.prog 52 #[.agg (lenC y m d s)] W fun e w' => e = .returned (.int .i64 0) ∧ Below W.heap.size W w') := fun W => (spCheck_any y m d s W).mono fun e w' ⟨E, he, hE, _, hb⟩ => ⟨by rw [he, hE.2 hl], hb⟩
  have HS := Lib.hid (fun s sep W => SplitSeq_any s sep W)
  clear n0 n1 n2 n3 hl
  refine (callsIn_wide (n := 3)).1 ?_
  refine callsIn_of_wp_marks Tryz.func23 rfl trivial ?_ rfl
  simp only [Tryz.ntmps23, List.size_toArray, List.length_cons, List.length_nil, Nat.reduceAdd, Nat.reduceSub, Array.replicate_succ, Array.replicate_zero, List.push_toArray, List.append_toArray, List.nil_append, List.cons_append]
  generalize spanT y m d s = T at *
  generalize readL y m d s = L at *
  gi_wp2_with (refine ⟨trivial, ?_⟩; gi_at_call 60; refine (callsIn_wide.2 (HS.out _ _ _)).mono ?_; rintro e w' ⟨rfl, rfl⟩)
  have hB0 := Lib.hid (below_alloc2 w (Obj.cells #[.int .i64 0, .int .i64 0, .int .i64 0, .int .i64 0] 23) (Obj.cells #[.int .i64 0, .int .i64 0, .int .i64 0, .int .i64 0] 23))
  have hN0 := (Box.new w 23 #[.int .i64 0, .int .i64 0, .int .i64 0, .int .i64 0]).alloc (Obj.cells #[.int .i64 0, .int .i64 0, .int .i64 0, .int .i64 0] 23)
  have hO0 := Box.new (w.alloc (Obj.cells #[.int .i64 0, .int .i64 0, .int .i64 0, .int .i64 0] 23)) 23 #[.int .i64 0, .int .i64 0, .int .i64 0, .int .i64 0]
  have hx := seqW_boxes ((w.alloc (Obj.cells #[.int .i64 0, .int .i64 0, .int .i64 0, .int .i64 0] 23)).alloc (Obj.cells #[.int .i64 0, .int .i64 0, .int .i64 0, .int .i64 0] 23)) (str T) ⟨#[32]⟩
  rw [World.size_alloc, World.size_alloc] at hx
  simp only [World.size_alloc] at hO0
  obtain ⟨x1, x2, x3, x4, x5⟩ := hx
  have hN := Lib.hid (hN0.belowB x4 (by omega))
  have hO := Lib.hid (hO0.belowB x4 (by omega))
  have hB := Lib.hid (hB0.out.trans (x4.mono (by omega)))
  have hS := Lib.hid (h.next hB.out)
  have hPw := Lib.hid (hp.next hB.out)
  have hm := h.lt
  have hW : Hid (∀ W, Below w.heap.size w W → Pow W ∧ Shp W) := fun W hb => ⟨hp.next hb, h.next hb⟩
  clear x4 hB0 hN0 hO0 HS h hp
  generalize seqW ((w.alloc (Obj.cells #[.int .i64 0, .int .i64 0, .int .i64 0, .int .i64 0] 23)).alloc (Obj.cells #[.int .i64 0, .int .i64 0, .int .i64 0, .int .i64 0] 23)) (str T) ⟨#[32]⟩ = W0 at *
  generalize hg : w.heap.size = g at *
  have HG := Lib.hid hg
  clear hg
  generalize hb3 : g + 1 + 1 = b at *
  have hb3a : b ≤ g + 2 := by omega
  have hb3b : g + 2 ≤ b := by omega
  clear hb3
  refine wpIn_rangeFunc_C (F := Fence.wide) rfl (by omega) (gf := 151) (lb := #[.pointer (some ⟨b + 1, 0, none⟩), .pointer (some ⟨b, 0, none⟩), .pointer (some ⟨b + 2, 0, none⟩)]) rfl trivial (enters_of Tryz.func151 (by kernel_rfl) rfl)
    (enc := fun x => .string (str x)) (own := fun k => k = b) (kp := seqKeep b) (xs := L.map itemT)
    (fun W hW => splitSeq_C _ b (by omega) ⟨#[32]⟩ (by decide) (by decide) T (by omega) (L.map itemT) HPc.out W (hW.box x1 id) (hW.box x2 id) (hW.box x3 id) (hS.out.only hW id) (by omega)) (fun k hk => .inl hk)
    (fun k hk => by rcases hk with h | h | h | h <;> omega) rfl
    (fun pre W => ∃ l1 l2, L = l1 ++ l2 ∧ pre = l1.map itemT ∧ Box W g 23 (lenC 0 0 0 0) ∧ Box W (g + 1) 23 (stOf l1) ∧ Below g w W)
    (fun _ _ _ => False)
    ?hI (fun _ _ _ _ h _ => h) ⟨[], L, rfl, rfl, hN.out, hO.out, hB.out⟩
    (fun x => { tmps := #[.string (str T), undef, .pointer (some ⟨g, 0, none⟩), .int .i64 0, .pointer (some ⟨g + 1, 0, none⟩), .string (str x), undef, undef, undef, .string (str T), seqF b, .string (str x), undef, undef, undef, undef, undef, undef, undef, undef, undef, undef, undef, undef, undef, undef, undef, undef, undef, undef, undef, undef, undef, undef, undef, undef, undef, undef, undef, undef, undef, undef, undef, undef, undef, undef, undef, undef, undef, undef], defers := [] }) ?assign ?body ?done ?stop
  case hI =>
    rintro pre A B ⟨l1, l2, h1, h2, h3, h4, h5⟩ hAB
    have hAs := h4.lt
    exact ⟨l1, l2, h1, h2, hAB.box h3 (by omega), hAB.box h4 (by omega), h5.trans (below_only _ hAB (fun k hk => by omega) (by omega))⟩
  case assign =>
    intro l x W K hK
    gi_wp2
    exact hK
  case body =>
    rintro l pre x rest W hxs hlt ⟨l1, l2, h1, h2, h3, h4, h5⟩
    obtain ⟨p, l3, rfl, rfl⟩ : ∃ p l3, l2 = p :: l3 ∧ x = itemT p := by
      rw [h1, h2, List.map_append] at hxs
      have h7 := List.append_cancel_left hxs
      cases l2 with
      | nil => simp at h7
      | cons p l3 =>
        simp at h7
        exact ⟨p, l3, rfl, h7.1.symm⟩
    obtain ⟨hk, hn⟩ := HIn.out p (by rw [h1]; simp)
    obtain ⟨n, k⟩ := p
    dsimp only at hk hn
    have HTr : Hid (∀ W, Calls Tryz.prog 61 #[.string (str (itemT (n, k))), .string ⟨#[121, 109, 100, 115]⟩] W fun e w' => e = .returned (.string (str (Lib.itoa n))) ∧ Below W.heap.size W w') := fun W => by
      have h := trimRight_any (str (itemT (n, k))) ⟨#[121, 109, 100, 115]⟩ W (by rw [str_size]; have := itemT_len (n, k) hn; omega) (by decide) (by decide)
      rw [str_data] at h
      have e := item_cut (n, k)
      rw [show (⟨#[121, 109, 100, 115]⟩ : ByteArray).data.toList = [121, 109, 100, 115] from rfl, e] at h
      exact h
    have HAt := Lib.hid (fun W => atoi_num n W (by omega))
    have hkx : (Lib.itoa n).length ≤ (itemT (n, k)).length := by unfold itemT; simp
    have hlx := itemT_len (n, k) hn
    have hex : (str (itemT (n, k))).extract (Lib.itoa n).length (itemT (n, k)).length = str (unitL k) := by rw [ext_str, List.take_length, item_unit (n, k)]
    have hs1 : (str (itemT (n, k))).size = (itemT (n, k)).length := str_size _
    have hs2 : (str (Lib.itoa n)).size = (Lib.itoa n).length := str_size _
    have HCL : Hid (∀ w1, Below W.heap.size W w1 → Only (fun k' => ¬ (seqKeep b k' ∨ k' = W0.heap.size ∨ k' = W0.heap.size + 1)) W (w1.setCell ⟨g + 1, k, none⟩ (.int .i64 n)) ∧ ∃ m1 m2, L = m1 ++ m2 ∧ pre ++ [itemT (n, k)] = m1.map itemT ∧ Box (w1.setCell ⟨g + 1, k, none⟩ (.int .i64 n)) g 23 (lenC 0 0 0 0) ∧ Box (w1.setCell ⟨g + 1, k, none⟩ (.int .i64 n)) (g + 1) 23 (stOf m1) ∧ Below g w (w1.setCell ⟨g + 1, k, none⟩ (.int .i64 n))) := fun w1 hb => by
      have hl4 := h4.lt
      have HO := (only_below (p := fun k' => ¬ (seqKeep b k' ∨ k' = W0.heap.size ∨ k' = W0.heap.size + 1)) hb).trans (only_set w1 (g + 1) k (.int .i64 n) (by omega))
      refine ⟨HO, l1 ++ [(n, k)], l3, by rw [h1]; simp, by rw [h2]; simp, (h3.below hb).far (p := ⟨g + 1, k, none⟩) (show g ≠ g + 1 by omega) _, ?_, (h5.trans (hb.mono (by omega))).setCell (p := ⟨g + 1, k, none⟩) (show g ≤ g + 1 by omega) _⟩
      rw [stOf_snoc]
      exact (h4.below hb).set_ k _
    obtain ⟨v, hv⟩ : ∃ v, (stOf l1)[k]? = some v := ⟨_, Array.getElem?_eq_getElem (by rw [stOf_size]; omega)⟩
    clear hxs h1 h2 h3 h5
    generalize str (itemT (n, k)) = X at *
    generalize str (Lib.itoa n) = Q at *
    generalize (itemT (n, k)).length = lX at *
    generalize (Lib.itoa n).length = lQ at *
    rcases (show k = 0 ∨ k = 1 ∨ k = 2 ∨ k = 3 by omega) with rfl | rfl | rfl | rfl
    · have hu : str (unitL 0) = ⟨#[121]⟩ := rfl
      rw [hu] at hex
      gi_wp2_with (first
        | (refine ⟨trivial, ?_⟩; gi_at_call 61; refine (CallsIn.inRound l (callsIn_wide.2 (HTr.out W))).mono ?_; rintro e w1 ⟨rfl, hb⟩; have HB1 := Lib.hid hb; clear hb)
        | (refine ⟨trivial, ?_⟩; gi_at_call 62; refine (CallsIn.inRound l (callsIn_wide.2 (HAt.out w1))).mono ?_; rintro e w2 ⟨rfl, hb⟩; have HB2 := Lib.hid (below_then HB1.out hb); have q := h4.below HB2.out; have c0 := (q.cell 0).trans hv; have cf := q.free; have cl := q.lt; clear hb))
      exact HCL.out w2 HB2.out
    · have hu : str (unitL 1) = ⟨#[109]⟩ := rfl
      rw [hu] at hex
      gi_wp2_with (first
        | (refine ⟨trivial, ?_⟩; gi_at_call 61; refine (CallsIn.inRound l (callsIn_wide.2 (HTr.out W))).mono ?_; rintro e w1 ⟨rfl, hb⟩; have HB1 := Lib.hid hb; clear hb)
        | (refine ⟨trivial, ?_⟩; gi_at_call 62; refine (CallsIn.inRound l (callsIn_wide.2 (HAt.out w1))).mono ?_; rintro e w2 ⟨rfl, hb⟩; have HB2 := Lib.hid (below_then HB1.out hb); have q := h4.below HB2.out; have c0 := (q.cell 1).trans hv; have cf := q.free; have cl := q.lt; clear hb))
      exact HCL.out w2 HB2.out
    · have hu : str (unitL 2) = ⟨#[100]⟩ := rfl
      rw [hu] at hex
      gi_wp2_with (first
        | (refine ⟨trivial, ?_⟩; gi_at_call 61; refine (CallsIn.inRound l (callsIn_wide.2 (HTr.out W))).mono ?_; rintro e w1 ⟨rfl, hb⟩; have HB1 := Lib.hid hb; clear hb)
        | (refine ⟨trivial, ?_⟩; gi_at_call 62; refine (CallsIn.inRound l (callsIn_wide.2 (HAt.out w1))).mono ?_; rintro e w2 ⟨rfl, hb⟩; have HB2 := Lib.hid (below_then HB1.out hb); have q := h4.below HB2.out; have c0 := (q.cell 2).trans hv; have cf := q.free; have cl := q.lt; clear hb))
      exact HCL.out w2 HB2.out
    · have hu : str (unitL 3) = ⟨#[109, 115]⟩ := rfl
      rw [hu] at hex
      gi_wp2_with (first
        | (refine ⟨trivial, ?_⟩; gi_at_call 61; refine (CallsIn.inRound l (callsIn_wide.2 (HTr.out W))).mono ?_; rintro e w1 ⟨rfl, hb⟩; have HB1 := Lib.hid hb; clear hb)
        | (refine ⟨trivial, ?_⟩; gi_at_call 62; refine (CallsIn.inRound l (callsIn_wide.2 (HAt.out w1))).mono ?_; rintro e w2 ⟨rfl, hb⟩; have HB2 := Lib.hid (below_then HB1.out hb); have q := h4.below HB2.out; have c0 := (q.cell 3).trans hv; have cf := q.free; have cl := q.lt; clear hb))
      exact HCL.out w2 HB2.out
  case done =>
    rintro W hlt ⟨l1, l2, h1, h2, h3, h4, h5⟩ hK
    have hL : l1 = L := by
      have h6 := congrArg List.length h2
      rw [List.length_map, List.length_map, h1, List.length_append] at h6
      have h7 : l2 = [] := List.length_eq_zero_iff.1 (by omega)
      rw [h1, h7, List.append_nil]
    rw [hL, HSt.out] at h4
    have hPW := (hW.out W h5).1
    obtain ⟨c0, c1, c2, c3⟩ := lcells h4
    have t1 : ((str T).toList == (str T).toList) = true := beq_self_eq_true _
    have H3 := Lib.hid h3
    have H4 := Lib.hid h4
    have H5 := Lib.hid h5
    have HP := Lib.hid hPW
    clear h1 h2 h3 h4 h5 hPW hL
    gi_wp2_with (first
      | (refine ⟨trivial, ?_⟩; gi_at_call 52; refine (callsIn_wide.2 (HCk.out W)).mono ?_; rintro e w1 ⟨rfl, hb⟩; have HB1 := Lib.hid hb; obtain ⟨d0, d1, d2, d3⟩ := lcells (H4.out.below hb); clear hb c0 c1 c2 c3)
      | (refine ⟨trivial, ?_⟩; gi_at_call 59; refine (callsIn_wide.2 (HSh.out w1 (HP.out.next HB1.out))).mono ?_; rintro e w2 ⟨rfl, hb⟩; have HB2 := Lib.hid (below_then HB1.out hb); obtain ⟨c0, c1, c2, c3⟩ := lcells (H4.out.below HB2.out); have cf := (H3.out.below HB2.out).free; have cl := (H3.out.below HB2.out).lt; have r0 := (lcells (H3.out.below HB2.out)).1; have r1 := (lcells (H3.out.below HB2.out)).2.1; have r2 := (lcells (H3.out.below HB2.out)).2.2.1; have r3 := (lcells (H3.out.below HB2.out)).2.2.2; clear hb d0 d1 d2 d3))
    have hgl := H3.out.lt
    have HX3 : Hid (Box ((((w2.setCell ⟨g, 0, none⟩ (.int .i64 y)).setCell ⟨g, 1, none⟩ (.int .i64 m)).setCell ⟨g, 2, none⟩ (.int .i64 d)).setCell ⟨g, 3, none⟩ (.int .i64 s)) g 23 (lenC y m d s)) := ((((H3.out.below HB2.out).set_ 0 _).set_ 1 _).set_ 2 _).set_ 3 _
    have HB3 : Hid (Below g w ((((w2.setCell ⟨g, 0, none⟩ (.int .i64 y)).setCell ⟨g, 1, none⟩ (.int .i64 m)).setCell ⟨g, 2, none⟩ (.int .i64 d)).setCell ⟨g, 3, none⟩ (.int .i64 s))) := ((((H5.out.trans (HB2.out.mono (by omega))).setCell (p := ⟨g, 0, none⟩) (Nat.le_refl _) _).setCell (p := ⟨g, 1, none⟩) (Nat.le_refl _) _).setCell (p := ⟨g, 2, none⟩) (Nat.le_refl _) _).setCell (p := ⟨g, 3, none⟩) (Nat.le_refl _) _
    have hK3 : ((((w2.setCell ⟨g, 0, none⟩ (.int .i64 y)).setCell ⟨g, 1, none⟩ (.int .i64 m)).setCell ⟨g, 2, none⟩ (.int .i64 d)).setCell ⟨g, 3, none⟩ (.int .i64 s)).heap[b + 3]? = some (.deferred (some [])) := by
      rw [Below.heap_setCell _ _ _ _ (show b + 3 ≠ g by omega), Below.heap_setCell _ _ _ _ (show b + 3 ≠ g by omega), Below.heap_setCell _ _ _ _ (show b + 3 ≠ g by omega), Below.heap_setCell _ _ _ _ (show b + 3 ≠ g by omega)]
      rw [x5] at hK
      exact (HB2.out.block _ (by omega)).trans hK
    clear hK c0 c1 c2 c3 cf cl r0 r1 r2 r3
    generalize ((((w2.setCell ⟨g, 0, none⟩ (.int .i64 y)).setCell ⟨g, 1, none⟩ (.int .i64 m)).setCell ⟨g, 2, none⟩ (.int .i64 d)).setCell ⟨g, 3, none⟩ (.int .i64 s)) = W3 at *
    refine ⟨by simp, .inl ⟨_, _, rfl, run_takeDeferred hK3, ?_⟩⟩
    have hP : Only (fun k => k = b + 3) W3 (W3.putObj (b + 3) (Obj.deferred none)) := only_put W3 _ _ rfl
    obtain ⟨e0, e1, e2, e3⟩ := lcells (hP.box HX3.out (by omega))
    have h9 := HX3.out.lt
    have hB4 := HB3.out.trans (below_only g hP (fun k hk => by omega) (by omega))
    generalize W3.putObj (b + 3) (Obj.deferred none) = W9 at *
    exact ⟨.tuple #[.agg (lenC y m d s), .int .i64 0], by simp [results, Tryz.results23, go_sem, lenC, e0, e1, e2, e3], rfl, by rw [HG.out]; exact hB4⟩
  case stop => exact fun c pre W _ _ h _ => h.elim
end Go.Proofs.YteebjkcpniddiaaGreatDoor
