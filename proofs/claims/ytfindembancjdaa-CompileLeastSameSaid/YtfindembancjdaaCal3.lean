/- Contracts of package compile: Check, Lengths, Total. -/
import Derived.Test.YtfindembancjdaaCal2
namespace Go.Proofs.Ytfindembancjdaa
open Go.RowKit
set_option linter.unusedVariables false

/-- a calendar: its numbers, its lists and where they lie -/
structure Cal where
  nm : ByteArray
  ep : Int
  cy : Int
  mo : List Mth
  lp : List Int
  A1 : Option Addr
  c1 : Nat
  A2 : Option Addr
  c2 : Nat
abbrev Cal.cells (c : Cal) : Array Value := #[.string c.nm, .int .i64 c.ep, .int .i64 c.cy, .slice c.A1 c.mo.length c.c1, .slice c.A2 c.lp.length c.c2]
abbrev Cal.val (c : Cal) : Value := .agg c.cells
structure CalIn (w : World) (c : Cal) : Prop where
  r1 : Row w w.heap.size c.A1 (c.mo.flatMap mthF)
  r2 : Row w w.heap.size c.A2 (ints c.lp)
theorem CalIn.next {w w' : World} {c : Cal} (h : CalIn w c) (hb : Below w.heap.size w w') : CalIn w' c := ⟨h.r1.next hb, h.r2.next hb⟩
structure CalFit (c : Cal) : Prop where
  nm : c.nm.size ≤ maxLen
  ns : ∀ x ∈ c.mo, x.nm.size ≤ maxLen
  l1 : c.mo.length ≤ c.c1
  m1 : c.c1 ≤ maxLen
  l2 : c.lp.length ≤ maxLen
theorem ccells {W : World} {g : Nat} {c : Cal} (h : Box W g 82 c.cells) : W.cell? ⟨g, 0, none⟩ = some (.string c.nm) ∧ W.cell? ⟨g, 1, none⟩ = some (.int .i64 c.ep) ∧ W.cell? ⟨g, 2, none⟩ = some (.int .i64 c.cy) ∧ W.cell? ⟨g, 3, none⟩ = some (.slice c.A1 c.mo.length c.c1) ∧ W.cell? ⟨g, 4, none⟩ = some (.slice c.A2 c.lp.length c.c2) :=
  ⟨h.cell 0, h.cell 1, h.cell 2, h.cell 3, h.cell 4⟩
/-- a valid calendar -/
structure CalOk (c : Cal) : Prop where
  hd : NameOk c.nm ∧ (-4000000 ≤ c.ep ∧ c.ep ≤ 4000000) ∧ 1 ≤ c.cy ∧ c.cy ≤ 3000
  mo : MthsOk c.mo
  lp : Inc c.lp 1 c.cy

set_option maxHeartbeats 4000000 in
set_option maxRecDepth 100000 in
theorem ccheck_any (c : Cal) (w : World) (hr : CalIn w c) (hf : CalFit c) : Calls Try.prog 67 #[c.val] w (Errs (CalOk c) w) := by
  have HX := Lib.hid (Box.new w 82 c.cells)
  have HB := Lib.hid (below_alloc1 w (Obj.cells c.cells 82))
  have HR := Lib.hid (hr.next HB.out)
  have HF := Lib.hid hf
  have hl := hf.l2
  unfold maxLen at hl
  obtain ⟨Q, hQ⟩ : ∃ Q : Prop, Q = CalOk c := ⟨_, rfl⟩
  have QI : Hid (Q ↔ (NameOk c.nm ∧ (-4000000 ≤ c.ep ∧ c.ep ≤ 4000000) ∧ 1 ≤ c.cy ∧ c.cy ≤ 3000) ∧ MthsOk c.mo ∧ Inc c.lp 1 c.cy) := by
    unfold Hid
    rw [hQ]
    exact ⟨fun h => ⟨h.hd, h.mo, h.lp⟩, fun h => ⟨h.1, h.2.1, h.2.2⟩⟩
  rw [← hQ]
  clear hr hf hQ
  go_enter Try.func67, Try.ntmps67
  go_wp2_with fail
  generalize w.alloc (Obj.cells c.cells 82) = W0 at *
  obtain ⟨g, hg⟩ : ∃ g, g = w.heap.size := ⟨_, rfl⟩
  rw [← hg] at HX
  rw [← hg]
  clear hg
  refine (head_any c.nm c.ep c.cy _ HF.out.nm).mono ?_
  rintro e w1 ⟨E1, rfl, hE1, hb1⟩
  have HE1 := Lib.hid hE1
  replace HX := Lib.hid (HX.out.below hb1)
  replace HB := Lib.hid (below_then HB.out hb1)
  replace HR := Lib.hid (HR.out.next hb1)
  clear hE1 hb1
  by_cases e1 : E1 = 0
  case neg =>
    have t1 : (E1 != 0) = true := by rw [bne_iff_ne]; exact e1
    have HNQ : Hid (¬ Q) := fun h => e1 (HE1.out.2 (QI.out.1 h).1)
    clear HE1
    go_wp2_with fail
    go_ret
    exact Errs.no e1 HNQ.out HB.out
  subst e1
  have HW := Lib.hid (HE1.out.1 rfl)
  clear HE1
  obtain ⟨x0, x1, x2, x3, x4⟩ := ccells HX.out
  go_wp2_with fail
  refine (rmonths_any c.A1 c.c1 c.mo _ HR.out.r1 HF.out.l1 HF.out.m1 HF.out.ns).mono ?_
  rintro e w2 ⟨E1, rfl, hE1, hb1⟩
  have HE1 := Lib.hid hE1
  replace HX := Lib.hid (HX.out.below hb1)
  replace HB := Lib.hid (below_then HB.out hb1)
  replace HR := Lib.hid (HR.out.next hb1)
  clear hE1 hb1 x0 x1 x2 x3 x4
  by_cases e1 : E1 = 0
  case neg =>
    have t1 : (E1 != 0) = true := by rw [bne_iff_ne]; exact e1
    have HNQ : Hid (¬ Q) := fun h => e1 (HE1.out.2 (QI.out.1 h).2.1)
    clear HE1
    go_wp2_with fail
    go_ret
    exact Errs.no e1 HNQ.out HB.out
  subst e1
  have HMo := Lib.hid (HE1.out.1 rfl)
  clear HE1
  obtain ⟨x0, x1, x2, x3, x4⟩ := ccells HX.out
  have hlp := HR.out.r2
  have NQ : Hid (∀ i, i < c.lp.length → ¬ ((1 ≤ c.lp.getD i 0 ∧ c.lp.getD i 0 ≤ c.cy) ∧ (0 < i → c.lp.getD (i - 1) 0 < c.lp.getD i 0)) → ¬ Q) := fun i hi h hq => h ((QI.out.1 hq).2.2 i hi)
  have YQ : Hid (Inc c.lp 1 c.cy → Q) := fun h => QI.out.2 ⟨HW.out, HMo.out, h⟩
  have YI : Hid (Inc c.lp 1 c.cy = ∀ i, i < c.lp.length → (1 ≤ c.lp.getD i 0 ∧ c.lp.getD i 0 ≤ c.cy) ∧ (0 < i → c.lp.getD (i - 1) 0 < c.lp.getD i 0)) := rfl
  clear QI HW HMo HR HF
  go_wp2_with fail
  go_loop [5, 6, 26] (fun _ _ i => ∃ k : Nat, k ≤ c.lp.length ∧ i = .int .i64 (k : Int) ∧ Hid (∀ j, j < k → (1 ≤ c.lp.getD j 0 ∧ c.lp.getD j 0 ≤ c.cy) ∧ (0 < j → c.lp.getD (j - 1) 0 < c.lp.getD j 0))) (fun _ _ i => c.lp.length - (intOf i).toNat)
  case atStart => exact ⟨0, by omega, rfl, fun j hj => by omega⟩
  case round =>
    obtain ⟨k, hk, rfl, hall⟩ := hrel
    by_cases hlt : k < c.lp.length
    · obtain ⟨b, o, hA, _, hcs⟩ := hlp.open_ (ints_ne c.lp (by omega))
      rw [hA]
      rw [hA] at x4
      have hc := ints_cell hcs k hlt
      have hc' : 0 < k → w2.cell? ⟨b, o + (k - 1), none⟩ = some (.int .i64 (c.lp.getD (k - 1) 0)) := fun h0 => ints_cell hcs (k - 1) (by omega)
      have HNk := Lib.hid (NQ.out k hlt)
      have HXk : Hid ((1 ≤ c.lp.getD k 0 ∧ c.lp.getD k 0 ≤ c.cy) ∧ (0 < k → c.lp.getD (k - 1) 0 < c.lp.getD k 0) → ∀ j, j < k + 1 → (1 ≤ c.lp.getD j 0 ∧ c.lp.getD j 0 ≤ c.cy) ∧ (0 < j → c.lp.getD (j - 1) 0 < c.lp.getD j 0)) := fun h j hj => by
        by_cases e : j = k
        · subst e; exact h
        · exact hall.out j (by omega)
      clear hcs
      generalize c.lp.getD k 0 = y at *
      generalize c.lp.getD (k - 1) 0 = z at *
      by_cases a1 : y < 1
      · have t1 : decide (y < 1) = true := decide_eq_true a1
        clear hc'
        go_wp2_with fail
        go_ret
        exact Errs.no (by omega) (HNk.out (fun h => by omega)) HB.out
      have t1 : decide (y < 1) = false := decide_eq_false a1
      by_cases a2 : c.cy < y
      · have t2 : decide (c.cy < y) = true := decide_eq_true a2
        clear hc'
        go_wp2_with fail
        go_ret
        exact Errs.no (by omega) (HNk.out (fun h => by omega)) HB.out
      have t2 : decide (c.cy < y) = false := decide_eq_false a2
      by_cases h0 : k = 0
      · subst h0
        simp only [Nat.add_zero] at hc
        have HA := Lib.hid (HXk.out ⟨by omega, fun h => by omega⟩)
        clear hc' HNk HXk
        go_wp2_with fail
        go_round
        case rel => exact ⟨0 + 1, by omega, by go_num, HA⟩
        case measure => simp [intOf]; omega
      have hcz := hc' (by omega)
      clear hc'
      obtain ⟨j, rfl⟩ : ∃ j, k = j + 1 := ⟨k - 1, by omega⟩
      simp only [Nat.add_sub_cancel] at hcz
      have t3 : decide ((0 : Int) < ((j + 1 : Nat) : Int)) = true := decide_eq_true (by omega)
      have e3 : IntKind.i64.wrap (((j + 1 : Nat) : Int) - 1) = (j : Int) := by rw [show ((j + 1 : Nat) : Int) - 1 = (j : Int) from by omega]; exact intFits _ (by omega) (by omega)
      have e4 : (j : Int).toNat = j := by omega
      have e5 : (0 : Int) ≤ (j : Int) := by omega
      have e6 : (j : Int) < (c.lp.length : Int) := by omega
      by_cases a3 : y ≤ z
      · have t4 : decide (y ≤ z) = true := decide_eq_true a3
        have HF := Lib.hid (HNk.out (fun h => by have := h.2 (by omega); omega))
        clear HNk HXk
        go_wp2_with fail
        go_ret
        exact Errs.no (by omega) HF.out HB.out
      · have t4 : decide (y ≤ z) = false := decide_eq_false a3
        have HA := Lib.hid (HXk.out ⟨by omega, fun h => by omega⟩)
        clear HNk HXk
        go_wp2_with fail
        go_round
        case rel => exact ⟨j + 1 + 1, by omega, by go_num, HA⟩
        case measure => simp [intOf]; omega
    · have HY := Lib.hid (YQ.out (YI.out ▸ (fun i hi => hall.out i (by omega))))
      clear hall NQ YQ YI
      go_wp2_with fail
      go_ret
      exact Errs.ok HY.out HB.out

set_option maxHeartbeats 1000000 in
set_option maxRecDepth 100000 in
theorem clengths_any (c : Cal) (w : World) (hr : CalIn w c) (ok : MthsOk c.mo) : Calls Try.prog 75 #[c.val] w fun e w' => e = .returned (.tuple #[.int .i64 (sumS c.mo), .int .i64 (sumL c.mo)]) ∧ Below w.heap.size w w' := by
  have HB := Lib.hid (below_alloc1 w (Obj.cells c.cells 82))
  have hr1 := hr.r1
  have hn1 := ok.n1
  have hn2 := ok.n2
  have HOK := Lib.hid ok
  obtain ⟨b, o, hA, hbl, hcs0⟩ := hr1.open_ (flat_ne mthF_len (by omega) c.mo (by omega))
  have HCS := Lib.hid hcs0
  have HA := Lib.hid hA
  clear hr hr1 ok hcs0 hA
  have htl : Hid (c.mo.take c.mo.length = c.mo) := List.take_length
  go_enter Try.func75, Try.ntmps75
  go_wp2_with fail
  generalize w.alloc (Obj.cells c.cells 82) = W0 at *
  go_loopw [4, 5, 11] (fun s g i wr => ∃ k : Nat, k ≤ c.mo.length ∧ i = .int .i64 (k : Int) ∧ s = .int .i64 (sumS (c.mo.take k)) ∧ g = .int .i64 (sumL (c.mo.take k)) ∧ Below w.heap.size w wr) (fun _ _ i _ => c.mo.length - (intOf i).toNat)
  case atStart => exact ⟨0, by omega, rfl, rfl, rfl, HB.out⟩
  case round =>
    obtain ⟨k, hk, rfl, rfl, rfl, hbr⟩ := hrel
    obtain ⟨⟨s1, s2⟩, s3, s4⟩ := sums_in c.mo k hk (fun j hj => HOK.out.each j (by omega))
    by_cases hlt : k < c.mo.length
    · have hcs : ∀ j v, (c.mo.flatMap mthF)[j]? = some v → wr.cell? ⟨b, o + j, none⟩ = some v := fun j v hv => (hbr.cell (p := ⟨b, o + j, none⟩) hbl).trans (HCS.out j v hv)
      have hc0 := flat_cell mthF_len mth0 hcs k 0 hlt (by omega) _ rfl
      have hc1 := flat_cell mthF_len mth0 hcs k 1 hlt (by omega) _ rfl
      have hc2 := flat_cell mthF_len mth0 hcs k 2 hlt (by omega) _ rfl
      rw [Nat.add_zero] at hc0
      have HSS := Lib.hid (sumS_take c.mo k hlt)
      have HSL := Lib.hid (sumL_take c.mo k hlt)
      obtain ⟨b1, b2⟩ := (HOK.out.each k hlt).sh
      obtain ⟨b3, b4⟩ := (HOK.out.each k hlt).lo
      clear hcs
      generalize c.mo.getD k mth0 = y at *
      have hB1 := below_then hbr (below_alloc1 wr (Obj.cells y.cells 80))
      have hbx := Box.new wr 80 y.cells
      have y1 : (wr.alloc (Obj.cells y.cells 80)).cell? ⟨wr.heap.size, 1, none⟩ = some (.int .i64 y.sh) := hbx.cell 1
      have y2 : (wr.alloc (Obj.cells y.cells 80)).cell? ⟨wr.heap.size, 2, none⟩ = some (.int .i64 y.lo) := hbx.cell 2
      have e1 : IntKind.i64.wrap (sumS (c.mo.take k) + y.sh) = sumS (c.mo.take k) + y.sh := intFits _ (by omega) (by omega)
      have e2 : IntKind.i64.wrap (sumL (c.mo.take k) + y.lo) = sumL (c.mo.take k) + y.lo := intFits _ (by omega) (by omega)
      rw [HA.out]
      clear hbx
      go_wp2_with fail
      generalize wr.alloc (Obj.cells y.cells 80) = W1 at *
      generalize wr.heap.size = gm at *
      clear hc0 hc1 hc2 hbr
      go_quiet (fail)
      go_wp2_with fail
      go_roundw
      case rel => exact ⟨k + 1, by omega, by go_num, by rw [HSS.out], by rw [HSL.out], below_drew hB1 _⟩
      case measure => simp [intOf]; omega
    · obtain rfl : k = c.mo.length := by omega
      rw [htl.out]
      clear htl s1 s2 s3 s4
      go_wp2_with fail
      go_ret2
      exact ⟨rfl, hbr⟩

/-- the days of a cycle -/
def Cal.tot (c : Cal) : Int := (c.cy - c.lp.length) * sumS c.mo + c.lp.length * sumL c.mo
theorem prod_in (a b A B : Int) (h1 : 0 ≤ a) (h2 : a ≤ A) (h3 : 0 ≤ b) (h4 : b ≤ B) : 0 ≤ a * b ∧ a * b ≤ A * B :=
  ⟨Int.mul_nonneg h1 h3, Int.mul_le_mul h2 h4 h3 (by omega)⟩

set_option maxHeartbeats 1000000 in
set_option maxRecDepth 100000 in
theorem ctotal_yes (c : Cal) (w : World) (hr : CalIn w c) (hf : CalFit c) (ok : CalOk c) : Calls Try.prog 35 #[c.val] w fun e w' => e = .returned (.tuple #[.int .i64 c.tot, .int .i64 0]) ∧ Below w.heap.size w w' := by
  have HX := Lib.hid (Box.new w 82 c.cells)
  have HB := Lib.hid (below_alloc1 w (Obj.cells c.cells 82))
  have HR := Lib.hid (hr.next HB.out)
  have HF := Lib.hid hf
  have HO := Lib.hid ok
  obtain ⟨_, _, y1, y2⟩ := ok.hd
  have hln := ok.lp.len (by omega)
  obtain ⟨⟨s1, s2⟩, s3, s4⟩ := sums_in c.mo c.mo.length (Nat.le_refl _) (fun j hj => ok.mo.each j hj)
  rw [List.take_length] at s1 s2 s3 s4
  have n2 := ok.mo.n2
  have p1 := prod_in (c.cy - c.lp.length) (sumS c.mo) 3000 8000 (by omega) (by omega) s1 (by omega)
  have p2 := prod_in (c.lp.length : Int) (sumL c.mo) 3000 8000 (by omega) (by omega) s3 (by omega)
  obtain ⟨T, hT⟩ : ∃ T, T = c.tot := ⟨_, rfl⟩
  rw [← hT]
  unfold Cal.tot at hT
  clear hr hf ok
  go_enter Try.func35, Try.ntmps35
  go_wp2_with fail
  generalize w.alloc (Obj.cells c.cells 82) = W0 at *
  obtain ⟨g, hg⟩ : ∃ g, g = w.heap.size := ⟨_, rfl⟩
  rw [← hg] at HX
  rw [← hg]
  clear hg
  refine (ccheck_any c _ HR.out HF.out).mono ?_
  rintro e w1 ⟨E1, rfl, hE1, hb1⟩
  obtain rfl : E1 = 0 := hE1.2 HO.out
  replace HX := Lib.hid (HX.out.below hb1)
  replace HB := Lib.hid (below_then HB.out hb1)
  replace HR := Lib.hid (HR.out.next hb1)
  clear hE1 hb1
  obtain ⟨x0, x1, x2, x3, x4⟩ := ccells HX.out
  go_wp2_with fail
  refine (clengths_any c _ HR.out HO.out.mo).mono ?_
  rintro e w2 ⟨rfl, hb1⟩
  replace HX := Lib.hid (HX.out.below hb1)
  replace HB := Lib.hid (below_then HB.out hb1)
  clear hb1 x0 x1 x2 x3 x4
  obtain ⟨x0, x1, x2, x3, x4⟩ := ccells HX.out
  have e1 : IntKind.i64.wrap (c.cy - (c.lp.length : Int)) = c.cy - (c.lp.length : Int) := intFits _ (by omega) (by omega)
  have e2 : IntKind.i64.wrap ((c.cy - (c.lp.length : Int)) * sumS c.mo) = (c.cy - (c.lp.length : Int)) * sumS c.mo := intFits _ (by omega) (by omega)
  have e3 : IntKind.i64.wrap ((c.lp.length : Int) * sumL c.mo) = (c.lp.length : Int) * sumL c.mo := intFits _ (by omega) (by omega)
  have e4 : IntKind.i64.wrap ((c.cy - (c.lp.length : Int)) * sumS c.mo + (c.lp.length : Int) * sumL c.mo) = (c.cy - (c.lp.length : Int)) * sumS c.mo + (c.lp.length : Int) * sumL c.mo := intFits _ (by omega) (by omega)
  have HTT := Lib.hid hT
  clear hT
  clear p1 p2
  go_wp2_with fail
  all_goals go_ret2
  all_goals exact ⟨by rw [HTT.out]; rfl, HB.out⟩
end Go.Proofs.Ytfindembancjdaa
