/- WArithSteps -/
import Derived.Test.YtbmbphikjainiaaGreatDoorGCat1
import Derived.Test.YtbmbphikjainiaaGreatDoorGAr1
import Derived.Test.YtbmbphikjainiaaGreatDoorGBack1
/- The walk of ArithSteps: it returns true at every input; it writes nothing that was there. -/
namespace Go.Proofs.YtbmbphikjainiaaGreatDoor.arithSteps
open Go Go.RowKit
set_option linter.unusedVariables false

theorem IsOn.at_ {c : Cal} {y y' : Int} {m m' : Nat} {d d' a b : Int} (h : IsOn c y m d a) (hy : y' = y) (hm : m' = m) (hd : d' = d) (h' : IsOn c y' m' d' b) : b = a := by
  subst hy; subst hm; subst hd
  rw [h'.on, h.on]
/-- what holds after so many steps of one month -/
def StepI (c : Cal) (y : Int) (m : Nat) (d : Int) (i : Nat) (a : Int) : Prop := ∃ yi mi, Moves c i y m yi mi ∧ IsOn c yi mi d a

set_option maxRecDepth 100000 in
set_option maxHeartbeats 8000000 in
theorem core (k day0 yrs0 mon0 : Int) (w : World) (hk1 : -9223372036854775808 ≤ k) (hk2 : k ≤ 9223372036854775807) (hv : Env w) :
    Calls Tryz.prog 8 #[.int .i64 k, .int .i64 day0, .int .i64 yrs0, .int .i64 mon0] w fun e w' => e = .returned (.bool true) ∧ Below w.heap.size w w' := by
  have HK := Lib.hid (fun W (h : Env W) => known_any W h)
  have HN := Lib.hid (fun W (h : Env W) => name_any k W hk1 hk2 h.h)
  have HC := Lib.hid (fun W (h : Env W) => Calendar_any (rowK k) (rowK_in k) W h)
  have HCut1 := Lib.hid (fun W => cut_any day0 1 700000 W (by omega) (by omega) (by omega) (by omega))
  have HCut2 := Lib.hid (fun W => cut_any yrs0 0 50 W (by omega) (by omega) (by omega) (by omega))
  have HCut3 := Lib.hid (fun W => cut_any mon0 0 20 W (by omega) (by omega) (by omega) (by omega))
  have b1 := Int.emod_nonneg day0 (show (700000 : Int) ≠ 0 by omega)
  have b2 := Int.emod_lt_of_pos day0 (show (0 : Int) < 700000 by omega)
  have b3 := Int.emod_nonneg yrs0 (show (50 : Int) ≠ 0 by omega)
  have b4 := Int.emod_lt_of_pos yrs0 (show (0 : Int) < 50 by omega)
  have b5 := Int.emod_nonneg mon0 (show (20 : Int) ≠ 0 by omega)
  have b6 := Int.emod_lt_of_pos mon0 (show (0 : Int) < 20 by omega)
  obtain ⟨day, hday⟩ : ∃ day, day = 1 + day0 % 700000 := ⟨_, rfl⟩
  obtain ⟨yrs, hyrs⟩ : ∃ yrs, yrs = 0 + yrs0 % 50 := ⟨_, rfl⟩
  obtain ⟨n, hmon⟩ : ∃ n : Nat, (n : Int) = 0 + mon0 % 20 := ⟨(mon0 % 20).toNat, by omega⟩
  rw [← hday] at HCut1
  rw [← hyrs] at HCut2
  rw [← hmon] at HCut3
  have hd1 : 1 ≤ day := by omega
  have hd2 : day ≤ 700000 := by omega
  have hy1 : 0 ≤ yrs := by omega
  have hy2 : yrs < 50 := by omega
  have hn1 : n < 20 := by omega
  have HV := Lib.hid hv
  have HRK := Lib.hid (rowK_in k)
  clear b1 b2 b3 b4 b5 b6 hday hyrs hmon hk1 hk2 hv
  unfold CalQ at HC
  generalize rowK k = r at *
  generalize str r.nm = nm at *
  go_enter Tryz.func8, Tryz.ntmps8
  go_wp2_with fail
  refine (HK.out _ HV.out).mono ?_
  rintro e w1 ⟨rfl, hb1⟩
  have HB1 := Lib.hid hb1
  have HV1 := Lib.hid (HV.out.next hb1)
  clear hb1 HV HK
  go_wp2_with fail
  refine (HN.out _ HV1.out).mono ?_
  rintro e w2 ⟨rfl, hb2⟩
  have HB2 := Lib.hid (below_then HB1.out hb2)
  have HV2 := Lib.hid (HV1.out.next hb2)
  clear hb2 HV1 HN HB1
  go_wp2_with fail
  refine (HC.out _ HV2.out).mono ?_
  rintro e w3 ⟨c, rfl, hof, hcv, _, _, hb3⟩
  have HB3 := Lib.hid (below_then HB2.out hb3)
  have HCv := Lib.hid hcv
  have HFar := Lib.hid (far_row HRK.out hcv.ok hof)
  clear hb3 HV2 HC HB2 hof hcv HRK
  go_wp2_with (go_at_call 25; (first | (refine (HCut1.out _).mono ?_; rintro e w' ⟨rfl, rfl⟩; clear HCut1) | (refine (HCut2.out _).mono ?_; rintro e w' ⟨rfl, rfl⟩; clear HCut2) | (refine (HCut3.out _).mono ?_; rintro e w' ⟨rfl, rfl⟩; clear HCut3)))
  have HB4 := Lib.hid (HB3.out.alloc HB3.out.size (Obj.cells c.cells 35))
  have HC4 := Lib.hid (HCv.out.next (below_alloc1 w3 (Obj.cells c.cells 35)))
  have HX4 := Lib.hid (Box.new w3 35 c.cells)
  clear HB3 HCv
  generalize w3.alloc (Obj.cells c.cells 35) = w4 at *
  generalize w3.heap.size = gc at *
  have OK := Lib.hid HC4.out.ok
  refine (FromDay_any c day w4 HC4.out).mono ?_
  rintro e w5 ⟨hb5, hc⟩
  have HB5 := Lib.hid (below_then HB4.out hb5)
  have HC5 := Lib.hid (HC4.out.next hb5)
  have HX5 := Lib.hid (HX4.out.below hb5)
  clear hb5 HB4 HC4 HX4
  rcases hc with ⟨y, m, d, h1, h2, h3, rfl⟩ | ⟨h1, rfl⟩
  case inr =>
    clear h1
    go_wp2_with fail
    have HB6 := Lib.hid (HB5.out.alloc HB5.out.size (Obj.cells (dateC 0 0 0) 41))
    go_ret
    exact ⟨rfl, HB6.out⟩
  have HO := Lib.hid h3
  have hm1 := h3.m1
  have hn2 := OK.out.mo.n2
  have hdd := h3.d0
  have hdL := h3.d1
  have hml := Cal.mlen_in OK.out y m hm1
  have hyb : y ≤ 9000 := by
    have a := (h3.year OK.out).1
    by_cases h : y ≤ 9000
    · exact h
    · have b := Cal.ny_le OK.out (show (9001 : Int) ≤ y by omega)
      have := HFar.out.1
      omega
  have hdb : d ≤ 400 := by omega
  have hnyb := Cal.ny_in OK.out y (by omega) (by omega)
  -- so many steps on: where that is
  have HGo : Hid (∀ i : Nat, i ≤ 20 → (∀ yi mi, Moves c i y m yi mi → d < c.mlen yi mi) → ∃ a, StepI c y m d i a ∧ -4000000 ≤ a ∧ a ≤ 4000000 ∧ ∀ b, StepI c y m d i b → b = a) := fun i hi hlong => by
    have ex : ∀ j : Nat, ∃ yi mi, Moves c j y m yi mi := fun j => by
      induction j with
      | zero => exact ⟨y, m, rfl, rfl⟩
      | succ j ih =>
        obtain ⟨yi, mi, h⟩ := ih
        obtain ⟨a, b, h'⟩ := NextM.ex OK.out yi mi
        exact ⟨a, b, yi, mi, h, h'⟩
    obtain ⟨yi, mi, hm⟩ := ex i
    have hyr := hm.year
    have hsome := hm.some_ hm1 (by omega)
    have hon : IsOn c yi mi d (c.ny yi + c.pre yi mi + d) := ⟨hsome.1, hdd, hlong yi mi hm, rfl⟩
    refine ⟨_, ⟨yi, mi, hm, hon⟩, ?_, ?_, ?_⟩
    · have q1 := (hon.year OK.out).1
      have q2 := Cal.ny_le OK.out hyr.1
      have q3 := (HO.out.year OK.out).2
      have q4 := Cal.ny_step OK.out y
      have q5 := Cal.ylen_in OK.out y
      omega
    · have q1 := (hon.year OK.out).2
      have q2 := Cal.ny_far OK.out y (yi + 1 - y).toNat
      rw [show y + ((yi + 1 - y).toNat : Int) = yi + 1 from by omega] at q2
      have q3 := (HO.out.year OK.out).1
      omega
    · rintro b ⟨yb, mb, hmb, hob⟩
      obtain ⟨rfl, rfl⟩ := hmb.unique hm
      rw [hob.on]
  clear h3 HFar hdL hml hnyb
  go_upto_region 8 with fail
  have HB6 := Lib.hid (HB5.out.alloc HB5.out.size (Obj.cells (dateC y ((m : Int) + 1) (d + 1)) 41))
  have HC6 := Lib.hid (HC5.out.next (below_alloc1 w5 (Obj.cells (dateC y ((m : Int) + 1) (d + 1)) 41)))
  have HX6 := Lib.hid (HX5.out.alloc (Obj.cells (dateC y ((m : Int) + 1) (d + 1)) 41))
  have HD6 := Lib.hid (Box.new w5 41 (dateC y ((m : Int) + 1) (d + 1)))
  clear HB5 HC5 HX5
  generalize w5.alloc (Obj.cells (dateC y ((m : Int) + 1) (d + 1)) 41) = w6 at *
  generalize w5.heap.size = gd at *
  obtain ⟨x0, x1, x2, x3, x4⟩ := ccells HX6.out
  have HLa := Lib.hid (Later_any c day y m d yrs 0 w6 HC6.out HO.out h1 (by omega) hy1 (by omega) (by omega) (by omega) (by omega))
  unfold LaterQ at HLa
  go_wp2_with fail
  refine HLa.out.mono ?_
  rintro e w7 ⟨hb7, ya, ma, yb, mb, v, hst, hmv, hov, rfl⟩
  have HB7 := Lib.hid (below_then HB6.out hb7)
  have HC7 := Lib.hid (HC6.out.next hb7)
  have HX7 := Lib.hid (HX6.out.below hb7)
  have HD7 := Lib.hid (HD6.out.below hb7)
  clear hb7 x0 x1 x2 x3 x4 HB6 HC6 HX6 HD6 HLa
  -- the wanted date, if it exists, is this one
  have HW : Hid (∀ u, IsOn c (y + yrs) m d u → u = v) := fun u hu => by
    have q : 0 < c.mlen (y + yrs) m := by have := hu.d0; have := hu.d1; omega
    obtain ⟨e1, e2⟩ := hmv
    rcases hst with ⟨_, e3, e4⟩ | ⟨hz, _⟩
    · have e5 : yb = y + yrs := by rw [e1, e3]
      have e6 : mb = m := by rw [e2, e4]
      rw [e5, e6] at hov
      have : min (d + 1) (c.mlen (y + yrs) m) - 1 = d := by have := hu.d1; omega
      rw [this] at hov
      rw [hu.on, hov.on]
    · omega
  clear hst hmv hov
  by_cases hvi : -4000000 ≤ v ∧ v ≤ 4000000
  case neg =>
    rw [show dayR v = .tuple #[.int .i64 0, .int .i64 3] from if_neg hvi]
    clear hvi
    go_wp2_with fail
    go_ret
    exact ⟨rfl, HB7.out⟩
  rw [show dayR v = .tuple #[.int .i64 v, .int .i64 0] from if_pos hvi]
  have HVI := Lib.hid hvi
  clear hvi
  obtain ⟨x0, x1, x2, x3, x4⟩ := ccells HX7.out
  have y0 : w7.cell? ⟨gd, 0, none⟩ = some (.int .i64 y) := HD7.out.cell 0
  have y1 : w7.cell? ⟨gd, 1, none⟩ = some (.int .i64 ((m : Int) + 1)) := HD7.out.cell 1
  have y2 : w7.cell? ⟨gd, 2, none⟩ = some (.int .i64 (d + 1)) := HD7.out.cell 2
  go_wp2_with fail
  refine (ToDay_any c (y + yrs) ((m : Int) + 1) (d + 1) w7 HC7.out).mono ?_
  rintro e w8 ⟨hb8, hc⟩
  have HB8 := Lib.hid (below_then HB7.out hb8)
  have HC8 := Lib.hid (HC7.out.next hb8)
  have HX8 := Lib.hid (HX7.out.below hb8)
  have HD8 := Lib.hid (HD7.out.below hb8)
  obtain ⟨v', E, rfl, hE⟩ : ∃ v' E, e = .returned (.tuple #[.int .i64 v', .int .i64 E]) ∧ (E = 0 → v' = v) := by
    rcases hc with ⟨m0, u, hm0, _, _, ho, rfl⟩ | ⟨_, rfl | rfl⟩
    · obtain rfl : m = m0 := by omega
      rw [show d + 1 - 1 = d from by omega] at ho
      have := HW.out u ho
      subst this
      rw [show dayR u = .tuple #[.int .i64 u, .int .i64 0] from if_pos HVI.out]
      exact ⟨u, 0, rfl, fun _ => rfl⟩
    · exact ⟨0, 3, rfl, fun h => absurd h (by decide)⟩
    · exact ⟨0, 1, rfl, fun h => absurd h (by decide)⟩
  clear hc hb8 x0 x1 x2 x3 x4 y0 y1 y2 HB7 HC7 HX7 HD7 HW HVI
  obtain ⟨b, o, hA, hbl, hcs⟩ := HC8.out.r.r1.open_ (flat_ne mthF_len (by omega) c.mo (by omega))
  have HCS := Lib.hid hcs
  clear hcs
  have x3 : w8.cell? ⟨gc, 3, none⟩ = some (.slice (some ⟨b, o, none⟩) c.mo.length c.c1) := by rw [← hA]; exact (ccells HX8.out).2.2.2.1
  have HA := Lib.hid hA
  clear hA
  by_cases hE0 : E = 0
  · have e1 := hE hE0
    subst e1
    subst hE0
    go_wp2_with fail
    clear x3
    go_loopw [17, 77] (fun _ i wr => ∃ j : Nat, j ≤ c.mo.length ∧ i = .int .i64 (j : Int) ∧ Hid (∀ t, t < j → ¬ (min (c.mo.getD t mth0).sh (c.mo.getD t mth0).lo < d + 1 ∧ 0 < max (c.mo.getD t mth0).sh (c.mo.getD t mth0).lo)) ∧ Hid (Below w8.heap.size w8 wr)) (fun _ i _ => c.mo.length - (intOf i).toNat)
    case atStart => exact ⟨0, by omega, rfl, fun t h => absurd h (Nat.not_lt_zero t), Below.refl _ _⟩
    case round =>
      obtain ⟨j, hj, rfl, hshort, hbr⟩ := hrel
      have HDr := Lib.hid (HD8.out.below hbr.out)
      have y2 : wr.cell? ⟨gd, 2, none⟩ = some (.int .i64 (d + 1)) := HDr.out.cell 2
      have gl := HDr.out.lt
      by_cases hlt : j < c.mo.length
      · have t1 : decide ((j : Int) < (c.mo.length : Int)) = true := decide_eq_true (by omega)
        have hcs0 : ∀ q v, (c.mo.flatMap mthF)[q]? = some v → wr.cell? ⟨b, o + q, none⟩ = some v := fun q v hq => (hbr.out.cell (p := ⟨b, o + q, none⟩) hbl).trans (HCS.out q v hq)
        have hc0 := flat_cell mthF_len mth0 hcs0 j 0 hlt (by omega) _ rfl
        have hc1 := flat_cell mthF_len mth0 hcs0 j 1 hlt (by omega) _ rfl
        have hc2 := flat_cell mthF_len mth0 hcs0 j 2 hlt (by omega) _ rfl
        rw [Nat.add_zero] at hc0
        clear hcs0
        obtain ⟨z, hz⟩ : ∃ z, z = c.mo.getD j mth0 := ⟨_, rfl⟩
        rw [← hz] at hc0 hc1 hc2
        have HZ := Lib.hid hz
        clear hz
        have HZb := Lib.hid (Box.new wr 62 #[.string z.nm, .int .i64 z.sh, .int .i64 z.lo])
        have HBz := Lib.hid (below_then hbr.out (below_alloc1 wr (Obj.cells #[.string z.nm, .int .i64 z.sh, .int .i64 z.lo] 62)))
        have HBt := Lib.hid (below_then HB8.out HBz.out)
        by_cases hbad : min z.sh z.lo < d + 1 ∧ 0 < max z.sh z.lo
        · have t2 : decide (min z.sh z.lo < d + 1) = true := decide_eq_true hbad.1
          have t3 : decide (0 < max z.sh z.lo) = true := decide_eq_true hbad.2
          clear hbad
          go_wp2_with fail
          go_ret
          exact ⟨rfl, HBt.out⟩
        · have HS2 : Hid (∀ t, t < j + 1 → ¬ (min (c.mo.getD t mth0).sh (c.mo.getD t mth0).lo < d + 1 ∧ 0 < max (c.mo.getD t mth0).sh (c.mo.getD t mth0).lo)) := fun t ht => by
            by_cases h : t < j
            · exact hshort.out t h
            · obtain rfl : t = j := by omega
              rw [← HZ.out]
              exact hbad
          by_cases g1 : min z.sh z.lo < d + 1
          · have t2 : decide (min z.sh z.lo < d + 1) = true := decide_eq_true g1
            have t3 : decide (0 < max z.sh z.lo) = false := decide_eq_false fun h => hbad ⟨g1, h⟩
            clear g1 hbad
            go_wp2_with fail
            go_roundw
            case rel => exact ⟨j + 1, by omega, by go_num, HS2, HBz⟩
            case measure => simp [intOf]; omega
          · have t2 : decide (min z.sh z.lo < d + 1) = false := decide_eq_false g1
            clear g1 hbad
            go_wp2_with fail
            go_roundw
            case rel => exact ⟨j + 1, by omega, by go_num, HS2, HBz⟩
            case measure => simp [intOf]; omega
      · obtain rfl : j = c.mo.length := by omega
        have t1 : decide ((c.mo.length : Int) < (c.mo.length : Int)) = false := decide_eq_false (by omega)
        have HLong : Hid (∀ i yi mi, Moves c i y m yi mi → d < c.mlen yi mi) := fun i yi mi hm => by
          obtain ⟨q1, q2⟩ := hm.some_ hm1 (by have := HO.out.d1; omega)
          have q3 := hshort.out mi q1
          unfold Cal.mlen at q2 ⊢
          split at q2 <;> (rename_i hl; first | rw [if_pos hl] | rw [if_neg hl]) <;> omega
        have HBr := Lib.hid (below_then HB8.out hbr.out)
        have HCr := Lib.hid (HC8.out.next hbr.out)
        have HXr := Lib.hid (HX8.out.below hbr.out)
        have HStart : Hid (StepI c y m d 0 day) := ⟨y, m, ⟨rfl, rfl⟩, HO.out⟩
        clear hshort hbr HDr y2 gl
        obtain ⟨w0r, hw0⟩ : ∃ w0r, w0r = wr := ⟨_, rfl⟩
        subst hw0
        go_wp2_with fail
        go_loopw [18, 100] (fun a i wq => ∃ (q : Nat) (at_ : Int), q ≤ n ∧ i = .int .i64 (q : Int) ∧ a = .int .i64 at_ ∧ Hid (StepI c y m d q at_) ∧ -4000000 ≤ at_ ∧ at_ ≤ 4000000 ∧ Hid (Below w0r.heap.size w0r wq)) (fun _ i _ => n - (intOf i).toNat)
        case atStart => exact ⟨0, day, by omega, rfl, rfl, HStart, by omega, by omega, Below.refl _ _⟩
        case round =>
          obtain ⟨q, at_, hq, rfl, rfl, hst, ha1, ha2, hbq⟩ := hrel
          have HXq := Lib.hid (HXr.out.below hbq.out)
          have HCq := Lib.hid (HCr.out.next hbq.out)
          have HBq := Lib.hid (below_then HBr.out hbq.out)
          have x3 : wr.cell? ⟨gc, 3, none⟩ = some (.slice c.A1 c.mo.length c.c1) := (ccells HXq.out).2.2.2.1
          obtain ⟨x0, x1, _, _, x4⟩ := ccells HXq.out
          have x2 : wr.cell? ⟨gc, 2, none⟩ = some (.int .i64 c.cy) := HXq.out.cell 2
          by_cases hqn : q < n
          · have t2 : decide ((q : Int) < (n : Int)) = true := decide_eq_true (by omega)
            obtain ⟨yi, mi, hmv, hon⟩ := hst.out
            have hyr := hmv.year
            have HLa := Lib.hid (Later_any c at_ yi mi d 0 1 wr HCq.out hon (by omega) (by omega) (by omega) (by omega) (by omega) ha1 ha2)
            unfold LaterQ at HLa
            have HMv := Lib.hid hmv
            clear hmv hon hyr hst
            go_wp2_with fail
            refine HLa.out.mono ?_
            rintro e w9 ⟨hb9, ya, ma, yb, mb, u, hs2, hm2, ho2, rfl⟩
            have hstep : StepI c y m d (q + 1) u := by
              obtain ⟨yc, mc, ⟨e1, e2⟩, hnx⟩ := hm2
              have hl := HLong.out q yi mi HMv.out
              simp only [Int.add_zero] at hs2
              rcases hs2 with ⟨_, e3, e4⟩ | ⟨hz, _⟩
              · have e5 : yc = yi := by rw [e1, e3]
                have e6 : mc = mi := by rw [e2, e4]
                rw [e5, e6] at hnx
                have hmq : Moves c (q + 1) y m yb mb := ⟨yi, mi, HMv.out, hnx⟩
                have hl2 := HLong.out (q + 1) yb mb hmq
                have : min (d + 1) (c.mlen yb mb) - 1 = d := by omega
                rw [this] at ho2
                exact ⟨yb, mb, hmq, ho2⟩
              · omega
            obtain ⟨a, _, hau, hav, huq⟩ := HGo.out (q + 1) (by omega) (fun yi mi h => HLong.out _ yi mi h)
            have hua := huq u hstep
            have hu1 : -4000000 ≤ u ∧ u ≤ 4000000 := by omega
            have HSt := Lib.hid hstep
            have hbs := Lib.hid (below_then hbq.out hb9)
            rw [show dayR u = .tuple #[.int .i64 u, .int .i64 0] from if_pos hu1]
            clear hs2 hm2 ho2 hstep hau hav huq hua hb9 x0 x1 x2 x3 x4 HXq HBq HCq HLa HMv hbq
            go_wp2_with fail
            go_roundw
            case rel => exact ⟨q + 1, u, by omega, by go_num, rfl, HSt, hu1.1, hu1.2, hbs⟩
            case measure => simp [intOf]; omega
          · obtain rfl : q = n := by omega
            have t2 : decide ((q : Int) < (q : Int)) = false := decide_eq_false (by omega)
            have HLa := Lib.hid (Later_any c day y m d 0 q wr HCq.out HO.out h1 (by omega) (by omega) (by omega) (by omega) (by omega) (by omega))
            unfold LaterQ at HLa
            go_wp2_with fail
            refine HLa.out.mono ?_
            rintro e w9 ⟨hb9, ya, ma, yb, mb, u, hs2, hm2, ho2, rfl⟩
            have hstep : StepI c y m d q u := by
              have hl := HO.out.d1
              simp only [Int.add_zero] at hs2
              rcases hs2 with ⟨_, e3, e4⟩ | ⟨hz, _⟩
              · rw [e3, e4] at hm2
                have hl2 := HLong.out q yb mb hm2
                have : min (d + 1) (c.mlen yb mb) - 1 = d := by omega
                rw [this] at ho2
                exact ⟨yb, mb, hm2, ho2⟩
              · omega
            obtain ⟨a, _, hau, hav, huq⟩ := HGo.out q (by omega) (fun yi mi h => HLong.out _ yi mi h)
            have hua := huq u hstep
            have hub := huq at_ hst.out
            have hu1 : -4000000 ≤ u ∧ u ≤ 4000000 := by omega
            obtain rfl : u = at_ := by omega
            have HB9 := Lib.hid (below_then HBq.out hb9)
            rw [show dayR u = .tuple #[.int .i64 u, .int .i64 0] from if_pos hu1]
            clear hs2 hm2 ho2 hstep hau hav huq hua hub hb9 x0 x1 x2 x3 x4 HXq HBq HCq HLa hbq
            go_wp2_with fail
            go_ret
            exact ⟨rfl, HB9.out⟩
  · have t0 : (E == 0) = false := by rw [beq_eq_false_iff_ne]; exact hE0
    clear hE hE0
    go_wp2_with fail
    clear x3
    go_loopw [17, 77] (fun _ i wr => ∃ j : Nat, j ≤ c.mo.length ∧ i = .int .i64 (j : Int) ∧ Hid (∀ t, t < j → ¬ (min (c.mo.getD t mth0).sh (c.mo.getD t mth0).lo < d + 1 ∧ 0 < max (c.mo.getD t mth0).sh (c.mo.getD t mth0).lo)) ∧ Hid (Below w8.heap.size w8 wr)) (fun _ i _ => c.mo.length - (intOf i).toNat)
    case atStart => exact ⟨0, by omega, rfl, fun t h => absurd h (Nat.not_lt_zero t), Below.refl _ _⟩
    case round =>
      obtain ⟨j, hj, rfl, hshort, hbr⟩ := hrel
      have HDr := Lib.hid (HD8.out.below hbr.out)
      have y2 : wr.cell? ⟨gd, 2, none⟩ = some (.int .i64 (d + 1)) := HDr.out.cell 2
      have gl := HDr.out.lt
      by_cases hlt : j < c.mo.length
      · have t1 : decide ((j : Int) < (c.mo.length : Int)) = true := decide_eq_true (by omega)
        have hcs0 : ∀ q v, (c.mo.flatMap mthF)[q]? = some v → wr.cell? ⟨b, o + q, none⟩ = some v := fun q v hq => (hbr.out.cell (p := ⟨b, o + q, none⟩) hbl).trans (HCS.out q v hq)
        have hc0 := flat_cell mthF_len mth0 hcs0 j 0 hlt (by omega) _ rfl
        have hc1 := flat_cell mthF_len mth0 hcs0 j 1 hlt (by omega) _ rfl
        have hc2 := flat_cell mthF_len mth0 hcs0 j 2 hlt (by omega) _ rfl
        rw [Nat.add_zero] at hc0
        clear hcs0
        obtain ⟨z, hz⟩ : ∃ z, z = c.mo.getD j mth0 := ⟨_, rfl⟩
        rw [← hz] at hc0 hc1 hc2
        have HZ := Lib.hid hz
        clear hz
        have HZb := Lib.hid (Box.new wr 62 #[.string z.nm, .int .i64 z.sh, .int .i64 z.lo])
        have HBz := Lib.hid (below_then hbr.out (below_alloc1 wr (Obj.cells #[.string z.nm, .int .i64 z.sh, .int .i64 z.lo] 62)))
        have HBt := Lib.hid (below_then HB8.out HBz.out)
        by_cases hbad : min z.sh z.lo < d + 1 ∧ 0 < max z.sh z.lo
        · have t2 : decide (min z.sh z.lo < d + 1) = true := decide_eq_true hbad.1
          have t3 : decide (0 < max z.sh z.lo) = true := decide_eq_true hbad.2
          clear hbad
          go_wp2_with fail
          go_ret
          exact ⟨rfl, HBt.out⟩
        · have HS2 : Hid (∀ t, t < j + 1 → ¬ (min (c.mo.getD t mth0).sh (c.mo.getD t mth0).lo < d + 1 ∧ 0 < max (c.mo.getD t mth0).sh (c.mo.getD t mth0).lo)) := fun t ht => by
            by_cases h : t < j
            · exact hshort.out t h
            · obtain rfl : t = j := by omega
              rw [← HZ.out]
              exact hbad
          by_cases g1 : min z.sh z.lo < d + 1
          · have t2 : decide (min z.sh z.lo < d + 1) = true := decide_eq_true g1
            have t3 : decide (0 < max z.sh z.lo) = false := decide_eq_false fun h => hbad ⟨g1, h⟩
            clear g1 hbad
            go_wp2_with fail
            go_roundw
            case rel => exact ⟨j + 1, by omega, by go_num, HS2, HBz⟩
            case measure => simp [intOf]; omega
          · have t2 : decide (min z.sh z.lo < d + 1) = false := decide_eq_false g1
            clear g1 hbad
            go_wp2_with fail
            go_roundw
            case rel => exact ⟨j + 1, by omega, by go_num, HS2, HBz⟩
            case measure => simp [intOf]; omega
      · obtain rfl : j = c.mo.length := by omega
        have t1 : decide ((c.mo.length : Int) < (c.mo.length : Int)) = false := decide_eq_false (by omega)
        have HLong : Hid (∀ i yi mi, Moves c i y m yi mi → d < c.mlen yi mi) := fun i yi mi hm => by
          obtain ⟨q1, q2⟩ := hm.some_ hm1 (by have := HO.out.d1; omega)
          have q3 := hshort.out mi q1
          unfold Cal.mlen at q2 ⊢
          split at q2 <;> (rename_i hl; first | rw [if_pos hl] | rw [if_neg hl]) <;> omega
        have HBr := Lib.hid (below_then HB8.out hbr.out)
        have HCr := Lib.hid (HC8.out.next hbr.out)
        have HXr := Lib.hid (HX8.out.below hbr.out)
        have HStart : Hid (StepI c y m d 0 day) := ⟨y, m, ⟨rfl, rfl⟩, HO.out⟩
        clear hshort hbr HDr y2 gl
        obtain ⟨w0r, hw0⟩ : ∃ w0r, w0r = wr := ⟨_, rfl⟩
        subst hw0
        go_wp2_with fail
        go_loopw [18, 100] (fun a i wq => ∃ (q : Nat) (at_ : Int), q ≤ n ∧ i = .int .i64 (q : Int) ∧ a = .int .i64 at_ ∧ Hid (StepI c y m d q at_) ∧ -4000000 ≤ at_ ∧ at_ ≤ 4000000 ∧ Hid (Below w0r.heap.size w0r wq)) (fun _ i _ => n - (intOf i).toNat)
        case atStart => exact ⟨0, day, by omega, rfl, rfl, HStart, by omega, by omega, Below.refl _ _⟩
        case round =>
          obtain ⟨q, at_, hq, rfl, rfl, hst, ha1, ha2, hbq⟩ := hrel
          have HXq := Lib.hid (HXr.out.below hbq.out)
          have HCq := Lib.hid (HCr.out.next hbq.out)
          have HBq := Lib.hid (below_then HBr.out hbq.out)
          have x3 : wr.cell? ⟨gc, 3, none⟩ = some (.slice c.A1 c.mo.length c.c1) := (ccells HXq.out).2.2.2.1
          obtain ⟨x0, x1, _, _, x4⟩ := ccells HXq.out
          have x2 : wr.cell? ⟨gc, 2, none⟩ = some (.int .i64 c.cy) := HXq.out.cell 2
          by_cases hqn : q < n
          · have t2 : decide ((q : Int) < (n : Int)) = true := decide_eq_true (by omega)
            obtain ⟨yi, mi, hmv, hon⟩ := hst.out
            have hyr := hmv.year
            have HLa := Lib.hid (Later_any c at_ yi mi d 0 1 wr HCq.out hon (by omega) (by omega) (by omega) (by omega) (by omega) ha1 ha2)
            unfold LaterQ at HLa
            have HMv := Lib.hid hmv
            clear hmv hon hyr hst
            go_wp2_with fail
            refine HLa.out.mono ?_
            rintro e w9 ⟨hb9, ya, ma, yb, mb, u, hs2, hm2, ho2, rfl⟩
            have hstep : StepI c y m d (q + 1) u := by
              obtain ⟨yc, mc, ⟨e1, e2⟩, hnx⟩ := hm2
              have hl := HLong.out q yi mi HMv.out
              simp only [Int.add_zero] at hs2
              rcases hs2 with ⟨_, e3, e4⟩ | ⟨hz, _⟩
              · have e5 : yc = yi := by rw [e1, e3]
                have e6 : mc = mi := by rw [e2, e4]
                rw [e5, e6] at hnx
                have hmq : Moves c (q + 1) y m yb mb := ⟨yi, mi, HMv.out, hnx⟩
                have hl2 := HLong.out (q + 1) yb mb hmq
                have : min (d + 1) (c.mlen yb mb) - 1 = d := by omega
                rw [this] at ho2
                exact ⟨yb, mb, hmq, ho2⟩
              · omega
            obtain ⟨a, _, hau, hav, huq⟩ := HGo.out (q + 1) (by omega) (fun yi mi h => HLong.out _ yi mi h)
            have hua := huq u hstep
            have hu1 : -4000000 ≤ u ∧ u ≤ 4000000 := by omega
            have HSt := Lib.hid hstep
            have hbs := Lib.hid (below_then hbq.out hb9)
            rw [show dayR u = .tuple #[.int .i64 u, .int .i64 0] from if_pos hu1]
            clear hs2 hm2 ho2 hstep hau hav huq hua hb9 x0 x1 x2 x3 x4 HXq HBq HCq HLa HMv hbq
            go_wp2_with fail
            go_roundw
            case rel => exact ⟨q + 1, u, by omega, by go_num, rfl, HSt, hu1.1, hu1.2, hbs⟩
            case measure => simp [intOf]; omega
          · obtain rfl : q = n := by omega
            have t2 : decide ((q : Int) < (q : Int)) = false := decide_eq_false (by omega)
            have HLa := Lib.hid (Later_any c day y m d 0 q wr HCq.out HO.out h1 (by omega) (by omega) (by omega) (by omega) (by omega) (by omega))
            unfold LaterQ at HLa
            go_wp2_with fail
            refine HLa.out.mono ?_
            rintro e w9 ⟨hb9, ya, ma, yb, mb, u, hs2, hm2, ho2, rfl⟩
            have hstep : StepI c y m d q u := by
              have hl := HO.out.d1
              simp only [Int.add_zero] at hs2
              rcases hs2 with ⟨_, e3, e4⟩ | ⟨hz, _⟩
              · rw [e3, e4] at hm2
                have hl2 := HLong.out q yb mb hm2
                have : min (d + 1) (c.mlen yb mb) - 1 = d := by omega
                rw [this] at ho2
                exact ⟨yb, mb, hm2, ho2⟩
              · omega
            obtain ⟨a, _, hau, hav, huq⟩ := HGo.out q (by omega) (fun yi mi h => HLong.out _ yi mi h)
            have hua := huq u hstep
            have hub := huq at_ hst.out
            have hu1 : -4000000 ≤ u ∧ u ≤ 4000000 := by omega
            obtain rfl : u = at_ := by omega
            have HB9 := Lib.hid (below_then HBq.out hb9)
            rw [show dayR u = .tuple #[.int .i64 u, .int .i64 0] from if_pos hu1]
            clear hs2 hm2 ho2 hstep hau hav huq hua hub hb9 x0 x1 x2 x3 x4 HXq HBq HCq HLa hbq
            go_wp2_with fail
            go_ret
            exact ⟨rfl, HB9.out⟩
theorem walk (a0 : Int) (w0 : (Lit.int .i64 a0).wf = true) (a1 : Int) (w1 : (Lit.int .i64 a1).wf = true) (a2 : Int) (w2 : (Lit.int .i64 a2).wf = true) (a3 : Int) (w3 : (Lit.int .i64 a3).wf = true) (W : World) (hL : laidMet Tryz.prog Rows.arithStepsRow.laid W) (hsh : W.ShapedOpen Tryz.prog) :
    Calls Tryz.prog 8 #[.int .i64 a0, .int .i64 a1, .int .i64 a2, .int .i64 a3] W fun e w' => e = .returned (.bool true) ∧ Below W.heap.size W w' :=
  core a0 a1 a2 a3 W (bounds_i64 w0).1 (bounds_i64 w0).2 ⟨sgs_of hL.tail.tail.tail.tail.tail.tail.tail, lvs_of hL.tail.tail.tail.tail.tail.tail, Shp.of hsh⟩
end Go.Proofs.YtbmbphikjainiaaGreatDoor.arithSteps
