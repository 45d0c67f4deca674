/- The walk of CompileLeastSame: it returns true at every input; it writes nothing that was there. -/
import Derived.Test.YtfindembancjdaaCal9
import Derived.Test.YtfindembancjdaaTreeArg
import Derived.Test.YtfindembancjdaaLine1
namespace Go.Proofs.Ytfindembancjdaa.compileLeastSame
open Go.RowKit
set_option linter.unusedVariables false

/-- the calendar of the first test -/
abbrev two (g : Nat) : Cal := ⟨⟨#[97]⟩, 0, 4, [⟨⟨#[98]⟩, 5, 6⟩], [2, 4], some ⟨g, 0, none⟩, 1, some ⟨g + 1, 0, none⟩, 2⟩
theorem two_least (n : Nat) (h : IsLeast [2, 4] 4 n) : n = 2 := by
  have p2 : Per [2, 4] 4 2 := by unfold Per; decide
  have p1 : ¬ Per [2, 4] 4 1 := by unfold Per; decide
  have p3 : ¬ Per [2, 4] 4 3 := by unfold Per; decide
  have h1 := h.n1
  have h2 := h.n2
  match n, h1, h2 with
  | 1, _, _ => exact absurd h.per p1
  | 2, _, _ => rfl
  | 3, _, _ => exact absurd h.per p3
  | 4, _, _ => exact absurd p2 (h.min 2 (by omega) (by omega))

theorem name1 (b : UInt8) (h1 : 97 ≤ b.toNat) (h2 : b.toNat ≤ 122) (h3 : b ≠ 121) : NameOk ⟨#[b]⟩ := by
  refine ⟨by show 1 ≤ 1; omega, by show 1 ≤ 12; omega, by rw [Lib.toList_data]; simpa using h3, by rw [Lib.toList_data]; simp, by rw [Lib.toList_data]; simp, by rw [Lib.toList_data]; simp, fun k hk => ?_⟩
  have : k = 0 := by have : k < 1 := hk; omega
  subst this
  exact ⟨h1, h2⟩
theorem mo_ok : MthsOk [⟨⟨#[98]⟩, 5, 6⟩] := by
  refine ⟨by decide, by decide, fun i hi => ?_, by decide, by decide⟩
  have : i = 0 := by have : i < 1 := hi; omega
  subst this
  exact ⟨name1 98 (by decide) (by decide) (by decide), rfl, by decide, by decide⟩
theorem lp_ok : Inc [2, 4] 1 4 := fun i hi => by
  have h2 : i < 2 := hi
  match i, h2 with
  | 0, _ => exact ⟨by decide, fun h => absurd h (by decide)⟩
  | 1, _ => exact ⟨by decide, fun _ => by decide⟩
theorem two_ok (g : Nat) : CalOk (two g) := ⟨⟨name1 97 (by decide) (by decide) (by decide), ⟨by show (-4000000 : Int) ≤ 0; omega, by show (0 : Int) ≤ 4000000; omega⟩, by show (1 : Int) ≤ 4; omega, by show (4 : Int) ≤ 3000; omega⟩, mo_ok, lp_ok⟩
theorem two_fit (g : Nat) : CalFit (two g) := ⟨by show 1 ≤ maxLen; decide, fun x hx => by have hx' : x ∈ [(⟨⟨#[98]⟩, 5, 6⟩ : Mth)] := hx; rw [List.mem_singleton.1 hx']; show 1 ≤ maxLen; decide, by show 1 ≤ 1; omega, by show 1 ≤ maxLen; decide, by show 2 ≤ maxLen; decide⟩
theorem two_in (g : Nat) (W : World) (h1 : Box W g 80 #[.string ⟨#[98]⟩, .int .i64 5, .int .i64 6]) (h2 : Box W (g + 1) 3 #[.int .i64 2, .int .i64 4]) : CalIn W (two g) := ⟨Row.of_box h1, Row.of_box h2⟩

theorem tot_in {c : Cal} (ok : CalOk c) : 0 ≤ c.tot ∧ c.tot ≤ 48000000 := by
  obtain ⟨_, _, y1, y2⟩ := ok.hd
  have hln := ok.lp.len (by omega)
  obtain ⟨⟨s1, s2⟩, s3, s4⟩ := sums_in c.mo c.mo.length (Nat.le_refl _) (fun j hj => ok.mo.each j hj)
  rw [List.take_length] at s1 s2 s3 s4
  have n2 := ok.mo.n2
  have p1 := prod_in (c.cy - c.lp.length) (sumS c.mo) 3000 8000 (by omega) (by omega) s1 (by omega)
  have p2 := prod_in (c.lp.length : Int) (sumL c.mo) 3000 8000 (by omega) (by omega) s3 (by omega)
  unfold Cal.tot
  omega

set_option maxHeartbeats 1000000 in
set_option maxRecDepth 100000 in
theorem core (t : Tr) (year : Int) (w : World) (hr : TrIn w t) (hf : TrFit t) :
    Calls Try.prog 10 #[t.val, .int .i64 year] w fun e w' => e = .returned (.bool true) ∧ Below w.heap.size w w' := by
  have hA0 := below_alloc3 w (Obj.cells t.cells 78) (Obj.cells #[.string ⟨#[98]⟩, .int .i64 5, .int .i64 6] 80) (Obj.cells #[.int .i64 2, .int .i64 4] 3)
  have HB := Lib.hid (below_then hA0 (below_alloc1 _ (Obj.cells #[.string ⟨#[97]⟩, .int .i64 0, .int .i64 4, .slice (some ⟨w.heap.size + 1, 0, none⟩) 1 1, .slice (some ⟨w.heap.size + 1 + 1, 0, none⟩) 2 2] 82)))
  have HX := Lib.hid ((((Box.new w 78 t.cells).alloc (Obj.cells #[.string ⟨#[98]⟩, .int .i64 5, .int .i64 6] 80)).alloc (Obj.cells #[.int .i64 2, .int .i64 4] 3)).alloc (Obj.cells #[.string ⟨#[97]⟩, .int .i64 0, .int .i64 4, .slice (some ⟨w.heap.size + 1, 0, none⟩) 1 1, .slice (some ⟨w.heap.size + 1 + 1, 0, none⟩) 2 2] 82))
  have H1 := ((Box.new (w.alloc (Obj.cells t.cells 78)) 80 #[.string ⟨#[98]⟩, .int .i64 5, .int .i64 6]).alloc (Obj.cells #[.int .i64 2, .int .i64 4] 3)).alloc (Obj.cells #[.string ⟨#[97]⟩, .int .i64 0, .int .i64 4, .slice (some ⟨w.heap.size + 1, 0, none⟩) 1 1, .slice (some ⟨w.heap.size + 1 + 1, 0, none⟩) 2 2] 82)
  have H2 := (Box.new ((w.alloc (Obj.cells t.cells 78)).alloc (Obj.cells #[.string ⟨#[98]⟩, .int .i64 5, .int .i64 6] 80)) 3 #[.int .i64 2, .int .i64 4]).alloc (Obj.cells #[.string ⟨#[97]⟩, .int .i64 0, .int .i64 4, .slice (some ⟨w.heap.size + 1, 0, none⟩) 1 1, .slice (some ⟨w.heap.size + 1 + 1, 0, none⟩) 2 2] 82)
  have H3 := Box.new (((w.alloc (Obj.cells t.cells 78)).alloc (Obj.cells #[.string ⟨#[98]⟩, .int .i64 5, .int .i64 6] 80)).alloc (Obj.cells #[.int .i64 2, .int .i64 4] 3)) 82 #[.string ⟨#[97]⟩, .int .i64 0, .int .i64 4, .slice (some ⟨w.heap.size + 1, 0, none⟩) 1 1, .slice (some ⟨w.heap.size + 1 + 1, 0, none⟩) 2 2]
  simp only [World.size_alloc] at H1 H2 H3
  have HT := Lib.hid (two_in (w.heap.size + 1) _ H1 H2)
  have HC5 := Lib.hid H3
  have HR := Lib.hid (hr.next HB.out)
  have HF := Lib.hid hf
  have HCut := Lib.hid (fun w => cut_any year (-10000) 20001 w (by omega) (by omega) (by omega) (by omega))
  have hy1 : -10000 ≤ -10000 + year % 20001 := by omega
  have hy2 : -10000 + year % 20001 ≤ 10000 := by omega
  generalize -10000 + year % 20001 = y at *
  clear hr hf hA0 H1 H2 H3
  go_enter Try.func10, Try.ntmps10
  go_wp2_with fail
  generalize (((w.alloc (Obj.cells t.cells 78)).alloc (Obj.cells #[.string ⟨#[98]⟩, .int .i64 5, .int .i64 6] 80)).alloc (Obj.cells #[.int .i64 2, .int .i64 4] 3)).alloc (Obj.cells #[.string ⟨#[97]⟩, .int .i64 0, .int .i64 4, .slice (some ⟨w.heap.size + 1, 0, none⟩) 1 1, .slice (some ⟨w.heap.size + 1 + 1, 0, none⟩) 2 2] 82) = W0 at *
  obtain ⟨g5, hg5⟩ : ∃ g5, g5 = w.heap.size + 1 + 1 + 1 := ⟨_, rfl⟩
  rw [← hg5] at HC5
  rw [← hg5]
  have hgw : w.heap.size ≤ g5 := by omega
  have hgt : w.heap.size ≠ g5 := by omega
  clear hg5
  refine (Least_yes (two (w.heap.size + 1)) 4 rfl _ HT.out (two_fit _) (two_ok _)).mono ?_
  rintro e w1 ⟨d, n, rfl, hle, k1, k2, hcy, k4, k5, k6, k7, hb1⟩
  obtain rfl := two_least n hle
  clear k1 k2 k4 k5 k6 k7 hle HT
  obtain ⟨dn, de, dc, dm, dl, dA, dc1, dB, dc2⟩ := d
  have hcy' : dc = 2 := by simpa using hcy
  subst hcy'
  clear hcy
  have HBa := below_then hb1 (below_alloc1 w1 (Obj.cells #[.string dn, .int .i64 de, .int .i64 2, .slice dA dm.length dc1, .slice dB dl.length dc2] 82))
  replace HX := Lib.hid (HX.out.below HBa)
  replace HC5 := Lib.hid (HC5.out.below HBa)
  replace HB := Lib.hid (below_then HB.out HBa)
  replace HR := Lib.hid (HR.out.next HBa)
  clear hb1 HBa
  obtain ⟨x0, x1, x2, x3, x4, x5, x6⟩ := trcells HX.out
  go_wp2_with fail
  generalize w1.alloc (Obj.cells #[.string dn, .int .i64 de, .int .i64 2, .slice dA dm.length dc1, .slice dB dl.length dc2] 82) = W1 at *
  clear x0 x1 x2 x3 x4 x5 x6
  refine (Compile_any t _ HR.out HF.out).mono ?_
  rintro e w2 ⟨c, E, rfl, hb2, hE⟩
  have HE := Lib.hid hE
  have hg5W : g5 < W1.heap.size := HC5.out.lt
  replace HX := Lib.hid (HX.out.below hb2)
  have HC5' := HC5.out.below hb2
  replace HB := Lib.hid (below_then HB.out hb2)
  clear hE hb2 HR HF HC5
  obtain ⟨z0, z1, z2, z3, z4⟩ : w2.cell? ⟨g5, 0, none⟩ = some (.string ⟨#[97]⟩) ∧ w2.cell? ⟨g5, 1, none⟩ = some (.int .i64 0) ∧ w2.cell? ⟨g5, 2, none⟩ = some (.int .i64 4) ∧ w2.cell? ⟨g5, 3, none⟩ = some (.slice (some ⟨w.heap.size + 1, 0, none⟩) 1 1) ∧ w2.cell? ⟨g5, 4, none⟩ = some (.slice (some ⟨w.heap.size + 1 + 1, 0, none⟩) 2 2) := ⟨HC5'.cell 0, HC5'.cell 1, HC5'.cell 2, HC5'.cell 3, HC5'.cell 4⟩
  have zf := fun i => HC5'.free i
  have HS : Hid (Box (((((w2.setCell ⟨g5, 0, none⟩ (.string c.nm)).setCell ⟨g5, 1, none⟩ (.int .i64 c.ep)).setCell ⟨g5, 2, none⟩ (.int .i64 c.cy)).setCell ⟨g5, 3, none⟩ (.slice c.A1 c.mo.length c.c1)).setCell ⟨g5, 4, none⟩ (.slice c.A2 c.lp.length c.c2)) g5 82 c.cells) := ((((HC5'.set_ 0 (.string c.nm)).set_ 1 (.int .i64 c.ep)).set_ 2 (.int .i64 c.cy)).set_ 3 (.slice c.A1 c.mo.length c.c1)).set_ 4 (.slice c.A2 c.lp.length c.c2)
  have HBS := Lib.hid (((((HB.out.setCell (p := ⟨g5, 0, none⟩) hgw (.string c.nm)).setCell (p := ⟨g5, 1, none⟩) hgw (.int .i64 c.ep)).setCell (p := ⟨g5, 2, none⟩) hgw (.int .i64 c.cy)).setCell (p := ⟨g5, 3, none⟩) hgw (.slice c.A1 c.mo.length c.c1)).setCell (p := ⟨g5, 4, none⟩) hgw (.slice c.A2 c.lp.length c.c2))
  have HCI : Hid (E = 0 → CalIn (((((w2.setCell ⟨g5, 0, none⟩ (.string c.nm)).setCell ⟨g5, 1, none⟩ (.int .i64 c.ep)).setCell ⟨g5, 2, none⟩ (.int .i64 c.cy)).setCell ⟨g5, 3, none⟩ (.slice c.A1 c.mo.length c.c1)).setCell ⟨g5, 4, none⟩ (.slice c.A2 c.lp.length c.c2)) c) := fun h0 => by
    obtain ⟨_, _, _, _, _, _, hin, _, _, f1, f2⟩ := HE.out h0
    have n1 : ∀ a, c.A1 = some a → a.block ≠ g5 := fun a ha => by have := f1 a ha; omega
    have n2 : ∀ a, c.A2 = some a → a.block ≠ g5 := fun a ha => by have := f2 a ha; omega
    refine ⟨?_, ?_⟩
    · have := row_set (row_set (row_set (row_set (row_set hin.r1 ⟨g5, 0, none⟩ (.string c.nm) n1) ⟨g5, 1, none⟩ (.int .i64 c.ep) n1) ⟨g5, 2, none⟩ (.int .i64 c.cy) n1) ⟨g5, 3, none⟩ (.slice c.A1 c.mo.length c.c1) n1) ⟨g5, 4, none⟩ (.slice c.A2 c.lp.length c.c2) n1
      simpa using this
    · have := row_set (row_set (row_set (row_set (row_set hin.r2 ⟨g5, 0, none⟩ (.string c.nm) n2) ⟨g5, 1, none⟩ (.int .i64 c.ep) n2) ⟨g5, 2, none⟩ (.int .i64 c.cy) n2) ⟨g5, 3, none⟩ (.slice c.A1 c.mo.length c.c1) n2) ⟨g5, 4, none⟩ (.slice c.A2 c.lp.length c.c2) n2
      simpa using this
  have HE' : Hid (E = 0 → CalFit c ∧ CalOk c) := fun h0 => ⟨(HE.out h0).2.2.2.2.2.2.2.1, (HE.out h0).2.2.2.2.2.2.2.2.1⟩
  clear HC5' HE
  go_upto_region 6 with fail
  generalize ((((w2.setCell ⟨g5, 0, none⟩ (.string c.nm)).setCell ⟨g5, 1, none⟩ (.int .i64 c.ep)).setCell ⟨g5, 2, none⟩ (.int .i64 c.cy)).setCell ⟨g5, 3, none⟩ (.slice c.A1 c.mo.length c.c1)).setCell ⟨g5, 4, none⟩ (.slice c.A2 c.lp.length c.c2) = W2 at *
  clear z0 z1 z2 z3 z4 zf HX HB
  by_cases e1 : E = 0
  case neg =>
    have t1 : (E != 0) = true := by rw [bne_iff_ne]; exact e1
    go_wp2_with fail
    go_ret
    exact ⟨rfl, HBS.out⟩
  subst e1
  have HIN := Lib.hid (HCI.out rfl)
  obtain ⟨hfit, hok⟩ := HE'.out rfl
  have HF := Lib.hid hfit
  have HO := Lib.hid hok
  clear HCI HE' hfit hok
  obtain ⟨N, hN⟩ : ∃ N : Nat, c.cy = N := ⟨c.cy.toNat, by have := HO.out.hd.2.2.1; omega⟩
  have hN1 := HO.out.hd.2.2.1
  have hN2 := HO.out.hd.2.2.2
  have HN := Lib.hid hN
  clear hN
  obtain ⟨x0, x1, x2, x3, x4⟩ := ccells HS.out
  go_wp2_with fail
  refine (Least_yes c N HN.out _ HIN.out HF.out HO.out).mono ?_
  rintro e w3 ⟨d, n, rfl, hle, k1, k2, hcy, k4, k5, hdin, hdfit, hb3⟩
  have HDO := Lib.hid (least_ok HN.out HO.out hle k1 k2 hcy k4 k5)
  have HDT := Lib.hid (least_tot HN.out HO.out hle hcy k4 k5)
  have HDF := Lib.hid hdfit
  have HLE := Lib.hid hle
  have HCY := Lib.hid hcy
  have HK5 := Lib.hid k5
  have hn1 := hle.n1
  have hn2 := hle.n2
  have hd1 := HDO.out.hd.2.2.1
  have hd2 := HDO.out.hd.2.2.2
  have HLP : Hid (decide (d.pl y ∈ d.lp) = decide (c.pl y ∈ c.lp)) := by
    unfold Hid Cal.pl
    rw [k5, hcy, HN.out]
    exact (least_leap hle y).symm
  have HMD : c.cy.tmod d.cy = 0 := by
    rw [HN.out, hcy, Int.tmod_eq_emod_of_nonneg (by omega)]
    have := hle.per.1
    omega
  obtain ⟨Q, hQ⟩ : ∃ Q : Nat, Q = N / n := ⟨_, rfl⟩
  have hQN : Q ≤ N := by rw [hQ]; exact Nat.div_le_self _ _
  have HQ : Hid (c.cy.tdiv d.cy = (Q : Int)) := by
    unfold Hid
    rw [HN.out, hcy, hQ, Int.tdiv_eq_ediv_of_nonneg (by omega)]
    simp
  rw [← hQ] at HDT
  have hBa := below_then hb3 (below_alloc1 w3 (Obj.cells d.cells 82))
  have HDI := Lib.hid (hdin.next (below_alloc1 w3 (Obj.cells d.cells 82)))
  have HD9 := Lib.hid (Box.new w3 82 d.cells)
  replace HS := Lib.hid (HS.out.below hBa)
  replace HBS := Lib.hid (below_then HBS.out hBa)
  replace HIN := Lib.hid (HIN.out.next hBa)
  have hNN := HN.out
  have hc0 : ¬ d.cy = 0 := by omega
  clear hle k1 k2 hcy k4 k5 hdin hdfit hb3 hBa x0 x1 x2 x3 x4 hQ
  obtain ⟨x0, x1, x2, x3, x4⟩ := ccells HS.out
  obtain ⟨y0, y1, y2, y3, y4⟩ := ccells HD9.out
  have hNb : (N : Int) ≤ 3000 := by omega
  clear hNN
  have HLd : Hid (∀ W, CalIn W d → Calls Try.prog 34 #[d.val, .int .i64 y] W fun e w' => e = .returned (.tuple #[.bool (decide (c.pl y ∈ c.lp)), .int .i64 0]) ∧ Below W.heap.size W w') := fun W h => by
    have := Leap_yes d y W h HDF.out HDO.out hy1 hy2
    rwa [HLP.out] at this
  have HLc : Hid (∀ W, CalIn W c → Calls Try.prog 34 #[c.val, .int .i64 y] W fun e w' => e = .returned (.tuple #[.bool (decide (c.pl y ∈ c.lp)), .int .i64 0]) ∧ Below W.heap.size W w') := fun W h => Leap_yes c y W h HF.out HO.out hy1 hy2
  generalize decide (c.pl y ∈ c.lp) = LB at *
  go_wp2_with (go_at_call 13; refine (HCut.out _).mono ?_; rintro e w' ⟨rfl, rfl⟩)
  generalize w3.alloc (Obj.cells d.cells 82) = W3 at *
  generalize w3.heap.size = g9 at *
  refine (HLc.out _ HIN.out).mono ?_
  rintro e w4 ⟨rfl, hb4⟩
  replace HS := Lib.hid (HS.out.below hb4)
  replace HD9 := Lib.hid (HD9.out.below hb4)
  replace HBS := Lib.hid (below_then HBS.out hb4)
  replace HIN := Lib.hid (HIN.out.next hb4)
  replace HDI := Lib.hid (HDI.out.next hb4)
  clear hb4 x0 x1 x2 x3 x4 y0 y1 y2 y3 y4
  obtain ⟨x0, x1, x2, x3, x4⟩ := ccells HS.out
  obtain ⟨y0, y1, y2, y3, y4⟩ := ccells HD9.out
  go_wp2_with fail
  refine (HLd.out _ HDI.out).mono ?_
  rintro e w5 ⟨rfl, hb5⟩
  replace HS := Lib.hid (HS.out.below hb5)
  replace HD9 := Lib.hid (HD9.out.below hb5)
  replace HBS := Lib.hid (below_then HBS.out hb5)
  replace HIN := Lib.hid (HIN.out.next hb5)
  replace HDI := Lib.hid (HDI.out.next hb5)
  clear hb5 x0 x1 x2 x3 x4 y0 y1 y2 y3 y4
  obtain ⟨x0, x1, x2, x3, x4⟩ := ccells HS.out
  obtain ⟨y0, y1, y2, y3, y4⟩ := ccells HD9.out
  go_wp2_with fail
  refine (Least_yes d n HCY.out _ HDI.out HDF.out HDO.out).mono ?_
  rintro e w6 ⟨d2, m, rfl, hle2, k1, k2, hcy2, k4, k5, k6, k7, hb6⟩
  have hmn : m = n := least_again HLE.out (by rw [← HK5.out]; exact hle2)
  clear k1 k2 k4 k5 k6 k7 hle2
  obtain ⟨dn2, de2, dc2', dm2, dl2, dA2, dcc2, dB2, dd2⟩ := d2
  have hcc : dc2' = d.cy := by rw [HCY.out, ← hmn]; exact hcy2
  subst hcc
  clear hcy2 hmn
  have hB6 := below_then hb6 (below_alloc1 w6 (Obj.cells #[.string dn2, .int .i64 d.cy, .int .i64 d.cy, .slice dA2 dm2.length dcc2, .slice dB2 dl2.length dd2] 82))
  clear hB6
  have hB6 := below_then hb6 (below_alloc1 w6 (Obj.cells #[.string dn2, .int .i64 de2, .int .i64 d.cy, .slice dA2 dm2.length dcc2, .slice dB2 dl2.length dd2] 82))
  have HD14 := Lib.hid (Box.new w6 82 #[.string dn2, .int .i64 de2, .int .i64 d.cy, .slice dA2 dm2.length dcc2, .slice dB2 dl2.length dd2])
  clear hb6
  replace HS := Lib.hid (HS.out.below hB6)
  replace HD9 := Lib.hid (HD9.out.below hB6)
  replace HBS := Lib.hid (below_then HBS.out hB6)
  replace HIN := Lib.hid (HIN.out.next hB6)
  replace HDI := Lib.hid (HDI.out.next hB6)
  clear hB6 x0 x1 x2 x3 x4 y0 y1 y2 y3 y4
  obtain ⟨x0, x1, x2, x3, x4⟩ := ccells HS.out
  obtain ⟨y0, y1, y2, y3, y4⟩ := ccells HD9.out
  go_wp2_with fail
  generalize w6.alloc (Obj.cells #[.string dn2, .int .i64 de2, .int .i64 d.cy, .slice dA2 dm2.length dcc2, .slice dB2 dl2.length dd2] 82) = W6 at *
  generalize w6.heap.size = g14 at *
  refine (ctotal_yes c _ HIN.out HF.out HO.out).mono ?_
  rintro e w7 ⟨rfl, hb7⟩
  replace HD14 := Lib.hid (HD14.out.below hb7)
  replace HS := Lib.hid (HS.out.below hb7)
  replace HD9 := Lib.hid (HD9.out.below hb7)
  replace HBS := Lib.hid (below_then HBS.out hb7)
  replace HIN := Lib.hid (HIN.out.next hb7)
  replace HDI := Lib.hid (HDI.out.next hb7)
  clear hb7 x0 x1 x2 x3 x4 y0 y1 y2 y3 y4
  obtain ⟨x0, x1, x2, x3, x4⟩ := ccells HS.out
  obtain ⟨y0, y1, y2, y3, y4⟩ := ccells HD9.out
  go_wp2_with fail
  refine (ctotal_yes d _ HDI.out HDF.out HDO.out).mono ?_
  rintro e w8 ⟨rfl, hb8⟩
  replace HD14 := Lib.hid (HD14.out.below hb8)
  replace HS := Lib.hid (HS.out.below hb8)
  replace HD9 := Lib.hid (HD9.out.below hb8)
  replace HBS := Lib.hid (below_then HBS.out hb8)
  replace HIN := Lib.hid (HIN.out.next hb8)
  replace HDI := Lib.hid (HDI.out.next hb8)
  clear hb8 x0 x1 x2 x3 x4 y0 y1 y2 y3 y4
  obtain ⟨x0, x1, x2, x3, x4⟩ := ccells HS.out
  obtain ⟨y0, y1, y2, y3, y4⟩ := ccells HD9.out
  have v2 : w8.cell? ⟨g14, 2, none⟩ = some (.int .i64 d.cy) := HD14.out.cell 2
  have q1 : IntKind.i64.wrap (c.cy.tdiv d.cy) = (Q : Int) := by rw [HQ.out]; exact intFits _ (by omega) (by omega)
  have q1' : IntKind.i64.wrap (Q : Int) = (Q : Int) := intFits _ (by omega) (by omega)
  have q2 : c.cy.tdiv d.cy = (Q : Int) := HQ.out
  have HTB := tot_in HO.out
  have q3 : IntKind.i64.wrap (d.tot * (Q : Int)) = c.tot := by rw [← HDT.out]; exact intFits _ (by omega) (by omega)
  generalize c.tot = TC at *
  generalize d.tot = TD at *
  clear HDT
  go_wp2_with fail
  go_ret
  exact ⟨by simp, HBS.out⟩

set_option maxRecDepth 100000 in
theorem walk {H : Type} {enc : TypeId × Value → H} {base : Nat} {W : World} (v0 : Value) (d0 : DataW H) (p0 : List MemPlace) (hv : Value.okWide Try.prog W .any base 78 v0)
    (h0 : DataW.Trod enc Try.prog W 0 (fun _ => true) true 78 v0 d0 p0) (a1 : Int) (w1 : (Lit.int .i64 a1).wf = true) :
    Calls Try.prog 10 #[v0, .int .i64 a1] W fun e W' => e = .returned (.bool true) ∧ Below W.heap.size W W' := by
  obtain ⟨t, rfl, hr, hf⟩ := tree_open hv h0
  exact core t a1 W hr hf
end Go.Proofs.Ytfindembancjdaa.compileLeastSame
