/- WCatalogMonths -/
import Derived.Test.YtneeoghjddlenaaGreatDoorGPat0
import Derived.Test.YtneeoghjddlenaaGreatDoorGCat1
import Derived.Test.YtneeoghjddlenaaGreatDoorGCatOk
import Derived.Test.YtneeoghjddlenaaGreatDoorGBack1
/- The walk of CatalogMonths: it returns true at every input; it writes nothing that was there. -/
namespace Go.Proofs.YtneeoghjddlenaaGreatDoor.catalogMonths
open Go Go.RowKit
set_option linter.unusedVariables false

/-- the pattern of a name -/
def R1 : List (List UInt8 × List UInt8) := [([], [110, 97, 109, 101])]
theorem r1_ok : ∀ x ∈ R1, PrOk x := by
  intro x hx
  unfold R1 at hx
  obtain rfl := List.mem_singleton.1 hx
  exact ⟨by decide, by decide, by decide, 4, by decide⟩
theorem r1_text (mn : ByteArray) (nt : Int → List UInt8) (y : Int) (m : Nat) (d : Int) : str ((partL R1).flatMap (partX mn nt y m d)) = mn := by
  have : (partL R1).flatMap (partX mn nt y m d) = mn.data.toList := by simp [R1, partL, partX, pnameI]
  rw [this, pstr_own]
theorem fd_m {c : Cal} (ok : CalOk c) {day : Int} {y : Int} {m : Nat} {d : Int} (h1 : -10000 ≤ y) (h2 : y ≤ 10000) (h : IsOn c y m d day) : c.ny (-10000) ≤ day ∧ day < c.ny 10001 := by
  have q := h.year ok
  have q1 := Cal.ny_le ok h1
  have q2 := Cal.ny_le ok (show y + 1 ≤ 10001 by omega)
  omega
/-- the name of the month of a day that has this date -/
theorem pw_name (r : CatRow) (hr : r ∈ catR) (sc : Nat) (hsc : sc < 13) (c : Cal) (hof : CalOf r c) (y : Int) (m : Nat) (d day : Int) (hy1 : -10000 ≤ y) (hy2 : y ≤ 10000) (ho : IsOn c y m d day) (hd1 : -4000000 ≤ day) (hd2 : day ≤ 4000000) (w : World) (hv : Env w) :
    Calls Tryz.prog 11 #[.string ⟨#[123, 110, 97, 109, 101, 125]⟩, .string (str r.nm), .int .i64 (sc : Int), .int .i64 day] w fun e w' => e = .returned (.tuple #[.string (r.t.mo.getD m mth0).nm, .int .i64 0]) ∧ Below w.heap.size w w' := by
  have h := PWrite_any R1 r1_ok (by decide) (by decide) (by decide) (fun _ => []) (fun _ => by simp) r hr sc hsc day hd1 hd2 w hv (fun ⟨p, hp, h1, h2⟩ => by
    unfold R1 partL at hp
    simp at hp
    subst hp
    exact absurd rfl h2)
  rw [show str (patT R1) = ⟨#[123, 110, 97, 109, 101, 125]⟩ from rfl] at h
  refine Calls.mono h ?_
  rintro e w' ⟨hb, c', hof', ok', hc⟩
  have ho' := (hof.on hof' _ _ _ _).1 ho
  rcases hc with ⟨y', m', d', _, _, h3, rfl⟩ | ⟨hno, _⟩
  · obtain ⟨rfl, rfl, rfl⟩ := h3.unique ok' ho'
    rw [r1_text, hof'.mo]
    exact ⟨rfl, hb⟩
  · exact absurd (fd_m ok' hy1 hy2 ho') hno
theorem one_name (w : World) (hE : Env w) : Calls Tryz.prog 11 #[.string ⟨#[123, 110, 97, 109, 101, 125]⟩, .string ⟨#[99, 111, 112, 116, 105, 99]⟩, .int .i64 5, .int .i64 103605] w fun e w' => e = .returned (.tuple #[.string ⟨#[109, 97]⟩, .int .i64 0]) ∧ Below w.heap.size w w' := by
  have h := PWrite_any R1 r1_ok (by decide) (by decide) (by decide) (fun _ => []) (fun _ => by simp) cr4 cr4_in 5 (by omega) 103605 (by omega) (by omega) w hE (fun ⟨p, hp, h1, h2⟩ => by
    unfold R1 partL at hp
    simp at hp
    subst hp
    exact absurd rfl h2)
  rw [show str (patT R1) = ⟨#[123, 110, 97, 109, 101, 125]⟩ from rfl, cr4_nm, show ((5 : Nat) : Int) = 5 from rfl] at h
  refine Calls.mono h ?_
  rintro e w' ⟨hb, c', hof', ok', hc⟩
  have hon := IsOn.first ok' (mlen_pos cr4_in hof' 1)
  rw [show c'.ep = 103605 from by rw [hof'.ep]; rfl] at hon
  rcases hc with ⟨y', m', d', _, _, h3, rfl⟩ | ⟨hno, _⟩
  · obtain ⟨rfl, rfl, rfl⟩ := h3.unique ok' hon
    rw [r1_text, hof'.mo, show (cr4.t.mo.getD 0 mth0).nm = ⟨#[109, 97]⟩ from by decide +kernel]
    exact ⟨rfl, hb⟩
  · exact absurd (fd_m ok' (by omega) (by omega) hon) hno

set_option maxRecDepth 100000 in
set_option maxHeartbeats 4000000 in
theorem core (k day0 : Int) (w : World) (hk1 : -9223372036854775808 ≤ k) (hk2 : k ≤ 9223372036854775807) (hv : Env w) :
    Calls Tryz.prog 4 #[.int .i64 k, .int .i64 day0] w fun e w' => e = .returned (.bool true) ∧ Below w.heap.size w w' := by
  have HN := Lib.hid (fun W (h : Env W) => name_any k W hk1 hk2 h.h)
  have HOne := Lib.hid (one_name w hv)
  have HV := Lib.hid hv
  have HCut := Lib.hid (fun W => cut_any day0 (-300000) 1300000 W (by omega) (by omega) (by omega) (by omega))
  have b1 := Int.emod_nonneg day0 (show (1300000 : Int) ≠ 0 by omega)
  have b2 := Int.emod_lt_of_pos day0 (show (0 : Int) < 1300000 by omega)
  obtain ⟨day, hday⟩ : ∃ day, day = -300000 + day0 % 1300000 := ⟨_, rfl⟩
  rw [← hday] at HCut
  have hd1 : -300000 ≤ day := by omega
  have hd2 : day < 1000000 := by omega
  have HDt := Lib.hid (fun W (h : Env W) => Date_any (rowK k) (rowK_in k) day W h)
  have HCl := Lib.hid (fun W (h : Env W) => Calendar_any (rowK k) (rowK_in k) W h)
  have HW := Lib.hid (fun (c : Cal) (hof : CalOf (rowK k) c) (y : Int) (m : Nat) (d : Int) W (h : Env W) hy1 hy2 ho => pw_name (rowK k) (rowK_in k) 0 (by omega) c hof y m d day hy1 hy2 ho (by omega) (by omega) W h)
  clear b1 b2 hday hv hk1 hk2
  unfold DateQ at HDt
  unfold CalQ at HCl
  rw [show ((0 : Nat) : Int) = 0 from rfl] at HW
  generalize rowK k = r at *
  obtain ⟨nr, hnr⟩ : ∃ nr, nr = str r.nm := ⟨_, rfl⟩
  rw [← hnr] at HN HDt HCl HW
  clear hnr
  go_enter Tryz.func4, Tryz.ntmps4
  go_wp2_with fail
  refine Calls.mono HOne.out ?_
  rintro e w1 ⟨rfl, hb1⟩
  have HB1 := Lib.hid hb1
  clear hb1 HOne
  go_wp2_with (go_at_call 8; refine Calls.mono (HCut.out _) ?_; rintro e w' ⟨rfl, rfl⟩)
  refine Calls.mono (HN.out w1 (HV.out.next HB1.out)) ?_
  rintro e w2 ⟨rfl, hb2⟩
  have HB2 := Lib.hid (below_then HB1.out hb2)
  clear hb2 HB1
  go_wp2_with fail
  refine Calls.mono (HDt.out w2 (HV.out.next HB2.out)) ?_
  rintro e w3 ⟨c, hof, ok, hb3, hc⟩
  have HB3 := Lib.hid (below_then HB2.out hb3)
  have HOf := Lib.hid hof
  clear hb3 HB2 hof ok HDt
  rcases hc with ⟨y, m, d, h1, h2, h3, rfl⟩ | ⟨h1, rfl⟩
  case inr =>
    clear h1
    go_wp2_with fail
    have HB4 := Lib.hid (HB3.out.alloc HB3.out.size (Obj.cells (dateC 0 0 0) 23))
    go_ret
    exact ⟨rfl, HB4.out⟩
  have HH := Lib.hid (show -10000 ≤ y ∧ y ≤ 10000 ∧ IsOn c y m d day from ⟨h1, h2, h3⟩)
  have hm := h3.m1
  have hmo : c.mo = r.t.mo := HOf.out.mo
  rw [hmo] at hm
  clear h1 h2 h3 hmo
  go_upto_region 8 with fail
  have hb4 := below_alloc1 w3 (Obj.cells #[.int .i64 y, .int .i64 ((m : Int) + 1), .int .i64 (d + 1)] 23)
  have HB4 := Lib.hid (below_then HB3.out hb4)
  have HD4 := Lib.hid (Box.new w3 23 #[.int .i64 y, .int .i64 ((m : Int) + 1), .int .i64 (d + 1)])
  clear hb4 HB3
  generalize w3.alloc (Obj.cells #[.int .i64 y, .int .i64 ((m : Int) + 1), .int .i64 (d + 1)] 23) = w4 at *
  generalize w3.heap.size = gd at *
  go_wp2_with fail
  refine Calls.mono (HN.out w4 (HV.out.next HB4.out)) ?_
  rintro e w5 ⟨rfl, hb5⟩
  have HB5 := Lib.hid (below_then HB4.out hb5)
  have HD5 := Lib.hid (HD4.out.below hb5)
  clear hb5 HB4 HD4
  go_wp2_with fail
  refine Calls.mono (HCl.out w5 (HV.out.next HB5.out)) ?_
  rintro e w6 ⟨c2, rfl, hof2, hcv2, _, _, hb6⟩
  have HB6 := Lib.hid (below_then HB5.out hb6)
  have HD6 := Lib.hid (HD5.out.below hb6)
  have hmo2 : c2.mo = r.t.mo := hof2.mo
  have hmn := hcv2.ok.mo.n2
  obtain ⟨bm, om, hA, hbl, hcs⟩ := hcv2.r.r1.open_ (flat_ne mthF_len (by omega) c2.mo (by have := hcv2.ok.mo.n1; omega))
  have hc0 := flat_cell mthF_len mth0 hcs m 0 (by rw [hmo2]; exact hm) (by omega) _ rfl
  rw [Nat.add_zero, hmo2] at hc0
  have HC2 : Hid (c2.cells = #[.string c2.nm, .int .i64 c2.ep, .int .i64 c2.cy, .slice (some ⟨bm, om, none⟩) r.t.mo.length c2.c1, .slice c2.A2 c2.lp.length c2.c2]) := by unfold Hid Cal.cells; rw [hA, hmo2]
  have hval : c2.val = .agg #[.string c2.nm, .int .i64 c2.ep, .int .i64 c2.cy, .slice (some ⟨bm, om, none⟩) r.t.mo.length c2.c1, .slice c2.A2 c2.lp.length c2.c2] := by
    rw [← HC2.out]
  rw [hval]
  rw [hmo2] at hmn
  clear hof2 hcv2 hb6 HB5 HD5 hcs hA hval hmo2 HCl HC2
  go_upto_region 9 with fail
  have hb7 := below_alloc1 w6 (Obj.cells #[.string c2.nm, .int .i64 c2.ep, .int .i64 c2.cy, .slice (some ⟨bm, om, none⟩) r.t.mo.length c2.c1, .slice c2.A2 c2.lp.length c2.c2] 40)
  have HB7 := Lib.hid (below_then HB6.out hb7)
  have HD7 := Lib.hid (HD6.out.below hb7)
  have HC7 := Lib.hid (Box.new w6 40 #[.string c2.nm, .int .i64 c2.ep, .int .i64 c2.cy, .slice (some ⟨bm, om, none⟩) r.t.mo.length c2.c1, .slice c2.A2 c2.lp.length c2.c2])
  have hc7 := (hb7.cell (p := ⟨bm, om + m * 3, none⟩) hbl).trans hc0
  have hbl7 := Nat.lt_of_lt_of_le hbl hb7.size
  clear hb7 HB6 HD6 hc0 hbl
  generalize w6.alloc (Obj.cells #[.string c2.nm, .int .i64 c2.ep, .int .i64 c2.cy, .slice (some ⟨bm, om, none⟩) r.t.mo.length c2.c1, .slice c2.A2 c2.lp.length c2.c2] 40) = w7 at *
  generalize w6.heap.size = gc at *
  go_wp2_with fail
  refine Calls.mono (HN.out w7 (HV.out.next HB7.out)) ?_
  rintro e w8 ⟨rfl, hb8⟩
  have HB8 := Lib.hid (below_then HB7.out hb8)
  have HD8 := Lib.hid (HD7.out.below hb8)
  have HC8 := Lib.hid (HC7.out.below hb8)
  have hc8 := (hb8.cell (p := ⟨bm, om + m * 3, none⟩) hbl7).trans hc7
  have hbl8 := Nat.lt_of_lt_of_le hbl7 hb8.size
  clear hb8 HB7 HD7 HC7 hc7 hbl7 HN
  go_wp2_with fail
  refine Calls.mono (HW.out c HOf.out y m d w8 (HV.out.next HB8.out) HH.out.1 HH.out.2.1 HH.out.2.2) ?_
  rintro e w9 ⟨rfl, hb9⟩
  have HB9 := Lib.hid (below_then HB8.out hb9)
  have x1 : w9.cell? ⟨gd, 1, none⟩ = some (.int .i64 ((m : Int) + 1)) := (HD8.out.below hb9).cell 1
  have x3 : w9.cell? ⟨gc, 3, none⟩ = some (.slice (some ⟨bm, om, none⟩) r.t.mo.length c2.c1) := (HC8.out.below hb9).cell 3
  have xm := (hb9.cell (p := ⟨bm, om + m * 3, none⟩) hbl8).trans hc8
  have q1 : (m : Int) + 1 - 1 = m := by omega
  have q2 : (0 : Int) ≤ (m : Int) := by omega
  have q3 : (m : Int) < (r.t.mo.length : Int) := by omega
  generalize hmnm : (r.t.mo.getD m mth0).nm = mn at *
  have t1 : (mn.toList == mn.toList) = true := beq_self_eq_true _
  clear hb9 HB8 HD8 HC8 hc8 hbl8 HW hmnm
  go_wp2_with fail
  go_ret
  exact ⟨rfl, HB9.out⟩

theorem walk (a0 : Int) (w0 : (Lit.int .i64 a0).wf = true) (a1 : Int) (w1 : (Lit.int .i64 a1).wf = true) (W : World) (hL : laidMet Tryz.prog Rows.catalogMonthsRow.laid W) (hsh : W.ShapedOpen Tryz.prog) :
    Calls Tryz.prog 4 #[.int .i64 a0, .int .i64 a1] W fun e w' => e = .returned (.bool true) ∧ Below W.heap.size W w' := by
  have h := core a0 a1 W (bounds_i64 w0).1 (bounds_i64 w0).2 ⟨sgs_of hL.tail.tail.tail.tail.tail.tail.tail.tail, lvs_of hL.tail.tail.tail.tail.tail.tail.tail, Shp.of hsh⟩
  exact h
end Go.Proofs.YtneeoghjddlenaaGreatDoor.catalogMonths
