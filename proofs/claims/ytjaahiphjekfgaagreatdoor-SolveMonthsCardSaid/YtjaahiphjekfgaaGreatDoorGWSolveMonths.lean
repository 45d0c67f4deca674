/- WSolveMonths -/
import Derived.Test.YtjaahiphjekfgaaGreatDoorGSv16
import Derived.Test.YtjaahiphjekfgaaGreatDoorGSmPl
import Derived.Test.YtjaahiphjekfgaaGreatDoorGCat1
import Derived.Test.YtjaahiphjekfgaaGreatDoorGBack1
import Derived.Test.YtjaahiphjekfgaaGreatDoorGLine1
/- The walk of SolveMonths: it returns true at every input; it writes nothing that was there. -/
namespace Go.Proofs.YtjaahiphjekfgaaGreatDoor.solveMonths
open Go Go.RowKit
attribute [local go_sem] Oper.semAt_some
set_option linter.unusedVariables false

theorem fd_sm {c : Cal} (ok : CalOk c) {day : Int} {y : Int} {m : Nat} {d : Int} (h1 : -10000 ≤ y) (h2 : y ≤ 10000) (h : IsOn c y m d day) (h3 : -4000000 ≤ day) (h4 : day ≤ 4000000) : -4000000 ≤ day ∧ day ≤ 4000000 ∧ c.ny (-10000) ≤ day ∧ day < c.ny 10001 := by
  have q := h.year ok
  have q1 := Cal.ny_le ok h1
  have q2 := Cal.ny_le ok (show y + 1 ≤ 10001 by omega)
  omega
theorem nm_short (r : CatRow) (hr : r ∈ catR) : (str r.nm).size ≤ maxLen := by
  have hd : catR.all (fun r => decide (r.nm.length ≤ 100)) = true := by decide +kernel
  have h := of_decide_eq_true (List.all_eq_true.1 hd r hr)
  rw [str_size]
  unfold maxLen
  omega
theorem nth_in {w : World} {gk : Nat} {a wd : Int} {nm : ByteArray} (hk : Box w gk 24 #[.int .i64 3, .int .i64 wd, .int .i64 0, .string ⟨#[]⟩, .slice none 0 0]) (ha : a = 1 ∨ a = -1) (hw : 0 ≤ wd ∧ wd ≤ 6) (hs : nm.size ≤ maxLen) : FeIn w w.heap.size (feNth a wd nm (some ⟨gk, 0, none⟩) 1) := by
  refine .mk ⟨by omega, by omega⟩ ⟨by omega, by omega⟩ ⟨by omega, by omega⟩ hs (by simp [maxLen]) ?_ ?_
  · have h := Row.of_box hk
    exact h
  · intro x hx
    rw [List.mem_singleton] at hx
    rw [hx]
    exact .mk ⟨by omega, by omega⟩ ⟨by omega, by omega⟩ ⟨by omega, by omega⟩ (by decide) (by decide) (.inl rfl) (fun x hx => by cases hx)

set_option maxRecDepth 100000 in
set_option maxHeartbeats 4000000 in
theorem core (k v0 day0 : Int) (w : World) (hk1 : -9223372036854775808 ≤ k) (hk2 : k ≤ 9223372036854775807) (hw1 : -9223372036854775808 ≤ v0) (hw2 : v0 ≤ 9223372036854775807) (hv : Env w) :
    Calls Tryz.prog 6 #[.int .i64 k, .int .i64 v0, .int .i64 day0] w fun e w' => e = .returned (.bool true) ∧ Below w.heap.size w w' := by
  have HV := Lib.hid (fun W (h : Below w.heap.size w W) => hv.next h)
  have HSo := Lib.hid (fun W (h : Below w.heap.size w W) => solves_any W (hv.next h))
  have HN := Lib.hid (fun W (h : Below w.heap.size w W) => name_any k W hk1 hk2 (hv.next h).h)
  have HCut := Lib.hid (fun W => cut_any day0 1 700000 W (by omega) (by omega) (by omega) (by omega))
  have b1 := Int.emod_nonneg day0 (show (700000 : Int) ≠ 0 by omega)
  have b2 := Int.emod_lt_of_pos day0 (show (0 : Int) < 700000 by omega)
  obtain ⟨day, hday⟩ : ∃ day, day = 1 + day0 % 700000 := ⟨_, rfl⟩
  rw [← hday] at HCut
  have hd1 : 1 ≤ day ∧ day ≤ 700000 := by omega
  have HR := Lib.hid (rowK_in k)
  have HDt := Lib.hid (fun d W (h : Below w.heap.size w W) => Date_any (rowK k) (rowK_in k) d W (hv.next h))
  unfold DateQ at HDt
  have HM := Lib.hid (fun W => lawmod_any v0 7 W (by omega) (by omega))
  obtain ⟨wd, hwd⟩ : ∃ wd, wd = v0 % 7 := ⟨_, rfl⟩
  rw [← hwd] at HM
  have hw : 0 ≤ wd ∧ wd ≤ 6 := by omega
  clear b1 b2 hday hv hk1 hk2 hwd hw1 hw2
  generalize rowK k = r at *
  go_enter Tryz.func6, Tryz.ntmps6
  go_wp2_with fail
  refine (HSo.out w (Below.refl _ _)).mono ?_
  rintro e w1 ⟨rfl, hb1⟩
  have HB1 := Lib.hid hb1
  clear hb1 HSo
  go_wp2_with fail
  refine (HN.out w1 HB1.out).mono ?_
  rintro e w2 ⟨rfl, hb2⟩
  have HB2 := Lib.hid (below_then HB1.out hb2)
  clear hb2 HB1
  go_upto_region 4 with (go_at_call 17; refine (HM.out _).mono ?_; rintro e w' ⟨rfl, rfl⟩)
  have hb4 := below_alloc2 w2 (Obj.cells #[.int .i64 3, .int .i64 wd, .int .i64 0, .string ⟨#[]⟩, .slice none 0 0] 24) (Obj.cells #[.int .i64 12, .int .i64 1, .int .i64 0, .string (str r.nm), .slice (some ⟨w2.heap.size, 0, none⟩) 1 1] 24)
  have hk4 := (Box.new w2 24 #[.int .i64 3, .int .i64 wd, .int .i64 0, .string ⟨#[]⟩, .slice none 0 0]).alloc (Obj.cells #[.int .i64 12, .int .i64 1, .int .i64 0, .string (str r.nm), .slice (some ⟨w2.heap.size, 0, none⟩) 1 1] 24)
  have hx4 := Box.new (w2.alloc (Obj.cells #[.int .i64 3, .int .i64 wd, .int .i64 0, .string ⟨#[]⟩, .slice none 0 0] 24)) 24 #[.int .i64 12, .int .i64 1, .int .i64 0, .string (str r.nm), .slice (some ⟨w2.heap.size, 0, none⟩) 1 1]
  rw [World.size_alloc] at hx4
  have HB4 := Lib.hid (below_then HB2.out hb4)
  have HK4 := Lib.hid hk4
  have HX4 := Lib.hid hx4
  clear hb4 hk4 hx4 HB2
  generalize (w2.alloc (Obj.cells #[.int .i64 3, .int .i64 wd, .int .i64 0, .string ⟨#[]⟩, .slice none 0 0] 24)).alloc (Obj.cells #[.int .i64 12, .int .i64 1, .int .i64 0, .string (str r.nm), .slice (some ⟨w2.heap.size, 0, none⟩) 1 1] 24) = w4 at *
  obtain ⟨gk, hgk⟩ : ∃ gk, gk = w2.heap.size := ⟨_, rfl⟩
  rw [← hgk] at HK4 HX4 ⊢
  obtain ⟨g7, hg7⟩ : ∃ g7, g7 = gk + 1 := ⟨_, rfl⟩
  rw [← hg7] at HX4 ⊢
  have hgg : gk ≠ g7 := by omega
  clear hgk hg7
  have HNx := Lib.hid (fun (a x : Int) (ha : a = 1 ∨ a = -1) W (h : Below w.heap.size w W) (hk : Box W gk 24 #[.int .i64 3, .int .i64 wd, .int .i64 0, .string ⟨#[]⟩, .slice none 0 0]) => next_any (feNth a wd (str r.nm) (some ⟨gk, 0, none⟩) 1) x W (HV.out W h) (nth_in hk ha hw (nm_short r HR.out)))
  unfold NextQ at HNx
  have HGd := Lib.hid (fun (a : Int) (ha : a = 1 ∨ a = -1) => feNth_good (a := a) (wd := wd) HR.out (A := some ⟨gk, 0, none⟩) (c := 1) ha hw)
  obtain ⟨x0, x1, x2, x3, x4⟩ := fecells HX4.out
  have HN1 := Lib.hid (HNx.out 1 day (.inl rfl) w4 HB4.out HK4.out)
  rw [show feV (feNth 1 wd (str r.nm) (some ⟨gk, 0, none⟩) 1) = .agg #[.int .i64 12, .int .i64 1, .int .i64 0, .string (str r.nm), .slice (some ⟨gk, 0, none⟩) 1 1] from rfl] at HN1
  go_wp2_with (go_at_call 9; refine (HCut.out _).mono ?_; rintro e w' ⟨rfl, rfl⟩)
  refine HN1.out.mono ?_
  rintro e w5 ⟨n, E, rfl, hb5, _, hy⟩
  have HB5 := Lib.hid (below_then HB4.out hb5)
  have HK5 := Lib.hid (HK4.out.below hb5)
  have HX5 := Lib.hid (HX4.out.below hb5)
  have hyy : E = 0 ∧ day ≤ n ∧ n ≤ day + 3000 ∧ memF (feNth 1 wd (str r.nm) (some ⟨gk, 0, none⟩) 1) n := by
    rcases hy ⟨HGd.out 1 (.inl rfl), ⟨by omega, by omega⟩⟩ with ⟨h0, h1, h2, h3, _⟩ | ⟨_, _, h4⟩
    · exact ⟨h0, h1, h2, h3⟩
    · obtain ⟨x, q1, q2, q3⟩ := first_soon HR.out (some ⟨gk, 0, none⟩) 1 hw day hd1.1 hd1.2
      exact absurd q3 (h4 x q1 q2)
  obtain ⟨rfl, hn1, hn2, hmem⟩ := hyy
  have ok := rowCal_ok HR.out
  obtain ⟨y, hy1, hy2, hy3, hy4⟩ := year_at HR.out n (by omega) (by omega)
  obtain ⟨m, d, ho⟩ := Cal.has ok y n hy3 hy4
  have hfi := (first_iff HR.out (some ⟨gk, 0, none⟩) 1 ho hy1 hy2 (by omega)).1 hmem
  have HO := Lib.hid (show IsOn (rowCal r) y m d n ∧ -10000 ≤ y ∧ y ≤ 10000 from ⟨ho, hy1, hy2⟩)
  have hdd : 0 ≤ d ∧ d < 7 := ⟨ho.d0, hfi.2⟩
  have hnb : 1 ≤ n ∧ n ≤ 703000 := by omega
  have HWk := Lib.hid hfi.1
  have HWd := Lib.hid (fun W => Weekday_yes n W (by omega) (by omega))
  rw [hfi.1] at HWd
  have HOk := Lib.hid ok
  have HOn : Hid (∀ (x : Int) (y' : Int) (m' : Nat) (d' : Int) (c : Cal), CalOf r c → IsOn (rowCal r) y' m' d' x → IsOn c y' m' d' x) := fun x y' m' d' c hof h => ((rowCal_of r).on hof _ _ _ _).1 h
  clear hy hb5 HN1 hmem ok ho hy1 hy2 hy3 hy4 hfi HB4 HK4 HX4 HCut x0 x1 x2 x3 x4
  have hml := Cal.mlen_in HOk.out y m HO.out.1.m1
  have hmo : m < 1000 := by have := HO.out.1.m1; have := HOk.out.mo.n2; omega
  go_wp2_with fail
  refine (HN.out w5 HB5.out).mono ?_
  rintro e w6 ⟨rfl, hb6⟩
  have HB6 := Lib.hid (below_then HB5.out hb6)
  have HK6 := Lib.hid (HK5.out.below hb6)
  have HX6 := Lib.hid (HX5.out.below hb6)
  clear hb6 HB5 HK5 HX5
  go_wp2_with fail
  refine (HDt.out n w6 HB6.out).mono ?_
  rintro e w7 ⟨c7, hof, ok7, hb7, hc⟩
  have HB7 := Lib.hid (below_then HB6.out hb7)
  have HK7 := Lib.hid (HK6.out.below hb7)
  have HX7 := Lib.hid (HX6.out.below hb7)
  have ho7 := HOn.out n y m d c7 hof HO.out.1
  have hE : e = .returned (.tuple #[.agg (dateC y ((m : Int) + 1) (d + 1)), .int .i64 0]) := by
    rcases hc with ⟨y', m', d', _, _, ho', rfl⟩ | ⟨hno, _⟩
    · obtain ⟨rfl, rfl, rfl⟩ := ho'.unique ok7 ho7
      rfl
    · exact absurd (fd_sm ok7 HO.out.2.1 HO.out.2.2 ho7 (by omega) (by omega)) hno
  subst hE
  clear hb7 hc ho7 ok7 hof HB6 HK6 HX6
  unfold dateC
  go_upto_region 9 with fail
  have hb8 := below_alloc1 w7 (Obj.cells #[.int .i64 y, .int .i64 ((m : Int) + 1), .int .i64 (d + 1)] 45)
  have HB8 := Lib.hid (below_then HB7.out hb8)
  have HK8 := Lib.hid (HK7.out.below hb8)
  have HX8 := Lib.hid (HX7.out.below hb8)
  have HD8 := Lib.hid (Box.new w7 45 #[.int .i64 y, .int .i64 ((m : Int) + 1), .int .i64 (d + 1)])
  clear hb8 HB7 HK7 HX7
  generalize w7.alloc (Obj.cells #[.int .i64 y, .int .i64 ((m : Int) + 1), .int .i64 (d + 1)] 45) = w8 at *
  generalize w7.heap.size = g10 at *
  go_upto_region 10 with (go_at_call 20; refine (HWd.out _).mono ?_; rintro e w' ⟨rfl, nw, rfl⟩)
  have HB9 := Lib.hid (below_drew HB8.out nw)
  have HK9 := Lib.hid (HK8.out.drewN nw)
  have HX9 := Lib.hid (HX8.out.drewN nw)
  have HD9 := Lib.hid (HD8.out.drewN nw)
  clear HB8 HK8 HX8 HD8
  generalize w8.drewN nw = w9 at *
  have t1 : (wd != wd) = false := by rw [bne_eq_false_iff_eq]
  have t2 : decide (7 < d + 1) = false := decide_eq_false (by omega)
  have z2 : w9.cell? ⟨g10, 2, none⟩ = some (.int .i64 (d + 1)) := HD9.out.cell 2
  obtain ⟨x0, x1, x2, x3, x4⟩ := fecells HX9.out
  go_upto_region 16 with (go_at_call 17; refine (HM.out _).mono ?_; rintro e w' ⟨rfl, rfl⟩)
  have hb10 := below_alloc1 w9 (Obj.cells #[.int .i64 12, .int .i64 (-1), .int .i64 0, .string (str r.nm), .slice (some ⟨gk, 0, none⟩) 1 1] 24)
  have HB10 := Lib.hid (below_then HB9.out hb10)
  have HK10 := Lib.hid (HK9.out.below hb10)
  have HD10 := Lib.hid (HD9.out.below hb10)
  have HY10 := Lib.hid (Box.new w9 24 #[.int .i64 12, .int .i64 (-1), .int .i64 0, .string (str r.nm), .slice (some ⟨gk, 0, none⟩) 1 1])
  clear hb10 HB9 HK9 HX9 HD9 x0 x1 x2 x3 x4 t1 t2 z2 HM HWd
  generalize w9.alloc (Obj.cells #[.int .i64 12, .int .i64 (-1), .int .i64 0, .string (str r.nm), .slice (some ⟨gk, 0, none⟩) 1 1] 24) = w10 at *
  generalize w9.heap.size = g14 at *
  have HN2 := Lib.hid (HNx.out (-1) n (.inr rfl) w10 HB10.out HK10.out)
  rw [show feV (feNth (-1) wd (str r.nm) (some ⟨gk, 0, none⟩) 1) = .agg #[.int .i64 12, .int .i64 (-1), .int .i64 0, .string (str r.nm), .slice (some ⟨gk, 0, none⟩) 1 1] from rfl] at HN2
  obtain ⟨x0, x1, x2, x3, x4⟩ := fecells HY10.out
  go_wp2_with fail
  refine HN2.out.mono ?_
  rintro e w11 ⟨l, E, rfl, hb11, _, hy⟩
  have HB11 := Lib.hid (below_then HB10.out hb11)
  have HD11 := Lib.hid (HD10.out.below hb11)
  have ho := HO.out.1
  have hon := ho.on
  have hwk := HWk.out
  have hdl := ho.d1
  have hcd : memF (feNth (-1) wd (str r.nm) (some ⟨gk, 0, none⟩) 1) (n + 7 * (((rowCal r).mlen y m - 1 - d) / 7)) := by
    have hoc : IsOn (rowCal r) y m (d + 7 * (((rowCal r).mlen y m - 1 - d) / 7)) (n + 7 * (((rowCal r).mlen y m - 1 - d) / 7)) := ⟨ho.m1, by omega, by omega, by omega⟩
    exact (last_iff HR.out (some ⟨gk, 0, none⟩) 1 hoc HO.out.2.1 HO.out.2.2 (by omega)).2 ⟨by omega, by omega⟩
  have hyy : E = 0 ∧ n ≤ l ∧ l ≤ n + 7 * (((rowCal r).mlen y m - 1 - d) / 7) ∧ memF (feNth (-1) wd (str r.nm) (some ⟨gk, 0, none⟩) 1) l := by
    rcases hy ⟨HGd.out (-1) (.inr rfl), ⟨by omega, by omega⟩⟩ with ⟨h0, h1, h2, h3, h4⟩ | ⟨_, _, h4⟩
    · refine ⟨h0, h1, ?_, h3⟩
      by_cases hlt : n + 7 * (((rowCal r).mlen y m - 1 - d) / 7) < l
      · exact absurd hcd (h4 _ (by omega) hlt)
      · omega
    · exact absurd hcd (h4 _ (by omega) (by omega))
  obtain ⟨rfl, hl1, hl2, hlm⟩ := hyy
  obtain ⟨d2, hd2⟩ : ∃ d2, d2 = d + (l - n) := ⟨_, rfl⟩
  have ho2 : IsOn (rowCal r) y m d2 l := ⟨ho.m1, by omega, by omega, by omega⟩
  have hla := (last_iff HR.out (some ⟨gk, 0, none⟩) 1 ho2 HO.out.2.1 HO.out.2.2 (by omega)).1 hlm
  have HO2 := Lib.hid ho2
  have HLen := Lib.hid hla.2
  have hl7 : (l - n) % 7 = 0 := by have := hla.1; omega
  have hlb : 1 ≤ l ∧ l ≤ 710000 := by omega
  have hrem : Int.tmod (l - n) 7 = 0 := by rw [Int.tmod_eq_emod_of_nonneg (by omega)]; exact hl7
  have HRem := Lib.hid hrem
  clear hy hb11 HN2 hlm hla hl7 ho2 hcd ho hon hwk hdl HB10 HK10 HD10 HY10 hd2 x0 x1 x2 x3 x4 hrem hl2
  go_wp2_with fail
  refine (HN.out w11 HB11.out).mono ?_
  rintro e w12 ⟨rfl, hb12⟩
  have HB12 := Lib.hid (below_then HB11.out hb12)
  have HD12 := Lib.hid (HD11.out.below hb12)
  clear hb12 HB11 HD11
  go_wp2_with fail
  refine (HDt.out l w12 HB12.out).mono ?_
  rintro e w13 ⟨c7, hof, ok7, hb13, hc⟩
  have HB13 := Lib.hid (below_then HB12.out hb13)
  have HD13 := Lib.hid (HD12.out.below hb13)
  have ho7 := HOn.out l y m d2 c7 hof HO2.out
  have hE : e = .returned (.tuple #[.agg (dateC y ((m : Int) + 1) (d2 + 1)), .int .i64 0]) := by
    rcases hc with ⟨y', m', d', _, _, ho', rfl⟩ | ⟨hno, _⟩
    · obtain ⟨rfl, rfl, rfl⟩ := ho'.unique ok7 ho7
      rfl
    · exact absurd (fd_sm ok7 HO.out.2.1 HO.out.2.2 ho7 (by omega) (by omega)) hno
  subst hE
  clear hb13 hc ho7 ok7 hof HB12 HD12
  unfold dateC
  go_upto_region 20 with fail
  have hb14 := below_alloc1 w13 (Obj.cells #[.int .i64 y, .int .i64 ((m : Int) + 1), .int .i64 (d2 + 1)] 45)
  have HB14 := Lib.hid (below_then HB13.out hb14)
  have HD14 := Lib.hid (HD13.out.below hb14)
  have HE14 := Lib.hid (Box.new w13 45 #[.int .i64 y, .int .i64 ((m : Int) + 1), .int .i64 (d2 + 1)])
  clear hb14 HB13 HD13
  generalize w13.alloc (Obj.cells #[.int .i64 y, .int .i64 ((m : Int) + 1), .int .i64 (d2 + 1)] 45) = w14 at *
  generalize w13.heap.size = g16 at *
  have a0 : w14.cell? ⟨g10, 0, none⟩ = some (.int .i64 y) := HD14.out.cell 0
  have a1 : w14.cell? ⟨g10, 1, none⟩ = some (.int .i64 ((m : Int) + 1)) := HD14.out.cell 1
  have c0 : w14.cell? ⟨g16, 0, none⟩ = some (.int .i64 y) := HE14.out.cell 0
  have c1 : w14.cell? ⟨g16, 1, none⟩ = some (.int .i64 ((m : Int) + 1)) := HE14.out.cell 1
  have t1 : (y != y) = false := by rw [bne_eq_false_iff_eq]
  have t2 : ((m : Int) + 1 != (m : Int) + 1) = false := by rw [bne_eq_false_iff_eq]
  have ew1 : IntKind.i64.wrap (l - n) = l - n := intFits _ (by omega) (by omega)
  have t3 : Int.tmod (l - n) 7 = 0 := HRem.out
  have ew2 : (l - n) % 7 = 0 := by rw [← HRem.out, Int.tmod_eq_emod_of_nonneg (by omega)]
  have t4 : 0 ≤ l - n := by omega
  have t4' : IntKind.i64.wrap 0 = 0 := rfl
  go_upto_region 22 with fail
  clear a0 a1 t3 ew1 ew2 t4 t4'
  have ew3 : IntKind.i64.wrap (l + 7) = l + 7 := intFits _ (by omega) (by omega)
  go_wp2_with fail
  refine (HN.out w14 HB14.out).mono ?_
  rintro e w15 ⟨rfl, hb15⟩
  have HB15 := Lib.hid (below_then HB14.out hb15)
  have HE15 := Lib.hid (HE14.out.below hb15)
  clear hb15 HB14 HE14 c0 c1 HD14
  go_wp2_with fail
  refine (HDt.out (l + 7) w15 HB15.out).mono ?_
  rintro e w16 ⟨c7, hof, ok7, hb16, hc⟩
  have HB16 := Lib.hid (below_then HB15.out hb16)
  have HE16 := Lib.hid (HE15.out.below hb16)
  have ho7 := HOn.out l y m d2 c7 hof HO2.out
  have hml7 : c7.mlen y m = (rowCal r).mlen y m := mlen_of hof (rowCal_of r) y m
  rcases hc with ⟨y', m', d', _, _, ho', rfl⟩ | ⟨_, rfl⟩
  case inr =>
    clear hb16 ho7 ok7 hof HB15 HE15 hml7
    unfold dateC
    go_upto_region 23 with fail
    have HB17 := Lib.hid (HB16.out.alloc HB16.out.size (Obj.cells #[.int .i64 0, .int .i64 0, .int .i64 0] 45))
    go_wp2_with fail
    go_ret
    exact ⟨rfl, HB17.out⟩
  have hne : ¬ (m' = m ∧ y' = y) := by
    rintro ⟨rfl, rfl⟩
    have q1 := ho'.on
    have q2 := ho7.on
    have q3 := ho'.d1
    have q4 := HLen.out
    omega
  have HNe := Lib.hid hne
  have hmo' : m' < 1000 := by have := ho'.m1; have := ok7.mo.n2; omega
  clear hb16 ho7 ok7 hof HB15 HE15 hml7 ho' hne
  unfold dateC
  go_upto_region 23 with fail
  have hb17 := below_alloc1 w16 (Obj.cells #[.int .i64 y', .int .i64 ((m' : Int) + 1), .int .i64 (d' + 1)] 45)
  have HB17 := Lib.hid (below_then HB16.out hb17)
  have HE17 := Lib.hid (HE16.out.below hb17)
  have HF17 := Lib.hid (Box.new w16 45 #[.int .i64 y', .int .i64 ((m' : Int) + 1), .int .i64 (d' + 1)])
  clear hb17 HB16 HE16
  generalize w16.alloc (Obj.cells #[.int .i64 y', .int .i64 ((m' : Int) + 1), .int .i64 (d' + 1)] 45) = w17 at *
  generalize w16.heap.size = g18 at *
  have c0 : w17.cell? ⟨g16, 0, none⟩ = some (.int .i64 y) := HE17.out.cell 0
  have c1 : w17.cell? ⟨g16, 1, none⟩ = some (.int .i64 ((m : Int) + 1)) := HE17.out.cell 1
  have e0 : w17.cell? ⟨g18, 0, none⟩ = some (.int .i64 y') := HF17.out.cell 0
  have e1 : w17.cell? ⟨g18, 1, none⟩ = some (.int .i64 ((m' : Int) + 1)) := HF17.out.cell 1
  by_cases hmm : m' = m
  · have hyn : ¬ y' = y := fun h => HNe.out ⟨hmm, h⟩
    subst hmm
    have t5 : (y' != y) = true := by rw [bne_iff_ne]; exact hyn
    clear hyn
    go_wp2_with fail
    go_ret
    exact ⟨rfl, HB17.out⟩
  · have t5 : ((m' : Int) + 1 != (m : Int) + 1) = true := by rw [bne_iff_ne]; omega
    clear hmm
    go_wp2_with fail
    go_ret
    exact ⟨rfl, HB17.out⟩

theorem walk (a0 : Int) (w0 : (Lit.int .i64 a0).wf = true) (a1 : Int) (w1 : (Lit.int .i64 a1).wf = true) (a2 : Int) (w2 : (Lit.int .i64 a2).wf = true) (W : World) (hL : laidMet Tryz.prog Rows.solveMonthsRow.laid W) (hsh : W.ShapedOpen Tryz.prog) :
    Calls Tryz.prog 6 #[.int .i64 a0, .int .i64 a1, .int .i64 a2] W fun e w' => e = .returned (.bool true) ∧ Below W.heap.size W w' :=
  core a0 a1 a2 W (bounds_i64 w0).1 (bounds_i64 w0).2 (bounds_i64 w1).1 (bounds_i64 w1).2 ⟨sgs_of hL.tail.tail.tail.tail.tail.tail.tail, lvs_of hL.tail.tail.tail.tail.tail.tail, Shp.of hsh⟩
end Go.Proofs.YtjaahiphjekfgaaGreatDoor.solveMonths
