/- The walk of ObservedSame: it returns true at every input; it writes nothing that was there. -/
import Derived.Test.YtfindembancjdaaObsLaw
namespace Go.Proofs.Ytfindembancjdaa.observedSame
open Go.RowKit
set_option linter.unusedVariables false

/-- the table of the plain rule -/
theorem plain_of (W : World) : Calls Try.prog 28 #[.agg #[.string ⟨#[112, 108, 97, 105, 110]⟩, .int .i64 1, .int .i64 0, .int .i64 1, .int .i64 59, .int .i64 2, .int .i64 1, .int .i64 1, .int .i64 1, .slice none 0 0, .slice none 0 0], .int .i64 1, .int .i64 1] W fun e w' => ∃ t : Tab, e = .returned (.tuple #[t.val, .int .i64 0]) ∧ TabGood plainM 1 1 W w' t ∧ Below W.heap.size W w' := by
  refine (show Calls Try.prog 28 #[plainM.val, .int .i64 1, .int .i64 ((1 : Nat) : Int)] W _ from Of_one plainM 1 1 W (plain_in W) plain_fit (by omega) (by omega) (by omega) (by omega)).mono ?_
  rintro e w' ⟨t, E, he, ⟨rfl, h⟩ | ⟨_, hn⟩, hb⟩
  · exact ⟨t, he, h, hb⟩
  · exact absurd ⟨plain_ok, plain_days1⟩ hn
theorem plain_fd (t : Tab) (w w' W : World) (h : TabGood plainM 1 1 w w' t) (hT : TIn W t) : Calls Try.prog 29 #[t.val, .int .i64 31] W fun e w' => e = .returned (.tuple #[.agg #[.int .i64 1, .int .i64 2, .int .i64 2], .int .i64 0]) ∧ Below W.heap.size W w' := by
  obtain ⟨j, k, p, hp⟩ := h.place 31 (by decide +kernel) (by decide +kernel)
  have hs := hp.same plain_ok 1 2 (by decide) (by decide) (by decide) (by decide)
  refine (oFromDay_yes t 31 j k p W hT (h.ok plain_fit (by omega) (by omega) (by omega) (by omega)) hp.hj hp.k1 hp.k2 hp.kp hp.d1 hp.d2).mono ?_
  rintro e w' ⟨rfl, hb⟩
  refine ⟨?_, hb⟩
  rw [hp.b1, ← hs.1, ← hs.2]
  rfl

set_option maxHeartbeats 8000000 in
set_option maxRecDepth 100000 in
theorem core (m : Mo) (x z : Int) (w : World) (hm : MIn w m) (hf : MFit m) :
    Calls Try.prog 8 #[m.val, .int .i64 x, .int .i64 z] w fun e w' => e = .returned (.bool true) ∧ Below w.heap.size w w' := by
  have HC := Lib.hid (fun w => cut_any x (-2000) 4000 w (by omega) (by omega) (by omega) (by omega))
  have hy1 : -2000 ≤ -2000 + x % 4000 := by omega
  have hy2 : -2000 + x % 4000 < 2000 := by omega
  generalize -2000 + x % 4000 = first at *
  have hB1 := below_alloc2 w (Obj.cells m.cells 36) (Obj.cells #[.string ⟨#[112, 108, 97, 105, 110]⟩, .int .i64 1, .int .i64 0, .int .i64 1, .int .i64 59, .int .i64 2, .int .i64 1, .int .i64 1, .int .i64 1, .slice none 0 0, .slice none 0 0] 36)
  have hx1 := (Box.new w 36 m.cells).alloc (Obj.cells #[.string ⟨#[112, 108, 97, 105, 110]⟩, .int .i64 1, .int .i64 0, .int .i64 1, .int .i64 59, .int .i64 2, .int .i64 1, .int .i64 1, .int .i64 1, .slice none 0 0, .slice none 0 0] 36)
  have hm1 := hm.next hB1
  go_enter Try.func8, Try.ntmps8
  go_wp2_with fail
  generalize (w.alloc (Obj.cells m.cells 36)).alloc (Obj.cells #[.string ⟨#[112, 108, 97, 105, 110]⟩, .int .i64 1, .int .i64 0, .int .i64 1, .int .i64 59, .int .i64 2, .int .i64 1, .int .i64 1, .int .i64 1, .slice none 0 0, .slice none 0 0] 36) = W1 at *
  obtain ⟨g, hg⟩ : ∃ g, g = w.heap.size := ⟨_, rfl⟩
  rw [← hg] at hx1
  rw [← hg]
  have HM0 := Lib.hid hm
  clear hg hm
  refine (plain_of W1).mono ?_
  rintro e w1 ⟨t1, rfl, hg1, hb1⟩
  have hgtw := (below_then hB1 hb1).size
  have HT1 := Lib.hid (show TIn w1 t1 from hg1.2.2.2.2.2.1)
  have HG1 := Lib.hid hg1
  clear hg1
  replace hx1 := (hx1.below hb1).alloc (Obj.cells t1.cells 67)
  replace hm1 := (hm1.next hb1).next (below_alloc1 w1 (Obj.cells t1.cells 67))
  replace hB1 := Lib.hid (below_then (below_then hB1 hb1) (below_alloc1 w1 (Obj.cells t1.cells 67)))
  have hbt := Box.new w1 67 t1.cells
  replace HT1 := Lib.hid (HT1.out.next (below_alloc1 w1 (Obj.cells t1.cells 67)))
  clear hb1
  go_wp2_with fail
  generalize w1.alloc (Obj.cells t1.cells 67) = W2 at *
  generalize hgt : w1.heap.size = gt at *
  clear hgt
  refine (plain_fd t1 _ _ _ HG1.out HT1.out).mono ?_
  rintro e w2 ⟨rfl, hb2⟩
  have hx2 := (hx1.below hb2).alloc (Obj.cells #[.int .i64 1, .int .i64 2, .int .i64 2] 44)
  have hbt2 := (hbt.below hb2).alloc (Obj.cells #[.int .i64 1, .int .i64 2, .int .i64 2] 44)
  replace hm1 := (hm1.next hb2).next (below_alloc1 w2 (Obj.cells #[.int .i64 1, .int .i64 2, .int .i64 2] 44))
  replace hB1 := Lib.hid (below_then (below_then hB1.out hb2) (below_alloc1 w2 (Obj.cells #[.int .i64 1, .int .i64 2, .int .i64 2] 44)))
  clear hb2 hx1 hbt HG1 HT1
  have ds := date_same
  have dg := date_guard
  go_wp2_with fail
  have hgl := hx2.lt
  have hne : g ≠ gt := fun e => by
    rw [e] at hx2
    have h1 := hx2.symm.trans hbt2
    simp at h1
  generalize w2.alloc (Obj.cells #[.int .i64 1, .int .i64 2, .int .i64 2] 44) = W3 at *
  have HOf := Lib.hid (show Calls Try.prog 28 #[m.val, .int .i64 first, .int .i64 3] W3.drew _ from Of_one m first 3 W3.drew (show MIn W3 m from hm1) hf (by omega) (by omega) (by omega) (by omega))
  have HX2 := Lib.hid hx2
  have HBT2 := Lib.hid hbt2
  have hS0 : W3.drew.cell? ⟨g, 0, none⟩ = some (.string m.nm) ∧ W3.drew.cell? ⟨g, 1, none⟩ = some (.int .i64 m.ep) ∧ W3.drew.cell? ⟨g, 2, none⟩ = some (.int .i64 m.sn) ∧ W3.drew.cell? ⟨g, 3, none⟩ = some (.int .i64 m.sd) ∧ W3.drew.cell? ⟨g, 4, none⟩ = some (.int .i64 m.mn) ∧ W3.drew.cell? ⟨g, 5, none⟩ = some (.int .i64 m.md) ∧ W3.drew.cell? ⟨g, 6, none⟩ = some (.int .i64 m.ln) ∧ W3.drew.cell? ⟨g, 7, none⟩ = some (.int .i64 m.ld) ∧ W3.drew.cell? ⟨g, 8, none⟩ = some (.int .i64 m.cy) ∧ W3.drew.cell? ⟨g, 9, none⟩ = some (.slice m.A1 m.lp.length m.c1) ∧ W3.drew.cell? ⟨g, 10, none⟩ = some (.slice m.A2 m.av.length m.c2) := mcells hx2
  have HK : Hid (∀ w' v0 v1 v2 v3, Box w' g 36 m.cells → ((((w'.setCell ⟨gt,0,none⟩ v0).setCell ⟨gt,1,none⟩ v1).setCell ⟨gt,2,none⟩ v2).setCell ⟨gt,3,none⟩ v3).cell? ⟨g, 0, none⟩ = some (.string m.nm) ∧ ((((w'.setCell ⟨gt,0,none⟩ v0).setCell ⟨gt,1,none⟩ v1).setCell ⟨gt,2,none⟩ v2).setCell ⟨gt,3,none⟩ v3).cell? ⟨g, 1, none⟩ = some (.int .i64 m.ep) ∧ ((((w'.setCell ⟨gt,0,none⟩ v0).setCell ⟨gt,1,none⟩ v1).setCell ⟨gt,2,none⟩ v2).setCell ⟨gt,3,none⟩ v3).cell? ⟨g, 2, none⟩ = some (.int .i64 m.sn) ∧ ((((w'.setCell ⟨gt,0,none⟩ v0).setCell ⟨gt,1,none⟩ v1).setCell ⟨gt,2,none⟩ v2).setCell ⟨gt,3,none⟩ v3).cell? ⟨g, 3, none⟩ = some (.int .i64 m.sd) ∧ ((((w'.setCell ⟨gt,0,none⟩ v0).setCell ⟨gt,1,none⟩ v1).setCell ⟨gt,2,none⟩ v2).setCell ⟨gt,3,none⟩ v3).cell? ⟨g, 4, none⟩ = some (.int .i64 m.mn) ∧ ((((w'.setCell ⟨gt,0,none⟩ v0).setCell ⟨gt,1,none⟩ v1).setCell ⟨gt,2,none⟩ v2).setCell ⟨gt,3,none⟩ v3).cell? ⟨g, 5, none⟩ = some (.int .i64 m.md) ∧ ((((w'.setCell ⟨gt,0,none⟩ v0).setCell ⟨gt,1,none⟩ v1).setCell ⟨gt,2,none⟩ v2).setCell ⟨gt,3,none⟩ v3).cell? ⟨g, 6, none⟩ = some (.int .i64 m.ln) ∧ ((((w'.setCell ⟨gt,0,none⟩ v0).setCell ⟨gt,1,none⟩ v1).setCell ⟨gt,2,none⟩ v2).setCell ⟨gt,3,none⟩ v3).cell? ⟨g, 7, none⟩ = some (.int .i64 m.ld) ∧ ((((w'.setCell ⟨gt,0,none⟩ v0).setCell ⟨gt,1,none⟩ v1).setCell ⟨gt,2,none⟩ v2).setCell ⟨gt,3,none⟩ v3).cell? ⟨g, 8, none⟩ = some (.int .i64 m.cy) ∧ ((((w'.setCell ⟨gt,0,none⟩ v0).setCell ⟨gt,1,none⟩ v1).setCell ⟨gt,2,none⟩ v2).setCell ⟨gt,3,none⟩ v3).cell? ⟨g, 9, none⟩ = some (.slice m.A1 m.lp.length m.c1) ∧ ((((w'.setCell ⟨gt,0,none⟩ v0).setCell ⟨gt,1,none⟩ v1).setCell ⟨gt,2,none⟩ v2).setCell ⟨gt,3,none⟩ v3).cell? ⟨g, 10, none⟩ = some (.slice m.A2 m.av.length m.c2)) := fun w' v0 v1 v2 v3 h =>
    mcells ((((h.far (p := ⟨gt, 0, none⟩) hne v0).far (p := ⟨gt, 1, none⟩) hne v1).far (p := ⟨gt, 2, none⟩) hne v2).far (p := ⟨gt, 3, none⟩) hne v3)
  clear hx2 hbt2 ds dg
  go_region_held3 (fun W => W.cell? ⟨g, 0, none⟩ = some (.string m.nm) ∧ W.cell? ⟨g, 1, none⟩ = some (.int .i64 m.ep) ∧ W.cell? ⟨g, 2, none⟩ = some (.int .i64 m.sn) ∧ W.cell? ⟨g, 3, none⟩ = some (.int .i64 m.sd) ∧ W.cell? ⟨g, 4, none⟩ = some (.int .i64 m.mn) ∧ W.cell? ⟨g, 5, none⟩ = some (.int .i64 m.md) ∧ W.cell? ⟨g, 6, none⟩ = some (.int .i64 m.ln) ∧ W.cell? ⟨g, 7, none⟩ = some (.int .i64 m.ld) ∧ W.cell? ⟨g, 8, none⟩ = some (.int .i64 m.cy) ∧ W.cell? ⟨g, 9, none⟩ = some (.slice m.A1 m.lp.length m.c1) ∧ W.cell? ⟨g, 10, none⟩ = some (.slice m.A2 m.av.length m.c2)) (first | assumption | exact HK.out _ _ _ _ _ bx3)
    (first
      | (go_at_call 13; ((with_reducible refine (HC.out _).mono ?_)); rintro e w' ⟨rfl, rfl⟩)
      | (go_at_call 28; ((with_reducible refine HOf.out.mono ?_)); rintro e w3 ⟨t, E, rfl, hone, hb3⟩; have HOne := Lib.hid hone; have HB3 := Lib.hid hb3; have bx3 : Box w3 g _ _ := Box.below (w := W3.drew) HX2.out hb3; have bt3 : Box w3 gt _ _ := Box.below (w := W3.drew) HBT2.out hb3; clear hone hb3; have hS3 := mcells bx3; obtain ⟨z0, z1, z2, z3⟩ := tcells bt3; have zf := fun i => bt3.free i))
  have HB4 : Hid (Below w.heap.size w ((((w3.setCell ⟨gt, 0, none⟩ (.string t.nm)).setCell ⟨gt, 1, none⟩ (.int .i64 t.first)).setCell ⟨gt, 2, none⟩ (.slice t.A1 t.ms.length t.c1)).setCell ⟨gt, 3, none⟩ (.slice t.A2 t.ss.length t.c2))) :=
    ((((below_then (below_drew hB1.out 1) HB3.out).setCell (p := ⟨gt, 0, none⟩) hgtw _).setCell (p := ⟨gt, 1, none⟩) hgtw _).setCell (p := ⟨gt, 2, none⟩) hgtw _).setCell (p := ⟨gt, 3, none⟩) hgtw _
  have BX4 := Lib.hid ((((bx3.far (p := ⟨gt, 0, none⟩) hne (.string t.nm)).far (p := ⟨gt, 1, none⟩) hne (.int .i64 t.first)).far (p := ⟨gt, 2, none⟩) hne (.slice t.A1 t.ms.length t.c1)).far (p := ⟨gt, 3, none⟩) hne (.slice t.A2 t.ss.length t.c2))
  have BT4 : Hid (Box ((((w3.setCell ⟨gt, 0, none⟩ (.string t.nm)).setCell ⟨gt, 1, none⟩ (.int .i64 t.first)).setCell ⟨gt, 2, none⟩ (.slice t.A1 t.ms.length t.c1)).setCell ⟨gt, 3, none⟩ (.slice t.A2 t.ss.length t.c2)) gt 67 t.cells) :=
    (((bt3.set_ 0 (.string t.nm)).set_ 1 (.int .i64 t.first)).set_ 2 (.slice t.A1 t.ms.length t.c1)).set_ 3 (.slice t.A2 t.ss.length t.c2)
  have hgt3 : gt < W3.heap.size := HBT2.out.lt
  have HTI : Hid (TabGood m first 3 W3.drew w3 t → TIn ((((w3.setCell ⟨gt, 0, none⟩ (.string t.nm)).setCell ⟨gt, 1, none⟩ (.int .i64 t.first)).setCell ⟨gt, 2, none⟩ (.slice t.A1 t.ms.length t.c1)).setCell ⟨gt, 3, none⟩ (.slice t.A2 t.ss.length t.c2)) t) := fun h => by
    obtain ⟨_, _, _, _, _, hT, _, _, _, _, f1, f2, _⟩ := h
    have k1 : ∀ a, t.A1 = some a → a.block ≠ gt := fun a ha e => by have := f1 a ha; rw [e] at this; exact absurd hgt3 (by simpa using this)
    have k2 : ∀ a, t.A2 = some a → a.block ≠ gt := fun a ha e => by have := f2 a ha; rw [e] at this; exact absurd hgt3 (by simpa using this)
    exact (((hT.set_ ⟨gt, 0, none⟩ _ k1 k2).set_ ⟨gt, 1, none⟩ _ k1 k2).set_ ⟨gt, 2, none⟩ _ k1 k2).set_ ⟨gt, 3, none⟩ _ k1 k2
  clear HB3 bx3 bt3 hS3 z0 z1 z2 z3 zf hS0 HX2 HBT2 HOf HK
  generalize (((w3.setCell ⟨gt, 0, none⟩ (.string t.nm)).setCell ⟨gt, 1, none⟩ (.int .i64 t.first)).setCell ⟨gt, 2, none⟩ (.slice t.A1 t.ms.length t.c1)).setCell ⟨gt, 3, none⟩ (.slice t.A2 t.ss.length t.c2) = W4 at *
  rcases HOne.out with ⟨rfl, hgood⟩ | ⟨hE, _⟩
  case inr =>
    have t1 : (E != 0) = true := by rw [bne_iff_ne]; exact hE
    go_wp2_with fail
    go_ret
    exact ⟨rfl, HB4.out⟩
  have HG := Lib.hid hgood
  have HTI4 := Lib.hid (HTI.out hgood)
  have hlen := hgood.len
  have hs0 := hgood.get 0 (by omega)
  have hsN := hgood.get (m.sm first 3) (Nat.le_refl _)
  have hsm := hgood.1.sm_in first 3
  have hdd0 := hgood.2.2.2.2.2.2.2.2.2.2.2.2 0 (by omega)
  have hddN := hgood.2.2.2.2.2.2.2.2.2.2.2.2 (m.sm first 3) (by omega)
  have hlast := hgood.last
  have hyl := hgood.1.yearLt first (first + 3) (by omega)
  rw [show ((3 : Nat) : Int) = 3 from rfl] at hlast
  have hlo : m.st first 0 = m.beg first 1 := rfl
  unfold IsD at hdd0 hddN
  obtain ⟨N, hN⟩ : ∃ N, N = m.sm first 3 := ⟨_, rfl⟩
  have HNN := Lib.hid hN
  rw [← hN] at hlen hsN hsm hddN hlast
  obtain ⟨S0, hS0⟩ : ∃ S0, S0 = m.st first 0 := ⟨_, rfl⟩
  obtain ⟨SN, hSN⟩ : ∃ SN, SN = m.st first N := ⟨_, rfl⟩
  rw [← hS0] at hs0 hdd0 hlo
  rw [← hSN] at hsN hddN hlast
  have hdiff : S0 + 936 ≤ SN := by omega
  have HC2 := Lib.hid (fun w => cut_any z S0 (SN - S0) w (by omega) (by omega) (by omega) (by omega))
  have hd1 : S0 ≤ S0 + z % (SN - S0) := by have := Int.emod_nonneg z (show SN - S0 ≠ 0 by omega); omega
  have hd2 : S0 + z % (SN - S0) < SN := by have := Int.emod_lt_of_pos z (show 0 < SN - S0 by omega); omega
  generalize S0 + z % (SN - S0) = day at *
  have hPl := hgood.place day (by rw [← hS0]; exact hd1) (by rw [← hN, ← hSN]; exact hd2)
  have HMD := Lib.hid (hgood.day (by omega) (by omega) (by omega) day (by rw [← hS0]; exact hd1) (by rw [← hN, ← hSN]; exact hd2))
  obtain ⟨j, k, p, hpl⟩ := hPl
  have HPL := Lib.hid hpl
  have hssl : t.ss.length = N + 1 := hlen.2
  have HL := Lib.hid hssl
  obtain ⟨b2, o2, hA2, _, hcs⟩ := HTI4.out.2.open_ (ints_ne t.ss (by omega))
  have hc0 := ints_cell hcs 0 (by omega)
  have hcN := ints_cell hcs N (by omega)
  rw [hs0, Nat.add_zero] at hc0
  rw [hsN] at hcN
  clear hcs hpl hlen hs0 hsN hlast hyl hlo hS0 hSN hN hgood HTI HOne
  obtain ⟨z0, z1, z2, z3⟩ := tcells BT4.out
  rw [hA2, hssl] at z3
  have HA2 := Lib.hid hA2
  clear hA2 hssl
  have n0 : (0 : Int) ≤ (N : Int) := by omega
  have n1 : (N : Int) < ((N + 1 : Nat) : Int) := by omega
  have n2 : ((N + 1 : Nat) : Int) - 1 = (N : Int) := by omega
  have e5 : IntKind.i64.wrap (SN - S0) = SN - S0 := intFits _ (by omega) (by omega)
  go_wp2_with fail
  go_quiet ((go_at_call 13; exact Calls.quiet_of ((HC2.out _).mono fun _ _ ⟨h, hw⟩ => ⟨h, 0, hw ▸ rfl⟩)))
  replace HB4 : Hid (Below w.heap.size w (W4.drewN nq)) := below_drew HB4.out nq
  replace BX4 : Hid (Box (W4.drewN nq) g 36 m.cells) := BX4
  replace BT4 : Hid (Box (W4.drewN nq) gt 67 t.cells) := BT4
  replace HTI4 : Hid (TIn (W4.drewN nq) t) := HTI4
  clear z0 z1 z2 z3 hc0 hcN HC2 e5 n0 n1 n2 HC
  generalize W4.drewN nq = W5 at *
  obtain ⟨z0, z1, z2, z3⟩ := tcells BT4.out
  have TOK := Lib.hid (HG.out.ok hf (by omega) (by omega) (by omega) (by omega))
  go_wp2_with fail
  refine (oFromDay_yes t day j k p _ HTI4.out TOK.out HPL.out.hj HPL.out.k1 HPL.out.k2 HPL.out.kp HPL.out.d1 HPL.out.d2).mono ?_
  rintro e w6 ⟨rfl, hb6⟩
  clear z0 z1 z2 z3
  obtain ⟨D, hD⟩ : ∃ D, D = t.ss.getD p 0 := ⟨_, rfl⟩
  rw [← hD]
  have HD := Lib.hid hD
  clear hD
  replace HB4 := Lib.hid (below_then HB4.out hb6)
  replace BX4 := Lib.hid (BX4.out.below hb6)
  replace BT4 := Lib.hid (BT4.out.below hb6)
  replace HTI4 := Lib.hid (HTI4.out.next hb6)
  clear hb6
  have hgl6 := BX4.out.lt
  have hgt6 := BT4.out.lt
  obtain ⟨x0, x1, x2, x3, x4, x5, x6, x7, x8, x9, x10⟩ := mcells BX4.out
  go_wp2_with fail
  have hda := Box.new w6 44 #[.int .i64 (t.first + j), .int .i64 k, .int .i64 (day - D + 1)]
  have hb6 := below_alloc1 w6 (Obj.cells #[.int .i64 (t.first + j), .int .i64 k, .int .i64 (day - D + 1)] 44)
  replace HB4 := Lib.hid (below_then HB4.out hb6)
  replace BX4 := Lib.hid (BX4.out.below hb6)
  replace BT4 := Lib.hid (BT4.out.below hb6)
  replace HTI4 := Lib.hid (HTI4.out.next hb6)
  clear hb6 x0 x1 x2 x3 x4 x5 x6 x7 x8 x9 x10 hgl6 hgt6
  generalize w6.alloc (Obj.cells #[.int .i64 (t.first + j), .int .i64 k, .int .i64 (day - D + 1)] 44) = W7 at *
  generalize w6.heap.size = ga at *
  refine (FromDay_any m day _ (HM0.out.next HB4.out) hf (by omega) (by omega)).mono ?_
  rintro e w8 ⟨hb8, ⟨y, l, ok, _, _, l1, l2, l3, l4, rfl⟩ | ⟨E', _, hn, rfl⟩⟩
  case inr => exact absurd HMD.out hn
  obtain ⟨rfl, rfl⟩ := HPL.out.same ok y l l1 l2 l3 l4
  rw [← HPL.out.b1, ← HD.out]
  clear l1 l2 l3 l4 ok
  replace HB4 := Lib.hid (below_then HB4.out hb8)
  replace BT4 := Lib.hid (BT4.out.below hb8)
  replace HTI4 := Lib.hid (HTI4.out.next hb8)
  have hda8 := hda.below hb8
  clear hb8 BX4 hda
  have hgt8 := BT4.out.lt
  have hga8 := hda8.lt
  obtain ⟨z0, z1, z2, z3⟩ := tcells BT4.out
  have y0 : w8.cell? ⟨ga, 0, none⟩ = some (.int .i64 (t.first + j)) := hda8.cell 0
  have y1 : w8.cell? ⟨ga, 1, none⟩ = some (.int .i64 l) := hda8.cell 1
  have y2 : w8.cell? ⟨ga, 2, none⟩ = some (.int .i64 (day - D + 1)) := hda8.cell 2
  have ds := date_same
  have dg := date_guard
  have db : dateB (t.first + j) l (day - D + 1) (t.first + j) l (day - D + 1) = true := dateB_yes ⟨rfl, rfl, rfl⟩
  go_wp2_with fail
  have HTD := Lib.hid (fun W hT => oToDay_yes t j l (day - D + 1) p W hT TOK.out HG.out.2.2.2.2.2.2.1 HG.out.2.2.2.2.2.2.2.1 HPL.out.hj HPL.out.k1 HPL.out.k2 HPL.out.kp (by have := HPL.out.d1; have := HD.out; omega) (by have := HPL.out.d2; have := HD.out; omega))
  rw [← HD.out, show D + (day - D + 1) - 1 = day from by omega] at HTD
  have hb9 := below_alloc1 w8 (Obj.cells #[.int .i64 (t.first + j), .int .i64 l, .int .i64 (day - D + 1)] 44)
  replace HB4 := Lib.hid (below_then HB4.out hb9)
  refine (HTD.out _ (HTI4.out.next hb9)).mono ?_
  rintro e w10 ⟨rfl, hb10⟩
  replace HB4 := Lib.hid (below_then HB4.out hb10)
  clear hb10 z0 z1 z2 z3 y0 y1 y2 hb9
  go_wp2_with fail
  go_ret
  exact ⟨by simp, HB4.out⟩

set_option maxRecDepth 100000 in
theorem walk {H : Type} {enc : TypeId × Value → H} {base : Nat} {W : World} (v0 : Value) (d0 : DataW H) (p0 : List MemPlace) (hv : Value.okWide Try.prog W .any base 36 v0)
    (h0 : DataW.Trod enc Try.prog W 0 (fun _ => true) true 36 v0 d0 p0) (a1 : Int) (w1 : (Lit.int .i64 a1).wf = true) (a2 : Int) (w2 : (Lit.int .i64 a2).wf = true) :
    Calls Try.prog 8 #[v0, .int .i64 a1, .int .i64 a2] W fun e W' => e = .returned (.bool true) ∧ Below W.heap.size W W' := by
  obtain ⟨m, rfl, hm, hf⟩ := moon_open hv h0
  exact core m a1 a2 W hm hf
end Go.Proofs.Ytfindembancjdaa.observedSame
