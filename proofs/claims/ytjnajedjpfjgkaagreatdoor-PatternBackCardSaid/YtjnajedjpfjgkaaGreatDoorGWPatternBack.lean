/- WPatternBack -/
import Derived.Test.YtjnajedjpfjgkaaGreatDoorGPb1
import Derived.Test.YtjnajedjpfjgkaaGreatDoorGCat1
import Derived.Test.YtjnajedjpfjgkaaGreatDoorGBack1
import Derived.Test.YtjnajedjpfjgkaaGreatDoorGPlainDate
/- The walk of PatternBack: it returns true at every input; it writes nothing that was there. -/
namespace Go.Proofs.YtjnajedjpfjgkaaGreatDoor.patternBack
open Go Go.RowKit
set_option linter.unusedVariables false

/-- the texts of the patterns -/
theorem p_text0 : str (patE (pR 0) (pT 0)) = ⟨#[123, 121, 52, 125, 47, 123, 109, 50, 125, 47, 123, 100, 50, 125]⟩ := by decide +kernel
theorem feb_text : str (dtT (partE (pR 0) (pT 0)) (cr0.t.mo.getD 1 mth0).nm 0 2024 1 28 ((738945 - 1) % 7)) = ⟨#[50, 48, 50, 52, 47, 48, 50, 47, 50, 57]⟩ := by decide +kernel
theorem feb_all : ∀ p ∈ partE (pR 0) (pT 0), partO (cr0.t.mo.getD 1 mth0).nm 0 2024 1 28 ((738945 - 1) % 7) p ≠ none := by decide +kernel
theorem one_date (w : World) (hE : Env w) (hp : Pow w) (hz : Zer w) (hu : U8 w) : Calls Tryz.prog 4 #[.string ⟨#[123, 121, 52, 125, 47, 123, 109, 50, 125, 47, 123, 100, 50, 125]⟩, .string ⟨#[103, 114, 101, 103, 111, 114, 105, 97, 110]⟩, .int .i64 0, .string ⟨#[50, 48, 50, 52, 47, 48, 50, 47, 50, 57]⟩] w fun e w' => e = .returned (.tuple #[.int .i64 738945, .int .i64 0]) ∧ Below w.heap.size w w' := by
  have h := PReadW_any (pR 0) (pT 0) (p_ok 0 (by omega)).ok (p_ok 0 (by omega)).l20 (p_ok 0 (by omega)).ascii cr0 cr0_in 0 (by omega) 738945 (by omega) (by omega) 2024 1 28 (by omega) (by omega) (fun c hof ok => by
      have hv : valid 2024 1 29 := by unfold valid; decide
      have e : dayOf 2024 1 29 = 738945 := by decide
      have hh := greg_on hof ok 2024 1 29 hv
      rw [e] at hh
      exact hh) feb_all w hE hp hz hu
  rw [p_text0, feb_text, show str cr0.nm = ⟨#[103, 114, 101, 103, 111, 114, 105, 97, 110]⟩ from by decide +kernel] at h
  exact h
theorem run_pat (i : Nat) (hi : i < 4) (W : World) : (Instr.index 25 (.agg #[.string ⟨#[123, 121, 52, 125, 47, 123, 109, 50, 125, 47, 123, 100, 50, 125]⟩, .string ⟨#[123, 100, 125, 46, 32, 123, 110, 97, 109, 101, 125, 32, 123, 121, 125]⟩, .string ⟨#[60, 123, 119, 125, 62, 32, 123, 109, 125, 124, 123, 100, 125, 124, 123, 121, 125]⟩, .string ⟨#[121, 101, 97, 114, 32, 123, 121, 125, 44, 32, 123, 110, 97, 109, 101, 125, 58, 123, 100, 50, 125, 33]⟩]) (.int .i64 (i : Int))).run Tryz.prog W = .ok (.string (str (patE (pR i) (pT i)))) W := by
  match i, hi with
  | 0, _ => rw [show str (patE (pR 0) (pT 0)) = ⟨#[123, 121, 52, 125, 47, 123, 109, 50, 125, 47, 123, 100, 50, 125]⟩ from by decide +kernel]; simp [Instr.index, run_underlying Tryz.underlying25, asIntOf, go_sem]
  | 1, _ => rw [show str (patE (pR 1) (pT 1)) = ⟨#[123, 100, 125, 46, 32, 123, 110, 97, 109, 101, 125, 32, 123, 121, 125]⟩ from by decide +kernel]; simp [Instr.index, run_underlying Tryz.underlying25, asIntOf, go_sem]
  | 2, _ => rw [show str (patE (pR 2) (pT 2)) = ⟨#[60, 123, 119, 125, 62, 32, 123, 109, 125, 124, 123, 100, 125, 124, 123, 121, 125]⟩ from by decide +kernel]; simp [Instr.index, run_underlying Tryz.underlying25, asIntOf, go_sem]
  | 3, _ => rw [show str (patE (pR 3) (pT 3)) = ⟨#[121, 101, 97, 114, 32, 123, 121, 125, 44, 32, 123, 110, 97, 109, 101, 125, 58, 123, 100, 50, 125, 33]⟩ from by decide +kernel]; simp [Instr.index, run_underlying Tryz.underlying25, asIntOf, go_sem]

set_option maxRecDepth 100000 in
set_option maxHeartbeats 4000000 in
theorem core (which k sc0 d0 : Int) (w : World) (hk1 : -9223372036854775808 ≤ k) (hk2 : k ≤ 9223372036854775807) (hv : Env w) (hp : Pow w) (hz : Zer w) (hu : U8 w) :
    Calls Tryz.prog 3 #[.int .i64 which, .int .i64 k, .int .i64 sc0, .int .i64 d0] w fun e w' => e = .returned (.bool true) ∧ Below w.heap.size w w' := by
  have HN := Lib.hid (fun W (h : Env W) => name_any k W hk1 hk2 h.h)
  have HOne := Lib.hid (one_date w hv hp hz hu)
  have HV : Hid (∀ W, Below w.heap.size w W → Env W ∧ Pow W ∧ Zer W ∧ U8 W) := fun W hb => ⟨hv.next hb, hp.next hb, hz.next hb, hu.next hb⟩
  have HM := Lib.hid (fun W => lawmod_any which 4 W (by omega) (by omega))
  have HCutS := Lib.hid (fun W => cut_any sc0 0 13 W (by omega) (by omega) (by omega) (by omega))
  have HCutD := Lib.hid (fun W => cut_any d0 (-300000) 1300000 W (by omega) (by omega) (by omega) (by omega))
  have p1 := Int.emod_nonneg sc0 (show (13 : Int) ≠ 0 by omega)
  have p2 := Int.emod_lt_of_pos sc0 (show (0 : Int) < 13 by omega)
  have p3 := Int.emod_nonneg d0 (show (1300000 : Int) ≠ 0 by omega)
  have p4 := Int.emod_lt_of_pos d0 (show (0 : Int) < 1300000 by omega)
  have p5 := Int.emod_nonneg which (show (4 : Int) ≠ 0 by omega)
  have p6 := Int.emod_lt_of_pos which (show (0 : Int) < 4 by omega)
  obtain ⟨day, hdd⟩ : ∃ day, day = -300000 + d0 % 1300000 := ⟨_, rfl⟩
  obtain ⟨sc, hsc, hsc13⟩ : ∃ sc : Nat, 0 + sc0 % 13 = (sc : Int) ∧ sc < 13 := ⟨(sc0 % 13).toNat, by omega, by omega⟩
  obtain ⟨i, hi, hi4⟩ : ∃ i : Nat, which % 4 = (i : Int) ∧ i < 4 := ⟨(which % 4).toNat, by omega, by omega⟩
  rw [← hdd] at HCutD
  rw [hsc] at HCutS
  rw [hi] at HM
  have hd1 : -300000 ≤ day := by omega
  have hd2 : day < 1000000 := by omega
  have hpat := run_pat i hi4
  have HB := Lib.hid (p_ok i hi4)
  have HW := Lib.hid (fun W (h : Env W ∧ Pow W ∧ Zer W ∧ U8 W) => PWriteW_any (pR i) (pT i) HB.out.ok (rowK k) (rowK_in k) sc hsc13 day (by omega) (by omega) W h.1 h.2.1 h.2.2.1 h.2.2.2)
  have HRd := Lib.hid (fun y m d h1 h2 hon hall W (h : Env W ∧ Pow W ∧ Zer W ∧ U8 W) => PReadW_any (pR i) (pT i) HB.out.ok HB.out.l20 HB.out.ascii (rowK k) (rowK_in k) sc hsc13 day (by omega) (by omega) y m d h1 h2 hon hall W h.1 h.2.1 h.2.2.1 h.2.2.2)
  clear p1 p2 p3 p4 p5 p6 hdd hsc hi hk1 hk2 hv hp hz hu HB
  unfold WrW at HW
  generalize rowK k = r at *
  obtain ⟨nr, hnr⟩ : ∃ nr, nr = str r.nm := ⟨_, rfl⟩
  rw [← hnr] at HN HW HRd
  clear hnr
  generalize str (patE (pR i) (pT i)) = P at *
  generalize partE (pR i) (pT i) = ps at *
  go_enter Tryz.func3, Tryz.ntmps3
  go_wp2_with fail
  refine Calls.mono HOne.out ?_
  rintro e w1 ⟨rfl, hb1⟩
  have HB1 := Lib.hid hb1
  clear hb1 HOne
  have i0 : (0 : Int) ≤ (i : Int) := by omega
  have i4 : (i : Int) < 4 := by omega
  go_wp2_with (first
    | (go_at_call 5; refine Calls.mono (HM.out _) ?_; rintro e w' ⟨rfl, rfl⟩; clear HM)
    | (go_at_call 6; first | (refine Calls.mono (HCutS.out _) ?_; rintro e w' ⟨rfl, rfl⟩; clear HCutS) | (refine Calls.mono (HCutD.out _) ?_; rintro e w' ⟨rfl, rfl⟩; clear HCutD)))
  refine Calls.mono (HN.out w1 (HV.out w1 HB1.out).1) ?_
  rintro e w2 ⟨rfl, hb2⟩
  have HB2 := Lib.hid (below_then HB1.out hb2)
  clear hb2 HB1
  go_wp2_with fail
  refine Calls.mono (HW.out w2 (HV.out w2 HB2.out)) ?_
  rintro e w3 ⟨c, hof, ok, hb3, hA⟩
  have HB3 := Lib.hid (below_then HB2.out hb3)
  clear hb3 HB2 HW
  rcases hA with ⟨y, m, d, hy1, hy2, hon, ⟨hall, rfl⟩ | ⟨_, E, hE, rfl⟩⟩ | ⟨_, rfl⟩
  · have hon2 : ∀ c', CalOf r c' → CalOk c' → IsOn c' y m d day := fun c' hof' _ => (hof'.on hof _ _ _ _).2 hon
    have e : c.mo = r.t.mo := hof.mo
    rw [e] at hall ⊢
    have HRw := Lib.hid (fun W h => HRd.out y m d hy1 hy2 hon2 hall W h)
    have HSame : Hid (str (ps.flatMap fun p => (partO (r.t.mo.getD m mth0).nm sc y m d ((day - 1) % 7) p).getD []) = str (dtT ps (r.t.mo.getD m mth0).nm sc y m d ((day - 1) % 7))) := rfl
    rw [HSame.out]
    clear HRd hon2 hall hof ok hon e HSame
    generalize str (dtT ps (r.t.mo.getD m mth0).nm sc y m d ((day - 1) % 7)) = S at *
    go_wp2_with fail
    refine Calls.mono (HN.out w3 (HV.out w3 HB3.out).1) ?_
    rintro e w4 ⟨rfl, hb4⟩
    have HB4 := Lib.hid (below_then HB3.out hb4)
    clear hb4 HB3
    go_wp2_with fail
    refine Calls.mono (HRw.out w4 (HV.out w4 HB4.out)) ?_
    rintro e w5 ⟨rfl, hb5⟩
    have HB5 := Lib.hid (below_then HB4.out hb5)
    clear hb5 HB4 HRw
    go_wp2_with fail
    go_ret
    exact ⟨rfl, HB5.out⟩
  · have tE : (E == 0) = false := by rw [beq_eq_false_iff_ne]; exact hE
    clear HRd hof ok
    go_wp2_with fail
    go_ret
    exact ⟨rfl, HB3.out⟩
  · clear HRd hof ok
    go_wp2_with fail
    go_ret
    exact ⟨rfl, HB3.out⟩

theorem walk (a0 : Int) (w0 : (Lit.int .i64 a0).wf = true) (a1 : Int) (w1 : (Lit.int .i64 a1).wf = true) (a2 : Int) (w2 : (Lit.int .i64 a2).wf = true) (a3 : Int) (w3 : (Lit.int .i64 a3).wf = true) (W : World) (hL : laidMet Tryz.prog Rows.patternBackRow.laid W) (hsh : W.ShapedOpen Tryz.prog) :
    Calls Tryz.prog 3 #[.int .i64 a0, .int .i64 a1, .int .i64 a2, .int .i64 a3] W fun e w' => e = .returned (.bool true) ∧ Below W.heap.size W w' := by
  have h := core a0 a1 a2 a3 W (bounds_i64 w1).1 (bounds_i64 w1).2 ⟨sgs_of hL.tail.tail.tail.tail.tail.tail.tail.tail, lvs_of hL.tail.tail.tail.tail.tail.tail.tail, Shp.of hsh⟩ (pow_of hL.tail.tail) (zer_of hL.tail.tail.tail.tail.tail.tail) (u8_of hL (by simp [Rows.patternBackRow]) (by simp [Rows.patternBackRow]))
  exact h
end Go.Proofs.YtjnajedjpfjgkaaGreatDoor.patternBack
