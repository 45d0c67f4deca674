/- WReformSkips -/
import Derived.Test.YtbmbphikjainiaaGreatDoorGRef4
import Derived.Test.YtbmbphikjainiaaGreatDoorGBack1
/- The walk of ReformSkips: it returns true at every input; it writes nothing that was there. -/
namespace Go.Proofs.YtbmbphikjainiaaGreatDoor.reformSkips
open Go Go.RowKit
set_option linter.unusedVariables false

theorem c_name : NameOk ⟨#[99, 104, 97, 110, 103, 101]⟩ := nameB_ok _ (by decide +kernel)
theorem r_name : NameOk ⟨#[114]⟩ := nameB_ok _ (by decide +kernel)
/-- two parts -/
def twoR (nm a b : ByteArray) (f : Int) (A : Option Addr) : Rf := ⟨nm, [⟨-4000000, a⟩, ⟨f, b⟩], A, 2⟩
theorem two_ok {nm : ByteArray} (ra rb : CatRow) (ha : ra ∈ catR) (hb : rb ∈ catR) (f : Int) (A : Option Addr) (h : NameOk nm) (h1 : 1 ≤ f) (h2 : f ≤ 4000000) : RfOk (twoR nm (str ra.nm) (str rb.nm) f A) where
  nm := h
  n1 := by show 1 ≤ 2; omega
  n2 := by show 2 ≤ 10; omega
  z := rfl
  each := fun i hi => by
    have : i < 2 := hi
    match i, this with
    | 0, _ => exact ⟨⟨by show (-4000000 : Int) ≤ -4000000; omega, by show (-4000000 : Int) ≤ 4000000; omega⟩, fun h => absurd h (by omega), List.mem_map.2 ⟨ra, ha, rfl⟩⟩
    | 1, _ => exact ⟨⟨by show (-4000000 : Int) ≤ f; omega, h2⟩, fun _ => by show (-4000000 : Int) < f; omega, List.mem_map.2 ⟨rb, hb, rfl⟩⟩
theorem cr0_in : cr0 ∈ catR := by simp [catR]
theorem greg_nm : (⟨#[103, 114, 101, 103, 111, 114, 105, 97, 110]⟩ : ByteArray) = str cr0.nm := rfl
set_option maxRecDepth 1000000 in
set_option maxHeartbeats 40000000 in
theorem greg_at : IsOn (calR cr0) 1582 9 14 577736 := by
  have h : (calR cr0).ny 1582 + (calR cr0).pre 1582 9 + 14 = 577736 ∧ 14 < (calR cr0).mlen 1582 9 := by decide +kernel
  exact ⟨by show 9 < 12; omega, by omega, h.2, h.1.symm⟩
set_option maxRecDepth 1000000 in
set_option maxHeartbeats 40000000 in
theorem jul_at : IsOn (calR cr1) 1582 9 14 577746 := by
  have h : (calR cr1).ny 1582 + (calR cr1).pre 1582 9 + 14 = 577746 ∧ 14 < (calR cr1).mlen 1582 9 := by decide +kernel
  exact ⟨by show 9 < 12; omega, by omega, h.2, h.1.symm⟩
theorem change_at (A : Option Addr) : OnPart (twoR ⟨#[99, 104, 97, 110, 103, 101]⟩ (str cr1.nm) (str cr0.nm) 577736 A).ps 1 1582 9 14 577736 := ⟨cr0, cr0_in, rfl, calR_valid cr0_in, greg_at⟩
theorem change_at0 (A : Option Addr) : OnPart (twoR ⟨#[99, 104, 97, 110, 103, 101]⟩ (str cr1.nm) (str cr0.nm) 577736 A).ps 0 1582 9 14 577746 := ⟨cr1, cr1_in, rfl, calR_valid cr1_in, jul_at⟩

set_option maxHeartbeats 4000000 in
set_option maxRecDepth 100000 in
theorem core (a b from0 k0 : Int) (w : World) (ha1 : -9223372036854775808 ≤ a) (ha2 : a ≤ 9223372036854775807) (hb1 : -9223372036854775808 ≤ b) (hb2 : b ≤ 9223372036854775807) (hv : Env w) :
    Calls Tryz.prog 11 #[.int .i64 a, .int .i64 b, .int .i64 from0, .int .i64 k0] w fun e w' => e = .returned (.bool true) ∧ Below w.heap.size w w' := by
  have HNa := Lib.hid (fun W (h : Env W) => name_any a W ha1 ha2 h.h)
  have HNb := Lib.hid (fun W (h : Env W) => name_any b W hb1 hb2 h.h)
  have HRa := Lib.hid (rowK_in a)
  have HRb := Lib.hid (rowK_in b)
  have HCut := Lib.hid (fun W => cut_any from0 1 800000 W (by omega) (by omega) (by omega) (by omega))
  have b1 := Int.emod_nonneg from0 (show (800000 : Int) ≠ 0 by omega)
  have b2 := Int.emod_lt_of_pos from0 (show (0 : Int) < 800000 by omega)
  obtain ⟨f, hfe⟩ : ∃ f, f = 1 + from0 % 800000 := ⟨_, rfl⟩
  rw [← hfe] at HCut
  have hf1 : 1 ≤ f := by omega
  have hf2 : f ≤ 800000 := by omega
  have HV := Lib.hid hv
  clear ha1 ha2 hb1 hb2 hv b1 b2 hfe
  generalize rowK a = ra at *
  generalize rowK b = rb at *
  obtain ⟨na, hna⟩ : ∃ na, na = str ra.nm := ⟨_, rfl⟩
  obtain ⟨nb, hnb⟩ : ∃ nb, nb = str rb.nm := ⟨_, rfl⟩
  rw [← hna] at HNa
  rw [← hnb] at HNb
  have HnA := Lib.hid hna
  have HnB := Lib.hid hnb
  clear hna hnb
  go_enter Tryz.func11, Tryz.ntmps11
  go_upto_region 2 with fail
  have HP1 := Lib.hid ((Box.new w 70 #[.int .i64 (-4000000), .string ⟨#[106, 117, 108, 105, 97, 110]⟩, .int .i64 577736, .string ⟨#[103, 114, 101, 103, 111, 114, 105, 97, 110]⟩]).alloc (Obj.cells #[.string ⟨#[99, 104, 97, 110, 103, 101]⟩, .slice (some ⟨w.heap.size, 0, none⟩) 2 2] 68))
  have HO1 := Lib.hid (Box.new (w.alloc (Obj.cells #[.int .i64 (-4000000), .string ⟨#[106, 117, 108, 105, 97, 110]⟩, .int .i64 577736, .string ⟨#[103, 114, 101, 103, 111, 114, 105, 97, 110]⟩] 70)) 68 #[.string ⟨#[99, 104, 97, 110, 103, 101]⟩, .slice (some ⟨w.heap.size, 0, none⟩) 2 2])
  rw [World.size_alloc] at HO1
  have HB1 := Lib.hid (below_alloc2 w (Obj.cells #[.int .i64 (-4000000), .string ⟨#[106, 117, 108, 105, 97, 110]⟩, .int .i64 577736, .string ⟨#[103, 114, 101, 103, 111, 114, 105, 97, 110]⟩] 70) (Obj.cells #[.string ⟨#[99, 104, 97, 110, 103, 101]⟩, .slice (some ⟨w.heap.size, 0, none⟩) 2 2] 68))
  generalize (w.alloc (Obj.cells #[.int .i64 (-4000000), .string ⟨#[106, 117, 108, 105, 97, 110]⟩, .int .i64 577736, .string ⟨#[103, 114, 101, 103, 111, 114, 105, 97, 110]⟩] 70)).alloc (Obj.cells #[.string ⟨#[99, 104, 97, 110, 103, 101]⟩, .slice (some ⟨w.heap.size, 0, none⟩) 2 2] 68) = W1 at *
  obtain ⟨g, hg⟩ : ∃ g, g = w.heap.size := ⟨_, rfl⟩
  rw [← hg] at HP1 HO1
  rw [← hg]
  have HG := Lib.hid hg
  clear hg
  have HV1 := Lib.hid (HV.out.next HB1.out)
  have HJ1 : Hid (Calls Tryz.prog 36 #[.agg #[.string ⟨#[99, 104, 97, 110, 103, 101]⟩, .slice (some ⟨g, 0, none⟩) 2 2], .int .i64 1] W1 fun e w' => e = .returned (.tuple #[.int .i64 10, .int .i64 0]) ∧ Below W1.heap.size W1 w') := by
    have h := jump_any (twoR ⟨#[99, 104, 97, 110, 103, 101]⟩ (str cr1.nm) (str cr0.nm) 577736 (some ⟨g, 0, none⟩)) W1 (Row.of_box HP1.out) ⟨by show 6 ≤ maxLen; unfold maxLen; omega, Nat.le_refl _, by show 2 ≤ maxLen; unfold maxLen; omega⟩ HV1.out (two_ok cr1 cr0 cr1_in cr0_in 577736 _ c_name (by omega) (by omega)) rfl
    refine Calls.mono h ?_
    rintro e w' ⟨hb, v, E, rfl, _, _, hex⟩
    obtain ⟨rfl, hv'⟩ := hex 1582 9 14 577746 (by omega) (by omega) (change_at _) (change_at0 _) (by omega) (by omega)
    have hv2 : v = 10 := hv'
    rw [hv2]
    exact ⟨rfl, hb⟩
  obtain ⟨z0, z1⟩ : W1.cell? ⟨g + 1, 0, none⟩ = some (.string ⟨#[99, 104, 97, 110, 103, 101]⟩) ∧ W1.cell? ⟨g + 1, 1, none⟩ = some (.slice (some ⟨g, 0, none⟩) 2 2) := ⟨HO1.out.cell 0, HO1.out.cell 1⟩
  go_wp2_with fail
  refine HJ1.out.mono ?_
  rintro e w2 ⟨rfl, hb2⟩
  have HB2 := Lib.hid (below_then HB1.out hb2)
  clear hb2 z0 z1 HJ1 HO1 HP1 HV1 HB1
  go_wp2_with (go_at_call 25; refine (HCut.out _).mono ?_; rintro e w' ⟨rfl, rfl⟩)
  clear HCut
  refine (HNa.out _ (HV.out.next HB2.out)).mono ?_
  rintro e w3 ⟨rfl, hb3⟩
  have HB3 := Lib.hid (below_then HB2.out hb3)
  clear hb3 HB2
  go_wp2_with fail
  refine (HNb.out _ (HV.out.next HB3.out)).mono ?_
  rintro e w4 ⟨rfl, hb4⟩
  have HB4 := Lib.hid (below_then HB3.out hb4)
  clear hb4 HB3
  go_upto_region 7 with fail
  have HP5 := Lib.hid ((Box.new w4 70 #[.int .i64 (-4000000), .string na, .int .i64 f, .string nb]).alloc (Obj.cells #[.string ⟨#[114]⟩, .slice (some ⟨w4.heap.size, 0, none⟩) 2 2] 68))
  have HO5 := Lib.hid (Box.new (w4.alloc (Obj.cells #[.int .i64 (-4000000), .string na, .int .i64 f, .string nb] 70)) 68 #[.string ⟨#[114]⟩, .slice (some ⟨w4.heap.size, 0, none⟩) 2 2])
  rw [World.size_alloc] at HO5
  have HB5 := Lib.hid (below_then HB4.out (below_alloc2 w4 (Obj.cells #[.int .i64 (-4000000), .string na, .int .i64 f, .string nb] 70) (Obj.cells #[.string ⟨#[114]⟩, .slice (some ⟨w4.heap.size, 0, none⟩) 2 2] 68)))
  clear HB4
  generalize (w4.alloc (Obj.cells #[.int .i64 (-4000000), .string na, .int .i64 f, .string nb] 70)).alloc (Obj.cells #[.string ⟨#[114]⟩, .slice (some ⟨w4.heap.size, 0, none⟩) 2 2] 68) = w5 at *
  generalize w4.heap.size = gp at *
  have HOk2 : Hid (RfOk (twoR ⟨#[114]⟩ na nb f (some ⟨gp, 0, none⟩))) := by unfold Hid; rw [HnA.out, HnB.out]; exact two_ok ra rb HRa.out HRb.out f _ r_name hf1 (by omega)
  have hfit2 : RfFit (twoR ⟨#[114]⟩ na nb f (some ⟨gp, 0, none⟩)) := ⟨by show 1 ≤ maxLen; unfold maxLen; omega, Nat.le_refl _, by show 2 ≤ maxLen; unfold maxLen; omega⟩
  have HIn2 : Hid (∀ W, Below w5.heap.size w5 W → RfIn W (twoR ⟨#[114]⟩ na nb f (some ⟨gp, 0, none⟩))) := fun W hW => Row.of_box (HP5.out.below hW)
  have HJ2 : Hid (Calls Tryz.prog 36 #[.agg #[.string ⟨#[114]⟩, .slice (some ⟨gp, 0, none⟩) 2 2], .int .i64 1] w5 (JumpQ (twoR ⟨#[114]⟩ na nb f (some ⟨gp, 0, none⟩)) w5)) := jump_any _ w5 (HIn2.out w5 (Below.refl _ _)) hfit2 (HV.out.next HB5.out) HOk2.out rfl
  have HDs : Hid (∀ a1 a2 a3 W, Below w5.heap.size w5 W → Calls Tryz.prog 34 #[.agg #[.string ⟨#[114]⟩, .slice (some ⟨gp, 0, none⟩) 2 2], .agg #[.int .i64 a1, .int .i64 a2, .int .i64 a3]] W (RDaysQ (twoR ⟨#[114]⟩ na nb f (some ⟨gp, 0, none⟩)) a1 a2 a3 W)) := fun a1 a2 a3 W hW => rdays_any _ a1 a2 a3 W (HIn2.out W hW) hfit2 (HV.out.next (below_then HB5.out hW))
  clear hfit2 HIn2
  unfold JumpQ at HJ2
  unfold RDaysQ at HDs
  obtain ⟨z0, z1⟩ : w5.cell? ⟨gp + 1, 0, none⟩ = some (.string ⟨#[114]⟩) ∧ w5.cell? ⟨gp + 1, 1, none⟩ = some (.slice (some ⟨gp, 0, none⟩) 2 2) := ⟨HO5.out.cell 0, HO5.out.cell 1⟩
  go_wp2_with fail
  refine HJ2.out.mono ?_
  rintro e w6 ⟨hb6, v, E, rfl, hE3, hvb, _⟩
  have HB6 := Lib.hid (below_then HB5.out hb6)
  have HW6 := Lib.hid hb6
  clear hb6 z0 z1 HJ2 HP5
  by_cases hE : E = 0
  case neg =>
    rcases hE3 with rfl | rfl | rfl
    · exact absurd rfl hE
    · clear hE hvb
      go_wp2_with fail
      go_ret
      exact ⟨rfl, HB6.out⟩
    · clear hE hvb
      go_wp2_with fail
      go_ret
      exact ⟨rfl, HB6.out⟩
  subst hE
  have hvb2 := hvb rfl
  clear hE3 hvb
  by_cases hv1 : v < 1
  · have t1 : decide (v < 1) = true := decide_eq_true hv1
    clear hv1
    go_wp2_with fail
    go_ret
    exact ⟨rfl, HB6.out⟩
  have t1 : decide (v < 1) = false := decide_eq_false hv1
  have hv2 : 1 ≤ v := by omega
  clear hv1
  go_wp2_with fail
  refine (HNa.out _ (HV.out.next HB6.out)).mono ?_
  rintro e w7 ⟨rfl, hb7⟩
  have HB7 := Lib.hid (below_then HB6.out hb7)
  have HW7 := Lib.hid (below_then HW6.out hb7)
  clear hb7 HB6 HW6
  go_wp2_with fail
  refine (HNb.out _ (HV.out.next HB7.out)).mono ?_
  rintro e w8 ⟨rfl, hb8⟩
  have HB8 := Lib.hid (below_then HB7.out hb8)
  have HW8 := Lib.hid (below_then HW7.out hb8)
  clear hb8 HB7 HW7
  by_cases hnn : na = nb
  · have t2 : (na.toList == nb.toList) = true := by rw [bytes_beq]; exact decide_eq_true hnn
    clear hnn
    go_wp2_with fail
    go_ret
    exact ⟨rfl, HB8.out⟩
  have t2 : (na.toList == nb.toList) = false := by rw [bytes_beq]; exact decide_eq_false hnn
  clear hnn
  go_wp2_with fail
  refine (HNa.out _ (HV.out.next HB8.out)).mono ?_
  rintro e w9 ⟨rfl, hb9⟩
  have HB9 := Lib.hid (below_then HB8.out hb9)
  have HW9 := Lib.hid (below_then HW8.out hb9)
  clear hb9 HB8 HW8 t1 t2
  obtain ⟨mm, hmm⟩ : ∃ mm, mm = min v 300 := ⟨_, rfl⟩
  have hmm1 : 1 ≤ mm ∧ mm ≤ 300 := by omega
  have HM := Lib.hid (fun W => lawmod_any k0 mm W (by omega) (by omega))
  have q1 := Int.emod_nonneg k0 (show mm ≠ 0 by omega)
  have q2 := Int.emod_lt_of_pos k0 (show 0 < mm by omega)
  rw [hmm] at HM
  have q3 : k0 % mm < 300 := by omega
  obtain ⟨q, hq⟩ : ∃ q, q = k0 % mm := ⟨_, rfl⟩
  rw [← hmm, ← hq] at HM
  rw [← hq] at q1 q3
  rw [hmm] at HM
  clear q2 hq hmm1 hmm
  have HDt := Lib.hid (fun W (h : Env W) => Date_any ra HRa.out (f + q) W h)
  rw [← HnA.out] at HDt
  unfold DateQ at HDt
  go_wp2_with (go_at_call 37; refine (HM.out _).mono ?_; rintro e w' ⟨rfl, rfl⟩)
  refine (HDt.out _ (HV.out.next HB9.out)).mono ?_
  rintro e w10 ⟨c, hof, ok, hb10, hc⟩
  have HB10 := Lib.hid (below_then HB9.out hb10)
  have HW10 := Lib.hid (below_then HW9.out hb10)
  clear hb10 HB9 HW9 HDt HM
  rcases hc with ⟨y, m, d, g1, g2, g3, rfl⟩ | ⟨g1, rfl⟩
  case inr =>
    clear g1 hof ok
    go_wp2_with fail
    have HB11 := Lib.hid (HB10.out.alloc HB10.out.size (Obj.cells (dateC 0 0 0) 41))
    go_ret
    exact ⟨rfl, HB11.out⟩
  have HOnA : Hid (OnPart (twoR ⟨#[114]⟩ na nb f (some ⟨gp, 0, none⟩)).ps 0 y m d (f + q)) := ⟨ra, HRa.out, HnA.out, calR_valid HRa.out, (hof.on (calR_of ra) _ _ _ _).1 g3⟩
  clear g1 g2 g3 hof ok
  go_upto_region 13 with fail
  have hba := below_alloc1 w10 (Obj.cells (dateC y ((m : Int) + 1) (d + 1)) 41)
  have HB11 := Lib.hid (below_then HB10.out hba)
  have HW11 := Lib.hid (below_then HW10.out hba)
  have HD11 := Lib.hid (Box.new w10 41 (dateC y ((m : Int) + 1) (d + 1)))
  clear hba HB10 HW10
  generalize w10.alloc (Obj.cells (dateC y ((m : Int) + 1) (d + 1)) 41) = w11 at *
  generalize w10.heap.size = gd at *
  have HO11 := Lib.hid (HO5.out.below HW11.out)
  obtain ⟨z0, z1⟩ : w11.cell? ⟨gp + 1, 0, none⟩ = some (.string ⟨#[114]⟩) ∧ w11.cell? ⟨gp + 1, 1, none⟩ = some (.slice (some ⟨gp, 0, none⟩) 2 2) := ⟨HO11.out.cell 0, HO11.out.cell 1⟩
  have y0 : w11.cell? ⟨gd, 0, none⟩ = some (.int .i64 y) := HD11.out.cell 0
  have y1 : w11.cell? ⟨gd, 1, none⟩ = some (.int .i64 ((m : Int) + 1)) := HD11.out.cell 1
  have y2 : w11.cell? ⟨gd, 2, none⟩ = some (.int .i64 (d + 1)) := HD11.out.cell 2
  have HDD := Lib.hid (HDs.out y ((m : Int) + 1) (d + 1) w11 HW11.out)
  go_wp2_with fail
  refine HDD.out.mono ?_
  rintro e w12 ⟨hb12, hc⟩
  have HB12 := Lib.hid (below_then HB11.out hb12)
  clear hb12 z0 z1 y0 y1 y2 HDD HDs HO11 HO5 HD11 HB11 HW11
  rcases hc with ⟨hno, _⟩ | ⟨_, A, cc, xs, hxl, hdl, hown, rfl⟩
  · exact absurd HOk2.out hno
  have HGe : Hid (∀ j, j < xs.length → f ≤ xs.getD j 0) := fun j hj => by
    obtain ⟨k, hk, hg⟩ := hdl.all _ (mem_getD xs j hj)
    have hk2 : k < 2 := hk
    match k, hk2, hg with
    | 0, _, hg =>
      obtain ⟨hp, _, m', em, _, _, ho⟩ := hg
      obtain rfl : m = m' := by omega
      rw [show d + 1 - 1 = d from by omega] at ho
      have := HOnA.out.day ho
      omega
    | 1, _, hg => exact hg.1.lo
  have HRow := Lib.hid (row_own hown)
  clear hdl hown HOnA HOk2
  go_wp2_with fail
  go_loopw [8, 18, 97] (fun _ _ i wr => ∃ j : Nat, j ≤ xs.length ∧ i = .int .i64 (j : Int) ∧ Hid (Below w12.heap.size w12 wr)) (fun _ _ i _ => xs.length - (intOf i).toNat)
  case atStart => exact ⟨0, by omega, rfl, Below.refl _ _⟩
  case round =>
    obtain ⟨j, hj, rfl, hbr⟩ := hrel
    by_cases hlt : j < xs.length
    case neg =>
      obtain rfl : j = xs.length := by omega
      have t1 : decide ((xs.length : Int) < (xs.length : Int)) = false := decide_eq_false (by omega)
      have HBf := Lib.hid (below_then HB12.out hbr.out)
      clear hlt
      go_wp2_with fail
      go_ret
      exact ⟨rfl, HBf.out⟩
    have t1 : decide ((j : Int) < (xs.length : Int)) = true := decide_eq_true (by omega)
    obtain ⟨bb, o, rfl, hbl, hcs⟩ := HRow.out.open_ (ints_ne xs (by omega))
    have cx : wr.cell? ⟨bb, o + j, none⟩ = some (.int .i64 (xs.getD j 0)) := (hbr.out.cell (p := ⟨bb, o + j, none⟩) hbl).trans (ints_cell hcs j hlt)
    have hge := HGe.out j hlt
    clear hcs
    generalize xs.getD j 0 = x at *
    have t2 : decide (x < f) = false := decide_eq_false (by omega)
    go_wp2_with fail
    go_roundw
    case rel => exact ⟨j + 1, by omega, by go_num, hbr⟩
    case measure => simp [intOf]; omega

theorem walk (a0 : Int) (w0 : (Lit.int .i64 a0).wf = true) (a1 : Int) (w1 : (Lit.int .i64 a1).wf = true) (a2 : Int) (w2 : (Lit.int .i64 a2).wf = true) (a3 : Int) (w3 : (Lit.int .i64 a3).wf = true) (W : World) (hL : laidMet Tryz.prog Rows.reformSkipsRow.laid W) (hsh : W.ShapedOpen Tryz.prog) :
    Calls Tryz.prog 11 #[.int .i64 a0, .int .i64 a1, .int .i64 a2, .int .i64 a3] W fun e w' => e = .returned (.bool true) ∧ Below W.heap.size W w' :=
  core a0 a1 a2 a3 W (bounds_i64 w0).1 (bounds_i64 w0).2 (bounds_i64 w1).1 (bounds_i64 w1).2 ⟨sgs_of hL.tail.tail.tail.tail.tail.tail.tail, lvs_of hL.tail.tail.tail.tail.tail.tail, Shp.of hsh⟩
end Go.Proofs.YtbmbphikjainiaaGreatDoor.reformSkips
