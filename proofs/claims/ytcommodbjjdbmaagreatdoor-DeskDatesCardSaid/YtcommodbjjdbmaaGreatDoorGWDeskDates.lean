/- WDeskDates -/
import Derived.Test.YtcommodbjjdbmaaGreatDoorGDk0
import Derived.Test.YtcommodbjjdbmaaGreatDoorGBack1
/- The walk of DeskDates: it returns true at every input; it writes nothing that was there. -/
namespace Go.Proofs.YtcommodbjjdbmaaGreatDoor.deskDates
open Go Go.RowKit
set_option linter.unusedVariables false

theorem date_or (r : CatRow) (hr : r ∈ catR) (day : Int) (W : World) (hE : Env W) : Calls Tryz.prog 6 #[.string (str r.nm), .int .i64 day] W fun e w' => (∃ y m d E : Int, e = .returned (.tuple #[.agg #[.int .i64 y, .int .i64 m, .int .i64 d], .int .i64 E]) ∧ (E = 0 → DtAt r day y m d)) ∧ Below W.heap.size W w' := by
  refine (Date_any r hr day W hE).mono ?_
  rintro e w' ⟨c, hof, ok, hb, ⟨y, m, d, g1, g2, ho, rfl⟩ | ⟨_, rfl⟩⟩
  · exact ⟨⟨y, (m : Int) + 1, d + 1, 0, rfl, fun _ => ⟨c, m, hof, ok, g1, g2, rfl, by rw [show d + 1 - 1 = d from by omega]; exact ho⟩⟩, hb⟩
  · exact ⟨⟨0, 0, 0, 3, rfl, fun h => by cases h⟩, hb⟩
theorem text_eq (r k : CatRow) (day y m d : Int) : ((((((((((((⟨#[100, 97, 116, 101, 32]⟩ ++ str r.nm : ByteArray) ++ ⟨#[32]⟩) ++ str (Lib.itoa day)) ++ ⟨#[10, 100, 97, 121, 32]⟩) ++ str r.nm) ++ ⟨#[32]⟩) ++ str (dkL [y, m, d])) ++ ⟨#[10, 116, 117, 114, 110, 32]⟩) ++ str r.nm) ++ ⟨#[32]⟩) ++ str (dkL [y, m, d])) ++ ⟨#[32]⟩) ++ str k.nm ++ ⟨#[10]⟩ = str (lnT [dkL1 r day, dkL2 r y m d, dkL3 r k y m d]) := by
  rw [show (⟨#[100, 97, 116, 101, 32]⟩ : ByteArray) = str [100, 97, 116, 101, 32] from rfl, show (⟨#[32]⟩ : ByteArray) = str [32] from rfl, show (⟨#[10, 100, 97, 121, 32]⟩ : ByteArray) = str [10, 100, 97, 121, 32] from rfl, show (⟨#[10, 116, 117, 114, 110, 32]⟩ : ByteArray) = str [10, 116, 117, 114, 110, 32] from rfl, show (⟨#[10]⟩ : ByteArray) = str [10] from rfl]
  simp only [str_append]
  congr 1
  simp [lnT, dkL1, dkL2, dkL3, dkTx, DkIt.txt, dkL, Lib.join_cons, Lib.joinTail]
theorem date_eq (y m d : Int) : ((((str (Lib.itoa y) ++ ⟨#[32]⟩ : ByteArray) ++ str (Lib.itoa m)) ++ ⟨#[32]⟩) ++ str (Lib.itoa d)) = str (dkL [y, m, d]) := by
  rw [show (⟨#[32]⟩ : ByteArray) = str [32] from rfl]
  simp only [str_append]
  congr 1
  simp [dkL, Lib.join_cons, Lib.joinTail]
theorem want_eq (day y m d y2 m2 d2 : Int) : (((((((((((str (dkL [y, m, d]) ++ ⟨#[10]⟩ : ByteArray) ++ str (Lib.itoa day)) ++ ⟨#[10]⟩) ++ str (Lib.itoa day)) ++ ⟨#[32]⟩) ++ str (Lib.itoa y2)) ++ ⟨#[32]⟩) ++ str (Lib.itoa m2)) ++ ⟨#[32]⟩) ++ str (Lib.itoa d2)) ++ ⟨#[10]⟩) = str (lnT [dkL [y, m, d], dkL [day], dkL [day, y2, m2, d2]]) := by
  rw [show (⟨#[32]⟩ : ByteArray) = str [32] from rfl, show (⟨#[10]⟩ : ByteArray) = str [10] from rfl]
  simp only [str_append]
  congr 1
  simp [lnT, dkL, Lib.join_cons, Lib.joinTail]
theorem is_str (n : Int) : (⟨(Lib.itoa n).toArray⟩ : ByteArray) = str (Lib.itoa n) := rfl

set_option maxRecDepth 100000 in
set_option maxHeartbeats 4000000 in
theorem core (k m day0 : Int) (w : World) (hk1 : -9223372036854775808 ≤ k) (hk2 : k ≤ 9223372036854775807) (hm1 : -9223372036854775808 ≤ m) (hm2 : m ≤ 9223372036854775807) (hv : Env w) (hp : Pow w) :
    Calls Tryz.prog 3 #[.int .i64 k, .int .i64 m, .int .i64 day0] w fun e w' => e = .returned (.bool true) ∧ Below w.heap.size w w' := by
  have HNk := Lib.hid (fun W (h : Env W) => name_any k W hk1 hk2 h.h)
  have HNm := Lib.hid (fun W (h : Env W) => name_any m W hm1 hm2 h.h)
  have HWk := Lib.hid (week_any w hv hp)
  have HCut := Lib.hid (fun W => cut_any day0 (-300000) 1300000 W (by omega) (by omega) (by omega) (by omega))
  have b1 := Int.emod_nonneg day0 (show (1300000 : Int) ≠ 0 by omega)
  have b2 := Int.emod_lt_of_pos day0 (show (0 : Int) < 1300000 by omega)
  obtain ⟨day, hday⟩ : ∃ day, day = -300000 + day0 % 1300000 := ⟨_, rfl⟩
  rw [← hday] at HCut
  have hd1 : -300000 ≤ day := by omega
  have hd2 : day < 1000000 := by omega
  have HDk := Lib.hid (fun W (h : Env W) => date_or (rowK k) (rowK_in k) day W h)
  have HDm := Lib.hid (fun W (h : Env W) => date_or (rowK m) (rowK_in m) day W h)
  have HRk := Lib.hid (rowK_in k)
  have HRm := Lib.hid (rowK_in m)
  have HV := Lib.hid hv
  have HPw := Lib.hid hp
  clear b1 b2 hday hk1 hk2 hm1 hm2 hv hp
  generalize rowK k = r at *
  generalize rowK m = q at *
  have hnr := (nm_dk r HRk.out).2
  have hnq := (nm_dk q HRm.out).2
  obtain ⟨NK, hNK⟩ : ∃ NK, NK = str r.nm := ⟨_, rfl⟩
  obtain ⟨NM, hNM⟩ : ∃ NM, NM = str q.nm := ⟨_, rfl⟩
  have sK : NK.size ≤ 20 := by rw [hNK, str_size]; exact hnr
  have sM : NM.size ≤ 20 := by rw [hNM, str_size]; exact hnq
  rw [← hNK] at HNk HDk
  rw [← hNM] at HNm HDm
  have HEK := Lib.hid hNK
  have HEM := Lib.hid hNM
  clear hNK hNM hnr hnq
  go_enter Tryz.func3, Tryz.ntmps3
  go_wp2_with fail
  refine HWk.out.mono ?_
  rintro e w1 ⟨rfl, hb1⟩
  have HB1 := Lib.hid hb1
  clear hb1 HWk
  go_wp2_with (go_at_call 5; refine (HCut.out _).mono ?_; rintro e w' ⟨rfl, rfl⟩)
  refine (HNk.out _ (HV.out.next HB1.out)).mono ?_
  rintro e w2 ⟨rfl, hb2⟩
  have HB2 := Lib.hid (below_then HB1.out hb2)
  clear hb2 HB1
  go_wp2_with fail
  refine (HDk.out _ (HV.out.next HB2.out)).mono ?_
  rintro e w3 ⟨⟨y, mo, d, E1, rfl, hE1⟩, hb3⟩
  have HX3 := Lib.hid (Box.new w3 25 #[.int .i64 y, .int .i64 mo, .int .i64 d])
  have HB3 := Lib.hid (below_then (below_then HB2.out hb3) (below_alloc1 w3 (Obj.cells #[.int .i64 y, .int .i64 mo, .int .i64 d] 25)))
  have HE1 := Lib.hid hE1
  clear hb3 HB2 hE1
  go_upto_region 5 with fail
  generalize w3.alloc (Obj.cells #[.int .i64 y, .int .i64 mo, .int .i64 d] 25) = W3 at *
  generalize w3.heap.size = g1 at *
  go_wp2_with fail
  refine (HNm.out _ (HV.out.next HB3.out)).mono ?_
  rintro e w4 ⟨rfl, hb4⟩
  have HB4 := Lib.hid (below_then HB3.out hb4)
  have HX4 := Lib.hid (HX3.out.below hb4)
  clear hb4 HB3 HX3
  go_wp2_with fail
  refine (HDm.out _ (HV.out.next HB4.out)).mono ?_
  rintro e w5 ⟨⟨y2, mo2, d2, E2, rfl, hE2⟩, hb5⟩
  have hb6 := below_alloc1 w5 (Obj.cells #[.int .i64 y2, .int .i64 mo2, .int .i64 d2] 25)
  have HZ6 := Lib.hid (Box.new w5 25 #[.int .i64 y2, .int .i64 mo2, .int .i64 d2])
  have HB6 := Lib.hid (below_then (below_then HB4.out hb5) hb6)
  have HX6 := Lib.hid ((HX4.out.below hb5).below hb6)
  have HE2 := Lib.hid hE2
  clear hb5 hb6 HB4 HX4 hE2
  go_upto_region 6 with fail
  generalize w5.alloc (Obj.cells #[.int .i64 y2, .int .i64 mo2, .int .i64 d2] 25) = W6 at *
  generalize w5.heap.size = g2 at *
  by_cases h1 : E1 = 0
  case neg =>
    have t1 : (E1 != 0) = true := by rw [bne_iff_ne]; exact h1
    clear h1
    go_wp2_with fail
    go_ret
    exact ⟨rfl, HB6.out⟩
  by_cases h2 : E2 = 0
  case neg =>
    have t2 : (E2 != 0) = true := by rw [bne_iff_ne]; exact h2
    subst h1
    clear h2
    go_wp2_with fail
    go_ret
    exact ⟨rfl, HB6.out⟩
  subst h1
  subst h2
  have HD1 := Lib.hid (HE1.out rfl)
  have HD2 := Lib.hid (HE2.out rfl)
  have sm1 := HD1.out.small
  have sm2 := HD2.out.small
  have N0 := Lib.hid (fun W => num_any day W (by omega) (by omega))
  have N1 := Lib.hid (fun W => num_any y W (by omega) (by omega))
  have N2 := Lib.hid (fun W => num_any mo W (by omega) (by omega))
  have N3 := Lib.hid (fun W => num_any d W (by omega) (by omega))
  have N4 := Lib.hid (fun W => num_any y2 W (by omega) (by omega))
  have N5 := Lib.hid (fun W => num_any mo2 W (by omega) (by omega))
  have N6 := Lib.hid (fun W => num_any d2 W (by omega) (by omega))
  have HDt := Lib.hid (date_eq y mo d)
  have HTx := Lib.hid (text_eq r q day y mo d)
  have HWt := Lib.hid (want_eq day y mo d y2 mo2 d2)
  have HRun := Lib.hid (fun W (hE : Env W) (hp : Pow W) => three_any HRk.out HRm.out HD1.out HD2.out ⟨by omega, by omega⟩ W hE hp)
  rw [is_str] at N0 N1 N2 N3 N4 N5 N6
  have z0 := itoa_size day (by omega) (by omega)
  have z1 := itoa_size y (by omega) (by omega)
  have z2 := itoa_size mo (by omega) (by omega)
  have z3 := itoa_size d (by omega) (by omega)
  have z4 := itoa_size y2 (by omega) (by omega)
  have z5 := itoa_size mo2 (by omega) (by omega)
  have z6 := itoa_size d2 (by omega) (by omega)
  rw [← HEK.out, ← HEM.out] at HTx
  have hDs : (str (dkL [y, mo, d])).size ≤ 100 := by
    rw [← HDt.out]
    simp only [ByteArray.size_append, show (⟨#[32]⟩ : ByteArray).size = 1 from rfl]
    omega
  generalize str (lnT [dkL1 r day, dkL2 r y mo d, dkL3 r q y mo d]) = TX at *
  generalize str (lnT [dkL [y, mo, d], dkL [day], dkL [day, y2, mo2, d2]]) = WT at *
  generalize str (dkL [y, mo, d]) = DD at *
  generalize str (Lib.itoa day) = S0 at *
  generalize str (Lib.itoa y) = S1 at *
  generalize str (Lib.itoa mo) = S2 at *
  generalize str (Lib.itoa d) = S3 at *
  generalize str (Lib.itoa y2) = S4 at *
  generalize str (Lib.itoa mo2) = S5 at *
  generalize str (Lib.itoa d2) = S6 at *
  clear sm1 sm2 HE1 HE2 HD1 HD2 HDk HDm HCut
  have x0 : ∀ W, Below W6.heap.size W6 W → W.cell? ⟨g1, 0, none⟩ = some (.int .i64 y) := fun W hW => (HX6.out.below hW).cell 0
  have x1 : ∀ W, Below W6.heap.size W6 W → W.cell? ⟨g1, 1, none⟩ = some (.int .i64 mo) := fun W hW => (HX6.out.below hW).cell 1
  have x2 : ∀ W, Below W6.heap.size W6 W → W.cell? ⟨g1, 2, none⟩ = some (.int .i64 d) := fun W hW => (HX6.out.below hW).cell 2
  go_upto_region 9 with fail
  have c1 : (⟨#[32]⟩ : ByteArray).size = 1 := rfl
  have p1 : (S1 ++ ⟨#[32]⟩ : ByteArray).size ≤ 22 := by rw [ByteArray.size_append]; omega
  have p2 : (S1 ++ ⟨#[32]⟩ ++ S2 : ByteArray).size ≤ 43 := by rw [ByteArray.size_append]; omega
  have p3 : (S1 ++ ⟨#[32]⟩ ++ S2 ++ ⟨#[32]⟩ : ByteArray).size ≤ 44 := by rw [ByteArray.size_append]; omega
  refine flow_begin (tellOf [(3, det (.string S1)), (8, det (.string S2)), (14, det (.string S3))]) (by kernel_rfl) (by kernel_rfl) ?_
  repeat (first | (refine flow_val (v := ?_) (by rfl) (by rfl) (fun w hb => ?_) ?_; rotate_left; (· ((go_simp) <;> ((repeat' apply And.intro) <;> with_reducible rfl))); try simp only [Act.put, List.setIfInBounds_toArray, List.set_cons_zero, List.set_cons_succ, Nat.reduceAdd]) | (refine flow_val (v := ?_) (by rfl) (by rfl) (fun w hb => ?_) ?_; rotate_left; (· (go_simp; (refine (if_neg ?_).trans ?_); (· omega); (· with_reducible rfl))); try simp only [Act.put, List.setIfInBounds_toArray, List.set_cons_zero, List.set_cons_succ, Nat.reduceAdd]) | (refine flow_skip (by rfl) (by rfl) ?_; try simp only [Act.put, List.setIfInBounds_toArray, List.set_cons_zero, List.set_cons_succ, Nat.reduceAdd]))
  refine flow_call (f := ?_) (args := ?_) [] (by kernel_rfl) (by rfl) (by rfl) (fun w hb => ?_) (fun w hb hu => ?_) ?_; rotate_left 2; (· ((go_simp) <;> ((repeat' apply And.intro) <;> with_reducible rfl)))
  · exact (N1.out w).mono fun e w' ⟨he, hw⟩ => ⟨he, by rw [hw]; exact Below.refl _ _⟩
  try simp only [Act.put, List.setIfInBounds_toArray, List.set_cons_zero, List.set_cons_succ, Nat.reduceAdd]
  repeat (first | (refine flow_val (v := ?_) (by rfl) (by rfl) (fun w hb => ?_) ?_; rotate_left; (· ((go_simp) <;> ((repeat' apply And.intro) <;> with_reducible rfl))); try simp only [Act.put, List.setIfInBounds_toArray, List.set_cons_zero, List.set_cons_succ, Nat.reduceAdd]) | (refine flow_val (v := ?_) (by rfl) (by rfl) (fun w hb => ?_) ?_; rotate_left; (· (go_simp; (refine (if_neg ?_).trans ?_); (· omega); (· with_reducible rfl))); try simp only [Act.put, List.setIfInBounds_toArray, List.set_cons_zero, List.set_cons_succ, Nat.reduceAdd]) | (refine flow_skip (by rfl) (by rfl) ?_; try simp only [Act.put, List.setIfInBounds_toArray, List.set_cons_zero, List.set_cons_succ, Nat.reduceAdd]))
  refine flow_call (f := ?_) (args := ?_) [] (by kernel_rfl) (by rfl) (by rfl) (fun w hb => ?_) (fun w hb hu => ?_) ?_; rotate_left 2; (· ((go_simp) <;> ((repeat' apply And.intro) <;> with_reducible rfl)))
  · exact (N2.out w).mono fun e w' ⟨he, hw⟩ => ⟨he, by rw [hw]; exact Below.refl _ _⟩
  try simp only [Act.put, List.setIfInBounds_toArray, List.set_cons_zero, List.set_cons_succ, Nat.reduceAdd]
  repeat (first | (refine flow_val (v := ?_) (by rfl) (by rfl) (fun w hb => ?_) ?_; rotate_left; (· ((go_simp) <;> ((repeat' apply And.intro) <;> with_reducible rfl))); try simp only [Act.put, List.setIfInBounds_toArray, List.set_cons_zero, List.set_cons_succ, Nat.reduceAdd]) | (refine flow_val (v := ?_) (by rfl) (by rfl) (fun w hb => ?_) ?_; rotate_left; (· (go_simp; (refine (if_neg ?_).trans ?_); (· omega); (· with_reducible rfl))); try simp only [Act.put, List.setIfInBounds_toArray, List.set_cons_zero, List.set_cons_succ, Nat.reduceAdd]) | (refine flow_skip (by rfl) (by rfl) ?_; try simp only [Act.put, List.setIfInBounds_toArray, List.set_cons_zero, List.set_cons_succ, Nat.reduceAdd]))
  refine flow_call (f := ?_) (args := ?_) [] (by kernel_rfl) (by rfl) (by rfl) (fun w hb => ?_) (fun w hb hu => ?_) ?_; rotate_left 2; (· ((go_simp) <;> ((repeat' apply And.intro) <;> with_reducible rfl)))
  · exact (N3.out w).mono fun e w' ⟨he, hw⟩ => ⟨he, by rw [hw]; exact Below.refl _ _⟩
  try simp only [Act.put, List.setIfInBounds_toArray, List.set_cons_zero, List.set_cons_succ, Nat.reduceAdd]
  repeat (first | (refine flow_val (v := ?_) (by rfl) (by rfl) (fun w hb => ?_) ?_; rotate_left; (· ((go_simp) <;> ((repeat' apply And.intro) <;> with_reducible rfl))); try simp only [Act.put, List.setIfInBounds_toArray, List.set_cons_zero, List.set_cons_succ, Nat.reduceAdd]) | (refine flow_val (v := ?_) (by rfl) (by rfl) (fun w hb => ?_) ?_; rotate_left; (· (go_simp; (refine (if_neg ?_).trans ?_); (· omega); (· with_reducible rfl))); try simp only [Act.put, List.setIfInBounds_toArray, List.set_cons_zero, List.set_cons_succ, Nat.reduceAdd]) | (refine flow_skip (by rfl) (by rfl) ?_; try simp only [Act.put, List.setIfInBounds_toArray, List.set_cons_zero, List.set_cons_succ, Nat.reduceAdd]))
  refine flow_nil fun w7 hb7 _ => ?_
  rw [HDt.out]
  have HB7 := Lib.hid (below_then HB6.out hb7)
  have HZ7 := Lib.hid (HZ6.out.below hb7)
  clear p1 p2 p3 x0 x1 x2 hb7 HB6 HZ6 HX6 N1 N2 N3
  have ca : (⟨#[100, 97, 116, 101, 32]⟩ : ByteArray).size = 5 := rfl
  have cb : (⟨#[10, 100, 97, 121, 32]⟩ : ByteArray).size = 5 := rfl
  have cc : (⟨#[10, 116, 117, 114, 110, 32]⟩ : ByteArray).size = 6 := rfl
  have cd : (⟨#[10]⟩ : ByteArray).size = 1 := rfl
  have p1 : (⟨#[100, 97, 116, 101, 32]⟩ ++ NK : ByteArray).size ≤ 25 := by rw [ByteArray.size_append]; omega
  have p2 : (⟨#[100, 97, 116, 101, 32]⟩ ++ NK ++ ⟨#[32]⟩ : ByteArray).size ≤ 26 := by rw [ByteArray.size_append]; omega
  have p3 : (⟨#[100, 97, 116, 101, 32]⟩ ++ NK ++ ⟨#[32]⟩ ++ S0 : ByteArray).size ≤ 47 := by rw [ByteArray.size_append]; omega
  have p4 : (⟨#[100, 97, 116, 101, 32]⟩ ++ NK ++ ⟨#[32]⟩ ++ S0 ++ ⟨#[10, 100, 97, 121, 32]⟩ : ByteArray).size ≤ 52 := by rw [ByteArray.size_append]; omega
  have p5 : (⟨#[100, 97, 116, 101, 32]⟩ ++ NK ++ ⟨#[32]⟩ ++ S0 ++ ⟨#[10, 100, 97, 121, 32]⟩ ++ NK : ByteArray).size ≤ 72 := by rw [ByteArray.size_append]; omega
  have p6 : (⟨#[100, 97, 116, 101, 32]⟩ ++ NK ++ ⟨#[32]⟩ ++ S0 ++ ⟨#[10, 100, 97, 121, 32]⟩ ++ NK ++ ⟨#[32]⟩ : ByteArray).size ≤ 73 := by rw [ByteArray.size_append]; omega
  have p7 : (⟨#[100, 97, 116, 101, 32]⟩ ++ NK ++ ⟨#[32]⟩ ++ S0 ++ ⟨#[10, 100, 97, 121, 32]⟩ ++ NK ++ ⟨#[32]⟩ ++ DD : ByteArray).size ≤ 173 := by rw [ByteArray.size_append]; omega
  have p8 : (⟨#[100, 97, 116, 101, 32]⟩ ++ NK ++ ⟨#[32]⟩ ++ S0 ++ ⟨#[10, 100, 97, 121, 32]⟩ ++ NK ++ ⟨#[32]⟩ ++ DD ++ ⟨#[10, 116, 117, 114, 110, 32]⟩ : ByteArray).size ≤ 179 := by rw [ByteArray.size_append]; omega
  have p9 : (⟨#[100, 97, 116, 101, 32]⟩ ++ NK ++ ⟨#[32]⟩ ++ S0 ++ ⟨#[10, 100, 97, 121, 32]⟩ ++ NK ++ ⟨#[32]⟩ ++ DD ++ ⟨#[10, 116, 117, 114, 110, 32]⟩ ++ NK : ByteArray).size ≤ 199 := by rw [ByteArray.size_append]; omega
  have p10 : (⟨#[100, 97, 116, 101, 32]⟩ ++ NK ++ ⟨#[32]⟩ ++ S0 ++ ⟨#[10, 100, 97, 121, 32]⟩ ++ NK ++ ⟨#[32]⟩ ++ DD ++ ⟨#[10, 116, 117, 114, 110, 32]⟩ ++ NK ++ ⟨#[32]⟩ : ByteArray).size ≤ 200 := by rw [ByteArray.size_append]; omega
  have p11 : (⟨#[100, 97, 116, 101, 32]⟩ ++ NK ++ ⟨#[32]⟩ ++ S0 ++ ⟨#[10, 100, 97, 121, 32]⟩ ++ NK ++ ⟨#[32]⟩ ++ DD ++ ⟨#[10, 116, 117, 114, 110, 32]⟩ ++ NK ++ ⟨#[32]⟩ ++ DD : ByteArray).size ≤ 300 := by rw [ByteArray.size_append]; omega
  have p12 : (⟨#[100, 97, 116, 101, 32]⟩ ++ NK ++ ⟨#[32]⟩ ++ S0 ++ ⟨#[10, 100, 97, 121, 32]⟩ ++ NK ++ ⟨#[32]⟩ ++ DD ++ ⟨#[10, 116, 117, 114, 110, 32]⟩ ++ NK ++ ⟨#[32]⟩ ++ DD ++ ⟨#[32]⟩ : ByteArray).size ≤ 301 := by rw [ByteArray.size_append]; omega
  have p13 : (⟨#[100, 97, 116, 101, 32]⟩ ++ NK ++ ⟨#[32]⟩ ++ S0 ++ ⟨#[10, 100, 97, 121, 32]⟩ ++ NK ++ ⟨#[32]⟩ ++ DD ++ ⟨#[10, 116, 117, 114, 110, 32]⟩ ++ NK ++ ⟨#[32]⟩ ++ DD ++ ⟨#[32]⟩ ++ NM : ByteArray).size ≤ 321 := by rw [ByteArray.size_append]; omega
  go_wp2_with fail
  refine (HNk.out _ (HV.out.next HB7.out)).mono ?_
  rintro e w8 ⟨rfl, hb8⟩
  have HB8 := Lib.hid (below_then HB7.out hb8)
  have HZ8 := Lib.hid (HZ7.out.below hb8)
  clear hb8 HB7 HZ7
  go_wp2_with (go_at_call 8; refine (N0.out _).mono ?_; rintro e w' ⟨rfl, rfl⟩)
  refine (HNk.out _ (HV.out.next HB8.out)).mono ?_
  rintro e w9 ⟨rfl, hb9⟩
  have HB9 := Lib.hid (below_then HB8.out hb9)
  have HZ9 := Lib.hid (HZ8.out.below hb9)
  clear hb9 HB8 HZ8
  go_wp2_with fail
  refine (HNk.out _ (HV.out.next HB9.out)).mono ?_
  rintro e w10 ⟨rfl, hb10⟩
  have HB10 := Lib.hid (below_then HB9.out hb10)
  have HZ10 := Lib.hid (HZ9.out.below hb10)
  clear hb10 HB9 HZ9
  go_wp2_with fail
  refine (HNm.out _ (HV.out.next HB10.out)).mono ?_
  rintro e w11 ⟨rfl, hb11⟩
  have HB11 := Lib.hid (below_then HB10.out hb11)
  have HZ11 := Lib.hid (HZ10.out.below hb11)
  clear hb11 HB10 HZ10
  go_upto_region 11 with fail
  rw [HTx.out]
  clear p1 p2 p3 p4 p5 p6 p7 p8 p9 p10 p11 p12 p13
  have r1 : (DD ++ ⟨#[10]⟩ : ByteArray).size ≤ 101 := by rw [ByteArray.size_append]; omega
  have r2 : (DD ++ ⟨#[10]⟩ ++ S0 : ByteArray).size ≤ 122 := by rw [ByteArray.size_append]; omega
  have r3 : (DD ++ ⟨#[10]⟩ ++ S0 ++ ⟨#[10]⟩ : ByteArray).size ≤ 123 := by rw [ByteArray.size_append]; omega
  have r4 : (DD ++ ⟨#[10]⟩ ++ S0 ++ ⟨#[10]⟩ ++ S0 : ByteArray).size ≤ 144 := by rw [ByteArray.size_append]; omega
  have r5 : (DD ++ ⟨#[10]⟩ ++ S0 ++ ⟨#[10]⟩ ++ S0 ++ ⟨#[32]⟩ : ByteArray).size ≤ 145 := by rw [ByteArray.size_append]; omega
  have r6 : (DD ++ ⟨#[10]⟩ ++ S0 ++ ⟨#[10]⟩ ++ S0 ++ ⟨#[32]⟩ ++ S4 : ByteArray).size ≤ 166 := by rw [ByteArray.size_append]; omega
  have r7 : (DD ++ ⟨#[10]⟩ ++ S0 ++ ⟨#[10]⟩ ++ S0 ++ ⟨#[32]⟩ ++ S4 ++ ⟨#[32]⟩ : ByteArray).size ≤ 167 := by rw [ByteArray.size_append]; omega
  have r8 : (DD ++ ⟨#[10]⟩ ++ S0 ++ ⟨#[10]⟩ ++ S0 ++ ⟨#[32]⟩ ++ S4 ++ ⟨#[32]⟩ ++ S5 : ByteArray).size ≤ 188 := by rw [ByteArray.size_append]; omega
  have r9 : (DD ++ ⟨#[10]⟩ ++ S0 ++ ⟨#[10]⟩ ++ S0 ++ ⟨#[32]⟩ ++ S4 ++ ⟨#[32]⟩ ++ S5 ++ ⟨#[32]⟩ : ByteArray).size ≤ 189 := by rw [ByteArray.size_append]; omega
  have r10 : (DD ++ ⟨#[10]⟩ ++ S0 ++ ⟨#[10]⟩ ++ S0 ++ ⟨#[32]⟩ ++ S4 ++ ⟨#[32]⟩ ++ S5 ++ ⟨#[32]⟩ ++ S6 : ByteArray).size ≤ 210 := by rw [ByteArray.size_append]; omega
  have x0 : ∀ W, Below w11.heap.size w11 W → W.cell? ⟨g2, 0, none⟩ = some (.int .i64 y2) := fun W hW => (HZ11.out.below hW).cell 0
  have x1 : ∀ W, Below w11.heap.size w11 W → W.cell? ⟨g2, 1, none⟩ = some (.int .i64 mo2) := fun W hW => (HZ11.out.below hW).cell 1
  have x2 : ∀ W, Below w11.heap.size w11 W → W.cell? ⟨g2, 2, none⟩ = some (.int .i64 d2) := fun W hW => (HZ11.out.below hW).cell 2
  refine flow_begin (tellOf [(4, det (.string S0)), (9, det (.string S0)), (15, det (.string S4)), (21, det (.string S5)), (27, det (.string S6))]) (by kernel_rfl) (by kernel_rfl) ?_
  repeat (first | (refine flow_val (v := ?_) (by rfl) (by rfl) (fun w hb => ?_) ?_; rotate_left; (· ((go_simp) <;> ((repeat' apply And.intro) <;> with_reducible rfl))); try simp only [Act.put, List.setIfInBounds_toArray, List.set_cons_zero, List.set_cons_succ, Nat.reduceAdd]) | (refine flow_val (v := ?_) (by rfl) (by rfl) (fun w hb => ?_) ?_; rotate_left; (· (go_simp; (refine (if_neg ?_).trans ?_); (· omega); (· with_reducible rfl))); try simp only [Act.put, List.setIfInBounds_toArray, List.set_cons_zero, List.set_cons_succ, Nat.reduceAdd]) | (refine flow_skip (by rfl) (by rfl) ?_; try simp only [Act.put, List.setIfInBounds_toArray, List.set_cons_zero, List.set_cons_succ, Nat.reduceAdd]))
  refine flow_call (f := ?_) (args := ?_) [] (by kernel_rfl) (by rfl) (by rfl) (fun w hb => ?_) (fun w hb hu => ?_) ?_; rotate_left 2; (· ((go_simp) <;> ((repeat' apply And.intro) <;> with_reducible rfl)))
  · exact (N0.out w).mono fun e w' ⟨he, hw⟩ => ⟨he, by rw [hw]; exact Below.refl _ _⟩
  try simp only [Act.put, List.setIfInBounds_toArray, List.set_cons_zero, List.set_cons_succ, Nat.reduceAdd]
  repeat (first | (refine flow_val (v := ?_) (by rfl) (by rfl) (fun w hb => ?_) ?_; rotate_left; (· ((go_simp) <;> ((repeat' apply And.intro) <;> with_reducible rfl))); try simp only [Act.put, List.setIfInBounds_toArray, List.set_cons_zero, List.set_cons_succ, Nat.reduceAdd]) | (refine flow_val (v := ?_) (by rfl) (by rfl) (fun w hb => ?_) ?_; rotate_left; (· (go_simp; (refine (if_neg ?_).trans ?_); (· omega); (· with_reducible rfl))); try simp only [Act.put, List.setIfInBounds_toArray, List.set_cons_zero, List.set_cons_succ, Nat.reduceAdd]) | (refine flow_skip (by rfl) (by rfl) ?_; try simp only [Act.put, List.setIfInBounds_toArray, List.set_cons_zero, List.set_cons_succ, Nat.reduceAdd]))
  refine flow_call (f := ?_) (args := ?_) [] (by kernel_rfl) (by rfl) (by rfl) (fun w hb => ?_) (fun w hb hu => ?_) ?_; rotate_left 2; (· ((go_simp) <;> ((repeat' apply And.intro) <;> with_reducible rfl)))
  · exact (N0.out w).mono fun e w' ⟨he, hw⟩ => ⟨he, by rw [hw]; exact Below.refl _ _⟩
  try simp only [Act.put, List.setIfInBounds_toArray, List.set_cons_zero, List.set_cons_succ, Nat.reduceAdd]
  repeat (first | (refine flow_val (v := ?_) (by rfl) (by rfl) (fun w hb => ?_) ?_; rotate_left; (· ((go_simp) <;> ((repeat' apply And.intro) <;> with_reducible rfl))); try simp only [Act.put, List.setIfInBounds_toArray, List.set_cons_zero, List.set_cons_succ, Nat.reduceAdd]) | (refine flow_val (v := ?_) (by rfl) (by rfl) (fun w hb => ?_) ?_; rotate_left; (· (go_simp; (refine (if_neg ?_).trans ?_); (· omega); (· with_reducible rfl))); try simp only [Act.put, List.setIfInBounds_toArray, List.set_cons_zero, List.set_cons_succ, Nat.reduceAdd]) | (refine flow_skip (by rfl) (by rfl) ?_; try simp only [Act.put, List.setIfInBounds_toArray, List.set_cons_zero, List.set_cons_succ, Nat.reduceAdd]))
  refine flow_call (f := ?_) (args := ?_) [] (by kernel_rfl) (by rfl) (by rfl) (fun w hb => ?_) (fun w hb hu => ?_) ?_; rotate_left 2; (· ((go_simp) <;> ((repeat' apply And.intro) <;> with_reducible rfl)))
  · exact (N4.out w).mono fun e w' ⟨he, hw⟩ => ⟨he, by rw [hw]; exact Below.refl _ _⟩
  try simp only [Act.put, List.setIfInBounds_toArray, List.set_cons_zero, List.set_cons_succ, Nat.reduceAdd]
  repeat (first | (refine flow_val (v := ?_) (by rfl) (by rfl) (fun w hb => ?_) ?_; rotate_left; (· ((go_simp) <;> ((repeat' apply And.intro) <;> with_reducible rfl))); try simp only [Act.put, List.setIfInBounds_toArray, List.set_cons_zero, List.set_cons_succ, Nat.reduceAdd]) | (refine flow_val (v := ?_) (by rfl) (by rfl) (fun w hb => ?_) ?_; rotate_left; (· (go_simp; (refine (if_neg ?_).trans ?_); (· omega); (· with_reducible rfl))); try simp only [Act.put, List.setIfInBounds_toArray, List.set_cons_zero, List.set_cons_succ, Nat.reduceAdd]) | (refine flow_skip (by rfl) (by rfl) ?_; try simp only [Act.put, List.setIfInBounds_toArray, List.set_cons_zero, List.set_cons_succ, Nat.reduceAdd]))
  refine flow_call (f := ?_) (args := ?_) [] (by kernel_rfl) (by rfl) (by rfl) (fun w hb => ?_) (fun w hb hu => ?_) ?_; rotate_left 2; (· ((go_simp) <;> ((repeat' apply And.intro) <;> with_reducible rfl)))
  · exact (N5.out w).mono fun e w' ⟨he, hw⟩ => ⟨he, by rw [hw]; exact Below.refl _ _⟩
  try simp only [Act.put, List.setIfInBounds_toArray, List.set_cons_zero, List.set_cons_succ, Nat.reduceAdd]
  repeat (first | (refine flow_val (v := ?_) (by rfl) (by rfl) (fun w hb => ?_) ?_; rotate_left; (· ((go_simp) <;> ((repeat' apply And.intro) <;> with_reducible rfl))); try simp only [Act.put, List.setIfInBounds_toArray, List.set_cons_zero, List.set_cons_succ, Nat.reduceAdd]) | (refine flow_val (v := ?_) (by rfl) (by rfl) (fun w hb => ?_) ?_; rotate_left; (· (go_simp; (refine (if_neg ?_).trans ?_); (· omega); (· with_reducible rfl))); try simp only [Act.put, List.setIfInBounds_toArray, List.set_cons_zero, List.set_cons_succ, Nat.reduceAdd]) | (refine flow_skip (by rfl) (by rfl) ?_; try simp only [Act.put, List.setIfInBounds_toArray, List.set_cons_zero, List.set_cons_succ, Nat.reduceAdd]))
  refine flow_call (f := ?_) (args := ?_) [] (by kernel_rfl) (by rfl) (by rfl) (fun w hb => ?_) (fun w hb hu => ?_) ?_; rotate_left 2; (· ((go_simp) <;> ((repeat' apply And.intro) <;> with_reducible rfl)))
  · exact (N6.out w).mono fun e w' ⟨he, hw⟩ => ⟨he, by rw [hw]; exact Below.refl _ _⟩
  try simp only [Act.put, List.setIfInBounds_toArray, List.set_cons_zero, List.set_cons_succ, Nat.reduceAdd]
  repeat (first | (refine flow_val (v := ?_) (by rfl) (by rfl) (fun w hb => ?_) ?_; rotate_left; (· ((go_simp) <;> ((repeat' apply And.intro) <;> with_reducible rfl))); try simp only [Act.put, List.setIfInBounds_toArray, List.set_cons_zero, List.set_cons_succ, Nat.reduceAdd]) | (refine flow_val (v := ?_) (by rfl) (by rfl) (fun w hb => ?_) ?_; rotate_left; (· (go_simp; (refine (if_neg ?_).trans ?_); (· omega); (· with_reducible rfl))); try simp only [Act.put, List.setIfInBounds_toArray, List.set_cons_zero, List.set_cons_succ, Nat.reduceAdd]) | (refine flow_skip (by rfl) (by rfl) ?_; try simp only [Act.put, List.setIfInBounds_toArray, List.set_cons_zero, List.set_cons_succ, Nat.reduceAdd]))
  refine flow_nil fun w12 hb12 _ => ?_
  rw [HWt.out]
  have HB12 := Lib.hid (below_then HB11.out hb12)
  clear r1 r2 r3 r4 r5 r6 r7 r8 r9 r10 x0 x1 x2 hb12 HB11 HZ11 N0 N4 N5 N6 c1 ca cb cc cd
  go_wp2_with (go_at_call 4; refine (HRun.out _ (HV.out.next HB12.out) (HPw.out.next HB12.out)).mono ?_; rintro e w13 ⟨rfl, hb13⟩)
  have HB13 := Lib.hid (below_then HB12.out hb13)
  clear hb13
  go_wp2_with fail
  go_ret
  exact ⟨rfl, HB13.out⟩

theorem walk (a0 : Int) (w0 : (Lit.int .i64 a0).wf = true) (a1 : Int) (w1 : (Lit.int .i64 a1).wf = true) (a2 : Int) (w2 : (Lit.int .i64 a2).wf = true) (W : World) (hL : laidMet Tryz.prog Rows.deskDatesRow.laid W) (hsh : W.ShapedOpen Tryz.prog) :
    Calls Tryz.prog 3 #[.int .i64 a0, .int .i64 a1, .int .i64 a2] W fun e w' => e = .returned (.bool true) ∧ Below W.heap.size W w' :=
  core a0 a1 a2 W (bounds_i64 w0).1 (bounds_i64 w0).2 (bounds_i64 w1).1 (bounds_i64 w1).2 ⟨sgs_of hL.tail.tail.tail.tail.tail.tail.tail.tail.tail, lvs_of hL.tail.tail.tail.tail.tail.tail.tail.tail, Shp.of hsh⟩ (pow_of hL.tail.tail)
end Go.Proofs.YtcommodbjjdbmaaGreatDoor.deskDates
