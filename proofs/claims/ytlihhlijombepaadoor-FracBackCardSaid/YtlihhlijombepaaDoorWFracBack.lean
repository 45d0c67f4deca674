/- The walk of FracBack: it returns true at every input; it writes nothing that was there. -/
import Derived.Test.YtlihhlijombepaaDoorFracText
import Derived.Test.YtlihhlijombepaaDoorFrac2
namespace Go.Proofs.YtlihhlijombepaaDoor.fracBack
open Go.RowKit
set_option linter.unusedVariables false

set_option maxRecDepth 100000 in
theorem floor_yes (n d : Int) (w : World) (h : FOk n d) :
    Calls Tryd.prog 34 #[.agg #[.int .i64 n, .int .i64 d]] w fun e w' => e = .returned (.tuple #[.int .i64 (n / d), .int .i64 0]) ∧ Below w.heap.size w w' := by
  have HB1 := Lib.hid (below_alloc1 w (Obj.cells #[.int .i64 n, .int .i64 d] 73))
  have HX := Lib.hid (Box.new w 73 #[.int .i64 n, .int .i64 d])
  have HC := Lib.hid (fcheck_yes n d (w.alloc (Obj.cells #[.int .i64 n, .int .i64 d] 73)) h)
  have HD := Lib.hid (fun W => down_pos n d W (by have := h.2.2.1; omega) (by have := h.2.2.2.1; omega) h.1 (by have := h.2.1; omega))
  clear h
  go_enter Tryd.func34, Tryd.ntmps34
  go_wp2_with fail
  refine HC.out.mono ?_
  rintro e w1 ⟨rfl, hb⟩
  have HB2 := Lib.hid (below_then HB1.out hb)
  have x0 := (HX.out.below hb).cell 0
  have x1 := (HX.out.below hb).cell 1
  clear hb HC
  simp only [List.getElem?_toArray, List.getElem?_cons_succ, List.getElem?_cons_zero] at x0 x1
  go_wp2_with fail
  refine (HD.out _).mono ?_
  rintro e w2 ⟨rfl, k, rfl⟩
  go_wp2_with fail
  go_ret2
  exact ⟨rfl, below_drew HB2.out k⟩

theorem floor_in (n d : Int) (hd : 1 ≤ d) : n / d * d ≤ n ∧ n < (n / d + 1) * d := by
  have h1 := Int.emod_nonneg n (show d ≠ 0 by omega)
  have h2 := Int.emod_lt_of_pos n (show 0 < d by omega)
  have h3 := Int.emod_add_mul_ediv n d
  rw [Int.mul_comm] at h3
  have h4 : (n / d + 1) * d = n / d * d + d := by rw [Int.add_mul, Int.one_mul]
  omega

set_option maxHeartbeats 1000000 in
set_option maxRecDepth 100000 in
theorem core (n d : Int) (w : World) (h1 : -9223372036854775808 ≤ n) (h2 : n ≤ 9223372036854775807) (h3 : -9223372036854775808 ≤ d) (h4 : d ≤ 9223372036854775807) (hp : Pow w) (hs : Shp w) :
    Calls Tryd.prog 7 #[.int .i64 n, .int .i64 d] w fun e w' => e = .returned (.bool true) ∧ Below w.heap.size w w' := by
  have HT1 := Lib.hid (ftext_yes 1 2 w ⟨by omega, by omega, by omega, by omega, by decide⟩ hp)
  have i1 : Lib.itoa 1 = [49] := by unfold Lib.itoa; rw [if_neg (by omega)]; exact Lib.decDigits_one (by omega)
  have i2 : Lib.itoa 2 = [50] := by unfold Lib.itoa; rw [if_neg (by omega)]; exact Lib.decDigits_one (by omega)
  have e12 : str (showL 1 2) = ⟨#[49, 47, 50]⟩ := by
    unfold showL str
    rw [if_neg (by omega), i1, i2]
    rfl
  rw [e12] at HT1
  have HP := Lib.hid hp
  have HS := Lib.hid hs
  clear e12 hp hs i1 i2
  go_enter Tryd.func7, Tryd.ntmps7
  go_wp2_with fail
  refine HT1.out.mono ?_
  rintro e w1 ⟨rfl, hb⟩
  have HB1 := Lib.hid hb
  clear hb HT1
  by_cases h0 : d = 0
  · subst h0
    have HO := Lib.hid (of_zero n w1)
    go_wp2_with fail
    refine HO.out.mono ?_
    rintro e w2 ⟨rfl, hb⟩
    have HB2 := Lib.hid (below_then HB1.out hb)
    clear hb HO
    go_wp2_with fail
    go_ret
    exact ⟨rfl, HB2.out.alloc HB2.out.size _⟩
  by_cases hov : 2147483647 < (fN n d).natAbs ∨ 2147483647 < fD n d
  · have HO := Lib.hid (of_over n d w1 h1 h2 h3 h4 h0 hov)
    clear hov h0
    go_wp2_with fail
    refine HO.out.mono ?_
    rintro e w2 ⟨rfl, hb⟩
    have HB2 := Lib.hid (below_then HB1.out hb)
    clear hb HO
    go_wp2_with fail
    go_ret
    exact ⟨rfl, HB2.out.alloc HB2.out.size _⟩
  have HO := Lib.hid (of_fits n d w1 h1 h2 h3 h4 h0 (by omega) (by omega))
  obtain ⟨f1, f2, f3, f4, f5⟩ := fD_pos n d h0
  have HOK : Hid (FOk (fN n d) (fD n d)) := ⟨f1, by omega, by omega, by omega, f4⟩
  have b1 : -2147483647 ≤ fN n d := by omega
  have b2 : fN n d ≤ 2147483647 := by omega
  have b3 : 1 ≤ fD n d := f1
  have b4 : fD n d ≤ 2147483647 := by omega
  clear hov h0 f1 f2 f3 f4 f5 h1 h2 h3 h4
  go_wp2_with fail
  refine HO.out.mono ?_
  generalize fN n d = N at *
  generalize fD n d = D at *
  rintro e w2 ⟨rfl, hb⟩
  have HB2 := Lib.hid (below_then HB1.out hb)
  have HX := Lib.hid (Box.new w2 73 #[.int .i64 N, .int .i64 D])
  have HBx := Lib.hid (below_then HB2.out (below_alloc1 w2 (Obj.cells #[.int .i64 N, .int .i64 D] 73)))
  have HT := Lib.hid (ftext_yes N D (w2.alloc (Obj.cells #[.int .i64 N, .int .i64 D] 73)) HOK.out (HP.out.next HBx.out))
  clear hb HO
  go_wp2_with fail
  refine HT.out.mono ?_
  rintro e w3 ⟨rfl, hb⟩
  have HX3 := Lib.hid (HX.out.below hb)
  have HB3 := Lib.hid (below_then HBx.out hb)
  have HR := Lib.hid (fread_yes N D w3 HOK.out (HP.out.next HB3.out) (HS.out.next HB3.out))
  have HFl := Lib.hid (fun W => floor_yes N D W HOK.out)
  generalize w2.heap.size = g at *
  clear hb HT HX HBx HB2
  go_wp2_with fail
  refine HR.out.mono ?_
  rintro e w4 ⟨rfl, hb⟩
  have HX4 := Lib.hid ((HX3.out.below hb).alloc (.cells #[.int .i64 N, .int .i64 D] 73))
  have HB4 := Lib.hid ((below_then HB3.out hb).alloc (below_then HB3.out hb).size (.cells #[.int .i64 N, .int .i64 D] 73))
  clear hb HR HX3 HB3
  obtain ⟨y0, y1⟩ : (w4.alloc (.cells #[.int .i64 N, .int .i64 D] 73)).cell? ⟨g, 0, none⟩ = some (.int .i64 N) ∧ (w4.alloc (.cells #[.int .i64 N, .int .i64 D] 73)).cell? ⟨g, 1, none⟩ = some (.int .i64 D) := ⟨HX4.out.cell 0, HX4.out.cell 1⟩
  go_wp2_with fail
  refine (HFl.out _).mono ?_
  rintro e w5 ⟨rfl, hb⟩
  have HX5 := Lib.hid (HX4.out.below hb)
  have HB5 := Lib.hid (below_then HB4.out hb)
  clear hb HFl HX4 HB4 y0 y1
  obtain ⟨y0, y1⟩ : w5.cell? ⟨g, 0, none⟩ = some (.int .i64 N) ∧ w5.cell? ⟨g, 1, none⟩ = some (.int .i64 D) := ⟨HX5.out.cell 0, HX5.out.cell 1⟩
  obtain ⟨m1, m2⟩ := floor_in N D b3
  have m3 : (N / D + 1) * D = N / D * D + D := by rw [Int.add_mul, Int.one_mul]
  have m4 : -2147483648 ≤ N / D := by
    have := Int.le_ediv_of_mul_le (a := -2147483648) (b := N) (c := D) (by omega) (by omega)
    exact this
  have m5 : N / D ≤ 2147483647 := by
    have : N / D < 2147483648 := Int.ediv_lt_of_lt_mul (by omega) (by omega)
    omega
  generalize N / D = f at *
  have m6 : -9223372036854775808 ≤ f * D := by omega
  have m7 : f * D ≤ 9223372036854775807 := by omega
  have m8 : -9223372036854775808 ≤ (f + 1) * D := by omega
  have m9 : (f + 1) * D ≤ 9223372036854775807 := by omega
  have d1 : decide (f * D ≤ N) = true := decide_eq_true m1
  have d2 : decide (N < (f + 1) * D) = true := decide_eq_true m2
  clear m3
  go_wp2_with fail
  go_ret
  exact ⟨rfl, HB5.out⟩

set_option maxRecDepth 100000 in
theorem walk (a0 : Int) (w0 : (Lit.int .i64 a0).wf = true) (a1 : Int) (w1 : (Lit.int .i64 a1).wf = true) (w : World) (hL : laidMet Tryd.prog Rows.fracBackRow.laid w) (hsh : w.ShapedOpen Tryd.prog) :
    Calls Tryd.prog 7 #[.int .i64 a0, .int .i64 a1] w fun e w' => e = .returned (.bool true) ∧ Below w.heap.size w w' :=
  core a0 a1 w (bounds_i64 w0).1 (bounds_i64 w0).2 (bounds_i64 w1).1 (bounds_i64 w1).2 (pow_of hL.tail.tail) (Shp.of hsh)
end Go.Proofs.YtlihhlijombepaaDoor.fracBack
