/- Contracts of package numeral: writers. -/
import Derived.Test.YtlihhlijombepaaDoorNumr5
namespace Go.Proofs.YtlihhlijombepaaDoor
open Go.RowKit
set_option linter.unusedVariables false

theorem sgnR_ok (sc pl n : Nat) (hn : n < 10) : (sgnR sc pl n).length ≤ 3 ∧ ∀ r ∈ sgnR sc pl n, Bmp r := by
  unfold sgnR
  by_cases h0 : n = 0
  · rw [if_pos h0]; simp
  rw [if_neg h0]
  have one : ∀ x : Nat, x < 55296 → ([x] : List Nat).length ≤ 3 ∧ ∀ r ∈ ([x] : List Nat), Bmp r := fun x hx => ⟨by simp, fun r hr => by obtain rfl := List.mem_singleton.1 hr; exact .inl hx⟩
  have g1 : ∀ m, m < 9 → grU.getD m 0 < 55296 ∧ grT.getD m 0 < 55296 ∧ grH.getD m 0 < 55296 ∧ heT.getD m 0 < 55296 := by decide
  obtain ⟨q1, q2, q3, q4⟩ := g1 (n - 1) (by omega)
  split
  · apply one
    split
    · exact q1
    · split
      · exact q2
      · exact q3
  · split
    · exact one _ (by omega)
    · split
      · exact one _ q4
      · unfold heH
        split
        · exact one _ (by omega)
        · split
          · refine ⟨by simp, fun r hr => ?_⟩
            simp at hr
            unfold Bmp
            omega
          · refine ⟨by simp, fun r hr => ?_⟩
            simp at hr
            unfold Bmp
            omega
set_option maxHeartbeats 1000000 in
set_option maxRecDepth 100000 in
theorem writeSigns_any (sc n : Nat) (hs : sc = 10 ∨ sc = 11) (hn : n ≤ 999) (w : World) : Calls Tryd.prog 114 #[.int .i64 (sc : Int), .int .i64 (n : Int)] w (SignQ (sgsR sc n) w) := by
  have HS := Lib.hid (fun pl d hp hd W => sign_any sc pl d hs hp hd W)
  have H2 := Lib.hid (fun W => sign_any sc 2 (n / 100) hs (by omega) (by omega) W)
  rw [show ((n / 100 : Nat) : Int) = (n : Int) / 100 from by omega] at H2
  have z2 := encs_small _ (sgnR_ok sc 2 (n / 100) (by omega)).2
  have y2 := (sgnR_ok sc 2 (n / 100) (by omega)).1
  by_cases hc : sc = 11 ∧ (n % 100 = 15 ∨ n % 100 = 16)
  · have hR : sgsR sc n = sgnR sc 2 (n / 100) ++ sgnR sc 0 9 ++ sgnR sc 0 (n % 100 - 9) := by unfold sgsR; rw [if_pos hc]
    have hcat : str (encs (sgnR sc 2 (n / 100))) ++ str (encs (sgnR sc 0 9)) ++ str (encs (sgnR sc 0 (n % 100 - 9))) = str (encs (sgsR sc n)) := by rw [enc_cat, enc_cat, hR]
    have H3 := Lib.hid (fun W => sign_any sc 0 9 hs (by omega) (by omega) W)
    have H4 := Lib.hid (fun W => sign_any sc 0 (n % 100 - 9) hs (by omega) (by omega) W)
    rw [show ((n % 100 - 9 : Nat) : Int) = (n : Int) % 100 - 9 from by omega] at H4
    have z3 := encs_small _ (sgnR_ok sc 0 9 (by omega)).2
    have y3 := (sgnR_ok sc 0 9 (by omega)).1
    have z4 := encs_small _ (sgnR_ok sc 0 (n % 100 - 9) (by omega)).2
    have y4 := (sgnR_ok sc 0 (n % 100 - 9) (by omega)).1
    unfold SignQ at *
    generalize str (encs (sgsR sc n)) = R at *
    generalize str (encs (sgnR sc 2 (n / 100))) = a at *
    generalize str (encs (sgnR sc 0 9)) = b at *
    generalize str (encs (sgnR sc 0 (n % 100 - 9))) = c at *
    have z5 : (a ++ b).size ≤ 18 := by rw [ByteArray.size_append]; omega
    have z6 : a.size ≤ 9 := by omega
    have z7 : b.size ≤ 9 := by omega
    have z8 : c.size ≤ 9 := by omega
    have t11 : ((sc : Int) == 11) = true := by rw [beq_iff_eq]; omega
    have HC := Lib.hid hcat
    clear hcat hR z2 z3 z4 y2 y3 y4 HS
    rcases hc.2 with h15 | h16
    · have t15 : ((n : Int) % 100 == 15) = true := by rw [beq_iff_eq]; omega
      clear hc h15 hs
      go_enter Tryd.func114, Tryd.ntmps114
      go_wp2_with fail
      refine (H2.out _).mono ?_
      rintro e w1 ⟨rfl, hb⟩
      have HB1 := Lib.hid hb
      clear hb
      go_wp2_with fail
      refine (H3.out _).mono ?_
      rintro e w2 ⟨rfl, hb⟩
      have HB2 := Lib.hid (below_then HB1.out hb)
      clear hb
      go_wp2_with fail
      refine (H4.out _).mono ?_
      rintro e w3 ⟨rfl, hb⟩
      have HB3 := Lib.hid (below_then HB2.out hb)
      clear hb
      go_wp2_with fail
      go_ret
      exact ⟨by rw [← HC.out]; rfl, HB3.out⟩
    · have t15 : ((n : Int) % 100 == 15) = false := by rw [beq_eq_false_iff_ne]; omega
      have t16 : ((n : Int) % 100 == 16) = true := by rw [beq_iff_eq]; omega
      clear hc h16 hs
      go_enter Tryd.func114, Tryd.ntmps114
      go_wp2_with fail
      refine (H2.out _).mono ?_
      rintro e w1 ⟨rfl, hb⟩
      have HB1 := Lib.hid hb
      clear hb
      go_wp2_with fail
      refine (H3.out _).mono ?_
      rintro e w2 ⟨rfl, hb⟩
      have HB2 := Lib.hid (below_then HB1.out hb)
      clear hb
      go_wp2_with fail
      refine (H4.out _).mono ?_
      rintro e w3 ⟨rfl, hb⟩
      have HB3 := Lib.hid (below_then HB2.out hb)
      clear hb
      go_wp2_with fail
      go_ret
      exact ⟨by rw [← HC.out]; rfl, HB3.out⟩
  · have hR : sgsR sc n = sgnR sc 2 (n / 100) ++ sgnR sc 1 (n / 10 % 10) ++ sgnR sc 0 (n % 10) := by unfold sgsR; rw [if_neg hc]
    have hcat : str (encs (sgnR sc 2 (n / 100))) ++ str (encs (sgnR sc 1 (n / 10 % 10))) ++ str (encs (sgnR sc 0 (n % 10))) = str (encs (sgsR sc n)) := by rw [enc_cat, enc_cat, hR]
    have H3 := Lib.hid (fun W => sign_any sc 1 (n / 10 % 10) hs (by omega) (by omega) W)
    rw [show ((n / 10 % 10 : Nat) : Int) = (n : Int) / 10 % 10 from by omega] at H3
    have H4 := Lib.hid (fun W => sign_any sc 0 (n % 10) hs (by omega) (by omega) W)
    rw [show ((n % 10 : Nat) : Int) = (n : Int) % 10 from by omega] at H4
    have z3 := encs_small _ (sgnR_ok sc 1 (n / 10 % 10) (by omega)).2
    have y3 := (sgnR_ok sc 1 (n / 10 % 10) (by omega)).1
    have z4 := encs_small _ (sgnR_ok sc 0 (n % 10) (by omega)).2
    have y4 := (sgnR_ok sc 0 (n % 10) (by omega)).1
    unfold SignQ at *
    generalize str (encs (sgsR sc n)) = R at *
    generalize str (encs (sgnR sc 2 (n / 100))) = a at *
    generalize str (encs (sgnR sc 1 (n / 10 % 10))) = b at *
    generalize str (encs (sgnR sc 0 (n % 10))) = c at *
    have z5 : (a ++ b).size ≤ 18 := by rw [ByteArray.size_append]; omega
    have z6 : a.size ≤ 9 := by omega
    have z7 : b.size ≤ 9 := by omega
    have z8 : c.size ≤ 9 := by omega
    have HC := Lib.hid hcat
    clear hcat hR z2 z3 z4 y2 y3 y4 HS
    by_cases h11 : sc = 11
    · have t11 : ((sc : Int) == 11) = true := by rw [beq_iff_eq]; omega
      have t15 : ((n : Int) % 100 == 15) = false := by rw [beq_eq_false_iff_ne]; omega
      have t16 : ((n : Int) % 100 == 16) = false := by rw [beq_eq_false_iff_ne]; omega
      clear hc h11 hs
      go_enter Tryd.func114, Tryd.ntmps114
      go_wp2_with fail
      refine (H2.out _).mono ?_
      rintro e w1 ⟨rfl, hb⟩
      have HB1 := Lib.hid hb
      clear hb
      go_wp2_with fail
      refine (H3.out _).mono ?_
      rintro e w2 ⟨rfl, hb⟩
      have HB2 := Lib.hid (below_then HB1.out hb)
      clear hb
      go_wp2_with fail
      refine (H4.out _).mono ?_
      rintro e w3 ⟨rfl, hb⟩
      have HB3 := Lib.hid (below_then HB2.out hb)
      clear hb
      go_wp2_with fail
      go_ret
      exact ⟨by rw [← HC.out]; rfl, HB3.out⟩
    · have t11 : ((sc : Int) == 11) = false := by rw [beq_eq_false_iff_ne]; omega
      clear hc h11 hs
      go_enter Tryd.func114, Tryd.ntmps114
      go_wp2_with fail
      refine (H2.out _).mono ?_
      rintro e w1 ⟨rfl, hb⟩
      have HB1 := Lib.hid hb
      clear hb
      go_wp2_with fail
      refine (H3.out _).mono ?_
      rintro e w2 ⟨rfl, hb⟩
      have HB2 := Lib.hid (below_then HB1.out hb)
      clear hb
      go_wp2_with fail
      refine (H4.out _).mono ?_
      rintro e w3 ⟨rfl, hb⟩
      have HB3 := Lib.hid (below_then HB2.out hb)
      clear hb
      go_wp2_with fail
      go_ret
      exact ⟨by rw [← HC.out]; rfl, HB3.out⟩
end Go.Proofs.YtlihhlijombepaaDoor
