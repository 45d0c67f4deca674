/- The walk of NumeralBack: it returns true at every input; it writes nothing that was there. -/
import Derived.Test.YtlihhlijombepaaDoorNumr14
import Derived.Test.YtlihhlijombepaaDoorPlainNumr2
import Derived.Test.YtlihhlijombepaaDoorLine1
import Derived.BigQuiet
namespace Go.Proofs.YtlihhlijombepaaDoor.numeralBack
open Go.RowKit
set_option linter.unusedVariables false

theorem xlii : str (encs (wrR 9 42)) = ⟨#[88, 76, 73, 73]⟩ := by decide +kernel
theorem text_beq (sc a b : Nat) (hs : sc < 13) (ha : a < 1100) (hb : b < 1100) (ia : inR sc a = true) (ib : inR sc b = true) : ((str (encs (wrR sc a))).toList == (str (encs (wrR sc b))).toList) = decide (a = b) := by
  rw [Bool.eq_iff_iff, beq_iff_eq, decide_eq_true_eq, str_toList, str_toList]
  constructor
  · intro h
    exact wr_inj sc a b hs ha hb ia ib (encs_inj _ _ (wr_ok sc hs a ha).1 (wr_ok sc hs b hb).1 h)
  · rintro rfl; rfl

set_option maxHeartbeats 1000000 in
set_option maxRecDepth 100000 in
theorem core (sc0 a0 b0 : Int) (w : World) (hp : Pow w) (hz : Zer w) (hu : U8 w) :
    Calls Tryd.prog 8 #[.int .i64 sc0, .int .i64 a0, .int .i64 b0] w fun e w' => e = .returned (.bool true) ∧ Below w.heap.size w w' := by
  have H42 := Lib.hid (read_any 9 42 (by omega) (by omega) (by decide) (wr_ok 9 (by omega) 42 (by omega)).1 (by have := (wr_ok 9 (by omega) 42 (by omega)).2; omega) w hp hz hu)
  rw [xlii] at H42
  have HC1 := Lib.hid (fun w => cut_any sc0 0 13 w (by omega) (by omega) (by omega) (by omega))
  have HC2 := Lib.hid (fun w => cut_any a0 0 1100 w (by omega) (by omega) (by omega) (by omega))
  have HC3 := Lib.hid (fun w => cut_any b0 0 1100 w (by omega) (by omega) (by omega) (by omega))
  obtain ⟨sc, hk, hsc⟩ : ∃ k : Nat, 0 + sc0 % 13 = (k : Int) ∧ k < 13 := ⟨(sc0 % 13).toNat, by omega, by omega⟩
  obtain ⟨a, hka, ha⟩ : ∃ n : Nat, 0 + a0 % 1100 = (n : Int) ∧ n < 1100 := ⟨(a0 % 1100).toNat, by omega, by omega⟩
  obtain ⟨b, hkb, hb⟩ : ∃ n : Nat, 0 + b0 % 1100 = (n : Int) ∧ n < 1100 := ⟨(b0 % 1100).toNat, by omega, by omega⟩
  rw [hk] at HC1
  rw [hka] at HC2
  rw [hkb] at HC3
  clear hk hka hkb
  unfold ReadQ at H42
  rw [show ((42 : Nat) : Int) = 42 from rfl] at H42
  cases ia : inR sc a with
  | false =>
    have HW := Lib.hid (fun W => nWrite_no sc a hsc ha ia W)
    clear hp hz hu ia hsc ha hb
    go_enter Tryd.func8, Tryd.ntmps8
    go_wp2_with fail
    refine H42.out.mono ?_
    rintro e w1 ⟨rfl, hb⟩
    have HB := Lib.hid hb
    clear hb H42
    go_wp2_with (first | (go_at_call 24; ((with_reducible refine (HC1.out _).mono ?_)); rintro e w' ⟨rfl, rfl⟩) | (go_at_call 24; ((with_reducible refine (HC2.out _).mono ?_)); rintro e w' ⟨rfl, rfl⟩) | (go_at_call 24; ((with_reducible refine (HC3.out _).mono ?_)); rintro e w' ⟨rfl, rfl⟩))
    refine (HW.out _).mono ?_
    rintro e w' ⟨rfl, rfl⟩
    go_wp2_with fail
    go_ret
    exact ⟨rfl, HB.out⟩
  | true =>
    have HW := Lib.hid (fun W (hW : Below w.heap.size w W) => nWrite_any sc a hsc ha ia W (hp.next hW) (hz.next hW) (hu.next hW))
    have HR := Lib.hid (fun W (hW : Below w.heap.size w W) => read_any sc a hsc ha ia (wr_ok sc hsc a ha).1 (by have := (wr_ok sc hsc a ha).2; omega) W (hp.next hW) (hz.next hW) (hu.next hW))
    unfold ReadQ at HR
    cases ib : inR sc b with
    | false =>
      have HV := Lib.hid (fun W => nWrite_no sc b hsc hb ib W)
      clear hp hz hu ia ib hsc ha hb
      generalize str (encs (wrR sc a)) = s at *
      go_enter Tryd.func8, Tryd.ntmps8
      go_wp2_with fail
      refine H42.out.mono ?_
      rintro e w1 ⟨rfl, hb⟩
      have HB := Lib.hid hb
      clear hb H42
      go_wp2_with (first | (go_at_call 24; ((with_reducible refine (HC1.out _).mono ?_)); rintro e w' ⟨rfl, rfl⟩) | (go_at_call 24; ((with_reducible refine (HC2.out _).mono ?_)); rintro e w' ⟨rfl, rfl⟩) | (go_at_call 24; ((with_reducible refine (HC3.out _).mono ?_)); rintro e w' ⟨rfl, rfl⟩))
      have HWa := Lib.hid (HW.out _ HB.out)
      clear HW
      refine HWa.out.mono ?_
      rintro e w2 ⟨rfl, hb⟩
      have HB2 := Lib.hid (below_then HB.out hb)
      have HRa := Lib.hid (HR.out _ HB2.out)
      clear hb HR HWa
      go_wp2_with fail
      refine HRa.out.mono ?_
      rintro e w3 ⟨rfl, hb⟩
      have HB3 := Lib.hid (below_then HB2.out hb)
      clear hb HRa
      go_wp2_with fail
      refine (HV.out _).mono ?_
      rintro e w' ⟨rfl, rfl⟩
      go_wp2_with fail
      go_ret
      exact ⟨rfl, HB3.out⟩
    | true =>
      have HV := Lib.hid (fun W (hW : Below w.heap.size w W) => nWrite_any sc b hsc hb ib W (hp.next hW) (hz.next hW) (hu.next hW))
      have heq := text_beq sc a b hsc ha hb ia ib
      clear hp hz hu ia ib hsc ha hb
      generalize str (encs (wrR sc a)) = s at *
      generalize str (encs (wrR sc b)) = t at *
      have hab : ((a : Int) == (b : Int)) = decide (a = b) := by rw [Bool.eq_iff_iff, beq_iff_eq, decide_eq_true_eq]; omega
      by_cases h : a = b
      · rw [decide_eq_true h] at heq hab
        clear h
        go_enter Tryd.func8, Tryd.ntmps8
        go_wp2_with fail
        refine H42.out.mono ?_
        rintro e w1 ⟨rfl, hb⟩
        have HB := Lib.hid hb
        clear hb H42
        go_wp2_with (first | (go_at_call 24; ((with_reducible refine (HC1.out _).mono ?_)); rintro e w' ⟨rfl, rfl⟩) | (go_at_call 24; ((with_reducible refine (HC2.out _).mono ?_)); rintro e w' ⟨rfl, rfl⟩) | (go_at_call 24; ((with_reducible refine (HC3.out _).mono ?_)); rintro e w' ⟨rfl, rfl⟩))
        have HWa := Lib.hid (HW.out _ HB.out)
        clear HW
        refine HWa.out.mono ?_
        rintro e w2 ⟨rfl, hb⟩
        have HB2 := Lib.hid (below_then HB.out hb)
        have HRa := Lib.hid (HR.out _ HB2.out)
        clear hb HR HWa
        go_wp2_with fail
        refine HRa.out.mono ?_
        rintro e w3 ⟨rfl, hb⟩
        have HB3 := Lib.hid (below_then HB2.out hb)
        have HVa := Lib.hid (HV.out _ HB3.out)
        clear hb HRa HV
        go_wp2_with fail
        refine HVa.out.mono ?_
        rintro e w4 ⟨rfl, hb⟩
        have HB4 := Lib.hid (below_then HB3.out hb)
        clear hb HVa
        go_wp2_with fail
        go_ret
        exact ⟨rfl, HB4.out⟩
      · rw [decide_eq_false h] at heq hab
        clear h
        go_enter Tryd.func8, Tryd.ntmps8
        go_wp2_with fail
        refine H42.out.mono ?_
        rintro e w1 ⟨rfl, hb⟩
        have HB := Lib.hid hb
        clear hb H42
        go_wp2_with (first | (go_at_call 24; ((with_reducible refine (HC1.out _).mono ?_)); rintro e w' ⟨rfl, rfl⟩) | (go_at_call 24; ((with_reducible refine (HC2.out _).mono ?_)); rintro e w' ⟨rfl, rfl⟩) | (go_at_call 24; ((with_reducible refine (HC3.out _).mono ?_)); rintro e w' ⟨rfl, rfl⟩))
        have HWa := Lib.hid (HW.out _ HB.out)
        clear HW
        refine HWa.out.mono ?_
        rintro e w2 ⟨rfl, hb⟩
        have HB2 := Lib.hid (below_then HB.out hb)
        have HRa := Lib.hid (HR.out _ HB2.out)
        clear hb HR HWa
        go_wp2_with fail
        refine HRa.out.mono ?_
        rintro e w3 ⟨rfl, hb⟩
        have HB3 := Lib.hid (below_then HB2.out hb)
        have HVa := Lib.hid (HV.out _ HB3.out)
        clear hb HRa HV
        go_wp2_with fail
        refine HVa.out.mono ?_
        rintro e w4 ⟨rfl, hb⟩
        have HB4 := Lib.hid (below_then HB3.out hb)
        clear hb HVa
        go_wp2_with fail
        go_ret
        exact ⟨rfl, HB4.out⟩

set_option maxRecDepth 100000 in
theorem walk (a0 : Int) (w0 : (Lit.int .i64 a0).wf = true) (a1 : Int) (w1 : (Lit.int .i64 a1).wf = true) (a2 : Int) (w2 : (Lit.int .i64 a2).wf = true) (w : World) (hL : laidMet Tryd.prog Rows.numeralBackRow.laid w) (hsh : w.ShapedOpen Tryd.prog) :
    Calls Tryd.prog 8 #[.int .i64 a0, .int .i64 a1, .int .i64 a2] w fun e w' => e = .returned (.bool true) ∧ Below w.heap.size w w' :=
  core a0 a1 a2 w (pow_of hL.tail.tail) (zer_of hL.tail.tail.tail.tail) (u8_of hL (by simp [Rows.numeralBackRow]) (by simp [Rows.numeralBackRow]))
end Go.Proofs.YtlihhlijombepaaDoor.numeralBack
