/- The walk of NumeralWidths: it returns true at every input; it writes nothing that was there. -/
import Derived.Test.YtlihhlijombepaaDoorNumr2
import Derived.Test.YtlihhlijombepaaDoorLine1
import Derived.BigQuiet
namespace Go.Proofs.YtlihhlijombepaaDoor.numeralWidths
open Go.RowKit
set_option linter.unusedVariables false

theorem dg1 (n : Nat) (h : n < 10) : Lib.itoa (n : Int) = [UInt8.ofNat (48 + n)] := by
  unfold Lib.itoa
  rw [if_neg (by omega)]
  exact Lib.decDigits_one h
theorem pad72 : str (Lib.mapD (dgt (zerosL.getD 0 0)) (padL 7 2)) = ⟨#[48, 55]⟩ := by
  have h : padL 7 2 = [48, 55] := by
    unfold padL
    rw [show Lib.itoa 7 = [55] from dg1 7 (by omega)]
    rfl
  rw [h, (map_runes 0 (by omega) [48, 55] (by decide)).1]
  decide +kernel

set_option maxHeartbeats 1000000 in
set_option maxRecDepth 100000 in
theorem core (a b c : Int) (w : World) (hp : Pow w) (hz : Zer w) (hu : U8 w) :
    Calls Tryd.prog 5 #[.int .i64 a, .int .i64 b, .int .i64 c] w fun e w' => e = .returned (.bool true) ∧ Below w.heap.size w w' := by
  have HP7 := Lib.hid (pad_pos 0 (by omega) 7 (by omega) (by omega) 2 (by omega) w hp hz hu)
  rw [pad72] at HP7
  have HC1 := Lib.hid (fun w => cut_any a 0 9 w (by omega) (by omega) (by omega) (by omega))
  have HC2 := Lib.hid (fun w => cut_any b 0 1000000 w (by omega) (by omega) (by omega) (by omega))
  have HC3 := Lib.hid (fun w => cut_any c 0 13 w (by omega) (by omega) (by omega) (by omega))
  obtain ⟨k, hk, hk9⟩ : ∃ k : Nat, 0 + a % 9 = (k : Int) ∧ k < 9 := ⟨(a % 9).toNat, by omega, by omega⟩
  obtain ⟨n, hn, hn9⟩ : ∃ n : Nat, 0 + b % 1000000 = (n : Int) ∧ n < 1000000 := ⟨(b % 1000000).toNat, by omega, by omega⟩
  obtain ⟨wd, hwd, hw9⟩ : ∃ wd : Nat, 0 + c % 13 = (wd : Int) ∧ wd < 13 := ⟨(c % 13).toNat, by omega, by omega⟩
  rw [hk] at HC1
  rw [hn] at HC2
  rw [hwd] at HC3
  have HPD := Lib.hid (fun W (hW : Below w.heap.size w W) => pad_pos k hk9 (n : Int) (by omega) (by omega) wd (by omega) W (hp.next hW) (hz.next hW) (hu.next hW))
  have HWR := Lib.hid (fun W (hW : Below w.heap.size w W) => nWrite_pos k hk9 (n : Int) (by omega) (by omega) W (hp.next hW) (hz.next hW) (hu.next hW))
  have hli : (Lib.itoa (n : Int)).length ≤ 21 := Lib.itoa_length_le _ (by omega) (by omega)
  have hlp : (padL (n : Int) wd).length ≤ 40 := by unfold padL; rw [List.length_append, List.length_replicate]; omega
  have m1 := map_size k hk9 (padL (n : Int) wd) (pad_byte _ _)
  have m2 := map_size k hk9 (Lib.itoa (n : Int)) (itoa_byte _)
  have r1 := pad_count k hk9 (n : Int) wd
  have r2 := write_count k hk9 (n : Int)
  have HSF := Lib.hid (fun W => strings_HasSuffix (str (Lib.mapD (dgt (zerosL.getD k 0)) (padL (n : Int) wd))) (str (Lib.mapD (dgt (zerosL.getD k 0)) (Lib.itoa (n : Int)))) W (by omega))
  rw [str_data, str_data, pad_suffix k hk9 (n : Int) wd] at HSF
  have HR1 := Lib.hid (fun W => utf8_RuneCountInString (str (Lib.mapD (dgt (zerosL.getD k 0)) (padL (n : Int) wd))) W (by omega))
  have HR2 := Lib.hid (fun W => utf8_RuneCountInString (str (Lib.mapD (dgt (zerosL.getD k 0)) (Lib.itoa (n : Int)))) W (by omega))
  rw [r1] at HR1
  rw [r2] at HR2
  clear hp hz hu hk hn hwd r1 r2 m1 m2
  generalize str (Lib.mapD (dgt (zerosL.getD k 0)) (padL (n : Int) wd)) = s at *
  generalize str (Lib.mapD (dgt (zerosL.getD k 0)) (Lib.itoa (n : Int))) = t at *
  generalize (Lib.itoa (n : Int)).length = m at *
  go_enter Tryd.func5, Tryd.ntmps5
  go_wp2_with fail
  refine HP7.out.mono ?_
  rintro e w1 ⟨rfl, hb⟩
  have HB := Lib.hid hb
  clear hb HP7
  have HPD2 := Lib.hid (HPD.out w1 HB.out)
  clear HPD
  go_wp2_with (first | (go_at_call 24; ((with_reducible refine (HC1.out _).mono ?_)); rintro e w' ⟨rfl, rfl⟩) | (go_at_call 24; ((with_reducible refine (HC2.out _).mono ?_)); rintro e w' ⟨rfl, rfl⟩) | (go_at_call 24; ((with_reducible refine (HC3.out _).mono ?_)); rintro e w' ⟨rfl, rfl⟩))
  refine HPD2.out.mono ?_
  rintro e w2 ⟨rfl, hb⟩
  have HB2 := Lib.hid (below_then HB.out hb)
  have HWR2 := Lib.hid (HWR.out w2 HB2.out)
  clear hb HPD2 HWR
  go_wp2_with fail
  refine HWR2.out.mono ?_
  rintro e w3 ⟨rfl, hb⟩
  have HB3 := Lib.hid (below_then HB2.out hb)
  clear hb HWR2
  go_wp2_with fail
  refine (HSF.out _).mono ?_
  rintro e w' ⟨rfl, rfl⟩
  go_wp2_with fail
  refine (HR1.out _).mono ?_
  rintro e w4 ⟨rfl, p1, rfl⟩
  have HB4 := Lib.hid (HB3.out.alloc HB3.out.size (.stringIter s p1))
  go_wp2_with fail
  refine (HR2.out _).mono ?_
  rintro e w5 ⟨rfl, p2, rfl⟩
  have HB5 := Lib.hid (HB4.out.alloc HB4.out.size (.stringIter t p2))
  have em : max (wd : Int) (m : Int) = ((max wd m : Nat) : Int) := by omega
  go_wp2_with fail
  go_ret
  exact ⟨rfl, HB5.out⟩

set_option maxRecDepth 100000 in
theorem walk (a0 : Int) (w0 : (Lit.int .i64 a0).wf = true) (a1 : Int) (w1 : (Lit.int .i64 a1).wf = true) (a2 : Int) (w2 : (Lit.int .i64 a2).wf = true) (w : World) (hL : laidMet Tryd.prog Rows.numeralWidthsRow.laid w) (hsh : w.ShapedOpen Tryd.prog) :
    Calls Tryd.prog 5 #[.int .i64 a0, .int .i64 a1, .int .i64 a2] w fun e w' => e = .returned (.bool true) ∧ Below w.heap.size w w' :=
  core a0 a1 a2 w (pow_of hL.tail.tail) (zer_of hL.tail.tail.tail.tail) (u8_of hL (by simp [Rows.numeralWidthsRow]) (by simp [Rows.numeralWidthsRow]))
end Go.Proofs.YtlihhlijombepaaDoor.numeralWidths
