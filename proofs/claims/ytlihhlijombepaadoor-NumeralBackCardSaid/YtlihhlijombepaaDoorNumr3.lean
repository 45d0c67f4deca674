/- Contracts of package numeral: Roman numerals. -/
import Derived.Test.YtlihhlijombepaaDoorNumr2
import Derived.Test.YtlihhlijombepaaDoorPlainNumr
import Derived.BigQuiet
import Derived.Deep.DeepCutAuto
namespace Go.Proofs.YtlihhlijombepaaDoor
open Go.RowKit
set_option linter.unusedVariables false

theorem ext01 (o f t : UInt8) : (⟨#[o, f, t]⟩ : ByteArray).extract 0 1 = str [o] := by
  apply ByteArray.ext; simp [str, ByteArray.data_extract]
theorem ext12 (o f t : UInt8) : (⟨#[o, f, t]⟩ : ByteArray).extract 1 2 = str [f] := by
  apply ByteArray.ext; simp [str, ByteArray.data_extract]
theorem ext23 (o f t : UInt8) : (⟨#[o, f, t]⟩ : ByteArray).extract 2 3 = str [t] := by
  apply ByteArray.ext; simp [str, ByteArray.data_extract]
def romB (n : Nat) (o f t : UInt8) : List UInt8 := if n = 9 then [o, t] else if 5 ≤ n then f :: List.replicate (n - 5) o else if n = 4 then [o, f] else List.replicate n o
theorem romB_len (n : Nat) (o f t : UInt8) (h : n ≤ 9) : (romB n o f t).length ≤ 5 := by
  unfold romB
  split
  · simp
  · split
    · simp; omega
    · split <;> simp <;> omega
theorem repeat_one (o : UInt8) (c : Nat) : Lib.repeatL [o] c = List.replicate c o := by
  induction c with
  | zero => rfl
  | succ c ih => rw [Lib.repeatL, ih, List.replicate_succ]; rfl
theorem repeat_any (o : UInt8) (c : Nat) (hc : c ≤ 10) (w : World) :
    Calls Tryd.prog 72 #[.string (str [o]), .int .i64 (c : Int)] w fun e w' => e = .returned (.string (str (List.replicate c o))) ∧ Below w.heap.size w w' := by
  have := strings_Repeat (str [o]) c w (by omega) (by rw [str_size]; simp; omega)
  rw [str_data, repeat_one] at this
  exact this

set_option maxHeartbeats 1000000 in
set_option maxRecDepth 100000 in
theorem romanDigit_any (n : Nat) (hn : n ≤ 9) (o f t : UInt8) (w : World) :
    Calls Tryd.prog 144 #[.int .i64 (n : Int), .string ⟨#[o, f, t]⟩] w fun e w' => e = .returned (.string (str (romB n o f t))) ∧ Below w.heap.size w w' := by
  have e0 := ext01 o f t
  have e1 := ext12 o f t
  have e2 := ext23 o f t
  have hs : (⟨#[o, f, t]⟩ : ByteArray).size = 3 := rfl
  generalize (⟨#[o, f, t]⟩ : ByteArray) = S at *
  have s1 : (str [o]).size = 1 := str_size _
  have s2 : (str [f]).size = 1 := str_size _
  have s3 : (str [t]).size = 1 := str_size _
  unfold romB
  by_cases h9 : n = 9
  · rw [if_pos h9]
    subst h9
    have hc : str [o] ++ str [t] = str [o, t] := str_append _ _
    generalize str [o, t] = R at *
    generalize str [o] = a at *
    generalize str [t] = b at *
    generalize str [f] = c at *
    go_enter Tryd.func144, Tryd.ntmps144
    go_wp2_with fail
    go_quiet (fail)
    go_wp2_with fail
    go_ret
    exact ⟨rfl, below_drewN _ _⟩
  rw [if_neg h9]
  have t9 : ((n : Int) == 9) = false := by rw [beq_eq_false_iff_ne]; omega
  by_cases h5 : 5 ≤ n
  · rw [if_pos h5]
    have t5 : decide ((5 : Int) ≤ (n : Int)) = true := decide_eq_true (by omega)
    have hc : str [f] ++ str (List.replicate (n - 5) o) = str (f :: List.replicate (n - 5) o) := str_append _ _
    have hz : (str (List.replicate (n - 5) o)).size ≤ 4 := by rw [str_size]; simp; omega
    have HR := Lib.hid (fun W => repeat_any o (n - 5) (by omega) W)
    have ei : (n : Int) - 5 = ((n - 5 : Nat) : Int) := by omega
    generalize str (f :: List.replicate (n - 5) o) = R at *
    generalize str (List.replicate (n - 5) o) = r at *
    generalize str [o] = a at *
    generalize str [t] = b at *
    generalize str [f] = c at *
    go_enter Tryd.func144, Tryd.ntmps144
    go_wp2_with fail
    go_quiet (fail)
    have HB := Lib.hid (below_drewN w nq)
    go_wp2_with fail
    refine (HR.out _).mono ?_
    rintro e w1 ⟨rfl, hb⟩
    have HB1 := Lib.hid (below_then HB.out hb)
    clear hb
    go_wp2_with fail
    go_ret
    exact ⟨rfl, HB1.out⟩
  rw [if_neg h5]
  have t5 : decide ((5 : Int) ≤ (n : Int)) = false := decide_eq_false (by omega)
  by_cases h4 : n = 4
  · rw [if_pos h4]
    subst h4
    have hc : str [o] ++ str [f] = str [o, f] := str_append _ _
    generalize str [o, f] = R at *
    generalize str [o] = a at *
    generalize str [t] = b at *
    generalize str [f] = c at *
    go_enter Tryd.func144, Tryd.ntmps144
    go_wp2_with fail
    go_quiet (fail)
    go_wp2_with fail
    go_ret
    exact ⟨rfl, below_drewN _ _⟩
  · rw [if_neg h4]
    have t4 : ((n : Int) == 4) = false := by rw [beq_eq_false_iff_ne]; omega
    have HR := Lib.hid (fun W => repeat_any o n (by omega) W)
    generalize str (List.replicate n o) = R at *
    generalize str [o] = a at *
    generalize str [t] = b at *
    generalize str [f] = c at *
    go_enter Tryd.func144, Tryd.ntmps144
    go_wp2_with fail
    go_quiet (fail)
    have HB := Lib.hid (below_drewN w nq)
    go_wp2_with fail
    refine (HR.out _).mono ?_
    rintro e w1 ⟨rfl, hb⟩
    have HB1 := Lib.hid (below_then HB.out hb)
    clear hb
    go_wp2_with fail
    go_ret
    exact ⟨rfl, HB1.out⟩

def romL (n : Nat) : List UInt8 := List.replicate (n / 1000) 77 ++ romB (n / 100 % 10) 67 68 77 ++ romB (n / 10 % 10) 88 76 67 ++ romB (n % 10) 73 86 88
set_option maxHeartbeats 1000000 in
set_option maxRecDepth 100000 in
theorem writeRoman_any (n : Nat) (hn : n ≤ 3999) (w : World) :
    Calls Tryd.prog 113 #[.int .i64 (n : Int)] w fun e w' => e = .returned (.string (str (romL n))) ∧ Below w.heap.size w w' := by
  have HR := Lib.hid (fun W => repeat_any 77 (n / 1000) (by omega) W)
  have H1 := Lib.hid (fun W => romanDigit_any (n / 100 % 10) (by omega) 67 68 77 W)
  have H2 := Lib.hid (fun W => romanDigit_any (n / 10 % 10) (by omega) 88 76 67 W)
  have H3 := Lib.hid (fun W => romanDigit_any (n % 10) (by omega) 73 86 88 W)
  have z0 : (str (List.replicate (n / 1000) (77 : UInt8))).size ≤ 3 := by rw [str_size]; simp; omega
  have z1 : (str (romB (n / 100 % 10) 67 68 77)).size ≤ 5 := by rw [str_size]; exact romB_len _ _ _ _ (by omega)
  have z2 : (str (romB (n / 10 % 10) 88 76 67)).size ≤ 5 := by rw [str_size]; exact romB_len _ _ _ _ (by omega)
  have z3 : (str (romB (n % 10) 73 86 88)).size ≤ 5 := by rw [str_size]; exact romB_len _ _ _ _ (by omega)
  have hc : str (List.replicate (n / 1000) (77 : UInt8)) ++ str (romB (n / 100 % 10) 67 68 77) ++ str (romB (n / 10 % 10) 88 76 67) ++ str (romB (n % 10) 73 86 88) = str (romL n) := by rw [str_append, str_append, str_append]; rfl
  rw [← hc]
  clear hc
  rw [show str [(77 : UInt8)] = ⟨#[77]⟩ from rfl] at HR
  rw [show ((n / 1000 : Nat) : Int) = (n : Int) / 1000 from by omega] at HR
  rw [show ((n / 100 % 10 : Nat) : Int) = (n : Int) / 100 % 10 from by omega] at H1
  rw [show ((n / 10 % 10 : Nat) : Int) = (n : Int) / 10 % 10 from by omega] at H2
  rw [show ((n % 10 : Nat) : Int) = (n : Int) % 10 from by omega] at H3
  generalize str (List.replicate (n / 1000) (77 : UInt8)) = a at *
  generalize str (romB (n / 100 % 10) 67 68 77) = b at *
  generalize str (romB (n / 10 % 10) 88 76 67) = c at *
  generalize str (romB (n % 10) 73 86 88) = d at *
  have z4 : (a ++ b).size ≤ 8 := by rw [ByteArray.size_append]; omega
  have z5 : (a ++ b ++ c).size ≤ 13 := by rw [ByteArray.size_append]; omega
  go_enter Tryd.func113, Tryd.ntmps113
  go_wp2_with fail
  refine (HR.out _).mono ?_
  rintro e w1 ⟨rfl, hb⟩
  have HB1 := Lib.hid hb
  clear hb HR
  go_wp2_with fail
  refine (H1.out _).mono ?_
  rintro e w2 ⟨rfl, hb⟩
  have HB2 := Lib.hid (below_then HB1.out hb)
  clear hb H1
  go_wp2_with fail
  refine (H2.out _).mono ?_
  rintro e w3 ⟨rfl, hb⟩
  have HB3 := Lib.hid (below_then HB2.out hb)
  clear hb H2
  go_wp2_with fail
  refine (H3.out _).mono ?_
  rintro e w4 ⟨rfl, hb⟩
  have HB4 := Lib.hid (below_then HB3.out hb)
  clear hb H3
  go_wp2_with fail
  go_ret
  exact ⟨rfl, HB4.out⟩
end Go.Proofs.YtlihhlijombepaaDoor
