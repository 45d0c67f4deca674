/- Numr1 -/
import Derived.Test.YtneeoghjddlenaaGreatDoorGLaid
import Derived.Test.YtneeoghjddlenaaGreatDoorGNum1
import Derived.Test.YtneeoghjddlenaaGreatDoorGPlainUtf
/- Contracts of package numeral: positional scripts. -/
namespace Go.Proofs.YtneeoghjddlenaaGreatDoor
open Go.RowKit
set_option linter.unusedVariables false

/-- a digit of a script -/
def dgt (z x : Int) : Int := if x = 45 then 45 else z + x - 48
theorem zeros_in (k : Nat) (hk : k < 9) : 48 ≤ zerosL.getD k 0 ∧ zerosL.getD k 0 ≤ 65296 := by
  match k, hk with
  | 0, _ | 1, _ | 2, _ | 3, _ | 4, _ | 5, _ | 6, _ | 7, _ | 8, _ => decide

set_option maxRecDepth 100000 in
theorem digit_fn (g : Nat) (k : Nat) (hk : k < 9) (x : Nat) (hx : x ≤ 1114111) (W : World) (h1 : W.cell? ⟨g, 0, none⟩ = some (.int .i64 (k : Int))) (h2 : W.cell? ⟨0, k, none⟩ = some (.int .i32 (zerosL.getD k 0))) :
    Calls Tryz.prog 84 (#[.int .i32 (x : Int)] ++ #[.pointer (some ⟨g, 0, none⟩)]) W fun e w' => e = .returned (.int .i32 (dgt (zerosL.getD k 0) (x : Int))) ∧ ∃ q, w' = W.drewN q := by
  obtain ⟨z1, z2⟩ := zeros_in k hk
  generalize zerosL.getD k 0 = z at *
  unfold dgt
  by_cases h45 : (x : Int) = 45
  · rw [if_pos h45]
    have t1 : ((x : Int) == 45) = true := by simpa using h45
    have h45' : x = 45 := by omega
    subst h45'
    go_enter Tryz.func84, Tryz.ntmps84
    go_wp2_with fail
    go_ret
    exact ⟨rfl, 0, rfl⟩
  · rw [if_neg h45]
    have t1 : ((x : Int) == 45) = false := by simpa using h45
    have k0 : (0 : Int) ≤ (k : Int) := by omega
    have k1 : (k : Int) < 9 := by omega
    have HX := Lib.hid h45
    clear h45
    go_enter Tryz.func84, Tryz.ntmps84
    go_wp2_with fail
    go_ret
    exact ⟨rfl, 0, rfl⟩

set_option maxRecDepth 100000 in
theorem digits_any (k : Nat) (hk : k < 9) (s : ByteArray) (hs : s.size < 35184372088832) (w : World) (hz : Zer w) (hu : U8 w) :
    Calls Tryz.prog 53 #[.int .i64 (k : Int), .string s] w fun e w' => e = .returned (.string (str (Lib.mapD (dgt (zerosL.getD k 0)) s.data.toList))) ∧ Below w.heap.size w w' := by
  have HB1 := Lib.hid (below_alloc1 w (Obj.cells #[.int .i64 (k : Int)] 3))
  have HX := Lib.hid (Box.new w 3 #[.int .i64 (k : Int)])
  obtain ⟨z1, z2⟩ := zeros_in k hk
  have HM := Lib.hid (strings_Map_runes 84 #[.pointer (some ⟨w.heap.size, 0, none⟩)] (fun _ _ => rfl) (dgt (zerosL.getD k 0)) s (w.alloc (Obj.cells #[.int .i64 (k : Int)] 3)) hs
    (fun W x hx hb => digit_fn w.heap.size k hk x hx W ((HX.out.below hb).cell 0) ((hz.next HB1.out).next hb k hk))
    (fun x hx => by unfold dgt; split <;> omega) (hu.next HB1.out))
  clear hz hu z1 z2
  generalize dgt (zerosL.getD k 0) = f at *
  go_enter Tryz.func53, Tryz.ntmps53
  go_wp2_with fail
  refine HM.out.mono ?_
  rintro e w1 ⟨rfl, hb⟩
  have HB2 := Lib.hid (below_then HB1.out hb)
  clear hb HM
  go_wp2_with fail
  go_ret
  exact ⟨rfl, HB2.out⟩

set_option maxRecDepth 100000 in
theorem bounds_pos (k : Nat) (hk : k < 9) (w : World) : Calls Tryz.prog 73 #[.int .i64 (k : Int)] w fun e w' => e = .returned (.tuple #[.int .i64 (-2147483647), .int .i64 2147483647]) ∧ w = w' := by
  have t1 : ((k : Int) == 9) = false := by rw [beq_eq_false_iff_ne]; omega
  have t2 : ((k : Int) == 10) = false := by rw [beq_eq_false_iff_ne]; omega
  have t3 : ((k : Int) == 11) = false := by rw [beq_eq_false_iff_ne]; omega
  have t4 : ((k : Int) == 12) = false := by rw [beq_eq_false_iff_ne]; omega
  go_enter Tryz.func73, Tryz.ntmps73
  go_wp2_with fail
  go_ret2
  exact ⟨rfl, rfl⟩

set_option maxRecDepth 100000 in
theorem writes_pos (k : Nat) (hk : k < 9) (n : Int) (h1 : -2147483647 ≤ n) (h2 : n ≤ 2147483647) (w : World) : Calls Tryz.prog 48 #[.int .i64 (k : Int), .int .i64 n] w fun e w' => e = .returned (.bool true) ∧ w = w' := by
  have HB := Lib.hid (bounds_pos k hk w)
  have t1 : decide (-2147483647 ≤ n) = true := decide_eq_true h1
  have t2 : decide (n ≤ 2147483647) = true := decide_eq_true h2
  go_enter Tryz.func48, Tryz.ntmps48
  go_wp2_with fail
  refine HB.out.mono ?_
  rintro e w' ⟨rfl, rfl⟩
  go_wp2_with fail
  go_ret
  exact ⟨rfl, rfl⟩

set_option maxRecDepth 100000 in
theorem write_pos (k : Nat) (hk : k < 9) (n : Int) (h1 : -2147483647 ≤ n) (h2 : n ≤ 2147483647) (w : World) (hp : Pow w) (hz : Zer w) (hu : U8 w) :
    Calls Tryz.prog 49 #[.int .i64 (k : Int), .int .i64 n] w fun e w' => e = .returned (.string (str (Lib.mapD (dgt (zerosL.getD k 0)) (Lib.itoa n)))) ∧ Below w.heap.size w w' := by
  have HI := Lib.hid (itoa_any n w (by omega) (by omega) hp)
  have HD := Lib.hid (fun W (hW : Below w.heap.size w W) => digits_any k hk (str (Lib.itoa n)) (by have := itoa_size n (by omega) (by omega); omega) W (hz.next hW) (hu.next hW))
  rw [str_data] at HD
  have t1 : ((k : Int) == 9) = false := by rw [beq_eq_false_iff_ne]; omega
  have t2 : ((k : Int) == 10) = false := by rw [beq_eq_false_iff_ne]; omega
  have t3 : ((k : Int) == 11) = false := by rw [beq_eq_false_iff_ne]; omega
  have t4 : ((k : Int) == 12) = false := by rw [beq_eq_false_iff_ne]; omega
  clear hp hz hu
  generalize dgt (zerosL.getD k 0) = f at *
  go_enter Tryz.func49, Tryz.ntmps49
  go_wp2_with fail
  refine HI.out.mono ?_
  rintro e w1 ⟨rfl, hb⟩
  have HB := Lib.hid hb
  have HD2 := Lib.hid (HD.out w1 hb)
  clear hb HI HD
  go_wp2_with fail
  refine HD2.out.mono ?_
  rintro e w2 ⟨rfl, hb⟩
  have HB2 := Lib.hid (below_then HB.out hb)
  clear hb HD2
  go_wp2_with fail
  go_ret
  exact ⟨rfl, HB2.out⟩

set_option maxRecDepth 100000 in
theorem isScript_yes (k : Nat) (hk : k < 13) (w : World) : Calls Tryz.prog 47 #[.int .i64 (k : Int)] w fun e w' => e = .returned (.bool true) ∧ w = w' := by
  have t1 : decide ((0 : Int) ≤ (k : Int)) = true := decide_eq_true (by omega)
  have t2 : decide ((k : Int) ≤ 12) = true := decide_eq_true (by omega)
  have q1 : (0 : Int) ≤ (k : Int) := by omega
  have q2 : (k : Int) ≤ 12 := by omega
  go_enter Tryz.func47, Tryz.ntmps47
  go_wp2_with fail
  go_ret
  exact ⟨rfl, rfl⟩

set_option maxRecDepth 100000 in
theorem nWrite_pos (k : Nat) (hk : k < 9) (n : Int) (h1 : -2147483647 ≤ n) (h2 : n ≤ 2147483647) (w : World) (hp : Pow w) (hz : Zer w) (hu : U8 w) :
    Calls Tryz.prog 31 #[.int .i64 (k : Int), .int .i64 n] w fun e w' => e = .returned (.tuple #[.string (str (Lib.mapD (dgt (zerosL.getD k 0)) (Lib.itoa n))), .int .i64 0]) ∧ Below w.heap.size w w' := by
  have HI := Lib.hid (isScript_yes k (by omega) w)
  have HW := Lib.hid (writes_pos k hk n h1 h2 w)
  have HD := Lib.hid (write_pos k hk n h1 h2 w hp hz hu)
  clear hp hz hu
  generalize dgt (zerosL.getD k 0) = f at *
  go_enter Tryz.func31, Tryz.ntmps31
  go_wp2_with fail
  refine HI.out.mono ?_
  rintro e w' ⟨rfl, rfl⟩
  go_wp2_with fail
  refine HW.out.mono ?_
  rintro e w' ⟨rfl, rfl⟩
  go_wp2_with fail
  refine HD.out.mono ?_
  rintro e w1 ⟨rfl, hb⟩
  have HB := Lib.hid hb
  clear hb HD
  go_wp2_with fail
  go_ret2
  exact ⟨rfl, HB.out⟩
end Go.Proofs.YtneeoghjddlenaaGreatDoor
