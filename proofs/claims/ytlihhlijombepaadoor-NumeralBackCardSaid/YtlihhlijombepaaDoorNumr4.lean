/- Contracts of package numeral: signs. -/
import Derived.Test.YtlihhlijombepaaDoorNumr3
namespace Go.Proofs.YtlihhlijombepaaDoor
open Go.RowKit
set_option linter.unusedVariables false

theorem utf_enc (r : Nat) (h : Bmp r) : Utf8.encode (r : Int) = str (Lib.encodeRune (r : Int)) := by
  have hv : Utf8.valid (r : Int) = true := by
    unfold Utf8.valid
    unfold Bmp at h
    simp
    omega
  unfold Utf8.encode
  simp only [hv, if_true, Int.toNat_natCast]
  unfold Bmp at h
  by_cases h1 : r < 128
  · rw [enc_one r h1, if_pos (by omega)]; rfl
  rw [if_neg (by omega)]
  by_cases h2 : r ≤ 2047
  · rw [enc_two r (by omega) h2, if_pos (by omega)]; rfl
  · rw [enc_three r (by omega), if_neg (by omega), if_pos (by omega)]; rfl
/-- the text of one code point, as 'string(r)' gives it -/
theorem encs_one (r : Nat) : encs [r] = Lib.encodeRune (r : Int) := by simp [encs]
def chV32 : List Int := [12295, 19968, 20108, 19977, 22235, 20116, 20845, 19971, 20843, 20061]
theorem run_ch (n : Nat) (hn : n < 10) (W : World) : (Instr.index 228 (.agg #[.int .i32 12295, .int .i32 19968, .int .i32 20108, .int .i32 19977, .int .i32 22235, .int .i32 20116, .int .i32 20845, .int .i32 19971, .int .i32 20843, .int .i32 20061]) (.int .i64 (n : Int))).run Tryd.prog W = .ok (.int .i32 (chV32.getD n 0)) W := by
  match n, hn with
  | 0, _ | 1, _ | 2, _ | 3, _ | 4, _ | 5, _ | 6, _ | 7, _ | 8, _ | 9, _ => simp [Instr.index, run_underlying Tryd.underlying228, asIntOf, go_sem, chV32]

set_option maxRecDepth 100000 in
theorem chineseDigit_any (n : Nat) (hn : n < 10) (w : World) :
    Calls Tryd.prog 146 #[.int .i64 (n : Int)] w fun e w' => e = .returned (.string (str (encs [chD n]))) ∧ w = w' := by
  have hi := run_ch n hn
  have he : Utf8.encode (chV32.getD n 0) = str (encs [chD n]) := by
    rw [encs_one]
    match n, hn with
    | 0, _ | 1, _ | 2, _ | 3, _ | 4, _ | 5, _ | 6, _ | 7, _ | 8, _ | 9, _ => exact utf_enc _ (by unfold Bmp; decide)
  have HE := Lib.hid he
  clear he
  generalize chV32.getD n 0 = r at *
  generalize str (encs [chD n]) = R at *
  go_enter Tryd.func146, Tryd.ntmps146
  go_wp2_with fail
  go_ret
  exact ⟨by rw [← HE.out]; rfl, rfl⟩
end Go.Proofs.YtlihhlijombepaaDoor
