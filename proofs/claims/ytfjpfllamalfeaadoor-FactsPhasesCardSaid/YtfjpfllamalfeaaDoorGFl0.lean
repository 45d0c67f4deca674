/- Fl0 -/
import Derived.Laws.FloatArith
import Derived.Laws.Externs
import Derived.Laws.Bits64
import Derived.WalkLawsBesides
import Derived.Deep.DeepCutAuto
import Derived.Test.YtfjpfllamalfeaaDoorGLaid
import Derived.Test.YtfjpfllamalfeaaDoorGFs0
/- Small calls on floats that are numbers: IsNaN, IsInf, Abs, Floor, Ceil. -/
namespace Go.Proofs.YtfjpfllamalfeaaDoor
open Go Go.RowKit
set_option linter.unusedVariables false
set_option maxRecDepth 100000 in
theorem isnan_no {B x : Nat} (hx : Lb B x) (w : World) : Calls Tryd.prog 52 #[.float .f64 x] w fun e w' => e = .returned (.bool false) ∧ w' = w := by
  have ho : FloatKind.f64.format.order x x = some .eq := order_self hx
  go_enter Tryd.func52, Tryd.ntmps52
  go_wp2_with fail
  go_ret
  exact ⟨rfl, rfl⟩
theorem run_bits (b : Nat) (w : World) : (callFunc 59 #[.float .f64 b]).run Tryd.prog w = .ok (.value (.int .u64 b)) w := by
  rw [run_callFunc_extern Tryd.func59 (by kernel_rfl) (by kernel_rfl) (by kernel_rfl) (e := Extern.MathFloatBits.float64bits) (by kernel_rfl)]
  rfl
theorem run_frombits (b : Nat) (w : World) : (callFunc 58 #[.int .u64 (b : Int)]).run Tryd.prog w = .ok (.value (.float .f64 b)) w := by
  rw [run_callFunc_extern Tryd.func58 (by kernel_rfl) (by kernel_rfl) (by kernel_rfl) (e := Extern.MathFloatBits.float64frombits) (by kernel_rfl)]
  rfl
theorem run_floor {B x : Nat} (hx : Lb B x) (w : World) : (callFunc 47 #[.float .f64 x]).run Tryd.prog w = .ok (.value (.float .f64 (FloatKind.f64.encode ((FloatKind.f64.decode x).integral .down)))) w := by
  obtain ⟨s, m, p, e, _⟩ := hx
  have e' : FloatKind.f64.decode x = _ := e
  rw [run_callFunc_extern Tryd.func47 (by kernel_rfl) (by kernel_rfl) (by kernel_rfl) (e := Extern.MathFloor.toIntegral "math.archFloor" .down) (by kernel_rfl)]
  show ((Extern.MathFloor.toIntegral.match_1 (fun _ => Sem Value) (FloatKind.f64.decode x) _ _).run Tryd.prog w).andThen _ = _
  rw [e']
  rfl
theorem run_ceil {B x : Nat} (hx : Lb B x) (w : World) : (callFunc 49 #[.float .f64 x]).run Tryd.prog w = .ok (.value (.float .f64 (FloatKind.f64.encode ((FloatKind.f64.decode x).integral .up)))) w := by
  obtain ⟨s, m, p, e, _⟩ := hx
  have e' : FloatKind.f64.decode x = _ := e
  rw [run_callFunc_extern Tryd.func49 (by kernel_rfl) (by kernel_rfl) (by kernel_rfl) (e := Extern.MathFloor.toIntegral "math.archCeil" .up) (by kernel_rfl)]
  show ((Extern.MathFloor.toIntegral.match_1 (fun _ => Sem Value) (FloatKind.f64.decode x) _ _).run Tryd.prog w).andThen _ = _
  rw [e']
  rfl
/-- rounded down, rounded up: as floats -/
def floorF (x : Nat) : Nat := FloatKind.f64.encode ((FloatKind.f64.decode x).integral .down)
def ceilF (x : Nat) : Nat := FloatKind.f64.encode ((FloatKind.f64.decode x).integral .up)
set_option maxRecDepth 100000 in
theorem floor_any {B x : Nat} (hx : Lb B x) (w : World) : Calls Tryd.prog 42 #[.float .f64 x] w fun e w' => e = .returned (.float .f64 (floorF x)) ∧ w' = w := by
  have hop := run_floor hx
  go_enter Tryd.func42, Tryd.ntmps42
  go_wp2_with (simp only [hop])
  all_goals (go_ret; exact ⟨rfl, rfl⟩)
set_option maxRecDepth 100000 in
theorem ceil_any {B x : Nat} (hx : Lb B x) (w : World) : Calls Tryd.prog 43 #[.float .f64 x] w fun e w' => e = .returned (.float .f64 (ceilF x)) ∧ w' = w := by
  have hop := run_ceil hx
  go_enter Tryd.func43, Tryd.ntmps43
  go_wp2_with (simp only [hop])
  all_goals (go_ret; exact ⟨rfl, rfl⟩)
/-- the magnitude of a word -/
theorem abs_lb {B x : Nat} (hx : Lb B x) : Lb B (x % 2 ^ 63) := by
  obtain ⟨s, m, p, e, l⟩ := hx
  refine ⟨false, m, p, ?_, l⟩
  rw [read_rdw] at e ⊢
  have e1 : x % 2 ^ 63 / 2 ^ 63 = 0 := Nat.div_eq_of_lt (Nat.mod_lt _ (Nat.two_pow_pos _))
  rw [e1, Nat.mod_mod]
  generalize (x / 2 ^ 63 % 2 == 1) = n at e
  generalize x % 2 ^ 63 = r at e
  show rdw false r = _
  unfold rdw at e ⊢
  by_cases a1 : r < 2 ^ 52
  · rw [if_pos a1] at e ⊢; injection e with _ e2 e3; rw [e2, e3]
  · rw [if_neg a1] at e ⊢
    by_cases a2 : r < 2047 * 2 ^ 52
    · rw [if_pos a2] at e ⊢; injection e with _ e2 e3; rw [e2, e3]
    · rw [if_neg a2] at e
      by_cases a3 : r = 2047 * 2 ^ 52
      · rw [if_pos a3] at e; cases e
      · rw [if_neg a3] at e; cases e
theorem absop (x : Nat) : bits .andNot .u64 (x : Int) 9223372036854775808 = ((x % 2 ^ 63 : Nat) : Int) := by
  have e : (BitVec.ofInt 64 (x : Int) &&& ~~~(BitVec.ofInt 64 9223372036854775808)).toNat = x % 2 ^ 63 := by
    rw [BitVec.toNat_and]
    have a : (~~~(BitVec.ofInt 64 9223372036854775808)).toNat = 2 ^ 63 - 1 := by decide
    have b : (BitVec.ofInt 64 (x : Int)).toNat = x % 2 ^ 64 := by
      rw [BitVec.toNat_ofInt]; omega
    rw [a, b, Nat.and_two_pow_sub_one_eq_mod, Nat.mod_mod_of_dvd _ (by decide)]
  have l : x % 2 ^ 63 < 2 ^ 63 := Nat.mod_lt _ (Nat.two_pow_pos _)
  have hw : IntKind.u64.wrap ((x % 2 ^ 63 : Nat) : Int) = ((x % 2 ^ 63 : Nat) : Int) := by
    rw [IntKind.wrap_u64]
    omega
  show IntKind.u64.wrap ((BitVec.ofInt 64 (x : Int) &&& ~~~(BitVec.ofInt 64 9223372036854775808)).toNat : Int) = _
  rw [e, hw]
set_option maxRecDepth 100000 in
theorem abs_any {B x : Nat} (hx : Lb B x) (w : World) : Calls Tryd.prog 57 #[.float .f64 x] w fun e w' => e = .returned (.float .f64 (x % 2 ^ 63)) ∧ w' = w := by
  have h1 := run_bits x
  have h2 := absop x
  have h3 := run_frombits (x % 2 ^ 63)
  generalize x % 2 ^ 63 = y at h2 h3 ⊢
  go_enter Tryd.func57, Tryd.ntmps57
  go_wp2_with (simp only [h1, h2, h3])
  all_goals (go_ret; exact ⟨rfl, rfl⟩)
set_option maxRecDepth 100000 in
theorem isinf_no {B x : Nat} (hx : Lb B x) (hB : B < 2 ^ 2000) (w : World) : Calls Tryd.prog 53 #[.float .f64 x, .int .i64 0] w fun e w' => e = .returned (.bool false) ∧ w' = w := by
  have hm : Ieee.double.read 9218868437227405311 = .number false (2 ^ 53 - 1) (((2045 : Nat) : Int) - 1074) := by decide +kernel
  have ho : FloatKind.f64.format.order (x % 2 ^ 63) 9218868437227405311 = some .lt := order_below (abs_lb hx) hm (Nat.lt_trans hB (by decide +kernel))
  have h1 := abs_any hx
  generalize x % 2 ^ 63 = y at ho h1
  go_enter Tryd.func53, Tryd.ntmps53
  go_wp2_with (go_at_call 57; refine (h1 _).mono ?_; rintro e w' ⟨rfl, rfl⟩)
  all_goals (go_ret; exact ⟨rfl, rfl⟩)
end Go.Proofs.YtfjpfllamalfeaaDoor
