/- LenEq, LenArg -/
import Derived.Laws.StructEq
import Derived.Test.YteebjkcpniddiaaGreatDoorGSpPlain
import Derived.Test.YteebjkcpniddiaaGreatDoorGListArg
/- The model's == and != at api.Length. -/
namespace Go.Proofs.YteebjkcpniddiaaGreatDoor
open Go.RowKit
set_option linter.unusedVariables false

/-- two durations are one -/
def lenB (a b c d x y z u : Int) : Bool := a == x && b == y && c == z && d == u
theorem lenB_yes {a b c d x y z u : Int} (h : a = x ∧ b = y ∧ c = z ∧ d = u) : lenB a b c d x y z u = true := by obtain ⟨rfl, rfl, rfl, rfl⟩ := h; simp [lenB]
theorem lenB_iff (a b c d x y z u : Int) : lenB a b c d x y z u = true ↔ (a = x ∧ b = y ∧ c = z ∧ d = u) := by simp [lenB, and_assoc]
theorem len_same (a b c d x y z u : Int) (w : World) : (Op.equalIn 10000 23 (.agg #[.int .i64 a, .int .i64 b, .int .i64 c, .int .i64 d]) (.agg #[.int .i64 x, .int .i64 y, .int .i64 z, .int .i64 u])).run Tryz.prog w = .ok (lenB a b c d x y z u) w := by
  have u3 := Tryz.underlying3
  have a3 := Tryz.isAgg3
  have z3 := Tryz.sizeOf3
  have hS : Tryz.prog.underlying 23 = some (.struct (Tryz.prog.fieldsOf 23)) := by kernel_rfl
  have hp : Tryz.prog.stoodInHeld 23 = false := by kernel_rfl
  rw [show (10000 : Nat) = 9999 + 1 from rfl, run_equalIn_agg w 9999 23 _ _ hS hp]
  simp only [Program.fieldsOf, Tryz.underlying23]
  go_simp
  unfold lenB
  by_cases h1 : a = x <;> by_cases h2 : b = y <;> by_cases h3 : c = z <;> by_cases h4 : d = u <;> simp [h1, h2, h3, h4]
theorem len_guard : Tryz.prog.eqGuardType Tryz.prog.depth 23 = false := by kernel_rfl
/-- the least of four that are not negative -/
theorem min_four (a b c d : Int) (h0 : 0 ≤ a) (h1 : 0 ≤ b) (h2 : 0 ≤ c) (h3 : 0 ≤ d) : ∃ z : Int, 0 ≤ z ∧ ∀ W, (Builtin.min_ #[3, 3, 3, 3] 3 #[.int .i64 a, .int .i64 b, .int .i64 c, .int .i64 d]).run Tryz.prog W = .ok (.int .i64 z) W := by
  refine ⟨if d < (if c < (if b < a then b else a) then c else (if b < a then b else a)) then d else (if c < (if b < a then b else a) then c else (if b < a then b else a)), ?_, fun W => ?_⟩
  · repeat' split
    all_goals assumption
  · simp [Builtin.min_, Builtin.min2, go_sem]
end Go.Proofs.YteebjkcpniddiaaGreatDoor

/- A duration that came in as an argument, read. -/
namespace Go.Proofs.YteebjkcpniddiaaGreatDoor
open Go.RowKit Go.Joins Go.ChangeShapes Go.WideShapes Go.Deep
set_option linter.unusedVariables false
section
variable {H : Type} {enc : TypeId × Value → H} {W : World}
set_option maxRecDepth 100000 in
theorem len_open {base : Nat} {v : Value} {d : DataW H} {p : List MemPlace} (hv : Value.okWide Tryz.prog W .any base 23 v) (h : DataW.Trod enc Tryz.prog W 0 (fun _ => true) true 23 v d p) :
    ∃ a b c e : Int, v = .agg (lenC a b c e) := by
  have hC : Tryz.prog.cellsOf 23 = 4 := by kernel_rfl
  obtain ⟨cs, rfl, hsz⟩ := okWide_struct Tryz.underlying23 hv
  obtain ⟨l⟩ := cs
  match l, hsz.trans hC with
  | [c0, c1, c2, c3], _ =>
    obtain ⟨fuel, hf⟩ := h
    obtain ⟨xs, n, _, hx, _, hlen, hg⟩ := DataW.trod_struct Tryz.underlying23 hf
    have e0 : Tryz.prog.cellsOf 3 = 1 := by kernel_rfl
    match xs, hlen with
    | [x0, x1, x2, x3], _ =>
      have h0 := hg 0 _ rfl
      have h1 := hg 1 _ rfl
      have h2 := hg 2 _ rfl
      have h3 := hg 3 _ rfl
      simp [e0] at h0 h1 h2 h3
      obtain ⟨a, ea, _, wa⟩ := DataW.trod_int Tryz.underlying3 h0
      obtain ⟨b, eb, _, wb⟩ := DataW.trod_int Tryz.underlying3 h1
      obtain ⟨c, ec, _, wc⟩ := DataW.trod_int Tryz.underlying3 h2
      obtain ⟨e, ee, _, we⟩ := DataW.trod_int Tryz.underlying3 h3
      have qa : [c0] = [Value.int .i64 a] := ea
      have qb : [c1] = [Value.int .i64 b] := eb
      have qc : [c2] = [Value.int .i64 c] := ec
      have qe : [c3] = [Value.int .i64 e] := ee
      injection qa with qa
      injection qb with qb
      injection qc with qc
      injection qe with qe
      exact ⟨a, b, c, e, by rw [qa, qb, qc, qe]; rfl⟩
end
end Go.Proofs.YteebjkcpniddiaaGreatDoor
