/- Slices of integers that came in as arguments, read as lists. -/
import Derived.Test.YtfindembancjdaaListArg
namespace Go.Proofs.Ytfindembancjdaa
open Go.RowKit Go.Joins Go.ChangeShapes Go.WideShapes Go.Deep
set_option linter.unusedVariables false

/-- every number fits -/
def IntsFit (l : List Int) : Prop := ∀ x ∈ l, -9223372036854775808 ≤ x ∧ x ≤ 9223372036854775807
theorem ints_flat (l : List Int) : l.flatMap (fun x => [Value.int .i64 x]) = ints l := by
  induction l with
  | nil => rfl
  | cons a r ih => rw [List.flatMap_cons, ih]; rfl
section
variable {H : Type} {enc : TypeId × Value → H} {W : World}
set_option maxRecDepth 100000 in
theorem ints_trod {n : Nat} {v : Value} {y : DataW H × List MemPlace} (h : DataW.trod enc Try.prog W 0 (fun _ => true) true n 22 [v] = some y) :
    ∃ (A : Option Addr) (xs : List Int) (c : Nat), v = .slice A xs.length c ∧ xs.length ≤ c ∧ c ≤ maxLen ∧ Row W W.heap.size A (ints xs) ∧ IntsFit xs := by
  obtain ⟨A, xs, c, h1, h2, h3, h4, h5⟩ := list_trod (α := Int) 0 (f := fun x => [Value.int .i64 x]) (s := 1) (fun _ => rfl) (by omega) (Fit := fun x => -9223372036854775808 ≤ x ∧ x ≤ 9223372036854775807) Try.underlying22 (show Try.prog.cellsOf 3 = 1 by kernel_rfl)
    (fun n cs y hy => by obtain ⟨a, ea, _, wa⟩ := DataW.trod_int Try.underlying3 hy; exact ⟨a, by simpa using ea, bounds_i64 wa⟩) h
  rw [ints_flat] at h4
  exact ⟨A, xs, c, h1, h2, h3, h4, h5⟩
set_option maxRecDepth 100000 in
theorem ints_open {base : Nat} {v : Value} {d : DataW H} {p : List MemPlace} (hv : Value.okWide Try.prog W .any base 22 v) (h : DataW.Trod enc Try.prog W 0 (fun _ => true) true 22 v d p) :
    ∃ (A : Option Addr) (xs : List Int) (c : Nat), v = .slice A xs.length c ∧ xs.length ≤ c ∧ c ≤ maxLen ∧ Row W W.heap.size A (ints xs) ∧ IntsFit xs := by
  obtain ⟨a0, len, cap, rfl⟩ := okWide_slice Try.underlying22 hv
  obtain ⟨m, hm⟩ := h
  exact ints_trod (v := .slice a0 len cap) hm
end
end Go.Proofs.Ytfindembancjdaa
