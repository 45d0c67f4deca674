/- FeArg -/
import Derived.Test.YtoaflcnphijhpaaGreatDoorGFePlain
import Derived.Test.YtoaflcnphijhpaaGreatDoorGRuleArg
/- An expression for days that came in as an argument, read as a tree. -/
namespace Go.Proofs.YtoaflcnphijhpaaGreatDoor
open Go.RowKit Go.Joins Go.ChangeShapes Go.WideShapes Go.Deep
set_option linter.unusedVariables false

section
variable {H : Type} {enc : TypeId × Value → H} {W : World}
set_option maxRecDepth 100000 in
/-- an expression -/
theorem fe_of_trod : ∀ (N n : Nat) (cs : List Value) (y : DataW H × List MemPlace), n < N → DataW.trod enc Tryz.prog W 0 (fun _ => true) true n 25 cs = some y → ∃ t : FE, cs = feF t ∧ FeIn W W.heap.size t := by
  intro N
  induction N with
  | zero => intro n cs y h; omega
  | succ N ih =>
    intro n cs y hn h
    obtain ⟨xs, m, hm, _, hlen, hxl, hf⟩ := DataW.trod_struct Tryz.underlying25 h
    have hC : Tryz.prog.cellsOf 25 = 5 := by kernel_rfl
    rw [hC] at hlen
    match cs, hlen with
    | [c0, c1, c2, c3, c4], _ =>
      have e0 : Tryz.prog.cellsOf 3 = 1 := by kernel_rfl
      have e1 : Tryz.prog.cellsOf 9 = 1 := by kernel_rfl
      have e2 : Tryz.prog.cellsOf 23 = 1 := by kernel_rfl
      have h0 := hf 0 _ rfl
      have h1 := hf 1 _ rfl
      have h2 := hf 2 _ rfl
      have h3 := hf 3 _ rfl
      have h4 := hf 4 _ rfl
      match xs, hxl with
      | [x0, x1, x2, x3, x4], _ =>
        simp [e0, e1, e2] at h0 h1 h2 h3 h4
        obtain ⟨k, ek, _, wk⟩ := DataW.trod_int Tryz.underlying3 h0
        obtain ⟨a, ea, _, wa⟩ := DataW.trod_int Tryz.underlying3 h1
        obtain ⟨b, eb, _, wb⟩ := DataW.trod_int Tryz.underlying3 h2
        obtain ⟨nm, en, _, wn⟩ := DataW.trod_string Tryz.underlying9 h3
        simp at ek ea eb en
        subst ek ea eb en
        obtain ⟨A, ks, c, e, k1, k2, row, kids⟩ := list_trodN fe0 feF_len (by omega) Tryz.underlying23 hC (fun m' cs y hm' hh => ih m' cs y (by omega) hh) h4
        subst e
        exact ⟨.node k a b nm A c ks, rfl, .mk (bounds_i64 wk) (bounds_i64 wa) (bounds_i64 wb) wn (by omega) row kids⟩
set_option maxRecDepth 100000 in
theorem fe_open {base : Nat} {v : Value} {d : DataW H} {p : List MemPlace} (hv : Value.okWide Tryz.prog W .any base 25 v) (h : DataW.Trod enc Tryz.prog W 0 (fun _ => true) true 25 v d p) :
    ∃ t : FE, v = feV t ∧ FeIn W W.heap.size t := by
  have hC : Tryz.prog.cellsOf 25 = 5 := by kernel_rfl
  obtain ⟨cs, rfl, hsz⟩ := okWide_struct Tryz.underlying25 hv
  obtain ⟨l⟩ := cs
  match l, hsz.trans hC with
  | [c0, c1, c2, c3, c4], _ =>
    obtain ⟨m', hm'⟩ := h
    obtain ⟨t, e, ht⟩ := fe_of_trod _ m' _ _ (Nat.lt_succ_self _) hm'
    refine ⟨t, ?_, ht⟩
    obtain ⟨k, a, b, nm, A, c, ks⟩ := t
    have hc : (Value.agg ⟨[c0, c1, c2, c3, c4]⟩).cells.toList = [c0, c1, c2, c3, c4] := rfl
    rw [hc] at e
    simp only [feF, List.cons.injEq, and_true] at e
    obtain ⟨rfl, rfl, rfl, rfl, rfl⟩ := e
    rfl
end
end Go.Proofs.YtoaflcnphijhpaaGreatDoor
