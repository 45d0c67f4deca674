/- RefArg -/
import Derived.Test.YtbmbphikjainiaaGreatDoorGRef1
import Derived.Test.YtbmbphikjainiaaGreatDoorGListArg
/- A calendar that was changed, come in as an argument, read. -/
namespace Go.Proofs.YtbmbphikjainiaaGreatDoor
open Go.RowKit Go.Joins Go.ChangeShapes Go.WideShapes Go.Deep
set_option linter.unusedVariables false
section
variable {H : Type} {enc : TypeId × Value → H} {W : World}
set_option maxRecDepth 100000 in
theorem pt_trod {n : Nat} {cs : List Value} {y : DataW H × List MemPlace} (h : DataW.trod enc Tryz.prog W 0 (fun _ => true) true n 70 cs = some y) : ∃ x : Pt, cs = ptF x ∧ x.cal.size ≤ maxLen := by
  obtain ⟨xs, m, _, _, hlen, hxl, hf⟩ := DataW.trod_struct Tryz.underlying70 h
  have hC : Tryz.prog.cellsOf 70 = 2 := by kernel_rfl
  rw [hC] at hlen
  have e0 : Tryz.prog.cellsOf 3 = 1 := by kernel_rfl
  have e1 : Tryz.prog.cellsOf 9 = 1 := by kernel_rfl
  match cs, hlen with
  | [c0, c1], _ =>
    have h0 := hf 0 _ rfl
    have h1 := hf 1 _ rfl
    match xs, hxl with
    | [x0, x1], _ =>
      simp [e0, e1] at h0 h1
      obtain ⟨p, ea, _, wa⟩ := DataW.trod_int Tryz.underlying3 h0
      obtain ⟨nm, k0, _, wn⟩ := DataW.trod_string Tryz.underlying9 h1
      simp at k0 ea
      subst k0 ea
      exact ⟨⟨p, nm⟩, rfl, wn⟩
set_option maxRecDepth 100000 in
theorem pts_trod {n : Nat} {v : Value} {y : DataW H × List MemPlace} (h : DataW.trod enc Tryz.prog W 0 (fun _ => true) true n 66 [v] = some y) :
    ∃ (A : Option Addr) (xs : List Pt) (c : Nat), v = .slice A xs.length c ∧ xs.length ≤ c ∧ c ≤ maxLen ∧ Row W W.heap.size A (xs.flatMap ptF) ∧ ∀ x ∈ xs, x.cal.size ≤ maxLen :=
  list_trod (α := Pt) pt0 (f := ptF) (s := 2) ptF_len (by omega) (Fit := fun x => x.cal.size ≤ maxLen) Tryz.underlying66 (show Tryz.prog.cellsOf 70 = 2 by kernel_rfl) (fun n cs y hy => pt_trod hy) h
set_option maxRecDepth 100000 in
theorem reform_open {base : Nat} {v : Value} {d : DataW H} {p : List MemPlace} (hv : Value.okWide Tryz.prog W .any base 68 v) (h : DataW.Trod enc Tryz.prog W 0 (fun _ => true) true 68 v d p) :
    ∃ r : Rf, v = r.val ∧ RfIn W r ∧ RfFit r := by
  have hC : Tryz.prog.cellsOf 68 = 2 := by kernel_rfl
  obtain ⟨cs, rfl, hsz⟩ := okWide_struct Tryz.underlying68 hv
  obtain ⟨l⟩ := cs
  match l, hsz.trans hC with
  | [c0, c1], _ =>
    obtain ⟨fuel, hf⟩ := h
    obtain ⟨xs, n, _, hx, _, hlen, hg⟩ := DataW.trod_struct Tryz.underlying68 hf
    have e1 : Tryz.prog.cellsOf 9 = 1 := by kernel_rfl
    have e3 : Tryz.prog.cellsOf 66 = 1 := by kernel_rfl
    match xs, hlen with
    | [x0, x1], _ =>
      have h0 := hg 0 _ rfl
      have h1 := hg 1 _ rfl
      simp [e1, e3, Value.cells] at h0 h1
      obtain ⟨nm, k0, _, wn⟩ := DataW.trod_string Tryz.underlying9 h0
      obtain ⟨A1, ps, c1', rfl, a1, a2, a3, a4⟩ := pts_trod h1
      simp at k0
      subst k0
      exact ⟨⟨nm, ps, A1, c1'⟩, rfl, a3, ⟨wn, a1, a2⟩⟩
end
end Go.Proofs.YtbmbphikjainiaaGreatDoor
