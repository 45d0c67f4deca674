/- EraArg -/
import Derived.Test.YtgocinlhkjaokaaGreatDoorGEraPlain
/- Reigns that came in as an argument, read. -/
namespace Go.Proofs.YtgocinlhkjaokaaGreatDoor
open Go.RowKit Go.Joins Go.ChangeShapes Go.WideShapes Go.Deep
set_option linter.unusedVariables false
section
variable {H : Type} {enc : TypeId × Value → H} {W : World}
set_option maxRecDepth 100000 in
theorem rn_trod {n : Nat} {cs : List Value} {y : DataW H × List MemPlace} (h : DataW.trod enc Tryz.prog W 0 (fun _ => true) true n 24 cs = some y) : ∃ x : Rn, cs = rnF x ∧ x.nm.size ≤ maxLen := by
  obtain ⟨xs, m, _, _, hlen, hxl, hf⟩ := DataW.trod_struct Tryz.underlying24 h
  have hC : Tryz.prog.cellsOf 24 = 2 := by kernel_rfl
  rw [hC] at hlen
  have e0 : Tryz.prog.cellsOf 3 = 1 := by kernel_rfl
  have e1 : Tryz.prog.cellsOf 9 = 1 := by kernel_rfl
  match cs, hlen with
  | [c0, c1], _ =>
    have h0 := hf 0 _ rfl
    have h1 := hf 1 _ rfl
    match xs, hxl with
    | [x0, x1], _ =>
      simp [e0, e1] at h0 h1
      obtain ⟨nm, k0, _, wn⟩ := DataW.trod_string Tryz.underlying9 h0
      obtain ⟨p, ea, _, wa⟩ := DataW.trod_int Tryz.underlying3 h1
      simp at k0 ea
      subst k0 ea
      exact ⟨⟨nm, p⟩, rfl, wn⟩
set_option maxRecDepth 100000 in
theorem reigns_open {base : Nat} {v : Value} {d : DataW H} {p : List MemPlace} (hv : Value.okWide Tryz.prog W .any base 22 v) (h : DataW.Trod enc Tryz.prog W 0 (fun _ => true) true 22 v d p) :
    ∃ (A : Option Addr) (l : List Rn) (c : Nat), v = .slice A l.length c ∧ l.length ≤ c ∧ c ≤ maxLen ∧ Row W W.heap.size A (l.flatMap rnF) ∧ ∀ x ∈ l, x.nm.size ≤ maxLen := by
  obtain ⟨a0, len, cap, rfl⟩ := okWide_slice Tryz.underlying22 hv
  obtain ⟨n, hm⟩ := h
  exact list_trod (α := Rn) (v := .slice a0 len cap) rn0 (f := rnF) (s := 2) rnF_len (by omega) (Fit := fun x => x.nm.size ≤ maxLen) Tryz.underlying22 (show Tryz.prog.cellsOf 24 = 2 by kernel_rfl) (fun n cs y hy => rn_trod hy) hm
end
end Go.Proofs.YtgocinlhkjaokaaGreatDoor
