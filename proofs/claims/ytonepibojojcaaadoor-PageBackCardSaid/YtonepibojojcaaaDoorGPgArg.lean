/- PgArg -/
import Derived.Test.YtonepibojojcaaaDoorGPgMem
/- A table that came in as an argument, read. -/
namespace Go.Proofs.YtonepibojojcaaaDoor
open Go.RowKit Go.Joins Go.ChangeShapes Go.WideShapes Go.Deep
set_option linter.unusedVariables false

theorem sVs_flat (l : List ByteArray) : l.flatMap (fun s => [Value.string s]) = sVs l := by
  unfold sVs; induction l with
  | nil => rfl
  | cons a l ih => rw [List.flatMap_cons, ih]; rfl
theorem srV_flat (l : List SR) : l.flatMap (fun r => [srV r]) = l.map srV := by
  induction l with
  | nil => rfl
  | cons a l ih => rw [List.flatMap_cons, ih]; rfl
section
variable {H : Type} {enc : TypeId × Value → H} {W : World}
set_option maxRecDepth 100000 in
theorem sr_trod {n : Nat} {v : Value} {y : DataW H × List MemPlace} (h : DataW.trod enc Tryd.prog W 0 (fun _ => true) true n 22 [v] = some y) : ∃ r : SR, v = srV r ∧ SRIn W W.heap.size r := by
  obtain ⟨A, xs, c, e, h1, h2, h3, h4⟩ := list_trod (α := ByteArray) ⟨#[]⟩ (f := fun s => [Value.string s]) (s := 1) (fun _ => rfl) (by omega) (Fit := fun s => s.size ≤ maxLen) Tryd.underlying22 (show Tryd.prog.cellsOf 9 = 1 by kernel_rfl)
    (fun n cs y hy => by
      obtain ⟨nm, k0, _, wn⟩ := DataW.trod_string Tryd.underlying9 hy
      exact ⟨nm, k0, wn⟩) h
  rw [sVs_flat] at h3
  exact ⟨⟨A, c, xs⟩, e, h3, h1, h2, h4⟩
theorem sr_trod_any {n : Nat} {cs : List Value} {y : DataW H × List MemPlace} (h : DataW.trod enc Tryd.prog W 0 (fun _ => true) true n 22 cs = some y) : ∃ r : SR, cs = [srV r] ∧ SRIn W W.heap.size r := by
  rcases open_slice Tryd.underlying22 h with ⟨hcs, _⟩ | ⟨a, len, cap, m, n', D, Pl, hcs, _⟩
  · rw [hcs] at h ⊢
    obtain ⟨r, e, hr⟩ := sr_trod h
    exact ⟨r, by rw [e], hr⟩
  · rw [hcs] at h ⊢
    obtain ⟨r, e, hr⟩ := sr_trod h
    exact ⟨r, by rw [e], hr⟩
set_option maxRecDepth 100000 in
theorem table_open {base : Nat} {v : Value} {d : DataW H} {p : List MemPlace} (hv : Value.okWide Tryd.prog W .any base 25 v) (h : DataW.Trod enc Tryd.prog W 0 (fun _ => true) true 25 v d p) :
    ∃ t : Tb, v = t.val ∧ TbIn W W.heap.size t := by
  have hC : Tryd.prog.cellsOf 25 = 2 := by kernel_rfl
  obtain ⟨cs, rfl, hsz⟩ := okWide_struct Tryd.underlying25 hv
  obtain ⟨l⟩ := cs
  match l, hsz.trans hC with
  | [c0, c1], _ =>
    obtain ⟨fuel, hf⟩ := h
    obtain ⟨xs, n, _, hx, _, hlen, hg⟩ := DataW.trod_struct Tryd.underlying25 hf
    have e1 : Tryd.prog.cellsOf 22 = 1 := by kernel_rfl
    have e3 : Tryd.prog.cellsOf 23 = 1 := by kernel_rfl
    match xs, hlen with
    | [x0, x1], _ =>
      have h0 := hg 0 _ rfl
      have h1 := hg 1 _ rfl
      simp [e1, e3, Value.cells] at h0 h1
      obtain ⟨r, rfl, hr⟩ := sr_trod h0
      obtain ⟨A, rs, c, rfl, a1, a2, a3, a4⟩ := list_trod (α := SR) sr0 (f := fun r => [srV r]) (s := 1) (fun _ => rfl) (by omega) (Fit := fun r => SRIn W W.heap.size r) Tryd.underlying23 (show Tryd.prog.cellsOf 22 = 1 by kernel_rfl) (fun n cs y hy => sr_trod_any hy) h1
      rw [srV_flat] at a3
      exact ⟨⟨r, A, c, rs⟩, rfl, hr, a3, a1, a2, a4⟩
end
end Go.Proofs.YtonepibojojcaaaDoor
