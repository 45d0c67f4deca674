/- TreeArg -/
import Derived.Test.YtbmbphikjainiaaGreatDoorGTree1
import Derived.Test.YtbmbphikjainiaaGreatDoorGListArg
/- A rule of a calendar that came in as an argument, read. -/
namespace Go.Proofs.YtbmbphikjainiaaGreatDoor
open Go.RowKit Go.Joins Go.ChangeShapes Go.WideShapes Go.Deep
set_option linter.unusedVariables false
section
variable {H : Type} {enc : TypeId × Value → H} {W : World}
set_option maxRecDepth 100000 in
theorem mth_trod {n : Nat} {cs : List Value} {y : DataW H × List MemPlace} (h : DataW.trod enc Tryz.prog W 0 (fun _ => true) true n 62 cs = some y) : ∃ x : Mth, cs = mthF x ∧ x.nm.size ≤ maxLen := by
  obtain ⟨xs, m, _, _, hlen, hxl, hf⟩ := DataW.trod_struct Tryz.underlying62 h
  have hC : Tryz.prog.cellsOf 62 = 3 := by kernel_rfl
  rw [hC] at hlen
  have e0 : Tryz.prog.cellsOf 3 = 1 := by kernel_rfl
  have e1 : Tryz.prog.cellsOf 9 = 1 := by kernel_rfl
  match cs, hlen with
  | [c0, c1, c2], _ =>
    have h0 := hf 0 _ rfl
    have h1 := hf 1 _ rfl
    have h2 := hf 2 _ rfl
    match xs, hxl with
    | [x0, x1, x2], _ =>
      simp [e0, e1] at h0 h1 h2
      obtain ⟨nm, k0, _, wn⟩ := DataW.trod_string Tryz.underlying9 h0
      obtain ⟨p, ea, _, wa⟩ := DataW.trod_int Tryz.underlying3 h1
      obtain ⟨q, eb, _, wb⟩ := DataW.trod_int Tryz.underlying3 h2
      simp at k0 ea eb
      subst k0 ea eb
      exact ⟨⟨nm, p, q⟩, rfl, wn⟩
set_option maxRecDepth 100000 in
theorem mths_trod {n : Nat} {v : Value} {y : DataW H × List MemPlace} (h : DataW.trod enc Tryz.prog W 0 (fun _ => true) true n 25 [v] = some y) :
    ∃ (A : Option Addr) (xs : List Mth) (c : Nat), v = .slice A xs.length c ∧ xs.length ≤ c ∧ c ≤ maxLen ∧ Row W W.heap.size A (xs.flatMap mthF) ∧ ∀ x ∈ xs, x.nm.size ≤ maxLen :=
  list_trod (α := Mth) mth0 (f := mthF) (s := 3) mthF_len (by omega) (Fit := fun x => x.nm.size ≤ maxLen) Tryz.underlying25 (show Tryz.prog.cellsOf 62 = 3 by kernel_rfl) (fun n cs y hy => mth_trod hy) h
set_option maxRecDepth 100000 in
theorem tree_open {base : Nat} {v : Value} {d : DataW H} {p : List MemPlace} (hv : Value.okWide Tryz.prog W .any base 27 v) (h : DataW.Trod enc Tryz.prog W 0 (fun _ => true) true 27 v d p) :
    ∃ t : Tr, v = t.val ∧ TrIn W t ∧ TrFit t := by
  have hC : Tryz.prog.cellsOf 27 = 7 := by kernel_rfl
  obtain ⟨cs, rfl, hsz⟩ := okWide_struct Tryz.underlying27 hv
  obtain ⟨l⟩ := cs
  match l, hsz.trans hC with
  | [c0, c1, c2, c3, c4, c5, c6], _ =>
    obtain ⟨fuel, hf⟩ := h
    obtain ⟨xs, n, _, hx, _, hlen, hg⟩ := DataW.trod_struct Tryz.underlying27 hf
    have e0 : Tryz.prog.cellsOf 3 = 1 := by kernel_rfl
    have e1 : Tryz.prog.cellsOf 9 = 1 := by kernel_rfl
    have e2 : Tryz.prog.cellsOf 24 = 3 := by kernel_rfl
    have e3 : Tryz.prog.cellsOf 25 = 1 := by kernel_rfl
    match xs, hlen with
    | [x0, x1, x2, x3, x4], _ =>
      have h0 := hg 0 _ rfl
      have h1 := hg 1 _ rfl
      have h2 := hg 2 _ rfl
      have h3 := hg 3 _ rfl
      have h4 := hg 4 _ rfl
      simp [e0, e1, e2, e3, Value.cells] at h0 h1 h2 h3 h4
      obtain ⟨nm, k0, _, wn⟩ := DataW.trod_string Tryz.underlying9 h0
      obtain ⟨ep, k1, _, _⟩ := DataW.trod_int Tryz.underlying3 h1
      obtain ⟨cy, k2, _, _⟩ := DataW.trod_int Tryz.underlying3 h2
      obtain ⟨ex, k3, hex⟩ := re_of_trod _ _ _ _ (Nat.lt_succ_self _) h3
      obtain ⟨A1, mo, c1', rfl, a1, a2, a3, a4⟩ := mths_trod h4
      obtain ⟨k, n', A, c, ks⟩ := ex
      simp only [reF, List.cons.injEq, and_true] at k3
      simp at k0 k1 k2
      obtain ⟨rfl, rfl, rfl⟩ := k3
      subst k0 k1 k2
      exact ⟨⟨nm, ep, cy, k, n', A, c, ks, mo, A1, c1'⟩, rfl, ⟨a3, hex⟩, ⟨wn, a4, a1, a2⟩⟩
end
end Go.Proofs.YtbmbphikjainiaaGreatDoor
