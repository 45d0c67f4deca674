/- A moon's rule that came in as an argument, read. -/
import Derived.Test.YtfindembancjdaaIntsArg
import Derived.Test.YtfindembancjdaaMoon7
namespace Go.Proofs.Ytfindembancjdaa
open Go.RowKit Go.Joins Go.ChangeShapes Go.WideShapes Go.Deep
set_option linter.unusedVariables false
section
variable {H : Type} {enc : TypeId × Value → H} {W : World}
set_option maxRecDepth 100000 in
theorem frac_trod {n : Nat} {a b : Value} {y : DataW H × List MemPlace} (h : DataW.trod enc Try.prog W 0 (fun _ => true) true n 34 [a, b] = some y) : ∃ p q : Int, a = .int .i64 p ∧ b = .int .i64 q := by
  obtain ⟨xs, m, _, _, hlen, hxl, hf⟩ := DataW.trod_struct Try.underlying34 h
  have e0 : Try.prog.cellsOf 3 = 1 := by kernel_rfl
  have h0 := hf 0 _ rfl
  have h1 := hf 1 _ rfl
  match xs, hxl with
  | [x0, x1], _ =>
    simp [e0] at h0 h1
    obtain ⟨p, ea, _, wa⟩ := DataW.trod_int Try.underlying3 h0
    obtain ⟨q, eb, _, wb⟩ := DataW.trod_int Try.underlying3 h1
    simp at ea eb
    exact ⟨p, q, ea, eb⟩
set_option maxRecDepth 100000 in
theorem moon_open {base : Nat} {v : Value} {d : DataW H} {p : List MemPlace} (hv : Value.okWide Try.prog W .any base 36 v) (h : DataW.Trod enc Try.prog W 0 (fun _ => true) true 36 v d p) :
    ∃ m : Mo, v = m.val ∧ MIn W m ∧ MFit m := by
  have hC : Try.prog.cellsOf 36 = 11 := by kernel_rfl
  obtain ⟨cs, rfl, hsz⟩ := okWide_struct Try.underlying36 hv
  obtain ⟨l⟩ := cs
  match l, hsz.trans hC with
  | [c0, c1, c2, c3, c4, c5, c6, c7, c8, c9, c10], _ =>
    obtain ⟨fuel, hf⟩ := h
    obtain ⟨xs, n, _, hx, _, hlen, hg⟩ := DataW.trod_struct Try.underlying36 hf
    have e0 : Try.prog.cellsOf 3 = 1 := by kernel_rfl
    have e1 : Try.prog.cellsOf 9 = 1 := by kernel_rfl
    have e2 : Try.prog.cellsOf 34 = 2 := by kernel_rfl
    have e3 : Try.prog.cellsOf 22 = 1 := by kernel_rfl
    match xs, hlen with
    | [x0, x1, x2, x3, x4, x5, x6, x7], _ =>
      have h0 := hg 0 _ rfl
      have h1 := hg 1 _ rfl
      have h2 := hg 2 _ rfl
      have h3 := hg 3 _ rfl
      have h4 := hg 4 _ rfl
      have h5 := hg 5 _ rfl
      have h6 := hg 6 _ rfl
      have h7 := hg 7 _ rfl
      simp [e0, e1, e2, e3, Value.cells] at h0 h1 h2 h3 h4 h5 h6 h7
      obtain ⟨nm, k0, _, wn⟩ := DataW.trod_string Try.underlying9 h0
      obtain ⟨ep, k1, _, _⟩ := DataW.trod_int Try.underlying3 h1
      obtain ⟨sn, sd, rfl, rfl⟩ := frac_trod h2
      obtain ⟨mn, md, rfl, rfl⟩ := frac_trod h3
      obtain ⟨ln, ld, rfl, rfl⟩ := frac_trod h4
      obtain ⟨cy, k5, _, _⟩ := DataW.trod_int Try.underlying3 h5
      obtain ⟨A1, lp, c1', rfl, a1, a2, a3, a4⟩ := ints_trod h6
      obtain ⟨A2, av, c2', rfl, b1, b2, b3, b4⟩ := ints_trod h7
      simp at k0 k1 k5
      subst k0 k1 k5
      exact ⟨⟨nm, ep, sn, sd, mn, md, ln, ld, cy, lp, av, A1, c1', A2, c2'⟩, rfl, ⟨a3, b3⟩, ⟨wn, by show lp.length ≤ maxLen; omega, by show av.length ≤ maxLen; omega⟩⟩
end
end Go.Proofs.Ytfindembancjdaa
