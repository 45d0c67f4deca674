/- A list of rules of a year that came in as an argument, read. -/
import Derived.Test.YtlihhlijombepaaDoorPlainFore
namespace Go.Proofs.YtlihhlijombepaaDoor
open Go.RowKit Go.Joins Go.ChangeShapes Go.WideShapes Go.Deep
set_option linter.unusedVariables false

/-- a list of rules lies in memory -/
structure RIn (w : World) (A : Option Addr) (rs : List ZR) : Prop where
  row : Row w w.heap.size A (rs.flatMap zrF)
  len : rs.length ≤ maxLen
  fit : ∀ x ∈ rs, ZRFit x
theorem RIn.next {w w' : World} {A : Option Addr} {rs : List ZR} (h : RIn w A rs) (hb : Below w.heap.size w w') : RIn w' A rs := ⟨h.row.next hb, h.len, h.fit⟩
theorem RIn.alloc {w : World} {A : Option Addr} {rs : List ZR} (h : RIn w A rs) (o : Obj) : RIn (w.alloc o) A rs := h.next (below_alloc1 w o)
theorem RIn.drewN {w : World} {A : Option Addr} {rs : List ZR} (h : RIn w A rs) (n : Nat) : RIn (w.drewN n) A rs := ⟨h.row, h.len, h.fit⟩

section
variable {H : Type} {enc : TypeId × Value → H} {W : World}
set_option maxRecDepth 100000 in
/-- one rule -/
theorem zr_of_trod (n : Nat) (cs : List Value) (y : DataW H × List MemPlace) (h : DataW.trod enc Tryd.prog W 0 (fun _ => true) true n 56 cs = some y) :
    ∃ x : ZR, cs = zrF x ∧ ZRFit x := by
  obtain ⟨xs, m, _, _, hlen, hxl, hf⟩ := DataW.trod_struct Tryd.underlying56 h
  have hC : Tryd.prog.cellsOf 56 = 6 := by kernel_rfl
  rw [hC] at hlen
  match cs, hlen with
  | [c0, c1, c2, c3, c4, c5], _ =>
    have e0 : Tryd.prog.cellsOf 3 = 1 := by kernel_rfl
    have e1 : Tryd.prog.cellsOf 9 = 1 := by kernel_rfl
    have h0 := hf 0 _ rfl
    have h1 := hf 1 _ rfl
    have h2 := hf 2 _ rfl
    have h3 := hf 3 _ rfl
    have h4 := hf 4 _ rfl
    have h5 := hf 5 _ rfl
    match xs, hxl with
    | [x0, x1, x2, x3, x4, x5], _ =>
      simp [e0, e1] at h0 h1 h2 h3 h4 h5
      obtain ⟨a, ea, _, wa⟩ := DataW.trod_int Tryd.underlying3 h0
      obtain ⟨b, eb, _, wb⟩ := DataW.trod_int Tryd.underlying3 h1
      obtain ⟨c, ec, _, wc⟩ := DataW.trod_int Tryd.underlying3 h2
      obtain ⟨d, ed, _, wd⟩ := DataW.trod_int Tryd.underlying3 h3
      obtain ⟨o, eo, _, wo⟩ := DataW.trod_int Tryd.underlying3 h4
      obtain ⟨l, el, _, wl⟩ := DataW.trod_string Tryd.underlying9 h5
      simp at ea eb ec ed eo el
      subst ea eb ec ed eo el
      exact ⟨⟨a, b, c, d, o, l⟩, rfl, (bounds_i64 wa).1, (bounds_i64 wa).2, (bounds_i64 wb).1, (bounds_i64 wb).2, (bounds_i64 wc).1, (bounds_i64 wc).2, (bounds_i64 wd).1, (bounds_i64 wd).2, (bounds_i64 wo).1, (bounds_i64 wo).2, wl⟩
set_option maxRecDepth 100000 in
/-- a list of rules -/
theorem rules_open {base : Nat} {v : Value} {d : DataW H} {p : List MemPlace} (hv : Value.okWide Tryd.prog W .any base 54 v) (h : DataW.Trod enc Tryd.prog W 0 (fun _ => true) true 54 v d p) :
    ∃ (A : Option Addr) (rs : List ZR) (c : Nat), v = .slice A rs.length c ∧ RIn W A rs := by
  obtain ⟨a0, len, cap, rfl⟩ := okWide_slice Tryd.underlying54 hv
  obtain ⟨m, hm⟩ := h
  obtain ⟨A, rs, c, e, h1, h2, hrow, hfit⟩ := list_trod (v := .slice a0 len cap) zr0 zrF_len (by omega) Tryd.underlying54 (show Tryd.prog.cellsOf 56 = 6 by kernel_rfl) zr_of_trod hm
  exact ⟨A, rs, c, e, hrow, by omega, hfit⟩
end
end Go.Proofs.YtlihhlijombepaaDoor
