/- ZoneArg -/
import Derived.ProofKit
import Derived.Lib.SmallJoins
import Derived.Deep.Slices
import Derived.Deep.Fields
import Derived.Test.YtifhlmakacoicaaDoorGZone1
/- A zone that came in as an argument, read. -/
namespace Go.Proofs.YtifhlmakacoicaaDoor
open Go.RowKit Go.Joins Go.ChangeShapes Go.WideShapes Go.Deep
set_option linter.unusedVariables false

theorem list_of {α : Type} (d : α) (P : Nat → α → Prop) : ∀ n, (∀ i, i < n → ∃ x, P i x) → ∃ l : List α, l.length = n ∧ ∀ i, i < n → P i (l.getD i d) := by
  intro n
  induction n with
  | zero => intro _; exact ⟨[], rfl, fun i hi => by omega⟩
  | succ n ih =>
    intro h
    obtain ⟨l, hl, hp⟩ := ih (fun i hi => h i (by omega))
    obtain ⟨x, hx⟩ := h n (by omega)
    refine ⟨l ++ [x], by simp [hl], fun i hi => ?_⟩
    by_cases hin : i < n
    · have e : (l ++ [x]).getD i d = l.getD i d := by simp [List.getD, List.getElem?_append_left (show i < l.length by omega)]
      rw [e]; exact hp i hin
    · obtain rfl : i = n := by omega
      have e : (l ++ [x]).getD i d = x := by rw [← hl]; simp [List.getD]
      rw [e]; exact hx
theorem add_plain (b o j : Nat) : (⟨b, o, none⟩ : Addr).add j = ⟨b, o + j, none⟩ := by unfold Addr.add; split <;> simp_all

section
variable {H : Type} {enc : TypeId × Value → H} {W : World}
set_option maxRecDepth 100000 in
/-- one change -/
theorem chg_of_trod {n : Nat} {cs : List Value} {y : DataW H × List MemPlace} (h : DataW.trod enc Tryd.prog W 0 (fun _ => true) true n 26 cs = some y) :
    ∃ x : Chg, cs = [.int .i64 x.a, .int .i64 x.o, .string x.l] ∧ ChgFit x := by
  obtain ⟨xs, m, _, _, hlen, hxl, hf⟩ := DataW.trod_struct Tryd.underlying26 h
  have hC : Tryd.prog.cellsOf 26 = 3 := by kernel_rfl
  rw [hC] at hlen
  match cs, hlen with
  | [c0, c1, c2], _ =>
    have e0 : Tryd.prog.cellsOf 3 = 1 := by kernel_rfl
    have e1 : Tryd.prog.cellsOf 9 = 1 := by kernel_rfl
    have h0 := hf 0 _ rfl
    have h1 := hf 1 _ rfl
    have h2 := hf 2 _ rfl
    match xs, hxl with
    | [x0, x1, x2], _ =>
      simp [e0, e1] at h0 h1 h2
      obtain ⟨a, ea, _, wa⟩ := DataW.trod_int Tryd.underlying3 h0
      obtain ⟨o, eo, _, wo⟩ := DataW.trod_int Tryd.underlying3 h1
      obtain ⟨l, el, _, wl⟩ := DataW.trod_string Tryd.underlying9 h2
      simp at ea eo el
      subst ea eo el
      exact ⟨⟨a, o, l⟩, rfl, (bounds_i64 wa).1, (bounds_i64 wa).2, (bounds_i64 wo).1, (bounds_i64 wo).2, wl⟩
set_option maxRecDepth 100000 in
/-- a slice of changes -/
theorem chgs_of_trod {n : Nat} {v : Value} {y : DataW H × List MemPlace} (h : DataW.trod enc Tryd.prog W 0 (fun _ => true) true n 22 [v] = some y) :
    ∃ (A : Option Addr) (chs : List Chg) (c : Nat), v = .slice A chs.length c ∧ Row W W.heap.size A (chCells chs) ∧ chs.length ≤ maxLen ∧ ∀ x ∈ chs, ChgFit x := by
  have hC : Tryd.prog.cellsOf 26 = 3 := by kernel_rfl
  rcases open_slice Tryd.underlying22 h with ⟨hcs, _⟩ | ⟨a, len, cap, m, n', D, Pl, hcs, _, hl, hm, hmm, _, hi⟩
  · simp only [List.cons.injEq, and_true] at hcs
    exact ⟨none, [], 0, hcs, .inl rfl, by simp, fun x hx => by cases hx⟩
  · simp only [List.cons.injEq, and_true] at hcs
    simp only [if_true] at hmm
    rw [hC] at hi
    have hp : ∀ i, i < len → ∃ x : Chg, ChgFit x ∧ W.cell? (a.add (i * 3)) = some (.int .i64 x.a) ∧ W.cell? (a.add (i * 3 + 1)) = some (.int .i64 x.o) ∧ W.cell? (a.add (i * 3 + 2)) = some (.string x.l) := by
      intro i hil
      obtain ⟨cs', hc, ht⟩ := hi i (by omega)
      obtain ⟨x, rfl, hx⟩ := chg_of_trod ht
      obtain ⟨_, _, hat⟩ := World.cells?_some hc
      have h0 := hat 0 (by omega)
      have h1 := hat 1 (by omega)
      have h2 := hat 2 (by omega)
      rw [Go.Deep.add_add] at h0 h1 h2
      exact ⟨x, hx, by simpa using h0, by simpa using h1, by simpa using h2⟩
    obtain ⟨chs, hlen, hall⟩ := list_of chg0 _ len hp
    refine ⟨some a, chs, cap, by rw [hlen]; exact hcs, ?_, by omega, fun x hx => ?_⟩
    · by_cases h0 : len = 0
      · left
        have : chs = [] := List.eq_nil_of_length_eq_zero (by omega)
        rw [this]; rfl
      · obtain ⟨_, hc0, _, _⟩ := hall 0 (by omega)
        rw [Nat.zero_mul] at hc0
        obtain ⟨b, off, spot⟩ := a
        have hspot : spot = none := by simpa [Addr.add] using World.cell?_spot hc0
        subst hspot
        refine .inr ⟨b, off, rfl, ?_, fun j v hv => ?_⟩
        · rw [add_plain] at hc0; exact block_lt_of_cell hc0
        · have hj : j < chs.length * 3 := by
            have := (List.getElem?_eq_some_iff.1 hv).1
            rwa [chCells_length] at this
          obtain ⟨i, r, hr, rfl⟩ : ∃ i r, r < 3 ∧ j = i * 3 + r := ⟨j / 3, j % 3, Nat.mod_lt _ (by omega), by omega⟩
          have hi' : i < chs.length := by omega
          obtain ⟨g0, g1, g2⟩ := chCells_get chs i hi'
          obtain ⟨_, k0, k1, k2⟩ := hall i (by omega)
          simp only [add_plain] at k0 k1 k2
          match r, hr with
          | 0, _ => rw [Nat.add_zero] at hv ⊢; rw [g0] at hv; rw [k0]; exact hv
          | 1, _ => rw [g1] at hv; rw [k1]; exact hv
          | 2, _ => rw [g2] at hv; rw [k2]; exact hv
    · obtain ⟨k, hk, e⟩ := List.getElem_of_mem hx
      have := (hall k (by omega)).1
      simp [List.getD, List.getElem?_eq_getElem hk, e] at this
      exact this
set_option maxRecDepth 100000 in
/-- a zone -/
theorem zone_open {base : Nat} {v : Value} {d : DataW H} {p : List MemPlace} (hv : Value.okWide Tryd.prog W .any base 24 v) (h : DataW.Trod enc Tryd.prog W 0 (fun _ => true) true 24 v d p) :
    ∃ (nm : ByteArray) (first : Int) (A : Option Addr) (chs : List Chg) (c : Nat), v = .agg #[.string nm, .int .i64 first, .slice A chs.length c] ∧ ZIn W nm A chs := by
  obtain ⟨c0, c1, c2, y0, y1, y2, m, rfl, rfl, rfl, hy0, hy1, hy2⟩ := open_agg3 Tryd.underlying24 (by kernel_rfl) (by kernel_rfl) hv h
  obtain ⟨nm, e0, _, wn⟩ := DataW.trod_string Tryd.underlying9 hy0
  obtain ⟨first, e1, _, _⟩ := DataW.trod_int Tryd.underlying3 hy1
  obtain ⟨A, chs, c, e2, hrow, hl, hfit⟩ := chgs_of_trod hy2
  simp at e0 e1
  subst e0 e1 e2
  exact ⟨nm, first, A, chs, c, rfl, hrow, wn, hl, hfit⟩
end
end Go.Proofs.YtifhlmakacoicaaDoor
