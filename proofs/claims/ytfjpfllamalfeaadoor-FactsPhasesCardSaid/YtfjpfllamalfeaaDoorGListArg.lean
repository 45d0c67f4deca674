/- ListArg -/
import Derived.ProofKit
import Derived.Lib.SmallJoins
import Derived.Deep.Slices
import Derived.Deep.Fields
import Derived.Test.YtfjpfllamalfeaaDoorGWords
/- Slices of structs that came in, read as lists; for any struct. -/
namespace Go.Proofs.YtfjpfllamalfeaaDoor
open Go.RowKit Go.Joins Go.ChangeShapes Go.WideShapes Go.Deep
set_option linter.unusedVariables false

theorem listOf {α : Type} (d : α) (P : Nat → α → Prop) : ∀ n, (∀ i, i < n → ∃ x, P i x) → ∃ l : List α, l.length = n ∧ ∀ i, i < n → P i (l.getD i d) := by
  intro n
  induction n with
  | zero => intro _; exact ⟨[], rfl, fun i hi => by omega⟩
  | succ n ih =>
    intro h
    obtain ⟨l, hl, hp⟩ := ih (fun i hi => h i (by omega))
    obtain ⟨x, hx⟩ := h n (by omega)
    refine ⟨l ++ [x], by simp [hl], fun i hi => ?_⟩
    by_cases hin : i < n
    · have e : (l ++ [x]).getD i d = l.getD i d := by simp [List.getD, List.getElem?_append_left (show i < l.length by omega)]
      rw [e]; exact hp i hin
    · obtain rfl : i = n := by omega
      have e : (l ++ [x]).getD i d = x := by rw [← hl]; simp [List.getD]
      rw [e]; exact hx
theorem addPlain (b o j : Nat) : (⟨b, o, none⟩ : Addr).add j = ⟨b, o + j, none⟩ := by unfold Addr.add; split <;> simp_all

theorem flat_length {α : Type} {f : α → List Value} {s : Nat} (hf : ∀ a, (f a).length = s) (l : List α) : (l.flatMap f).length = l.length * s := by
  induction l with
  | nil => simp
  | cons x r ih => rw [List.flatMap_cons, List.length_append, ih, hf, List.length_cons, Nat.add_mul]; omega
theorem flat_get {α : Type} {f : α → List Value} {s : Nat} (hf : ∀ a, (f a).length = s) (d : α) (l : List α) (i j : Nat) (h : i < l.length) (hj : j < s) : (l.flatMap f)[i * s + j]? = (f (l.getD i d))[j]? := by
  induction l generalizing i with
  | nil => simp at h
  | cons x r ih =>
    cases i with
    | zero => rw [List.flatMap_cons, Nat.zero_mul, Nat.zero_add, List.getElem?_append_left (by rw [hf]; exact hj)]; simp
    | succ i =>
      rw [List.flatMap_cons, List.getElem?_append_right (by rw [hf, Nat.add_mul]; omega), hf, show (i + 1) * s + j - s = i * s + j from by rw [Nat.add_mul]; omega, ih i (by simpa using h)]
      simp
/-- the cells of element i -/
theorem flat_cell {α : Type} {f : α → List Value} {s : Nat} (hf : ∀ a, (f a).length = s) (d : α) {w : World} {b o : Nat} {l : List α} (h : ∀ j v, (l.flatMap f)[j]? = some v → w.cell? ⟨b, o + j, none⟩ = some v) (i j : Nat) (hi : i < l.length) (hj : j < s) (v : Value) (hv : (f (l.getD i d))[j]? = some v) :
    w.cell? ⟨b, o + i * s + j, none⟩ = some v := by
  rw [Nat.add_assoc]; exact h _ _ ((flat_get hf d l i j hi hj).trans hv)
theorem flat_ne {α : Type} {f : α → List Value} {s : Nat} (hf : ∀ a, (f a).length = s) (hs : 0 < s) (l : List α) (h : 0 < l.length) : l.flatMap f ≠ [] := by
  intro e
  have := flat_length hf l
  rw [e] at this
  have := Nat.mul_pos h hs
  simp at *
  omega
theorem getD_mem {α : Type} (d : α) (l : List α) (i : Nat) (h : i < l.length) : l.getD i d ∈ l := by
  simp [List.getD, List.getElem?_eq_getElem h]

section
variable {H : Type} {enc : TypeId × Value → H} {W : World}
set_option maxRecDepth 100000 in
/-- a slice of structs, as a list -/
theorem list_trod {α : Type} (d0 : α) {f : α → List Value} {s : Nat} (hf : ∀ a, (f a).length = s) (hs : 0 < s) {Fit : α → Prop} {tS tE : TypeId} (hu : Tryd.prog.underlying tS = some (.slice tE)) (hC : Tryd.prog.cellsOf tE = s)
    (he : ∀ (n : Nat) (cs : List Value) (y : DataW H × List MemPlace), DataW.trod enc Tryd.prog W 0 (fun _ => true) true n tE cs = some y → ∃ x : α, cs = f x ∧ Fit x)
    {n : Nat} {v : Value} {y : DataW H × List MemPlace} (h : DataW.trod enc Tryd.prog W 0 (fun _ => true) true n tS [v] = some y) :
    ∃ (A : Option Addr) (xs : List α) (c : Nat), v = .slice A xs.length c ∧ xs.length ≤ c ∧ c ≤ maxLen ∧ Row W W.heap.size A (xs.flatMap f) ∧ ∀ x ∈ xs, Fit x := by
  rcases open_slice hu h with ⟨hcs, _⟩ | ⟨a, len, cap, m, n', D, Pl, hcs, _, hl, hm, hmm, _, hi⟩
  · simp only [List.cons.injEq, and_true] at hcs
    exact ⟨none, [], 0, hcs, by simp, by simp, .inl rfl, fun x hx => by cases hx⟩
  · simp only [List.cons.injEq, and_true] at hcs
    simp only [if_true] at hmm
    rw [hC] at hi
    have hp : ∀ i, i < len → ∃ x : α, Fit x ∧ ∀ j v, (f x)[j]? = some v → W.cell? (a.add (i * s + j)) = some v := by
      intro i hil
      obtain ⟨cs', hc, ht⟩ := hi i (by omega)
      obtain ⟨x, rfl, hx⟩ := he _ _ _ ht
      obtain ⟨_, _, hat⟩ := World.cells?_some hc
      refine ⟨x, hx, fun j v hv => ?_⟩
      have hj : j < s := by rw [← hf x]; exact (List.getElem?_eq_some_iff.1 hv).1
      have h0 := hat j (by omega)
      rw [Go.Deep.add_add, hv] at h0
      exact h0
    obtain ⟨xs, hlen, hall⟩ := listOf d0 _ len hp
    refine ⟨some a, xs, cap, by rw [hlen]; exact hcs, by omega, by omega, ?_, fun x hx => ?_⟩
    · by_cases h0 : len = 0
      · left
        have : xs = [] := List.eq_nil_of_length_eq_zero (by omega)
        rw [this]; rfl
      · obtain ⟨_, hc0⟩ := hall 0 (by omega)
        have hf0 := hf (xs.getD 0 d0)
        have hc0 := hc0 0 ((f (xs.getD 0 d0))[0]'(by omega)) (by simp)
        rw [Nat.zero_mul, Nat.add_zero] at hc0
        obtain ⟨b, off, spot⟩ := a
        have hspot : spot = none := by simpa [Addr.add] using World.cell?_spot hc0
        subst hspot
        refine .inr ⟨b, off, rfl, ?_, fun j v hv => ?_⟩
        · rw [addPlain] at hc0; exact block_lt_of_cell hc0
        · have hj : j < xs.length * s := by
            have := (List.getElem?_eq_some_iff.1 hv).1
            rwa [flat_length hf] at this
          have hr : j % s < s := Nat.mod_lt _ hs
          have hjd : j / s * s + j % s = j := by rw [Nat.mul_comm]; exact Nat.div_add_mod j s
          have hi' : j / s < xs.length := (Nat.div_lt_iff_lt_mul hs).2 hj
          have k0 := (hall (j / s) (by omega)).2 (j % s) v (by rw [← flat_get hf d0 xs (j / s) (j % s) hi' hr, hjd]; exact hv)
          rw [hjd, addPlain] at k0
          exact k0
    · obtain ⟨k, hk, e⟩ := List.getElem_of_mem hx
      have := (hall k (by omega)).1
      simp [List.getD, List.getElem?_eq_getElem hk, e] at this
      exact this
end
end Go.Proofs.YtfjpfllamalfeaaDoor
