/- PlainZone -/
import Derived.Test.YtifhlmakacoicaaDoorGName1
import Derived.Test.YtifhlmakacoicaaDoorGBase
/- Plain words for zones. -/
namespace Go.Proofs.YtifhlmakacoicaaDoor
open Go.RowKit
set_option linter.unusedVariables false

/-- a change of a zone -/
structure Chg where
  a : Int
  o : Int
  l : ByteArray
def chg0 : Chg := ⟨0, 0, ⟨#[]⟩⟩
def chCells (l : List Chg) : List Value := l.flatMap fun c => [.int .i64 c.a, .int .i64 c.o, .string c.l]
theorem chCells_length (l : List Chg) : (chCells l).length = l.length * 3 := by
  induction l with
  | nil => rfl
  | cons x r ih => simp only [chCells, List.flatMap_cons, List.length_append, List.length_cons, List.length_nil] at *; omega
theorem chCells_get (l : List Chg) (i : Nat) (h : i < l.length) : (chCells l)[i * 3]? = some (.int .i64 (l.getD i chg0).a) ∧ (chCells l)[i * 3 + 1]? = some (.int .i64 (l.getD i chg0).o) ∧ (chCells l)[i * 3 + 2]? = some (.string (l.getD i chg0).l) := by
  induction l generalizing i with
  | nil => simp at h
  | cons x r ih =>
    cases i with
    | zero => simp [chCells]
    | succ i =>
      have := ih i (by simpa using h)
      simp only [chCells, List.flatMap_cons] at this ⊢
      rw [show (i + 1) * 3 = (i * 3) + 3 from by omega]
      simpa using this
theorem ch_cells {w : World} {b o : Nat} {l : List Chg} (h : ∀ j v, (chCells l)[j]? = some v → w.cell? ⟨b, o + j, none⟩ = some v) (i : Nat) (hi : i < l.length) :
    w.cell? ⟨b, o + i * 3, none⟩ = some (.int .i64 (l.getD i chg0).a) ∧ w.cell? ⟨b, o + i * 3 + 1, none⟩ = some (.int .i64 (l.getD i chg0).o) ∧ w.cell? ⟨b, o + i * 3 + 2, none⟩ = some (.string (l.getD i chg0).l) := by
  obtain ⟨h1, h2, h3⟩ := chCells_get l i hi
  exact ⟨h _ _ h1, by have := h _ _ h2; rwa [← Nat.add_assoc] at this, by have := h _ _ h3; rwa [← Nat.add_assoc] at this⟩
theorem chCells_ne (l : List Chg) (h : 0 < l.length) : chCells l ≠ [] := by
  intro e
  have := chCells_length l
  rw [e] at this
  simp at this
  omega
/-- the check of one change -/
def ChgOk (chs : List Chg) (i : Nat) : Prop := InstOk (chs.getD i chg0).a ∧ OffOk (chs.getD i chg0).o ∧ LabelOk (chs.getD i chg0).l ∧ (0 < i → (chs.getD (i - 1) chg0).a < (chs.getD i chg0).a)
/-- the zone is valid -/
def ZoneOk (nm : ByteArray) (first : Int) (chs : List Chg) : Prop := NameOk nm ∧ OffOk first ∧ chs.length ≤ 200 ∧ ∀ i, i < chs.length → ChgOk chs i
/-- the numbers are ints and the labels fit -/
def ChgFit (c : Chg) : Prop := -9223372036854775808 ≤ c.a ∧ c.a ≤ 9223372036854775807 ∧ -9223372036854775808 ≤ c.o ∧ c.o ≤ 9223372036854775807 ∧ c.l.size ≤ maxLen
/-- how many changes from the first one on are at or before an instant -/
def seg : List Chg → Int → Nat
  | [], _ => 0
  | c :: r, t => if t < c.a then 0 else seg r t + 1
theorem seg_le (chs : List Chg) (t : Int) : seg chs t ≤ chs.length := by
  induction chs with
  | nil => simp [seg]
  | cons c r ih => unfold seg; split <;> simp <;> omega
theorem seg_before (chs : List Chg) (t : Int) : ∀ j, j < seg chs t → (chs.getD j chg0).a ≤ t := by
  induction chs with
  | nil => intro j hj; simp [seg] at hj
  | cons c r ih =>
    intro j hj
    unfold seg at hj
    by_cases h : t < c.a
    · rw [if_pos h] at hj; omega
    · rw [if_neg h] at hj
      cases j with
      | zero => simp; omega
      | succ j => have := ih j (by omega); simpa using this
theorem seg_after (chs : List Chg) (t : Int) : seg chs t = chs.length ∨ t < (chs.getD (seg chs t) chg0).a := by
  induction chs with
  | nil => simp [seg]
  | cons c r ih =>
    unfold seg
    by_cases h : t < c.a
    · rw [if_pos h]; right; simpa using h
    · rw [if_neg h]
      rcases ih with e | e
      · left; simp [e]
      · right; simpa using e
/-- the instants of the changes increase -/
def Sorted (chs : List Chg) : Prop := ∀ i, 0 < i → i < chs.length → (chs.getD (i - 1) chg0).a < (chs.getD i chg0).a
theorem Sorted.lt {chs : List Chg} (h : Sorted chs) : ∀ (d i : Nat), i + d + 1 < chs.length → (chs.getD i chg0).a < (chs.getD (i + d + 1) chg0).a := by
  intro d
  induction d with
  | zero => intro i hi; have := h (i + 1) (by omega) hi; simpa using this
  | succ d ih =>
    intro i hi
    have h1 := ih i (by omega)
    have h2 := h (i + d + 1 + 1) (by omega) (by omega)
    rw [Nat.add_sub_cancel] at h2
    rw [show i + (d + 1) + 1 = i + d + 1 + 1 from by omega]
    omega
theorem Sorted.le {chs : List Chg} (h : Sorted chs) (i j : Nat) (hij : i ≤ j) (hj : j < chs.length) : (chs.getD i chg0).a ≤ (chs.getD j chg0).a := by
  rcases Nat.lt_or_ge i j with hlt | hge
  · have := h.lt (j - i - 1) i (by omega)
    rw [show i + (j - i - 1) + 1 = j from by omega] at this
    omega
  · obtain rfl : i = j := by omega
    omega
/-- the instant lies between the i-th change and the next one -/
def InSeg (chs : List Chg) (i : Nat) (t : Int) : Prop := (i = 0 ∨ (chs.getD (i - 1) chg0).a ≤ t) ∧ (i = chs.length ∨ t < (chs.getD i chg0).a)
theorem inSeg_seg (chs : List Chg) (t : Int) : InSeg chs (seg chs t) t := by
  refine ⟨?_, seg_after chs t⟩
  by_cases h : seg chs t = 0
  · exact .inl h
  · exact .inr (seg_before chs t _ (by omega))
theorem seg_eq {chs : List Chg} (h : Sorted chs) (i : Nat) (hi : i ≤ chs.length) (t : Int) (hs : InSeg chs i t) : seg chs t = i := by
  obtain ⟨h1, h2⟩ := hs
  have hl := seg_le chs t
  have hb := seg_before chs t
  have ha := seg_after chs t
  rcases Nat.lt_trichotomy (seg chs t) i with g | g | g
  · exfalso
    rcases ha with ha | ha
    · omega
    · have := h.le (seg chs t) (i - 1) (by omega) (by omega)
      rcases h1 with h1 | h1
      · omega
      · omega
  · exact g
  · exfalso
    have := hb i g
    rcases h2 with h2 | h2
    · omega
    · omega
/-- the offset of the i-th stretch -/
def offI (first : Int) (chs : List Chg) (i : Nat) : Int := if i = 0 then first else (chs.getD (i - 1) chg0).o
/-- the offset at an instant -/
def offAt (first : Int) (chs : List Chg) (t : Int) : Int := offI first chs (seg chs t)
/-- the instant of the i-th stretch with a local time, if there is one -/
def instB (local_ first : Int) (chs : List Chg) (i : Nat) : Bool :=
  decide ((-345600000000000 ≤ local_ - offI first chs i ∧ local_ - offI first chs i < 345600086400000) ∧ (i = 0 ∨ (chs.getD (i - 1) chg0).a ≤ local_ - offI first chs i) ∧ (i = chs.length ∨ local_ - offI first chs i < (chs.getD i chg0).a))
/-- the instants of the first stretches with a local time -/
def instL (local_ first : Int) (chs : List Chg) : Nat → List Int
  | 0 => []
  | k + 1 => if instB local_ first chs k then instL local_ first chs k ++ [local_ - offI first chs k] else instL local_ first chs k
theorem instL_length (local_ first : Int) (chs : List Chg) (k : Nat) : (instL local_ first chs k).length ≤ k := by
  induction k with
  | zero => simp [instL]
  | succ k ih => unfold instL; split <;> (try rw [List.length_append, List.length_singleton]) <;> omega
theorem instL_mem (local_ first : Int) (chs : List Chg) (k : Nat) (t : Int) : t ∈ instL local_ first chs k ↔ ∃ i, i < k ∧ instB local_ first chs i = true ∧ t = local_ - offI first chs i := by
  induction k with
  | zero => simp [instL]
  | succ k ih =>
    unfold instL
    by_cases h : instB local_ first chs k = true
    · rw [if_pos h, List.mem_append, ih]
      constructor
      · rintro (⟨i, h1, h2, h3⟩ | h1)
        · exact ⟨i, by omega, h2, h3⟩
        · simp at h1; exact ⟨k, by omega, h, h1⟩
      · rintro ⟨i, h1, h2, h3⟩
        by_cases hik : i = k
        · subst hik; right; simp [h3]
        · left; exact ⟨i, by omega, h2, h3⟩
    · rw [if_neg h, ih]
      constructor
      · rintro ⟨i, h1, h2, h3⟩; exact ⟨i, by omega, h2, h3⟩
      · rintro ⟨i, h1, h2, h3⟩
        by_cases hik : i = k
        · subst hik; exact absurd h2 h
        · exact ⟨i, by omega, h2, h3⟩
theorem instB_iff (local_ first : Int) (chs : List Chg) (i : Nat) : instB local_ first chs i = true ↔ InstOk (local_ - offI first chs i) ∧ InSeg chs i (local_ - offI first chs i) := by
  unfold instB InstOk InSeg
  rw [decide_eq_true_eq]
theorem instL_sorted (local_ first : Int) (chs : List Chg) (hs : Sorted chs) (k : Nat) (hk : k ≤ chs.length + 1) : ∀ i j, i < j → j < (instL local_ first chs k).length → (instL local_ first chs k).getD i 0 < (instL local_ first chs k).getD j 0 := by
  induction k with
  | zero => intro i j _ hj; simp [instL] at hj
  | succ k ih =>
    have ih := ih (by omega)
    unfold instL
    by_cases h : instB local_ first chs k = true
    · rw [if_pos h]
      intro i j hij hj
      rw [List.length_append, List.length_singleton] at hj
      by_cases hjk : j < (instL local_ first chs k).length
      · have := ih i j hij hjk
        simpa [List.getD, List.getElem?_append_left hjk, List.getElem?_append_left (show i < (instL local_ first chs k).length by omega)] using this
      · have ej : j = (instL local_ first chs k).length := by omega
        have hi : i < (instL local_ first chs k).length := by omega
        have e1 : (instL local_ first chs k ++ [local_ - offI first chs k]).getD j 0 = local_ - offI first chs k := by
          rw [ej]; simp [List.getD]
        have e2 : (instL local_ first chs k ++ [local_ - offI first chs k]).getD i 0 = (instL local_ first chs k).getD i 0 := by
          simp [List.getD, List.getElem?_append_left hi]
        rw [e1, e2]
        have hm : (instL local_ first chs k).getD i 0 ∈ instL local_ first chs k := by simp [List.getD, List.getElem?_eq_getElem hi]
        obtain ⟨q, hq, hb, he⟩ := (instL_mem local_ first chs k _).1 hm
        rw [he]
        have s1 := ((instB_iff local_ first chs q).1 hb).2.2
        have s2 := ((instB_iff local_ first chs k).1 h).2.1
        have s3 := hs.le q (k - 1) (by omega) (by omega)
        rcases s1 with s1 | s1
        · omega
        · rcases s2 with s2 | s2
          · omega
          · omega
    · rw [if_neg h]
      exact ih
end Go.Proofs.YtifhlmakacoicaaDoor
