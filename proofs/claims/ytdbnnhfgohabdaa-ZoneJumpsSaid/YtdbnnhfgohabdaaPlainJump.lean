/- Plain laws of the changes of zones. -/
import Derived.Test.YtdbnnhfgohabdaaPlainZone
namespace Go.Proofs.Ytdbnnhfgohabdaa
set_option linter.unusedVariables false
/-- a list that increases -/
def Incr (L : List Int) : Prop := ∀ i j, i < j → j < L.length → L.getD i 0 < L.getD j 0
theorem incr_none (L : List Int) (h : ∀ x, ¬ x ∈ L) : L = [] := List.eq_nil_iff_forall_not_mem.2 h
theorem incr_one (L : List Int) (hs : Incr L) (a : Int) (h : ∀ x, x ∈ L ↔ x = a) : L = [a] := by
  match L, hs, h with
  | [], _, h => have := (h a).2 rfl; simp at this
  | [x], _, h => have := (h x).1 (by simp); rw [this]
  | x :: y :: r, hs, h =>
    have h1 := (h x).1 (by simp)
    have h2 := (h y).1 (by simp)
    have := hs 0 1 (by omega) (by simp)
    simp at this
    omega
theorem incr_two (L : List Int) (hs : Incr L) (a b : Int) (hab : a < b) (h : ∀ x, x ∈ L ↔ x = a ∨ x = b) : L = [a, b] := by
  match L, hs, h with
  | [], _, h => have := (h a).2 (.inl rfl); simp at this
  | [x], _, h =>
    have h1 := (h a).2 (.inl rfl)
    have h2 := (h b).2 (.inr rfl)
    simp at h1 h2
    omega
  | [x, y], hs, h =>
    have h1 := (h x).1 (by simp)
    have h2 := (h y).1 (by simp)
    have := hs 0 1 (by omega) (by simp)
    simp at this
    have e1 : x = a := by omega
    have e2 : y = b := by omega
    rw [e1, e2]
  | x :: y :: z :: r, hs, h =>
    have h1 := (h x).1 (by simp)
    have h2 := (h y).1 (by simp)
    have h3 := (h z).1 (by simp)
    have g1 := hs 0 1 (by omega) (by simp)
    have g2 := hs 1 2 (by omega) (by simp)
    simp at g1 g2
    omega
theorem tdiv2_facts (j : Int) : (0 < j → 0 ≤ j.tdiv 2 ∧ j.tdiv 2 < j) ∧ (j = 0 → j.tdiv 2 = 0) ∧ (j ≤ -2 → j.tdiv 2 < 0 ∧ j < j.tdiv 2) ∧ (-j.natAbs ≤ j.tdiv 2 ∧ j.tdiv 2 ≤ j.natAbs) := by
  have h := Int.mul_tdiv_add_tmod j 2
  have h1 := Int.natAbs_tmod j 2
  have h2 := Int.natAbs_tdiv_le_natAbs j 2
  have h3 : (j.tmod 2).natAbs < 2 := by rw [h1]; exact Nat.mod_lt _ (by decide)
  have h4 := Int.tmod_nonneg (a := j) 2
  have h5 : j ≤ 0 → j.tmod 2 ≤ 0 := fun hj => by
    have := Int.tmod_nonneg (a := -j) 2 (by omega)
    rw [Int.neg_tmod] at this; omega
  refine ⟨fun hj => ?_, fun hj => by subst hj; rfl, fun hj => ?_, by omega⟩
  · have := h4 (by omega); omega
  · have := h5 (by omega); omega
/-- the instants around a change that stands alone -/
theorem jump_list (first : Int) (chs : List Chg) (hs : Sorted chs) (k : Nat) (hk : k < chs.length) (ho : ∀ i, i ≤ chs.length → -64800000 ≤ offI first chs i ∧ offI first chs i ≤ 64800000 ∧ offI first chs i % 1000 = 0)
    (hp : k = 0 ∨ 345600000 ≤ (chs.getD k chg0).a - (chs.getD (k - 1) chg0).a) (hn : k + 1 = chs.length ∨ 345600000 ≤ (chs.getD (k + 1) chg0).a - (chs.getD k chg0).a)
    (ha : -259200000000000 ≤ (chs.getD k chg0).a) (ha' : (chs.getD k chg0).a ≤ 259200000000000) (lo j : Int) (hj : j = offI first chs (k + 1) - offI first chs k) (hlo : lo = (chs.getD k chg0).a + offI first chs k + j.tdiv 2) :
    (0 < j → instL lo first chs (chs.length + 1) = []) ∧ (j < 0 → ∃ x y, instL lo first chs (chs.length + 1) = [x, y] ∧ y - x = -j ∧ -9000000000000000 ≤ x ∧ x ≤ 9000000000000000 ∧ -9000000000000000 ≤ y ∧ y ≤ 9000000000000000) ∧ (j = 0 → ∃ x, instL lo first chs (chs.length + 1) = [x]) := by
  obtain ⟨o1, o2, o3⟩ := ho k (by omega)
  obtain ⟨q1, q2, q3⟩ := ho (k + 1) (by omega)
  obtain ⟨d1, d2, d3, d4, d5⟩ := tdiv2_facts j
  have hsort := instL_sorted lo first chs hs (chs.length + 1) (Nat.le_refl _)
  have hmem := fun x => instL_mem lo first chs (chs.length + 1) x
  -- which stretches have an instant
  have key : ∀ i, i < chs.length + 1 → instB lo first chs i = true → i = k ∨ i = k + 1 := by
    intro i hi hb
    rw [instB_iff] at hb
    obtain ⟨_, s1, s2⟩ := hb
    obtain ⟨r1, r2, _⟩ := ho i (by omega)
    rcases Nat.lt_trichotomy i k with g | g | g
    · exfalso
      rcases s2 with s2 | s2
      · omega
      · have := hs.le i (k - 1) (by omega) (by omega)
        omega
    · exact .inl g
    · rcases Nat.lt_or_ge i (k + 2) with g2 | g2
      · right; omega
      · exfalso
        rcases s1 with s1 | s1
        · omega
        · have := hs.le (k + 1) (i - 1) (by omega) (by omega)
          omega
  have bk : instB lo first chs k = true ↔ j.tdiv 2 < 0 := by
    rw [instB_iff]
    unfold InstOk InSeg
    constructor
    · rintro ⟨_, _, h⟩; omega
    · intro h
      refine ⟨by omega, ?_, by omega⟩
      rcases hp with e | e
      · exact .inl e
      · right; omega
  have bk1 : instB lo first chs (k + 1) = true ↔ j ≤ j.tdiv 2 := by
    rw [instB_iff]
    unfold InstOk InSeg
    rw [Nat.add_sub_cancel]
    constructor
    · rintro ⟨_, h, _⟩; omega
    · intro h
      refine ⟨by omega, by omega, ?_⟩
      rcases hn with e | e
      · exact .inl e
      · right; omega
  refine ⟨fun h => ?_, fun h => ?_, fun h => ?_⟩
  · apply incr_none
    intro x hx
    obtain ⟨i, hi, hb, _⟩ := (hmem x).1 hx
    rcases key i hi hb with rfl | rfl
    · rw [bk] at hb; omega
    · rw [bk1] at hb; omega
  · have hj2 : j ≤ -2 := by omega
    obtain ⟨e1, e2⟩ := d3 hj2
    refine ⟨lo - offI first chs k, lo - offI first chs (k + 1), ?_, by omega, by omega, by omega, by omega, by omega⟩
    apply incr_two _ hsort _ _ (by omega)
    intro x
    rw [hmem x]
    constructor
    · rintro ⟨i, hi, hb, he⟩
      rcases key i hi hb with rfl | rfl
      · exact .inl he
      · exact .inr he
    · rintro (e | e)
      · exact ⟨k, by omega, bk.2 e1, e⟩
      · exact ⟨k + 1, by omega, bk1.2 (by omega), e⟩
  · refine ⟨lo - offI first chs (k + 1), ?_⟩
    apply incr_one _ hsort
    intro x
    rw [hmem x]
    constructor
    · rintro ⟨i, hi, hb, he⟩
      rcases key i hi hb with rfl | rfl
      · rw [bk] at hb; have := d2 h; omega
      · exact he
    · intro e
      exact ⟨k + 1, by omega, bk1.2 (by have := d2 h; omega), e⟩
end Go.Proofs.Ytdbnnhfgohabdaa
