/- BuPl -/
import Derived.Test.YtifhlmakacoicaaDoorGNumShp
import Derived.Test.YtifhlmakacoicaaDoorGPlainZone
/- The text of a bureau's notice, plain: its words; the changes from an instant on, and those before it. -/
namespace Go.Proofs.YtifhlmakacoicaaDoor
open Go.Lib
set_option linter.unusedVariables false

/-- the words of a change -/
def chgW (c : Chg) : List (List UInt8) := [itoa c.a, itoa c.o, c.l.data.toList]
/-- the words behind the name -/
def txW (fr : Int) (l : List Chg) : List (List UInt8) := itoa fr :: l.flatMap chgW
/-- the changes from an instant on -/
def late (fr : Int) (l : List Chg) : List Chg := l.filter fun c => decide (fr ≤ c.a)
/-- the text of the changes from an instant on -/
def shL (nm : ByteArray) (fr : Int) (l : List Chg) : List UInt8 := joinW 32 nm.data.toList (txW fr (late fr l))

theorem joinW_app3 (c : UInt8) : ∀ (l : List (List UInt8)) (a x y z : List UInt8), joinW c a (l ++ [x, y, z]) = joinW c a l ++ c :: (x ++ c :: (y ++ c :: z))
  | [], a, x, y, z => rfl
  | b :: l, a, x, y, z => by
    show a ++ c :: joinW c b (l ++ [x, y, z]) = a ++ c :: joinW c b l ++ c :: (x ++ c :: (y ++ c :: z))
    rw [joinW_app3 c l b x y z]
    simp
theorem late_step (fr : Int) (l : List Chg) (i : Nat) (h : i < l.length) : late fr (l.take (i + 1)) = if fr ≤ (l.getD i chg0).a then late fr (l.take i) ++ [l.getD i chg0] else late fr (l.take i) := by
  have e : l.getD i chg0 = l[i] := by simp [List.getD, List.getElem?_eq_getElem h]
  rw [e, List.take_succ_eq_append_getElem h]
  unfold late
  rw [List.filter_append]
  by_cases h2 : fr ≤ l[i].a
  · rw [if_pos h2]; simp [h2]
  · rw [if_neg h2]; simp [h2]
theorem shL_no (nm : ByteArray) (fr : Int) (l : List Chg) (i : Nat) (h : i < l.length) (h2 : ¬ fr ≤ (l.getD i chg0).a) : shL nm fr (l.take (i + 1)) = shL nm fr (l.take i) := by
  unfold shL
  rw [late_step fr l i h, if_neg h2]
theorem shL_yes (nm : ByteArray) (fr : Int) (l : List Chg) (i : Nat) (h : i < l.length) (h2 : fr ≤ (l.getD i chg0).a) :
    shL nm fr (l.take (i + 1)) = shL nm fr (l.take i) ++ 32 :: (itoa (l.getD i chg0).a ++ 32 :: (itoa (l.getD i chg0).o ++ 32 :: (l.getD i chg0).l.data.toList)) := by
  unfold shL
  rw [late_step fr l i h, if_pos h2]
  unfold txW
  rw [List.flatMap_append]
  exact joinW_app3 32 (itoa fr :: (late fr (l.take i)).flatMap chgW) nm.data.toList (itoa (l.getD i chg0).a) (itoa (l.getD i chg0).o) (l.getD i chg0).l.data.toList
theorem shL_zero (nm : ByteArray) (fr : Int) (l : List Chg) : shL nm fr (l.take 0) = nm.data.toList ++ 32 :: itoa fr := rfl

/-- what the check of a zone says of each change -/
def FitZ (l : List Chg) : Prop := ∀ i, i < l.length → InstOk (l.getD i chg0).a ∧ OffOk (l.getD i chg0).o ∧ LabelOk (l.getD i chg0).l
theorem ZoneOk.fit {nm : ByteArray} {f : Int} {l : List Chg} (h : ZoneOk nm f l) : FitZ l := fun i hi => ⟨(h.2.2.2 i hi).1, (h.2.2.2 i hi).2.1, (h.2.2.2 i hi).2.2.1⟩
theorem ZoneOk.sorted {nm : ByteArray} {f : Int} {l : List Chg} (h : ZoneOk nm f l) : Sorted l := fun i h0 hi => (h.2.2.2 i hi).2.2.2 h0
set_option maxRecDepth 100000 in
theorem shL_len (nm : ByteArray) (fr : Int) (l : List Chg) (hn : nm.size ≤ 12) (hfr : InstOk fr) (hl : FitZ l) : ∀ i, i ≤ l.length → (shL nm fr (l.take i)).length ≤ 40 + 40 * i := by
  intro i
  obtain ⟨a1, a2⟩ := hfr
  have hnl : nm.data.toList.length = nm.size := Array.length_toList
  induction i with
  | zero =>
    intro _
    rw [shL_zero]
    have l1 := itoa_len fr 17 (Nat.lt_of_lt_of_le (show _ < 100000000000000000 by omega) (by decide)) (by omega)
    simp only [List.length_append, List.length_cons]
    omega
  | succ i ih =>
    intro hi
    have ih := ih (by omega)
    by_cases h2 : fr ≤ (l.getD i chg0).a
    · rw [shL_yes nm fr l i (by omega) h2]
      obtain ⟨⟨b1, b2⟩, ⟨_, o1, o2⟩, lb⟩ := hl i (by omega)
      have l1 := itoa_len (l.getD i chg0).a 15 (Nat.lt_of_lt_of_le (show _ < 1000000000000000 by omega) (by decide)) (by omega)
      have l2 := itoa_len (l.getD i chg0).o 8 (Nat.lt_of_lt_of_le (show _ < 100000000 by omega) (by decide)) (by omega)
      have l3 : (l.getD i chg0).l.data.toList.length = (l.getD i chg0).l.size := Array.length_toList
      have l4 := lb.2.2
      generalize l.getD i chg0 = x at *
      simp only [List.length_append, List.length_cons]
      omega
    · rw [shL_no nm fr l i (by omega) h2]
      omega

/-- in a sorted list the changes from an instant on are the last ones -/
theorem late_drop (fr : Int) : ∀ l : List Chg, Sorted l → late fr l = l.drop (seg l (fr - 1))
  | [], _ => rfl
  | c :: r, h => by
    have hr : Sorted r := fun i h0 hi => by
      have := h (i + 1) (by omega) (by simpa using hi)
      obtain ⟨j, rfl⟩ : ∃ j, i = j + 1 := ⟨i - 1, by omega⟩
      simpa using this
    have ih := late_drop fr r hr
    unfold seg
    by_cases h2 : fr - 1 < c.a
    · rw [if_pos h2, List.drop_zero]
      unfold late
      rw [List.filter_eq_self]
      intro x hx
      obtain ⟨i, hi, rfl⟩ := List.getElem_of_mem hx
      have := h.le 0 i (by omega) hi
      have e : (c :: r).getD i chg0 = (c :: r)[i] := by simp [List.getD, List.getElem?_eq_getElem hi]
      rw [e] at this
      have this : c.a ≤ (c :: r)[i].a := this
      exact decide_eq_true (by omega)
    · rw [if_neg h2, List.drop_succ_cons, ← ih]
      unfold late
      rw [List.filter_cons_of_neg (by simp; omega)]
theorem sorted_tail {c : Chg} {r : List Chg} (h : Sorted (c :: r)) : Sorted r := fun i h0 hi => by
  have := h (i + 1) (by omega) (by simpa using hi)
  obtain ⟨j, rfl⟩ : ∃ j, i = j + 1 := ⟨i - 1, by omega⟩
  simpa using this

theorem getD_drop (l : List Chg) (k i : Nat) : (l.drop k).getD i chg0 = l.getD (k + i) chg0 := by simp [List.getD, List.getElem?_drop]
theorem getD_take (l : List Chg) (k i : Nat) (h : i < k) : (l.take k).getD i chg0 = l.getD i chg0 := by simp [List.getD, h]
theorem offOk_zero : OffOk 0 := ⟨rfl, by decide, by decide⟩
theorem zoneOk_drop {nm : ByteArray} {f : Int} {l : List Chg} (h : ZoneOk nm f l) (g : Int) (hg : OffOk g) (k : Nat) : ZoneOk nm g (l.drop k) := by
  obtain ⟨h1, h2, h3, h4⟩ := h
  refine ⟨h1, hg, by rw [List.length_drop]; omega, fun i hi => ?_⟩
  rw [List.length_drop] at hi
  obtain ⟨a, b, c, d⟩ := h4 (k + i) (by omega)
  unfold ChgOk
  rw [getD_drop, getD_drop]
  refine ⟨a, b, c, fun h0 => ?_⟩
  have := d (by omega)
  rwa [show k + (i - 1) = k + i - 1 from by omega]
/-- the changes of one zone before an instant, then those of another one from it on -/
def mixZ (fr : Int) (A B : List Chg) : List Chg := A.take (seg A (fr - 1)) ++ B.drop (seg B (fr - 1))
theorem mix_low (fr : Int) (A B : List Chg) (i : Nat) (h : i < seg A (fr - 1)) : (mixZ fr A B).getD i chg0 = A.getD i chg0 := by
  have := seg_le A (fr - 1)
  unfold mixZ
  rw [List.getD_eq_getElem?_getD, List.getElem?_append_left (by rw [List.length_take]; omega), ← List.getD_eq_getElem?_getD, getD_take _ _ _ h]
theorem mix_high (fr : Int) (A B : List Chg) (i : Nat) : (mixZ fr A B).getD (seg A (fr - 1) + i) chg0 = B.getD (seg B (fr - 1) + i) chg0 := by
  have := seg_le A (fr - 1)
  unfold mixZ
  rw [List.getD_eq_getElem?_getD, List.getElem?_append_right (by rw [List.length_take]; omega), List.length_take, show seg A (fr - 1) + i - min (seg A (fr - 1)) A.length = i from by omega, ← List.getD_eq_getElem?_getD, getD_drop]
theorem mix_len (fr : Int) (A B : List Chg) : (mixZ fr A B).length = seg A (fr - 1) + (B.length - seg B (fr - 1)) := by
  have := seg_le A (fr - 1)
  unfold mixZ
  rw [List.length_append, List.length_take, List.length_drop]
  omega
theorem late_ge (fr : Int) (B : List Chg) (hs : Sorted B) (i : Nat) (h1 : seg B (fr - 1) ≤ i) (h2 : i < B.length) : fr ≤ (B.getD i chg0).a := by
  rcases seg_after B (fr - 1) with e | e
  · omega
  · have := hs.le _ _ h1 h2
    omega
theorem mix_ok {nm : ByteArray} {f g : Int} {A B : List Chg} (fr : Int) (hA : ZoneOk nm f A) (hB : ZoneOk nm g B) (hl : (mixZ fr A B).length ≤ 200) : ZoneOk nm f (mixZ fr A B) := by
  have sA := hA.sorted
  have sB := hB.sorted
  obtain ⟨h1, h2, h3, h4⟩ := hA
  obtain ⟨_, _, k3, k4⟩ := hB
  have lA := seg_le A (fr - 1)
  have lB := seg_le B (fr - 1)
  have bA := seg_before A (fr - 1)
  refine ⟨h1, h2, hl, fun i hi => ?_⟩
  rw [mix_len] at hi
  unfold ChgOk
  rcases Nat.lt_or_ge i (seg A (fr - 1)) with hlt | hge
  · rw [mix_low fr A B i hlt]
    obtain ⟨a, b, c, d⟩ := h4 i (by omega)
    refine ⟨a, b, c, fun h0 => ?_⟩
    rw [mix_low fr A B (i - 1) (by omega)]
    exact d h0
  · obtain ⟨j, rfl⟩ : ∃ j, i = seg A (fr - 1) + j := ⟨i - seg A (fr - 1), by omega⟩
    rw [mix_high]
    obtain ⟨a, b, c, d⟩ := k4 (seg B (fr - 1) + j) (by omega)
    refine ⟨a, b, c, fun h0 => ?_⟩
    have hge := late_ge fr B sB (seg B (fr - 1) + j) (by omega) (by omega)
    by_cases hj : j = 0
    · subst hj
      have e := bA (seg A (fr - 1) - 1) (by omega)
      rw [show seg A (fr - 1) + 0 - 1 = seg A (fr - 1) - 1 from by omega, mix_low fr A B _ (by omega)]
      omega
    · rw [show seg A (fr - 1) + j - 1 = seg A (fr - 1) + (j - 1) from by omega, mix_high]
      have := d (by omega)
      rwa [show seg B (fr - 1) + j - 1 = seg B (fr - 1) + (j - 1) from by omega] at this
/-- the label of the i-th stretch -/
def labI (chs : List Chg) (i : Nat) : ByteArray := if i = 0 then ⟨#[]⟩ else (chs.getD (i - 1) chg0).l
/-- the label at an instant -/
def labAt (chs : List Chg) (t : Int) : ByteArray := labI chs (seg chs t)
/-- from the first change of the second zone on, the mixed zone is the second one -/
theorem mix_at {nm : ByteArray} {f g : Int} {A B : List Chg} (fr t : Int) (hA : ZoneOk nm f A) (hB : ZoneOk nm g B) (hl : (mixZ fr A B).length ≤ 200) (hk : seg B (fr - 1) < B.length) (ht : (B.getD (seg B (fr - 1)) chg0).a ≤ t) :
    offAt f (mixZ fr A B) t = offAt g B t ∧ labAt (mixZ fr A B) t = labAt B t := by
  have hM := (mix_ok fr hA hB hl).sorted
  have sB := hB.sorted
  have lA := seg_le A (fr - 1)
  have lB := seg_le B t
  have hin := inSeg_seg B t
  have h1 : seg B (fr - 1) < seg B t := by
    rcases seg_after B t with e | e
    · omega
    · refine Classical.byContradiction fun hn => ?_
      have := sB.le (seg B t) (seg B (fr - 1)) (by omega) hk
      omega
  have e : seg (mixZ fr A B) t = seg A (fr - 1) + (seg B t - seg B (fr - 1)) := by
    refine seg_eq hM _ (by rw [mix_len]; omega) t ⟨.inr ?_, ?_⟩
    · rw [show seg A (fr - 1) + (seg B t - seg B (fr - 1)) - 1 = seg A (fr - 1) + (seg B t - seg B (fr - 1) - 1) from by omega, mix_high, show seg B (fr - 1) + (seg B t - seg B (fr - 1) - 1) = seg B t - 1 from by omega]
      exact seg_before B t _ (by omega)
    · rcases hin.2 with h | h
      · left; rw [mix_len]; omega
      · right
        rw [mix_high, show seg B (fr - 1) + (seg B t - seg B (fr - 1)) = seg B t from by omega]
        exact h
  have e2 : (mixZ fr A B).getD (seg (mixZ fr A B) t - 1) chg0 = B.getD (seg B t - 1) chg0 := by
    rw [e, show seg A (fr - 1) + (seg B t - seg B (fr - 1)) - 1 = seg A (fr - 1) + (seg B t - seg B (fr - 1) - 1) from by omega, mix_high, show seg B (fr - 1) + (seg B t - seg B (fr - 1) - 1) = seg B t - 1 from by omega]
  unfold offAt labAt offI labI
  rw [if_neg (by omega), if_neg (by omega), if_neg (by omega), if_neg (by omega), e2]
  exact ⟨rfl, rfl⟩
end Go.Proofs.YtifhlmakacoicaaDoor
