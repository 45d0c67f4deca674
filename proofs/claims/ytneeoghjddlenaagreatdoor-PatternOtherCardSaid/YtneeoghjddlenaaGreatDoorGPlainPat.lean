/- PlainPat -/
import Derived.Test.YtneeoghjddlenaaGreatDoorGPlainItoa
/- Dates as text: year, month and day with '-' between them are read back in one way. -/
namespace Go.Proofs.YtneeoghjddlenaaGreatDoor
open Go.Lib
set_option linter.unusedVariables false

theorem itoa_pos_no (n : Int) (h : 0 ≤ n) : ∀ b ∈ itoa n, b ≠ 45 := by
  intro b hb e
  unfold itoa at hb
  rw [if_neg (by omega)] at hb
  have := dec_digit _ b hb
  subst e
  simp at this
theorem itoa_inj {a b : Int} (h : itoa a = itoa b) : a = b := by
  have h1 := atoi_itoa a
  rw [h, atoi_itoa b] at h1
  injection h1 with h1
  exact h1.symm
theorem pat_tl_inj {s t : List UInt8} (h : (⟨s.toArray⟩ : ByteArray).toList = (⟨t.toArray⟩ : ByteArray).toList) : s = t := by
  rw [toList_data, toList_data] at h
  simpa using h
/-- the last sign splits a text in one way -/
theorem last_split (c : UInt8) (l1 l2 r1 r2 : List UInt8) (h1 : ∀ b ∈ r1, b ≠ c) (h2 : ∀ b ∈ r2, b ≠ c) (h : l1 ++ c :: r1 = l2 ++ c :: r2) : l1 = l2 ∧ r1 = r2 := by
  have e := congrArg List.reverse h
  rw [List.reverse_append, List.reverse_append, List.reverse_cons, List.reverse_cons, List.append_assoc, List.append_assoc, List.singleton_append, List.singleton_append] at e
  have q1 := cut_at c r1.reverse l1.reverse (fun b hb => h1 b (List.mem_reverse.1 hb))
  have q2 := cut_at c r2.reverse l2.reverse (fun b hb => h2 b (List.mem_reverse.1 hb))
  rw [e, q2] at q1
  simp only [Prod.mk.injEq, List.reverse_inj] at q1
  exact ⟨q1.2.1.symm, q1.1.symm⟩
/-- year, month and day -/
def ymdT (y : Int) (m : Nat) (d : Int) : List UInt8 := (itoa y ++ 45 :: itoa ((m : Int) + 1)) ++ 45 :: itoa (d + 1)
theorem ymd_inj {y y' : Int} {m m' : Nat} {d d' : Int} (h1 : 0 ≤ d) (h2 : 0 ≤ d') (h : ymdT y m d = ymdT y' m' d') : y = y' ∧ m = m' ∧ d = d' := by
  unfold ymdT at h
  obtain ⟨e1, e2⟩ := last_split 45 _ _ _ _ (itoa_pos_no _ (by omega)) (itoa_pos_no _ (by omega)) h
  obtain ⟨e3, e4⟩ := last_split 45 _ _ _ _ (itoa_pos_no _ (by omega)) (itoa_pos_no _ (by omega)) e1
  have a := itoa_inj e2
  have b := itoa_inj e3
  have c := itoa_inj e4
  exact ⟨b, by omega, by omega⟩
end Go.Proofs.YtneeoghjddlenaaGreatDoor
