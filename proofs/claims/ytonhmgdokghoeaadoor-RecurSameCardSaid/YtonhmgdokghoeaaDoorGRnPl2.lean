/- RnPl2 -/
import Derived.Test.YtonhmgdokghoeaaDoorGRn1
/- The normal form has the same days and the same text (plain). -/
namespace Go.Proofs.YtonhmgdokghoeaaDoor
open Go Go.RowKit
set_option linter.unusedVariables false

theorem daysL_congr {fit fit' : Int → Bool} (K f : Int) : ∀ (n : Nat) (day c : Int), (∀ d, day ≤ d → d < day + n → fit d = fit' d) → daysL fit K f n day c = daysL fit' K f n day c
  | 0, _, _, _ => rfl
  | n + 1, day, c, h => by
    unfold daysL
    rw [h day (Int.le_refl _) (by omega), daysL_congr K f n (day + 1) (c + 1) (fun d h1 h2 => h d (by omega) (by omega)), daysL_congr K f n (day + 1) c (fun d h1 h2 => h d (by omega) (by omega))]
/-- the days that Days gives -/
noncomputable def dL (r : Rc) (a b : Int) : List Int := if crE r.fr a b = 0 then r.days a b else []
theorem crE_parts {fr a b : Int} (h : crE fr a b = 0) : (-4000000 ≤ a ∧ a ≤ 4000000) ∧ (-4000000 ≤ b ∧ b ≤ 4000000) ∧ a ≤ b ∧ b ≤ fr + 40000 ∧ b - a ≤ 3000 := by
  unfold crE at h
  by_cases c1 : ¬ (-4000000 ≤ a ∧ a ≤ 4000000) ∨ ¬ (-4000000 ≤ b ∧ b ≤ 4000000)
  · rw [if_pos c1] at h; omega
  rw [if_neg c1] at h
  by_cases c2 : b < a
  · rw [if_pos c2] at h; omega
  rw [if_neg c2] at h
  by_cases c3 : fr + 40000 < b ∨ 3000 < b - a
  · rw [if_pos c3] at h; omega
  omega
theorem norm_days {r n : Rc} {a b : Int} (ok : RcOk r) (h : NormOf r n (mmAt r.fr)) : dL n a b = dL r a b := by
  unfold dL
  rw [h.fr]
  by_cases hc : crE r.fr a b = 0
  case neg => rw [if_neg hc, if_neg hc]
  rw [if_pos hc, if_pos hc]
  obtain ⟨c1, c2, c3, c4, c5⟩ := crE_parts hc
  have f1 := ok.f1
  have t1 := ok.t1
  have hlow : n.low a = r.low a := by unfold Rc.low; rw [h.co, h.fr]
  have hnum : n.num a b = r.num a b := by unfold Rc.num; rw [h.ut, hlow]
  unfold Rc.days
  rw [hlow, hnum, h.co]
  apply daysL_congr
  intro d h1 h2
  have l1 : -4000000 ≤ r.low a := by unfold Rc.low; split <;> omega
  have l2 : d ≤ 4000000 := by unfold Rc.num at h2; omega
  unfold Rc.fit
  rw [h.fr]
  exact norm_fit ok (mmAt_spec f1.1 f1.2).2 (mmAt_spec (by omega) l2).2 h
theorem dL_len {r : Rc} (ok : RcOk r) (a b : Int) : (dL r a b).length ≤ 40001 := by
  unfold dL
  split
  · rename_i h
    exact days_len r ok a b (crE_parts h).2.2.2.1
  · simp
/-- what Days says, at once -/
def DaysV (r : Rc) (a b : Int) (w : World) (e : Ending) (w' : World) : Prop := Below w.heap.size w w' ∧ ∃ (A : Option Addr) (c : Nat), e = .returned (.tuple #[.slice A (dL r a b).length c, .int .i64 (crE r.fr a b)]) ∧ Row w' w'.heap.size A (ints (dL r a b))
theorem DaysQ.flat {r : Rc} {a b : Int} {w w' : World} {e : Ending} (h : DaysQ r a b w e w') : DaysV r a b w e w' := by
  obtain ⟨hb, ⟨h0, v, rfl, ho⟩ | ⟨h0, rfl⟩⟩ := h
  · have e1 : dL r a b = r.days a b := by unfold dL; rw [if_pos h0]
    obtain ⟨A, c, rfl, _, _⟩ := own_form ho
    exact ⟨hb, A, c, by rw [e1, h0], by rw [e1]; exact Row.of_own ho⟩
  · have e1 : dL r a b = [] := by unfold dL; rw [if_neg h0]
    exact ⟨hb, none, 0, by rw [e1]; rfl, by rw [e1]; exact .inl rfl⟩
/-- the text depends on the contents alone -/
theorem rcP_same {n n' : Rc} (h : n'.un = n.un ∧ n'.ev = n.ev ∧ n'.fr = n.fr ∧ n'.co = n.co ∧ n'.ut = n.ut ∧ n'.wd = n.wd ∧ n'.md = n.md ∧ n'.mo = n.mo) : ∀ k, rcP n' k = rcP n k := by
  obtain ⟨a1, a2, a3, a4, a5, a6, a7, a8, A1, c1, A2, c2, A3, c3⟩ := n
  obtain ⟨b1, b2, b3, b4, b5, b6, b7, b8, B1, d1, B2, d2, B3, d3⟩ := n'
  obtain ⟨h1, h2, h3, h4, h5, h6, h7, h8⟩ := h
  simp only at h1 h2 h3 h4 h5 h6 h7 h8
  subst h1 h2 h3 h4 h5 h6 h7 h8
  intro k
  induction k with
  | zero => rfl
  | succ k ih =>
    rw [rcP, rcP, ih]
    rfl
/-- every day from 1 to 9 -/
def day9 : Rc := ⟨1, 1, 1, 0, 9, [], [], [], none, 0, none, 0, none, 0⟩
theorem day9_in (w : World) : RcIn w day9 := ⟨.inl rfl, .inl rfl, .inl rfl⟩
theorem day9_fit : RcFit day9 := by constructor <;> (simp [day9, maxLen])
theorem day9_ok : RcOk day9 := by
  constructor <;> first | exact listOk_nil _ _ _ | (simp [day9])
theorem day9_fits (day : Int) (h1 : -4000000 ≤ day) (h2 : day ≤ 4000000) : day9.fit day = true := by
  have e1 := (mmAt_spec h1 h2).1
  have e2 := (mmAt_spec (day := 1) (by omega) (by omega)).1
  unfold Rc.fit fitB
  rw [show day9.fr = 1 from rfl]
  simp [day9, lisB, Mm.un, e1, e2]
theorem day9_days : (dL day9 1 3).length = 3 := by
  have h0 : crE day9.fr 1 3 = 0 := by decide
  have h1 : day9.num 1 3 = 3 := by decide
  have h2 : day9.low 1 = 1 := by decide
  unfold dL
  rw [if_pos h0]
  unfold Rc.days
  rw [h1, h2, show day9.co = 0 from rfl]
  simp [daysL, day9_fits]
end Go.Proofs.YtonhmgdokghoeaaDoor
