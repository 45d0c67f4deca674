/- Plain law of the rooms: the first free time, sorted bookings. -/
import Derived.Test.YtfindembancjdaaRoom4
namespace Go.Proofs.Ytfindembancjdaa
set_option linter.unusedVariables false

def stepF (len a : Int) (b : Bk) : Int := if b.fr < a + len ∧ a < b.to then b.to else a
def findAt (len a : Int) (l : List Bk) : Int := l.foldl (stepF len) a
theorem findAt_snoc (len a : Int) (l : List Bk) (b : Bk) : findAt len a (l ++ [b]) = stepF len (findAt len a l) b := by simp [findAt]
/-- the round of the rooms -/
def bestF (len fr tt : Int) (s : Int × Int) (k : Nat) (l : List Bk) : Int × Int := if findAt len fr l + len ≤ tt ∧ (s.1 < 0 ∨ findAt len fr l < s.2) then ((k : Int), findAt len fr l) else s
def bestOf (len fr tt : Int) (ls : List (List Bk)) : Nat → Int × Int
  | 0 => (-1, 0)
  | k + 1 => bestF len fr tt (bestOf len fr tt ls k) k (ls.getD k [])

/-- bookings in order, none over another -/
def Apart : List Bk → Prop
  | [] => True
  | b :: l => b.fr < b.to ∧ (∀ x ∈ l, b.to ≤ x.fr) ∧ Apart l
theorem Apart.mem {l : List Bk} (h : Apart l) : ∀ b ∈ l, b.fr < b.to := by
  induction l with
  | nil => intro b hb; cases hb
  | cons x l ih =>
    intro b hb
    rcases List.mem_cons.1 hb with rfl | hb
    · exact h.1
    · exact ih h.2.2 b hb
theorem mem_insB {b x : Bk} {l : List Bk} : x ∈ insB b l ↔ x = b ∨ x ∈ l := by
  induction l with
  | nil => simp [insB]
  | cons y l ih =>
    unfold insB
    split
    · simp only [List.mem_cons, ih]
      constructor
      · rintro (h | h | h)
        · exact .inr (.inl h)
        · exact .inl h
        · exact .inr (.inr h)
      · rintro (h | h | h)
        · exact .inr (.inl h)
        · exact .inl h
        · exact .inr (.inr h)
    · simp
theorem over_no {b : Bk} {fr tt : Int} (h : b.over fr tt = false) : tt ≤ b.fr ∨ b.to ≤ fr := by
  unfold Bk.over at h
  by_cases h1 : b.fr < tt
  · by_cases h2 : fr < b.to
    · simp [h1, h2] at h
    · omega
  · omega
theorem Apart.insB {b : Bk} {l : List Bk} (h : Apart l) (hb : b.fr < b.to) (hno : l.any (fun x => x.over b.fr b.to) = false) : Apart (insB b l) := by
  induction l with
  | nil => exact ⟨hb, (fun x hx => by cases hx), trivial⟩
  | cons y l ih =>
    obtain ⟨h1, h2, h3⟩ := h
    simp only [List.any_cons, Bool.or_eq_false_iff] at hno
    have hy := over_no hno.1
    unfold Go.Proofs.Ytfindembancjdaa.insB
    split
    · rename_i hlt
      refine ⟨h1, fun x hx => ?_, ih h3 hno.2⟩
      rcases mem_insB.1 hx with rfl | hx
      · omega
      · exact h2 x hx
    · rename_i hlt
      refine ⟨hb, fun x hx => ?_, h1, h2, h3⟩
      rcases List.mem_cons.1 hx with rfl | hx
      · omega
      · have := h2 x hx; omega

/-- a time is free -/
def FreeAt (l : List Bk) (t len : Int) : Prop := ∀ x ∈ l, ¬ (x.fr < t + len ∧ t < x.to)
theorem free_any {l : List Bk} {t len : Int} (h : FreeAt l t len) : l.any (fun x => x.over t (t + len)) = false := by
  rw [List.any_eq_false]
  intro x hx
  have := h x hx
  unfold Bk.over
  simp only [Bool.and_eq_true, decide_eq_true_eq]
  exact this
/-- what findAt gives is free, not before a, and no earlier time from a on is free -/
theorem findAt_spec {len : Int} (hlen : 0 < len) : ∀ (l : List Bk) (a : Int), Apart l → a ≤ findAt len a l ∧ FreeAt l (findAt len a l) len ∧ ∀ t, a ≤ t → FreeAt l t len → findAt len a l ≤ t
  | [], a, _ => ⟨Int.le_refl _, (fun x hx => by cases hx), fun t ht _ => ht⟩
  | b :: l, a, h => by
    obtain ⟨h1, h2, h3⟩ := h
    have hs : findAt len a (b :: l) = findAt len (stepF len a b) l := rfl
    rw [hs]
    obtain ⟨i1, i2, i3⟩ := findAt_spec hlen l (stepF len a b) h3
    have hge : a ≤ stepF len a b := by unfold stepF; split <;> omega
    refine ⟨by omega, fun x hx => ?_, fun t ht hf => ?_⟩
    · rcases List.mem_cons.1 hx with rfl | hx
      · rintro ⟨e1, e2⟩
        by_cases hc : x.fr < a + len ∧ a < x.to
        · have : stepF len a x = x.to := by unfold stepF; rw [if_pos hc]
          omega
        · have he : stepF len a x = a := by unfold stepF; rw [if_neg hc]
          rw [he] at i1 i2 i3 e1 e2
          by_cases hz : a < x.to
          · have hlo : a + len ≤ x.fr := by omega
            -- a itself is free of the later ones
            have : findAt len a l ≤ a := i3 a (Int.le_refl _) (fun y hy => by have := h2 y hy; omega)
            rw [he] at *
            omega
          · rw [he] at *
            omega
      · exact i2 x hx
    · refine i3 t ?_ (fun x hx => hf x (List.mem_cons_of_mem _ hx))
      have := hf b (List.mem_cons_self ..)
      unfold stepF
      split <;> omega

def BestI (len fr tt : Int) (ls : List (List Bk)) (k : Nat) (s : Int × Int) : Prop :=
  (s.1 = -1 ∧ ∀ j, j < k → ¬ findAt len fr (ls.getD j []) + len ≤ tt) ∨ (∃ m : Nat, m < k ∧ s.1 = (m : Int) ∧ s.2 = findAt len fr (ls.getD m []) ∧ findAt len fr (ls.getD m []) + len ≤ tt ∧ ∀ j, j < k → findAt len fr (ls.getD j []) + len ≤ tt → findAt len fr (ls.getD m []) ≤ findAt len fr (ls.getD j []))
theorem bestOf_spec (len fr tt : Int) (ls : List (List Bk)) : ∀ k, BestI len fr tt ls k (bestOf len fr tt ls k)
  | 0 => .inl ⟨rfl, fun j hj => by omega⟩
  | k + 1 => by
    have ih := bestOf_spec len fr tt ls k
    show BestI len fr tt ls (k + 1) (bestF len fr tt (bestOf len fr tt ls k) k (ls.getD k []))
    generalize bestOf len fr tt ls k = s at *
    unfold bestF
    by_cases hc : findAt len fr (ls.getD k []) + len ≤ tt ∧ (s.1 < 0 ∨ findAt len fr (ls.getD k []) < s.2)
    · rw [if_pos hc]
      refine .inr ⟨k, by omega, rfl, rfl, hc.1, fun j hj hj' => ?_⟩
      by_cases e : j = k
      · subst e; exact Int.le_refl _
      · rcases ih with ⟨h1, h2⟩ | ⟨m, h1, h2, h3, h4, h5⟩
        · exact absurd hj' (h2 j (by omega))
        · have := h5 j (by omega) hj'
          rcases hc.2 with hh | hh <;> omega
    · rw [if_neg hc]
      rcases ih with ⟨h1, h2⟩ | ⟨m, h1, h2, h3, h4, h5⟩
      · refine .inl ⟨h1, fun j hj hj' => ?_⟩
        by_cases e : j = k
        · subst e; exact hc ⟨hj', .inl (by omega)⟩
        · exact h2 j (by omega) hj'
      · refine .inr ⟨m, by omega, h2, h3, h4, fun j hj hj' => ?_⟩
        by_cases e : j = k
        · subst e
          by_cases hlt : findAt len fr (ls.getD j []) < s.2
          · exact absurd ⟨hj', .inr hlt⟩ hc
          · omega
        · exact h5 j (by omega) hj'

/-- the next one that is found after a booking -/
theorem best_later {len fr tt : Int} (hlen : 0 < len) {ls : List (List Bk)} {n m m' : Nat} (hl : ls.length = n) (hA : ∀ k, Apart (ls.getD k [])) {b : Bk} (hm : m < n) (hm' : m' < n)
    (hb : b.fr = findAt len fr (ls.getD m [])) (hbt : b.to = b.fr + len)
    (h1 : ∀ j, j < n → findAt len fr (ls.getD j []) + len ≤ tt → findAt len fr (ls.getD m []) ≤ findAt len fr (ls.getD j []))
    (h2 : findAt len fr ((ls.set m (insB b (ls.getD m []))).getD m' []) + len ≤ tt) :
    b.fr < findAt len fr ((ls.set m (insB b (ls.getD m []))).getD m' []) ∨ findAt len fr ((ls.set m (insB b (ls.getD m []))).getD m' []) = b.fr ∧ m' ≠ m := by
  by_cases e : m = m'
  · subst e
    rw [getD_set_eq (by omega)] at h2 ⊢
    obtain ⟨s1, s2, s3⟩ := findAt_spec hlen (ls.getD m []) fr (hA m)
    have hfree : (ls.getD m []).any (fun x => x.over b.fr b.to) = false := by rw [hbt, hb]; exact free_any s2
    obtain ⟨t1, t2, t3⟩ := findAt_spec hlen (insB b (ls.getD m [])) fr ((hA m).insB (by omega) hfree)
    have g1 := s3 _ t1 (fun x hx => t2 x (mem_insB.2 (.inr hx)))
    have g2 := t2 b (mem_insB.2 (.inl rfl))
    left
    omega
  · rw [getD_set_other e] at h2 ⊢
    have := h1 m' hm' h2
    omega
/-- where one may book -/
theorem findAt_le {len lo hi : Int} : ∀ (l : List Bk) (a : Int), lo ≤ a → a ≤ hi → (∀ b ∈ l, lo ≤ b.to ∧ b.to ≤ hi) → lo ≤ findAt len a l ∧ findAt len a l ≤ hi
  | [], a, h1, h2, _ => ⟨h1, h2⟩
  | b :: l, a, h1, h2, h => by
    have hb := h b (List.mem_cons_self ..)
    refine findAt_le l (stepF len a b) ?_ ?_ fun x hx => h x (List.mem_cons_of_mem _ hx)
    · unfold stepF; split <;> omega
    · unfold stepF; split <;> omega
end Go.Proofs.Ytfindembancjdaa
