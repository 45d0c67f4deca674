/- Plain arithmetic of cycles, no program in sight. -/
import Derived.Test.YtdbnnhfgohabdaaPlainNum
import Derived.Test.YtdbnnhfgohabdaaPlainFrac
namespace Go.Proofs.Ytdbnnhfgohabdaa
set_option linter.unusedVariables false
theorem meetL_facts (m n : Int) (hm : 1 ≤ m) (hn : 1 ≤ n) : 1 ≤ meetL m n ∧ meetL m n ≤ m * n ∧ m ≤ meetL m n ∧ m ∣ meetL m n ∧ n ∣ meetL m n ∧ ∀ M : Int, m ∣ M → n ∣ M → meetL m n ∣ M := by
  obtain ⟨g1, _, _, d1, d2, hc⟩ := gcd_facts m n hm hn
  obtain ⟨k1, k2, k3⟩ := quot_facts n _ g1 hn d2
  obtain ⟨m1, m2, m3⟩ := quot_facts m _ g1 hm d1
  unfold meetL
  generalize (Int.gcd m n : Int) = g at *
  generalize n / g = k at *
  generalize hm' : m / g = m' at *
  have p1 : m ≤ m * k := by have := Int.mul_le_mul_of_nonneg_left k1 (show 0 ≤ m by omega); omega
  have p2 : m * k ≤ m * n := Int.mul_le_mul_of_nonneg_left k2 (by omega)
  refine ⟨by omega, p2, p1, Int.dvd_mul_right m k, ?_, ?_⟩
  · rw [m3, k3]; exact ⟨m', by rw [Int.mul_assoc, Int.mul_comm m' k, Int.mul_assoc]⟩
  · intro M h1 h2
    obtain ⟨t, rfl⟩ := h1
    rw [k3, m3, Int.mul_assoc] at h2
    have h3 := (Int.mul_dvd_mul_iff_left (show g ≠ 0 by omega)).1 h2
    have h4 := dvd_of_coprime k m' t hc h3
    exact Int.mul_dvd_mul_left m h4
/-- the running least common multiple -/
def lcmR (acc : Int) : List Int → Int
  | [] => acc
  | n :: r => lcmR (meetL acc n) r
theorem lcmR_facts : ∀ (l : List Int) (acc : Int), 1 ≤ acc → (∀ n ∈ l, 1 ≤ n) → acc ≤ lcmR acc l ∧ acc ∣ lcmR acc l ∧ (∀ n ∈ l, n ∣ lcmR acc l) ∧ ∀ M : Int, acc ∣ M → (∀ n ∈ l, n ∣ M) → lcmR acc l ∣ M := by
  intro l
  induction l with
  | nil => intro acc h _; exact ⟨Int.le_refl _, Int.dvd_refl _, (fun n h => by cases h), fun M h _ => h⟩
  | cons n r ih =>
    intro acc h hl
    have hn := hl n (List.mem_cons_self ..)
    obtain ⟨a1, a2, a3, a4, a5, a6⟩ := meetL_facts acc n h hn
    obtain ⟨b1, b2, b3, b4⟩ := ih (meetL acc n) a1 (fun x hx => hl x (List.mem_cons_of_mem _ hx))
    refine ⟨by show acc ≤ lcmR (meetL acc n) r; omega, Int.dvd_trans a4 b2, fun x hx => ?_, fun M h1 h2 => ?_⟩
    · cases List.mem_cons.1 hx with
      | inl e => subst e; exact Int.dvd_trans a5 b2
      | inr e => exact b3 x e
    · exact b4 M (a6 M h1 (h2 n (List.mem_cons_self ..))) (fun x hx => h2 x (List.mem_cons_of_mem _ hx))
theorem lcmR_snoc (l : List Int) (acc n : Int) : lcmR acc (l ++ [n]) = meetL (lcmR acc l) n := by
  induction l generalizing acc with
  | nil => rfl
  | cons x r ih => exact ih _
theorem lcmR_append (l r : List Int) (acc : Int) : lcmR acc (l ++ r) = lcmR (lcmR acc l) r := by
  induction l generalizing acc with
  | nil => rfl
  | cons x l ih => exact ih _
theorem take_snoc_get (l : List Int) (k : Nat) (h : k < l.length) : l.take (k + 1) = l.take k ++ [l.getD k 0] := by
  rw [List.take_succ_eq_append_getElem h]; simp [List.getD, List.getElem?_eq_getElem h]
theorem getD_mem (l : List Int) (k : Nat) (h : k < l.length) : l.getD k 0 ∈ l := by
  simp [List.getD, List.getElem?_eq_getElem h]
theorem mem_getD (l : List Int) (x : Int) (h : x ∈ l) : ∃ k, k < l.length ∧ l.getD k 0 = x := by
  obtain ⟨k, hk, e⟩ := List.getElem_of_mem h
  exact ⟨k, hk, by simp [List.getD, List.getElem?_eq_getElem hk, e]⟩
/-- the check of one cycle -/
def cycAt (n o : Int) : Bool := decide (1 ≤ n ∧ n ≤ 1000 ∧ 0 ≤ o ∧ o < n)
/-- the set of cycles is valid -/
def CycOk (Ls Os : List Int) : Prop := 1 ≤ Ls.length ∧ Ls.length ≤ 8 ∧ Os.length = Ls.length ∧ ∀ i, i < Ls.length → cycAt (Ls.getD i 0) (Os.getD i 0) = true
theorem CycOk.at_ {Ls Os : List Int} (h : CycOk Ls Os) (i : Nat) (hi : i < Ls.length) : 1 ≤ Ls.getD i 0 ∧ Ls.getD i 0 ≤ 1000 ∧ 0 ≤ Os.getD i 0 ∧ Os.getD i 0 < Ls.getD i 0 := by
  have := h.2.2.2 i hi
  simpa [cycAt] using this
theorem CycOk.pos {Ls Os : List Int} (h : CycOk Ls Os) : ∀ n ∈ Ls, 1 ≤ n := fun n hn => by
  obtain ⟨k, hk, rfl⟩ := mem_getD Ls n hn
  exact (h.at_ k hk).1
/-- places of a day -/
def places (Ls Os : List Int) (D : Int) : List Int := (List.range Ls.length).map fun i => (D + Os.getD i 0) % Ls.getD i 0
theorem places_length (Ls Os : List Int) (D : Int) : (places Ls Os D).length = Ls.length := by simp [places]
theorem places_get (Ls Os : List Int) (D : Int) (i : Nat) (h : i < Ls.length) : (places Ls Os D).getD i 0 = (D + Os.getD i 0) % Ls.getD i 0 := by
  simp [places, List.getD, h]
theorem places_snoc (Ls Os : List Int) (D : Int) (k : Nat) (h : k < Ls.length) : (places Ls Os D).take (k + 1) = (places Ls Os D).take k ++ [(D + Os.getD k 0) % Ls.getD k 0] := by
  rw [take_snoc_get _ _ (by rw [places_length]; exact h), places_get _ _ _ _ h]
theorem mod_same_iff (a s n : Int) (hn : 1 ≤ n) : (a + s) % n = a % n ↔ n ∣ s := by
  constructor
  · intro h
    have h1 := dvd_sub_emod n (a + s)
    have h2 := dvd_sub_emod n a
    rw [h] at h1
    have := Int.dvd_sub h1 h2
    rwa [show a + s - a % n - (a - a % n) = s from by omega] at this
  · rintro ⟨k, rfl⟩
    rw [Int.add_mul_emod_self_left]
theorem place_back (D y x : Int) (hx : 1 ≤ x) : ((D + y) % x - y) % x = D % x := by
  have h1 := dvd_sub_emod x (D + y)
  obtain ⟨k, hk⟩ := h1
  have e : (D + y) % x - y = D + x * (-k) := by rw [Int.mul_neg]; omega
  rw [e, Int.add_mul_emod_self_left]
theorem emod_unique (D m v : Int) (h0 : 0 ≤ v) (h1 : v < m) (h : m ∣ v - D) : v = D % m := by
  have h2 := Int.emod_nonneg D (show m ≠ 0 by omega)
  have h3 := Int.emod_lt_of_pos D (show 0 < m by omega)
  have := dvd_of_small m (v - D % m) (by
    have e : v - D % m = (v - D) + (D - D % m) := by omega
    rw [e]; exact Int.dvd_add h (dvd_sub_emod m D)) (by omega) (by omega)
  omega
theorem meet_day (D s x : Int) (hs : 1 ≤ s) (hx : 1 ≤ x) : (Int.gcd s x : Int) ∣ D % x - D % s ∧ meetV (D % s) s (D % x) x = D % meetL s x := by
  obtain ⟨g1, _, _, d1, d2, hc⟩ := gcd_facts s x hs hx
  have e1 := Int.dvd_trans d2 (dvd_sub_emod x D)
  have e2 := Int.dvd_trans d1 (dvd_sub_emod s D)
  have hd : (Int.gcd s x : Int) ∣ D % x - D % s := by
    have := Int.dvd_sub e2 e1
    rwa [show D - D % s - (D - D % x) = D % x - D % s from by omega] at this
  refine ⟨hd, ?_⟩
  obtain ⟨v1, v2, v3, v4⟩ := meetV_ok (D % s) s (D % x) x hs hx hd
  apply emod_unique _ _ _ v1 v2
  apply (meetL_facts s x hs hx).2.2.2.2.2
  · have := Int.dvd_sub v3 (dvd_sub_emod s D)
    rwa [show meetV (D % s) s (D % x) x - D % s - (D - D % s) = meetV (D % s) s (D % x) x - D from by omega] at this
  · have := Int.dvd_sub v4 (dvd_sub_emod x D)
    rwa [show meetV (D % s) s (D % x) x - D % x - (D - D % x) = meetV (D % s) s (D % x) x - D from by omega] at this
end Go.Proofs.Ytdbnnhfgohabdaa
