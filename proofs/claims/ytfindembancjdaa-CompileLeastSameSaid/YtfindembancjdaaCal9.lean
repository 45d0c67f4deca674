/- The plain law of least cycles. -/
import Derived.Test.YtfindembancjdaaCal8
namespace Go.Proofs.Ytfindembancjdaa
open Go.RowKit
set_option linter.unusedVariables false

/-- is year i + 1 of a cycle a leap year -/
def fl (lp : List Int) (i : Nat) : Bool := decide ((i : Int) + 1 ∈ lp)
theorem per_iff (lp : List Int) (N n : Nat) (h1 : 1 ≤ n) : Per lp N n ↔ N % n = 0 ∧ ∀ i, i + n < N → fl lp (i + n) = fl lp i := by
  constructor
  · rintro ⟨h, e⟩
    refine ⟨h, fun i hi => ?_⟩
    have h2 := congrArg (fun l => l[i]?) e
    simp only [List.getElem?_drop, List.getElem?_take] at h2
    rw [if_pos (by omega), flagsL_get _ _ _ (by omega), flagsL_get _ _ _ (by omega)] at h2
    simp only [Option.some.injEq] at h2
    rw [show n + i = i + n from by omega] at h2
    exact h2
  · rintro ⟨h, e⟩
    refine ⟨h, List.ext_getElem? fun i => ?_⟩
    rw [List.getElem?_drop, List.getElem?_take]
    by_cases hi : i + n < N
    · rw [if_pos (by omega), flagsL_get _ _ _ (by omega), flagsL_get _ _ _ (by omega), show n + i = i + n from by omega]
      exact congrArg some (e i hi)
    · rw [List.getElem?_eq_none (by rw [flagsL_len]; omega)]
      split
      · omega
      · rfl
theorem per_mod {lp : List Int} {N n : Nat} (h1 : 1 ≤ n) (h : Per lp N n) : ∀ i, i < N → fl lp i = fl lp (i % n) := by
  have hp := ((per_iff lp N n h1).1 h).2
  intro i
  induction i using Nat.strongRecOn with
  | _ i ih =>
    intro hi
    by_cases hn : i < n
    · rw [Nat.mod_eq_of_lt hn]
    · have := hp (i - n) (by omega)
      rw [show i - n + n = i from by omega] at this
      rw [this, ih (i - n) (by omega) (by omega), Nat.mod_eq_sub_mod (show i ≥ n by omega)]
theorem fl_filter (lp : List Int) (n i : Nat) (h : i < n) : fl (lp.filter (fun y => decide (y ≤ (n : Int)))) i = fl lp i := by
  unfold fl
  have : (i : Int) + 1 ≤ (n : Int) := by omega
  simp [this]
/-- the least cycle of the least cycle is itself -/
theorem least_again {lp : List Int} {N n m : Nat} (h : IsLeast lp N n) (h' : IsLeast (lp.filter (fun y => decide (y ≤ (n : Int)))) n m) : m = n := by
  rcases Nat.lt_or_ge m n with hlt | hge
  · exfalso
    refine h.min m h'.n1 hlt ((per_iff lp N m h'.n1).2 ⟨?_, fun i hi => ?_⟩)
    · have a1 := Nat.dvd_of_mod_eq_zero h'.per.1
      have a2 := Nat.dvd_of_mod_eq_zero h.per.1
      exact Nat.mod_eq_zero_of_dvd (Nat.dvd_trans a1 a2)
    · have dm := Nat.dvd_of_mod_eq_zero h'.per.1
      have key : ∀ j, j < N → fl lp j = fl lp (j % m) := fun j hj => by
        have hj' : j % n < n := Nat.mod_lt _ (by have := h.n1; omega)
        rw [per_mod h.n1 h.per j hj, ← fl_filter lp n (j % n) hj', per_mod h'.n1 h'.per (j % n) hj', fl_filter lp n _ (Nat.lt_of_lt_of_le (Nat.mod_lt _ (by have := h'.n1; omega)) (by omega)), Nat.mod_mod_of_dvd j dm]
      rw [key (i + m) hi, key i (by omega), Nat.add_mod_right]
  · have := h'.n2; omega

theorem cnt_flags {l : List Int} (hd : l.Nodup) (h1 : ∀ y ∈ l, 1 ≤ y) (n : Nat) : cntL l ((n : Int) + 1) = (List.range n).countP (fl l) := by
  induction n with
  | zero => simpa using cnt_none 1 l h1
  | succ n ih =>
    rw [show (((n + 1 : Nat) : Int) + 1) = ((n : Int) + 1) + 1 from by omega, cnt_succ, ih, List.range_succ, List.countP_append]
    congr 1
    rw [List.Nodup.count hd]
    simp [fl]
theorem periodic_count (f : Nat → Bool) (n : Nat) : ∀ q, (∀ i, i < n * q → f i = f (i % n)) → (List.range (n * q)).countP f = (List.range n).countP f * q
  | 0, _ => by simp
  | q + 1, h => by
    have ih := periodic_count f n q (fun i hi => h i (by rw [Nat.mul_succ]; omega))
    rw [Nat.mul_succ, List.range_add, List.countP_append, ih, Nat.mul_succ]
    congr 1
    rw [List.countP_map]
    refine List.countP_congr fun i hi => ?_
    have hin := List.mem_range.1 hi
    simp only [Function.comp]
    rw [h (n * q + i) (by rw [Nat.mul_succ]; omega), Nat.mul_add_mod, Nat.mod_eq_of_lt hin]
theorem least_count {lp : List Int} {N n : Nat} (hi : Inc lp 1 N) (h : IsLeast lp N n) : lp.length = (lp.filter (fun y => decide (y ≤ (n : Int)))).length * (N / n) := by
  have hb : ∀ y ∈ lp, 1 ≤ y := fun y hy => (hi.mem y hy).1
  have e1 : lp.length = (List.range N).countP (fl lp) := by
    rw [← cnt_flags hi.nodup hb N, cnt_all _ _ (fun y hy => by have := (hi.mem y hy).2; omega)]
  have e2 : (lp.filter (fun y => decide (y ≤ (n : Int)))).length = (List.range n).countP (fl lp) := by
    rw [← cnt_flags hi.nodup hb n, ← List.countP_eq_length_filter]
    unfold cntL
    refine List.countP_congr fun y _ => ?_
    simp only [decide_eq_true_eq]
    omega
  have hN : n * (N / n) = N := Nat.mul_div_cancel' (Nat.dvd_of_mod_eq_zero h.per.1)
  have := periodic_count (fl lp) n (N / n) (fun i hi => per_mod h.n1 h.per i (by rw [← hN]; exact hi))
  rw [hN] at this
  rw [e1, e2, this]
/-- the leap years are the same -/
theorem least_leap {lp : List Int} {N n : Nat} (h : IsLeast lp N n) (y : Int) : decide ((y - 1) % (N : Int) + 1 ∈ lp) = decide ((y - 1) % (n : Int) + 1 ∈ lp.filter (fun z => decide (z ≤ (n : Int)))) := by
  have hn := h.n1
  have hnN := h.n2
  obtain ⟨q, hq⟩ := Nat.dvd_of_mod_eq_zero h.per.1
  have b1 := Int.emod_nonneg (y - 1) (show (N : Int) ≠ 0 by omega)
  have b2 := Int.emod_lt_of_pos (y - 1) (show (0 : Int) < (N : Int) by omega)
  have b3 := Int.emod_nonneg (y - 1) (show (n : Int) ≠ 0 by omega)
  have b4 := Int.emod_lt_of_pos (y - 1) (show (0 : Int) < (n : Int) by omega)
  have e : (y - 1) % (N : Int) % (n : Int) = (y - 1) % (n : Int) := Int.emod_emod_of_dvd _ (by rw [hq]; exact ⟨(q : Int), by simp⟩)
  obtain ⟨i, hi⟩ : ∃ i : Nat, (y - 1) % (N : Int) = i := ⟨((y - 1) % (N : Int)).toNat, by omega⟩
  obtain ⟨j, hj⟩ : ∃ j : Nat, (y - 1) % (n : Int) = j := ⟨((y - 1) % (n : Int)).toNat, by omega⟩
  rw [hi, hj] at e
  have hij : i % n = j := by omega
  rw [hi, hj]
  have k1 := per_mod h.n1 h.per i (by omega)
  rw [hij, ← fl_filter lp n j (by omega)] at k1
  exact k1
theorem inc_filter {lp : List Int} {N : Int} {n : Nat} (h : Inc lp 1 N) : Inc (lp.filter (fun y => decide (y ≤ (n : Int)))) 1 n := by
  refine inc_of (List.Pairwise.filter _ ?_) (fun x hx => ?_)
  · rw [List.pairwise_iff_getElem]
    intro i j hi hj hij
    have := h.lt' i j hij hj
    simpa [List.getD, List.getElem?_eq_getElem hi, List.getElem?_eq_getElem hj] using this
  · obtain ⟨h1, h2⟩ := List.mem_filter.1 hx
    have := (h.mem x h1).1
    simp at h2
    omega
/-- the calendar with the least cycle is valid -/
theorem least_ok {c d : Cal} {N n : Nat} (hN : c.cy = N) (ok : CalOk c) (h : IsLeast c.lp N n) (h1 : d.nm = c.nm) (h2 : d.ep = c.ep) (h3 : d.cy = n) (h4 : d.mo = c.mo) (h5 : d.lp = c.lp.filter (fun y => decide (y ≤ (n : Int)))) : CalOk d := by
  obtain ⟨a1, a2, a3, a4⟩ := ok.hd
  have := h.n1
  have := h.n2
  refine ⟨⟨by rw [h1]; exact a1, by rw [h2]; exact a2, by rw [h3]; omega, by rw [h3]; omega⟩, by rw [h4]; exact ok.mo, ?_⟩
  rw [h5, h3]
  exact inc_filter ok.lp
/-- the days of a cycle -/
theorem least_tot {c d : Cal} {N n : Nat} (hN : c.cy = N) (ok : CalOk c) (h : IsLeast c.lp N n) (h3 : d.cy = n) (h4 : d.mo = c.mo) (h5 : d.lp = c.lp.filter (fun y => decide (y ≤ (n : Int)))) : c.tot = d.tot * ((N / n : Nat) : Int) := by
  have hl := least_count (by have := ok.lp; rw [hN] at this; exact this) h
  rw [← h5] at hl
  have hNn : n * (N / n) = N := Nat.mul_div_cancel' (Nat.dvd_of_mod_eq_zero h.per.1)
  unfold Cal.tot
  rw [hN, h3, h4]
  generalize N / n = q at *
  generalize sumS c.mo = S
  generalize sumL c.mo = L
  rw [hl, ← hNn]
  generalize d.lp.length = p
  simp only [Int.natCast_mul, Int.add_mul, Int.sub_mul]
  rw [Int.mul_right_comm (n : Int) q S, Int.mul_right_comm (p : Int) q S, Int.mul_right_comm (p : Int) q L]
end Go.Proofs.Ytfindembancjdaa
