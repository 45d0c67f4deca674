/- PlainMoon -/
/- The plain arithmetic of package lunisolar: no program in sight. -/
namespace Go.Proofs.YtcommodbjjdbmaaGreatDoor
set_option linter.unusedVariables false

/-- numbers of a range in increasing order -/
def Inc (l : List Int) (lo hi : Int) : Prop := ∀ i, i < l.length → (lo ≤ l.getD i 0 ∧ l.getD i 0 ≤ hi) ∧ (0 < i → l.getD (i - 1) 0 < l.getD i 0)
theorem Inc.lt {l : List Int} {lo hi : Int} (h : Inc l lo hi) : ∀ (d a : Nat), a + d + 1 < l.length → l.getD a 0 < l.getD (a + d + 1) 0 := by
  intro d
  induction d with
  | zero => intro a ha; exact (h (a + 1) ha).2 (by omega)
  | succ d ih =>
    intro a ha
    have h1 := ih a (by omega)
    have h2 := (h (a + (d + 1) + 1) ha).2 (by omega)
    have e : a + (d + 1) + 1 - 1 = a + d + 1 := by omega
    rw [e] at h2
    omega
theorem Inc.lt' {l : List Int} {lo hi : Int} (h : Inc l lo hi) (a b : Nat) (hab : a < b) (hb : b < l.length) : l.getD a 0 < l.getD b 0 := by
  have := h.lt (b - a - 1) a (by omega)
  rwa [show a + (b - a - 1) + 1 = b from by omega] at this
theorem Inc.le {l : List Int} {lo hi : Int} (h : Inc l lo hi) (a b : Nat) (hab : a ≤ b) (hb : b < l.length) : l.getD a 0 ≤ l.getD b 0 := by
  by_cases e : a = b
  · subst e; omega
  · have := h.lt' a b (by omega) hb
    omega
theorem Inc.mem {l : List Int} {lo hi : Int} (h : Inc l lo hi) (x : Int) (hx : x ∈ l) : lo ≤ x ∧ x ≤ hi := by
  obtain ⟨i, hi', e⟩ := List.getElem_of_mem hx
  have := (h i hi').1
  simpa [List.getD, List.getElem?_eq_getElem hi', e] using this
theorem Inc.from {l : List Int} {lo hi : Int} (h : Inc l lo hi) : ∀ i : Nat, i < l.length → lo + i ≤ l.getD i 0 := by
  intro i
  induction i with
  | zero => intro hi; have := (h 0 hi).1; omega
  | succ i ih => intro hi; have := ih (by omega); have h2 := (h (i + 1) hi).2 (by omega); rw [Nat.add_sub_cancel] at h2; omega
theorem Inc.len {l : List Int} {lo hi : Int} (h : Inc l lo hi) (hlh : lo ≤ hi + 1) : (l.length : Int) ≤ hi - lo + 1 := by
  rcases Nat.eq_zero_or_pos l.length with e | e
  · omega
  · have h1 := h.from (l.length - 1) (by omega)
    have h2 := (h (l.length - 1) (by omega)).1
    omega
theorem Inc.nodup {l : List Int} {lo hi : Int} (h : Inc l lo hi) : l.Nodup := by
  refine List.pairwise_iff_getElem.2 fun i j hi hj hij => ?_
  have := h.lt' i j hij hj
  simp [List.getD, List.getElem?_eq_getElem hi, List.getElem?_eq_getElem hj] at this
  omega

/-- how many numbers are less than x -/
def cntL (l : List Int) (x : Int) : Nat := l.countP (fun y => decide (y < x))
theorem cnt_of (x : Int) : ∀ (l : List Int) (k : Nat), k ≤ l.length → (∀ t, t < k → l.getD t 0 < x) → (∀ t, k ≤ t → t < l.length → x ≤ l.getD t 0) → cntL l x = k := by
  intro l
  induction l with
  | nil => intro k hk _ _; have : k = 0 := by simpa using hk
           subst this; rfl
  | cons a r ih =>
    intro k hk h1 h2
    unfold cntL at ih ⊢
    rw [List.countP_cons]
    cases k with
    | zero =>
      have ha := h2 0 (by omega) (by simp)
      rw [ih 0 (by omega) (fun t ht => by omega) (fun t h3 h4 => by have := h2 (t + 1) (by omega) (by simp; omega); simpa using this)]
      simp at ha
      simp; omega
    | succ k =>
      have ha := h1 0 (by omega)
      rw [ih k (by simpa using hk) (fun t ht => by have := h1 (t + 1) (by omega); simpa using this) (fun t h3 h4 => by have := h2 (t + 1) (by omega) (by simp; omega); simpa using this)]
      simp at ha
      simp [ha]
theorem cnt_succ (x : Int) (l : List Int) : cntL l (x + 1) = cntL l x + l.count x := by
  unfold cntL
  induction l with
  | nil => rfl
  | cons a r ih =>
    rw [List.countP_cons, List.countP_cons, List.count_cons, ih]
    by_cases h1 : a < x
    · have h2 : a < x + 1 := by omega
      have h3 : ¬ a = x := by omega
      simp [h1, h2, h3]; omega
    · by_cases h3 : a = x
      · subst h3
        simp [show a < a + 1 from by omega]; omega
      · have h2 : ¬ a < x + 1 := by omega
        simp [h1, h2, h3]
theorem cnt_all (x : Int) (l : List Int) (h : ∀ y ∈ l, y < x) : cntL l x = l.length := by
  unfold cntL
  exact List.countP_eq_length.2 fun y hy => decide_eq_true (h y hy)
theorem cnt_none (x : Int) (l : List Int) (h : ∀ y ∈ l, x ≤ y) : cntL l x = 0 := by
  unfold cntL
  refine List.countP_eq_zero.2 fun y hy => ?_
  have := h y hy
  simp; omega
theorem cnt_le (x : Int) (l : List Int) : cntL l x ≤ l.length := List.countP_le_length

/-- the number of months before a year -/
def Bf (cy : Int) (lp : List Int) (y : Int) : Int := 12 * (y - 1) + (y - 1) / cy * lp.length + cntL lp ((y - 1) % cy + 1)
theorem Bf_step {cy : Int} {lp : List Int} (h : Inc lp 1 cy) (hc : 1 ≤ cy) (y : Int) : 12 ≤ Bf cy lp (y + 1) - Bf cy lp y ∧ Bf cy lp (y + 1) - Bf cy lp y ≤ 13 := by
  have hr0 := Int.emod_nonneg (y - 1) (show cy ≠ 0 by omega)
  have hr1 := Int.emod_lt_of_pos (y - 1) (show 0 < cy by omega)
  have he := Int.mul_ediv_add_emod (y - 1) cy
  have hcount : ∀ x, lp.count x ≤ 1 := fun x => List.nodup_iff_count.1 h.nodup x
  unfold Bf
  rw [show y + 1 - 1 = (y - 1) + 1 from by omega]
  generalize y - 1 = z at *
  generalize hq : z / cy = q at *
  generalize hrr : z % cy = r at *
  by_cases hw : r + 1 < cy
  · have h1 : (z + 1) / cy = q ∧ (z + 1) % cy = r + 1 := (Int.ediv_emod_unique (by omega)).2 ⟨by omega, by omega, hw⟩
    rw [h1.1, h1.2, cnt_succ]
    have := hcount (r + 1)
    omega
  · have h1 : (z + 1) / cy = q + 1 ∧ (z + 1) % cy = 0 := (Int.ediv_emod_unique (by omega)).2 ⟨by rw [Int.mul_add]; omega, by omega, by omega⟩
    rw [h1.1, h1.2, Int.add_mul, cnt_none (0 + 1) lp (fun x hx => by have := (h.mem x hx).1; omega), show r + 1 = cy from by omega]
    have h2 := cnt_all (cy + 1) lp (fun x hx => by have := (h.mem x hx).2; omega)
    rw [cnt_succ] at h2
    have := hcount cy
    omega
theorem Bf_bound {cy : Int} {lp : List Int} (h : Inc lp 1 cy) (hc : 1 ≤ cy) (hc2 : cy ≤ 100) (y : Int) (h1 : -20000 ≤ y) (h2 : y ≤ 20000) :
    -3000000 ≤ Bf cy lp y ∧ Bf cy lp y ≤ 3000000 ∧ -2000200 ≤ (y - 1) / cy * lp.length ∧ (y - 1) / cy * lp.length ≤ 2000200 ∧ -20001 ≤ (y - 1) / cy ∧ (y - 1) / cy ≤ 20001 ∧ 0 ≤ (y - 1) % cy ∧ (y - 1) % cy < cy ∧ (lp.length : Int) ≤ 100 ∧ (cntL lp ((y - 1) % cy + 1) : Int) ≤ 100 := by
  have hl := h.len (by omega)
  have hcn := cnt_le ((y - 1) % cy + 1) lp
  have hr0 := Int.emod_nonneg (y - 1) (show cy ≠ 0 by omega)
  have hr1 := Int.emod_lt_of_pos (y - 1) (show 0 < cy by omega)
  have q1 : -20001 ≤ (y - 1) / cy := by
    rw [Int.le_ediv_iff_mul_le (by omega)]
    have := Int.mul_le_mul_of_nonneg_left (show (1 : Int) ≤ cy by omega) (show (0 : Int) ≤ 20001 by omega)
    omega
  have q2 : (y - 1) / cy ≤ 20001 := by
    have : (y - 1) / cy < 20001 + 1 := by
      rw [Int.ediv_lt_iff_lt_mul (by omega)]
      have := Int.mul_le_mul_of_nonneg_left (show (1 : Int) ≤ cy by omega) (show (0 : Int) ≤ 20001 + 1 by omega)
      omega
    omega
  have p1 : (y - 1) / cy * lp.length ≤ 2000200 := by
    rcases Int.le_total 0 ((y - 1) / cy) with g | g
    · have a1 := Int.mul_le_mul_of_nonneg_left (show (lp.length : Int) ≤ 100 by omega) g
      omega
    · have := Int.mul_nonpos_of_nonpos_of_nonneg g (show (0 : Int) ≤ lp.length by omega)
      omega
  have p2 : -2000200 ≤ (y - 1) / cy * lp.length := by
    rcases Int.le_total 0 ((y - 1) / cy) with g | g
    · have := Int.mul_nonneg g (show (0 : Int) ≤ lp.length by omega)
      omega
    · have a1 := Int.mul_le_mul_of_nonneg_left (show (lp.length : Int) ≤ 100 by omega) (show 0 ≤ -((y - 1) / cy) by omega)
      rw [Int.neg_mul, Int.neg_mul] at a1
      omega
  unfold Bf
  refine ⟨?_, ?_, p2, p1, q1, q2, hr0, hr1, by omega, by omega⟩ <;> omega

/-- the least common multiple, as the code reckons it -/
def lcmS (a d : Int) : Int := a * (d / (Int.gcd a d : Nat))
def partsL : Int → List Int → Int
  | a, [] => a
  | a, d :: ds => if 1000000 < lcmS a d then 0 else partsL (lcmS a d) ds
theorem lcmS_facts (a d : Int) (ha : 1 ≤ a) (hd : 1 ≤ d) : 1 ≤ lcmS a d ∧ a ∣ lcmS a d ∧ d ∣ lcmS a d ∧ 1 ≤ d / (Int.gcd a d : Nat) ∧ d / (Int.gcd a d : Nat) ≤ d ∧ 1 ≤ ((Int.gcd a d : Nat) : Int) := by
  have hg : 0 < Int.gcd a d := Int.gcd_pos_of_ne_zero_left d (by omega)
  have g1 : ((Int.gcd a d : Nat) : Int) ∣ d := Int.gcd_dvd_right a d
  have g2 : ((Int.gcd a d : Nat) : Int) ∣ a := Int.gcd_dvd_left a d
  unfold lcmS
  generalize (Int.gcd a d) = g at *
  obtain ⟨q, hq⟩ := g1
  obtain ⟨p, hp⟩ := g2
  have hgp : (0 : Int) < (g : Int) := by omega
  have hqd : d / (g : Int) = q := by rw [hq]; exact Int.mul_ediv_cancel_left _ (by omega)
  rw [hqd]
  have hq1 : 1 ≤ q := by
    rcases Int.lt_or_le q 1 with h | h
    · have : (g : Int) * q ≤ 0 := Int.mul_nonpos_of_nonneg_of_nonpos (by omega) (by omega)
      omega
    · exact h
  have hle : q ≤ (g : Int) * q := by
    have := Int.mul_le_mul_of_nonneg_right (show (1 : Int) ≤ g by omega) (show (0 : Int) ≤ q by omega)
    omega
  have h1 : 1 ≤ a * q := by
    have := Int.mul_le_mul_of_nonneg_right ha (show (0 : Int) ≤ q by omega)
    omega
  refine ⟨h1, Int.dvd_mul_right _ _, ⟨p, ?_⟩, hq1, by omega, by omega⟩
  rw [hp, hq, Int.mul_assoc, Int.mul_assoc, Int.mul_comm p q]
theorem partsL_facts (ds : List Int) : ∀ a : Int, 1 ≤ a → a ≤ 1000000 → (∀ d ∈ ds, 1 ≤ d) → partsL a ds ≠ 0 → 1 ≤ partsL a ds ∧ partsL a ds ≤ 1000000 ∧ a ∣ partsL a ds ∧ ∀ d ∈ ds, d ∣ partsL a ds := by
  induction ds with
  | nil => intro a h1 h2 _ _; exact ⟨h1, h2, Int.dvd_refl _, fun d hd => by cases hd⟩
  | cons d ds ih =>
    intro a h1 h2 h3 h4
    have hf := lcmS_facts a d h1 (h3 d (by simp))
    unfold partsL at h4 ⊢
    by_cases hb : 1000000 < lcmS a d
    · rw [if_pos hb] at h4; exact absurd rfl h4
    · rw [if_neg hb] at h4 ⊢
      obtain ⟨k1, k2, k3, k4⟩ := ih (lcmS a d) hf.1 (by omega) (fun x hx => h3 x (by simp [hx])) h4
      refine ⟨k1, k2, Int.dvd_trans hf.2.1 k3, fun x hx => ?_⟩
      rcases List.mem_cons.1 hx with rfl | hx
      · exact Int.dvd_trans hf.2.2.1 k3
      · exact k4 x hx
theorem partsL_range (ds : List Int) : ∀ a : Int, 1 ≤ a → a ≤ 1000000 → (∀ d ∈ ds, 1 ≤ d) → 0 ≤ partsL a ds ∧ partsL a ds ≤ 1000000 := fun a h1 h2 h3 => by
  by_cases h : partsL a ds = 0
  · omega
  · have := partsL_facts ds a h1 h2 h3 h; omega

theorem part_facts (n d all : Int) (hd : 1 ≤ d) (h : d ∣ all) (ha : 1 ≤ all) :
    1 ≤ all / d ∧ all / d ≤ all ∧ (∀ c, c * d ≤ n → c * all ≤ n * (all / d)) ∧ (∀ c, n ≤ c * d → n * (all / d) ≤ c * all) ∧ (0 < n → 0 < n * (all / d)) ∧ (0 ≤ n → 0 ≤ n * (all / d)) ∧ (n < d → n * (all / d) < all) := by
  obtain ⟨q, rfl⟩ := h
  rw [Int.mul_ediv_cancel_left _ (by omega)]
  have hq : 1 ≤ q := by
    rcases Int.lt_or_le q 1 with h | h
    · have : d * q ≤ 0 := Int.mul_nonpos_of_nonneg_of_nonpos (by omega) (by omega)
      omega
    · exact h
  have hle : q ≤ d * q := by
    have := Int.mul_le_mul_of_nonneg_right (show (1 : Int) ≤ d by omega) (show (0 : Int) ≤ q by omega)
    omega
  refine ⟨hq, hle, fun c hc => ?_, fun c hc => ?_, fun hn => ?_, fun hn => ?_, fun hn => ?_⟩
  · rw [← Int.mul_assoc]; exact Int.mul_le_mul_of_nonneg_right hc (by omega)
  · rw [← Int.mul_assoc]; exact Int.mul_le_mul_of_nonneg_right hc (by omega)
  · exact Int.mul_pos hn (by omega)
  · exact Int.mul_nonneg hn (by omega)
  · exact Int.mul_lt_mul_of_pos_right hn (by omega)

/-- the day of month k (from the epoch on), before it is put off -/
def rawD (ep all S M L k : Int) : Int := ep + (S + k * M) / all + (if L ≤ (S + k * M) % all then 1 else 0)
theorem rawD_eq (ep all S M L k : Int) (ha : 0 < all) (h1 : 0 < L) (h2 : L ≤ all) : rawD ep all S M L k = ep + (S + k * M + (all - L)) / all := by
  unfold rawD
  generalize S + k * M = x
  have r0 := Int.emod_nonneg x (show all ≠ 0 by omega)
  have r1 := Int.emod_lt_of_pos x ha
  have he := Int.mul_ediv_add_emod x all
  by_cases h : L ≤ x % all
  · rw [if_pos h]
    have := (Int.ediv_emod_unique (a := x + (all - L)) (r := x % all - L) (q := x / all + 1) ha).2 ⟨by rw [Int.mul_add]; omega, by omega, by omega⟩
    omega
  · rw [if_neg h]
    have := (Int.ediv_emod_unique (a := x + (all - L)) (r := x % all + (all - L)) (q := x / all) ha).2 ⟨by omega, by omega, by omega⟩
    omega
theorem rawD_step (ep all S M L k : Int) (ha : 0 < all) (h1 : 0 < L) (h2 : L ≤ all) (h3 : 29 * all ≤ M) (h4 : M ≤ 30 * all) :
    29 ≤ rawD ep all S M L (k + 1) - rawD ep all S M L k ∧ rawD ep all S M L (k + 1) - rawD ep all S M L k ≤ 30 := by
  rw [rawD_eq _ _ _ _ _ _ ha h1 h2, rawD_eq _ _ _ _ _ _ ha h1 h2, Int.add_mul, Int.one_mul, show S + (k * M + M) + (all - L) = (S + k * M + (all - L)) + M from by omega]
  generalize S + k * M + (all - L) = x
  have a1 : x / all + 29 ≤ (x + M) / all := by
    rw [Int.le_ediv_iff_mul_le ha, Int.add_mul]
    have := Int.ediv_mul_le x (show all ≠ 0 by omega)
    omega
  have a2 : (x + M) / all < x / all + 31 := by
    rw [Int.ediv_lt_iff_lt_mul ha, Int.add_mul]
    have := Int.lt_ediv_add_one_mul_self x ha
    rw [Int.add_mul] at this
    omega
  omega

/-- the weekday of the day is avoided -/
def avB (av : List Int) (d : Int) : Bool := decide ((d - 1) % 7 ∈ av)
/-- the first day from d on that is not avoided, if not more than three are -/
def post (av : List Int) (d : Int) : Int := if avB av d then (if avB av (d + 1) then (if avB av (d + 2) then d + 3 else d + 2) else d + 1) else d
theorem avB_four (av : List Int) (h : av.length ≤ 3) (d : Int) : ¬ (avB av d = true ∧ avB av (d + 1) = true ∧ avB av (d + 2) = true ∧ avB av (d + 3) = true) := by
  unfold avB
  simp only [decide_eq_true_eq]
  rintro ⟨a0, a1, a2, a3⟩
  have e01 : (d - 1) % 7 ≠ (d + 1 - 1) % 7 := by omega
  have e02 : (d - 1) % 7 ≠ (d + 2 - 1) % 7 := by omega
  have e03 : (d - 1) % 7 ≠ (d + 3 - 1) % 7 := by omega
  have e12 : (d + 1 - 1) % 7 ≠ (d + 2 - 1) % 7 := by omega
  have e13 : (d + 1 - 1) % 7 ≠ (d + 3 - 1) % 7 := by omega
  have e23 : (d + 2 - 1) % 7 ≠ (d + 3 - 1) % 7 := by omega
  generalize (d - 1) % 7 = x0 at *
  generalize (d + 1 - 1) % 7 = x1 at *
  generalize (d + 2 - 1) % 7 = x2 at *
  generalize (d + 3 - 1) % 7 = x3 at *
  match av, h with
  | [], _ => cases a0
  | [a], _ => simp at a0 a1; omega
  | [a, b], _ => simp at a0 a1 a2; omega
  | [a, b, c], _ => simp at a0 a1 a2 a3; omega
theorem post_at (av : List Int) (d : Int) (j : Nat) (hj : j ≤ 3) (h1 : ∀ i : Nat, i < j → avB av (d + i) = true) (h2 : avB av (d + j) = false) : post av d = d + j := by
  unfold post
  match j, hj with
  | 0, _ => simp at h2; simp [h2]
  | 1, _ => have a0 := h1 0 (by omega); simp at a0 h2; simp [a0, h2]
  | 2, _ => have a0 := h1 0 (by omega); have a1 := h1 1 (by omega); simp at a0 a1 h2; simp [a0, a1, h2]
  | 3, _ => have a0 := h1 0 (by omega); have a1 := h1 1 (by omega); have a2 := h1 2 (by omega); simp at a0 a1 a2 h2; simp [a0, a1, a2]
theorem post_in (av : List Int) (d : Int) : d ≤ post av d ∧ post av d ≤ d + 3 := by unfold post; split <;> (try split) <;> (try split) <;> omega
theorem post_free (av : List Int) (h : av.length ≤ 3) (d : Int) : avB av (post av d) = false := by
  have h4 := avB_four av h d
  unfold post
  split
  · split
    · split
      · cases h : avB av (d + 3) <;> simp_all
      · simp_all
    · simp_all
  · simp_all
end Go.Proofs.YtcommodbjjdbmaaGreatDoor
