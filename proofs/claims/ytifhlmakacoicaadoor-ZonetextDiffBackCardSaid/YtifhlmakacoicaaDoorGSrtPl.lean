/- SrtPl -/
/- Stable sorting, plain: places exchanged, blocks exchanged, SymMerge and the passes, over values with their first places. -/
namespace Go.Proofs.YtifhlmakacoicaaDoor
set_option linter.unusedVariables false

/-- a shuffle of [a, b) -/
def Shuf {E : Type} (a b : Nat) (d d' : Nat → E) : Prop := ∃ s t : Nat → Nat, (∀ i, t (s i) = i ∧ s (t i) = i) ∧ (∀ i, i < a ∨ b ≤ i → s i = i) ∧ ∀ i, d' i = d (s i)
theorem Shuf.refl {E : Type} (a b : Nat) (d : Nat → E) : Shuf a b d d := ⟨id, id, fun i => ⟨rfl, rfl⟩, fun i _ => rfl, fun i => rfl⟩
theorem Shuf.trans {E : Type} {a b : Nat} {d d' d'' : Nat → E} (h : Shuf a b d d') (g : Shuf a b d' d'') : Shuf a b d d'' := by
  obtain ⟨s, t, h1, h2, h3⟩ := h
  obtain ⟨s', t', g1, g2, g3⟩ := g
  refine ⟨fun i => s (s' i), fun i => t' (t i), fun i => ⟨?_, ?_⟩, fun i hi => ?_, fun i => by rw [g3, h3]⟩ <;> dsimp only
  · rw [(h1 _).1, (g1 _).1]
  · rw [(g1 _).2, (h1 _).2]
  · rw [g2 i hi, h2 i hi]
theorem Shuf.wide {E : Type} {a b a' b' : Nat} {d d' : Nat → E} (h : Shuf a b d d') (ha : a' ≤ a) (hb : b ≤ b') : Shuf a' b' d d' := by
  obtain ⟨s, t, h1, h2, h3⟩ := h
  exact ⟨s, t, h1, fun i hi => h2 i (by omega), h3⟩
theorem Shuf.out {E : Type} {a b : Nat} {d d' : Nat → E} (h : Shuf a b d d') (i : Nat) (hi : i < a ∨ b ≤ i) : d' i = d i := by
  obtain ⟨s, t, h1, h2, h3⟩ := h
  rw [h3, h2 i hi]
theorem Shuf.from_ {E : Type} {a b : Nat} {d d' : Nat → E} (h : Shuf a b d d') (i : Nat) (h1 : a ≤ i) (h2 : i < b) : ∃ j, a ≤ j ∧ j < b ∧ d' i = d j := by
  obtain ⟨s, t, g1, g2, g3⟩ := h
  refine ⟨s i, ?_, ?_, g3 i⟩
  · refine Classical.byContradiction fun hn => ?_
    have e := g2 (s i) (by omega)
    have e2 : t (s (s i)) = t (s i) := by rw [e]
    rw [(g1 _).1, (g1 _).1] at e2
    omega
  · refine Classical.byContradiction fun hn => ?_
    have e := g2 (s i) (by omega)
    have e2 : t (s (s i)) = t (s i) := by rw [e]
    rw [(g1 _).1, (g1 _).1] at e2
    omega
theorem Shuf.symm {E : Type} {a b : Nat} {d d' : Nat → E} (h : Shuf a b d d') : Shuf a b d' d := by
  obtain ⟨s, t, h1, h2, h3⟩ := h
  refine ⟨t, s, fun i => ⟨(h1 i).2, (h1 i).1⟩, fun i hi => ?_, fun i => by rw [h3, (h1 i).2]⟩
  have := h2 i hi
  have h4 := (h1 i).1
  rw [this] at h4
  exact h4
/-- two places exchanged -/
def swp {E : Type} (d : Nat → E) (i j : Nat) : Nat → E := fun k => if k = i then d j else if k = j then d i else d k
theorem swp_shuf {E : Type} (d : Nat → E) (a b i j : Nat) (h1 : a ≤ i) (h2 : i < b) (h3 : a ≤ j) (h4 : j < b) : Shuf a b d (swp d i j) := by
  have inv : ∀ k : Nat, (fun k => if k = i then j else if k = j then i else k) ((fun k => if k = i then j else if k = j then i else k) k) = k := by
    intro k
    dsimp only
    split
    · rename_i h
      subst h
      split
      · rename_i h; exact h
      · rw [if_pos rfl]
    · rename_i h
      split
      · rename_i h'; rw [if_pos rfl]; exact h'.symm
      · rfl
  refine ⟨fun k => if k = i then j else if k = j then i else k, fun k => if k = i then j else if k = j then i else k, fun k => ⟨inv k, inv k⟩, fun k hk => ?_, fun k => ?_⟩
  · dsimp only
    rw [if_neg (by omega), if_neg (by omega)]
  · unfold swp
    dsimp only
    split
    · rfl
    · split <;> rfl
/-- the blocks [i, i + n) and [j, j + n) exchanged -/
def swR {E : Type} (d : Nat → E) (i j n : Nat) : Nat → E := fun k => if i ≤ k ∧ k < i + n then d (j + (k - i)) else if j ≤ k ∧ k < j + n then d (i + (k - j)) else d k
theorem swR_zero {E : Type} (d : Nat → E) (i j : Nat) : swR d i j 0 = d := by
  funext k
  unfold swR
  rw [if_neg (by omega), if_neg (by omega)]
theorem swR_succ {E : Type} (d : Nat → E) (i j n : Nat) (h : i + n < j) : swR d i j (n + 1) = swp (swR d i j n) (i + n) (j + n) := by
  funext k
  unfold swp swR
  by_cases h1 : k = i + n
  · subst h1
    rw [if_pos (by omega), if_pos rfl, if_neg (by omega), if_neg (by omega)]
    congr 1
    omega
  · rw [if_neg h1]
    by_cases h2 : k = j + n
    · subst h2
      rw [if_neg (by omega), if_pos (by omega), if_pos rfl, if_neg (by omega), if_neg (by omega)]
      congr 1
      omega
    · rw [if_neg h2]
      by_cases h3 : i ≤ k ∧ k < i + n
      · rw [if_pos (by omega), if_pos h3]
      · rw [if_neg (by omega), if_neg h3]
        by_cases h4 : j ≤ k ∧ k < j + n
        · rw [if_pos (by omega), if_pos h4]
        · rw [if_neg (by omega), if_neg h4]
theorem swR_shuf {E : Type} (d : Nat → E) (a b i j : Nat) : ∀ n, a ≤ i → i + n ≤ j → j + n ≤ b → Shuf a b d (swR d i j n)
  | 0, _, _, _ => by rw [swR_zero]; exact Shuf.refl _ _ _
  | n + 1, h1, h2, h3 => by
    rw [swR_succ d i j n (by omega)]
    exact (swR_shuf d a b i j n h1 (by omega) (by omega)).trans (swp_shuf _ a b _ _ (by omega) (by omega) (by omega) (by omega))
/-- [a, m) and [m, b) exchanged -/
def rot {E : Type} (d : Nat → E) (a m b : Nat) : Nat → E := fun k => if a ≤ k ∧ k < a + (b - m) then d (m + (k - a)) else if a + (b - m) ≤ k ∧ k < b then d (a + (k - (a + (b - m)))) else d k
theorem rot_one {E : Type} (d : Nat → E) (m i : Nat) (h : i ≤ m) : rot d (m - i) m (m + i) = swR d (m - i) m i := by
  funext k
  unfold rot swR
  by_cases h1 : m - i ≤ k ∧ k < m - i + i
  · rw [if_pos (by omega), if_pos h1]
  · rw [if_neg (by omega), if_neg h1]
    by_cases h2 : m ≤ k ∧ k < m + i
    · rw [if_pos (by omega), if_pos h2]
      congr 1
      omega
    · rw [if_neg (by omega), if_neg h2]
theorem rot_gt {E : Type} (d : Nat → E) (m i j : Nat) (h : i ≤ m) (hj : j < i) : rot d (m - i) m (m + j) = rot (swR d (m - i) m j) (m - (i - j)) m (m + j) := by
  funext k
  unfold rot swR
  by_cases h1 : m - i ≤ k ∧ k < m - i + (m + j - m)
  · rw [if_pos h1, if_neg (by omega), if_neg (by omega), if_pos (by omega)]
  · rw [if_neg h1]
    by_cases h2 : m - i + (m + j - m) ≤ k ∧ k < m + j
    · rw [if_pos h2]
      by_cases h3 : m - (i - j) ≤ k ∧ k < m - (i - j) + (m + j - m)
      · rw [if_pos h3, if_neg (by omega), if_pos (by omega)]
        congr 1
        omega
      · rw [if_neg h3, if_pos (by omega), if_neg (by omega), if_neg (by omega)]
        congr 1
        omega
    · rw [if_neg h2, if_neg (by omega), if_neg (by omega), if_neg (by omega), if_neg (by omega)]
theorem rot_lt {E : Type} (d : Nat → E) (m i j : Nat) (h : i ≤ m) (hj : i < j) : rot d (m - i) m (m + j) = rot (swR d (m - i) (m + j - i) i) (m - i) m (m + (j - i)) := by
  funext k
  unfold rot swR
  by_cases h1 : m - i ≤ k ∧ k < m - i + (m + j - m)
  · rw [if_pos h1]
    by_cases h3 : m - i ≤ k ∧ k < m - i + (m + (j - i) - m)
    · rw [if_pos h3]
      rw [if_neg (by omega), if_neg (by omega)]
    · rw [if_neg h3]
      rw [if_pos (by omega), if_pos (by omega)]
      congr 1
      omega
  · rw [if_neg h1]
    by_cases h2 : m - i + (m + j - m) ≤ k ∧ k < m + j
    · rw [if_pos h2, if_neg (by omega), if_neg (by omega), if_neg (by omega), if_pos (by omega)]
      congr 1
      omega
    · rw [if_neg h2, if_neg (by omega), if_neg (by omega), if_neg (by omega), if_neg (by omega)]

/-- a value with the place where it stood first -/
structure Tg (E : Type) where
  e : E
  at_ : Int
  tag : Nat
def tlt {E : Type} (x y : Tg E) : Prop := x.at_ < y.at_ ∨ (x.at_ = y.at_ ∧ x.tag < y.tag)
def Sor {E : Type} (d : Nat → Tg E) (a b : Nat) : Prop := ∀ i j, a ≤ i → i < j → j < b → tlt (d i) (d j)
theorem tlt.trans {E : Type} {x y z : Tg E} (h : tlt x y) (g : tlt y z) : tlt x z := by unfold tlt at *; omega
theorem Sor.le {E : Type} {d : Nat → Tg E} {a b : Nat} (h : Sor d a b) (i j : Nat) (h1 : a ≤ i) (h2 : i ≤ j) (h3 : j < b) : (d i).at_ ≤ (d j).at_ := by
  by_cases e : i = j
  · subst e; omega
  · have := h i j h1 (by omega) h3
    unfold tlt at this
    omega
/-- two sorted halves, each of the first ahead of each of the second -/
theorem Sor.join {E : Type} {d : Nat → Tg E} {a m b : Nat} (h1 : Sor d a m) (h2 : Sor d m b) (hx : ∀ i j, a ≤ i → i < m → m ≤ j → j < b → tlt (d i) (d j)) : Sor d a b := fun i j hi hij hj => by
  by_cases e1 : j < m
  · exact h1 i j hi hij e1
  · by_cases e2 : i < m
    · exact hx i j hi e2 (by omega) hj
    · exact h2 i j (by omega) hij hj
theorem Sor.sub {E : Type} {d : Nat → Tg E} {a b a' b' : Nat} (h : Sor d a b) (h1 : a ≤ a') (h2 : b' ≤ b) : Sor d a' b' := fun i j hi hij hj => h i j (by omega) hij (by omega)
/-- of two runs: every tag of the first is less -/
def Tgs {E : Type} (d : Nat → Tg E) (a m b : Nat) : Prop := ∀ i j, a ≤ i → i < m → m ≤ j → j < b → (d i).tag < (d j).tag
/-- the first of the right run is carried to its place -/
theorem ins_first {E : Type} {d : Nat → Tg E} {a b i : Nat} (hs : Sor d (a + 1) b) (ht : Tgs d a (a + 1) b) (h1 : a + 1 ≤ i) (h2 : i ≤ b) (hlo : ∀ k, a + 1 ≤ k → k < i → (d k).at_ < (d a).at_) (hhi : ∀ k, i ≤ k → k < b → (d a).at_ ≤ (d k).at_) : Sor (rot d a (a + 1) i) a b := by
  have hr : ∀ k, rot d a (a + 1) i k = if a ≤ k ∧ k + 1 < i then d (k + 1) else if k + 1 = i then d a else d k := by
    intro k
    unfold rot
    by_cases c1 : a ≤ k ∧ k + 1 < i
    · rw [if_pos (by omega), if_pos c1]; congr 1; omega
    · rw [if_neg (by omega), if_neg c1]
      by_cases c2 : k + 1 = i
      · rw [if_pos (by omega), if_pos c2]; congr 1; omega
      · rw [if_neg (by omega), if_neg c2]
  intro p q hp hpq hq
  rw [hr p, hr q]
  by_cases c1 : q + 1 < i
  · rw [if_pos (by omega), if_pos (by omega)]
    exact hs _ _ (by omega) (by omega) (by omega)
  · rw [if_neg (show ¬ (a ≤ q ∧ q + 1 < i) by omega)]
    by_cases c2 : q + 1 = i
    · rw [if_pos c2, if_pos (by omega)]
      exact .inl (hlo _ (by omega) (by omega))
    · rw [if_neg c2]
      by_cases c3 : p + 1 < i
      · rw [if_pos (by omega)]
        exact hs _ _ (by omega) (by omega) (by omega)
      · rw [if_neg (by omega)]
        by_cases c4 : p + 1 = i
        · rw [if_pos c4]
          have := hhi q (by omega) hq
          have := ht a q (by omega) (by omega) (by omega) hq
          unfold tlt
          omega
        · rw [if_neg c4]
          exact hs _ _ (by omega) hpq hq
theorem ins_last {E : Type} {d : Nat → Tg E} {a m i : Nat} (hs : Sor d a m) (ht : Tgs d a m (m + 1)) (h1 : a ≤ i) (h2 : i ≤ m) (hlo : ∀ k, a ≤ k → k < i → (d k).at_ ≤ (d m).at_) (hhi : ∀ k, i ≤ k → k < m → (d m).at_ < (d k).at_) : Sor (rot d i m (m + 1)) a (m + 1) := by
  have hr : ∀ k, k ≤ m → rot d i m (m + 1) k = if k < i then d k else if k = i then d m else d (k - 1) := by
    intro k hk
    unfold rot
    by_cases c1 : k < i
    · rw [if_neg (by omega), if_neg (by omega), if_pos c1]
    · rw [if_neg c1]
      by_cases c2 : k = i
      · rw [if_pos (by omega), if_pos c2]; congr 1; omega
      · rw [if_neg (by omega), if_pos (by omega), if_neg c2]; congr 1; omega
  intro p q hp hpq hq
  rw [hr p (by omega), hr q (by omega)]
  by_cases c1 : q < i
  · rw [if_pos (by omega), if_pos c1]
    exact hs _ _ hp hpq (by omega)
  · rw [if_neg c1]
    by_cases c2 : q = i
    · rw [if_pos c2, if_pos (by omega)]
      have := hlo p hp (by omega)
      have := ht p m hp (by omega) (by omega) (by omega)
      unfold tlt
      omega
    · rw [if_neg c2]
      by_cases c3 : p < i
      · rw [if_pos c3]
        exact hs _ _ hp (by omega) (by omega)
      · rw [if_neg c3]
        by_cases c4 : p = i
        · rw [if_pos c4]
          exact .inl (hhi _ (by omega) (by omega))
        · rw [if_neg c4]
          exact hs _ _ (by omega) (by omega) (by omega)
/-- the middle of SymMerge: what stands where after the exchange -/
structure Cut4 {E : Type} (d : Nat → Tg E) (a m b mid s e : Nat) : Prop where
  h1 : a ≤ s
  h2 : s ≤ m
  h3 : m ≤ e
  h4 : e ≤ b
  h5 : s + (e - m) = mid
  h6 : s ≤ mid
  h7 : mid ≤ e
  lu : ∀ i j, a ≤ i → i < s → e ≤ j → j < b → (d i).at_ ≤ (d j).at_
  ul : ∀ i j, s ≤ i → i < m → m ≤ j → j < e → (d j).at_ < (d i).at_
theorem rot_at {E : Type} (d : Nat → E) (s m e : Nat) (h1 : s ≤ m) (h2 : m ≤ e) (k : Nat) : rot d s m e k = if k < s then d k else if k < s + (e - m) then d (k - s + m) else if k < e then d (k - (e - m)) else d k := by
  unfold rot
  by_cases c1 : k < s
  · rw [if_neg (by omega), if_neg (by omega), if_pos c1]
  · rw [if_neg c1]
    by_cases c2 : k < s + (e - m)
    · rw [if_pos (by omega), if_pos c2]; congr 1; omega
    · rw [if_neg (by omega), if_neg c2]
      by_cases c3 : k < e
      · rw [if_pos (by omega), if_pos c3]; congr 1; omega
      · rw [if_neg (by omega), if_neg c3]
theorem sym_mid {E : Type} {d : Nat → Tg E} {a m b mid s e : Nat} (hs1 : Sor d a m) (hs2 : Sor d m b) (ht : Tgs d a m b) (h : Cut4 d a m b mid s e) :
    Sor (rot d s m e) a s ∧ Sor (rot d s m e) s mid ∧ Tgs (rot d s m e) a s mid ∧ Sor (rot d s m e) mid e ∧ Sor (rot d s m e) e b ∧ Tgs (rot d s m e) mid e b ∧ ∀ i j, a ≤ i → i < mid → mid ≤ j → j < b → tlt (rot d s m e i) (rot d s m e j) := by
  obtain ⟨h1, h2, h3, h4, h5, h6, h7, lu, ul⟩ := h
  have hr := rot_at d s m e h2 h3
  have L1 : ∀ k, k < s → rot d s m e k = d k := fun k hk => by rw [hr, if_pos hk]
  have L2 : ∀ k, s ≤ k → k < mid → rot d s m e k = d (k - s + m) := fun k hk hk2 => by rw [hr, if_neg (by omega), if_pos (by omega)]
  have U1 : ∀ k, mid ≤ k → k < e → rot d s m e k = d (k - (e - m)) := fun k hk hk2 => by rw [hr, if_neg (by omega), if_neg (by omega), if_pos hk2]
  have U2 : ∀ k, e ≤ k → rot d s m e k = d k := fun k hk => by rw [hr, if_neg (by omega), if_neg (by omega), if_neg (by omega)]
  refine ⟨fun i j hi hij hj => ?_, fun i j hi hij hj => ?_, fun i j hi hij hj hj2 => ?_, fun i j hi hij hj => ?_, fun i j hi hij hj => ?_, fun i j hi hij hj hj2 => ?_, fun i j hi hij hj hj2 => ?_⟩
  · rw [L1 i (by omega), L1 j hj]; exact hs1 i j hi hij (by omega)
  · rw [L2 i hi (by omega), L2 j (by omega) hj]; exact hs2 _ _ (by omega) (by omega) (by omega)
  · rw [L1 i hij, L2 j hj hj2]; exact ht _ _ (by omega) (by omega) (by omega) (by omega)
  · rw [U1 i hi (by omega), U1 j (by omega) hj]; exact hs1 _ _ (by omega) (by omega) (by omega)
  · rw [U2 i hi, U2 j (by omega)]; exact hs2 _ _ (by omega) hij hj
  · rw [U1 i hi hij, U2 j hj]; exact ht _ _ (by omega) (by omega) (by omega) (by omega)
  · by_cases c1 : i < s
    · rw [L1 i c1]
      by_cases c2 : j < e
      · rw [U1 j hj c2]; exact hs1 _ _ hi (by omega) (by omega)
      · rw [U2 j (by omega)]
        have := lu i j hi c1 (by omega) hj2
        have := ht i j hi (by omega) (by omega) hj2
        unfold tlt
        omega
    · rw [L2 i (by omega) hij]
      by_cases c2 : j < e
      · rw [U1 j hj c2]
        exact .inl (ul _ _ (by omega) (by omega) (by omega) (by omega))
      · rw [U2 j (by omega)]
        exact hs2 _ _ (by omega) (by omega) hj2
/-- a sorted half keeps its place against the other one -/
theorem cross_shuf {E : Type} {d d' d'' : Nat → Tg E} {a mid b : Nat} (hx : ∀ i j, a ≤ i → i < mid → mid ≤ j → j < b → tlt (d i) (d j)) (h1 : Shuf a mid d d') (h2 : Shuf mid b d' d'') : ∀ i j, a ≤ i → i < mid → mid ≤ j → j < b → tlt (d'' i) (d'' j) := by
  intro i j hi hij hj hj2
  rw [h2.out i (.inl hij)]
  obtain ⟨i', g1, g2, e⟩ := h1.from_ i hi hij
  obtain ⟨j', g3, g4, e'⟩ := h2.from_ j hj hj2
  rw [e, e', h1.out j' (.inr g3)]
  exact hx i' j' g1 g2 g3 g4

theorem rot_self {E : Type} (d : Nat → E) (a m : Nat) (h : a ≤ m) : rot d a m m = d := by
  funext k
  unfold rot
  rw [if_neg (by omega)]
  by_cases c : a + (m - m) ≤ k ∧ k < m
  · rw [if_pos c]; congr 1; omega
  · rw [if_neg c]
theorem rot_left {E : Type} (d : Nat → E) (m b : Nat) (h : m ≤ b) : rot d m m b = d := by
  funext k
  unfold rot
  by_cases c : m ≤ k ∧ k < m + (b - m)
  · rw [if_pos c]; congr 1; omega
  · rw [if_neg c, if_neg (by omega)]
theorem rot_down {E : Type} (d : Nat → E) (j i : Nat) (h : j + 1 ≤ i) : swp (rot d (j + 1) i (i + 1)) (j + 1) j = rot d j i (i + 1) := by
  funext k
  unfold swp
  rw [rot_at d (j + 1) i (i + 1) (by omega) (by omega), rot_at d (j + 1) i (i + 1) (by omega) (by omega), rot_at d (j + 1) i (i + 1) (by omega) (by omega), rot_at d j i (i + 1) (by omega) (by omega)]
  by_cases c1 : k = j + 1
  · rw [if_pos c1, if_pos (by omega), if_neg (by omega), if_neg (by omega), if_pos (by omega)]
    congr 1
    omega
  · rw [if_neg c1]
    by_cases c2 : k = j
    · rw [if_pos c2, if_neg (by omega), if_pos (by omega), if_neg (by omega), if_pos (by omega)]
      congr 1
      omega
    · rw [if_neg c2]
      by_cases c3 : k < j
      · rw [if_pos (by omega), if_pos c3]
      · rw [if_neg (by omega), if_neg (by omega), if_neg c3, if_neg (show ¬ k < j + (i + 1 - i) by omega)]
theorem rot_start {E : Type} (d : Nat → E) (i : Nat) : rot d i i (i + 1) = d := by
  funext k
  rw [rot_at d i i (i + 1) (by omega) (by omega)]
  by_cases c1 : k < i
  · rw [if_pos c1]
  · rw [if_neg c1]
    by_cases c2 : k < i + (i + 1 - i)
    · rw [if_pos c2]; congr 1; omega
    · rw [if_neg c2, if_neg (by omega)]
theorem rot_up {E : Type} (d : Nat → E) (a k : Nat) (h : a ≤ k) : swp (rot d a (a + 1) (k + 1)) k (k + 1) = rot d a (a + 1) (k + 1 + 1) := by
  funext q
  unfold swp
  rw [rot_at d a (a + 1) (k + 1) (by omega) (by omega), rot_at d a (a + 1) (k + 1) (by omega) (by omega), rot_at d a (a + 1) (k + 1) (by omega) (by omega), rot_at d a (a + 1) (k + 1 + 1) (by omega) (by omega)]
  by_cases c1 : q = k
  · rw [if_pos c1, if_neg (by omega), if_neg (by omega), if_neg (by omega), if_neg (by omega), if_pos (by omega)]
    congr 1
    omega
  · rw [if_neg c1]
    by_cases c2 : q = k + 1
    · rw [if_pos c2, if_neg (by omega), if_neg (by omega), if_pos (by omega), if_neg (by omega), if_neg (by omega), if_pos (by omega)]
      congr 1
      omega
    · rw [if_neg c2]
      by_cases c3 : q < a
      · rw [if_pos c3, if_pos c3]
      · rw [if_neg c3, if_neg c3]
        by_cases c4 : q < k
        · rw [if_pos (by omega), if_pos (by omega)]
        · rw [if_neg (by omega), if_neg (by omega), if_neg (by omega), if_neg (by omega)]
theorem rot_shuf {E : Type} (d : Nat → E) (a m b : Nat) (h1 : a ≤ m) (h2 : m ≤ b) : Shuf a b d (rot d a m b) := by
  refine ⟨fun k => if a ≤ k ∧ k < a + (b - m) then m + (k - a) else if a + (b - m) ≤ k ∧ k < b then a + (k - (a + (b - m))) else k, fun k => if a ≤ k ∧ k < m then a + (b - m) + (k - a) else if m ≤ k ∧ k < b then a + (k - m) else k, fun k => ⟨?_, ?_⟩, fun k hk => ?_, fun k => ?_⟩
  · dsimp only
    by_cases c1 : a ≤ k ∧ k < a + (b - m)
    · rw [if_pos c1, if_neg (by omega), if_pos (by omega)]; omega
    · rw [if_neg c1]
      by_cases c2 : a + (b - m) ≤ k ∧ k < b
      · rw [if_pos c2, if_pos (by omega)]; omega
      · rw [if_neg c2, if_neg (by omega), if_neg (by omega)]
  · dsimp only
    by_cases c1 : a ≤ k ∧ k < m
    · rw [if_pos c1, if_neg (by omega), if_pos (by omega)]; omega
    · rw [if_neg c1]
      by_cases c2 : m ≤ k ∧ k < b
      · rw [if_pos c2, if_pos (by omega)]; omega
      · rw [if_neg c2, if_neg (by omega), if_neg (by omega)]
  · dsimp only
    rw [if_neg (by omega), if_neg (by omega)]
  · unfold rot
    dsimp only
    split
    · rfl
    · split <;> rfl
/-- by the ends of the search alone -/
theorem ins_first_of {E : Type} {d : Nat → Tg E} {a b i : Nat} (hs : Sor d (a + 1) b) (ht : Tgs d a (a + 1) b) (h1 : a + 1 ≤ i) (h2 : i ≤ b) (hlo : a + 1 < i → (d (i - 1)).at_ < (d a).at_) (hhi : i < b → (d a).at_ ≤ (d i).at_) : Sor (rot d a (a + 1) i) a b :=
  ins_first hs ht h1 h2 (fun k hk hk2 => by
    have := hs.le k (i - 1) hk (by omega) (by omega)
    have := hlo (by omega)
    omega) (fun k hk hk2 => by
    have := hs.le i k h1 hk hk2
    have := hhi (by omega)
    omega)
theorem ins_last_of {E : Type} {d : Nat → Tg E} {a m i : Nat} (hs : Sor d a m) (ht : Tgs d a m (m + 1)) (h1 : a ≤ i) (h2 : i ≤ m) (hlo : a < i → (d (i - 1)).at_ ≤ (d m).at_) (hhi : i < m → (d m).at_ < (d i).at_) : Sor (rot d i m (m + 1)) a (m + 1) :=
  ins_last hs ht h1 h2 (fun k hk hk2 => by
    have := hs.le k (i - 1) hk (by omega) (by omega)
    have := hlo (by omega)
    omega) (fun k hk hk2 => by
    have := hs.le i k h1 hk hk2
    have := hhi (by omega)
    omega)
theorem cut_of {E : Type} {d : Nat → Tg E} {a m b mid s0 r0 s : Nat} (hs1 : Sor d a m) (hs2 : Sor d m b) (h1 : a < m) (h2 : m < b) (hm : mid = (a + b) / 2) (hr : (m > mid ∧ s0 = mid + m - b ∧ r0 = mid) ∨ (m ≤ mid ∧ s0 = a ∧ r0 = m)) (hl : s0 ≤ s) (hu : s ≤ r0)
    (hP : s0 < s → (d (s - 1)).at_ ≤ (d (mid + m - s)).at_) (hN : s < r0 → (d (mid + m - 1 - s)).at_ < (d s).at_) : Cut4 d a m b mid s (mid + m - s) := by
  refine ⟨by omega, by omega, by omega, by omega, by omega, by omega, by omega, fun i j hi hi2 hj hj2 => ?_, fun i j hi hi2 hj hj2 => ?_⟩
  · have := hs1.le i (s - 1) hi (by omega) (by omega)
    have := hP (by omega)
    have := hs2.le (mid + m - s) j (by omega) hj hj2
    omega
  · have := hs1.le s i (by omega) hi hi2
    have := hN (by omega)
    have := hs2.le j (mid + m - 1 - s) hj (by omega) (by omega)
    omega
/-- every tag ahead of a border of s is less than every one behind it -/
def Bnd {E : Type} (d : Nat → Tg E) (s n : Nat) : Prop := ∀ k i j, i < k * s → k * s ≤ j → j < n → (d i).tag < (d j).tag
theorem Bnd.twice {E : Type} {d : Nat → Tg E} {s n : Nat} (h : Bnd d s n) : Bnd d (s * 2) n := fun k i j hi hj hn => by
  have e : k * (s * 2) = k * 2 * s := by rw [Nat.mul_comm s 2, Nat.mul_assoc]
  rw [e] at hi hj
  exact h (k * 2) i j hi hj hn
theorem Bnd.shuf {E : Type} {d d' : Nat → Tg E} {s n q b : Nat} (h : Bnd d s n) (hs : Shuf (q * s) b d d') (h1 : b ≤ (q + 1) * s) (h2 : b ≤ n) : Bnd d' s n := fun k i j hi hj hn => by
  have hq : k ≤ q ∨ q + 1 ≤ k := by omega
  have move : ∀ x, (x < k * s → ∃ y, y < k * s ∧ d' x = d y) ∧ (k * s ≤ x → x < n → ∃ y, k * s ≤ y ∧ y < n ∧ d' x = d y) := by
    intro x
    have b1 : k ≤ q → k * s ≤ q * s := fun h => Nat.mul_le_mul_right s h
    have b2 : q + 1 ≤ k → (q + 1) * s ≤ k * s := fun h => Nat.mul_le_mul_right s h
    by_cases hx : q * s ≤ x ∧ x < b
    · obtain ⟨y, y1, y2, e⟩ := hs.from_ x hx.1 hx.2
      refine ⟨fun h => ⟨y, ?_, e⟩, fun h hn => ⟨y, ?_, by omega, e⟩⟩
      · rcases hq with hq | hq
        · have := b1 hq; omega
        · have := b2 hq; omega
      · rcases hq with hq | hq
        · have := b1 hq; omega
        · have := b2 hq; omega
    · exact ⟨fun h => ⟨x, h, hs.out x (by omega)⟩, fun h hn => ⟨x, h, hn, hs.out x (by omega)⟩⟩
  obtain ⟨i', hi', ei⟩ := (move i).1 hi
  obtain ⟨j', hj', hj'', ej⟩ := (move j).2 hj hn
  rw [ei, ej]
  exact h k i' j' hi' hj' hj''
theorem Bnd.tgs {E : Type} {d : Nat → Tg E} {s n : Nat} (h : Bnd d s n) (k a b : Nat) (hb : b ≤ n) : Tgs d a (k * s) b := fun i j _ h2 h3 h4 => h k i j h2 h3 (by omega)

/-- sorted block by block, and the tags of the blocks in order -/
structure Pass {E : Type} (d : Nat → Tg E) (s n : Nat) : Prop where
  sor : ∀ k, k * s < n → Sor d (k * s) (min (k * s + s) n)
  bnd : Bnd d s n
/-- a pass under way: k blocks are done, the rest is as it was -/
structure Under {E : Type} (d0 d : Nat → Tg E) (s n k : Nat) : Prop where
  done : ∀ q, q < k → Sor d (q * s) (min (q * s + s) n)
  bnd : Bnd d s n
  rest : ∀ i, k * s ≤ i → d i = d0 i
  shuf : Shuf 0 n d0 d
theorem Under.start {E : Type} {d : Nat → Tg E} {s n : Nat} (h : Bnd d s n) : Under d d s n 0 := ⟨fun q hq => by omega, h, fun _ _ => rfl, Shuf.refl _ _ _⟩
theorem Sor.same {E : Type} {d d' : Nat → Tg E} {a b : Nat} (h : Sor d a b) (e : ∀ i, a ≤ i → i < b → d' i = d i) : Sor d' a b := fun i j hi hij hj => by rw [e i hi (by omega), e j (by omega) hj]; exact h i j hi hij hj
theorem Under.step {E : Type} {d0 d d' : Nat → Tg E} {s n k b : Nat} (h : Under d0 d s n k) (hb : b = min (k * s + s) n) (hk : k * s ≤ n) (hs : Shuf (k * s) b d d') (ho : Sor d' (k * s) b) : Under d0 d' s n (k + 1) := by
  have e1 : (k + 1) * s = k * s + s := Nat.succ_mul k s
  refine ⟨fun q hq => ?_, h.bnd.shuf hs (by omega) (by omega), fun i hi => ?_, h.shuf.trans (hs.wide (Nat.zero_le _) (by omega))⟩
  · by_cases c : q = k
    · subst c; rw [← hb]; exact ho
    · have hq' : q + 1 ≤ k := by omega
      have := Nat.mul_le_mul_right s hq'
      rw [Nat.succ_mul] at this
      exact (h.done q (by omega)).same fun i h1 h2 => hs.out i (.inl (by omega))
  · rw [hs.out i (.inr (by omega))]
    exact h.rest i (by omega)
theorem Under.pass {E : Type} {d0 d : Nat → Tg E} {s n k : Nat} (h : Under d0 d s n k) (hk : n ≤ k * s) : Pass d s n := ⟨fun q hq => h.done q (by
  refine Classical.byContradiction fun hn => ?_
  have := Nat.mul_le_mul_right s (show k ≤ q by omega)
  omega), h.bnd⟩
/-- where the last block has at most the half, it is sorted -/
theorem Under.rest_half {E : Type} {d0 d : Nat → Tg E} {s n k : Nat} (h : Under d0 d (s * 2) n k) (hp : Pass d0 s n) (h1 : k * (s * 2) ≤ n) (h2 : n ≤ k * (s * 2) + s) (hs : 0 < s) : Under d0 d (s * 2) n (k + 1) := by
  have e : k * (s * 2) = k * 2 * s := by rw [Nat.mul_comm s 2, Nat.mul_assoc]
  refine h.step (b := n) (by omega) h1 (Shuf.refl _ _ _) ?_
  by_cases c : k * 2 * s < n
  · have := hp.sor (k * 2) c
    rw [show min (k * 2 * s + s) n = n from by omega, ← e] at this
    exact this.same fun i hi _ => h.rest i hi
  · intro i j hi hij hj
    omega
theorem Under.halves {E : Type} {d0 d : Nat → Tg E} {s n k b : Nat} (h : Under d0 d (s * 2) n k) (hp : Pass d0 s n) (hb : b = min (k * (s * 2) + s * 2) n) (h1 : k * (s * 2) + s < n) :
    Sor d (k * (s * 2)) (k * (s * 2) + s) ∧ Sor d (k * (s * 2) + s) b ∧ Tgs d (k * (s * 2)) (k * (s * 2) + s) b := by
  have e : k * (s * 2) = k * 2 * s := by rw [Nat.mul_comm s 2, Nat.mul_assoc]
  have e2 : (k * 2 + 1) * s = k * 2 * s + s := Nat.succ_mul _ _
  have r := h.rest
  rw [e] at r
  refine ⟨?_, ?_, ?_⟩
  · have := hp.sor (k * 2) (by omega)
    rw [show min (k * 2 * s + s) n = k * 2 * s + s from by omega] at this
    rw [e]
    exact this.same fun i hi _ => r i hi
  · have := hp.sor (k * 2 + 1) (by omega)
    rw [e2, show min (k * 2 * s + s + s) n = b from by omega] at this
    rw [e]
    exact this.same fun i hi _ => r i (by omega)
  · have := hp.bnd.tgs (k * 2 + 1) (k * 2 * s) b (by omega)
    rw [e2] at this
    rw [e]
    intro i j g1 g2 g3 g4
    rw [r i (by omega), r j (by omega)]
    exact this i j g1 g2 g3 g4
theorem Pass.whole {E : Type} {d : Nat → Tg E} {s n : Nat} (h : Pass d s n) (hs : n ≤ s) : Sor d 0 n := by
  by_cases c : 0 < n
  · have := h.sor 0 (by omega)
    rw [Nat.zero_mul, show min (0 + s) n = n from by omega] at this
    exact this
  · intro i j _ _ _
    omega
theorem bnd_start {E : Type} {d : Nat → Tg E} {n : Nat} (h : ∀ i, i < n → (d i).tag = i) (s : Nat) : Bnd d s n := fun k i j hi hj hn => by rw [h i (by omega), h j hn]; omega
end Go.Proofs.YtifhlmakacoicaaDoor
