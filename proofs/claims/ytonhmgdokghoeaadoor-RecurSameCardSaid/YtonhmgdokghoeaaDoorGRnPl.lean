/- RnPl -/
import Derived.Test.YtonhmgdokghoeaaDoorGPlainRec
/- The normal form of a recurrence (plain): what it is; it is valid; it has the same days; it is its own normal form. -/
namespace Go.Proofs.YtonhmgdokghoeaaDoor
open Go.RowKit
set_option linter.unusedVariables false
set_option linter.unusedSimpArgs false

def srt (l : List Int) : List Int := l.mergeSort fun x y => decide (x ≤ y)
theorem srt_perm (l : List Int) : (srt l).Perm l := List.mergeSort_perm _ _
theorem srt_mem (l : List Int) (x : Int) : x ∈ srt l ↔ x ∈ l := (srt_perm l).mem_iff
theorem srt_len (l : List Int) : (srt l).length = l.length := (srt_perm l).length_eq
theorem srt_up (l : List Int) : (srt l).Pairwise (fun x y => decide (x ≤ y) = true) :=
  List.pairwise_mergeSort (fun a b c h1 h2 => by simp at h1 h2 ⊢; omega) (fun a b => by simp; omega) l
theorem srt_srt (l : List Int) : srt (srt l) = srt l := List.mergeSort_of_pairwise (srt_up l)
theorem srt_one (x : Int) : srt [x] = [x] := by simp [srt]
theorem lisB_srt (l ns : List Int) : lisB (srt l) ns = lisB l ns := by
  unfold lisB
  rw [srt_len]
  congr 1
  congr 1
  funext x
  rw [decide_eq_decide]
  exact srt_mem l x
theorem listOk_iff (l : List Int) (lo hi : Int) (z : Bool) : ListOk l lo hi z ↔ l.length ≤ 31 ∧ (∀ x ∈ l, lo ≤ x ∧ x ≤ hi ∧ (x = 0 → z = true)) ∧ l.Nodup := by
  have hg : ∀ i (h : i < l.length), l.getD i 0 = l[i] := fun i h => by rw [List.getD_eq_getElem?_getD, List.getElem?_eq_getElem h]; rfl
  unfold ListOk
  constructor
  · rintro ⟨h1, h2⟩
    refine ⟨h1, fun x hx => ?_, ?_⟩
    · obtain ⟨i, hi, rfl⟩ := List.getElem_of_mem hx
      have := (h2 i hi).1
      rw [hg i hi] at this
      exact this
    · unfold List.Nodup
      rw [List.pairwise_iff_getElem]
      intro i j hi hj hij e
      have := (h2 j hj).2
      rw [hg j hj] at this
      exact this (by rw [List.mem_take_iff_getElem]; exact ⟨i, by omega, e⟩)
  · rintro ⟨h1, h2, h3⟩
    refine ⟨h1, fun i hi => ⟨?_, fun hm => ?_⟩⟩
    · rw [hg i hi]; exact h2 _ (List.getElem_mem hi)
    · rw [hg i hi, List.mem_take_iff_getElem] at hm
      obtain ⟨j, hj, e⟩ := hm
      unfold List.Nodup at h3
      rw [List.pairwise_iff_getElem] at h3
      exact h3 j i (by omega) hi (by omega) e
theorem ListOk.srt {l : List Int} {lo hi : Int} {z : Bool} (h : ListOk l lo hi z) : ListOk (srt l) lo hi z := by
  rw [listOk_iff] at h ⊢
  exact ⟨by rw [srt_len]; exact h.1, fun x hx => h.2.1 x ((srt_mem l x).1 hx), (srt_perm l).nodup_iff.2 h.2.2⟩
theorem ListOk.one {x lo hi : Int} {z : Bool} (h1 : lo ≤ x) (h2 : x ≤ hi) (h3 : x = 0 → z = true) : ListOk [x] lo hi z := by
  rw [listOk_iff]
  exact ⟨by simp, fun y hy => by rw [List.mem_singleton] at hy; subst hy; exact ⟨h1, h2, h3⟩, by simp⟩
/-- the weekday of a moment -/
def Mm.w (m : Mm) : Int := (m.day - 1) % 7
/-- no list says which days -/
def noD (r : Rc) : Bool := decide (r.wd.length + r.md.length = 0)
def nWd (r : Rc) (f : Mm) : List Int := if noD r = true ∧ r.un = 2 then [f.w] else r.wd
def nMd (r : Rc) (f : Mm) : List Int := if noD r = true ∧ (r.un = 3 ∨ r.un = 4) then [f.d] else r.md
def nMo (r : Rc) (f : Mm) : List Int := if noD r = true ∧ r.un = 4 ∧ r.mo.length = 0 then [(f.k : Int) + 1] else r.mo
/-- each n-th day becomes each n-th week -/
def nCv (r : Rc) (f : Mm) : Bool := decide (r.un = 1) && decide (r.ev.tmod 7 = 0) && lisB (nWd r f) [f.w]
/-- n is the normal form of r -/
structure NormOf (r n : Rc) (f : Mm) : Prop where
  un : n.un = if nCv r f then 2 else r.un
  ev : n.ev = if nCv r f then r.ev.tdiv 7 else r.ev
  fr : n.fr = r.fr
  co : n.co = r.co
  ut : n.ut = r.ut
  wd : n.wd = srt (if nCv r f then [f.w] else nWd r f)
  md : n.md = srt (nMd r f)
  mo : n.mo = srt (nMo r f)
theorem MmOk.day_in {m : Mm} (h : MmOk m) : 1 ≤ m.d ∧ m.d ≤ len (feb m.y) m.k ∧ m.k < 12 ∧ len (feb m.y) m.k ≤ 31 := by
  obtain ⟨hk, h1, h2⟩ := h.v
  refine ⟨h1, h2, hk, ?_⟩
  have key : ∀ k, k < 12 → len (feb m.y) k ≤ 31 := by
    rcases feb_or m.y with e | e <;> rw [e] <;> decide
  exact key _ hk
theorem Mm.w_in (m : Mm) : 0 ≤ m.w ∧ m.w ≤ 6 := by unfold Mm.w; omega
/-- a converted one: weeks of days -/
theorem cv_parts {r : Rc} {f : Mm} (ok : RcOk r) (h : nCv r f = true) : r.un = 1 ∧ ∃ e : Int, 1 ≤ e ∧ e ≤ 1000 ∧ r.ev = 7 * e ∧ r.ev.tdiv 7 = e := by
  unfold nCv at h
  simp only [Bool.and_eq_true, decide_eq_true_eq] at h
  obtain ⟨⟨h1, h2⟩, _⟩ := h
  have e1 := ok.e1
  have e2 := ok.e2
  rw [Int.tmod_eq_emod_of_nonneg (by omega)] at h2
  refine ⟨h1, r.ev / 7, by omega, by omega, by omega, ?_⟩
  rw [Int.tdiv_eq_ediv_of_nonneg (by omega)]
theorem cv_lis {r : Rc} {f : Mm} (h : nCv r f = true) : lisB (nWd r f) [f.w] = true := by
  unfold nCv at h
  simp only [Bool.and_eq_true] at h
  exact h.2
theorem nWd_ok {r : Rc} {f : Mm} (ok : RcOk r) : ListOk (nWd r f) 0 6 true := by
  unfold nWd
  split
  · exact .one f.w_in.1 f.w_in.2 (fun _ => rfl)
  · exact ok.wd
/-- the normal form is valid -/
theorem norm_ok {r n : Rc} {f : Mm} (ok : RcOk r) (okf : MmOk f) (h : NormOf r n f) : RcOk n := by
  obtain ⟨d1, d2, k1, d3⟩ := okf.day_in
  have u1 := ok.u1
  have u2 := ok.u2
  have e1 := ok.e1
  have e2 := ok.e2
  refine ⟨?_, ?_, ?_, ?_, by rw [h.fr]; exact ok.f1, by rw [h.ut]; exact ok.t1, by rw [h.fr, h.ut]; exact ok.o1, by rw [h.co]; exact ok.c1, by rw [h.co]; exact ok.c2, ?_, ?_, ?_⟩
  · rw [h.un]; split <;> omega
  · rw [h.un]; split <;> omega
  · rw [h.ev]
    split
    · rename_i hc
      obtain ⟨_, e, h1, h2, h3, h4⟩ := cv_parts ok hc
      omega
    · omega
  · rw [h.ev]
    split
    · rename_i hc
      obtain ⟨_, e, h1, h2, h3, h4⟩ := cv_parts ok hc
      omega
    · omega
  · rw [h.wd]
    apply ListOk.srt
    split
    · exact .one f.w_in.1 f.w_in.2 (fun _ => rfl)
    · exact nWd_ok ok
  · rw [h.md]
    apply ListOk.srt
    unfold nMd
    split
    · exact .one (by omega) (by omega) (fun e => by omega)
    · exact ok.md
  · rw [h.mo]
    apply ListOk.srt
    unfold nMo
    split
    · exact .one (by omega) (by omega) (fun _ => rfl)
    · exact ok.mo
/-- does a day fit, by the fields -/
def fitQ (un ev : Int) (wd md mo : List Int) (f m : Mm) : Prop :=
  (m.un un - f.un un).tmod ev = 0 ∧ (mo = [] ∨ (m.k : Int) + 1 ∈ mo) ∧ (wd = [] ∨ m.w ∈ wd) ∧ (md = [] ∨ m.d ∈ md ∨ m.d - len (feb m.y) m.k - 1 ∈ md) ∧
  (wd ≠ [] ∨ md ≠ [] ∨ ((un = 2 → m.w = f.w) ∧ (un = 3 → m.d = f.d) ∧ (un = 4 → m.d = f.d ∧ (mo ≠ [] ∨ m.k = f.k))))
theorem lisB_iff (l ns : List Int) : lisB l ns = true ↔ l = [] ∨ ∃ x ∈ ns, x ∈ l := by
  unfold lisB
  simp
theorem len_pos_iff (a b : List Int) : 0 < a.length + b.length ↔ a ≠ [] ∨ b ≠ [] := by
  cases a <;> cases b <;> simp <;> omega
theorem five {A B C D X Y : Prop} (h : X ↔ Y) : ((((A ∧ B) ∧ C) ∧ D) ∧ X) ↔ (A ∧ B ∧ C ∧ D ∧ Y) := by
  rw [h]
  constructor
  · rintro ⟨⟨⟨⟨a, b⟩, c⟩, d⟩, y⟩; exact ⟨a, b, c, d, y⟩
  · rintro ⟨a, b, c, d, y⟩; exact ⟨⟨⟨⟨a, b⟩, c⟩, d⟩, y⟩
theorem or3 {A B X Y : Prop} (h : X ↔ Y) : ((A ∨ B) ∨ X) ↔ (A ∨ B ∨ Y) := by rw [h, or_assoc]
theorem fitB_iff (r : Rc) (f m : Mm) : fitB r f m = true ↔ fitQ r.un r.ev r.wd r.md r.mo f m := by
  unfold fitB fitQ Mm.w
  simp only [Bool.and_eq_true, Bool.or_eq_true, decide_eq_true_eq, lisB_iff, len_pos_iff, List.mem_cons, List.not_mem_nil, or_false, exists_eq_left, exists_eq_or_imp]
  have hlen : (0 < r.mo.length) ↔ r.mo ≠ [] := by cases r.mo <;> simp
  refine five (or3 ?_)
  by_cases h2 : r.un = 2
  · rw [if_pos h2, decide_eq_true_eq]
    exact ⟨fun h => ⟨fun _ => h, fun e => by omega, fun e => by omega⟩, fun h => h.1 h2⟩
  rw [if_neg h2]
  by_cases h3 : r.un = 3
  · rw [if_pos h3, decide_eq_true_eq]
    exact ⟨fun h => ⟨fun e => absurd e h2, fun _ => h, fun e => by omega⟩, fun h => h.2.1 h3⟩
  rw [if_neg h3]
  by_cases h4 : r.un = 4
  · rw [if_pos h4, Bool.and_eq_true, Bool.or_eq_true, decide_eq_true_eq, decide_eq_true_eq, decide_eq_true_eq, hlen]
    exact ⟨fun h => ⟨fun e => absurd e h2, fun e => absurd e h3, fun _ => h⟩, fun h => h.2.2 h4⟩
  rw [if_neg h4]
  exact ⟨fun _ => ⟨fun e => absurd e h2, fun e => absurd e h3, fun e => absurd e h4⟩, fun _ => rfl⟩
theorem srt_nil (l : List Int) : srt l = [] ↔ l = [] := by
  rw [← List.length_eq_zero_iff, srt_len, List.length_eq_zero_iff]
theorem fitQ_srt (un ev : Int) (wd md mo : List Int) (f m : Mm) : fitQ un ev (srt wd) (srt md) (srt mo) f m ↔ fitQ un ev wd md mo f m := by
  unfold fitQ
  simp only [srt_nil, srt_mem, ne_eq]
/-- weeks of days -/
theorem weeks (a b e : Int) (he : 1 ≤ e) : (a - b).tmod (7 * e) = 0 ↔ ((a - 1) / 7 - (b - 1) / 7).tmod e = 0 ∧ (a - 1) % 7 = (b - 1) % 7 := by
  constructor
  · intro h
    obtain ⟨z, hz⟩ := Int.dvd_of_tmod_eq_zero h
    rw [Int.mul_assoc] at hz
    have e1 : (a - 1) / 7 - (b - 1) / 7 = e * z := by omega
    exact ⟨by rw [e1]; exact Int.mul_tmod_right _ _, by omega⟩
  · rintro ⟨h1, h2⟩
    obtain ⟨z, hz⟩ := Int.dvd_of_tmod_eq_zero h1
    have e1 : a - b = 7 * e * z := by rw [Int.mul_assoc]; omega
    rw [e1]
    exact Int.mul_tmod_right _ _
theorem fitQ_cv {r : Rc} {f m : Mm} (ok : RcOk r) (h : nCv r f = true) (md mo : List Int) : fitQ 2 (r.ev.tdiv 7) [f.w] md mo f m ↔ fitQ r.un r.ev (nWd r f) md mo f m := by
  obtain ⟨h1, e, he1, _, he2, he3⟩ := cv_parts ok h
  have hl := (lisB_iff _ _).1 (cv_lis h)
  rw [he3, he2, h1]
  unfold fitQ
  have hw := weeks m.day f.day e he1
  have u1 : m.un 1 - f.un 1 = m.day - f.day := by unfold Mm.un; simp
  have u2 : m.un 2 - f.un 2 = (m.day - 1) / 7 - (f.day - 1) / 7 := by unfold Mm.un; simp
  rw [u1, u2, hw]
  simp only [List.mem_singleton, exists_eq_left] at hl ⊢
  constructor
  · rintro ⟨a, b, c, d, _⟩
    have c' : m.w = f.w := c.resolve_left (by simp)
    refine ⟨⟨a, c'⟩, b, ?_, d, .inr (.inr ⟨fun e => by omega, fun e => by omega, fun e => by omega⟩)⟩
    rw [c']; exact hl
  · rintro ⟨⟨a, c⟩, b, _, d, _⟩
    exact ⟨a, b, .inr c, d, .inl (by simp)⟩
/-- the lists that are filled in -/
theorem fitQ_fill {r : Rc} {f m : Mm} (okf : MmOk f) (okm : MmOk m) : fitQ r.un r.ev (nWd r f) (nMd r f) (nMo r f) f m ↔ fitQ r.un r.ev r.wd r.md r.mo f m := by
  obtain ⟨f1, f2, f3, f4⟩ := okf.day_in
  obtain ⟨m1, m2, m3, m4⟩ := okm.day_in
  unfold nWd nMd nMo noD
  by_cases hn : r.wd.length + r.md.length = 0
  case neg =>
    rw [if_neg (fun h => hn (by simpa using h.1)), if_neg (fun h => hn (by simpa using h.1)), if_neg (fun h => hn (by simpa using h.1))]
  have hw : r.wd = [] := List.eq_nil_of_length_eq_zero (by omega)
  have hm : r.md = [] := List.eq_nil_of_length_eq_zero (by omega)
  rw [hw, hm]
  have hd : ∀ p : Prop, (decide (([] : List Int).length + ([] : List Int).length = 0) = true ∧ p) ↔ p := fun p => by simp
  by_cases h2 : r.un = 2
  · rw [if_pos ((hd _).2 h2), if_neg (by rw [hd]; omega), if_neg (by rw [hd]; omega)]
    unfold fitQ
    simp only [List.mem_singleton, List.not_mem_nil, or_false, ne_eq, not_true_eq_false, false_or, true_or, List.cons_ne_self, not_false_eq_true, true_and, and_true, reduceCtorEq]
    constructor
    · rintro ⟨a, b, c⟩
      exact ⟨a, b, fun _ => c, fun e => by omega, fun e => by omega⟩
    · rintro ⟨a, b, c, _⟩
      exact ⟨a, b, c h2⟩
  by_cases h3 : r.un = 3
  · rw [if_neg (by rw [hd]; omega), if_pos ((hd _).2 (.inl h3)), if_neg (by rw [hd]; omega)]
    unfold fitQ
    simp only [List.mem_singleton, List.not_mem_nil, or_false, ne_eq, not_true_eq_false, false_or, true_or, List.cons_ne_self, not_false_eq_true, true_and, and_true, reduceCtorEq]
    constructor
    · rintro ⟨a, b, c⟩
      exact ⟨a, b, fun e => by omega, fun _ => by omega, fun e => by omega⟩
    · rintro ⟨a, b, _, c, _⟩
      exact ⟨a, b, .inl (c h3)⟩
  by_cases h4 : r.un = 4
  · rw [if_neg (by rw [hd]; omega), if_pos ((hd _).2 (.inr h4))]
    by_cases hmo : r.mo.length = 0
    · have hmo2 : r.mo = [] := List.eq_nil_of_length_eq_zero hmo
      rw [if_pos ((hd _).2 ⟨h4, hmo⟩), hmo2]
      unfold fitQ
      simp only [List.mem_singleton, List.not_mem_nil, or_false, ne_eq, not_true_eq_false, false_or, true_or, List.cons_ne_self, not_false_eq_true, true_and, and_true, reduceCtorEq]
      constructor
      · rintro ⟨a, b, c⟩
        exact ⟨a, fun e => by omega, fun e => by omega, fun _ => ⟨by omega, by omega⟩⟩
      · rintro ⟨a, _, _, c⟩
        obtain ⟨c1, c2⟩ := c h4
        exact ⟨a, by omega, .inl c1⟩
    · have hmo2 : r.mo ≠ [] := fun e => hmo (by rw [e]; rfl)
      rw [if_neg (by rw [hd]; omega)]
      unfold fitQ
      simp only [List.mem_singleton, List.not_mem_nil, or_false, ne_eq, not_true_eq_false, false_or, true_or, List.cons_ne_self, not_false_eq_true, true_and, and_true, reduceCtorEq, hmo2]
      constructor
      · rintro ⟨a, b, c⟩
        exact ⟨a, b, fun e => by omega, fun e => by omega, fun _ => by omega⟩
      · rintro ⟨a, b, _, _, c⟩
        exact ⟨a, b, .inl (c h4)⟩
  rw [if_neg (by rw [hd]; omega), if_neg (by rw [hd]; omega), if_neg (by rw [hd]; omega)]
/-- the same days fit -/
theorem norm_fit {r n : Rc} {f m : Mm} (ok : RcOk r) (okf : MmOk f) (okm : MmOk m) (h : NormOf r n f) : fitB n f m = fitB r f m := by
  rw [Bool.eq_iff_iff, fitB_iff, fitB_iff, h.un, h.ev, h.wd, h.md, h.mo, fitQ_srt]
  rw [← fitQ_fill okf okm]
  by_cases hc : nCv r f = true
  · rw [if_pos hc, if_pos hc, if_pos hc]
    exact fitQ_cv ok hc _ _
  · rw [if_neg hc, if_neg hc, if_neg hc]
/-- the normal form of a normal form is itself -/
theorem norm_norm {r n n' : Rc} {f : Mm} (ok : RcOk r) (h : NormOf r n f) (h' : NormOf n n' f) : n'.un = n.un ∧ n'.ev = n.ev ∧ n'.fr = n.fr ∧ n'.co = n.co ∧ n'.ut = n.ut ∧ n'.wd = n.wd ∧ n'.md = n.md ∧ n'.mo = n.mo := by
  have hfill : nWd n f = n.wd ∧ nMd n f = n.md ∧ nMo n f = n.mo := by
    have key : noD n = true → n.un = 1 := by
      intro h0
      have h0' : n.wd.length + n.md.length = 0 := by simpa [noD] using h0
      rw [h.wd, h.md, srt_len, srt_len] at h0'
      rw [h.un]
      by_cases hc : nCv r f = true
      · rw [if_pos hc] at h0'; simp at h0'
      rw [if_neg hc] at h0' ⊢
      have u1 := ok.u1
      have u2 := ok.u2
      have hr : noD r = true := by
        unfold noD
        rw [decide_eq_true_eq]
        unfold nWd nMd at h0'
        split at h0'
        · simp at h0'
        · split at h0'
          · simp at h0'
          · exact h0'
      unfold nWd nMd at h0'
      by_cases h2 : r.un = 2
      · rw [if_pos ⟨hr, h2⟩] at h0'; simp at h0'
      by_cases h3 : r.un = 3 ∨ r.un = 4
      · rw [if_pos (show noD r = true ∧ (r.un = 3 ∨ r.un = 4) from ⟨hr, h3⟩)] at h0'; simp at h0'
      omega
    unfold nWd nMd nMo
    refine ⟨?_, ?_, ?_⟩
    · rw [if_neg (fun e => by have := key e.1; omega)]
    · rw [if_neg (fun e => by have := key e.1; omega)]
    · rw [if_neg (fun e => by have := key e.1; omega)]
  have hcv : nCv n f = false := by
    rw [Bool.eq_false_iff]
    intro hc
    unfold nCv at hc
    simp only [Bool.and_eq_true, decide_eq_true_eq] at hc
    obtain ⟨⟨c1, c2⟩, c3⟩ := hc
    by_cases hr : nCv r f = true
    · rw [h.un, if_pos hr] at c1; omega
    · rw [h.un, if_neg hr] at c1
      rw [h.ev, if_neg hr] at c2
      rw [hfill.1, h.wd, if_neg hr, lisB_srt] at c3
      refine hr ?_
      unfold nCv
      simp only [Bool.and_eq_true, decide_eq_true_eq]
      exact ⟨⟨c1, c2⟩, c3⟩
  have hs : ∀ l l' : List Int, l = srt l' → srt l = l := fun l l' e => by rw [e, srt_srt]
  refine ⟨by rw [h'.un, hcv]; rfl, by rw [h'.ev, hcv]; rfl, h'.fr, h'.co, h'.ut, ?_, ?_, ?_⟩
  · rw [h'.wd, hcv, hfill.1]; exact hs _ _ h.wd
  · rw [h'.md, hfill.2.1]; exact hs _ _ h.md
  · rw [h'.mo, hfill.2.2]; exact hs _ _ h.mo
end Go.Proofs.YtonhmgdokghoeaaDoor
