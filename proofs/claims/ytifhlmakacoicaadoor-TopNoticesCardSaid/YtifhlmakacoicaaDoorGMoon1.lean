/- Moon1, Slice1, PlainDate -/
import Derived.Lib.SliceRun
import Derived.Lib.AppendZerosOnto
import Derived.Test.YtifhlmakacoicaaDoorGSearch1
import Derived.Test.YtifhlmakacoicaaDoorGPlainMoon
import Derived.Test.YtifhlmakacoicaaDoorGPlainFrac
import Derived.Test.YtifhlmakacoicaaDoorGName1
import Derived.Test.YtifhlmakacoicaaDoorGOwn
/- Contracts of package lunisolar: increasing, parts, avoided. -/
namespace Go.Proofs.YtifhlmakacoicaaDoor
open Go.RowKit
set_option linter.unusedVariables false



/-- a moon's rule: its numbers, its lists and where they lie -/
structure Mo where
  nm : ByteArray
  ep : Int
  sn : Int
  sd : Int
  mn : Int
  md : Int
  ln : Int
  ld : Int
  cy : Int
  lp : List Int
  av : List Int
  A1 : Option Addr
  c1 : Nat
  A2 : Option Addr
  c2 : Nat
/-- its cells -/
abbrev Mo.cells (m : Mo) : Array Value := #[.string m.nm, .int .i64 m.ep, .int .i64 m.sn, .int .i64 m.sd, .int .i64 m.mn, .int .i64 m.md, .int .i64 m.ln, .int .i64 m.ld, .int .i64 m.cy, .slice m.A1 m.lp.length m.c1, .slice m.A2 m.av.length m.c2]
abbrev Mo.val (m : Mo) : Value := .agg m.cells
/-- its lists lie in memory -/
def MIn (w : World) (m : Mo) : Prop := Row w w.heap.size m.A1 (ints m.lp) ∧ Row w w.heap.size m.A2 (ints m.av)
theorem MIn.next {w w' : World} {m : Mo} (h : MIn w m) (hb : Below w.heap.size w w') : MIn w' m := ⟨h.1.next hb, h.2.next hb⟩
/-- what memory bears -/
structure MFit (m : Mo) : Prop where
  nm : m.nm.size ≤ maxLen
  lp : m.lp.length ≤ maxLen
  av : m.av.length ≤ maxLen
/-- the parts of a day -/
def Mo.parts (m : Mo) : Int := partsL 1 [m.sd, m.md, m.ld]

theorem avB_iff (av : List Int) (d : Int) (j : Nat) (hj : j < av.length) (h : (d - 1) % 7 = av.getD j 0) : avB av d = true := by
  unfold avB
  exact decide_eq_true (by rw [h]; exact List.getD_eq_getElem?_getD ▸ (by simp [List.getElem?_eq_getElem hj]))
theorem avB_no (av : List Int) (d : Int) (h : ∀ j, j < av.length → (d - 1) % 7 ≠ av.getD j 0) : avB av d = false := by
  unfold avB
  refine decide_eq_false fun hm => ?_
  obtain ⟨i, hi, e⟩ := List.getElem_of_mem hm
  exact h i hi (by rw [← e]; simp [List.getD, List.getElem?_eq_getElem hi])

end Go.Proofs.YtifhlmakacoicaaDoor

/- Contracts of slices.Grow at nil, slices.Clone, slices.Concat of two, at []int. -/
namespace Go.Proofs.YtifhlmakacoicaaDoor
open Go.RowKit Go.Lib
set_option linter.unusedVariables false

theorem infoInt2 : (Tryd.prog.info? 3).map (fun i => (i.zero, i.size, i.bytes)) = some (some (.int .i64 0), 1, 8) := by kernel_rfl

theorem row_news {w : World} {b o : Nat} {cs : List Value} (h : ∀ j v, cs[j]? = some v → w.cell? ⟨b, o + j, none⟩ = some v) : ∀ j u, cs[j]? = some u → w.cell? ((⟨b, o, none⟩ : Addr).add j) = some u := fun j u hu => by
  have : (⟨b, o, none⟩ : Addr).add j = ⟨b, o + j, none⟩ := by unfold Addr.add; split <;> simp_all
  rw [this]; exact h j u hu
theorem ints_one (l : List Int) : ∀ u ∈ ints l, u.oneCell' = true := fun u hu => by
  obtain ⟨x, _, rfl⟩ := List.mem_map.1 hu; rfl

set_option maxHeartbeats 2000000 in
set_option maxRecDepth 100000 in
/-- Clone of a slice that is not empty -/
theorem clone_ints (A : Option Addr) (c : Nat) (l : List Int) (w : World) (hr : Row w w.heap.size A (ints l)) (h0 : 0 < l.length) (hn : l.length ≤ 1000000) :
    Calls Tryd.prog 28 #[.slice A l.length c] w fun e w' => ∃ v, e = .returned v ∧ w'.ownsRow w.heap.size 3 1 v l.length (ints l) ∧ Below w.heap.size w w' := by
  obtain ⟨i0, hi0, hz0, hz1, hz2⟩ := info_parts infoInt2
  obtain ⟨b, o, rfl, hb, hcs⟩ := hr.open_ (ints_ne l h0)
  have HN := Lib.hid (row_news (w := w.alloc (.cells #[] 3)) (fun j v hv => (World.cell?_alloc_lt w _ ⟨b, o + j, none⟩ hb).trans (hcs j v hv)))
  have HO : Hid ((w.alloc (.cells #[] 3)).ownsRow w.heap.size 3 1 (.slice (some ⟨w.heap.size, 0, none⟩) 0 0) 0 []) := World.ownsRow_made w #[] 0 (Nat.le_refl _) (by unfold maxLen; omega) (by simp)
  have hil := Lib.hid (ints_length l)
  clear hcs hr
  have hnil : ∀ w, (binOp .eql 34 (.slice (some ⟨b, o, none⟩) l.length c) (.slice none 0 0)).run Tryd.prog w = .ok (.bool false) w := fun w => Lib.run_eql_slice_nil w 34 _ _ _ _ _ _ Tryd.underlying34
  go_enter Tryd.func28, Tryd.ntmps28
  go_wp2_with (at_builtin; refine wpList_append_own _ rfl (.tmp 5) (.tmp 6) 34 rfl w.heap.size 3 i0 (.int .i64 0) 1 8 Tryd.underlying34 hi0 hz0 hz1 hz2 rfl (by decide) _ 0 [] rfl HO.out ⟨b, o, none⟩ l.length c (ints l) rfl ?c0 ?c1 ?c2 ?c3 ?c4 ?c5 ?_)
  case c0 => rw [hil.out]; omega
  case c1 => exact HN.out
  case c2 => exact ints_one l
  case c3 => simp only [maxLen]; omega
  case c4 => omega
  case c5 => simp
  intro v' w3 hown' hgrow _
  have hB : Below w.heap.size w w3 := (below_alloc1 w _).grown hgrow (by simp) (fun k hk => by simp [Value.ownBlock] at hk; omega)
  try simp only [Nat.zero_add, List.nil_append] at hown'
  clear hgrow
  go_wp2_with fail
  go_ret
  exact ⟨v', rfl, hown', hB⟩

end Go.Proofs.YtifhlmakacoicaaDoor

/- Plain arithmetic of the Gregorian calendar, no program in sight. -/
namespace Go.Proofs.YtifhlmakacoicaaDoor
set_option linter.unusedVariables false

/-- a leap year -/
def leapB (y : Int) : Bool := decide (y % 4 = 0 ∧ (y % 100 ≠ 0 ∨ y % 400 = 0))
/-- days of February -/
def feb (y : Int) : Int := if leapB y then 29 else 28
/-- 1 January -/
def ny (y : Int) : Int := 365 * (y - 1) + (y - 1) / 4 - (y - 1) / 100 + (y - 1) / 400 + 1
/-- the lengths of the months, f: February's -/
def lens (f : Int) : List Int := [31, f, 31, 30, 31, 30, 31, 31, 30, 31, 30, 31]
/-- the length of month k (from 0 on) -/
def len (f : Int) (k : Nat) : Int := (lens f).getD k 0
/-- the days of the first k months -/
def cum (f : Int) : Nat → Int
  | 0 => 0
  | k + 1 => cum f k + len f k

theorem feb_or (y : Int) : feb y = 28 ∨ feb y = 29 := by unfold feb; split <;> simp
theorem ny_succ (y : Int) : ny (y + 1) = ny y + 337 + feb y := by
  unfold ny feb leapB
  by_cases h : y % 4 = 0 ∧ (y % 100 ≠ 0 ∨ y % 400 = 0)
  · rw [if_pos (by simpa using h)]; omega
  · rw [if_neg (by simpa using h)]; omega
theorem cum_12 (f : Int) : cum f 12 = 337 + f := by simp [cum, len, lens]; omega
theorem len_pos (f : Int) (h : 28 ≤ f) (k : Nat) (hk : k < 12) : 28 ≤ len f k := by
  match k, hk with
  | 0, _ | 1, _ | 2, _ | 3, _ | 4, _ | 5, _ | 6, _ | 7, _ | 8, _ | 9, _ | 10, _ | 11, _ => simp [len, lens]; try omega
theorem len_le (f : Int) (h : f ≤ 31) (k : Nat) : len f k ≤ 31 := by
  match k with
  | 0 | 1 | 2 | 3 | 4 | 5 | 6 | 7 | 8 | 9 | 10 | 11 => simp [len, lens]; try omega
  | n + 12 => simp [len, lens]
theorem cum_mono (f : Int) (h : 28 ≤ f) (k j : Nat) (hj : k + j ≤ 12) : cum f k ≤ cum f (k + j) := by
  induction j with
  | zero => simp
  | succ j ih =>
    have := len_pos f h (k + j) (by omega)
    have := ih (by omega)
    rw [← Nat.add_assoc]; simp only [cum]; omega
theorem ny_bounds (y : Int) (h : ny y > -4000001) : -10955 ≤ y := by unfold ny at h; omega
theorem ny_bounds' (y : Int) (h : ny y ≤ 4000001) : y ≤ 10955 := by unfold ny at h; omega
theorem ny_lo (y : Int) (h : y ≤ 20000) (h' : -20000 ≤ y) : -8000000 ≤ ny y ∧ ny y ≤ 8000000 := by unfold ny; omega
/-- the day d of month k (from 0 on) of year y -/
def dayOf (y : Int) (k : Nat) (d : Int) : Int := ny y + cum (feb y) k + d - 1
/-- such a date exists -/
def valid (y : Int) (k : Nat) (d : Int) : Prop := k < 12 ∧ 1 ≤ d ∧ d ≤ len (feb y) k

theorem dayOf_in (y : Int) (k : Nat) (d : Int) (h : valid y k d) : ny y ≤ dayOf y k d ∧ dayOf y k d < ny (y + 1) := by
  obtain ⟨hk, h1, h2⟩ := h
  have hf := feb_or y
  have c1 := cum_mono (feb y) (by omega) 0 k (by omega)
  have c2 := cum_mono (feb y) (by omega) (k + 1) (11 - k) (by omega)
  rw [show k + 1 + (11 - k) = 12 from by omega, cum_12] at c2
  have c3 : cum (feb y) (k + 1) = cum (feb y) k + len (feb y) k := rfl
  have c4 : cum (feb y) 0 = 0 := rfl
  rw [ny_succ]
  rw [Nat.zero_add] at c1
  unfold dayOf
  omega
theorem ny_mono (a b : Int) (h : a ≤ b) : ny a ≤ ny b := by unfold ny; omega
/-- a day has one date -/
theorem dayOf_inj (y y' : Int) (k k' : Nat) (d d' : Int) (h : valid y k d) (h' : valid y' k' d') (e : dayOf y k d = dayOf y' k' d') : y = y' ∧ k = k' ∧ d = d' := by
  obtain ⟨a1, a2⟩ := dayOf_in y k d h
  obtain ⟨b1, b2⟩ := dayOf_in y' k' d' h'
  have hy : y = y' := by
    rcases Int.lt_trichotomy y y' with g | g | g
    · have := ny_mono (y + 1) y' (by omega); omega
    · exact g
    · have := ny_mono (y' + 1) y (by omega); omega
  subst hy
  obtain ⟨hk, h1, h2⟩ := h
  obtain ⟨hk', h1', h2'⟩ := h'
  have hf := feb_or y
  have hkk : k = k' := by
    rcases Nat.lt_trichotomy k k' with g | g | g
    · have c := cum_mono (feb y) (by omega) (k + 1) (k' - (k + 1)) (by omega)
      rw [show k + 1 + (k' - (k + 1)) = k' from by omega] at c
      have c3 : cum (feb y) (k + 1) = cum (feb y) k + len (feb y) k := rfl
      unfold dayOf at e; omega
    · exact g
    · have c := cum_mono (feb y) (by omega) (k' + 1) (k - (k' + 1)) (by omega)
      rw [show k' + 1 + (k - (k' + 1)) = k from by omega] at c
      have c3 : cum (feb y) (k' + 1) = cum (feb y) k' + len (feb y) k' := rfl
      unfold dayOf at e; omega
  subst hkk
  refine ⟨rfl, rfl, ?_⟩
  unfold dayOf at e; omega
/-- the date of the next day -/
theorem next_date (y y' : Int) (k k' : Nat) (d d' : Int) (h : valid y k d) (h' : valid y' k' d') (e : dayOf y' k' d' = dayOf y k d + 1) :
    (y' = y ∧ k' = k ∧ d' = d + 1) ∨ (d' = 1 ∧ y' = y ∧ k' = k + 1) ∨ (d' = 1 ∧ y' = y + 1 ∧ k' = 0 ∧ k = 11) := by
  obtain ⟨hk, h1, h2⟩ := h
  have hf := feb_or y
  have hf' := feb_or (y + 1)
  by_cases hd : d + 1 ≤ len (feb y) k
  · left
    have v : valid y k (d + 1) := ⟨hk, by omega, hd⟩
    have := dayOf_inj y' y k' k d' (d + 1) h' v (by rw [e]; unfold dayOf; omega)
    exact this
  · right
    by_cases hm : k + 1 < 12
    · left
      have v : valid y (k + 1) 1 := ⟨hm, by omega, by have := len_pos (feb y) (by omega) (k + 1) hm; omega⟩
      have := dayOf_inj y' y k' (k + 1) d' 1 h' v (by rw [e]; unfold dayOf; simp only [cum]; omega)
      exact ⟨this.2.2, this.1, this.2.1⟩
    · right
      have hk11 : k = 11 := by omega
      have v : valid (y + 1) 0 1 := ⟨by omega, by omega, by have := len_pos (feb (y + 1)) (by omega) 0 (by omega); omega⟩
      have c12 := cum_12 (feb y)
      have := dayOf_inj y' (y + 1) k' 0 d' 1 h' v (by
        rw [e]; unfold dayOf; rw [ny_succ]; subst hk11
        have c3 : cum (feb y) 12 = cum (feb y) 11 + len (feb y) 11 := rfl
        have c0 : cum (feb (y + 1)) 0 = 0 := rfl
        omega)
      exact ⟨this.2.2, this.1, this.2.1, hk11⟩
theorem year_in (y : Int) (k : Nat) (d : Int) (h : valid y k d) (h1 : -3640000 ≤ dayOf y k d) (h2 : dayOf y k d ≤ 3640000) : -10000 ≤ y ∧ y ≤ 10000 := by
  obtain ⟨a1, a2⟩ := dayOf_in y k d h
  unfold ny at a1 a2
  omega
end Go.Proofs.YtifhlmakacoicaaDoor
