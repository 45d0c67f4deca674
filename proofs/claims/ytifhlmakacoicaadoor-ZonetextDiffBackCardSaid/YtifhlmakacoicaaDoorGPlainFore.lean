/- PlainFore -/
import Derived.Test.YtifhlmakacoicaaDoorGPlainZone
import Derived.Test.YtifhlmakacoicaaDoorGPlainDate
import Derived.Test.YtifhlmakacoicaaDoorGListArg
/- Plain words for forecasts: rules of a year, the day of a rule. -/
namespace Go.Proofs.YtifhlmakacoicaaDoor
open Go.RowKit
set_option linter.unusedVariables false

/-- an owned row, read as a row -/
theorem Row.of_ownS {w : World} {base : Nat} {e : TypeId} {s : Nat} {A : Option Addr} {n c : Nat} {xs : List Value} (h : w.ownsRow base e s (.slice A n c) n xs) : Row w w.heap.size A xs := by
  by_cases hn : 0 < n
  · obtain ⟨g, cap, hv, _, hlt⟩ := h.form hn
    have hA : A = some ⟨g, 0, none⟩ := by injection hv
    subst hA
    refine .inr ⟨g, 0, rfl, hlt, fun j v hv => ?_⟩
    have := h.cells (g := g) rfl j v hv
    rw [Nat.zero_add]
    rw [addPlain, Nat.zero_add] at this
    exact this
  · have h0 : n = 0 := by omega
    subst h0
    have := h.1
    exact .inl (List.eq_nil_of_length_eq_zero (by simpa using this))

/-- a rule of a year -/
structure ZR where
  m : Int
  wk : Int
  wd : Int
  ms : Int
  o : Int
  l : ByteArray
def zr0 : ZR := ⟨0, 0, 0, 0, 0, ⟨#[]⟩⟩
def zrF (c : ZR) : List Value := [.int .i64 c.m, .int .i64 c.wk, .int .i64 c.wd, .int .i64 c.ms, .int .i64 c.o, .string c.l]
theorem zrF_len (a : ZR) : (zrF a).length = 6 := rfl
/-- the numbers are ints and the labels fit -/
structure ZRFit (c : ZR) : Prop where
  m0 : -9223372036854775808 ≤ c.m
  m1 : c.m ≤ 9223372036854775807
  k0 : -9223372036854775808 ≤ c.wk
  k1 : c.wk ≤ 9223372036854775807
  d0 : -9223372036854775808 ≤ c.wd
  d1 : c.wd ≤ 9223372036854775807
  s0 : -9223372036854775808 ≤ c.ms
  s1 : c.ms ≤ 9223372036854775807
  o0 : -9223372036854775808 ≤ c.o
  o1 : c.o ≤ 9223372036854775807
  l : c.l.size ≤ maxLen
/-- the numbers of a rule are in range -/
structure ZRNum (m wk wd ms : Int) : Prop where
  m0 : 1 ≤ m
  m1 : m ≤ 12
  k0 : 1 ≤ wk
  k1 : wk ≤ 5
  d0 : 0 ≤ wd
  d1 : wd ≤ 6
  s0 : 0 ≤ ms
  s1 : ms < 86400000
/-- the check of one rule -/
def ZROk (rs : List ZR) (i : Nat) : Prop := ZRNum (rs.getD i zr0).m (rs.getD i zr0).wk (rs.getD i zr0).wd (rs.getD i zr0).ms ∧ OffOk (rs.getD i zr0).o ∧ LabelOk (rs.getD i zr0).l ∧ (0 < i → (rs.getD (i - 1) zr0).m < (rs.getD i zr0).m)
/-- the rules are valid -/
def ForeOk (rs : List ZR) : Prop := (1 ≤ rs.length ∧ rs.length ≤ 4) ∧ ∀ i, i < rs.length → ZROk rs i
theorem zr_cells {w : World} {b o : Nat} {l : List ZR} (h : ∀ j v, (l.flatMap zrF)[j]? = some v → w.cell? ⟨b, o + j, none⟩ = some v) (i : Nat) (hi : i < l.length) :
    w.cell? ⟨b, o + i * 6, none⟩ = some (.int .i64 (l.getD i zr0).m) ∧ w.cell? ⟨b, o + i * 6 + 1, none⟩ = some (.int .i64 (l.getD i zr0).wk) ∧ w.cell? ⟨b, o + i * 6 + 2, none⟩ = some (.int .i64 (l.getD i zr0).wd) ∧ w.cell? ⟨b, o + i * 6 + 3, none⟩ = some (.int .i64 (l.getD i zr0).ms) ∧ w.cell? ⟨b, o + i * 6 + 4, none⟩ = some (.int .i64 (l.getD i zr0).o) ∧ w.cell? ⟨b, o + i * 6 + 5, none⟩ = some (.string (l.getD i zr0).l) :=
  ⟨flat_cell zrF_len zr0 h i 0 hi (by omega) _ rfl, flat_cell zrF_len zr0 h i 1 hi (by omega) _ rfl, flat_cell zrF_len zr0 h i 2 hi (by omega) _ rfl, flat_cell zrF_len zr0 h i 3 hi (by omega) _ rfl, flat_cell zrF_len zr0 h i 4 hi (by omega) _ rfl, flat_cell zrF_len zr0 h i 5 hi (by omega) _ rfl⟩

/-- the day of a rule: month k (from 0 on), week wk, weekday wd -/
def foreDay (y : Int) (k : Nat) (wk wd : Int) : Int :=
  if wk = 5 then dayOf y k 1 + len (feb y) k - 1 - (dayOf y k 1 + len (feb y) k - 1 - 1 - wd) % 7 else dayOf y k 1 + (wd - (dayOf y k 1 - 1)) % 7 + 7 * (wk - 1)
/-- what the law wants of such a day -/
structure ForeDay (y : Int) (k : Nat) (wk wd D : Int) : Prop where
  wd : (D - 1) % 7 = wd
  date : ∀ y' k' d', valid y' k' d' → dayOf y' k' d' = D → y' = y ∧ k' = k ∧ (wk < 5 → (d' + 6) / 7 = wk) ∧ 1 ≤ d' ∧ d' ≤ 31
  next : wk = 5 → ∀ y' k' d', valid y' k' d' → dayOf y' k' d' = D + 7 → k' ≠ k
  low : ny y ≤ D
  high : D < ny (y + 1)
theorem foreDay_is (y : Int) (k : Nat) (wk wd : Int) (hk : k < 12) (h1 : 1 ≤ wk) (h2 : wk ≤ 5) (h3 : 0 ≤ wd) (h4 : wd ≤ 6) : ForeDay y k wk wd (foreDay y k wk wd) := by
  have hf := feb_or y
  have hl := len_pos (feb y) (by omega) k hk
  have hl' := len_le (feb y) (by omega) k
  obtain ⟨d, hd, hv, hw, h5, h6⟩ : ∃ d, dayOf y k d = foreDay y k wk wd ∧ valid y k d ∧ (foreDay y k wk wd - 1) % 7 = wd ∧ (wk < 5 → (d + 6) / 7 = wk) ∧ (wk = 5 → len (feb y) k < d + 7) := by
    refine ⟨foreDay y k wk wd - dayOf y k 1 + 1, ?_, ⟨hk, ?_, ?_⟩, ?_, ?_, ?_⟩
    all_goals unfold foreDay
    all_goals try (unfold dayOf)
    all_goals generalize ny y + cum (feb y) k = B at *
    all_goals generalize len (feb y) k = L at *
    all_goals (split <;> omega)
  have hin := dayOf_in y k d hv
  refine ⟨hw, fun y' k' d' hv' e => ?_, fun h y' k' d' hv' e => ?_, by omega, by omega⟩
  · obtain ⟨rfl, rfl, rfl⟩ := dayOf_inj y' y k' k d' d hv' hv (by omega)
    exact ⟨rfl, rfl, h5, hv.2.1, by have := hv.2.2; omega⟩
  · have h6 := h6 h
    have h7 := hv.2.2
    have hf' := feb_or (y + 1)
    by_cases hm : k + 1 < 12
    · have v : valid y (k + 1) (d + 7 - len (feb y) k) := ⟨hm, by omega, by have := len_pos (feb y) (by omega) (k + 1) hm; omega⟩
      have := dayOf_inj y' y k' (k + 1) d' _ hv' v (by rw [e, ← hd]; unfold dayOf; simp only [cum]; omega)
      omega
    · have hk11 : k = 11 := by omega
      have v : valid (y + 1) 0 (d + 7 - len (feb y) k) := ⟨by omega, by omega, by have := len_pos (feb (y + 1)) (by omega) 0 (by omega); omega⟩
      have c12 := cum_12 (feb y)
      have := dayOf_inj y' (y + 1) k' 0 d' _ hv' v (by
        rw [e, ← hd]; unfold dayOf; rw [ny_succ]; subst hk11
        have c3 : cum (feb y) 12 = cum (feb y) 11 + len (feb y) 11 := rfl
        have c0 : cum (feb (y + 1)) 0 = 0 := rfl
        omega)
      omega

/-- the offset before change i -/
def befI (before : Int) (rs : List ZR) (i : Nat) : Int := if i = 0 then before else (rs.getD (i - 1) zr0).o
/-- change i of a year -/
def chgI (before y : Int) (rs : List ZR) (i : Nat) : Chg := ⟨foreDay y ((rs.getD i zr0).m - 1).toNat (rs.getD i zr0).wk (rs.getD i zr0).wd * 86400000 + (rs.getD i zr0).ms - befI before rs i, (rs.getD i zr0).o, (rs.getD i zr0).l⟩
/-- the first k changes of a year -/
def foreChs (before y : Int) (rs : List ZR) (k : Nat) : List Chg := (List.range k).map (chgI before y rs)
theorem foreChs_len (before y : Int) (rs : List ZR) (k : Nat) : (foreChs before y rs k).length = k := by simp [foreChs]
theorem foreChs_get (before y : Int) (rs : List ZR) (k i : Nat) (h : i < k) : (foreChs before y rs k).getD i chg0 = chgI before y rs i := by simp [foreChs, List.getD, h]
theorem foreChs_succ (before y : Int) (rs : List ZR) (k : Nat) : chCells (foreChs before y rs (k + 1)) = chCells (foreChs before y rs k) ++ [.int .i64 (chgI before y rs k).a, .int .i64 (chgI before y rs k).o, .string (chgI before y rs k).l] := by
  simp [foreChs, List.range_succ, chCells]
end Go.Proofs.YtifhlmakacoicaaDoor
