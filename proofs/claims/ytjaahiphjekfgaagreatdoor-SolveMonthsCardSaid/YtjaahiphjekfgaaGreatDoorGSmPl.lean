/- SmPl -/
import Derived.Test.YtjaahiphjekfgaaGreatDoorGSvPl
import Derived.Test.YtjaahiphjekfgaaGreatDoorGSv2
/- First and last weekdays of months, plain. -/
namespace Go.Proofs.YtjaahiphjekfgaaGreatDoor
open Go Go.RowKit
set_option linter.unusedVariables false

/-- the days of a weekday -/
def feWd (wd : Int) : FE := .node 3 wd 0 ⟨#[]⟩ none 0 []
/-- the a-th of them in a month of a calendar -/
def feNth (a wd : Int) (nm : ByteArray) (A : Option Addr) (c : Nat) : FE := .node 12 a 0 nm A c [feWd wd]
theorem feWd_mem (wd d : Int) : memF (feWd wd) d ↔ DayIn d ∧ (d - 1) % 7 = wd := by
  unfold feWd
  rw [memF]
  exact Iff.rfl
theorem feWd_ok {wd : Int} (h : 0 ≤ wd ∧ wd ≤ 6) : FeOk (feWd wd) := .mk ⟨by omega, by omega, rfl, fun h => (by cases h), fun _ => rfl, fun _ => rfl, fun _ => h, fun h => (by cases h)⟩ (fun x hx => by cases hx)
theorem feNth_good {a wd : Int} {r : CatRow} (hr : r ∈ catR) {A : Option Addr} {c : Nat} (ha : a = 1 ∨ a = -1) (hw : 0 ≤ wd ∧ wd ≤ 6) : FeGood (feNth a wd (str r.nm) A c) := by
  refine ⟨.mk ⟨by omega, by omega, rfl, fun h => (by cases h), fun h => (by cases h), fun h => (by cases h), fun h => (by cases h), fun _ => ⟨r, hr, rfl, (show (-50 ≤ a ∧ a ≤ 50) ∧ a ≠ 0 ∧ (0 ≤ (0 : Int) ∧ (0 : Int) ≤ r.t.mo.length) from ⟨by omega, by omega, by omega, by omega⟩)⟩⟩ (fun x hx => by rw [List.mem_singleton] at hx; rw [hx]; exact feWd_ok hw), ?_, ?_, ?_⟩
  · simp [feNth, feWd, fsz, fszL]
  · simp [feNth, feWd, fht, fhtL]
  · simp [feNth, feWd, fdh, fdhL, isDp]
theorem feNth_mem {a wd : Int} {r : CatRow} (hr : r ∈ catR) (A : Option Addr) (c : Nat) (x : Int) : memF (feNth a wd (str r.nm) A c) x ↔ MemR (rowCal r) (R12 (rowCal r) (memF (feWd wd)) a 0) x := by
  have h := mem_nth hr rfl (rowCal_of r) a 0 A c [feWd wd] x
  rwa [show memL [feWd wd] 0 = memF (feWd wd) from funext fun x => propext (memL_get [feWd wd] 0 x (by simp))] at h
/-- the truths of a month -/
def wdL (f wd : Int) (n : Nat) : List Bool := (List.range n).map fun (i : Nat) => decide ((f + (i : Int) - 1) % 7 = wd)
theorem wdL_len (f wd : Int) (n : Nat) : (wdL f wd n).length = n := by simp [wdL]
theorem wdL_at (f wd : Int) (n i : Nat) (h : i < n) : (wdL f wd n)[i]? = some (decide ((f + (i : Int) - 1) % 7 = wd)) := by simp [wdL, h]
theorem wdL_is (f wd : Int) (n : Nat) (h1 : -4000000 ≤ f) (h2 : f + n ≤ 4000000) : ∀ i, i < n → ((wdL f wd n).getD i false = true ↔ memF (feWd wd) (f + (i : Int))) := by
  intro i hi
  rw [List.getD_eq_getElem?_getD, wdL_at f wd n i hi, feWd_mem]
  simp only [Option.getD_some, decide_eq_true_eq]
  exact ⟨fun h => ⟨⟨by omega, by omega⟩, h⟩, fun h => h.2⟩
theorem count_zero {l : List Bool} (h : ∀ i : Nat, l[i]? ≠ some true) : l.count true = 0 := by
  rw [List.count_eq_zero]
  intro hm
  obtain ⟨i, hi, he⟩ := List.getElem_of_mem hm
  exact h i (by rw [List.getElem?_eq_getElem hi, he])
theorem count_zero' {l : List Bool} (h : l.count true = 0) (i : Nat) : l[i]? ≠ some true := by
  intro he
  rw [List.count_eq_zero] at h
  exact h (List.mem_of_getElem? he)
theorem nth_first {f wd : Int} {n d : Nat} (h1 : -4000000 ≤ f) (h2 : f + n ≤ 4000000) (hd : d < n) : NthP (memF (feWd wd)) f n 1 d ↔ (f + (d : Int) - 1) % 7 = wd ∧ d < 7 := by
  have hL := wdL_len f wd n
  constructor
  · intro h
    obtain ⟨q1, _, q3, _⟩ := h.of hL (wdL_is f wd n h1 h2)
    rw [wdL_at f wd n d hd] at q1
    have hw : (f + (d : Int) - 1) % 7 = wd := by simpa using q1
    refine ⟨hw, ?_⟩
    have h0 : ((wdL f wd n).take d).count true = 0 := by have := q3 (by omega); omega
    by_cases h7 : d < 7
    · exact h7
    · exfalso
      have := count_zero' h0 (d - 7)
      rw [List.getElem?_take, if_pos (by omega), wdL_at f wd n (d - 7) (by omega)] at this
      apply this
      have e : (f + ((d - 7 : Nat) : Int) - 1) % 7 = wd := by omega
      rw [decide_eq_true e]
  · rintro ⟨hw, h7⟩
    refine ⟨wdL f wd n, hL, wdL_is f wd n h1 h2, by rw [wdL_at f wd n d hd]; simp [hw], by omega, fun _ => ?_, fun h => by omega⟩
    rw [count_zero]
    · rfl
    · intro i hi
      rw [List.getElem?_take] at hi
      split at hi
      · rename_i hid
        rw [wdL_at f wd n i (by omega)] at hi
        have : (f + (i : Int) - 1) % 7 = wd := by simpa using hi
        omega
      · cases hi
theorem nth_last {f wd : Int} {n d : Nat} (h1 : -4000000 ≤ f) (h2 : f + n ≤ 4000000) (hd : d < n) : NthP (memF (feWd wd)) f n (-1) d ↔ (f + (d : Int) - 1) % 7 = wd ∧ n ≤ d + 7 := by
  have hL := wdL_len f wd n
  constructor
  · intro h
    obtain ⟨q1, _, _, q4⟩ := h.of hL (wdL_is f wd n h1 h2)
    have q1' := q1
    rw [wdL_at f wd n d hd] at q1
    have hw : (f + (d : Int) - 1) % 7 = wd := by simpa using q1
    refine ⟨hw, ?_⟩
    have hc := count_drop_pred _ d true q1'
    have h0 : ((wdL f wd n).drop (d + 1)).count true = 0 := by have := q4 (by omega); simp at hc; omega
    by_cases h7 : n ≤ d + 7
    · exact h7
    · exfalso
      have := count_zero' h0 6
      rw [List.getElem?_drop, show d + 1 + 6 = d + 7 from by omega, wdL_at f wd n (d + 7) (by omega)] at this
      apply this
      have e : (f + ((d + 7 : Nat) : Int) - 1) % 7 = wd := by omega
      rw [decide_eq_true e]
  · rintro ⟨hw, h7⟩
    have q1 : (wdL f wd n)[d]? = some true := by rw [wdL_at f wd n d hd]; simp [hw]
    refine ⟨wdL f wd n, hL, wdL_is f wd n h1 h2, q1, by omega, fun h => by omega, fun _ => ?_⟩
    rw [count_drop_pred _ d true q1, count_zero]
    · rfl
    · intro i hi
      rw [List.getElem?_drop] at hi
      by_cases hin : d + 1 + i < n
      · rw [wdL_at f wd n _ hin] at hi
        have : (f + ((d + 1 + i : Nat) : Int) - 1) % 7 = wd := by simpa using hi
        omega
      · rw [List.getElem?_eq_none (by rw [hL]; omega)] at hi
        cases hi
/-- the first of a weekday in a month -/
theorem first_iff {wd : Int} {r : CatRow} (hr : r ∈ catR) (A : Option Addr) (c0 : Nat) {y : Int} {m : Nat} {d x : Int} (ho : IsOn (rowCal r) y m d x) (hy1 : -10000 ≤ y) (hy2 : y ≤ 10000) (hx : -3000000 ≤ x ∧ x ≤ 3000000) : memF (feNth 1 wd (str r.nm) A c0) x ↔ (x - 1) % 7 = wd ∧ d < 7 := by
  have ok := rowCal_ok hr
  have hml := Cal.mlen_in ok y m ho.m1
  have hd0 := ho.d0
  have hd1 := ho.d1
  have key := nth_first (f := x - d) (wd := wd) (n := ((rowCal r).mlen y m).toNat) (d := d.toNat) (by omega) (by omega) (by omega)
  rw [show x - d + (d.toNat : Int) - 1 = x - 1 from by omega] at key
  rw [feNth_mem hr]
  constructor
  · rintro ⟨_, y', m', d', _, _, ho', _, hR⟩
    obtain ⟨rfl, rfl, rfl⟩ := ho'.unique ok ho
    have := key.1 hR
    exact ⟨this.1, by omega⟩
  · rintro ⟨h1, h2⟩
    exact ⟨⟨by omega, by omega⟩, y, m, d, hy1, hy2, ho, .inl rfl, key.2 ⟨h1, by omega⟩⟩
/-- the last of a weekday in a month -/
theorem last_iff {wd : Int} {r : CatRow} (hr : r ∈ catR) (A : Option Addr) (c0 : Nat) {y : Int} {m : Nat} {d x : Int} (ho : IsOn (rowCal r) y m d x) (hy1 : -10000 ≤ y) (hy2 : y ≤ 10000) (hx : -3000000 ≤ x ∧ x ≤ 3000000) : memF (feNth (-1) wd (str r.nm) A c0) x ↔ (x - 1) % 7 = wd ∧ (rowCal r).mlen y m ≤ d + 7 := by
  have ok := rowCal_ok hr
  have hml := Cal.mlen_in ok y m ho.m1
  have hd0 := ho.d0
  have hd1 := ho.d1
  have key := nth_last (f := x - d) (wd := wd) (n := ((rowCal r).mlen y m).toNat) (d := d.toNat) (by omega) (by omega) (by omega)
  rw [show x - d + (d.toNat : Int) - 1 = x - 1 from by omega] at key
  rw [feNth_mem hr]
  constructor
  · rintro ⟨_, y', m', d', _, _, ho', _, hR⟩
    obtain ⟨rfl, rfl, rfl⟩ := ho'.unique ok ho
    have := key.1 hR
    exact ⟨this.1, by omega⟩
  · rintro ⟨h1, h2⟩
    exact ⟨⟨by omega, by omega⟩, y, m, d, hy1, hy2, ho, .inl rfl, key.2 ⟨h1, by omega⟩⟩
theorem Cal.ny_minD {c : Cal} (ok : CalOk c) (L : Int) (hS : L ≤ sumS c.mo) (hL : L ≤ sumL c.mo) : ∀ k : Nat, c.ny (1 - (k : Int)) ≤ c.ep - L * (k : Int) := by
  intro k
  induction k with
  | zero =>
    have := Cal.ny_one ok
    simp only [Int.natCast_zero, Int.mul_zero, Int.sub_zero]
    omega
  | succ k ih =>
    have h1 := Cal.ny_step ok (1 - ((k + 1 : Nat) : Int))
    have h2 : L ≤ c.ylen (1 - ((k + 1 : Nat) : Int)) := by unfold Cal.ylen; split <;> omega
    rw [show (1 : Int) - ((k + 1 : Nat) : Int) + 1 = 1 - (k : Int) from by omega] at h1
    rw [show L * ((k + 1 : Nat) : Int) = L * (k : Int) + L from by rw [Int.natCast_add, Int.mul_add]; simp]
    omega
theorem sm_rows : catR.all (fun r => decide (r.t.ep - min (sumS r.t.mo) (sumL r.t.mo) * 10001 ≤ 1 ∧ sumS r.t.mo ≤ 2000 ∧ sumL r.t.mo ≤ 2000 ∧ 7 ≤ (r.t.mo.getD 0 mth0).sh ∧ 7 ≤ (r.t.mo.getD 0 mth0).lo)) = true := by decide +kernel
/-- a day of the laws is in a year of the calendar -/
theorem year_at {r : CatRow} (hr : r ∈ catR) (day : Int) (h1 : 1 ≤ day) (h2 : day ≤ 1000000) : ∃ y, -10000 ≤ y ∧ y ≤ 10000 ∧ (rowCal r).ny y ≤ day ∧ day < (rowCal r).ny (y + 1) := by
  have ok := rowCal_ok hr
  have hd := of_decide_eq_true (List.all_eq_true.1 sm_rows r hr)
  have hf := far_row hr ok (rowCal_of r)
  have hlo : (rowCal r).ny (-10000) ≤ 1 := by
    have := Cal.ny_minD ok (min (sumS r.t.mo) (sumL r.t.mo)) (Int.min_le_left _ _) (Int.min_le_right _ _) 10001
    rw [show (1 : Int) - ((10001 : Nat) : Int) = -10000 from rfl, show ((10001 : Nat) : Int) = 10001 from rfl] at this
    have e : (rowCal r).ep = r.t.ep := rfl
    rw [e] at this
    omega
  have key : ∀ k : Nat, day < (rowCal r).ny (-10000 + ((k + 1 : Nat) : Int)) → ∃ y, -10000 ≤ y ∧ y ≤ -10000 + (k : Int) ∧ (rowCal r).ny y ≤ day ∧ day < (rowCal r).ny (y + 1) := by
    intro k
    induction k with
    | zero => intro h; exact ⟨-10000, by omega, by omega, by omega, by simpa using h⟩
    | succ k ih =>
      intro h
      by_cases hk : day < (rowCal r).ny (-10000 + ((k + 1 : Nat) : Int))
      · obtain ⟨y, a, b, c, d⟩ := ih hk
        exact ⟨y, a, by omega, c, d⟩
      · refine ⟨-10000 + ((k + 1 : Nat) : Int), by omega, by omega, by omega, ?_⟩
        rw [show -10000 + ((k + 1 : Nat) : Int) + 1 = -10000 + ((k + 1 + 1 : Nat) : Int) from by omega]
        exact h
  have hk := key 20000 (by rw [show (-10000 : Int) + ((20000 + 1 : Nat) : Int) = 10001 from rfl]; omega)
  obtain ⟨y, a, b, c, d⟩ := hk
  exact ⟨y, a, by omega, c, d⟩
/-- there is a first of the weekday soon -/
theorem first_soon {wd : Int} {r : CatRow} (hr : r ∈ catR) (A : Option Addr) (c0 : Nat) (hw : 0 ≤ wd ∧ wd ≤ 6) (day : Int) (h1 : 1 ≤ day) (h2 : day ≤ 700000) : ∃ x, day ≤ x ∧ x ≤ day + 3000 ∧ memF (feNth 1 wd (str r.nm) A c0) x := by
  have ok := rowCal_ok hr
  have hd := of_decide_eq_true (List.all_eq_true.1 sm_rows r hr)
  have hf := far_row hr ok (rowCal_of r)
  obtain ⟨y, hy1, hy2, hy3, hy4⟩ := year_at hr day h1 (by omega)
  have hyl : y ≤ 9000 := by
    by_cases h : y ≤ 9000
    · exact h
    · have := Cal.ny_le ok (show (9001 : Int) ≤ y by omega); omega
  have hs := Cal.ny_step ok y
  have hl : (rowCal r).ylen y ≤ 2000 := by
    have e : (rowCal r).mo = r.t.mo := rfl
    unfold Cal.ylen
    rw [e]
    split <;> omega
  have hm7 : 7 ≤ (rowCal r).mlen (y + 1) 0 := by
    have e : (rowCal r).mo = r.t.mo := rfl
    unfold Cal.mlen
    rw [e]
    split <;> omega
  obtain ⟨i, hi0, hi6, hiw⟩ : ∃ i : Int, 0 ≤ i ∧ i ≤ 6 ∧ ((rowCal r).ny (y + 1) + i - 1) % 7 = wd := ⟨(wd - ((rowCal r).ny (y + 1) - 1)) % 7, by omega, by omega, by omega⟩
  have ho : IsOn (rowCal r) (y + 1) 0 i ((rowCal r).ny (y + 1) + i) := ⟨by have := ok.mo.n1; omega, hi0, by omega, by rw [Cal.pre_zero]; omega⟩
  exact ⟨_, by omega, by omega, (first_iff hr A c0 ho (by omega) (by omega) (by omega)).2 ⟨hiw, by omega⟩⟩
end Go.Proofs.YtjaahiphjekfgaaGreatDoor
