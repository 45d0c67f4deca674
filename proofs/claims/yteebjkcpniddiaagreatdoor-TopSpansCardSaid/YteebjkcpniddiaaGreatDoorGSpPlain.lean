/- SpPlain, SpPlain2, SpPlain3 -/
import Derived.Test.YteebjkcpniddiaaGreatDoorGAr1
import Derived.Test.YteebjkcpniddiaaGreatDoorGName1
import Derived.Test.YteebjkcpniddiaaGreatDoorGCatOk
/- Durations, plain: what add says, and that it says one thing; how months go on. -/
namespace Go.Proofs.YteebjkcpniddiaaGreatDoor
open Go Go.RowKit
set_option linter.unusedVariables false

/-- the cells of a duration -/
def lenC (y m d s : Int) : Array Value := #[.int .i64 y, .int .i64 m, .int .i64 d, .int .i64 s]
def DayOk (d : Int) : Prop := -4000000 ≤ d ∧ d ≤ 4000000
/-- the day of an instant, some years and months on -/
def MvP (c : Cal) (y : Int) (m : Nat) (d a yr : Int) (mn : Nat) (v E : Int) : Prop :=
  (yr = 0 ∧ mn = 0 ∧ v = a / 86400000 ∧ E = 0) ∨ (¬ (yr = 0 ∧ mn = 0) ∧ LaterP c y m d yr mn v E)
/-- the rest of it -/
def RestP (a v E dd ms o F : Int) : Prop :=
  (E ≠ 0 ∧ o = 0 ∧ F = E) ∨ (E = 0 ∧ ¬ DayOk (v + dd) ∧ o = 0 ∧ F = 3) ∨ (E = 0 ∧ DayOk (v + dd) ∧ ¬ InstOk ((v + dd) * 86400000 + a % 86400000 + ms) ∧ o = 0 ∧ F = 3) ∨
    (E = 0 ∧ DayOk (v + dd) ∧ InstOk ((v + dd) * 86400000 + a % 86400000 + ms) ∧ o = (v + dd) * 86400000 + a % 86400000 + ms ∧ F = 0)
/-- what add says -/
def AddP (c : Cal) (y : Int) (m : Nat) (d a yr : Int) (mn : Nat) (dd ms o F : Int) : Prop := ∃ v E, MvP c y m d a yr mn v E ∧ RestP a v E dd ms o F
theorem MvP.unique {c : Cal} {y : Int} {m : Nat} {d a yr : Int} {mn : Nat} {v E v' E' : Int} (h : MvP c y m d a yr mn v E) (h' : MvP c y m d a yr mn v' E') : v = v' ∧ E = E' := by
  rcases h with ⟨a1, a2, rfl, rfl⟩ | ⟨a1, h⟩
  · rcases h' with ⟨_, _, rfl, rfl⟩ | ⟨b1, _⟩
    · exact ⟨rfl, rfl⟩
    · exact absurd ⟨a1, a2⟩ b1
  · rcases h' with ⟨b1, b2, _⟩ | ⟨_, h'⟩
    · exact absurd ⟨b1, b2⟩ a1
    · exact h.unique h'
theorem MvP.is {c : Cal} {y : Int} {m : Nat} {d a yr : Int} {mn : Nat} {v E : Int} (h : MvP c y m d a yr mn v E) (ha : InstOk a) : DayOk v := by
  rcases h with ⟨a1, a2, rfl, rfl⟩ | ⟨a1, h⟩
  · unfold InstOk at ha; unfold DayOk; omega
  · exact h.is
theorem RestP.unique {a v E dd ms o F o' F' : Int} (h : RestP a v E dd ms o F) (h' : RestP a v E dd ms o' F') : o = o' ∧ F = F' := by
  rcases h with ⟨a1, rfl, rfl⟩ | ⟨a1, a2, rfl, rfl⟩ | ⟨a1, a2, a3, rfl, rfl⟩ | ⟨a1, a2, a3, rfl, rfl⟩ <;>
  rcases h' with ⟨b1, rfl, rfl⟩ | ⟨b1, b2, rfl, rfl⟩ | ⟨b1, b2, b3, rfl, rfl⟩ | ⟨b1, b2, b3, rfl, rfl⟩ <;>
  first
    | exact ⟨rfl, rfl⟩
    | exact absurd b1 a1
    | exact absurd a1 b1
    | exact absurd b2 a2
    | exact absurd a2 b2
    | exact absurd b3 a3
    | exact absurd a3 b3
theorem AddP.unique {c : Cal} {y : Int} {m : Nat} {d a yr : Int} {mn : Nat} {dd ms o F o' F' : Int} (h : AddP c y m d a yr mn dd ms o F) (h' : AddP c y m d a yr mn dd ms o' F') : o = o' ∧ F = F' := by
  obtain ⟨v, E, h1, h2⟩ := h
  obtain ⟨v', E', h1', h2'⟩ := h'
  obtain ⟨rfl, rfl⟩ := h1.unique h1'
  exact h2.unique h2'
/-- what was left over is added back -/
theorem AddP.back {c : Cal} {y : Int} {m : Nat} {d a b yr : Int} {mn : Nat} {at_ o F : Int} (h : AddP c y m d a yr mn 0 0 at_ 0) (ha : InstOk a) (hb : InstOk b) (hle : at_ ≤ b) (h' : AddP c y m d a yr mn ((b - at_) / 86400000) ((b - at_) % 86400000) o F) : o = b ∧ F = 0 := by
  obtain ⟨v, E, h1, h2⟩ := h
  obtain ⟨v', E', h1', h2'⟩ := h'
  obtain ⟨rfl, rfl⟩ := h1.unique h1'
  have hd := h1.is ha
  unfold RestP at h2 h2'
  unfold DayOk InstOk at *
  rcases h2 with ⟨a1, e1, e2⟩ | ⟨a1, a2, e1, e2⟩ | ⟨a1, a2, a3, e1, e2⟩ | ⟨a1, a2, a3, e1, e2⟩
  · exact absurd e2.symm a1
  · omega
  · omega
  · rcases h2' with ⟨b1, e3, e4⟩ | ⟨b1, b2, e3, e4⟩ | ⟨b1, b2, b3, e3, e4⟩ | ⟨b1, b2, b3, e3, e4⟩
    · exact absurd a1 b1
    · omega
    · omega
    · omega
/-- no years and months: days and milliseconds alone -/
theorem AddP.plain {c : Cal} {y : Int} {m : Nat} {d a dd ms o F : Int} (h : AddP c y m d a 0 0 dd ms o F) (h1 : DayOk (a / 86400000 + dd)) (h2 : InstOk (a + dd * 86400000 + ms)) : o = a + dd * 86400000 + ms ∧ F = 0 := by
  obtain ⟨v, E, h3, h4⟩ := h
  rcases h3 with ⟨_, _, rfl, rfl⟩ | ⟨hno, _⟩
  · unfold RestP at h4
    unfold DayOk InstOk at *
    rcases h4 with ⟨b1, e3, e4⟩ | ⟨b1, b2, e3, e4⟩ | ⟨b1, b2, b3, e3, e4⟩ | ⟨b1, b2, b3, e3, e4⟩ <;> omega
  · exact absurd ⟨rfl, rfl⟩ hno
/-- the same calendar, wherever it lies -/
theorem Moves.cong {c c' : Cal} (h1 : c.mo = c'.mo) (h2 : ∀ y m, c.mlen y m = c'.mlen y m) : ∀ {n : Nat} {y : Int} {m : Nat} {y' : Int} {m' : Nat}, Moves c n y m y' m' → Moves c' n y m y' m'
  | 0, _, _, _, _, h => h
  | n + 1, _, _, _, _, ⟨a, b, h3, h4⟩ => ⟨a, b, Moves.cong h1 h2 h3, by
      obtain ⟨p, q, r⟩ := h4
      refine ⟨by rw [← h1]; exact p, by rw [← h2]; exact q, ?_⟩
      rcases r with ⟨r1, r2, r3⟩ | ⟨r1, r2, r3⟩
      · exact .inl ⟨r1, r2, fun i a b => by rw [← h2]; exact r3 i a b⟩
      · exact .inr ⟨r1, fun i a b => by rw [← h2]; exact r2 i a (by rw [h1]; exact b), fun i a => by rw [← h2]; exact r3 i a⟩⟩
theorem cal_same {r : CatRow} {c c' : Cal} (h : CalOf r c) (h' : CalOf r c') : c.mo = c'.mo ∧ (∀ y m, c.mlen y m = c'.mlen y m) := by
  obtain ⟨n1, p1, y1, m1, l1, A1, c1, A2, c2⟩ := c
  obtain ⟨n2, p2, y2, m2, l2, B1, b1, B2, b2⟩ := c'
  obtain ⟨g1, g2, g3, g4, g5⟩ := h
  obtain ⟨k1, k2, k3, k4, k5⟩ := h'
  dsimp only at *
  subst g3 g4 g5 k3 k4 k5
  exact ⟨rfl, fun y m => rfl⟩
theorem LaterP.cong {r : CatRow} {c c' : Cal} (h : CalOf r c) (h' : CalOf r c') {y : Int} {m : Nat} {d yrs : Int} {n : Nat} {v E : Int} (hl : LaterP c y m d yrs n v E) : LaterP c' y m d yrs n v E := by
  obtain ⟨e1, e2⟩ := cal_same h h'
  rcases hl with hl | ⟨a, y1, m1, y2, m2, f, g, k⟩
  · exact .inl hl
  · refine .inr ⟨a, y1, m1, y2, m2, ?_, g.cong e1 e2, ?_⟩
    · rcases f with ⟨p, q⟩ | ⟨p, q⟩
      · exact .inl ⟨by rw [← e2]; exact p, q⟩
      · have h1 : Moves c 1 (y + yrs) m y1 m1 := ⟨_, _, ⟨rfl, rfl⟩, q⟩
        obtain ⟨_, _, ⟨rfl, rfl⟩, h3⟩ := h1.cong e1 e2
        exact .inr ⟨by rw [← e2]; exact p, h3⟩
    · rcases k with k | ⟨k1, t, k2, k3⟩
      · exact .inl k
      · refine .inr ⟨k1, t, ?_, k3⟩
        rw [← e2]
        exact (CalOf.on h h' _ _ _ _).1 k2
theorem AddP.cong {r : CatRow} {c c' : Cal} (h : CalOf r c) (h' : CalOf r c') {y : Int} {m : Nat} {d a yr : Int} {mn : Nat} {dd ms o F : Int} (hl : AddP c y m d a yr mn dd ms o F) : AddP c' y m d a yr mn dd ms o F := by
  obtain ⟨v, E, h1, h2⟩ := hl
  rcases h1 with h1 | ⟨h1, h3⟩
  · exact ⟨v, E, .inl h1, h2⟩
  · exact ⟨v, E, .inr ⟨h1, h3.cong h h'⟩, h2⟩
/-- later months stand later -/
theorem NextM.up {c : Cal} {y : Int} {m : Nat} {y' : Int} {m' : Nat} (h : NextM c y m y' m') : y < y' ∨ (y' = y ∧ m < m') := by
  rcases h.2.2 with ⟨h1, h2, _⟩ | ⟨h1, _⟩
  · exact .inr ⟨h1, h2⟩
  · exact .inl (by omega)
theorem FirstM.up {c : Cal} {y : Int} {m : Nat} {y' : Int} {m' : Nat} (h : FirstM c y m y' m') : y < y' ∨ (y' = y ∧ m ≤ m') := by
  rcases h with ⟨_, rfl, rfl⟩ | ⟨_, h⟩
  · exact .inr ⟨rfl, Nat.le_refl _⟩
  · rcases h.up with h | ⟨h1, h2⟩
    · exact .inl h
    · exact .inr ⟨h1, by omega⟩
theorem Moves.up {c : Cal} : ∀ {n : Nat} {y : Int} {m : Nat} {y' : Int} {m' : Nat}, Moves c n y m y' m' → y < y' ∨ (y' = y ∧ m + n ≤ m')
  | 0, _, _, _, _, h => .inr ⟨h.1, by have := h.2; omega⟩
  | n + 1, _, _, _, _, ⟨a, b, h1, h2⟩ => by
    rcases h1.up with h | ⟨h3, h4⟩ <;> rcases h2.up with h' | ⟨h5, h6⟩
    · exact .inl (by omega)
    · exact .inl (by omega)
    · exact .inl (by omega)
    · exact .inr ⟨by omega, by omega⟩
end Go.Proofs.YteebjkcpniddiaaGreatDoor

/- Durations, plain: some years and months on is behind this month. -/
namespace Go.Proofs.YteebjkcpniddiaaGreatDoor
open Go Go.RowKit
set_option linter.unusedVariables false

theorem dayR_ok {t v : Int} (h : dayR t = .tuple #[.int .i64 v, .int .i64 0]) : v = t := by
  unfold dayR at h
  split at h
  · have h : t = v := by simpa using h
    exact h.symm
  · simp at h
theorem IsOn.ge {c : Cal} (ok : CalOk c) {y : Int} {m : Nat} {d day : Int} (h : IsOn c y m d day) : c.ny y + c.pre y m ≤ day := by
  have := h.on
  have := h.d0
  omega
/-- a later month lies behind this one -/
theorem later_ge {c : Cal} (ok : CalOk c) {y y2 : Int} {m m2 : Nat} {d2 v : Int} (hm : m < c.mo.length) (h : IsOn c y2 m2 d2 v) (hl : y < y2 ∨ (y2 = y ∧ m < m2)) : c.ny y + c.pre y (m + 1) ≤ v := by
  have hg := h.ge ok
  rcases hl with hl | ⟨rfl, hl⟩
  · have h1 := Cal.ny_le ok (show y + 1 ≤ y2 by omega)
    rw [Cal.ny_step ok] at h1
    have h2 := Cal.pre_mono ok y (c.mo.length - (m + 1)) (m + 1) (by omega)
    rw [show m + 1 + (c.mo.length - (m + 1)) = c.mo.length from by omega, c.pre_all] at h2
    have h3 := Cal.pre_mono ok y2 m2 0 (by have := h.m1; omega)
    rw [c.pre_zero, Nat.zero_add] at h3
    omega
  · have h2 := Cal.pre_mono ok y2 (m2 - (m + 1)) (m + 1) (by have := h.m1; omega)
    rw [show m + 1 + (m2 - (m + 1)) = m2 from by omega] at h2
    omega
theorem MvP.after {c : Cal} (ok : CalOk c) {y : Int} {m : Nat} {d a yr D : Int} {mn : Nat} {v : Int} (ho : IsOn c y m d D) (h : MvP c y m d a yr mn v 0) (hne : ¬ (yr = 0 ∧ mn = 0)) (hyr : 0 ≤ yr) : c.ny y + c.pre y (m + 1) ≤ v := by
  rcases h with ⟨h1, h2, _⟩ | ⟨_, h⟩
  · exact absurd ⟨h1, h2⟩ hne
  · rcases h with ⟨_, _, h⟩ | ⟨_, y1, m1, y2, m2, hf, hm, h⟩
    · omega
    · rcases h with ⟨_, _, h⟩ | ⟨_, t, ht, hv⟩
      · omega
      · obtain rfl := dayR_ok hv
        refine later_ge ok ho.m1 ht ?_
        have h1 := hf.up
        have h2 := hm.up
        by_cases hy : yr = 0
        · subst hy
          have hn : 1 ≤ mn := by omega
          rcases h1 with h1 | ⟨h1, h3⟩
          · rcases h2 with h2 | ⟨h2, h4⟩ <;> omega
          · rcases h2 with h2 | ⟨h2, h4⟩ <;> omega
        · rcases h1 with h1 | ⟨h1, h3⟩ <;> rcases h2 with h2 | ⟨h2, h4⟩ <;> omega
theorem AddP.form {c : Cal} {y : Int} {m : Nat} {d a yr : Int} {mn : Nat} {dd ms o : Int} (h : AddP c y m d a yr mn dd ms o 0) : ∃ v, MvP c y m d a yr mn v 0 ∧ o = (v + dd) * 86400000 + a % 86400000 + ms := by
  obtain ⟨v, E, h1, h2⟩ := h
  rcases h2 with ⟨b1, e3, e4⟩ | ⟨b1, b2, e3, e4⟩ | ⟨b1, b2, b3, e3, e4⟩ | ⟨b1, b2, b3, e3, e4⟩
  · exact absurd e4.symm b1
  · omega
  · omega
  · subst b1
    exact ⟨v, h1, e3⟩
end Go.Proofs.YteebjkcpniddiaaGreatDoor

/- Durations, plain: add always says something; what most looks for. -/
namespace Go.Proofs.YteebjkcpniddiaaGreatDoor
open Go Go.RowKit
set_option linter.unusedVariables false

theorem LaterP.ex {c : Cal} (ok : CalOk c) (y : Int) {m : Nat} (hm : m < c.mo.length) (d : Int) (hd : 0 ≤ d) (yrs : Int) (n : Nat) : ∃ v E, LaterP c y m d yrs n v E := by
  by_cases hy : 10000 < y + yrs
  · exact ⟨0, 3, .inl ⟨hy, rfl, rfl⟩⟩
  · obtain ⟨y1, m1, hf, h1, h2⟩ : ∃ y1 m1, FirstM c (y + yrs) m y1 m1 ∧ m1 < c.mo.length ∧ 0 < c.mlen y1 m1 := by
      by_cases h : 0 < c.mlen (y + yrs) m
      · exact ⟨_, _, .inl ⟨h, rfl, rfl⟩, hm, h⟩
      · obtain ⟨y1, m1, h1⟩ := NextM.ex ok (y + yrs) m
        have := Cal.mlen_in ok (y + yrs) m hm
        exact ⟨y1, m1, .inr ⟨by omega, h1⟩, h1.1, h1.2.1⟩
    obtain ⟨y2, m2, hmv, _⟩ := Moves.ext ok (i := 0) (show Moves c 0 y1 m1 y1 m1 from ⟨rfl, rfl⟩) n
    rw [Nat.zero_add] at hmv
    obtain ⟨h3, h4⟩ := hmv.some_ h1 h2
    by_cases h5 : 10000 < y2
    · exact ⟨0, 3, .inr ⟨by omega, y1, m1, y2, m2, hf, hmv, .inl ⟨h5, rfl, rfl⟩⟩⟩
    · obtain ⟨v, E, he⟩ := dayR_pair (c.ny y2 + c.pre y2 m2 + (min (d + 1) (c.mlen y2 m2) - 1))
      exact ⟨v, E, .inr ⟨by omega, y1, m1, y2, m2, hf, hmv, .inr ⟨by omega, _, ⟨h3, by omega, by omega, rfl⟩, he⟩⟩⟩
theorem MvP.ex {c : Cal} (ok : CalOk c) (y : Int) {m : Nat} (hm : m < c.mo.length) (d : Int) (hd : 0 ≤ d) (a yr : Int) (mn : Nat) : ∃ v E, MvP c y m d a yr mn v E := by
  by_cases h : yr = 0 ∧ mn = 0
  · exact ⟨_, 0, .inl ⟨h.1, h.2, rfl, rfl⟩⟩
  · obtain ⟨v, E, hl⟩ := LaterP.ex ok y hm d hd yr mn
    exact ⟨v, E, .inr ⟨h, hl⟩⟩
theorem RestP.ex (a v E dd ms : Int) : ∃ o F, RestP a v E dd ms o F := by
  by_cases h1 : E = 0
  · by_cases h2 : DayOk (v + dd)
    · by_cases h3 : InstOk ((v + dd) * 86400000 + a % 86400000 + ms)
      · exact ⟨_, _, .inr (.inr (.inr ⟨h1, h2, h3, rfl, rfl⟩))⟩
      · exact ⟨_, _, .inr (.inr (.inl ⟨h1, h2, h3, rfl, rfl⟩))⟩
    · exact ⟨_, _, .inr (.inl ⟨h1, h2, rfl, rfl⟩)⟩
  · exact ⟨_, _, .inl ⟨h1, rfl, rfl⟩⟩
theorem AddP.ex {c : Cal} (ok : CalOk c) (y : Int) {m : Nat} (hm : m < c.mo.length) (d : Int) (hd : 0 ≤ d) (a yr : Int) (mn : Nat) (dd ms : Int) : ∃ o F, AddP c y m d a yr mn dd ms o F := by
  obtain ⟨v, E, h1⟩ := MvP.ex ok y hm d hd a yr mn
  obtain ⟨o, F, h2⟩ := RestP.ex a v E dd ms
  exact ⟨o, F, v, E, h1, h2⟩
/-- so much does not lead beyond b -/
def MostQ (c : Cal) (y : Int) (m : Nat) (d a b yr : Int) (mn : Nat) : Prop := ∃ at_, AddP c y m d a yr mn 0 0 at_ 0 ∧ at_ ≤ b
/-- so much leads beyond b, or nowhere -/
def MostP (c : Cal) (y : Int) (m : Nat) (d a b yr : Int) (mn : Nat) : Prop := ∃ at_ F, AddP c y m d a yr mn 0 0 at_ F ∧ (F ≠ 0 ∨ b < at_)
theorem MostQ.none (c : Cal) (y : Int) (m : Nat) (d : Int) {a b : Int} (ha : InstOk a) (h : a ≤ b) : MostQ c y m d a b 0 0 := by
  unfold InstOk at ha
  refine ⟨a, ⟨a / 86400000, 0, .inl ⟨rfl, rfl, rfl, rfl⟩, .inr (.inr (.inr ⟨rfl, ?_, ?_, ?_, rfl⟩))⟩, h⟩
  · unfold DayOk; omega
  · unfold InstOk; omega
  · omega
/-- what Between says of a and b: E = 3 just if one of the two has no date -/
def BetP (r : CatRow) (a b Y : Int) (M : Nat) (D S : Int) : Prop :=
  ∃ (c : Cal) (y : Int) (m : Nat) (d at_ : Int), CalOf r c ∧ CalOk c ∧ IsOn c y m d (a / 86400000) ∧ -10000 ≤ y ∧ y ≤ 10000 ∧ AddP c y m d a Y M 0 0 at_ 0 ∧ at_ ≤ b ∧ D = (b - at_) / 86400000 ∧ S = (b - at_) % 86400000 ∧ (Y < 10000 → MostP c y m d a b (Y + 1) 0)
end Go.Proofs.YteebjkcpniddiaaGreatDoor
