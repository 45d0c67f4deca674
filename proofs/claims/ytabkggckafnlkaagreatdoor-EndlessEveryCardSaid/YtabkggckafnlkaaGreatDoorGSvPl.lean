/- SvPl -/
import Derived.Test.YtabkggckafnlkaaGreatDoorGSv2
/- Sets of days by months, plain. -/
namespace Go.Proofs.YtabkggckafnlkaaGreatDoor
open Go Go.RowKit
set_option linter.unusedVariables false

theorem mlen_of {r : CatRow} {c c' : Cal} (h : CalOf r c) (h' : CalOf r c') (y : Int) (m : Nat) : c.mlen y m = c'.mlen y m := by
  unfold Cal.mlen Cal.lpy Cal.pl
  rw [h.mo, h'.mo, h.cy, h'.cy, h.lp, h'.lp]
theorem dateIn_iff {r : CatRow} (hr : r ∈ catR) {nm : ByteArray} (hn : str r.nm = nm) {c : Cal} (hof : CalOf r c) {y : Int} {m : Nat} {d day len : Int} : DateIn nm y m d day len ↔ -10000 ≤ y ∧ y ≤ 10000 ∧ IsOn c y m d day ∧ len = c.mlen y m := by
  constructor
  · rintro ⟨r', hr', hn', h1, h2, ho, hl⟩
    obtain rfl := row_nm hr hr' (hn.trans hn'.symm)
    exact ⟨h1, h2, ((rowCal_of r).on hof _ _ _ _).1 ho, hl.trans (mlen_of (rowCal_of r) hof y m)⟩
  · rintro ⟨h1, h2, ho, hl⟩
    exact ⟨r, hr, hn, h1, h2, ((rowCal_of r).on hof _ _ _ _).2 ho, hl.trans (mlen_of hof (rowCal_of r) y m)⟩
/-- a day with a date of which R holds -/
def MemR (c : Cal) (R : Int → Nat → Int → Int → Prop) (day : Int) : Prop := DayIn day ∧ ∃ (y : Int) (m : Nat) (d : Int), -10000 ≤ y ∧ y ≤ 10000 ∧ IsOn c y m d day ∧ R y m d day
theorem MemR.cand {c : Cal} (ok : CalOk c) {R : Int → Nat → Int → Int → Prop} {low high d : Int} (h : MemR c R d) (h1 : low ≤ d) (h2 : d ≤ high) : Cand c low high d := by
  obtain ⟨hd, y, m, d', hy1, hy2, ho, _⟩ := h
  have q := ho.year ok
  have q1 := Cal.ny_le ok hy1
  have q2 := Cal.ny_le ok (show y + 1 ≤ 10001 by omega)
  exact ⟨h1, h2, hd, by omega, by omega⟩
theorem MemR.step {c : Cal} (ok : CalOk c) {R : Int → Nat → Int → Int → Prop} {y : Int} {m : Nat} {first : Int} (ho : IsOn c y m 0 first) (hy1 : -10000 ≤ y) (hy2 : y ≤ 10000) (d : Int) :
    (MemR c R d ∧ d < first + c.mlen y m) ↔ (MemR c R d ∧ d < first) ∨ (DayIn d ∧ first ≤ d ∧ d < first + c.mlen y m ∧ R y m (d - first) d) := by
  have key : first ≤ d → d < first + c.mlen y m → IsOn c y m (d - first) d := fun h1 h2 => ⟨ho.m1, by omega, by omega, by have := ho.on; omega⟩
  have hl := (Cal.mlen_in ok y m ho.m1)
  constructor
  · rintro ⟨hm, hlt⟩
    by_cases hf : d < first
    · exact .inl ⟨hm, hf⟩
    · obtain ⟨hd, y', m', d', _, _, ho', hR⟩ := hm
      obtain ⟨rfl, rfl, rfl⟩ := (key (by omega) hlt).unique ok ho'
      exact .inr ⟨hd, by omega, hlt, hR⟩
  · rintro (⟨hm, hf⟩ | ⟨hd, h1, h2, hR⟩)
    · exact ⟨hm, by have := ho.d1; omega⟩
    · exact ⟨⟨hd, y, m, d - first, hy1, hy2, key h1 h2, hR⟩, h2⟩
/-- what the kinds ask of a date -/
def R1 (a b : Int) (y : Int) (m : Nat) (d day : Int) : Prop := (m : Int) + 1 = a ∧ d + 1 = b
def R2 (a : Int) (y : Int) (m : Nat) (d day : Int) : Prop := (m : Int) + 1 = a
def R12 (c : Cal) (P : Int → Prop) (a b : Int) (y : Int) (m : Nat) (d day : Int) : Prop := (b = 0 ∨ (m : Int) + 1 = b) ∧ NthP P (day - d) (c.mlen y m).toNat a d.toNat
theorem mem_date {r : CatRow} (hr : r ∈ catR) {nm : ByteArray} (hn : str r.nm = nm) {c : Cal} (hof : CalOf r c) (a b : Int) (A : Option Addr) (c0 : Nat) (fs : List FE) (day : Int) : memF (.node 1 a b nm A c0 fs) day ↔ MemR c (R1 a b) day := by
  rw [memF]
  show (DayIn day ∧ ∃ y m d len, DateIn nm y m d day len ∧ (m : Int) + 1 = a ∧ d + 1 = b) ↔ _
  constructor
  · rintro ⟨hd, y, m, d, len, hD, h1, h2⟩
    obtain ⟨q1, q2, q3, _⟩ := (dateIn_iff hr hn hof).1 hD
    exact ⟨hd, y, m, d, q1, q2, q3, h1, h2⟩
  · rintro ⟨hd, y, m, d, q1, q2, q3, h1, h2⟩
    exact ⟨hd, y, m, d, _, (dateIn_iff hr hn hof).2 ⟨q1, q2, q3, rfl⟩, h1, h2⟩
theorem mem_month {r : CatRow} (hr : r ∈ catR) {nm : ByteArray} (hn : str r.nm = nm) {c : Cal} (hof : CalOf r c) (a b : Int) (A : Option Addr) (c0 : Nat) (fs : List FE) (day : Int) : memF (.node 2 a b nm A c0 fs) day ↔ MemR c (R2 a) day := by
  rw [memF]
  show (DayIn day ∧ ∃ y m d len, DateIn nm y m d day len ∧ (m : Int) + 1 = a) ↔ _
  constructor
  · rintro ⟨hd, y, m, d, len, hD, h1⟩
    obtain ⟨q1, q2, q3, _⟩ := (dateIn_iff hr hn hof).1 hD
    exact ⟨hd, y, m, d, q1, q2, q3, h1⟩
  · rintro ⟨hd, y, m, d, q1, q2, q3, h1⟩
    exact ⟨hd, y, m, d, _, (dateIn_iff hr hn hof).2 ⟨q1, q2, q3, rfl⟩, h1⟩
theorem mem_nth {r : CatRow} (hr : r ∈ catR) {nm : ByteArray} (hn : str r.nm = nm) {c : Cal} (hof : CalOf r c) (a b : Int) (A : Option Addr) (c0 : Nat) (fs : List FE) (day : Int) : memF (.node 12 a b nm A c0 fs) day ↔ MemR c (R12 c (memL fs 0) a b) day := by
  rw [memF]
  show (DayIn day ∧ ∃ y m d len, DateIn nm y m d day len ∧ (b = 0 ∨ (m : Int) + 1 = b) ∧ NthP (memL fs 0) (day - d) len.toNat a d.toNat) ↔ _
  constructor
  · rintro ⟨hd, y, m, d, len, hD, h1, h2⟩
    obtain ⟨q1, q2, q3, q4⟩ := (dateIn_iff hr hn hof).1 hD
    rw [q4] at h2
    exact ⟨hd, y, m, d, q1, q2, q3, h1, h2⟩
  · rintro ⟨hd, y, m, d, q1, q2, q3, h1, h2⟩
    exact ⟨hd, y, m, d, _, (dateIn_iff hr hn hof).2 ⟨q1, q2, q3, rfl⟩, h1, h2⟩
end Go.Proofs.YtabkggckafnlkaaGreatDoor
