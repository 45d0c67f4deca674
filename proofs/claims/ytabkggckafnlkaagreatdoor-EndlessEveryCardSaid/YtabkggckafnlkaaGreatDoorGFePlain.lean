/- FePlain -/
import Derived.Test.YtabkggckafnlkaaGreatDoorGCatOk
import Derived.Test.YtabkggckafnlkaaGreatDoorGPlainCal
/- Feasts as trees in memory, their form, their days. -/
namespace Go.Proofs.YtabkggckafnlkaaGreatDoor
open Go Go.RowKit
set_option linter.unusedVariables false

/-- an expression: its kind, its numbers, its name, where its operands lie, the operands -/
inductive FE where
  | node (k a b : Int) (nm : ByteArray) (A : Option Addr) (c : Nat) (ks : List FE)
def fe0 : FE := .node 0 0 0 ⟨#[]⟩ none 0 []
def feF : FE → List Value
  | .node k a b nm A c ks => [.int .i64 k, .int .i64 a, .int .i64 b, .string nm, .slice A ks.length c]
def feC : FE → Array Value
  | .node k a b nm A c ks => #[.int .i64 k, .int .i64 a, .int .i64 b, .string nm, .slice A ks.length c]
def feV : FE → Value
  | .node k a b nm A c ks => .agg #[.int .i64 k, .int .i64 a, .int .i64 b, .string nm, .slice A ks.length c]
theorem feF_len (a : FE) : (feF a).length = 5 := by cases a; rfl
/-- the expression lies in memory below block B -/
inductive FeIn (w : World) (B : Nat) : FE → Prop
  | mk {k a b : Int} {nm : ByteArray} {A : Option Addr} {c : Nat} {ks : List FE} (hk : I64 k) (ha : I64 a) (hb : I64 b) (hs : nm.size ≤ maxLen) (hl : ks.length ≤ maxLen) (row : Row w B A (ks.flatMap feF)) (kids : ∀ x ∈ ks, FeIn w B x) : FeIn w B (.node k a b nm A c ks)
theorem FeIn.next {w w' : World} {B B' : Nat} {t : FE} (h : FeIn w B t) (hb : Below B w w') (hB : B ≤ B') : FeIn w' B' t := by
  induction h with
  | mk hk ha hb' hs hl row kids ih => exact .mk hk ha hb' hs hl ((row.below hb).more hB) ih
/-- how many operands a kind has -/
def kidsN (k : Int) : Nat := if k = 7 ∨ k = 8 ∨ k = 12 then 1 else if k = 9 ∨ k = 10 ∨ k = 11 then 2 else 0
/-- which fields a kind uses -/
def usA (k : Int) : Bool := !(decide (k = 9) || decide (k = 10) || decide (k = 11))
def usB (k : Int) : Bool := decide (k = 1) || decide (k = 12) || decide (k = 4) || decide (k = 6)
def usN (k : Int) : Bool := decide (k = 1) || decide (k = 12) || decide (k = 2)
def isDp (k : Int) : Bool := decide (k = 8) || decide (k = 12)
def DayIn (d : Int) : Prop := -4000000 ≤ d ∧ d ≤ 4000000
/-- the numbers are in their ranges -/
def RngOk (k a b : Int) (mo : Nat) : Prop :=
  if k = 1 then (1 ≤ a ∧ a ≤ mo) ∧ (1 ≤ b ∧ b ≤ 400) else if k = 2 then 1 ≤ a ∧ a ≤ mo else if k = 3 ∨ k = 8 then 0 ≤ a ∧ a ≤ 6 else if k = 4 then (1 ≤ a ∧ a ≤ 100000) ∧ (0 ≤ b ∧ b ≤ a - 1)
  else if k = 5 then DayIn a else if k = 6 then DayIn a ∧ DayIn b ∧ a ≤ b else if k = 7 then -400 ≤ a ∧ a ≤ 400 else if k = 12 then (-50 ≤ a ∧ a ≤ 50) ∧ a ≠ 0 ∧ (0 ≤ b ∧ b ≤ mo) else True
/-- the form of one node -/
structure FeNode (k a b : Int) (nm : ByteArray) (len : Nat) : Prop where
  k0 : 1 ≤ k
  k1 : k ≤ 12
  len : len = kidsN k
  ua : usA k = false → a = 0
  ub : usB k = false → b = 0
  un : usN k = false → nm.size = 0
  rg : usN k = false → RngOk k a b 0
  cal : usN k = true → ∃ r ∈ catR, str r.nm = nm ∧ RngOk k a b r.t.mo.length
/-- the form of an expression -/
inductive FeOk : FE → Prop
  | mk {k a b : Int} {nm : ByteArray} {A : Option Addr} {c : Nat} {ks : List FE} (node : FeNode k a b nm ks.length) (kids : ∀ x ∈ ks, FeOk x) : FeOk (.node k a b nm A c ks)
mutual
/-- how many nodes -/
def fsz : FE → Nat
  | .node _ _ _ _ _ _ ks => fszL ks + 1
def fszL : List FE → Nat
  | [] => 0
  | x :: r => fsz x + fszL r
end
mutual
/-- how many levels -/
def fht : FE → Nat
  | .node _ _ _ _ _ _ ks => fhtL ks + 1
def fhtL : List FE → Nat
  | [] => 0
  | x :: r => max (fht x) (fhtL r)
end
mutual
/-- how many levels of the kinds On and Nth -/
def fdh : FE → Nat
  | .node k _ _ _ _ _ ks => fdhL ks + (if isDp k then 1 else 0)
def fdhL : List FE → Nat
  | [] => 0
  | x :: r => max (fdh x) (fdhL r)
end
/-- what Check allows -/
structure FeGood (t : FE) : Prop where
  ok : FeOk t
  sz : fsz t ≤ 40
  ht : fht t ≤ 10
  dh : fdh t ≤ 2
theorem fszL_take (ks : List FE) (k : Nat) (h : k < ks.length) : fszL (ks.take (k + 1)) = fszL (ks.take k) + fsz (ks.getD k fe0) := by
  induction ks generalizing k with
  | nil => simp at h
  | cons x r ih =>
    cases k with
    | zero => simp [fszL]
    | succ k => simp only [List.take_succ_cons, fszL]; rw [ih k (by simpa using h)]; simp; omega
theorem fhtL_take (ks : List FE) (k : Nat) (h : k < ks.length) : fhtL (ks.take (k + 1)) = max (fhtL (ks.take k)) (fht (ks.getD k fe0)) := by
  induction ks generalizing k with
  | nil => simp at h
  | cons x r ih =>
    cases k with
    | zero => simp [fhtL]
    | succ k => simp only [List.take_succ_cons, fhtL]; rw [ih k (by simpa using h)]; simp
theorem fdhL_take (ks : List FE) (k : Nat) (h : k < ks.length) : fdhL (ks.take (k + 1)) = max (fdhL (ks.take k)) (fdh (ks.getD k fe0)) := by
  induction ks generalizing k with
  | nil => simp at h
  | cons x r ih =>
    cases k with
    | zero => simp [fdhL]
    | succ k => simp only [List.take_succ_cons, fdhL]; rw [ih k (by simpa using h)]; simp
theorem fszL_mono (ks : List FE) (k : Nat) : fszL (ks.take k) ≤ fszL ks := by
  induction ks generalizing k with
  | nil => simp
  | cons x r ih =>
    cases k with
    | zero => simp [fszL]
    | succ k => simp only [List.take_succ_cons, fszL]; have := ih k; omega
theorem fhtL_mono (ks : List FE) (k : Nat) : fhtL (ks.take k) ≤ fhtL ks := by
  induction ks generalizing k with
  | nil => simp
  | cons x r ih =>
    cases k with
    | zero => simp [fhtL]
    | succ k => simp only [List.take_succ_cons, fhtL]; have := ih k; omega
theorem fdhL_mono (ks : List FE) (k : Nat) : fdhL (ks.take k) ≤ fdhL ks := by
  induction ks generalizing k with
  | nil => simp
  | cons x r ih =>
    cases k with
    | zero => simp [fdhL]
    | succ k => simp only [List.take_succ_cons, fdhL]; have := ih k; omega
/-- the calendar of a row of the table -/
def rowCal (r : CatRow) : Cal := ⟨str r.nm, r.t.ep, r.t.cy, r.t.mo, r.t.leaps r.t.cy.toNat, none, 0, none, 0⟩
theorem rowCal_of (r : CatRow) : CalOf r (rowCal r) := ⟨rfl, rfl, rfl, rfl, rfl⟩
theorem rowCal_ok {r : CatRow} (hr : r ∈ catR) : CalOk (rowCal r) := by
  obtain ⟨ok, _, hn⟩ := row_ok r hr
  refine ⟨?_, ok.mo, ?_⟩
  · have := ok.hd; rw [hn] at this; exact this
  · have h := yrs_inc r.t.cy.toNat (fun y => (evalR y r.t.ex).1 != 0)
    rw [show ((r.t.cy.toNat : Nat) : Int) = r.t.cy from by have := ok.hd.2.2.1; omega] at h
    exact h
/-- the place d is that of the a-th true one, from the end if a is negative -/
def NthB (l : List Bool) (a : Int) (d : Nat) : Prop := l[d]? = some true ∧ a ≠ 0 ∧ (0 < a → ((l.take d).count true : Int) + 1 = a) ∧ (a < 0 → ((l.drop d).count true : Int) = -a)
theorem NthB.unique {l : List Bool} {a : Int} {d e : Nat} (h : NthB l a d) (h' : NthB l a e) : d = e := by
  have key : ∀ {d e : Nat}, NthB l a d → NthB l a e → ¬ d < e := by
    intro d e h h' hlt
    obtain ⟨hd, h0, h1, h2⟩ := h
    obtain ⟨he, _, h1', h2'⟩ := h'
    obtain ⟨hdl, hdv⟩ := List.getElem?_eq_some_iff.1 hd
    have e1 : l.take e = l.take d ++ (l.drop d).take (e - d) := by
      have := List.take_add (l := l) (i := d) (j := e - d)
      rwa [show d + (e - d) = e from by omega] at this
    have e2 : (l.drop d) = true :: l.drop (d + 1) := by rw [List.drop_eq_getElem_cons hdl, hdv]
    have e3 : l.drop d = (l.drop d).take (e - d) ++ l.drop e := by
      have := List.take_append_drop (e - d) (l.drop d)
      rw [List.drop_drop, show d + (e - d) = e from by omega] at this
      exact this.symm
    have e4 : (l.drop d).take (e - d) = true :: (l.drop (d + 1)).take (e - d - 1) := by
      rw [e2, show e - d = (e - d - 1) + 1 from by omega, List.take_succ_cons]
      simp
    have c1 := congrArg (List.count true) e1
    have c3 := congrArg (List.count true) e3
    rw [List.count_append, e4, List.count_cons_self] at c1
    rw [List.count_append, e4, List.count_cons_self] at c3
    by_cases hp : 0 < a
    · have := h1 hp; have := h1' hp; omega
    · have := h2 (by omega); have := h2' (by omega); omega
  have := key h h'
  have := key h' h
  omega
/-- the place d is that of the a-th day of P among the n days from f on -/
def NthP (P : Int → Prop) (f : Int) (n : Nat) (a : Int) (d : Nat) : Prop := ∃ l : List Bool, l.length = n ∧ (∀ i, i < n → (l.getD i false = true ↔ P (f + i))) ∧ NthB l a d
theorem lists_eq {l l' : List Bool} (h : l.length = l'.length) (ht : ∀ i, i < l.length → (l.getD i false = true ↔ l'.getD i false = true)) : l = l' := by
  apply List.ext_getElem h
  intro i h1 h2
  have := ht i h1
  simp only [List.getD_eq_getElem?_getD, List.getElem?_eq_getElem h1, List.getElem?_eq_getElem h2, Option.getD_some] at this
  cases h3 : l[i] <;> cases h4 : l'[i] <;> simp [h3, h4] at this ⊢
theorem NthP.of {P : Int → Prop} {f : Int} {n : Nat} {a : Int} {d : Nat} (h : NthP P f n a d) {l : List Bool} (hl : l.length = n) (ht : ∀ i, i < n → (l.getD i false = true ↔ P (f + i))) : NthB l a d := by
  obtain ⟨l', h1, h2, h3⟩ := h
  have : l' = l := lists_eq (h1.trans hl.symm) fun i hi => (h2 i (by omega)).trans (ht i (by omega)).symm
  rw [← this]; exact h3
theorem NthP.unique {P : Int → Prop} {f : Int} {n : Nat} {a : Int} {d e : Nat} (h : NthP P f n a d) (h' : NthP P f n a e) : d = e := by
  obtain ⟨l, h1, h2, h3⟩ := h
  exact h3.unique (h'.of h1 h2)
/-- a date in a calendar of the table -/
def DateIn (nm : ByteArray) (y : Int) (m : Nat) (d day : Int) (len : Int) : Prop := ∃ r ∈ catR, str r.nm = nm ∧ -10000 ≤ y ∧ y ≤ 10000 ∧ IsOn (rowCal r) y m d day ∧ len = (rowCal r).mlen y m
/-- a day belongs to a set, by the sets of the operands -/
def headM (k a b : Int) (nm : ByteArray) (P : Nat → Int → Prop) (day : Int) : Prop :=
  if k = 1 then ∃ y m d len, DateIn nm y m d day len ∧ (m : Int) + 1 = a ∧ d + 1 = b
  else if k = 2 then ∃ y m d len, DateIn nm y m d day len ∧ (m : Int) + 1 = a
  else if k = 3 then (day - 1) % 7 = a
  else if k = 4 then (day - b) % a = 0
  else if k = 5 then day = a
  else if k = 6 then a ≤ day ∧ day ≤ b
  else if k = 7 then P 0 (day - a)
  else if k = 8 then ∃ s, P 0 s ∧ day = s + (a - (s - 1)) % 7
  else if k = 9 then P 0 day ∨ P 1 day
  else if k = 10 then P 0 day ∧ P 1 day
  else if k = 11 then P 0 day ∧ ¬ P 1 day
  else ∃ y m d len, DateIn nm y m d day len ∧ (b = 0 ∨ (m : Int) + 1 = b) ∧ NthP (P 0) (day - d) len.toNat a d.toNat
mutual
/-- a day belongs to the set of an expression -/
def memF : FE → Int → Prop
  | .node k a b nm _ _ ks, day => DayIn day ∧ headM k a b nm (memL ks) day
def memL : List FE → Nat → Int → Prop
  | [], _, _ => False
  | x :: _, 0, day => memF x day
  | _ :: r, i + 1, day => memL r i day
end
theorem memL_get : ∀ (ks : List FE) (i : Nat) (day : Int), i < ks.length → (memL ks i day ↔ memF (ks.getD i fe0) day)
  | [], i, day, h => absurd h (Nat.not_lt_zero i)
  | x :: r, 0, day, _ => by rw [memL]; rfl
  | x :: r, i + 1, day, h => by rw [memL]; exact memL_get r i day (by simpa using h)
theorem memF_day {t : FE} {day : Int} (h : memF t day) : DayIn day := by cases t; rw [memF] at h; exact h.1
/-- the names of the table are its rows' -/
theorem row_nm {r r' : CatRow} (hr : r ∈ catR) (hr' : r' ∈ catR) (h : str r.nm = str r'.nm) : r = r' :=
  row_one r r' hr hr' (by have := congrArg ByteArray.toList h; rwa [str_toList, str_toList] at this)
/-- a day has one date -/
theorem DateIn.unique {nm : ByteArray} {y y' : Int} {m m' : Nat} {d d' day len len' : Int} (h : DateIn nm y m d day len) (h' : DateIn nm y' m' d' day len') : y = y' ∧ m = m' ∧ d = d' ∧ len = len' := by
  obtain ⟨r, hr, hn, _, _, ho, hl⟩ := h
  obtain ⟨r', hr', hn', _, _, ho', hl'⟩ := h'
  obtain rfl := row_nm hr hr' (hn.trans hn'.symm)
  obtain ⟨rfl, rfl, rfl⟩ := ho.unique (rowCal_ok hr) ho'
  exact ⟨rfl, rfl, rfl, hl.trans hl'.symm⟩
end Go.Proofs.YtabkggckafnlkaaGreatDoor
