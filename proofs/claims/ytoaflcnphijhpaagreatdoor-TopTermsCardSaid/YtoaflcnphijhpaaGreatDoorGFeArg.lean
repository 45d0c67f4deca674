/- FeArg, IntsArg, TmPl, TmArg -/
import Derived.Test.YtoaflcnphijhpaaGreatDoorGFePlain
import Derived.Test.YtoaflcnphijhpaaGreatDoorGRuleArg
import Derived.Test.YtoaflcnphijhpaaGreatDoorGListArg
/- An expression for days that came in as an argument, read as a tree. -/
namespace Go.Proofs.YtoaflcnphijhpaaGreatDoor
open Go.RowKit Go.Joins Go.ChangeShapes Go.WideShapes Go.Deep
set_option linter.unusedVariables false

section
variable {H : Type} {enc : TypeId × Value → H} {W : World}
set_option maxRecDepth 100000 in
/-- an expression -/
theorem fe_of_trod : ∀ (N n : Nat) (cs : List Value) (y : DataW H × List MemPlace), n < N → DataW.trod enc Tryz.prog W 0 (fun _ => true) true n 25 cs = some y → ∃ t : FE, cs = feF t ∧ FeIn W W.heap.size t := by
  intro N
  induction N with
  | zero => intro n cs y h; omega
  | succ N ih =>
    intro n cs y hn h
    obtain ⟨xs, m, hm, _, hlen, hxl, hf⟩ := DataW.trod_struct Tryz.underlying25 h
    have hC : Tryz.prog.cellsOf 25 = 5 := by kernel_rfl
    rw [hC] at hlen
    match cs, hlen with
    | [c0, c1, c2, c3, c4], _ =>
      have e0 : Tryz.prog.cellsOf 3 = 1 := by kernel_rfl
      have e1 : Tryz.prog.cellsOf 9 = 1 := by kernel_rfl
      have e2 : Tryz.prog.cellsOf 23 = 1 := by kernel_rfl
      have h0 := hf 0 _ rfl
      have h1 := hf 1 _ rfl
      have h2 := hf 2 _ rfl
      have h3 := hf 3 _ rfl
      have h4 := hf 4 _ rfl
      match xs, hxl with
      | [x0, x1, x2, x3, x4], _ =>
        simp [e0, e1, e2] at h0 h1 h2 h3 h4
        obtain ⟨k, ek, _, wk⟩ := DataW.trod_int Tryz.underlying3 h0
        obtain ⟨a, ea, _, wa⟩ := DataW.trod_int Tryz.underlying3 h1
        obtain ⟨b, eb, _, wb⟩ := DataW.trod_int Tryz.underlying3 h2
        obtain ⟨nm, en, _, wn⟩ := DataW.trod_string Tryz.underlying9 h3
        simp at ek ea eb en
        subst ek ea eb en
        obtain ⟨A, ks, c, e, k1, k2, row, kids⟩ := list_trodN fe0 feF_len (by omega) Tryz.underlying23 hC (fun m' cs y hm' hh => ih m' cs y (by omega) hh) h4
        subst e
        exact ⟨.node k a b nm A c ks, rfl, .mk (bounds_i64 wk) (bounds_i64 wa) (bounds_i64 wb) wn (by omega) row kids⟩
set_option maxRecDepth 100000 in
theorem fe_open {base : Nat} {v : Value} {d : DataW H} {p : List MemPlace} (hv : Value.okWide Tryz.prog W .any base 25 v) (h : DataW.Trod enc Tryz.prog W 0 (fun _ => true) true 25 v d p) :
    ∃ t : FE, v = feV t ∧ FeIn W W.heap.size t := by
  have hC : Tryz.prog.cellsOf 25 = 5 := by kernel_rfl
  obtain ⟨cs, rfl, hsz⟩ := okWide_struct Tryz.underlying25 hv
  obtain ⟨l⟩ := cs
  match l, hsz.trans hC with
  | [c0, c1, c2, c3, c4], _ =>
    obtain ⟨m', hm'⟩ := h
    obtain ⟨t, e, ht⟩ := fe_of_trod _ m' _ _ (Nat.lt_succ_self _) hm'
    refine ⟨t, ?_, ht⟩
    obtain ⟨k, a, b, nm, A, c, ks⟩ := t
    have hc : (Value.agg ⟨[c0, c1, c2, c3, c4]⟩).cells.toList = [c0, c1, c2, c3, c4] := rfl
    rw [hc] at e
    simp only [feF, List.cons.injEq, and_true] at e
    obtain ⟨rfl, rfl, rfl, rfl, rfl⟩ := e
    rfl
end
end Go.Proofs.YtoaflcnphijhpaaGreatDoor

/- Slices of integers that came in as arguments, read as lists. -/
namespace Go.Proofs.YtoaflcnphijhpaaGreatDoor
open Go.RowKit Go.Joins Go.ChangeShapes Go.WideShapes Go.Deep
set_option linter.unusedVariables false

/-- every number fits -/
def IntsFit (l : List Int) : Prop := ∀ x ∈ l, -9223372036854775808 ≤ x ∧ x ≤ 9223372036854775807
theorem ints_flat (l : List Int) : l.flatMap (fun x => [Value.int .i64 x]) = ints l := by
  induction l with
  | nil => rfl
  | cons a r ih => rw [List.flatMap_cons, ih]; rfl
section
variable {H : Type} {enc : TypeId × Value → H} {W : World}
set_option maxRecDepth 100000 in
theorem ints_trod {n : Nat} {v : Value} {y : DataW H × List MemPlace} (h : DataW.trod enc Tryz.prog W 0 (fun _ => true) true n 22 [v] = some y) :
    ∃ (A : Option Addr) (xs : List Int) (c : Nat), v = .slice A xs.length c ∧ xs.length ≤ c ∧ c ≤ maxLen ∧ Row W W.heap.size A (ints xs) ∧ IntsFit xs := by
  obtain ⟨A, xs, c, h1, h2, h3, h4, h5⟩ := list_trod (α := Int) 0 (f := fun x => [Value.int .i64 x]) (s := 1) (fun _ => rfl) (by omega) (Fit := fun x => -9223372036854775808 ≤ x ∧ x ≤ 9223372036854775807) Tryz.underlying22 (show Tryz.prog.cellsOf 3 = 1 by kernel_rfl)
    (fun n cs y hy => by obtain ⟨a, ea, _, wa⟩ := DataW.trod_int Tryz.underlying3 hy; exact ⟨a, by simpa using ea, bounds_i64 wa⟩) h
  rw [ints_flat] at h4
  exact ⟨A, xs, c, h1, h2, h3, h4, h5⟩
set_option maxRecDepth 100000 in
theorem ints_open {base : Nat} {v : Value} {d : DataW H} {p : List MemPlace} (hv : Value.okWide Tryz.prog W .any base 22 v) (h : DataW.Trod enc Tryz.prog W 0 (fun _ => true) true 22 v d p) :
    ∃ (A : Option Addr) (xs : List Int) (c : Nat), v = .slice A xs.length c ∧ xs.length ≤ c ∧ c ≤ maxLen ∧ Row W W.heap.size A (ints xs) ∧ IntsFit xs := by
  obtain ⟨a0, len, cap, rfl⟩ := okWide_slice Tryz.underlying22 hv
  obtain ⟨m, hm⟩ := h
  exact ints_trod (v := .slice a0 len cap) hm
end
end Go.Proofs.YtoaflcnphijhpaaGreatDoor

/- Working days, plain. -/
namespace Go.Proofs.YtoaflcnphijhpaaGreatDoor
open Go Go.RowKit
set_option linter.unusedVariables false

/-- the zero expression -/
def NoneF : FE → Prop
  | .node k a b nm _ _ ks => k = 0 ∧ a = 0 ∧ b = 0 ∧ nm.size = 0 ∧ ks.length = 0
/-- days of rest that are valid -/
structure RestOk (rs : List Int) : Prop where
  ln : rs.length ≤ 6
  rg : ∀ i, i < rs.length → 0 ≤ rs.getD i 0 ∧ rs.getD i 0 ≤ 6
  inc : ∀ i, 0 < i → i < rs.length → rs.getD (i - 1) 0 < rs.getD i 0
def WkGood (rs : List Int) (t : FE) : Prop := RestOk rs ∧ (NoneF t ∨ FeGood t)
/-- a working day -/
def WorkD (rs : List Int) (t : FE) (day : Int) : Prop := DayIn day ∧ (day - 1) % 7 ∉ rs ∧ (NoneF t ∨ ¬ memF t day)
open Classical in
/-- how many of the n days from a on -/
noncomputable def cntW (P : Int → Prop) (a : Int) (n : Nat) : Nat := ((List.range n).filter fun (i : Nat) => decide (P (a + (i : Int)))).length
theorem cntW_zero (P : Int → Prop) (a : Int) : cntW P a 0 = 0 := rfl
open Classical in
theorem cntW_add (P : Int → Prop) (a : Int) (n m : Nat) : cntW P a (n + m) = cntW P a n + cntW P (a + n) m := by
  unfold cntW
  rw [List.range_add, List.filter_append, List.length_append, List.filter_map, List.length_map]
  congr 2
  apply List.filter_congr
  intro i _
  simp [Int.add_assoc]
open Classical in
theorem cntW_one (P : Int → Prop) (a : Int) : cntW P a 1 = if P a then 1 else 0 := by
  unfold cntW
  by_cases h : P a <;> simp [h]
theorem cntW_yes {P : Int → Prop} {a : Int} {n : Nat} (h : P (a + n)) : cntW P a (n + 1) = cntW P a n + 1 := by rw [cntW_add, cntW_one, if_pos h]
theorem cntW_no {P : Int → Prop} {a : Int} {n : Nat} (h : ¬ P (a + n)) : cntW P a (n + 1) = cntW P a n := by rw [cntW_add, cntW_one, if_neg h]; rfl
theorem cntW_first {P : Int → Prop} {a : Int} {n : Nat} (h : P a) : cntW P a (n + 1) = 1 + cntW P (a + 1) n := by
  rw [Nat.add_comm n 1, cntW_add, cntW_one, if_pos h]; rfl
theorem cntW_le (P : Int → Prop) (a : Int) (n : Nat) : cntW P a n ≤ n := by
  unfold cntW
  refine Nat.le_trans (List.length_filter_le _ _) ?_
  simp
theorem cntW_mono (P : Int → Prop) (a : Int) {n m : Nat} (h : n ≤ m) : cntW P a n ≤ cntW P a m := by
  obtain ⟨k, rfl⟩ : ∃ k, m = n + k := ⟨m - n, by omega⟩
  rw [cntW_add]
  omega
/-- the k-th working day from first on, as far as last -/
def FwdP (P : Int → Prop) (first : Int) (len : Nat) (k : Nat) (d : Int) : Prop := ∃ i : Nat, i < len ∧ d = first + (i : Int) ∧ P d ∧ cntW P first (i + 1) = k
/-- the k-th working day ahead of day -/
def BackP (P : Int → Prop) (day : Int) (k : Nat) (d : Int) : Prop := ∃ i : Nat, 1 ≤ i ∧ i ≤ 2000 ∧ d = day - (i : Int) ∧ P d ∧ cntW P d i = k
theorem BackP.unique {P : Int → Prop} {day : Int} {k : Nat} {d e : Int} (h : BackP P day k d) (h' : BackP P day k e) : d = e := by
  have key : ∀ {d e : Int}, BackP P day k d → BackP P day k e → ¬ d < e := by
    rintro d e ⟨i, hi1, hi2, rfl, hp, hc⟩ ⟨j, hj1, hj2, rfl, hq, hc'⟩ hlt
    obtain ⟨m, hm⟩ : ∃ m : Nat, i = m + 1 + j := ⟨i - j - 1, by omega⟩
    rw [hm, cntW_add, show day - ((m + 1 + j : Nat) : Int) + ((m + 1 : Nat) : Int) = day - (j : Int) from by omega, hc'] at hc
    rw [hm] at hp
    have := cntW_first (n := m) hp
    omega
  have a := key h h'
  have b := key h' h
  omega
/-- counted from a working day to the k-th one after it -/
theorem fwd_count {P : Int → Prop} {s : Int} {len k : Nat} {e : Int} (hs : P s) (h : FwdP P (s + 1) len k e) (hk : 1 ≤ k) : ∃ i : Nat, i < len ∧ e = s + 1 + (i : Int) ∧ P e ∧ cntW P s (i + 1) = k := by
  obtain ⟨i, hi, rfl, hp, hc⟩ := h
  refine ⟨i, hi, rfl, hp, ?_⟩
  rw [cntW_yes hp] at hc
  rw [cntW_first hs]
  omega
/-- and back again -/
theorem back_home {P : Int → Prop} {s : Int} {len k : Nat} {e : Int} (hs : P s) (hlen : len ≤ 2000) (h : FwdP P (s + 1) len k e) (hk : 1 ≤ k) : BackP P e k s := by
  obtain ⟨i, hi, rfl, hp, hc⟩ := fwd_count hs h hk
  exact ⟨i + 1, by omega, by omega, by omega, hs, hc⟩
end Go.Proofs.YtoaflcnphijhpaaGreatDoor

/- Working days that came in as an argument. -/
namespace Go.Proofs.YtoaflcnphijhpaaGreatDoor
open Go.RowKit Go.Joins Go.ChangeShapes Go.WideShapes Go.Deep
set_option linter.unusedVariables false

/-- working days: days of rest, where they lie, holidays -/
structure Wk where
  rs : List Int
  A : Option Addr
  c : Nat
  t : FE
def wkV : Wk → Value
  | ⟨rs, A, c, .node k a b nm A' c' ks⟩ => .agg #[.slice A rs.length c, .int .i64 k, .int .i64 a, .int .i64 b, .string nm, .slice A' ks.length c']
structure WkIn (w : World) (B : Nat) (x : Wk) : Prop where
  row : Row w B x.A (ints x.rs)
  fe : FeIn w B x.t
  ln : x.rs.length ≤ maxLen
theorem WkIn.next {w w' : World} {B B' : Nat} {x : Wk} (h : WkIn w B x) (hb : Below B w w') (hB : B ≤ B') : WkIn w' B' x := ⟨(h.row.below hb).more hB, h.fe.next hb hB, h.ln⟩
section
variable {H : Type} {enc : TypeId × Value → H} {W : World}
set_option maxRecDepth 100000 in
theorem wk_open {base : Nat} {v : Value} {d : DataW H} {p : List MemPlace} (hv : Value.okWide Tryz.prog W .any base 27 v) (h : DataW.Trod enc Tryz.prog W 0 (fun _ => true) true 27 v d p) :
    ∃ x : Wk, v = wkV x ∧ WkIn W W.heap.size x := by
  have hC : Tryz.prog.cellsOf 27 = 6 := by kernel_rfl
  obtain ⟨cs, rfl, hsz⟩ := okWide_struct Tryz.underlying27 hv
  obtain ⟨l⟩ := cs
  match l, hsz.trans hC with
  | [c0, c1, c2, c3, c4, c5], _ =>
    obtain ⟨m', hm'⟩ := h
    have hc : (Value.agg ⟨[c0, c1, c2, c3, c4, c5]⟩).cells.toList = [c0, c1, c2, c3, c4, c5] := rfl
    rw [hc] at hm'
    obtain ⟨xs, m, hm, _, hlen, hxl, hf⟩ := DataW.trod_struct Tryz.underlying27 hm'
    have e0 : Tryz.prog.cellsOf 22 = 1 := by kernel_rfl
    have e1 : Tryz.prog.cellsOf 25 = 5 := by kernel_rfl
    have h0 := hf 0 _ rfl
    have h1 := hf 1 _ rfl
    match xs, hxl with
    | [x0, x1], _ =>
      simp [e0, e1] at h0 h1
      obtain ⟨A, rs, c, rfl, hl1, hl2, hr, _⟩ := ints_trod h0
      obtain ⟨t, e, ht⟩ := fe_of_trod _ m _ _ (Nat.lt_succ_self _) h1
      obtain ⟨k, a, b, nm, A2, c2, ks⟩ := t
      simp only [feF, List.cons.injEq, and_true] at e
      obtain ⟨rfl, rfl, rfl, rfl, rfl⟩ := e
      exact ⟨⟨rs, A, c, .node k a b nm A2 c2 ks⟩, rfl, ⟨hr, ht, by show rs.length ≤ maxLen; omega⟩⟩
end
end Go.Proofs.YtoaflcnphijhpaaGreatDoor
