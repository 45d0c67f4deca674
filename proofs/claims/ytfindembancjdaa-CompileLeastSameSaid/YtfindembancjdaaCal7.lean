/- Contracts of rule.Check and compile.Compile. -/
import Derived.Test.YtfindembancjdaaCal6
import Derived.Test.YtfindembancjdaaRule3
import Derived.Test.YtfindembancjdaaRuleArg
namespace Go.Proofs.Ytfindembancjdaa
open Go.RowKit
set_option linter.unusedVariables false

/-- a rule of a calendar -/
structure Tr where
  nm : ByteArray
  ep : Int
  cy : Int
  k : Int
  n : Int
  A : Option Addr
  c : Nat
  ks : List RE
  mo : List Mth
  A1 : Option Addr
  c1 : Nat
abbrev Tr.ex (t : Tr) : RE := .node t.k t.n t.A t.c t.ks
abbrev Tr.cells (t : Tr) : Array Value := #[.string t.nm, .int .i64 t.ep, .int .i64 t.cy, .int .i64 t.k, .int .i64 t.n, .slice t.A t.ks.length t.c, .slice t.A1 t.mo.length t.c1]
abbrev Tr.val (t : Tr) : Value := .agg t.cells
structure TrIn (w : World) (t : Tr) : Prop where
  r1 : Row w w.heap.size t.A1 (t.mo.flatMap mthF)
  ex : ReIn w w.heap.size t.ex
theorem TrIn.next {w w' : World} {t : Tr} (h : TrIn w t) (hb : Below w.heap.size w w') : TrIn w' t := ⟨h.r1.next hb, h.ex.next hb hb.size⟩
structure TrFit (t : Tr) : Prop where
  nm : t.nm.size ≤ maxLen
  ns : ∀ x ∈ t.mo, x.nm.size ≤ maxLen
  l1 : t.mo.length ≤ t.c1
  m1 : t.c1 ≤ maxLen
structure TrOk (t : Tr) : Prop where
  hd : NameOk t.nm ∧ (-4000000 ≤ t.ep ∧ t.ep ≤ 4000000) ∧ 1 ≤ t.cy ∧ t.cy ≤ 3000
  ex : ReFine t.ex
  mo : MthsOk t.mo
theorem trcells {W : World} {g : Nat} {t : Tr} (h : Box W g 78 t.cells) : W.cell? ⟨g, 0, none⟩ = some (.string t.nm) ∧ W.cell? ⟨g, 1, none⟩ = some (.int .i64 t.ep) ∧ W.cell? ⟨g, 2, none⟩ = some (.int .i64 t.cy) ∧ W.cell? ⟨g, 3, none⟩ = some (.int .i64 t.k) ∧ W.cell? ⟨g, 4, none⟩ = some (.int .i64 t.n) ∧ W.cell? ⟨g, 5, none⟩ = some (.slice t.A t.ks.length t.c) ∧ W.cell? ⟨g, 6, none⟩ = some (.slice t.A1 t.mo.length t.c1) :=
  ⟨h.cell 0, h.cell 1, h.cell 2, h.cell 3, h.cell 4, h.cell 5, h.cell 6⟩

set_option maxHeartbeats 1000000 in
set_option maxRecDepth 100000 in
theorem trcheck_any (t : Tr) (w : World) (hr : TrIn w t) (hf : TrFit t) : Calls Try.prog 71 #[t.val] w (Errs (TrOk t) w) := by
  have HX := Lib.hid (Box.new w 78 t.cells)
  have HB := Lib.hid (below_alloc1 w (Obj.cells t.cells 78))
  have HR := Lib.hid (hr.next HB.out)
  have HF := Lib.hid hf
  obtain ⟨Q, hQ⟩ : ∃ Q : Prop, Q = TrOk t := ⟨_, rfl⟩
  have QI : Hid (Q ↔ (NameOk t.nm ∧ (-4000000 ≤ t.ep ∧ t.ep ≤ 4000000) ∧ 1 ≤ t.cy ∧ t.cy ≤ 3000) ∧ ReFine t.ex ∧ MthsOk t.mo) := by
    unfold Hid
    rw [hQ]
    exact ⟨fun h => ⟨h.hd, h.ex, h.mo⟩, fun h => ⟨h.1, h.2.1, h.2.2⟩⟩
  rw [← hQ]
  clear hr hf hQ
  go_enter Try.func71, Try.ntmps71
  go_wp2_with fail
  generalize w.alloc (Obj.cells t.cells 78) = W0 at *
  obtain ⟨g, hg⟩ : ∃ g, g = w.heap.size := ⟨_, rfl⟩
  rw [← hg] at HX
  rw [← hg]
  clear hg
  refine (head_any t.nm t.ep t.cy _ HF.out.nm).mono ?_
  rintro e w1 ⟨E1, rfl, hE1, hb1⟩
  have HE1 := Lib.hid hE1
  replace HX := Lib.hid (HX.out.below hb1)
  replace HB := Lib.hid (below_then HB.out hb1)
  replace HR := Lib.hid (HR.out.next hb1)
  clear hE1 hb1
  by_cases e1 : E1 = 0
  case neg =>
    have t1 : (E1 != 0) = true := by rw [bne_iff_ne]; exact e1
    have HNQ : Hid (¬ Q) := fun h => e1 (HE1.out.2 (QI.out.1 h).1)
    clear HE1
    go_wp2_with fail
    go_ret
    exact Errs.no e1 HNQ.out HB.out
  subst e1
  have HW := Lib.hid (HE1.out.1 rfl)
  clear HE1
  obtain ⟨x0, x1, x2, x3, x4, x5, x6⟩ := trcells HX.out
  go_wp2_with fail
  refine (checkExpr_any t.ex _ HR.out.ex).mono ?_
  rintro e w2 ⟨E1, rfl, hb1, hE0, hE1, _⟩
  have HE0 := Lib.hid hE0
  have HE1 := Lib.hid hE1
  replace HX := Lib.hid (HX.out.below hb1)
  replace HB := Lib.hid (below_then HB.out hb1)
  replace HR := Lib.hid (HR.out.next hb1)
  clear hE0 hE1 hb1 x0 x1 x2 x3 x4 x5 x6
  by_cases e1 : E1 = 0
  case neg =>
    have t1 : (E1 != 0) = true := by rw [bne_iff_ne]; exact e1
    have HNQ : Hid (¬ Q) := fun h => HE1.out e1 (QI.out.1 h).2.1
    clear HE1 HE0
    go_wp2_with fail
    go_ret
    exact Errs.no e1 HNQ.out HB.out
  subst e1
  have HE := Lib.hid (HE0.out rfl)
  clear HE1 HE0
  obtain ⟨x0, x1, x2, x3, x4, x5, x6⟩ := trcells HX.out
  go_wp2_with fail
  refine (rmonths_any t.A1 t.c1 t.mo _ HR.out.r1 HF.out.l1 HF.out.m1 HF.out.ns).mono ?_
  rintro e w3 ⟨E1, rfl, hE1, hb1⟩
  have HE1 := Lib.hid hE1
  replace HB := Lib.hid (below_then HB.out hb1)
  clear hE1 hb1 x0 x1 x2 x3 x4 x5 x6
  go_wp2_with fail
  go_ret
  exact ⟨E1, rfl, ⟨fun h0 => QI.out.2 ⟨HW.out, HE.out, HE1.out.1 h0⟩, fun h => HE1.out.2 (QI.out.1 h).2.2⟩, HB.out⟩

/-- the years from 1 to n -/
def yrs (n : Nat) : List Int := (List.range n).map fun (i : Nat) => (i : Int) + 1
theorem yrs_snoc (n : Nat) : yrs (n + 1) = yrs n ++ [(n : Int) + 1] := by simp [yrs, List.range_succ]
theorem yrs_len (n : Nat) : (yrs n).length = n := by simp [yrs]
theorem inc_of {l : List Int} {lo hi : Int} (hp : l.Pairwise (· < ·)) (hm : ∀ x ∈ l, lo ≤ x ∧ x ≤ hi) : Inc l lo hi := fun i hi' => by
  have e : ∀ j (hj : j < l.length), l.getD j 0 = l[j] := fun j hj => by simp [List.getD, List.getElem?_eq_getElem hj]
  refine ⟨by rw [e i hi']; exact hm _ (List.getElem_mem hi'), fun h0 => ?_⟩
  rw [e i hi', e (i - 1) (by omega)]
  exact List.pairwise_iff_getElem.1 hp (i - 1) i (by omega) hi' (by omega)
theorem yrs_inc (n : Nat) (p : Int → Bool) : Inc ((yrs n).filter p) 1 n := by
  refine inc_of (List.Pairwise.filter _ ?_) (fun x hx => ?_)
  · unfold yrs
    rw [List.pairwise_map]
    exact List.pairwise_lt_range.imp fun h => by omega
  · obtain ⟨h, _⟩ := List.mem_filter.1 hx
    unfold yrs at h
    obtain ⟨i, hi, rfl⟩ := List.mem_map.1 h
    have := List.mem_range.1 hi
    omega
/-- the leap years that a rule gives -/
def Tr.leaps (t : Tr) (n : Nat) : List Int := (yrs n).filter fun y => (evalR y t.ex).1 != 0
/-- what Compile gives -/
def IsComp (t : Tr) (w : World) (e : Ending) (w' : World) : Prop :=
  ∃ (c : Cal) (E : Int), e = .returned (.tuple #[c.val, .int .i64 E]) ∧ Below w.heap.size w w' ∧ (E = 0 → TrOk t ∧ c.nm = t.nm ∧ c.ep = t.ep ∧ c.cy = t.cy ∧ c.mo = t.mo ∧ c.lp = t.leaps t.cy.toNat ∧ CalIn w' c ∧ CalFit c ∧ CalOk c ∧ (∀ a, c.A1 = some a → w.heap.size ≤ a.block) ∧ (∀ a, c.A2 = some a → w.heap.size ≤ a.block))
end Go.Proofs.Ytfindembancjdaa
