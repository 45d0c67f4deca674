/- RuleArg, Tree1 -/
import Derived.Test.YtoemghiejfkpbaaGreatDoorGCal1
import Derived.Test.YtoemghiejfkpbaaGreatDoorGRule1
/- An expression of a rule that came in as an argument, read as a tree. -/
namespace Go.Proofs.YtoemghiejfkpbaaGreatDoor
open Go.RowKit Go.Joins Go.ChangeShapes Go.WideShapes Go.Deep
set_option linter.unusedVariables false
section
variable {H : Type} {enc : TypeId × Value → H} {W : World}
end
end Go.Proofs.YtoemghiejfkpbaaGreatDoor
/- A rule of a calendar; contract of rule.Check. -/
namespace Go.Proofs.YtoemghiejfkpbaaGreatDoor
open Go.RowKit
set_option linter.unusedVariables false
theorem row_own {w : World} {base : Nat} {e : TypeId} {s : Nat} {A : Option Addr} {n c : Nat} {xs : List Value} (h : w.ownsRow base e s (.slice A n c) n xs) : Row w w.heap.size A xs := by
 by_cases hn : 0 < n
 ·obtain ⟨g, cap, hv, _, hlt⟩ := h.form hn
  have hA : A = some ⟨g, 0, none⟩ := by injection hv
  subst hA
  refine .inr ⟨g, 0, rfl, hlt, fun j v hv => ?_⟩
  have := h.cells (g := g) rfl j v hv
  rw [Nat.zero_add]
  rw [addPlain, Nat.zero_add] at this
  exact this
 ·have h0 : n = 0 := by omega
  subst h0
  have := h.1
  exact .inl (List.eq_nil_of_length_eq_zero (by simpa using this))
structure Tr where
 nm : ByteArray
 ep : Int
 cy : Int
 k : Int
 n : Int
 A : Option Addr
 c : Nat
 ks : List RE
 mo : List Mth
 A1 : Option Addr
 c1 : Nat
abbrev Tr.ex (t : Tr) : RE := .node t.k t.n t.A t.c t.ks
abbrev Tr.cells (t : Tr) : Array Value := #[.string t.nm, .int .i64 t.ep, .int .i64 t.cy, .int .i64 t.k, .int .i64 t.n, .slice t.A t.ks.length t.c, .slice t.A1 t.mo.length t.c1]
abbrev Tr.val (t : Tr) : Value := .agg t.cells
structure TrIn (w : World) (t : Tr) : Prop where
 r1 : Row w w.heap.size t.A1 (t.mo.flatMap mthF)
 ex : ReIn w w.heap.size t.ex
theorem TrIn.next {w w' : World} {t : Tr} (h : TrIn w t) (hb : Below w.heap.size w w') : TrIn w' t := ⟨h.r1.next hb, h.ex.next hb hb.size⟩
structure TrFit (t : Tr) : Prop where
 nm : t.nm.size ≤ maxLen
 ns : ∀ x ∈ t.mo, x.nm.size ≤ maxLen
 l1 : t.mo.length ≤ t.c1
 m1 : t.c1 ≤ maxLen
structure TrOk (t : Tr) : Prop where
 hd : NameOk t.nm ∧ (-4000000 ≤ t.ep ∧ t.ep ≤ 4000000) ∧ 1 ≤ t.cy ∧ t.cy ≤ 3000
 ex : ReFine t.ex
 mo : MthsOk t.mo
theorem trcells {W : World} {g : Nat} {t : Tr} (h : Box W g 131 t.cells) : W.cell? ⟨g, 0, none⟩ = some (.string t.nm) ∧ W.cell? ⟨g, 1, none⟩ = some (.int .i64 t.ep) ∧ W.cell? ⟨g, 2, none⟩ = some (.int .i64 t.cy) ∧ W.cell? ⟨g, 3, none⟩ = some (.int .i64 t.k) ∧ W.cell? ⟨g, 4, none⟩ = some (.int .i64 t.n) ∧ W.cell? ⟨g, 5, none⟩ = some (.slice t.A t.ks.length t.c) ∧ W.cell? ⟨g, 6, none⟩ = some (.slice t.A1 t.mo.length t.c1) :=
 ⟨h.cell 0, h.cell 1, h.cell 2, h.cell 3, h.cell 4, h.cell 5, h.cell 6⟩
set_option maxHeartbeats 1000000 in
set_option maxRecDepth 100000 in
theorem trcheck_any (t : Tr) (w : World) (hr : TrIn w t) (hf : TrFit t) : Calls Tryz.prog 106 #[t.val] w (Errs (TrOk t) w) := by
 have HX := Lib.hid (Box.new w 131 t.cells)
 have HB := Lib.hid (below_alloc1 w (Obj.cells t.cells 131))
 have HR := Lib.hid (hr.next HB.out)
 have HF := Lib.hid hf
 obtain ⟨Q, hQ⟩ : ∃ Q : Prop, Q = TrOk t := ⟨_, rfl⟩
 have QI : Hid (Q ↔ (NameOk t.nm ∧ (-4000000 ≤ t.ep ∧ t.ep ≤ 4000000) ∧ 1 ≤ t.cy ∧ t.cy ≤ 3000) ∧ ReFine t.ex ∧ MthsOk t.mo) := by
  unfold Hid
  rw [hQ]
  exact ⟨fun h => ⟨h.hd, h.ex, h.mo⟩, fun h => ⟨h.1, h.2.1, h.2.2⟩⟩
 rw [← hQ]
 clear hr hf hQ
 go_enter Tryz.func106, Tryz.ntmps106
 go_wp2_with fail
 generalize w.alloc (Obj.cells t.cells 131) = W0 at *
 obtain ⟨g, hg⟩ : ∃ g, g = w.heap.size := ⟨_, rfl⟩
 rw [← hg] at HX
 rw [← hg]
 clear hg
 refine (head_any t.nm t.ep t.cy _ HF.out.nm).mono ?_
 rintro e w1 ⟨E1, rfl, hE1, hb1⟩
 have HE1 := Lib.hid hE1
 replace HX := Lib.hid (HX.out.below hb1)
 replace HB := Lib.hid (below_then HB.out hb1)
 replace HR := Lib.hid (HR.out.next hb1)
 clear hE1 hb1
 by_cases e1 : E1 = 0
 case neg =>
  have t1 : (E1 != 0) = true := by rw [bne_iff_ne]; exact e1
  have HNQ : Hid (¬ Q) := fun h => e1 (HE1.out.2 (QI.out.1 h).1)
  clear HE1
  go_wp2_with fail
  go_ret
  exact Errs.no e1 HNQ.out HB.out
 subst e1
 have HW := Lib.hid (HE1.out.1 rfl)
 clear HE1
 obtain ⟨x0, x1, x2, x3, x4, x5, x6⟩ := trcells HX.out
 go_wp2_with fail
 refine (checkExpr_any t.ex _ HR.out.ex).mono ?_
 rintro e w2 ⟨E1, rfl, hb1, hE0, hE1, _⟩
 have HE0 := Lib.hid hE0
 have HE1 := Lib.hid hE1
 replace HX := Lib.hid (HX.out.below hb1)
 replace HB := Lib.hid (below_then HB.out hb1)
 replace HR := Lib.hid (HR.out.next hb1)
 clear hE0 hE1 hb1 x0 x1 x2 x3 x4 x5 x6
 by_cases e1 : E1 = 0
 case neg =>
  have t1 : (E1 != 0) = true := by rw [bne_iff_ne]; exact e1
  have HNQ : Hid (¬ Q) := fun h => HE1.out e1 (QI.out.1 h).2.1
  clear HE1 HE0
  go_wp2_with fail
  go_ret
  exact Errs.no e1 HNQ.out HB.out
 subst e1
 have HE := Lib.hid (HE0.out rfl)
 clear HE1 HE0
 obtain ⟨x0, x1, x2, x3, x4, x5, x6⟩ := trcells HX.out
 go_wp2_with fail
 refine (rmonths_any t.A1 t.c1 t.mo _ HR.out.r1 HF.out.l1 HF.out.m1 HF.out.ns).mono ?_
 rintro e w3 ⟨E1, rfl, hE1, hb1⟩
 have HE1 := Lib.hid hE1
 replace HB := Lib.hid (below_then HB.out hb1)
 clear hE1 hb1 x0 x1 x2 x3 x4 x5 x6
 go_wp2_with fail
 go_ret
 exact ⟨E1, rfl, ⟨fun h0 => QI.out.2 ⟨HW.out, HE.out, HE1.out.1 h0⟩, fun h => HE1.out.2 (QI.out.1 h).2.2⟩, HB.out⟩
end Go.Proofs.YtoemghiejfkpbaaGreatDoor
