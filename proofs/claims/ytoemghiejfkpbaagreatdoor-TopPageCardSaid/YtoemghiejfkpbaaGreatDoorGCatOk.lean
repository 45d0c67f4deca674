/- CatOk, CatOk2, CatOk3 -/
import Derived.Test.YtoemghiejfkpbaaGreatDoorGCatData
import Derived.Test.YtoemghiejfkpbaaGreatDoorGCal5
import Derived.Test.YtoemghiejfkpbaaGreatDoorGPlainCal
/- The rules of the table are valid. -/
namespace Go.Proofs.YtoemghiejfkpbaaGreatDoor
open Go.RowKit
set_option linter.unusedVariables false
def nameB (l : List UInt8) : Bool := decide (1 ≤ l.length) && decide (l.length ≤ 12) && !(l == [121]) && !(l == [97, 110, 100]) && !(l == [111, 114]) && !(l == [110, 111, 116]) && l.all (fun b => decide (97 ≤ b.toNat ∧ b.toNat ≤ 122))
theorem nameB_ok (s : ByteArray) (h : nameB s.data.toList = true) : NameOk s := by
 unfold nameB at h
 simp only [Bool.and_eq_true, decide_eq_true_eq, Bool.not_eq_true', beq_eq_false_iff_ne] at h
 obtain ⟨⟨⟨⟨⟨⟨h1, h2⟩, h3⟩, h4⟩, h5⟩, h6⟩, h7⟩ := h
 have hl : s.data.toList.length = s.size := Array.length_toList
 rw [hl] at h1 h2
 refine ⟨h1, h2, ?_, ?_, ?_, ?_, fun k hk => ?_⟩
 ·rw [Lib.toList_data]; exact h3
 ·rw [Lib.toList_data]; exact h4
 ·rw [Lib.toList_data]; exact h5
 ·rw [Lib.toList_data]; exact h6
 ·have hk' : k < s.data.toList.length := by omega
  have := List.all_eq_true.1 h7 s.data.toList[k] (List.getElem_mem hk')
  simp only [decide_eq_true_eq, Array.getElem_toList] at this
  exact this
mutual
def reB : RE → Bool
 | .node k n _ _ ks => decide (1 ≤ k) && decide (k ≤ 13) && decide (ks.length = opsN k) && decide (0 ≤ n) && decide (n ≤ if k = 1 then 2147483647 else 0) && reLB ks
def reLB : List RE → Bool
 | [] => true
 | x :: r => reB x && reLB r
end
mutual
theorem reB_ok : ∀ t : RE, reB t = true → ReOk t
 | .node k n A c ks, h => by
  rw [reB] at h
  simp only [Bool.and_eq_true, decide_eq_true_eq] at h
  exact .mk ⟨h.1.1.1.1.1, h.1.1.1.1.2, h.1.1.1.2, h.1.1.2, h.1.2⟩ (reLB_ok ks h.2)
theorem reLB_ok : ∀ ks : List RE, reLB ks = true → ∀ x ∈ ks, ReOk x
 | [], _, x, hx => by cases hx
 | y :: r, h, x, hx => by
  rw [reLB, Bool.and_eq_true] at h
  rcases List.mem_cons.1 hx with e | hx
  ·rw [e]; exact reB_ok y h.1
  ·exact reLB_ok r h.2 x hx
end
def mthB (l : List Mth) (i : Nat) : Bool := nameB (l.getD i mth0).nm.data.toList && !((l.take i).any (fun x => x.nm.data.toList == (l.getD i mth0).nm.data.toList)) && decide (0 ≤ (l.getD i mth0).sh ∧ (l.getD i mth0).sh ≤ 400) && decide (0 ≤ (l.getD i mth0).lo ∧ (l.getD i mth0).lo ≤ 400)
def mthsB (l : List Mth) : Bool := decide (1 ≤ l.length) && decide (l.length ≤ 20) && (List.range l.length).all (mthB l) && decide (sumS l ≠ 0) && decide (sumL l ≠ 0)
theorem mthsB_ok (l : List Mth) (h : mthsB l = true) : MthsOk l := by
 unfold mthsB at h
 simp only [Bool.and_eq_true, decide_eq_true_eq] at h
 obtain ⟨⟨⟨⟨h1, h2⟩, h3⟩, h4⟩, h5⟩ := h
 refine ⟨h1, h2, fun i hi => ?_, h4, h5⟩
 have h6 := List.all_eq_true.1 h3 i (List.mem_range.2 hi)
 unfold mthB at h6
 simp only [Bool.and_eq_true, decide_eq_true_eq, Bool.not_eq_true'] at h6
 refine ⟨nameB_ok _ h6.1.1.1, ?_, h6.1.2, h6.2⟩
 have := h6.1.1.2
 simp only [Lib.toList_data]
 exact this
def trB (t : Tr) : Bool := nameB t.nm.data.toList && decide (-4000000 ≤ t.ep ∧ t.ep ≤ 4000000) && decide (1 ≤ t.cy ∧ t.cy ≤ 3000) && reB t.ex && decide (sz t.ex ≤ 60) && decide (ht t.ex ≤ 12) && mthsB t.mo
theorem trB_ok (t : Tr) (h : trB t = true) : TrOk t := by
 unfold trB at h
 simp only [Bool.and_eq_true, decide_eq_true_eq] at h
 exact ⟨⟨nameB_ok _ h.1.1.1.1.1.1, h.1.1.1.1.1.2, h.1.1.1.1.2⟩, ⟨reB_ok _ h.1.1.1.2, h.1.1.2, h.1.2⟩, mthsB_ok _ h.2⟩
theorem row_ok (r : CatRow) (hr : r ∈ catR) : TrOk r.t ∧ (printR r.t).length ≤ 4000 ∧ r.t.nm = str r.nm := by
 have h : catR.all (fun r => trB r.t && decide ((printR r.t).length ≤ 4000) && r.t.nm.data.toList == r.nm) = true := by decide +kernel
 have h1 := List.all_eq_true.1 h r hr
 simp only [Bool.and_eq_true, decide_eq_true_eq, beq_iff_eq] at h1
 refine ⟨trB_ok _ h1.1.1, h1.1.2, ?_⟩
 rw [← h1.2]
 exact (str_own' _).symm
theorem row_one (r r' : CatRow) (hr : r ∈ catR) (hr' : r' ∈ catR) (h : r.nm = r'.nm) : r = r' := by
 have hd : (catR.map CatRow.nm).Nodup := by decide +kernel
 obtain ⟨i, hi, rfl⟩ := List.getElem_of_mem hr
 obtain ⟨j, hj, rfl⟩ := List.getElem_of_mem hr'
 have : i = j := (List.getElem_inj (h₀ := by simpa using hi) (h₁ := by simpa using hj) hd).1 (by simpa using h)
 subst this
 rfl
end Go.Proofs.YtoemghiejfkpbaaGreatDoor
/- The rules of the table have values in each year of their cycle; their calendars reach far enough. -/
namespace Go.Proofs.YtoemghiejfkpbaaGreatDoor
open Go.RowKit
set_option linter.unusedVariables false
structure CalOf (r : CatRow) (c : Cal) : Prop where
 nm : c.nm = str r.nm
 ep : c.ep = r.t.ep
 cy : c.cy = r.t.cy
 mo : c.mo = r.t.mo
 lp : c.lp = r.t.leaps r.t.cy.toNat
set_option maxHeartbeats 40000000 in
set_option maxRecDepth 1000000 in
theorem row_ev (r : CatRow) (hr : r ∈ catR) (i : Nat) (hi : (i : Int) < r.t.cy) : (evalR ((i : Int) + 1) r.t.ex).2 = 0 := by
 have h : catR.all (fun r => (List.range r.t.cy.toNat).all fun i => (evalR ((i : Int) + 1) r.t.ex).2 == 0) = true := by decide +kernel
 have h1 := List.all_eq_true.1 (List.all_eq_true.1 h r hr) i (List.mem_range.2 (by omega))
 simpa using h1
end Go.Proofs.YtoemghiejfkpbaaGreatDoor
/- Two calendars of one row have the same dates. -/
namespace Go.Proofs.YtoemghiejfkpbaaGreatDoor
open Go.RowKit
set_option linter.unusedVariables false
theorem CalOf.on {r : CatRow} {c c' : Cal} (h : CalOf r c) (h' : CalOf r c') (y : Int) (m : Nat) (d n : Int) : IsOn c y m d n ↔ IsOn c' y m d n := by
 have e1 : c.ep = c'.ep := by rw [h.ep, h'.ep]
 have e2 : c.cy = c'.cy := by rw [h.cy, h'.cy]
 have e3 : c.mo = c'.mo := by rw [h.mo, h'.mo]
 have e4 : c.lp = c'.lp := by rw [h.lp, h'.lp]
 have f1 : c.lpy y = c'.lpy y := by unfold Cal.lpy Cal.pl; rw [e2, e4]
 have f2 : c.mlen y m = c'.mlen y m := by unfold Cal.mlen; rw [f1, e3]
 have f3 : c.pre y m = c'.pre y m := by unfold Cal.pre; rw [f1, e3]
 have f4 : c.ny y = c'.ny y := by unfold Cal.ny; rw [e1, e2, e3, e4]
 exact ⟨fun a => ⟨by rw [← e3]; exact a.m1, a.d0, by rw [← f2]; exact a.d1, by rw [← f4, ← f3]; exact a.on⟩, fun a => ⟨by rw [e3]; exact a.m1, a.d0, by rw [f2]; exact a.d1, by rw [f4, f3]; exact a.on⟩⟩
end Go.Proofs.YtoemghiejfkpbaaGreatDoor
