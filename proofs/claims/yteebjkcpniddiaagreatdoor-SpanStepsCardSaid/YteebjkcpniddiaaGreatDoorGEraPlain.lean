/- EraPlain -/
import Derived.Test.YteebjkcpniddiaaGreatDoorGCat1
import Derived.Test.YteebjkcpniddiaaGreatDoorGCatOk
import Derived.Test.YteebjkcpniddiaaGreatDoorGListArg
/- Reigns, plain: which reign a day has, and its regnal date. -/
namespace Go.Proofs.YteebjkcpniddiaaGreatDoor
open Go Go.RowKit
set_option linter.unusedVariables false

structure Rn where
  nm : ByteArray
  fr : Int
def rn0 : Rn := ⟨⟨#[]⟩, 0⟩
def rnF (x : Rn) : List Value := [.string x.nm, .int .i64 x.fr]
theorem rnF_len (x : Rn) : (rnF x).length = 2 := rfl
structure RnOk (l : List Rn) (i : Nat) : Prop where
  nm : NameOk (l.getD i rn0).nm
  is : -4000000 ≤ (l.getD i rn0).fr ∧ (l.getD i rn0).fr ≤ 4000000
  up : 0 < i → (l.getD (i - 1) rn0).fr < (l.getD i rn0).fr
structure ErOk (l : List Rn) : Prop where
  n1 : 1 ≤ l.length
  n2 : l.length ≤ 30
  each : ∀ i, i < l.length → RnOk l i
/-- the reign of a day -/
structure ReignAt (l : List Rn) (k : Nat) (day : Int) : Prop where
  lt : k < l.length
  lo : (l.getD k rn0).fr ≤ day
  hi : ∀ q, k < q → q < l.length → day < (l.getD q rn0).fr
/-- what a mode adds -/
def moreI (mode : Int) : Int := if mode = 1 then 1 else 0
theorem moreI_in (mode : Int) : 0 ≤ moreI mode ∧ moreI mode ≤ 1 := by unfold moreI; split <;> omega
/-- the calendar of a row, as such -/
def calE (r : CatRow) : Cal := ⟨str r.nm, r.t.ep, r.t.cy, r.t.mo, r.t.leaps r.t.cy.toNat, none, 0, none, 0⟩
theorem calE_of (r : CatRow) : CalOf r (calE r) := ⟨rfl, rfl, rfl, rfl, rfl⟩
theorem calE_ok {r : CatRow} (hr : r ∈ catR) : CalOk (calE r) := by
  obtain ⟨ok, _, hn⟩ := row_ok r hr
  refine ⟨?_, ok.mo, ?_⟩
  · have := ok.hd; rw [hn] at this; exact this
  · have h := yrs_inc r.t.cy.toNat (fun y => (evalR y r.t.ex).1 != 0)
    rw [show ((r.t.cy.toNat : Nat) : Int) = r.t.cy from by have := ok.hd.2.2.1; omega] at h
    exact h
/-- the regnal date n, m, d of a day in reign k -/
structure RegAt (l : List Rn) (r : CatRow) (mode : Int) (k : Nat) (n : Int) (m : Nat) (d day : Int) : Prop where
  at_ : ReignAt l k day
  is : -4000000 ≤ day ∧ day ≤ 4000000
  ex : ∃ (y fy : Int) (fm : Nat) (fd : Int), -10000 ≤ y ∧ y ≤ 10000 ∧ -10000 ≤ fy ∧ fy ≤ 10000 ∧ IsOn (calE r) y m d day ∧ IsOn (calE r) fy fm fd (l.getD k rn0).fr ∧ n = y - fy + moreI mode
theorem cr0_inE : cr0 ∈ catR := by simp [catR]
set_option maxRecDepth 1000000 in
set_option maxHeartbeats 40000000 in
theorem greg_one : IsOn (calE cr0) 1 0 0 1 ∧ IsOn (calE cr0) 2 0 0 366 := by
  have h : ((calE cr0).ny 1 + (calE cr0).pre 1 0 + 0 = 1 ∧ 0 < (calE cr0).mlen 1 0) ∧ (calE cr0).ny 2 + (calE cr0).pre 2 0 + 0 = 366 ∧ 0 < (calE cr0).mlen 2 0 := by decide +kernel
  exact ⟨⟨by show 0 < 12; omega, by omega, h.1.2, h.1.1.symm⟩, by show 0 < 12; omega, by omega, h.2.2, h.2.1.symm⟩
end Go.Proofs.YteebjkcpniddiaaGreatDoor
