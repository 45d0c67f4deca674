/- TopCut, TopName, EraPlain -/
import Derived.Test.YteebjkcpniddiaaGreatDoorGLine1
import Derived.Test.YteebjkcpniddiaaGreatDoorGCat1
import Derived.Test.YteebjkcpniddiaaGreatDoorGCatOk
import Derived.Test.YteebjkcpniddiaaGreatDoorGListArg
/- Contracts of the great laws' own mod and cut. -/
namespace Go.Proofs.YteebjkcpniddiaaGreatDoor
open Go.RowKit
set_option linter.unusedVariables false

theorem amod_any (a n : Int) (w : World) (h1 : 1 ≤ n) (h2 : n ≤ 1000000000000000) :
    Calls Tryz.prog 63 #[.int .i64 a, .int .i64 n] w fun e w' => e = .returned (.int .i64 (a % n)) ∧ w = w' := by
  have ht := (tmod_facts a n (by omega)).2.2.2
  have e1 := tmod_add_emod a n h1
  have E := Lib.hid e1
  clear e1
  have b1 : 0 ≤ a.tmod n + n := by omega
  have b2 : a.tmod n + n ≤ 9223372036854775807 := by omega
  have b3 : ¬ n = 0 := by omega
  go_enter Tryz.func63, Tryz.ntmps63
  go_wp2
  go_ret
  exact ⟨ret_int E.out, rfl⟩

theorem acut_any (x low n : Int) (w : World) (h1 : 1 ≤ n) (h2 : n ≤ 1000000000000000) (h3 : -1000000000000000 ≤ low) (h4 : low ≤ 1000000000000000) :
    Calls Tryz.prog 24 #[.int .i64 x, .int .i64 low, .int .i64 n] w fun e w' => e = .returned (.int .i64 (low + x % n)) ∧ w = w' := by
  have b1 := Int.emod_nonneg x (show n ≠ 0 by omega)
  have b2 := Int.emod_lt_of_pos x (show 0 < n by omega)
  go_enter Tryz.func24, Tryz.ntmps24
  go_wp2_with (go_at_call 63; refine (amod_any _ _ _ (by omega) (by omega)).mono ?_; rintro e w' ⟨rfl, rfl⟩)
  go_ret
  exact ⟨rfl, rfl⟩

end Go.Proofs.YteebjkcpniddiaaGreatDoor

/- Contract of the great laws' own name. -/
namespace Go.Proofs.YteebjkcpniddiaaGreatDoor
open Go Go.RowKit
set_option linter.unusedVariables false

set_option maxRecDepth 100000 in
set_option maxHeartbeats 4000000 in
theorem aname_any (k : Int) (w : World) (hk1 : -9223372036854775808 ≤ k) (hk2 : k ≤ 9223372036854775807) (h : Shp w) : Calls Tryz.prog 25 #[.int .i64 k] w fun e w' => e = .returned (.string (str (rowK k).nm)) ∧ Below w.heap.size w w' := by
  have HN := Lib.hid (names_any w h)
  have HM := Lib.hid (fun W => amod_any k 40 W (by omega) (by omega))
  have b1 := Int.emod_nonneg k (show (40 : Int) ≠ 0 by omega)
  have b2 := Int.emod_lt_of_pos k (show (0 : Int) < 40 by omega)
  have hI := Lib.hid (names_at (k % 40).toNat (by omega))
  have hR : Hid (rowK k = catR.getD (k % 40).toNat row0) := rfl
  have hi : (((k % 40).toNat : Nat) : Int) = k % 40 := by omega
  obtain ⟨i, hie⟩ : ∃ i : Nat, i = (k % 40).toNat := ⟨_, rfl⟩
  rw [← hie] at hi hI hR
  rw [← hi] at HM
  have hi2 : (i : Int) < 40 := by omega
  clear h b1 b2 hi hie
  go_enter Tryz.func25, Tryz.ntmps25
  go_wp2_with fail
  refine HN.out.mono ?_
  rintro e w1 ⟨v, rfl, hown, hb⟩
  obtain ⟨g, cap, rfl⟩ := ownsRow_succ (k := 39) hown
  have HB := Lib.hid hb
  have hc : w1.cell? ⟨g, i, none⟩ = some (.string (str (catR.getD i row0).nm)) := by
    have h := hown.cells (g := g) rfl i _ hI.out
    rw [addPlain, Nat.zero_add] at h
    exact h
  clear hown hb HN hI
  go_wp2_with (go_at_call 63; refine (HM.out _).mono ?_; rintro e w' ⟨rfl, rfl⟩)
  go_ret
  exact ⟨by rw [hR.out, List.getD_eq_getElem?_getD]; rfl, HB.out⟩

end Go.Proofs.YteebjkcpniddiaaGreatDoor

/- Reigns, plain: which reign a day has, and its regnal date. -/
namespace Go.Proofs.YteebjkcpniddiaaGreatDoor
open Go Go.RowKit
set_option linter.unusedVariables false

structure Rn where
  nm : ByteArray
  fr : Int
def rn0 : Rn := ⟨⟨#[]⟩, 0⟩
def rnF (x : Rn) : List Value := [.string x.nm, .int .i64 x.fr]
theorem rnF_len (x : Rn) : (rnF x).length = 2 := rfl
structure RnOk (l : List Rn) (i : Nat) : Prop where
  nm : NameOk (l.getD i rn0).nm
  is : -4000000 ≤ (l.getD i rn0).fr ∧ (l.getD i rn0).fr ≤ 4000000
  up : 0 < i → (l.getD (i - 1) rn0).fr < (l.getD i rn0).fr
structure ErOk (l : List Rn) : Prop where
  n1 : 1 ≤ l.length
  n2 : l.length ≤ 30
  each : ∀ i, i < l.length → RnOk l i
/-- the reign of a day -/
structure ReignAt (l : List Rn) (k : Nat) (day : Int) : Prop where
  lt : k < l.length
  lo : (l.getD k rn0).fr ≤ day
  hi : ∀ q, k < q → q < l.length → day < (l.getD q rn0).fr
/-- what a mode adds -/
def moreI (mode : Int) : Int := if mode = 1 then 1 else 0
theorem moreI_in (mode : Int) : 0 ≤ moreI mode ∧ moreI mode ≤ 1 := by unfold moreI; split <;> omega
/-- the calendar of a row, as such -/
def calE (r : CatRow) : Cal := ⟨str r.nm, r.t.ep, r.t.cy, r.t.mo, r.t.leaps r.t.cy.toNat, none, 0, none, 0⟩
theorem calE_of (r : CatRow) : CalOf r (calE r) := ⟨rfl, rfl, rfl, rfl, rfl⟩
theorem calE_ok {r : CatRow} (hr : r ∈ catR) : CalOk (calE r) := by
  obtain ⟨ok, _, hn⟩ := row_ok r hr
  refine ⟨?_, ok.mo, ?_⟩
  · have := ok.hd; rw [hn] at this; exact this
  · have h := yrs_inc r.t.cy.toNat (fun y => (evalR y r.t.ex).1 != 0)
    rw [show ((r.t.cy.toNat : Nat) : Int) = r.t.cy from by have := ok.hd.2.2.1; omega] at h
    exact h
/-- the regnal date n, m, d of a day in reign k -/
structure RegAt (l : List Rn) (r : CatRow) (mode : Int) (k : Nat) (n : Int) (m : Nat) (d day : Int) : Prop where
  at_ : ReignAt l k day
  is : -4000000 ≤ day ∧ day ≤ 4000000
  ex : ∃ (y fy : Int) (fm : Nat) (fd : Int), -10000 ≤ y ∧ y ≤ 10000 ∧ -10000 ≤ fy ∧ fy ≤ 10000 ∧ IsOn (calE r) y m d day ∧ IsOn (calE r) fy fm fd (l.getD k rn0).fr ∧ n = y - fy + moreI mode
theorem cr0_inE : cr0 ∈ catR := by simp [catR]
set_option maxRecDepth 1000000 in
set_option maxHeartbeats 40000000 in
theorem greg_one : IsOn (calE cr0) 1 0 0 1 ∧ IsOn (calE cr0) 2 0 0 366 := by
  have h : ((calE cr0).ny 1 + (calE cr0).pre 1 0 + 0 = 1 ∧ 0 < (calE cr0).mlen 1 0) ∧ (calE cr0).ny 2 + (calE cr0).pre 2 0 + 0 = 366 ∧ 0 < (calE cr0).mlen 2 0 := by decide +kernel
  exact ⟨⟨by show 0 < 12; omega, by omega, h.1.2, h.1.1.symm⟩, by show 0 < 12; omega, by omega, h.2.2, h.2.1.symm⟩
end Go.Proofs.YteebjkcpniddiaaGreatDoor
