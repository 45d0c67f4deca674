/- RefPlain -/
import Derived.Test.YtbmbphikjainiaaGreatDoorGRef1
/- The reform of one part, julian; each calendar of the catalog is valid. -/
namespace Go.Proofs.YtbmbphikjainiaaGreatDoor
open Go Go.RowKit
set_option linter.unusedVariables false

theorem calR_valid {r : CatRow} (hr : r ∈ catR) : CalOk (calR r) := by
  obtain ⟨ok, _, hn⟩ := row_ok r hr
  refine ⟨?_, ok.mo, ?_⟩
  · have := ok.hd; rw [hn] at this; exact this
  · have h := yrs_inc r.t.cy.toNat (fun y => (evalR y r.t.ex).1 != 0)
    rw [show ((r.t.cy.toNat : Nat) : Int) = r.t.cy from by have := ok.hd.2.2.1; omega] at h
    exact h
theorem cr1_in : cr1 ∈ catR := by simp [catR]
/-- a reform of one part, julian -/
def oneR (nm : ByteArray) (A : Option Addr) : Rf := ⟨nm, [⟨-4000000, ⟨#[106, 117, 108, 105, 97, 110]⟩⟩], A, 1⟩
theorem jul_nm : (⟨#[106, 117, 108, 105, 97, 110]⟩ : ByteArray) = str cr1.nm := rfl
theorem one_ok {nm : ByteArray} (A : Option Addr) (h : NameOk nm) : RfOk (oneR nm A) where
  nm := h
  n1 := Nat.le_refl _
  n2 := by show 1 ≤ 10; omega
  z := rfl
  each := fun i hi => by
    have : i < 1 := hi
    obtain rfl : i = 0 := by omega
    exact ⟨⟨by show (-4000000 : Int) ≤ -4000000; omega, by show (-4000000 : Int) ≤ 4000000; omega⟩, fun h => absurd h (by omega), List.mem_map.2 ⟨cr1, cr1_in, rfl⟩⟩
theorem one_part {nm : ByteArray} (A : Option Addr) (n : Int) (h : -4000000 ≤ n) : PartAt (oneR nm A).ps 0 n := ⟨by show 0 < 1; omega, h, fun q hq hl => by have : q < 1 := hl; omega⟩
theorem jul_on : IsOn (calR cr1) 1 0 2 1 := by
  have ok := calR_valid cr1_in
  have hl : (calR cr1).mlen 1 0 = 31 := by
    unfold Cal.mlen
    split <;> rfl
  refine ⟨by show 0 < 12; omega, by omega, by rw [hl]; omega, ?_⟩
  rw [Cal.ny_one ok, Cal.pre_zero]
  rfl
theorem one_good {nm : ByteArray} (A : Option Addr) : Gd (oneR nm A).ps 1 1 3 0 1 :=
  ⟨one_part A 1 (by omega), ⟨by omega, by omega⟩, 0, rfl, by omega, by omega, cr1, cr1_in, jul_nm, calR_valid cr1_in, jul_on⟩
theorem all_one {xs : List Int} (h : ∀ x ∈ xs, x = 1) (h1 : 1 ∈ xs) (hp : xs.Pairwise (· < ·)) : xs = [1] := by
  match xs with
  | [] => cases h1
  | [a] => rw [h a (by simp)]
  | a :: b :: l =>
    rw [List.pairwise_cons] at hp
    have := hp.1 b (by simp)
    have := h a (by simp)
    have := h b (by simp)
    omega
theorem one_days {nm : ByteArray} {A : Option Addr} {xs : List Int} (h : DL (oneR nm A).ps 1 1 3 (oneR nm A).ps.length xs) : xs = [1] := by
  refine all_one (fun x hx => ?_) (h.has 0 1 (by show 0 < 1; omega) (one_good A)) h.inc
  obtain ⟨k, hk, g⟩ := h.all x hx
  have hk' : k < 1 := hk
  obtain rfl : k = 0 := by omega
  exact g.unique (one_good A)
/-- a day in the list of a date has this date -/
theorem DL.from {r : Rf} {a1 a2 a3 : Int} {xs : List Int} (ok : RfOk r) (h : DL r.ps a1 a2 a3 r.ps.length xs) {x : Int} (hx : x ∈ xs) {e : Ending} (hf : RFD r x e) : e = .returned (.tuple #[.agg (dateC a1 a2 a3), .int .i64 0]) := by
  obtain ⟨k, _, hp, hi, m, e2, q1, q2, ho⟩ := h.all x hx
  obtain ⟨b1, b2, b3, E, rfl, _, hd⟩ := hf
  obtain ⟨rfl, rfl, rfl, rfl⟩ := hd ok hi.1 hi.2 k a1 m (a3 - 1) hp ho q1 q2
  rw [e2, show a3 - 1 + 1 = a3 from by omega]
theorem getD_lt {xs : List Int} (h : xs.Pairwise (· < ·)) {i j : Nat} (hij : i < j) (hj : j < xs.length) : xs.getD i 0 < xs.getD j 0 := by
  have e : ∀ t (ht : t < xs.length), xs.getD t 0 = xs[t] := fun t ht => by simp [List.getD, List.getElem?_eq_getElem ht]
  rw [e i (by omega), e j hj]
  exact List.pairwise_iff_getElem.1 h i j (by omega) hj hij
end Go.Proofs.YtbmbphikjainiaaGreatDoor
