/- RefPlain, RefArg, TopCut -/
import Derived.Test.YtbmbphikjainiaaGreatDoorGRef1
import Derived.Test.YtbmbphikjainiaaGreatDoorGListArg
import Derived.Test.YtbmbphikjainiaaGreatDoorGLine1
/- The reform of one part, julian; each calendar of the catalog is valid. -/
namespace Go.Proofs.YtbmbphikjainiaaGreatDoor
open Go Go.RowKit
set_option linter.unusedVariables false

theorem calR_valid {r : CatRow} (hr : r ∈ catR) : CalOk (calR r) := by
  obtain ⟨ok, _, hn⟩ := row_ok r hr
  refine ⟨?_, ok.mo, ?_⟩
  · have := ok.hd; rw [hn] at this; exact this
  · have h := yrs_inc r.t.cy.toNat (fun y => (evalR y r.t.ex).1 != 0)
    rw [show ((r.t.cy.toNat : Nat) : Int) = r.t.cy from by have := ok.hd.2.2.1; omega] at h
    exact h
theorem cr1_in : cr1 ∈ catR := by simp [catR]
/-- a reform of one part, julian -/
def oneR (nm : ByteArray) (A : Option Addr) : Rf := ⟨nm, [⟨-4000000, ⟨#[106, 117, 108, 105, 97, 110]⟩⟩], A, 1⟩
theorem jul_nm : (⟨#[106, 117, 108, 105, 97, 110]⟩ : ByteArray) = str cr1.nm := rfl
theorem one_ok {nm : ByteArray} (A : Option Addr) (h : NameOk nm) : RfOk (oneR nm A) where
  nm := h
  n1 := Nat.le_refl _
  n2 := by show 1 ≤ 10; omega
  z := rfl
  each := fun i hi => by
    have : i < 1 := hi
    obtain rfl : i = 0 := by omega
    exact ⟨⟨by show (-4000000 : Int) ≤ -4000000; omega, by show (-4000000 : Int) ≤ 4000000; omega⟩, fun h => absurd h (by omega), List.mem_map.2 ⟨cr1, cr1_in, rfl⟩⟩
theorem one_part {nm : ByteArray} (A : Option Addr) (n : Int) (h : -4000000 ≤ n) : PartAt (oneR nm A).ps 0 n := ⟨by show 0 < 1; omega, h, fun q hq hl => by have : q < 1 := hl; omega⟩
theorem jul_on : IsOn (calR cr1) 1 0 2 1 := by
  have ok := calR_valid cr1_in
  have hl : (calR cr1).mlen 1 0 = 31 := by
    unfold Cal.mlen
    split <;> rfl
  refine ⟨by show 0 < 12; omega, by omega, by rw [hl]; omega, ?_⟩
  rw [Cal.ny_one ok, Cal.pre_zero]
  rfl
theorem one_good {nm : ByteArray} (A : Option Addr) : Gd (oneR nm A).ps 1 1 3 0 1 :=
  ⟨one_part A 1 (by omega), ⟨by omega, by omega⟩, 0, rfl, by omega, by omega, cr1, cr1_in, jul_nm, calR_valid cr1_in, jul_on⟩
theorem all_one {xs : List Int} (h : ∀ x ∈ xs, x = 1) (h1 : 1 ∈ xs) (hp : xs.Pairwise (· < ·)) : xs = [1] := by
  match xs with
  | [] => cases h1
  | [a] => rw [h a (by simp)]
  | a :: b :: l =>
    rw [List.pairwise_cons] at hp
    have := hp.1 b (by simp)
    have := h a (by simp)
    have := h b (by simp)
    omega
theorem one_days {nm : ByteArray} {A : Option Addr} {xs : List Int} (h : DL (oneR nm A).ps 1 1 3 (oneR nm A).ps.length xs) : xs = [1] := by
  refine all_one (fun x hx => ?_) (h.has 0 1 (by show 0 < 1; omega) (one_good A)) h.inc
  obtain ⟨k, hk, g⟩ := h.all x hx
  have hk' : k < 1 := hk
  obtain rfl : k = 0 := by omega
  exact g.unique (one_good A)
/-- a day in the list of a date has this date -/
theorem DL.from {r : Rf} {a1 a2 a3 : Int} {xs : List Int} (ok : RfOk r) (h : DL r.ps a1 a2 a3 r.ps.length xs) {x : Int} (hx : x ∈ xs) {e : Ending} (hf : RFD r x e) : e = .returned (.tuple #[.agg (dateC a1 a2 a3), .int .i64 0]) := by
  obtain ⟨k, _, hp, hi, m, e2, q1, q2, ho⟩ := h.all x hx
  obtain ⟨b1, b2, b3, E, rfl, _, hd⟩ := hf
  obtain ⟨rfl, rfl, rfl, rfl⟩ := hd ok hi.1 hi.2 k a1 m (a3 - 1) hp ho q1 q2
  rw [e2, show a3 - 1 + 1 = a3 from by omega]
theorem getD_lt {xs : List Int} (h : xs.Pairwise (· < ·)) {i j : Nat} (hij : i < j) (hj : j < xs.length) : xs.getD i 0 < xs.getD j 0 := by
  have e : ∀ t (ht : t < xs.length), xs.getD t 0 = xs[t] := fun t ht => by simp [List.getD, List.getElem?_eq_getElem ht]
  rw [e i (by omega), e j hj]
  exact List.pairwise_iff_getElem.1 h i j (by omega) hj hij
end Go.Proofs.YtbmbphikjainiaaGreatDoor

/- A calendar that was changed, come in as an argument, read. -/
namespace Go.Proofs.YtbmbphikjainiaaGreatDoor
open Go.RowKit Go.Joins Go.ChangeShapes Go.WideShapes Go.Deep
set_option linter.unusedVariables false
section
variable {H : Type} {enc : TypeId × Value → H} {W : World}
set_option maxRecDepth 100000 in
theorem pt_trod {n : Nat} {cs : List Value} {y : DataW H × List MemPlace} (h : DataW.trod enc Tryz.prog W 0 (fun _ => true) true n 70 cs = some y) : ∃ x : Pt, cs = ptF x ∧ x.cal.size ≤ maxLen := by
  obtain ⟨xs, m, _, _, hlen, hxl, hf⟩ := DataW.trod_struct Tryz.underlying70 h
  have hC : Tryz.prog.cellsOf 70 = 2 := by kernel_rfl
  rw [hC] at hlen
  have e0 : Tryz.prog.cellsOf 3 = 1 := by kernel_rfl
  have e1 : Tryz.prog.cellsOf 9 = 1 := by kernel_rfl
  match cs, hlen with
  | [c0, c1], _ =>
    have h0 := hf 0 _ rfl
    have h1 := hf 1 _ rfl
    match xs, hxl with
    | [x0, x1], _ =>
      simp [e0, e1] at h0 h1
      obtain ⟨p, ea, _, wa⟩ := DataW.trod_int Tryz.underlying3 h0
      obtain ⟨nm, k0, _, wn⟩ := DataW.trod_string Tryz.underlying9 h1
      simp at k0 ea
      subst k0 ea
      exact ⟨⟨p, nm⟩, rfl, wn⟩
set_option maxRecDepth 100000 in
theorem pts_trod {n : Nat} {v : Value} {y : DataW H × List MemPlace} (h : DataW.trod enc Tryz.prog W 0 (fun _ => true) true n 66 [v] = some y) :
    ∃ (A : Option Addr) (xs : List Pt) (c : Nat), v = .slice A xs.length c ∧ xs.length ≤ c ∧ c ≤ maxLen ∧ Row W W.heap.size A (xs.flatMap ptF) ∧ ∀ x ∈ xs, x.cal.size ≤ maxLen :=
  list_trod (α := Pt) pt0 (f := ptF) (s := 2) ptF_len (by omega) (Fit := fun x => x.cal.size ≤ maxLen) Tryz.underlying66 (show Tryz.prog.cellsOf 70 = 2 by kernel_rfl) (fun n cs y hy => pt_trod hy) h
set_option maxRecDepth 100000 in
theorem reform_open {base : Nat} {v : Value} {d : DataW H} {p : List MemPlace} (hv : Value.okWide Tryz.prog W .any base 68 v) (h : DataW.Trod enc Tryz.prog W 0 (fun _ => true) true 68 v d p) :
    ∃ r : Rf, v = r.val ∧ RfIn W r ∧ RfFit r := by
  have hC : Tryz.prog.cellsOf 68 = 2 := by kernel_rfl
  obtain ⟨cs, rfl, hsz⟩ := okWide_struct Tryz.underlying68 hv
  obtain ⟨l⟩ := cs
  match l, hsz.trans hC with
  | [c0, c1], _ =>
    obtain ⟨fuel, hf⟩ := h
    obtain ⟨xs, n, _, hx, _, hlen, hg⟩ := DataW.trod_struct Tryz.underlying68 hf
    have e1 : Tryz.prog.cellsOf 9 = 1 := by kernel_rfl
    have e3 : Tryz.prog.cellsOf 66 = 1 := by kernel_rfl
    match xs, hlen with
    | [x0, x1], _ =>
      have h0 := hg 0 _ rfl
      have h1 := hg 1 _ rfl
      simp [e1, e3, Value.cells] at h0 h1
      obtain ⟨nm, k0, _, wn⟩ := DataW.trod_string Tryz.underlying9 h0
      obtain ⟨A1, ps, c1', rfl, a1, a2, a3, a4⟩ := pts_trod h1
      simp at k0
      subst k0
      exact ⟨⟨nm, ps, A1, c1'⟩, rfl, a3, ⟨wn, a1, a2⟩⟩
end
end Go.Proofs.YtbmbphikjainiaaGreatDoor

/- Contracts of the great laws' own mod and cut. -/
namespace Go.Proofs.YtbmbphikjainiaaGreatDoor
open Go.RowKit
set_option linter.unusedVariables false

theorem amod_any (a n : Int) (w : World) (h1 : 1 ≤ n) (h2 : n ≤ 1000000000000000) :
    Calls Tryz.prog 20 #[.int .i64 a, .int .i64 n] w fun e w' => e = .returned (.int .i64 (a % n)) ∧ w = w' := by
  have ht := (tmod_facts a n (by omega)).2.2.2
  have e1 := tmod_add_emod a n h1
  have E := Lib.hid e1
  clear e1
  have b1 : 0 ≤ a.tmod n + n := by omega
  have b2 : a.tmod n + n ≤ 9223372036854775807 := by omega
  have b3 : ¬ n = 0 := by omega
  go_enter Tryz.func20, Tryz.ntmps20
  go_wp2
  go_ret
  exact ⟨ret_int E.out, rfl⟩

theorem acut_any (x low n : Int) (w : World) (h1 : 1 ≤ n) (h2 : n ≤ 1000000000000000) (h3 : -1000000000000000 ≤ low) (h4 : low ≤ 1000000000000000) :
    Calls Tryz.prog 17 #[.int .i64 x, .int .i64 low, .int .i64 n] w fun e w' => e = .returned (.int .i64 (low + x % n)) ∧ w = w' := by
  have b1 := Int.emod_nonneg x (show n ≠ 0 by omega)
  have b2 := Int.emod_lt_of_pos x (show 0 < n by omega)
  go_enter Tryz.func17, Tryz.ntmps17
  go_wp2_with (go_at_call 20; refine (amod_any _ _ _ (by omega) (by omega)).mono ?_; rintro e w' ⟨rfl, rfl⟩)
  go_ret
  exact ⟨rfl, rfl⟩

end Go.Proofs.YtbmbphikjainiaaGreatDoor
