/- Bookings that came in as an argument, read; the rooms' invariant. -/
import Derived.Test.YtfindembancjdaaListArg
import Derived.Test.YtfindembancjdaaRoom5
import Derived.Test.YtfindembancjdaaRoom6
import Derived.Test.YtfindembancjdaaRoom7
namespace Go.Proofs.Ytfindembancjdaa
open Go.RowKit Go.Joins Go.ChangeShapes Go.WideShapes Go.Deep
set_option linter.unusedVariables false

structure BkFit (b : Bk) : Prop where
  f1 : -9223372036854775808 ≤ b.fr
  f2 : b.fr ≤ 9223372036854775807
  t1 : -9223372036854775808 ≤ b.to
  t2 : b.to ≤ 9223372036854775807
section
variable {H : Type} {enc : TypeId × Value → H} {W : World}
set_option maxRecDepth 100000 in
theorem bk_of_trod (n : Nat) (cs : List Value) (y : DataW H × List MemPlace) (h : DataW.trod enc Try.prog W 0 (fun _ => true) true n 55 cs = some y) : ∃ x : Bk, cs = bkF x ∧ BkFit x := by
  obtain ⟨xs, m, _, _, hlen, hxl, hf⟩ := DataW.trod_struct Try.underlying55 h
  have hC : Try.prog.cellsOf 55 = 4 := by kernel_rfl
  rw [hC] at hlen
  match cs, hlen with
  | [c0, c1, c2, c3], _ =>
    have e0 : Try.prog.cellsOf 3 = 1 := by kernel_rfl
    have e1 : Try.prog.cellsOf 9 = 1 := by kernel_rfl
    have h0 := hf 0 _ rfl
    have h1 := hf 1 _ rfl
    have h2 := hf 2 _ rfl
    have h3 := hf 3 _ rfl
    match xs, hxl with
    | [x0, x1, x2, x3], _ =>
      simp [e0, e1] at h0 h1 h2 h3
      obtain ⟨a, ea, _, wa⟩ := DataW.trod_string Try.underlying9 h0
      obtain ⟨b, eb, _, wb⟩ := DataW.trod_int Try.underlying3 h1
      obtain ⟨c, ec, _, wc⟩ := DataW.trod_int Try.underlying3 h2
      obtain ⟨d, ed, _, wd⟩ := DataW.trod_string Try.underlying9 h3
      simp at ea eb ec ed
      subst ea eb ec ed
      exact ⟨⟨a, b, c, d⟩, rfl, (bounds_i64 wb).1, (bounds_i64 wb).2, (bounds_i64 wc).1, (bounds_i64 wc).2⟩
set_option maxRecDepth 100000 in
theorem bks_open {base : Nat} {v : Value} {d : DataW H} {p : List MemPlace} (hv : Value.okWide Try.prog W .any base 49 v) (h : DataW.Trod enc Try.prog W 0 (fun _ => true) true 49 v d p) :
    ∃ (A : Option Addr) (l : List Bk) (c : Nat), v = .slice A l.length c ∧ l.length ≤ c ∧ c ≤ maxLen ∧ Row W W.heap.size A (l.flatMap bkF) ∧ ∀ x ∈ l, BkFit x := by
  obtain ⟨a0, len, cap, rfl⟩ := okWide_slice Try.underlying49 hv
  obtain ⟨m, hm⟩ := h
  exact list_trod (v := .slice a0 len cap) bk0 bkF_len (by omega) Try.underlying49 (show Try.prog.cellsOf 55 = 4 by kernel_rfl) bk_of_trod hm
end

/-- the lists of the rooms after n bookings -/
structure RInv (n : Nat) (ls : List (List Bk)) : Prop where
  ap : ∀ k, Apart (ls.getD k [])
  ins : ∀ k, Insts (ls.getD k [])
  len : ∀ k, (ls.getD k []).length ≤ n
theorem RInv.nil (m : Nat) : RInv 0 (List.replicate m []) := by
  have h : ∀ k, (List.replicate m ([] : List Bk)).getD k [] = [] := fun k => by
    simp only [List.getD, List.getElem?_replicate]
    split <;> rfl
  refine ⟨fun k => ?_, fun k => ?_, fun k => ?_⟩
  · rw [h k]; trivial
  · rw [h k]; intro b hb; cases hb
  · rw [h k]; simp
theorem Insts.insB {b : Bk} {l : List Bk} (h : Insts l) (h1 : InstOk b.fr) (h2 : InstOk b.to) : Insts (insB b l) := fun x hx => by
  rcases mem_insB.1 hx with rfl | hx
  · exact ⟨h1, h2⟩
  · exact h x hx
theorem RInv.next {n : Nat} {nms : List ByteArray} {ls ls' : List (List Bk)} {b : Bk} {E : Int} (h : RInv n ls) (hl : ls.length = nms.length) (hb : Booked nms ls b E ls') : RInv (n + 1) ls' := by
  rcases hb with ⟨_, k, hk, _, hok, rfl⟩ | ⟨_, rfl, _⟩
  · refine ⟨fun j => ?_, fun j => ?_, fun j => ?_⟩
    · by_cases e : k = j
      · subst e; rw [getD_set_eq (by omega)]; exact (h.ap k).insB hok.st.2.2 hok.free
      · rw [getD_set_other e]; exact h.ap j
    · by_cases e : k = j
      · subst e; rw [getD_set_eq (by omega)]; exact (h.ins k).insB hok.st.1 hok.st.2.1
      · rw [getD_set_other e]; exact h.ins j
    · by_cases e : k = j
      · subst e; rw [getD_set_eq (by omega), insB_length]; have := h.len k; omega
      · rw [getD_set_other e]; have := h.len j; omega
  · exact ⟨h.ap, h.ins, fun k => by have := h.len k; omega⟩
theorem Booked.length {nms : List ByteArray} {ls ls' : List (List Bk)} {b : Bk} {E : Int} (hb : Booked nms ls b E ls') : ls'.length = ls.length := by
  rcases hb with ⟨_, k, hk, _, hok, rfl⟩ | ⟨_, rfl, _⟩
  · simp
  · rfl
def nOne : ByteArray := ⟨#[111, 110, 101]⟩
def nTwo : ByteArray := ⟨#[116, 119, 111]⟩
def nMe : ByteArray := ⟨#[109, 101]⟩
theorem me_ok : NameOk nMe := by
  refine ⟨by decide, by decide, by rw [nMe, Lib.toList_data]; decide, by rw [nMe, Lib.toList_data]; decide, by rw [nMe, Lib.toList_data]; decide, by rw [nMe, Lib.toList_data]; decide, fun k hk => ?_⟩
  have : k = 0 ∨ k = 1 := by
    have : nMe.size = 2 := by decide
    omega
  rcases this with rfl | rfl <;> decide +revert
theorem one_nok : NameOk nOne := by
  refine ⟨by decide, by decide, by rw [nOne, Lib.toList_data]; decide, by rw [nOne, Lib.toList_data]; decide, by rw [nOne, Lib.toList_data]; decide, by rw [nOne, Lib.toList_data]; decide, fun k hk => ?_⟩
  have : k = 0 ∨ k = 1 ∨ k = 2 := by
    have : nOne.size = 3 := by decide
    omega
  rcases this with rfl | rfl | rfl <;> decide +revert
theorem two_nok : NameOk nTwo := by
  refine ⟨by decide, by decide, by rw [nTwo, Lib.toList_data]; decide, by rw [nTwo, Lib.toList_data]; decide, by rw [nTwo, Lib.toList_data]; decide, by rw [nTwo, Lib.toList_data]; decide, fun k hk => ?_⟩
  have : k = 0 ∨ k = 1 ∨ k = 2 := by
    have : nTwo.size = 3 := by decide
    omega
  rcases this with rfl | rfl | rfl <;> decide +revert
theorem two_one : (nTwo.toList == nOne.toList) = false := by rw [nTwo, nOne, Lib.toList_data, Lib.toList_data]; decide
theorem one_two : (nOne.toList == nTwo.toList) = false := by rw [nTwo, nOne, Lib.toList_data, Lib.toList_data]; decide
theorem nms12 : NmsOk [nOne, nTwo] := by
  refine ⟨by decide, by decide, fun k hk => ?_, fun k j hj hk => ?_⟩
  · match k, hk with
    | 0, _ => exact one_nok
    | 1, _ => exact two_nok
  · match k, hk, j, hj with
    | 1, _, 0, _ => exact two_one
theorem nms1 : NmsOk [nOne] := by
  refine ⟨by decide, by decide, fun k hk => ?_, fun k j hj hk => ?_⟩
  · match k, hk with
    | 0, _ => exact one_nok
  · match k, hk, j, hj with
    | 0, _, j, hj => omega
theorem idx12 {k : Nat} (h : k < 2) : IdxS [nOne, nTwo] ([nOne, nTwo].getD k bs0) (k : Int) := by
  match k, h with
  | 0, _ => exact .inr ⟨0, rfl, by decide, by simp, fun j hj => by omega⟩
  | 1, _ => exact .inr ⟨1, rfl, by decide, by simp, fun j hj => by
      obtain rfl : j = 0 := by omega
      exact two_one⟩
end Go.Proofs.Ytfindembancjdaa
