/- Contracts of package rooms: stretch, taken; slices.IndexFunc, ContainsFunc at []Booking. -/
import Derived.Test.YtfindembancjdaaIns1
import Derived.Test.YtfindembancjdaaSliceFind
import Derived.Test.YtfindembancjdaaLine1
namespace Go.Proofs.Ytfindembancjdaa
open Go.RowKit
set_option linter.unusedVariables false

set_option maxHeartbeats 1000000 in
set_option maxRecDepth 100000 in
theorem indexFunc_bks (g : Nat) (cb : Array Value) (p : Bk → Bool) (S : World → Prop) (A : Option Addr) (c : Nat) (l : List Bk) (w : World) (hS : S w) (hl : l.length ≤ 1000000) (eg : ∀ args w, (callFunc g args).run Try.prog w = .ok (.enter g args) w)
    (hr : ∀ W, S W → Row W W.heap.size A (l.flatMap bkF))
    (hf : ∀ W x, S W → Calls Try.prog g (#[Bk.val x] ++ cb) W fun e w' => e = .returned (.bool (p x)) ∧ S w') :
    Calls Try.prog 60 #[.slice A l.length c, .func (.func g) #[] cb] w (IsIdxF (l.any p = true) S) := by
  have HF := Lib.hid hf
  have HRr := Lib.hid hr
  have HS := Lib.hid hS
  obtain ⟨P, hP⟩ : ∃ P : Prop, P = (l.any p = true) := ⟨_, rfl⟩
  rw [← hP]
  have HP := Lib.hid hP
  clear hP hf hr hS
  go_enter Try.func60, Try.ntmps60
  go_wp2_with fail
  go_loopw [5, 8] (fun _ i wr => ∃ k : Nat, k ≤ l.length ∧ i = .int .i64 (k : Int) ∧ Hid (∀ j, j < k → p (l.getD j bk0) = false) ∧ Hid (S wr)) (fun _ i _ => l.length - (intOf i).toNat)
  case atStart => exact ⟨0, by omega, rfl, fun j hj => by omega, HS⟩
  case round =>
    obtain ⟨k, hk, rfl, hall, HSr⟩ := hrel
    by_cases hlt : k < l.length
    · obtain ⟨b, o, rfl, _, hcs⟩ := (HRr.out _ HSr.out).open_ (flat_ne bkF_len (by omega) l (by omega))
      have hc0 := flat_cell bkF_len bk0 hcs k 0 hlt (by omega) _ rfl
      have hc1 := flat_cell bkF_len bk0 hcs k 1 hlt (by omega) _ rfl
      have hc2 := flat_cell bkF_len bk0 hcs k 2 hlt (by omega) _ rfl
      have hc3 := flat_cell bkF_len bk0 hcs k 3 hlt (by omega) _ rfl
      have hmem : Hid (l.getD k bk0 ∈ l) := by unfold Hid; simp [List.getD, List.getElem?_eq_getElem hlt]
      have HX : Hid (p (l.getD k bk0) = false → ∀ j, j < k + 1 → p (l.getD j bk0) = false) := fun h j hj => by
        by_cases e : j = k
        · subst e; exact h
        · exact hall.out j (by omega)
      have hcall := HF.out _ (l.getD k bk0) HSr.out
      clear hcs
      generalize l.getD k bk0 = y at *
      rw [Nat.add_zero] at hc0
      cases hp : p y <;> rw [hp] at hcall
      · have HPy := Lib.hid hp
        clear hp
        have HCl := Lib.hid hcall
        clear hcall
        go_wp2_with (go_at_fn g; refine HCl.out.mono ?_; rintro e w' ⟨rfl, hs'⟩)
        go_roundw
        case rel => exact ⟨k + 1, by omega, by go_num, HX.out HPy.out, hs'⟩
        case measure => simp [intOf]; omega
      · have HPy := Lib.hid hp
        clear hp
        have HCl := Lib.hid hcall
        clear hcall
        go_wp2_with (go_at_fn g; refine HCl.out.mono ?_; rintro e w' ⟨rfl, hs'⟩)
        go_ret
        exact ⟨(k : Int), rfl, ⟨fun _ => by rw [HP.out]; exact List.any_eq_true.2 ⟨y, hmem.out, HPy.out⟩, fun _ => by omega⟩, hs'⟩
    · go_wp2_with fail
      go_ret
      refine ⟨-1, rfl, ⟨fun h => by omega, fun h => ?_⟩, HSr.out⟩
      rw [HP.out] at h
      obtain ⟨y, hy, hpy⟩ := List.any_eq_true.1 h
      obtain ⟨i, hi, e⟩ := List.getElem_of_mem hy
      have := hall.out i (by omega)
      simp [List.getD, List.getElem?_eq_getElem hi, e, hpy] at this

set_option maxRecDepth 100000 in
theorem containsFunc_bks (g : Nat) (cb : Array Value) (p : Bk → Bool) (S : World → Prop) (A : Option Addr) (c : Nat) (l : List Bk) (w : World) (hS : S w) (hl : l.length ≤ 1000000) (eg : ∀ args w, (callFunc g args).run Try.prog w = .ok (.enter g args) w)
    (hr : ∀ W, S W → Row W W.heap.size A (l.flatMap bkF))
    (hf : ∀ W x, S W → Calls Try.prog g (#[Bk.val x] ++ cb) W fun e w' => e = .returned (.bool (p x)) ∧ S w') :
    Calls Try.prog 86 #[.slice A l.length c, .func (.func g) #[] cb] w fun e w' => e = .returned (.bool (l.any p)) ∧ S w' := by
  have HI := Lib.hid (indexFunc_bks g cb p S A c l w hS hl eg hr hf)
  obtain ⟨R, hR⟩ : ∃ R, R = l.any p := ⟨_, rfl⟩
  rw [← hR]
  have HR := Lib.hid hR
  clear hR hl hS hr hf
  go_enter Try.func86, Try.ntmps86
  go_wp2_with fail
  refine HI.out.mono ?_
  rintro e w' ⟨i, rfl, hi, hs'⟩
  have HH := Lib.hid hi
  have HS' := Lib.hid hs'
  clear hi HI hs'
  by_cases h0 : 0 ≤ i
  · go_wp2_with fail
    go_ret
    exact ⟨by rw [HR.out, HH.out.1 h0]; simp, HS'.out⟩
  · have t1 : decide (0 ≤ i) = false := decide_eq_false h0
    have hf : l.any p = false := by
      cases h : l.any p
      · rfl
      · exact absurd (HH.out.2 h) h0
    have HFF := Lib.hid hf
    clear hf
    go_wp2_with fail
    go_ret
    exact ⟨by rw [HR.out, HFF.out]; rfl, HS'.out⟩

/-- a booking overlaps a time -/
def Bk.over (b : Bk) (fr to : Int) : Bool := decide (b.fr < to) && decide (fr < b.to)
set_option maxRecDepth 100000 in
theorem taken_one (g1 g2 : Nat) (fr to : Int) (x : Bk) (W : World) (h1 : W.cell? ⟨g1, 0, none⟩ = some (.int .i64 to)) (h2 : W.cell? ⟨g2, 0, none⟩ = some (.int .i64 fr)) :
    Calls Try.prog 87 (#[x.val] ++ #[.pointer (some ⟨g1, 0, none⟩), .pointer (some ⟨g2, 0, none⟩)]) W fun e w' => e = .returned (.bool (x.over fr to)) ∧ Below W.heap.size W w' := by
  have l1 : g1 < W.heap.size := block_lt_of_cell h1
  have l2 : g2 < W.heap.size := block_lt_of_cell h2
  have q1 : (W.alloc (Obj.cells x.cells 55)).cell? ⟨g1, 0, none⟩ = some (.int .i64 to) := ((below_alloc1 W _).cell (p := ⟨g1, 0, none⟩) l1).trans h1
  have q2 : (W.alloc (Obj.cells x.cells 55)).cell? ⟨g2, 0, none⟩ = some (.int .i64 fr) := ((below_alloc1 W _).cell (p := ⟨g2, 0, none⟩) l2).trans h2
  have HB := Lib.hid (below_alloc1 W (Obj.cells x.cells 55))
  unfold Bk.over
  by_cases a1 : x.fr < to
  · have t1 : decide (x.fr < to) = true := decide_eq_true a1
    rw [t1, Bool.true_and]
    go_enter Try.func87, Try.ntmps87
    go_wp2_with fail
    go_ret
    exact ⟨rfl, HB.out⟩
  · have t1 : decide (x.fr < to) = false := decide_eq_false a1
    rw [t1, Bool.false_and]
    go_enter Try.func87, Try.ntmps87
    go_wp2_with fail
    go_ret
    exact ⟨rfl, HB.out⟩
end Go.Proofs.Ytfindembancjdaa
