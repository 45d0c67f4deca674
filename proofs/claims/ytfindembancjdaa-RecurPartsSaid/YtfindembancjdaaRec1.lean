/- Contracts of package recur: listed, list. -/
import Derived.Test.YtfindembancjdaaSliceFind
namespace Go.Proofs.Ytfindembancjdaa
open Go.RowKit
set_option linter.unusedVariables false

set_option maxRecDepth 100000 in
theorem listed_one (g : Nat) (A : Option Addr) (c : Nat) (l : List Int) (x : Int) (W : World) (hx : W.cell? ⟨g, 0, none⟩ = some (.slice A l.length c)) (hr : Row W W.heap.size A (ints l)) (hl : l.length ≤ maxLen) :
    Calls Try.prog 115 (#[.int .i64 x] ++ #[.pointer (some ⟨g, 0, none⟩)]) W fun e w' => e = .returned (.bool (decide (x ∈ l))) ∧ W = w' := by
  have HC := Lib.hid (fun w hr => contains_ints A c l x w hr hl)
  generalize decide (x ∈ l) = R at *
  clear hl
  go_enter Try.func115, Try.ntmps115
  go_wp2_with fail
  refine (HC.out _ hr).mono ?_
  rintro e w' ⟨rfl, rfl⟩
  go_wp2_with fail
  go_ret
  exact ⟨rfl, rfl⟩

/-- an empty list, or one that has one of the numbers -/
def lisB (l ns : List Int) : Bool := decide (l.length = 0) || ns.any (fun x => decide (x ∈ l))
set_option maxHeartbeats 1000000 in
set_option maxRecDepth 100000 in
theorem listed_any (A A' : Option Addr) (c c' : Nat) (l ns : List Int) (w : World) (hr : Row w w.heap.size A (ints l)) (hr' : Row w w.heap.size A' (ints ns)) (hl : l.length ≤ maxLen) (hl' : ns.length ≤ maxLen) :
    Calls Try.prog 101 #[.slice A l.length c, .slice A' ns.length c'] w fun e w' => e = .returned (.bool (lisB l ns)) ∧ Below w.heap.size w w' := by
  have hB := below_alloc1 w (Obj.cells #[.slice A l.length c] 22)
  have hx := Box.new w 22 #[.slice A l.length c]
  have HR := Lib.hid (hr.next hB)
  have HR' := Lib.hid (hr'.next hB)
  have hm := hl
  unfold maxLen at hm
  clear hr hr'
  obtain ⟨R, hR⟩ : ∃ R, R = lisB l ns := ⟨_, rfl⟩
  rw [← hR]
  have HRR := Lib.hid hR
  clear hR
  go_enter Try.func101, Try.ntmps101
  by_cases h0 : l.length = 0
  · have t1 : ((l.length : Int) == 0) = true := by rw [beq_iff_eq]; omega
    have HH := Lib.hid h0
    clear h0
    go_wp2_with fail
    go_ret
    exact ⟨by rw [HRR.out]; unfold lisB; rw [decide_eq_true HH.out]; rfl, hB⟩
  · have t1 : ((l.length : Int) == 0) = false := by rw [beq_eq_false_iff_ne]; omega
    have HH := Lib.hid h0
    clear h0
    go_wp2_with fail
    generalize w.alloc (Obj.cells #[.slice A l.length c] 22) = W0 at *
    obtain ⟨g, hg⟩ : ∃ g, g = w.heap.size := ⟨_, rfl⟩
    rw [← hg] at hx
    rw [← hg]
    clear hg
    refine (containsFunc_ints 115 #[.pointer (some ⟨g, 0, none⟩)] (fun x => decide (x ∈ l)) (Below W0.heap.size W0) A' c' ns W0 (Below.refl _ _) hl' (fun _ _ => rfl) (fun W hb => HR'.out.next hb) (fun W x hb => ?_)).mono ?_
    · exact (listed_one g A c l x W ((hx.below hb).cell 0) (HR.out.next hb) hl).mono fun e w' ⟨he, hw⟩ => ⟨he, hw ▸ hb⟩
    · rintro e w' ⟨rfl, hb⟩
      have HQ : Hid (R = ns.any (fun x => decide (x ∈ l))) := by rw [HRR.out]; unfold lisB; rw [decide_eq_false HH.out]; rfl
      rw [← HQ.out]
      clear t1
      go_wp2_with fail
      go_ret
      exact ⟨rfl, below_then hB hb⟩

/-- a valid list of numbers -/
def ListOk (l : List Int) (lo hi : Int) (z : Bool) : Prop := l.length ≤ 31 ∧ ∀ i, i < l.length → (lo ≤ l.getD i 0 ∧ l.getD i 0 ≤ hi ∧ (l.getD i 0 = 0 → z = true)) ∧ l.getD i 0 ∉ l.take i
theorem row_take {w : World} {B b o : Nat} {l : List Int} (i : Nat) (hb : b < B) (h : ∀ j v, (ints l)[j]? = some v → w.cell? ⟨b, o + j, none⟩ = some v) : Row w B (some ⟨b, o, none⟩) (ints (l.take i)) :=
  .inr ⟨b, o, rfl, hb, fun j v hv => h j v (by
    rw [show ints (l.take i) = (ints l).take i from by simp [ints, List.map_take]] at hv
    rw [List.getElem?_take] at hv
    split at hv
    · exact hv
    · cases hv)⟩

set_option maxHeartbeats 2000000 in
set_option maxRecDepth 100000 in
theorem list_any (A : Option Addr) (c : Nat) (l : List Int) (lo hi : Int) (z : Bool) (w : World) (hr : Row w w.heap.size A (ints l)) (hc : l.length ≤ c) (hm : c ≤ maxLen) :
    Calls Try.prog 39 #[.slice A l.length c, .int .i64 lo, .int .i64 hi, .bool z] w (Errs (ListOk l lo hi z) w) := by
  have hm' := hm
  unfold maxLen at hm'
  obtain ⟨Q, hQ⟩ : ∃ Q : Prop, Q = ListOk l lo hi z := ⟨_, rfl⟩
  have NO : Hid (∀ i, i < l.length → ¬ ((lo ≤ l.getD i 0 ∧ l.getD i 0 ≤ hi ∧ (l.getD i 0 = 0 → z = true)) ∧ l.getD i 0 ∉ l.take i) → ¬ Q) := fun i hi' h hq => h ((hQ ▸ hq : ListOk l lo hi z).2 i hi')
  have NO31 : Hid (31 < l.length → ¬ Q) := fun h hq => by have := (hQ ▸ hq : ListOk l lo hi z).1; omega
  have YES : Hid (l.length ≤ 31 → (∀ i, i < l.length → (lo ≤ l.getD i 0 ∧ l.getD i 0 ≤ hi ∧ (l.getD i 0 = 0 → z = true)) ∧ l.getD i 0 ∉ l.take i) → Q) := fun h1 h2 => hQ ▸ (⟨h1, h2⟩ : ListOk l lo hi z)
  rw [← hQ]
  clear hQ
  go_enter Try.func39, Try.ntmps39
  by_cases h31 : 31 < l.length
  · have t1 : decide ((31 : Int) < (l.length : Int)) = true := decide_eq_true (by omega)
    have t1' : decide (31 < l.length) = true := decide_eq_true h31
    go_wp2_with fail
    go_ret
    exact Errs.no (by omega) (NO31.out h31) (Below.refl _ _)
  have t1 : decide ((31 : Int) < (l.length : Int)) = false := decide_eq_false (by omega)
  have t1' : decide (31 < l.length) = false := decide_eq_false h31
  go_wp2_with fail
  clear t1 t1' NO31
  go_loop [9, 10, 16] (fun _ _ i => ∃ k : Nat, k ≤ l.length ∧ i = .int .i64 (k : Int) ∧ Hid (∀ j, j < k → (lo ≤ l.getD j 0 ∧ l.getD j 0 ≤ hi ∧ (l.getD j 0 = 0 → z = true)) ∧ l.getD j 0 ∉ l.take j)) (fun _ _ i => l.length - (intOf i).toNat)
  case atStart => exact ⟨0, by omega, rfl, fun j hj => by omega⟩
  case round =>
    obtain ⟨k, hk, rfl, hall⟩ := hrel
    by_cases hlt : k < l.length
    · obtain ⟨b, o, rfl, hbl, hcs⟩ := hr.open_ (ints_ne l (by omega))
      have hcell := ints_cell hcs k hlt
      have HCt := Lib.hid (contains_ints (some ⟨b, o, none⟩) c (l.take k) (l.getD k 0) w (row_take k hbl hcs) (by simp; omega))
      rw [show (l.take k).length = k from by simp; omega] at HCt
      have NOk := Lib.hid (NO.out k hlt)
      have HX : Hid ((lo ≤ l.getD k 0 ∧ l.getD k 0 ≤ hi ∧ (l.getD k 0 = 0 → z = true)) ∧ l.getD k 0 ∉ l.take k → ∀ j, j < k + 1 → (lo ≤ l.getD j 0 ∧ l.getD j 0 ≤ hi ∧ (l.getD j 0 = 0 → z = true)) ∧ l.getD j 0 ∉ l.take j) := fun h j hj => by
        by_cases e : j = k
        · subst e; exact h
        · exact hall.out j (by omega)
      clear hcs hr
      generalize l.getD k 0 = x at *
      have k0 : (0 : Int) ≤ (k : Int) := by omega
      have k1 : (k : Int) ≤ (c : Int) := by omega
      by_cases h1 : x < lo
      · have t1 : decide (x < lo) = true := decide_eq_true h1
        go_wp2_with fail
        go_ret
        exact Errs.no (by omega) (NOk.out (fun h => by have := h.1.1; omega)) (Below.refl _ _)
      have t1 : decide (x < lo) = false := decide_eq_false h1
      by_cases h2 : hi < x
      · have t2 : decide (hi < x) = true := decide_eq_true h2
        go_wp2_with fail
        go_ret
        exact Errs.no (by omega) (NOk.out (fun h => by have := h.1.2.1; omega)) (Below.refl _ _)
      have t2 : decide (hi < x) = false := decide_eq_false h2
      by_cases h3 : x = 0 ∧ z = false
      · obtain ⟨rfl, rfl⟩ := h3
        have t3 : ((0 : Int) == 0) = true := rfl
        have HN := Lib.hid (NOk.out (fun h => by have := h.1.2.2 rfl; cases this))
        clear NOk
        go_wp2_with fail
        go_ret
        exact Errs.no (by omega) HN.out (Below.refl _ _)
      have hz3 : x = 0 → z = true := fun h => by cases z with | true => rfl | false => exact absurd ⟨h, rfl⟩ h3
      by_cases h4 : x ∈ l.take k
      · rw [decide_eq_true h4] at HCt
        have HN := Lib.hid (NOk.out (fun h => h.2 h4))
        clear h3 h4 HX NOk
        by_cases h0 : x = 0
        · have hzt := hz3 h0
          subst h0 hzt
          have t3 : ((0 : Int) == 0) = true := rfl
          clear hz3
          go_wp2_with (go_at_call 78; refine HCt.out.mono ?_; rintro e w' ⟨rfl, rfl⟩)
          go_ret
          exact Errs.no (by omega) HN.out (Below.refl _ _)
        · have t3 : (x == 0) = false := by simpa using h0
          clear hz3
          go_wp2_with (go_at_call 78; refine HCt.out.mono ?_; rintro e w' ⟨rfl, rfl⟩)
          go_ret
          exact Errs.no (by omega) HN.out (Below.refl _ _)
      · rw [decide_eq_false h4] at HCt
        have HXX := Lib.hid (HX.out ⟨⟨by omega, by omega, hz3⟩, h4⟩)
        clear h3 h4 HX NOk
        by_cases h0 : x = 0
        · have hzt := hz3 h0
          subst h0 hzt
          have t3 : ((0 : Int) == 0) = true := rfl
          clear hz3
          go_wp2_with (go_at_call 78; refine HCt.out.mono ?_; rintro e w' ⟨rfl, rfl⟩)
          go_round
          case rel => exact ⟨k + 1, by omega, by go_num, HXX⟩
          case measure => simp [intOf]; omega
        · have t3 : (x == 0) = false := by simpa using h0
          clear hz3
          go_wp2_with (go_at_call 78; refine HCt.out.mono ?_; rintro e w' ⟨rfl, rfl⟩)
          go_round
          case rel => exact ⟨k + 1, by omega, by go_num, HXX⟩
          case measure => simp [intOf]; omega
    · go_wp2_with fail
      go_ret
      exact Errs.ok (YES.out (by omega) (fun i hi' => hall.out i (by omega))) (Below.refl _ _)
end Go.Proofs.Ytfindembancjdaa
