/- Contract of frac.Of. -/
import Derived.Test.YtlihhlijombepaaDoorFrac1
namespace Go.Proofs.YtlihhlijombepaaDoor
open Go.RowKit
set_option linter.unusedVariables false

theorem tdiv_nat (x y : Nat) : (x : Int).tdiv (y : Int) = ((x / y : Nat) : Int) := by
  rw [Int.tdiv_eq_ediv_of_nonneg (by omega), Int.natCast_ediv]
theorem wrap_u64_nat (x : Nat) (h : x ≤ 9223372036854775808) : IntKind.u64.wrap (x : Int) = (x : Int) := by
  rw [IntKind.wrap_u64]; omega

theorem of_zero (n : Int) (w : World) :
    Calls Tryd.prog 32 #[.int .i64 n, .int .i64 0] w fun e w' => e = .returned (.tuple #[.agg #[.int .i64 0, .int .i64 0], .int .i64 1]) ∧ Below w.heap.size w w' := by
  go_enter Tryd.func32, Tryd.ntmps32
  go_wp2
  exact bodyPost_ret (v := .tuple #[.agg #[.int .i64 0, .int .i64 0], .int .i64 1]) (by simp [results, Tryd.results32, go_sem]) rfl ⟨rfl, (Below.refl _ _).alloc (Nat.le_refl _) _⟩

set_option maxHeartbeats 1000000 in
set_option maxRecDepth 100000 in
theorem of_core (n d : Int) (w : World) (h1 : -9223372036854775808 ≤ n) (h2 : n ≤ 9223372036854775807) (h3 : -9223372036854775808 ≤ d) (h4 : d ≤ 9223372036854775807) (hd : d ≠ 0)
    (A B : Nat) (hA : n.natAbs / Nat.gcd n.natAbs d.natAbs = A) (hB : d.natAbs / Nat.gcd n.natAbs d.natAbs = B) (Q : Ending → World → Prop)
    (hlarge : (2147483647 < A ∨ 2147483647 < B) → ∀ w' : World, Below w.heap.size w w' → Q (.returned (.tuple #[.agg #[.int .i64 0, .int .i64 0], .int .i64 14])) w')
    (hfits : A ≤ 2147483647 → B ≤ 2147483647 → ∀ w' : World, Below w.heap.size w w' → Q (.returned (.tuple #[.agg #[.int .i64 (if (n < 0 ↔ d < 0) then (A : Int) else -(A : Int)), .int .i64 B], .int .i64 0])) w') :
    Calls Tryd.prog 32 #[.int .i64 n, .int .i64 d] w Q := by
  have hG : Nat.gcd n.natAbs d.natAbs = Nat.gcd n.natAbs d.natAbs := rfl
  have hp : 0 < Nat.gcd n.natAbs d.natAbs := Int.gcd_pos_of_ne_zero_right n hd
  have hAl : A ≤ n.natAbs := by rw [← hA]; exact Nat.div_le_self _ _
  have hBl : B ≤ d.natAbs := by rw [← hB]; exact Nat.div_le_self _ _
  generalize hGe : Nat.gcd n.natAbs d.natAbs = G at *
  have HG := Lib.hid hGe
  have HA := Lib.hid hA
  have HB := Lib.hid hB
  have HL := Lib.hid hlarge
  have HF := Lib.hid hfits
  clear hG hGe hA hB hlarge hfits
  have t0 : (d == 0) = false := beq_eq_false_iff_ne.2 hd
  clear hd
  go_enter Tryd.func32, Tryd.ntmps32
  go_wp2_with (go_at_call 83; refine (fsize_any _ _ (by omega) (by omega)).mono ?_; rintro e w' ⟨rfl, rfl⟩)
  generalize hx0 : n.natAbs = X at *
  generalize hy0 : d.natAbs = Y at *
  have HX := Lib.hid hx0
  have HY := Lib.hid hy0
  have bX : X ≤ 9223372036854775808 := by omega
  have bY : Y ≤ 9223372036854775808 := by omega
  clear hx0 hy0
  go_loopw [8, 9] (fun s t wr => ∃ (x y k : Nat), x ≤ 9223372036854775808 ∧ y ≤ 9223372036854775808 ∧ Nat.gcd x y = G ∧ s = .int .u64 x ∧ t = .int .u64 y ∧ wr = (w.alloc (Obj.cells #[.int .i64 0, .int .i64 0] 73)).drewN k) (fun _ t _ => (intOf t).toNat)
  case atStart => exact ⟨_, _, 0, bX, bY, HG.out, rfl, rfl, rfl⟩
  case round =>
    obtain ⟨x, y, k, hx, hy, hxy, rfl, rfl, rfl⟩ := hrel
    have Hxy := Lib.hid hxy
    clear hxy
    by_cases h0 : y = 0
    · subst h0
      have hG := Hxy.out
      rw [Nat.gcd_zero_right] at hG
      subst hG
      have q1 : (X : Int).tdiv (x : Int) = (A : Int) := by rw [tdiv_nat, HA.out]
      have q2 : (Y : Int).tdiv (x : Int) = (B : Int) := by rw [tdiv_nat, HB.out]
      have q3 := wrap_u64_nat A (by omega)
      have q4 := wrap_u64_nat B (by omega)
      have q5 : ¬ (x : Int) = 0 := by omega
      go_wp2
      go_quiet (fail)
      clear q1 q2 q3 q4 q5
      go_wp2
      · rename_i _ hL
        refine bodyPost_ret (v := .tuple #[.agg #[.int .i64 0, .int .i64 0], .int .i64 14]) (by simp [results, Tryd.results32, go_sem]) rfl (HL.out (by omega) _ ?_)
        exact ((below_drew ((Below.refl _ _).alloc (Nat.le_refl _) _) _).setCell (by simp) _).setCell (by simp) _
      · rename_i _ hL hs
        have hs' : ¬ (n < 0 ↔ d < 0) := by simpa using hs
        have hf := HF.out (by omega) (by omega)
        rw [if_neg hs'] at hf
        refine bodyPost_ret (v := .tuple #[.agg #[.int .i64 (-(A : Int)), .int .i64 B], .int .i64 0]) (by simp [results, Tryd.results32, go_sem]) rfl (hf _ ?_)
        exact (((below_drew ((Below.refl _ _).alloc (Nat.le_refl _) _) _).setCell (by simp) _).setCell (by simp) _).alloc (by simp [World.setCell]) _
      · rename_i _ hL hs
        have hs' : (n < 0 ↔ d < 0) := by simpa using hs
        have hf := HF.out (by omega) (by omega)
        rw [if_pos hs'] at hf
        refine bodyPost_ret (v := .tuple #[.agg #[.int .i64 (A : Int), .int .i64 B], .int .i64 0]) (by simp [results, Tryd.results32, go_sem]) rfl (hf _ ?_)
        exact (((below_drew ((Below.refl _ _).alloc (Nat.le_refl _) _) _).setCell (by simp) _).setCell (by simp) _).alloc (by simp [World.setCell]) _
      · rename_i hL
        refine bodyPost_ret (v := .tuple #[.agg #[.int .i64 0, .int .i64 0], .int .i64 14]) (by simp [results, Tryd.results32, go_sem]) rfl (HL.out (by omega) _ ?_)
        exact ((below_drew ((Below.refl _ _).alloc (Nat.le_refl _) _) _).setCell (by simp) _).setCell (by simp) _
    · have t0 : ((y : Int) != 0) = true := by rw [bne_iff_ne]; omega
      have t1 : ¬ (y : Int) = 0 := by omega
      have t2 := tmod_nat x y
      have hl : x % y < y := Nat.mod_lt _ (by omega)
      go_wp2
      go_quiet (fail)
      go_wp2
      go_roundw
      case rel => exact ⟨y, x % y, _, hy, by omega, by rw [← Hxy.out, Nat.gcd_comm x y, Nat.gcd_rec y x, Nat.gcd_comm], rfl, rfl, World.drewN_drewN _ _ _⟩
      case measure => simp [intOf]; omega

theorem of_fits (n d : Int) (w : World) (h1 : -9223372036854775808 ≤ n) (h2 : n ≤ 9223372036854775807) (h3 : -9223372036854775808 ≤ d) (h4 : d ≤ 9223372036854775807) (hd : d ≠ 0)
    (hN : (fN n d).natAbs ≤ 2147483647) (hD : fD n d ≤ 2147483647) :
    Calls Tryd.prog 32 #[.int .i64 n, .int .i64 d] w fun e w' => e = .returned (.tuple #[.agg #[.int .i64 (fN n d), .int .i64 (fD n d)], .int .i64 0]) ∧ Below w.heap.size w w' := by
  obtain ⟨A, B, hA, hB, eD, eN, _⟩ := f_parts n d hd
  have hA' : A ≤ 2147483647 := by
    rw [eN] at hN
    split at hN <;> omega
  refine of_core n d w h1 h2 h3 h4 hd A B hA hB _ (fun h => by omega) (fun _ _ w' hb => ⟨?_, hb⟩)
  rw [eN, eD]

theorem of_over (n d : Int) (w : World) (h1 : -9223372036854775808 ≤ n) (h2 : n ≤ 9223372036854775807) (h3 : -9223372036854775808 ≤ d) (h4 : d ≤ 9223372036854775807) (hd : d ≠ 0)
    (hN : 2147483647 < (fN n d).natAbs ∨ 2147483647 < fD n d) :
    Calls Tryd.prog 32 #[.int .i64 n, .int .i64 d] w fun e w' => e = .returned (.tuple #[.agg #[.int .i64 0, .int .i64 0], .int .i64 14]) ∧ Below w.heap.size w w' := by
  obtain ⟨A, B, hA, hB, eD, eN, _⟩ := f_parts n d hd
  have hA' : 2147483647 < A ∨ 2147483647 < B := by
    rw [eN] at hN
    split at hN <;> omega
  exact of_core n d w h1 h2 h3 h4 hd A B hA hB _ (fun _ w' hb => ⟨rfl, hb⟩) (fun _ _ => by omega)
end Go.Proofs.YtlihhlijombepaaDoor
