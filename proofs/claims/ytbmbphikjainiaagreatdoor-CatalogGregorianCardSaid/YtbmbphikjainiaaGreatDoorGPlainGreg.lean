/- PlainGreg -/
import Derived.Test.YtbmbphikjainiaaGreatDoorGCatOk
import Derived.Test.YtbmbphikjainiaaGreatDoorGPlainDate
/- The calendar gregorian of the catalog is that of package line. -/
namespace Go.Proofs.YtbmbphikjainiaaGreatDoor
open Go.RowKit
set_option linter.unusedVariables false

theorem cr0_in : cr0 ∈ catR := by simp [catR]
theorem leapB_mod (y : Int) : leapB y = leapB ((y - 1) % 400 + 1) := by
  unfold leapB
  rw [Bool.eq_iff_iff, decide_eq_true_eq, decide_eq_true_eq]
  omega
set_option maxHeartbeats 4000000 in
set_option maxRecDepth 1000000 in
theorem greg_tab : ∀ i : Nat, i < 400 → decide (((i : Int) + 1) ∈ cr0.t.leaps 400) = leapB ((i : Int) + 1) := by
  have h : (List.range 400).all (fun i => decide (((i : Int) + 1) ∈ cr0.t.leaps 400) == leapB ((i : Int) + 1)) = true := by decide +kernel
  intro i hi
  have := List.all_eq_true.1 h i (List.mem_range.2 hi)
  simpa using this
theorem greg_leap {c : Cal} (h : CalOf cr0 c) (y : Int) : c.lpy y = leapB y := by
  have hcy : c.cy = 400 := h.cy
  have hlp : c.lp = cr0.t.leaps 400 := h.lp
  unfold Cal.lpy Cal.pl
  rw [hcy, hlp, leapB_mod y]
  have := greg_tab ((y - 1) % 400).toNat (by omega)
  rw [show (((y - 1) % 400).toNat : Int) = (y - 1) % 400 from by omega] at this
  exact this
theorem greg_len {c : Cal} (h : CalOf cr0 c) (y : Int) (k : Nat) (hk : k < 12) : c.mlen y k = len (feb y) k := by
  have hmo : c.mo = moA := h.mo
  unfold Cal.mlen
  rw [greg_leap h, hmo]
  unfold feb
  cases leapB y
  · match k, hk with
    | 0, _ | 1, _ | 2, _ | 3, _ | 4, _ | 5, _ | 6, _ | 7, _ | 8, _ | 9, _ | 10, _ | 11, _ => rfl
  · match k, hk with
    | 0, _ | 1, _ | 2, _ | 3, _ | 4, _ | 5, _ | 6, _ | 7, _ | 8, _ | 9, _ | 10, _ | 11, _ => rfl
theorem greg_n {c : Cal} (h : CalOf cr0 c) : c.mo.length = 12 := by rw [h.mo]; rfl
theorem greg_pre {c : Cal} (h : CalOf cr0 c) (y : Int) : ∀ k, k ≤ 12 → c.pre y k = cum (feb y) k := by
  intro k
  induction k with
  | zero => intro _; rw [c.pre_zero]; rfl
  | succ k ih => intro hk; rw [c.pre_succ y k (by rw [greg_n h]; omega), ih (by omega), greg_len h y k (by omega)]; rfl
theorem greg_ylen {c : Cal} (h : CalOf cr0 c) (y : Int) : c.ylen y = 337 + feb y := by
  rw [← c.pre_all, greg_n h, greg_pre h y 12 (Nat.le_refl _), cum_12]
theorem greg_ny {c : Cal} (h : CalOf cr0 c) (ok : CalOk c) (y : Int) : c.ny y = ny y := by
  have h1 : c.ny 1 = ny 1 := by rw [Cal.ny_one ok, h.ep]; rfl
  have up : ∀ k : Nat, c.ny (1 + (k : Int)) = ny (1 + (k : Int)) := by
    intro k
    induction k with
    | zero => exact h1
    | succ k ih =>
      rw [show (1 : Int) + ((k + 1 : Nat) : Int) = 1 + (k : Int) + 1 from by omega, Cal.ny_step ok, ih, greg_ylen h, ny_succ]
      omega
  have down : ∀ k : Nat, c.ny (1 - (k : Int)) = ny (1 - (k : Int)) := by
    intro k
    induction k with
    | zero => exact h1
    | succ k ih =>
      have a := Cal.ny_step ok (1 - ((k + 1 : Nat) : Int))
      have b := ny_succ (1 - ((k + 1 : Nat) : Int))
      rw [show (1 : Int) - ((k + 1 : Nat) : Int) + 1 = 1 - (k : Int) from by omega] at a b
      rw [greg_ylen h] at a
      omega
  by_cases hy : 1 ≤ y
  · have := up (y - 1).toNat
    rwa [show (1 : Int) + ((y - 1).toNat : Int) = y from by omega] at this
  · have := down (1 - y).toNat
    rwa [show (1 : Int) - ((1 - y).toNat : Int) = y from by omega] at this
theorem greg_on {c : Cal} (h : CalOf cr0 c) (ok : CalOk c) (y : Int) (k : Nat) (d : Int) (hv : valid y k d) : IsOn c y k (d - 1) (dayOf y k d) := by
  obtain ⟨hk, h1, h2⟩ := hv
  refine ⟨by rw [greg_n h]; exact hk, by omega, ?_, ?_⟩
  · rw [greg_len h y k hk]; omega
  · rw [greg_ny h ok, greg_pre h y k (by omega)]
    unfold dayOf
    omega
end Go.Proofs.YtbmbphikjainiaaGreatDoor
