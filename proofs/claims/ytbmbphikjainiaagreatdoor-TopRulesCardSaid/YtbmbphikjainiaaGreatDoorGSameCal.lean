/- SameCal -/
import Derived.Test.YtbmbphikjainiaaGreatDoorGAr1
import Derived.Test.YtbmbphikjainiaaGreatDoorGCal5
/- Two calendars with the same months and leap years have the same dates. -/
namespace Go.Proofs.YtbmbphikjainiaaGreatDoor
open Go.RowKit
set_option linter.unusedVariables false

structure SameCal (c d : Cal) : Prop where
  ep : c.ep = d.ep
  mo : c.mo = d.mo
  lp : ∀ y, c.lpy y = d.lpy y
theorem SameCal.trans {a b c : Cal} (h : SameCal a b) (h' : SameCal b c) : SameCal a c := ⟨h.ep.trans h'.ep, h.mo.trans h'.mo, fun y => (h.lp y).trans (h'.lp y)⟩
theorem SameCal.ylen {c d : Cal} (h : SameCal c d) (y : Int) : c.ylen y = d.ylen y := by unfold Cal.ylen; rw [h.lp, h.mo]
theorem SameCal.ny {c d : Cal} (h : SameCal c d) (okc : CalOk c) (okd : CalOk d) (y : Int) : c.ny y = d.ny y := by
  have h1 : c.ny 1 = d.ny 1 := by rw [Cal.ny_one okc, Cal.ny_one okd, h.ep]
  have up : ∀ k : Nat, c.ny (1 + (k : Int)) = d.ny (1 + (k : Int)) := by
    intro k
    induction k with
    | zero => exact h1
    | succ k ih => rw [show (1 : Int) + ((k + 1 : Nat) : Int) = 1 + (k : Int) + 1 from by omega, Cal.ny_step okc, Cal.ny_step okd, ih, h.ylen]
  have down : ∀ k : Nat, c.ny (1 - (k : Int)) = d.ny (1 - (k : Int)) := by
    intro k
    induction k with
    | zero => exact h1
    | succ k ih =>
      have a := Cal.ny_step okc (1 - ((k + 1 : Nat) : Int))
      have b := Cal.ny_step okd (1 - ((k + 1 : Nat) : Int))
      rw [show (1 : Int) - ((k + 1 : Nat) : Int) + 1 = 1 - (k : Int) from by omega] at a b
      rw [h.ylen] at a
      omega
  by_cases hy : 1 ≤ y
  · have := up (y - 1).toNat
    rwa [show (1 : Int) + ((y - 1).toNat : Int) = y from by omega] at this
  · have := down (1 - y).toNat
    rwa [show (1 : Int) - ((1 - y).toNat : Int) = y from by omega] at this
theorem SameCal.on {c d : Cal} (h : SameCal c d) (okc : CalOk c) (okd : CalOk d) {y : Int} {m : Nat} {dd n : Int} (ho : IsOn c y m dd n) : IsOn d y m dd n :=
  ⟨by rw [← h.mo]; exact ho.m1, ho.d0, by have := ho.d1; unfold Cal.mlen at this ⊢; rw [← h.lp, ← h.mo]; exact this, by have := ho.on; unfold Cal.pre at this ⊢; rw [← h.lp, ← h.mo, ← h.ny okc okd]; exact this⟩
theorem fd_same {c d : Cal} (h : SameCal c d) (okc : CalOk c) (okd : CalOk d) {day : Int} (h1 : -4000000 ≤ day) (h2 : day ≤ 4000000) {w1 w1' w2 w2' : World} {e e' : Ending} (a : IsFD c day w1 e w1') (b : IsFD d day w2 e' w2') : e' = e := by
  obtain ⟨_, a⟩ := a
  obtain ⟨_, b⟩ := b
  have inr : ∀ {x : Cal} (okx : CalOk x) {y : Int} {m : Nat} {dd : Int}, -10000 ≤ y → y ≤ 10000 → IsOn x y m dd day → x.ny (-10000) ≤ day ∧ day < x.ny 10001 := by
    intro x okx y m dd hy1 hy2 ho
    have q := ho.year okx
    have q1 := Cal.ny_le okx hy1
    have q2 := Cal.ny_le okx (show y + 1 ≤ (10001 : Int) by omega)
    omega
  rcases a with ⟨y, m, dd, a1, a2, a3, rfl⟩ | ⟨a1, rfl⟩
  · rcases b with ⟨y', m', dd', b1, b2, b3, rfl⟩ | ⟨b1, rfl⟩
    · obtain ⟨rfl, rfl, rfl⟩ := b3.unique okd (h.on okc okd a3)
      rfl
    · have q := inr okd a1 a2 (h.on okc okd a3)
      exact absurd ⟨h1, h2, q.1, q.2⟩ b1
  · rcases b with ⟨y', m', dd', b1, b2, b3, rfl⟩ | ⟨b1, rfl⟩
    · have q := inr okd b1 b2 b3
      rw [← h.ny okc okd, ← h.ny okc okd] at q
      exact absurd ⟨h1, h2, q.1, q.2⟩ a1
    · rfl
/-- the least calendar is the same -/
theorem least_same {c d : Cal} {N n : Nat} (hN : c.cy = N) (h : IsLeast c.lp N n) (h2 : d.ep = c.ep) (h3 : d.cy = n) (h4 : d.mo = c.mo) (h5 : d.lp = c.lp.filter (fun y => decide (y ≤ (n : Int)))) : SameCal c d :=
  ⟨h2.symm, h4.symm, fun y => by
    unfold Cal.lpy Cal.pl
    rw [h5, h3, hN]
    exact least_leap h y⟩
end Go.Proofs.YtbmbphikjainiaaGreatDoor
