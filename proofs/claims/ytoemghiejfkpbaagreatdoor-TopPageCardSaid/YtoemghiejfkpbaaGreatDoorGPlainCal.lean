/- PlainCal, PlainCal2 -/
import Derived.Test.YtoemghiejfkpbaaGreatDoorGCal1
/- Years, months and days of an arithmetic calendar, in plain Lean. -/
namespace Go.Proofs.YtoemghiejfkpbaaGreatDoor
open Go.RowKit
set_option linter.unusedVariables false
def Cal.lpy (c : Cal) (y : Int) : Bool := decide (c.pl y ∈ c.lp)
def Cal.mlen (c : Cal) (y : Int) (m : Nat) : Int := if c.lpy y then (c.mo.getD m mth0).lo else (c.mo.getD m mth0).sh
def Cal.ylen (c : Cal) (y : Int) : Int := if c.lpy y then sumL c.mo else sumS c.mo
def Cal.pre (c : Cal) (y : Int) (m : Nat) : Int := if c.lpy y then sumL (c.mo.take m) else sumS (c.mo.take m)
def Cal.ny (c : Cal) (y : Int) : Int := c.ep + (y - 1) / c.cy * (c.cy * sumS c.mo + c.lp.length * (sumL c.mo - sumS c.mo)) + (y - 1) % c.cy * sumS c.mo + cntL c.lp ((y - 1) % c.cy + 1) * (sumL c.mo - sumS c.mo)
theorem Cal.ny_step {c : Cal} (ok : CalOk c) (y : Int) : c.ny (y + 1) = c.ny y + c.ylen y := by
 have hc := ok.hd.2.2
 have h := ok.lp
 have hr0 := Int.emod_nonneg (y - 1) (show c.cy ≠ 0 by omega)
 have hr1 := Int.emod_lt_of_pos (y - 1) (show 0 < c.cy by omega)
 have he := Int.mul_ediv_add_emod (y - 1) c.cy
 have hcount : ∀ x, c.lp.count x = if x ∈ c.lp then 1 else 0 := fun x => List.Nodup.count h.nodup
 have hY : c.ylen y = sumS c.mo + (c.lp.count ((y - 1) % c.cy + 1) : Int) * (sumL c.mo - sumS c.mo) := by
  unfold Cal.ylen Cal.lpy Cal.pl
  rw [hcount]
  by_cases hm : (y - 1) % c.cy + 1 ∈ c.lp <;> simp [hm] <;> omega
 rw [hY]
 unfold Cal.ny
 rw [show y + 1 - 1 = (y - 1) + 1 from by omega]
 generalize y - 1 = z at *
 generalize hq : z / c.cy = q at *
 generalize hrr : z % c.cy = r at *
 generalize sumL c.mo - sumS c.mo = D at *
 generalize sumS c.mo = S at *
 by_cases hw : r + 1 < c.cy
 ·have h1 : (z + 1) / c.cy = q ∧ (z + 1) % c.cy = r + 1 := (Int.ediv_emod_unique (by omega)).2 ⟨by omega, by omega, hw⟩
  rw [h1.1, h1.2, cnt_succ, Int.natCast_add, Int.add_mul, Int.add_mul]
  omega
 ·have hr : r + 1 = c.cy := by omega
  have h1 : (z + 1) / c.cy = q + 1 ∧ (z + 1) % c.cy = 0 := (Int.ediv_emod_unique (by omega)).2 ⟨by rw [Int.mul_add]; omega, by omega, by omega⟩
  have h0 : cntL c.lp (0 + 1) = 0 := cnt_none _ _ fun y hy => by have := (h.mem y hy).1; omega
  have hl : (c.lp.length : Int) = cntL c.lp (r + 1) + c.lp.count (r + 1) := by
   rw [← Int.natCast_add, ← cnt_succ, cnt_all _ _ fun y hy => by have := (h.mem y hy).2; omega]
  rw [h1.1, h1.2, h0, hl, ← hr]
  simp only [Int.add_mul, Int.mul_add, Int.one_mul, Int.natCast_zero, Int.zero_mul]
  omega
theorem Cal.sums_pos {c : Cal} (ok : CalOk c) : (1 ≤ sumS c.mo ∧ sumS c.mo ≤ 8000) ∧ (1 ≤ sumL c.mo ∧ sumL c.mo ≤ 8000) := by
 have h := sums_in c.mo c.mo.length (Nat.le_refl _) ok.mo.each
 rw [List.take_length] at h
 have := ok.mo.n2
 have := ok.mo.s0
 have := ok.mo.l0
 omega
theorem Cal.ylen_in {c : Cal} (ok : CalOk c) (y : Int) : 1 ≤ c.ylen y ∧ c.ylen y ≤ 8000 := by
 have := Cal.sums_pos ok
 unfold Cal.ylen
 split <;> omega
theorem Cal.ny_far {c : Cal} (ok : CalOk c) (y : Int) : ∀ k : Nat, c.ny y + k ≤ c.ny (y + k) ∧ c.ny (y + k) ≤ c.ny y + 8000 * k := by
 intro k
 induction k with
 | zero => simp
 | succ k ih =>
  have h := Cal.ny_step ok (y + k)
  have h2 := Cal.ylen_in ok (y + k)
  rw [show y + ((k + 1 : Nat) : Int) = y + k + 1 from by omega, h]
  omega
theorem Cal.ny_lt {c : Cal} (ok : CalOk c) {y y' : Int} (h : y < y') : c.ny y < c.ny y' := by
 have := Cal.ny_far ok y (y' - y).toNat
 rw [show y + ((y' - y).toNat : Int) = y' from by omega] at this
 omega
theorem Cal.ny_le {c : Cal} (ok : CalOk c) {y y' : Int} (h : y ≤ y') : c.ny y ≤ c.ny y' := by
 by_cases e : y = y'
 ·rw [e]; exact Int.le_refl _
 ·exact Int.le_of_lt (Cal.ny_lt ok (by omega))
theorem Cal.ny_one {c : Cal} (ok : CalOk c) : c.ny 1 = c.ep := by
 have h0 : cntL c.lp (0 + 1) = 0 := cnt_none _ _ fun y hy => by have := (ok.lp.mem y hy).1; omega
 unfold Cal.ny
 simp only [show (1 : Int) - 1 = 0 from rfl, Int.zero_ediv, Int.zero_emod, Int.zero_mul, h0]
 simp
theorem Cal.ny_in {c : Cal} (ok : CalOk c) (y : Int) (h1 : -100000 ≤ y) (h2 : y ≤ 100000) : -900000000 ≤ c.ny y ∧ c.ny y ≤ 900000000 := by
 have h0 := Cal.ny_one ok
 have he := ok.hd.2.1
 by_cases h : 1 ≤ y
 ·have := Cal.ny_far ok 1 (y - 1).toNat
  rw [show (1 : Int) + ((y - 1).toNat : Int) = y from by omega] at this
  omega
 ·have := Cal.ny_far ok y (1 - y).toNat
  rw [show y + ((1 - y).toNat : Int) = 1 from by omega] at this
  omega
theorem Cal.pre_succ (c : Cal) (y : Int) (m : Nat) (h : m < c.mo.length) : c.pre y (m + 1) = c.pre y m + c.mlen y m := by
 unfold Cal.pre Cal.mlen
 split
 ·exact sumL_take c.mo m h
 ·exact sumS_take c.mo m h
theorem Cal.pre_zero (c : Cal) (y : Int) : c.pre y 0 = 0 := by unfold Cal.pre; split <;> simp [sumL, sumS]
theorem Cal.pre_all (c : Cal) (y : Int) : c.pre y c.mo.length = c.ylen y := by unfold Cal.pre Cal.ylen; rw [List.take_length]
theorem Cal.mlen_in {c : Cal} (ok : CalOk c) (y : Int) (m : Nat) (h : m < c.mo.length) : 0 ≤ c.mlen y m ∧ c.mlen y m ≤ 400 := by
 have := ok.mo.each m h
 unfold Cal.mlen
 split
 ·exact this.lo
 ·exact this.sh
theorem Cal.pre_mono {c : Cal} (ok : CalOk c) (y : Int) : ∀ k m, m + k ≤ c.mo.length → c.pre y m ≤ c.pre y (m + k) ∧ c.pre y (m + k) ≤ c.pre y m + 400 * k := by
 intro k
 induction k with
 | zero => intro m _; simp
 | succ k ih =>
  intro m h
  have h1 := ih m (by omega)
  have h2 := Cal.mlen_in ok y (m + k) (by omega)
  rw [show m + (k + 1) = m + k + 1 from by omega, c.pre_succ y (m + k) (by omega)]
  omega
structure IsOn (c : Cal) (y : Int) (m : Nat) (d day : Int) : Prop where
 m1 : m < c.mo.length
 d0 : 0 ≤ d
 d1 : d < c.mlen y m
 on : day = c.ny y + c.pre y m + d
theorem IsOn.year {c : Cal} (ok : CalOk c) {y : Int} {m : Nat} {d day : Int} (h : IsOn c y m d day) : c.ny y ≤ day ∧ day < c.ny (y + 1) := by
 have h1 := Cal.pre_mono ok y m 0 (by have := h.m1; omega)
 have h2 := Cal.pre_mono ok y (c.mo.length - (m + 1)) (m + 1) (by have := h.m1; omega)
 rw [show m + 1 + (c.mo.length - (m + 1)) = c.mo.length from by have := h.m1; omega, c.pre_all, c.pre_succ y m h.m1] at h2
 rw [c.pre_zero, Nat.zero_add] at h1
 rw [Cal.ny_step ok]
 have := h.on
 have := h.d0
 have := h.d1
 omega
theorem IsOn.unique {c : Cal} (ok : CalOk c) {y y' : Int} {m m' : Nat} {d d' day : Int} (h : IsOn c y m d day) (h' : IsOn c y' m' d' day) : y = y' ∧ m = m' ∧ d = d' := by
 have a := h.year ok
 have b := h'.year ok
 have ey : y = y' := by
  by_cases h1 : y < y'
  ·have := Cal.ny_le ok (show y + 1 ≤ y' by omega); omega
  ·by_cases h2 : y' < y
   ·have := Cal.ny_le ok (show y' + 1 ≤ y by omega); omega
   ·omega
 subst ey
 have hlt : ∀ {a b : Nat} {s t : Int}, IsOn c y a s day → IsOn c y b t day → ¬ a < b := fun {a b s t} ha hb hab => by
  have h1 := Cal.pre_mono ok y (b - (a + 1)) (a + 1) (by have := hb.m1; omega)
  rw [show a + 1 + (b - (a + 1)) = b from by omega, c.pre_succ y a ha.m1] at h1
  have := ha.on
  have := hb.on
  have := ha.d1
  have := hb.d0
  omega
 have em : m = m' := by
  have := hlt h h'
  have := hlt h' h
  omega
 subst em
 have := h.on
 have := h'.on
 exact ⟨rfl, rfl, by omega⟩
end Go.Proofs.YtoemghiejfkpbaaGreatDoor
/- The next month that is not empty; the day after a day. -/
namespace Go.Proofs.YtoemghiejfkpbaaGreatDoor
open Go.RowKit
set_option linter.unusedVariables false
def NextM (c : Cal) (y : Int) (m : Nat) (y' : Int) (m' : Nat) : Prop :=
 m' < c.mo.length ∧ 0 < c.mlen y' m' ∧ ((y' = y ∧ m < m' ∧ ∀ i, m < i → i < m' → c.mlen y i = 0) ∨ (y' = y + 1 ∧ (∀ i, m < i → i < c.mo.length → c.mlen y i = 0) ∧ ∀ i, i < m' → c.mlen (y + 1) i = 0))
theorem Cal.pre_empty (c : Cal) (y : Int) (a : Nat) : ∀ k, a + k ≤ c.mo.length → (∀ i, a ≤ i → i < a + k → c.mlen y i = 0) → c.pre y (a + k) = c.pre y a := by
 intro k
 induction k with
 | zero => intro _ _; rfl
 | succ k ih =>
  intro h he
  rw [show a + (k + 1) = a + k + 1 from by omega, c.pre_succ y (a + k) (by omega), he (a + k) (by omega) (by omega), ih (by omega) fun i h1 h2 => he i h1 (by omega)]
  omega
theorem NextM.on {c : Cal} (ok : CalOk c) {y : Int} {m : Nat} {y' : Int} {m' : Nat} {d day : Int} (h : NextM c y m y' m') (ho : IsOn c y m d day) (hd : c.mlen y m ≤ d + 1) : IsOn c y' m' 0 (day + 1) := by
 obtain ⟨h1, h2, h3⟩ := h
 have hm := ho.m1
 have hon := ho.on
 have hd1 := ho.d1
 have hs := c.pre_succ y m hm
 refine ⟨h1, Int.le_refl _, h2, ?_⟩
 rcases h3 with ⟨rfl, h4, h5⟩ | ⟨rfl, h4, h5⟩
 ·have := c.pre_empty y' (m + 1) (m' - (m + 1)) (by omega) fun i a b => h5 i (by omega) (by omega)
  rw [show m + 1 + (m' - (m + 1)) = m' from by omega] at this
  omega
 ·have e1 := c.pre_empty y (m + 1) (c.mo.length - (m + 1)) (by omega) fun i a b => h4 i (by omega) (by omega)
  rw [show m + 1 + (c.mo.length - (m + 1)) = c.mo.length from by omega, c.pre_all] at e1
  have e2 := c.pre_empty (y + 1) 0 m' (by omega) fun i a b => h5 i (by omega)
  rw [Nat.zero_add, c.pre_zero] at e2
  have e3 := Cal.ny_step ok y
  omega
theorem IsOn.succ {c : Cal} (ok : CalOk c) {y : Int} {m : Nat} {d day : Int} (h : IsOn c y m d day) (hd : d + 1 < c.mlen y m) : IsOn c y m (d + 1) (day + 1) :=
 ⟨h.m1, by have := h.d0; omega, hd, by have := h.on; omega⟩
end Go.Proofs.YtoemghiejfkpbaaGreatDoor
