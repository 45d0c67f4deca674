/- Fs0 -/
import Derived.Test.YtfjpfllamalfeaaDoorGFc
/- The sine as the library computes it, as a plain function of the words; where the argument is of a turn, every step is a number within given bounds. (Plain.) -/
namespace Go.Proofs.YtfjpfllamalfeaaDoor
open Ieee
set_option linter.unusedVariables false
abbrev fA (x y : Nat) := floatBits .add .f64 x y
abbrev fS (x y : Nat) := floatBits .sub .f64 x y
abbrev fM (x y : Nat) := floatBits .mul .f64 x y
abbrev fQ (x y : Nat) := floatBits .quo .f64 x y
abbrev fOne : Nat := 4607182418800017408
abbrev fHalf : Nat := 4602678819172646912
abbrev sinK0 : Nat := 4460209587652500685
abbrev cosK0 : Nat := 13666448263388469915
abbrev sinK1 : Nat := 13716528389658582877
abbrev cosK1 : Nat := 4477121864728985349
abbrev sinK2 : Nat := 4523617212962785441
abbrev cosK2 : Nat := 13732177093698800582
abbrev sinK3 : Nat := 13774824197404483331
abbrev cosK3 : Nat := 4537941361668146421
abbrev sinK4 : Nat := 4575957461383575504
abbrev cosK4 : Nat := 13787419979223748497
abbrev sinK5 : Nat := 13818544856648471880
abbrev cosK5 : Nat := 4586165620538955083
/-- a float made a whole number -/
theorem f2i_lb {B C x : Nat} (h : Lb B x) (hB : B ≤ C * 2 ^ 1074) (q : IntKind) (hq : (∀ n : Int, n.natAbs ≤ C → q.min ≤ n ∧ n ≤ q.max) ∨ (Nn x ∧ ∀ n : Int, 0 ≤ n → n.natAbs ≤ C → q.min ≤ n ∧ n ≤ q.max)) : ∃ n, floatToIntVal .f64 x q = some n ∧ n.natAbs ≤ C ∧ (Nn x → 0 ≤ n) := by
  obtain ⟨s, k, e, l, z⟩ := toInt_lb h .zero hB
  have e0 : Datum.toInt .zero (FloatKind.decode .f64 x) = some (signed s k 0) := by
    show (match Datum.integral .zero (Ieee.double.read x) with | .number s m _ => some (signed s m 0) | _ => none) = _
    rw [e]
  have en : (signed s k 0).natAbs ≤ C := by
    unfold signed
    rw [Nat.shiftLeft_zero]
    cases s <;> simp <;> exact l
  have ez : Nn x → 0 ≤ signed s k 0 := fun hn => by
    unfold signed
    rw [Nat.shiftLeft_zero]
    rcases z hn with g | g
    · rw [g]; simp
    · rw [g]; cases s <;> simp
  refine ⟨_, ?_, en, ez⟩
  unfold floatToIntVal
  rw [e0]
  dsimp only
  rcases hq with hq | ⟨hn, hq⟩
  · rw [if_pos (hq _ en)]
  · rw [if_pos (hq _ (ez hn) en)]
/-- rounded down or up, as a float -/
theorem integral_lb {B C x : Nat} (h : Lb B x) (way : Toward) (hB : B ≤ C * 2 ^ 1074) (hC : C ≤ 2 ^ 52) : Lb (C * 2 ^ 1074) (FloatKind.f64.encode ((FloatKind.f64.decode x).integral way)) := by
  obtain ⟨s, k, e, l, z⟩ := toInt_lb h way hB
  show Lb _ (Ieee.double.write (Datum.integral way (Ieee.double.read x)))
  rw [e]
  obtain ⟨m', p', e3, l3, _⟩ := near_le s k 0 0 C 1074 hC (by decide) (by rw [Nat.zero_add, Nat.pow_zero, Nat.mul_one]; exact Nat.mul_le_mul_right _ l)
  exact ⟨s, m', p', e3, l3⟩
def sinP (z zz : Nat) : Option Nat :=
  (fM z zz).bind fun a0 => (fM sinK0 zz).bind fun b0 => (fA b0 sinK1).bind fun b1 => (fM b1 zz).bind fun c1 => (fA c1 sinK2).bind fun b2 => (fM b2 zz).bind fun c2 => (fA c2 sinK3).bind fun b3 => (fM b3 zz).bind fun c3 => (fA c3 sinK4).bind fun b4 => (fM b4 zz).bind fun c4 => (fA c4 sinK5).bind fun b5 => (fM a0 b5).bind fun d => fA z d
theorem sin_poly {z zz : Nat} (hz : Lb (143 * 2 ^ 1071) z) (hzz : Lb (320 * 2 ^ 1074) zz) : ∃ a0 b0 b1 c1 b2 c2 b3 c3 b4 c4 b5 d r : Nat, fM z zz = some a0 ∧ fM sinK0 zz = some b0 ∧ fA b0 sinK1 = some b1 ∧ fM b1 zz = some c1 ∧ fA c1 sinK2 = some b2 ∧ fM b2 zz = some c2 ∧ fA c2 sinK3 = some b3 ∧ fM b3 zz = some c3 ∧ fA c3 sinK4 = some b4 ∧ fM b4 zz = some c4 ∧ fA c4 sinK5 = some b5 ∧ fM a0 b5 = some d ∧ fA z d = some r ∧ sinP z zz = some r ∧ Lb (1 * 2 ^ 1098) r := by
  have k0 : Lb (1 * 2 ^ 1042) sinK0 := lb_of (by decide +kernel)
  have k1 : Lb (1 * 2 ^ 1049) sinK1 := lb_of (by decide +kernel)
  have k2 : Lb (1 * 2 ^ 1056) sinK2 := lb_of (by decide +kernel)
  have k3 : Lb (1 * 2 ^ 1062) sinK3 := lb_of (by decide +kernel)
  have k4 : Lb (1 * 2 ^ 1068) sinK4 := lb_of (by decide +kernel)
  have k5 : Lb (1 * 2 ^ 1072) sinK5 := lb_of (by decide +kernel)
  obtain ⟨a0, ga0, la0, _⟩ := mul_lb (b := 5720) (t := 1074) hz hzz (by decide) (by decide) (by decide +kernel)
  obtain ⟨b0, gb0, lb0, _⟩ := mul_lb (b := 320) (t := 1042) k0 hzz (by decide) (by decide) (by decide +kernel)
  obtain ⟨b1, gb1, lb1⟩ := add_lb (b := 4) (t := 1049) lb0 k1 (by decide) (by decide) (by decide +kernel)
  obtain ⟨c1, gc1, lc1, _⟩ := mul_lb (b := 1280) (t := 1049) lb1 hzz (by decide) (by decide) (by decide +kernel)
  obtain ⟨b2, gb2, lb2⟩ := add_lb (b := 11) (t := 1056) lc1 k2 (by decide) (by decide) (by decide +kernel)
  obtain ⟨c2, gc2, lc2, _⟩ := mul_lb (b := 3520) (t := 1056) lb2 hzz (by decide) (by decide) (by decide +kernel)
  obtain ⟨b3, gb3, lb3⟩ := add_lb (b := 56) (t := 1062) lc2 k3 (by decide) (by decide) (by decide +kernel)
  obtain ⟨c3, gc3, lc3, _⟩ := mul_lb (b := 17920) (t := 1062) lb3 hzz (by decide) (by decide) (by decide +kernel)
  obtain ⟨b4, gb4, lb4⟩ := add_lb (b := 281) (t := 1068) lc3 k4 (by decide) (by decide) (by decide +kernel)
  obtain ⟨c4, gc4, lc4, _⟩ := mul_lb (b := 89920) (t := 1068) lb4 hzz (by decide) (by decide) (by decide +kernel)
  obtain ⟨b5, gb5, lb5⟩ := add_lb (b := 5621) (t := 1072) lc4 k5 (by decide) (by decide) (by decide +kernel)
  obtain ⟨d, gd, ld, _⟩ := mul_lb (b := 8038030) (t := 1074) la0 lb5 (by decide) (by decide) (by decide +kernel)
  obtain ⟨r, gr, lr⟩ := add_lb (b := 8038048) (t := 1074) hz ld (by decide) (by decide) (by decide +kernel)
  refine ⟨a0, b0, b1, c1, b2, c2, b3, c3, b4, c4, b5, d, r, ga0, gb0, gb1, gc1, gb2, gc2, gb3, gc3, gb4, gc4, gb5, gd, gr, ?_, lr.mono (by decide +kernel)⟩
  unfold sinP
  simp only [ga0, gb0, gb1, gc1, gb2, gc2, gb3, gc3, gb4, gc4, gb5, gd, gr, Option.bind_some]
def cosP (zz : Nat) : Option Nat :=
  (fM fHalf zz).bind fun e1 => (fS fOne e1).bind fun e2 => (fM zz zz).bind fun a0 => (fM cosK0 zz).bind fun b0 => (fA b0 cosK1).bind fun b1 => (fM b1 zz).bind fun c1 => (fA c1 cosK2).bind fun b2 => (fM b2 zz).bind fun c2 => (fA c2 cosK3).bind fun b3 => (fM b3 zz).bind fun c3 => (fA c3 cosK4).bind fun b4 => (fM b4 zz).bind fun c4 => (fA c4 cosK5).bind fun b5 => (fM a0 b5).bind fun d => fA e2 d
theorem cos_poly {zz : Nat} (hzz : Lb (320 * 2 ^ 1074) zz) : ∃ e1 e2 a0 b0 b1 c1 b2 c2 b3 c3 b4 c4 b5 d r : Nat, fM fHalf zz = some e1 ∧ fS fOne e1 = some e2 ∧ fM zz zz = some a0 ∧ fM cosK0 zz = some b0 ∧ fA b0 cosK1 = some b1 ∧ fM b1 zz = some c1 ∧ fA c1 cosK2 = some b2 ∧ fM b2 zz = some c2 ∧ fA c2 cosK3 = some b3 ∧ fM b3 zz = some c3 ∧ fA c3 cosK4 = some b4 ∧ fM b4 zz = some c4 ∧ fA c4 cosK5 = some b5 ∧ fM a0 b5 = some d ∧ fA e2 d = some r ∧ cosP zz = some r ∧ Lb (1 * 2 ^ 1098) r := by
  have k0 : Lb (1 * 2 ^ 1038) cosK0 := lb_of (by decide +kernel)
  have k1 : Lb (1 * 2 ^ 1046) cosK1 := lb_of (by decide +kernel)
  have k2 : Lb (1 * 2 ^ 1053) cosK2 := lb_of (by decide +kernel)
  have k3 : Lb (1 * 2 ^ 1059) cosK3 := lb_of (by decide +kernel)
  have k4 : Lb (1 * 2 ^ 1065) cosK4 := lb_of (by decide +kernel)
  have k5 : Lb (1 * 2 ^ 1070) cosK5 := lb_of (by decide +kernel)
  have kh : Lb (1 * 2 ^ 1073) fHalf := lb_of (by decide +kernel)
  have ko : Lb (1 * 2 ^ 1074) fOne := lb_of (by decide +kernel)
  obtain ⟨e1, ge1, le1, _⟩ := mul_lb (b := 160) (t := 1074) kh hzz (by decide) (by decide) (by decide +kernel)
  obtain ⟨e2, ge2, le2⟩ := sub_lb (b := 161) (t := 1074) ko le1 (by decide) (by decide) (by decide +kernel)
  obtain ⟨a0, ga0, la0, _⟩ := mul_lb (b := 102400) (t := 1074) hzz hzz (by decide) (by decide) (by decide +kernel)
  obtain ⟨b0, gb0, lb0, _⟩ := mul_lb (b := 320) (t := 1038) k0 hzz (by decide) (by decide) (by decide +kernel)
  obtain ⟨b1, gb1, lb1⟩ := add_lb (b := 3) (t := 1046) lb0 k1 (by decide) (by decide) (by decide +kernel)
  obtain ⟨c1, gc1, lc1, _⟩ := mul_lb (b := 960) (t := 1046) lb1 hzz (by decide) (by decide) (by decide +kernel)
  obtain ⟨b2, gb2, lb2⟩ := add_lb (b := 9) (t := 1053) lc1 k2 (by decide) (by decide) (by decide +kernel)
  obtain ⟨c2, gc2, lc2, _⟩ := mul_lb (b := 2880) (t := 1053) lb2 hzz (by decide) (by decide) (by decide +kernel)
  obtain ⟨b3, gb3, lb3⟩ := add_lb (b := 46) (t := 1059) lc2 k3 (by decide) (by decide) (by decide +kernel)
  obtain ⟨c3, gc3, lc3, _⟩ := mul_lb (b := 14720) (t := 1059) lb3 hzz (by decide) (by decide) (by decide +kernel)
  obtain ⟨b4, gb4, lb4⟩ := add_lb (b := 231) (t := 1065) lc3 k4 (by decide) (by decide) (by decide +kernel)
  obtain ⟨c4, gc4, lc4, _⟩ := mul_lb (b := 73920) (t := 1065) lb4 hzz (by decide) (by decide) (by decide +kernel)
  obtain ⟨b5, gb5, lb5⟩ := add_lb (b := 2311) (t := 1070) lc4 k5 (by decide) (by decide) (by decide +kernel)
  obtain ⟨d, gd, ld, _⟩ := mul_lb (b := 14790400) (t := 1074) la0 lb5 (by decide) (by decide) (by decide +kernel)
  obtain ⟨r, gr, lr⟩ := add_lb (b := 14790561) (t := 1074) le2 ld (by decide) (by decide) (by decide +kernel)
  refine ⟨e1, e2, a0, b0, b1, c1, b2, c2, b3, c3, b4, c4, b5, d, r, ge1, ge2, ga0, gb0, gb1, gc1, gb2, gc2, gb3, gc3, gb4, gc4, gb5, gd, gr, ?_, lr.mono (by decide +kernel)⟩
  unfold cosP
  simp only [ge1, ge2, ga0, gb0, gb1, gc1, gb2, gc2, gb3, gc3, gb4, gc4, gb5, gd, gr, Option.bind_some]
/-- the argument brought near nought: what is left of it behind j eighths of a turn -/
theorem sin_red {x : Nat} (hx : Lb (65 * 2 ^ 1071) x) (hn : Nn x) : ∃ (p : Nat) (j : Int), fM x 4608412980311869571 = some p ∧ floatToIntVal .f64 p .u64 = some j ∧ 0 ≤ j ∧ j ≤ 11 := by
  have k : Lb (41 * 2 ^ 1069) 4608412980311869571 := lb_of (by decide +kernel)
  obtain ⟨p, gp, lp, np⟩ := mul_lb (b := 21) (t := 1073) hx k (by decide) (by decide) (by decide +kernel)
  have hp := np hn (nn_of (by decide +kernel))
  obtain ⟨j, gj, lj, nj⟩ := f2i_lb (C := 11) lp (by decide +kernel) .u64 (.inr ⟨hp, fun n h0 h1 => ⟨h0, by show n ≤ 18446744073709551615; omega⟩⟩)
  have := nj hp
  exact ⟨p, j, gp, gj, this, by omega⟩
theorem sin_z {x y : Nat} (hx : Lb (65 * 2 ^ 1071) x) (hy : Lb (12 * 2 ^ 1074) y) : ∃ u1 z1 u2 z2 u3 z zz : Nat, fM y 4605249456957292544 = some u1 ∧ fS x u1 = some z1 ∧ fM y 4495793288086814720 = some u2 ∧ fS z1 u2 = some z2 ∧ fM y 4388835458085048688 = some u3 ∧ fS z2 u3 = some z ∧ fM z z = some zz ∧ Lb (143 * 2 ^ 1071) z ∧ Lb (320 * 2 ^ 1074) zz := by
  have k1 : Lb (101 * 2 ^ 1067) 4605249456957292544 := lb_of (by decide +kernel)
  have k2 : Lb (1 * 2 ^ 1050) 4495793288086814720 := lb_of (by decide +kernel)
  have k3 : Lb (1 * 2 ^ 1050) 4388835458085048688 := lb_of (by decide +kernel)
  obtain ⟨u1, g1, l1, _⟩ := mul_lb (b := 19) (t := 1073) hy k1 (by decide) (by decide) (by decide +kernel)
  obtain ⟨z1, g2, l2⟩ := sub_lb (b := 141) (t := 1071) hx l1 (by decide) (by decide) (by decide +kernel)
  obtain ⟨u2, g3, l3, _⟩ := mul_lb (b := 1) (t := 1054) hy k2 (by decide) (by decide) (by decide +kernel)
  obtain ⟨z2, g4, l4⟩ := sub_lb (b := 142) (t := 1071) l2 l3 (by decide) (by decide) (by decide +kernel)
  obtain ⟨u3, g5, l5, _⟩ := mul_lb (b := 1) (t := 1054) hy k3 (by decide) (by decide) (by decide +kernel)
  obtain ⟨z, g6, l6⟩ := sub_lb (b := 143) (t := 1071) l4 l5 (by decide) (by decide) (by decide +kernel)
  obtain ⟨zz, g7, l7, _⟩ := mul_lb (b := 320) (t := 1074) l6 l6 (by decide) (by decide) (by decide +kernel)
  exact ⟨u1, z1, u2, z2, u3, z, zz, g1, g2, g3, g4, g5, g6, g7, l6, l7⟩
/-- what is left, and its square -/
def redF (x y : Nat) : Option Nat := (fM y 4605249456957292544).bind fun u1 => (fS x u1).bind fun z1 => (fM y 4495793288086814720).bind fun u2 => (fS z1 u2).bind fun z2 => (fM y 4388835458085048688).bind fun u3 => fS z2 u3
/-- the sine of a number that is not below nought; neg: of its negative -/
def sinR (neg : Bool) (x : Nat) : Option Nat :=
  (fM x 4608412980311869571).bind fun p => (floatToIntVal .f64 p .u64).bind fun j =>
    (if j % 2 = 1 then fA (floatOfInt .f64 j) fOne else some (floatOfInt .f64 j)).bind fun y => (redF x y).bind fun z => (fM z z).bind fun zz =>
      let j2 := (if j % 2 = 1 then j + 1 else j) % 8
      let j3 := if 3 < j2 then j2 - 4 else j2
      (if j3 = 1 ∨ j3 = 2 then cosP zz else sinP z zz).map fun r => if (if 3 < j2 then !neg else neg) then Op.negFloat .f64 r else r
/-- the sine -/
def sinF (x : Nat) : Option Nat :=
  if Ieee.double.order x 0 = some .eq then some x
  else if Ieee.double.order x 0 = some .lt then sinR true (Op.negFloat .f64 x) else sinR false x
end Go.Proofs.YtfjpfllamalfeaaDoor
