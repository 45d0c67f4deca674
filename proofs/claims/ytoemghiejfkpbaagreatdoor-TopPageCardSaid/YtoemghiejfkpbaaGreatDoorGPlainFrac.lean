/- PlainFrac, Frac1, Moon1, Slice1, Slice2 -/
import Derived.Lib.SliceRun
import Derived.Lib.AppendZerosOnto
import Derived.Deep.AppendSrc
import Derived.Test.YtoemghiejfkpbaaGreatDoorGPlainInt
import Derived.Test.YtoemghiejfkpbaaGreatDoorGSearch1
/- Plain arithmetic of fractions in lowest terms, no program in sight. -/
namespace Go.Proofs.YtoemghiejfkpbaaGreatDoor
set_option linter.unusedVariables false
def fN (n d : Int) : Int := if d < 0 then -(n / (Int.gcd n d : Int)) else n / (Int.gcd n d : Int)
def fD (n d : Int) : Int := if d < 0 then -(d / (Int.gcd n d : Int)) else d / (Int.gcd n d : Int)
theorem f_facts (n d : Int) (hd : d ≠ 0) : ∃ (g n' d' : Int), 1 ≤ g ∧ g = (Int.gcd n d : Int) ∧ n = g * n' ∧ d = g * d' ∧ Int.gcd n' d' = 1 ∧ n / g = n' ∧ d / g = d' := by
 have hp : 0 < Int.gcd n d := Int.gcd_pos_of_ne_zero_right n hd
 have e := Int.gcd_ediv (Int.gcd_dvd_left n d) (Int.gcd_dvd_right n d)
 rw [Int.natAbs_natCast, Nat.div_self hp] at e
 refine ⟨(Int.gcd n d : Int), n / (Int.gcd n d : Int), d / (Int.gcd n d : Int), by omega, rfl, ?_, ?_, e, rfl, rfl⟩
 ·exact (Int.mul_ediv_cancel' (Int.gcd_dvd_left n d)).symm
 ·exact (Int.mul_ediv_cancel' (Int.gcd_dvd_right n d)).symm
theorem pos_of_mul_pos (g x : Int) (hg : 1 ≤ g) (h : 0 < g * x) : 0 < x := by
 rcases Int.lt_trichotomy x 0 with hx | hx | hx
 ·have := Int.mul_neg_of_pos_of_neg (show 0 < g by omega) hx; omega
 ·subst hx; omega
 ·exact hx
theorem le_mul_abs (g x : Int) (hg : 1 ≤ g) : x.natAbs ≤ (g * x).natAbs := by
 rw [Int.natAbs_mul]
 exact Nat.le_mul_of_pos_left _ (by omega)
theorem fD_pos (n d : Int) (hd : d ≠ 0) : 1 ≤ fD n d ∧ (fD n d).natAbs ≤ d.natAbs ∧ (fN n d).natAbs ≤ n.natAbs ∧ Int.gcd (fN n d) (fD n d) = 1 ∧ fN n d * d = n * fD n d := by
 obtain ⟨g, n', d', hg, eg, en, ed, hc, e1, e2⟩ := f_facts n d hd
 unfold fN fD
 rw [← eg, e1, e2]
 have a1 := le_mul_abs g n' hg
 have a2 := le_mul_abs g d' hg
 rw [← en] at a1
 rw [← ed] at a2
 have hx : n' * d = n * d' := by rw [en, ed, ← Int.mul_assoc, Int.mul_comm n' g]
 by_cases h : d < 0
 ·rw [if_pos h, if_pos h]
  have hd' : 0 < -d' := by apply pos_of_mul_pos g _ hg; rw [Int.mul_neg]; omega
  refine ⟨by omega, by omega, by omega, by rw [Int.gcd_neg, Int.neg_gcd]; exact hc, by rw [Int.neg_mul, Int.mul_neg, hx]⟩
 ·rw [if_neg h, if_neg h]
  have hd' : 0 < d' := by apply pos_of_mul_pos g _ hg; omega
  exact ⟨by omega, a2, a1, hc, hx⟩
theorem dvd_of_coprime (q p x : Int) (hc : Int.gcd p q = 1) (h : q ∣ p * x) : q ∣ x := by
 have h1 : q.natAbs ∣ p.natAbs * x.natAbs := by rw [← Int.natAbs_mul]; exact Int.natAbs_dvd_natAbs.2 h
 have h2 : Nat.Coprime q.natAbs p.natAbs := by rw [Nat.coprime_comm]; exact hc
 exact Int.natAbs_dvd_natAbs.1 (h2.dvd_of_dvd_mul_left h1)
theorem lowest (p q p' q' : Int) (hq : 1 ≤ q) (hq' : 1 ≤ q') (hc : Int.gcd p q = 1) (hc' : Int.gcd p' q' = 1) (h : p * q' = p' * q) : p = p' ∧ q = q' := by
 have d1 : q ∣ q' := dvd_of_coprime q p q' hc ⟨p', by rw [h, Int.mul_comm]⟩
 have d2 : q' ∣ q := dvd_of_coprime q' p' q hc' ⟨p, by rw [← h, Int.mul_comm]⟩
 have e : q = q' := Int.le_antisymm (Int.le_of_dvd (by omega) d1) (Int.le_of_dvd (by omega) d2)
 subst e
 exact ⟨Int.eq_of_mul_eq_mul_right (by omega) h, rfl⟩
structure FIn (n d : Int) (a b : Nat) : Prop where
 n1 : n.natAbs ≤ a
 d1 : d.natAbs ≤ b
 pos : 1 ≤ d
 low : Int.gcd n d = 1
theorem FIn.of (n d : Int) (a b : Nat) (hn : n.natAbs ≤ a) (hd : d.natAbs ≤ b) (h0 : d ≠ 0) : FIn (fN n d) (fD n d) a b := by
 obtain ⟨h1, h2, h3, h4, _⟩ := fD_pos n d h0
 exact ⟨by omega, by omega, h1, h4⟩
end Go.Proofs.YtoemghiejfkpbaaGreatDoor
/- Contracts of package frac: size, Check, both, Of. -/
namespace Go.Proofs.YtoemghiejfkpbaaGreatDoor
open Go.RowKit
set_option linter.unusedVariables false
end Go.Proofs.YtoemghiejfkpbaaGreatDoor
/- Contracts of package lunisolar: increasing, parts, avoided. -/
namespace Go.Proofs.YtoemghiejfkpbaaGreatDoor
open Go.RowKit
set_option linter.unusedVariables false
structure Mo where
 nm : ByteArray
 ep : Int
 sn : Int
 sd : Int
 mn : Int
 md : Int
 ln : Int
 ld : Int
 cy : Int
 lp : List Int
 av : List Int
 A1 : Option Addr
 c1 : Nat
 A2 : Option Addr
 c2 : Nat
abbrev Mo.cells (m : Mo) : Array Value := #[.string m.nm, .int .i64 m.ep, .int .i64 m.sn, .int .i64 m.sd, .int .i64 m.mn, .int .i64 m.md, .int .i64 m.ln, .int .i64 m.ld, .int .i64 m.cy, .slice m.A1 m.lp.length m.c1, .slice m.A2 m.av.length m.c2]
abbrev Mo.val (m : Mo) : Value := .agg m.cells
def MIn (w : World) (m : Mo) : Prop := Row w w.heap.size m.A1 (ints m.lp) ∧ Row w w.heap.size m.A2 (ints m.av)
theorem MIn.next {w w' : World} {m : Mo} (h : MIn w m) (hb : Below w.heap.size w w') : MIn w' m := ⟨h.1.next hb, h.2.next hb⟩
structure MFit (m : Mo) : Prop where
 nm : m.nm.size ≤ maxLen
 lp : m.lp.length ≤ maxLen
 av : m.av.length ≤ maxLen
end Go.Proofs.YtoemghiejfkpbaaGreatDoor
/- Contracts of slices.Grow at nil, slices.Clone, slices.Concat of two, at []int. -/
namespace Go.Proofs.YtoemghiejfkpbaaGreatDoor
open Go.RowKit Go.Lib
set_option linter.unusedVariables false
theorem infoInt2 : (Tryz.prog.info? 3).map (fun i => (i.zero, i.size, i.bytes)) = some (some (.int .i64 0), 1, 8) := by kernel_rfl
theorem row_news {w : World} {b o : Nat} {cs : List Value} (h : ∀ j v, cs[j]? = some v → w.cell? ⟨b, o + j, none⟩ = some v) : ∀ j u, cs[j]? = some u → w.cell? ((⟨b, o, none⟩ : Addr).add j) = some u := fun j u hu => by
 have : (⟨b, o, none⟩ : Addr).add j = ⟨b, o + j, none⟩ := by unfold Addr.add; split <;> simp_all
 rw [this]; exact h j u hu
end Go.Proofs.YtoemghiejfkpbaaGreatDoor
/- append of one list of ints to another; slices.Equal at []int; few. -/
namespace Go.Proofs.YtoemghiejfkpbaaGreatDoor
open Go.RowKit Go.Lib
set_option linter.unusedVariables false
theorem wpList_append_any {P : Program} {ops : Array Oper} {rest : List Oper} {o : Oper} {a : Act} {Q : Exit → Act → World → Prop} {w w' : World} (hw : Region.wanted o (yielded ops a.tmps) = true) (s x : Operand) (t u : TypeId)
  (ho : o.op = .call { callee := .builtin .append, args := #[s, x], argTypes := #[t, u] }) (v xv v' : Value) (hs : a.eval s = v) (hx : a.eval x = xv)
  (hr : (Builtin.append_ #[t, u] o.type #[v, xv]).run P w = .ok v' w') (h : wpList P ops Q rest (a.put o.dst v') w') : wpList P ops Q (o :: rest) a w := by
 refine wpList_step fun K hK => ?_
 rw [if_pos hw]
 unfold Oper.wp execOp
 simp only [ho, resolve, invoke, builtin, Sem.run_bind, Sem.run_pure, Result.andThen_ok, List.map_toArray, List.map_cons, List.map_nil, hs, hx, hr]
 exact hK _ _ h
end Go.Proofs.YtoemghiejfkpbaaGreatDoor
