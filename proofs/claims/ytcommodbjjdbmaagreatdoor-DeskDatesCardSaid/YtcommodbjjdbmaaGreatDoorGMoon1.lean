/- Moon1, Slice1, Slice2 -/
import Derived.Lib.SliceRun
import Derived.Lib.AppendZerosOnto
import Derived.Deep.AppendSrc
import Derived.Test.YtcommodbjjdbmaaGreatDoorGSearch1
import Derived.Test.YtcommodbjjdbmaaGreatDoorGPlainMoon
import Derived.Test.YtcommodbjjdbmaaGreatDoorGPlainFrac
import Derived.Test.YtcommodbjjdbmaaGreatDoorGName1
import Derived.Test.YtcommodbjjdbmaaGreatDoorGNumShp
/- Contracts of package lunisolar: increasing, parts, avoided. -/
namespace Go.Proofs.YtcommodbjjdbmaaGreatDoor
open Go.RowKit
set_option linter.unusedVariables false



/-- a moon's rule: its numbers, its lists and where they lie -/
structure Mo where
  nm : ByteArray
  ep : Int
  sn : Int
  sd : Int
  mn : Int
  md : Int
  ln : Int
  ld : Int
  cy : Int
  lp : List Int
  av : List Int
  A1 : Option Addr
  c1 : Nat
  A2 : Option Addr
  c2 : Nat
/-- its cells -/
abbrev Mo.cells (m : Mo) : Array Value := #[.string m.nm, .int .i64 m.ep, .int .i64 m.sn, .int .i64 m.sd, .int .i64 m.mn, .int .i64 m.md, .int .i64 m.ln, .int .i64 m.ld, .int .i64 m.cy, .slice m.A1 m.lp.length m.c1, .slice m.A2 m.av.length m.c2]
abbrev Mo.val (m : Mo) : Value := .agg m.cells
/-- its lists lie in memory -/
def MIn (w : World) (m : Mo) : Prop := Row w w.heap.size m.A1 (ints m.lp) ∧ Row w w.heap.size m.A2 (ints m.av)
theorem MIn.next {w w' : World} {m : Mo} (h : MIn w m) (hb : Below w.heap.size w w') : MIn w' m := ⟨h.1.next hb, h.2.next hb⟩
/-- what memory bears -/
structure MFit (m : Mo) : Prop where
  nm : m.nm.size ≤ maxLen
  lp : m.lp.length ≤ maxLen
  av : m.av.length ≤ maxLen
/-- the parts of a day -/
def Mo.parts (m : Mo) : Int := partsL 1 [m.sd, m.md, m.ld]

theorem avB_iff (av : List Int) (d : Int) (j : Nat) (hj : j < av.length) (h : (d - 1) % 7 = av.getD j 0) : avB av d = true := by
  unfold avB
  exact decide_eq_true (by rw [h]; exact List.getD_eq_getElem?_getD ▸ (by simp [List.getElem?_eq_getElem hj]))
theorem avB_no (av : List Int) (d : Int) (h : ∀ j, j < av.length → (d - 1) % 7 ≠ av.getD j 0) : avB av d = false := by
  unfold avB
  refine decide_eq_false fun hm => ?_
  obtain ⟨i, hi, e⟩ := List.getElem_of_mem hm
  exact h i hi (by rw [← e]; simp [List.getD, List.getElem?_eq_getElem hi])

end Go.Proofs.YtcommodbjjdbmaaGreatDoor

/- Contracts of slices.Grow at nil, slices.Clone, slices.Concat of two, at []int. -/
namespace Go.Proofs.YtcommodbjjdbmaaGreatDoor
open Go.RowKit Go.Lib
set_option linter.unusedVariables false

theorem infoInt2 : (Tryz.prog.info? 3).map (fun i => (i.zero, i.size, i.bytes)) = some (some (.int .i64 0), 1, 8) := by kernel_rfl

theorem row_news {w : World} {b o : Nat} {cs : List Value} (h : ∀ j v, cs[j]? = some v → w.cell? ⟨b, o + j, none⟩ = some v) : ∀ j u, cs[j]? = some u → w.cell? ((⟨b, o, none⟩ : Addr).add j) = some u := fun j u hu => by
  have : (⟨b, o, none⟩ : Addr).add j = ⟨b, o + j, none⟩ := by unfold Addr.add; split <;> simp_all
  rw [this]; exact h j u hu
theorem ints_one (l : List Int) : ∀ u ∈ ints l, u.oneCell' = true := fun u hu => by
  obtain ⟨x, _, rfl⟩ := List.mem_map.1 hu; rfl

end Go.Proofs.YtcommodbjjdbmaaGreatDoor

/- append of one list of ints to another; slices.Equal at []int; few. -/
namespace Go.Proofs.YtcommodbjjdbmaaGreatDoor
open Go.RowKit Go.Lib
set_option linter.unusedVariables false

theorem wpList_append_any {P : Program} {ops : Array Oper} {rest : List Oper} {o : Oper} {a : Act} {Q : Exit → Act → World → Prop} {w w' : World} (hw : Region.wanted o (yielded ops a.tmps) = true) (s x : Operand) (t u : TypeId)
    (ho : o.op = .call { callee := .builtin .append, args := #[s, x], argTypes := #[t, u] }) (v xv v' : Value) (hs : a.eval s = v) (hx : a.eval x = xv)
    (hr : (Builtin.append_ #[t, u] o.type #[v, xv]).run P w = .ok v' w') (h : wpList P ops Q rest (a.put o.dst v') w') : wpList P ops Q (o :: rest) a w := by
  refine wpList_step fun K hK => ?_
  rw [if_pos hw]
  unfold Oper.wp execOp
  simp only [ho, resolve, invoke, builtin, Sem.run_bind, Sem.run_pure, Result.andThen_ok, List.map_toArray, List.map_cons, List.map_nil, hs, hx, hr]
  exact hK _ _ h

theorem grown_refl (w : World) (row : Option Nat) : w.grownBy w row := ⟨rfl, rfl, rfl, Nat.le_refl _, fun _ _ _ => rfl⟩

/-- append(l1, l2...) -/
theorem append_ints {w : World} {base : Nat} {v : Value} {l1 l2 : List Int} {A2 : Option Addr} {B c2 : Nat} (ty : TypeId) (hown : w.ownsRow base 3 1 v l1.length (ints l1)) (hr : Row w B A2 (ints l2)) (h1 : l1.length ≤ 1000000) (h2 : l2.length ≤ 1000000) (hbase : base ≤ w.heap.size) :
    ∃ v' w', (Builtin.append_ #[48, 48] ty #[v, .slice A2 l2.length c2]).run Tryz.prog w = .ok v' w' ∧ w'.ownsRow base 3 1 v' (l1 ++ l2).length (ints (l1 ++ l2)) ∧ w.grownBy w' v.ownBlock := by
  obtain ⟨i0, hi0, hz0, hz1, hz2⟩ := info_parts infoInt2
  rw [List.length_append, show ints (l1 ++ l2) = ints l1 ++ ints l2 from by simp [ints]]
  cases A2 with
  | some a =>
    have hn : ∀ j u, (ints l2)[j]? = some u → w.cell? (a.add j) = some u := by
      rcases hr with h | ⟨b, o, ha, _, hc⟩
      · rw [h]; intro j u hu; simp at hu
      · cases ha
        exact row_news hc
    obtain ⟨v', w', a1, a2, a3, _⟩ := run_append_own (P := Tryz.prog) w base 48 ty 3 i0 (.int .i64 0) 1 8 Tryz.underlying48 hi0 hz0 hz1 hz2 rfl (by decide) v l1.length (ints l1) hown a l2.length c2 (ints l2) (by rw [ints_length]; omega) hn (ints_one l2) (by simp only [maxLen]; omega) (by omega) hbase
    exact ⟨v', w', a1, a2, a3⟩
  | none =>
    have h0 : l2 = [] := by
      rcases hr with h | ⟨b, o, h, _⟩
      · simpa [ints] using h
      · cases h
    subst h0
    refine ⟨v, w, ?_, by simpa [ints] using hown, grown_refl _ _⟩
    rcases hown.2 with ⟨rfl, h0⟩ | ⟨g, cap, cur, rfl, hbg, hg, hnc, _⟩
    · simp [Builtin.append_, run_underlying Tryz.underlying48, sizeOf, typeInfo, hi0, Builtin.lenOf, Builtin.firstCells]
    · have := run_append_room_src (P := Tryz.prog) w 48 48 ty 3 i0 Tryz.underlying48 hi0 g 0 l1.length cap (.slice none 0 c2) 0 [] (Src.ofNil w Tryz.underlying48 c2) (by omega) (fun j hj => by simp at hj) (fun j hj => by simp at hj)
      simpa [World.setCells] using this

end Go.Proofs.YtcommodbjjdbmaaGreatDoor
