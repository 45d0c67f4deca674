/- Moon1, Slice1, Slice2 -/
import Derived.Lib.SliceRun
import Derived.Lib.AppendZerosOnto
import Derived.Deep.AppendSrc
import Derived.Test.YtifhlmakacoicaaDoorGSearch1
import Derived.Test.YtifhlmakacoicaaDoorGPlainMoon
import Derived.Test.YtifhlmakacoicaaDoorGPlainFrac
import Derived.Test.YtifhlmakacoicaaDoorGName1
import Derived.Test.YtifhlmakacoicaaDoorGOwn
/- Contracts of package lunisolar: increasing, parts, avoided. -/
namespace Go.Proofs.YtifhlmakacoicaaDoor
open Go.RowKit
set_option linter.unusedVariables false



/-- a moon's rule: its numbers, its lists and where they lie -/
structure Mo where
  nm : ByteArray
  ep : Int
  sn : Int
  sd : Int
  mn : Int
  md : Int
  ln : Int
  ld : Int
  cy : Int
  lp : List Int
  av : List Int
  A1 : Option Addr
  c1 : Nat
  A2 : Option Addr
  c2 : Nat
/-- its cells -/
abbrev Mo.cells (m : Mo) : Array Value := #[.string m.nm, .int .i64 m.ep, .int .i64 m.sn, .int .i64 m.sd, .int .i64 m.mn, .int .i64 m.md, .int .i64 m.ln, .int .i64 m.ld, .int .i64 m.cy, .slice m.A1 m.lp.length m.c1, .slice m.A2 m.av.length m.c2]
abbrev Mo.val (m : Mo) : Value := .agg m.cells
/-- its lists lie in memory -/
def MIn (w : World) (m : Mo) : Prop := Row w w.heap.size m.A1 (ints m.lp) ∧ Row w w.heap.size m.A2 (ints m.av)
theorem MIn.next {w w' : World} {m : Mo} (h : MIn w m) (hb : Below w.heap.size w w') : MIn w' m := ⟨h.1.next hb, h.2.next hb⟩
/-- what memory bears -/
structure MFit (m : Mo) : Prop where
  nm : m.nm.size ≤ maxLen
  lp : m.lp.length ≤ maxLen
  av : m.av.length ≤ maxLen
/-- the parts of a day -/
def Mo.parts (m : Mo) : Int := partsL 1 [m.sd, m.md, m.ld]

theorem avB_iff (av : List Int) (d : Int) (j : Nat) (hj : j < av.length) (h : (d - 1) % 7 = av.getD j 0) : avB av d = true := by
  unfold avB
  exact decide_eq_true (by rw [h]; exact List.getD_eq_getElem?_getD ▸ (by simp [List.getElem?_eq_getElem hj]))
theorem avB_no (av : List Int) (d : Int) (h : ∀ j, j < av.length → (d - 1) % 7 ≠ av.getD j 0) : avB av d = false := by
  unfold avB
  refine decide_eq_false fun hm => ?_
  obtain ⟨i, hi, e⟩ := List.getElem_of_mem hm
  exact h i hi (by rw [← e]; simp [List.getD, List.getElem?_eq_getElem hi])

end Go.Proofs.YtifhlmakacoicaaDoor

/- Contracts of slices.Grow at nil, slices.Clone, slices.Concat of two, at []int. -/
namespace Go.Proofs.YtifhlmakacoicaaDoor
open Go.RowKit Go.Lib
set_option linter.unusedVariables false

theorem infoInt2 : (Tryd.prog.info? 3).map (fun i => (i.zero, i.size, i.bytes)) = some (some (.int .i64 0), 1, 8) := by kernel_rfl

theorem row_news {w : World} {b o : Nat} {cs : List Value} (h : ∀ j v, cs[j]? = some v → w.cell? ⟨b, o + j, none⟩ = some v) : ∀ j u, cs[j]? = some u → w.cell? ((⟨b, o, none⟩ : Addr).add j) = some u := fun j u hu => by
  have : (⟨b, o, none⟩ : Addr).add j = ⟨b, o + j, none⟩ := by unfold Addr.add; split <;> simp_all
  rw [this]; exact h j u hu
theorem ints_one (l : List Int) : ∀ u ∈ ints l, u.oneCell' = true := fun u hu => by
  obtain ⟨x, _, rfl⟩ := List.mem_map.1 hu; rfl

set_option maxHeartbeats 2000000 in
set_option maxRecDepth 100000 in
/-- Clone of a slice that is not empty -/
theorem clone_ints (A : Option Addr) (c : Nat) (l : List Int) (w : World) (hr : Row w w.heap.size A (ints l)) (h0 : 0 < l.length) (hn : l.length ≤ 1000000) :
    Calls Tryd.prog 28 #[.slice A l.length c] w fun e w' => ∃ v, e = .returned v ∧ w'.ownsRow w.heap.size 3 1 v l.length (ints l) ∧ Below w.heap.size w w' := by
  obtain ⟨i0, hi0, hz0, hz1, hz2⟩ := info_parts infoInt2
  obtain ⟨b, o, rfl, hb, hcs⟩ := hr.open_ (ints_ne l h0)
  have HN := Lib.hid (row_news (w := w.alloc (.cells #[] 3)) (fun j v hv => (World.cell?_alloc_lt w _ ⟨b, o + j, none⟩ hb).trans (hcs j v hv)))
  have HO : Hid ((w.alloc (.cells #[] 3)).ownsRow w.heap.size 3 1 (.slice (some ⟨w.heap.size, 0, none⟩) 0 0) 0 []) := World.ownsRow_made w #[] 0 (Nat.le_refl _) (by unfold maxLen; omega) (by simp)
  have hil := Lib.hid (ints_length l)
  clear hcs hr
  have hnil : ∀ w, (binOp .eql 34 (.slice (some ⟨b, o, none⟩) l.length c) (.slice none 0 0)).run Tryd.prog w = .ok (.bool false) w := fun w => Lib.run_eql_slice_nil w 34 _ _ _ _ _ _ Tryd.underlying34
  go_enter Tryd.func28, Tryd.ntmps28
  go_wp2_with (at_builtin; refine wpList_append_own _ rfl (.tmp 5) (.tmp 6) 34 rfl w.heap.size 3 i0 (.int .i64 0) 1 8 Tryd.underlying34 hi0 hz0 hz1 hz2 rfl (by decide) _ 0 [] rfl HO.out ⟨b, o, none⟩ l.length c (ints l) rfl ?c0 ?c1 ?c2 ?c3 ?c4 ?c5 ?_)
  case c0 => rw [hil.out]; omega
  case c1 => exact HN.out
  case c2 => exact ints_one l
  case c3 => simp only [maxLen]; omega
  case c4 => omega
  case c5 => simp
  intro v' w3 hown' hgrow _
  have hB : Below w.heap.size w w3 := (below_alloc1 w _).grown hgrow (by simp) (fun k hk => by simp [Value.ownBlock] at hk; omega)
  try simp only [Nat.zero_add, List.nil_append] at hown'
  clear hgrow
  go_wp2_with fail
  go_ret
  exact ⟨v', rfl, hown', hB⟩

end Go.Proofs.YtifhlmakacoicaaDoor

/- append of one list of ints to another; slices.Equal at []int; few. -/
namespace Go.Proofs.YtifhlmakacoicaaDoor
open Go.RowKit Go.Lib
set_option linter.unusedVariables false

theorem wpList_append_any {P : Program} {ops : Array Oper} {rest : List Oper} {o : Oper} {a : Act} {Q : Exit → Act → World → Prop} {w w' : World} (hw : Region.wanted o (yielded ops a.tmps) = true) (s x : Operand) (t u : TypeId)
    (ho : o.op = .call { callee := .builtin .append, args := #[s, x], argTypes := #[t, u] }) (v xv v' : Value) (hs : a.eval s = v) (hx : a.eval x = xv)
    (hr : (Builtin.append_ #[t, u] o.type #[v, xv]).run P w = .ok v' w') (h : wpList P ops Q rest (a.put o.dst v') w') : wpList P ops Q (o :: rest) a w := by
  refine wpList_step fun K hK => ?_
  rw [if_pos hw]
  unfold Oper.wp execOp
  simp only [ho, resolve, invoke, builtin, Sem.run_bind, Sem.run_pure, Result.andThen_ok, List.map_toArray, List.map_cons, List.map_nil, hs, hx, hr]
  exact hK _ _ h

theorem grown_refl (w : World) (row : Option Nat) : w.grownBy w row := ⟨rfl, rfl, rfl, Nat.le_refl _, fun _ _ _ => rfl⟩

/-- append(l1, l2...) -/
theorem append_ints {w : World} {base : Nat} {v : Value} {l1 l2 : List Int} {A2 : Option Addr} {B c2 : Nat} (ty : TypeId) (hown : w.ownsRow base 3 1 v l1.length (ints l1)) (hr : Row w B A2 (ints l2)) (h1 : l1.length ≤ 1000000) (h2 : l2.length ≤ 1000000) (hbase : base ≤ w.heap.size) :
    ∃ v' w', (Builtin.append_ #[34, 34] ty #[v, .slice A2 l2.length c2]).run Tryd.prog w = .ok v' w' ∧ w'.ownsRow base 3 1 v' (l1 ++ l2).length (ints (l1 ++ l2)) ∧ w.grownBy w' v.ownBlock := by
  obtain ⟨i0, hi0, hz0, hz1, hz2⟩ := info_parts infoInt2
  rw [List.length_append, show ints (l1 ++ l2) = ints l1 ++ ints l2 from by simp [ints]]
  cases A2 with
  | some a =>
    have hn : ∀ j u, (ints l2)[j]? = some u → w.cell? (a.add j) = some u := by
      rcases hr with h | ⟨b, o, ha, _, hc⟩
      · rw [h]; intro j u hu; simp at hu
      · cases ha
        exact row_news hc
    obtain ⟨v', w', a1, a2, a3, _⟩ := run_append_own (P := Tryd.prog) w base 34 ty 3 i0 (.int .i64 0) 1 8 Tryd.underlying34 hi0 hz0 hz1 hz2 rfl (by decide) v l1.length (ints l1) hown a l2.length c2 (ints l2) (by rw [ints_length]; omega) hn (ints_one l2) (by simp only [maxLen]; omega) (by omega) hbase
    exact ⟨v', w', a1, a2, a3⟩
  | none =>
    have h0 : l2 = [] := by
      rcases hr with h | ⟨b, o, h, _⟩
      · simpa [ints] using h
      · cases h
    subst h0
    refine ⟨v, w, ?_, by simpa [ints] using hown, grown_refl _ _⟩
    rcases hown.2 with ⟨rfl, h0⟩ | ⟨g, cap, cur, rfl, hbg, hg, hnc, _⟩
    · simp [Builtin.append_, run_underlying Tryd.underlying34, sizeOf, typeInfo, hi0, Builtin.lenOf, Builtin.firstCells]
    · have := run_append_room_src (P := Tryd.prog) w 34 34 ty 3 i0 Tryd.underlying34 hi0 g 0 l1.length cap (.slice none 0 c2) 0 [] (Src.ofNil w Tryd.underlying34 c2) (by omega) (fun j hj => by simp at hj) (fun j hj => by simp at hj)
      simpa [World.setCells] using this

end Go.Proofs.YtifhlmakacoicaaDoor
