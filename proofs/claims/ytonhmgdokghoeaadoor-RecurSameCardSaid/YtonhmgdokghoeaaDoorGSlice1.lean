/- Slice1, Slice2 -/
import Derived.Lib.SliceRun
import Derived.Lib.AppendZerosOnto
import Derived.Deep.AppendSrc
import Derived.Test.YtonhmgdokghoeaaDoorGName1
import Derived.Test.YtonhmgdokghoeaaDoorGMoon1
/- Contracts of slices.Grow at nil, slices.Clone, slices.Concat of two, at []int. -/
namespace Go.Proofs.YtonhmgdokghoeaaDoor
open Go.RowKit Go.Lib
set_option linter.unusedVariables false

theorem infoInt2 : (Tryd.prog.info? 3).map (fun i => (i.zero, i.size, i.bytes)) = some (some (.int .i64 0), 1, 8) := by kernel_rfl

theorem row_news {w : World} {b o : Nat} {cs : List Value} (h : ∀ j v, cs[j]? = some v → w.cell? ⟨b, o + j, none⟩ = some v) : ∀ j u, cs[j]? = some u → w.cell? ((⟨b, o, none⟩ : Addr).add j) = some u := fun j u hu => by
  have : (⟨b, o, none⟩ : Addr).add j = ⟨b, o + j, none⟩ := by unfold Addr.add; split <;> simp_all
  rw [this]; exact h j u hu
theorem ints_one (l : List Int) : ∀ u ∈ ints l, u.oneCell' = true := fun u hu => by
  obtain ⟨x, _, rfl⟩ := List.mem_map.1 hu; rfl

set_option maxHeartbeats 2000000 in
set_option maxRecDepth 100000 in
/-- Clone of a slice that is not empty -/
theorem clone_ints (A : Option Addr) (c : Nat) (l : List Int) (w : World) (hr : Row w w.heap.size A (ints l)) (h0 : 0 < l.length) (hn : l.length ≤ 1000000) :
    Calls Tryd.prog 25 #[.slice A l.length c] w fun e w' => ∃ v, e = .returned v ∧ w'.ownsRow w.heap.size 3 1 v l.length (ints l) ∧ Below w.heap.size w w' := by
  obtain ⟨i0, hi0, hz0, hz1, hz2⟩ := info_parts infoInt2
  obtain ⟨b, o, rfl, hb, hcs⟩ := hr.open_ (ints_ne l h0)
  have HN := Lib.hid (row_news (w := w.alloc (.cells #[] 3)) (fun j v hv => (World.cell?_alloc_lt w _ ⟨b, o + j, none⟩ hb).trans (hcs j v hv)))
  have HO : Hid ((w.alloc (.cells #[] 3)).ownsRow w.heap.size 3 1 (.slice (some ⟨w.heap.size, 0, none⟩) 0 0) 0 []) := World.ownsRow_made w #[] 0 (Nat.le_refl _) (by unfold maxLen; omega) (by simp)
  have hil := Lib.hid (ints_length l)
  clear hcs hr
  have hnil : ∀ w, (binOp .eql 22 (.slice (some ⟨b, o, none⟩) l.length c) (.slice none 0 0)).run Tryd.prog w = .ok (.bool false) w := fun w => Lib.run_eql_slice_nil w 22 _ _ _ _ _ _ Tryd.underlying22
  go_enter Tryd.func25, Tryd.ntmps25
  go_wp2_with (at_builtin; refine wpList_append_own _ rfl (.tmp 5) (.tmp 6) 22 rfl w.heap.size 3 i0 (.int .i64 0) 1 8 Tryd.underlying22 hi0 hz0 hz1 hz2 rfl (by decide) _ 0 [] rfl HO.out ⟨b, o, none⟩ l.length c (ints l) rfl ?c0 ?c1 ?c2 ?c3 ?c4 ?c5 ?_)
  case c0 => rw [hil.out]; omega
  case c1 => exact HN.out
  case c2 => exact ints_one l
  case c3 => simp only [maxLen]; omega
  case c4 => omega
  case c5 => simp
  intro v' w3 hown' hgrow _
  have hB : Below w.heap.size w w3 := (below_alloc1 w _).grown hgrow (by simp) (fun k hk => by simp [Value.ownBlock] at hk; omega)
  try simp only [Nat.zero_add, List.nil_append] at hown'
  clear hgrow
  go_wp2_with fail
  go_ret
  exact ⟨v', rfl, hown', hB⟩

end Go.Proofs.YtonhmgdokghoeaaDoor

/- append of one list of ints to another; slices.Equal at []int; few. -/
namespace Go.Proofs.YtonhmgdokghoeaaDoor
open Go.RowKit Go.Lib
set_option linter.unusedVariables false

theorem wpList_append_any {P : Program} {ops : Array Oper} {rest : List Oper} {o : Oper} {a : Act} {Q : Exit → Act → World → Prop} {w w' : World} (hw : Region.wanted o (yielded ops a.tmps) = true) (s x : Operand) (t u : TypeId)
    (ho : o.op = .call { callee := .builtin .append, args := #[s, x], argTypes := #[t, u] }) (v xv v' : Value) (hs : a.eval s = v) (hx : a.eval x = xv)
    (hr : (Builtin.append_ #[t, u] o.type #[v, xv]).run P w = .ok v' w') (h : wpList P ops Q rest (a.put o.dst v') w') : wpList P ops Q (o :: rest) a w := by
  refine wpList_step fun K hK => ?_
  rw [if_pos hw]
  unfold Oper.wp execOp
  simp only [ho, resolve, invoke, builtin, Sem.run_bind, Sem.run_pure, Result.andThen_ok, List.map_toArray, List.map_cons, List.map_nil, hs, hx, hr]
  exact hK _ _ h

theorem grown_refl (w : World) (row : Option Nat) : w.grownBy w row := ⟨rfl, rfl, rfl, Nat.le_refl _, fun _ _ _ => rfl⟩

/-- append(l1, l2...) -/
theorem append_ints {w : World} {base : Nat} {v : Value} {l1 l2 : List Int} {A2 : Option Addr} {B c2 : Nat} (ty : TypeId) (hown : w.ownsRow base 3 1 v l1.length (ints l1)) (hr : Row w B A2 (ints l2)) (h1 : l1.length ≤ 1000000) (h2 : l2.length ≤ 1000000) (hbase : base ≤ w.heap.size) :
    ∃ v' w', (Builtin.append_ #[22, 22] ty #[v, .slice A2 l2.length c2]).run Tryd.prog w = .ok v' w' ∧ w'.ownsRow base 3 1 v' (l1 ++ l2).length (ints (l1 ++ l2)) ∧ w.grownBy w' v.ownBlock := by
  obtain ⟨i0, hi0, hz0, hz1, hz2⟩ := info_parts infoInt2
  rw [List.length_append, show ints (l1 ++ l2) = ints l1 ++ ints l2 from by simp [ints]]
  cases A2 with
  | some a =>
    have hn : ∀ j u, (ints l2)[j]? = some u → w.cell? (a.add j) = some u := by
      rcases hr with h | ⟨b, o, ha, _, hc⟩
      · rw [h]; intro j u hu; simp at hu
      · cases ha
        exact row_news hc
    obtain ⟨v', w', a1, a2, a3, _⟩ := run_append_own (P := Tryd.prog) w base 22 ty 3 i0 (.int .i64 0) 1 8 Tryd.underlying22 hi0 hz0 hz1 hz2 rfl (by decide) v l1.length (ints l1) hown a l2.length c2 (ints l2) (by rw [ints_length]; omega) hn (ints_one l2) (by simp only [maxLen]; omega) (by omega) hbase
    exact ⟨v', w', a1, a2, a3⟩
  | none =>
    have h0 : l2 = [] := by
      rcases hr with h | ⟨b, o, h, _⟩
      · simpa [ints] using h
      · cases h
    subst h0
    refine ⟨v, w, ?_, by simpa [ints] using hown, grown_refl _ _⟩
    rcases hown.2 with ⟨rfl, h0⟩ | ⟨g, cap, cur, rfl, hbg, hg, hnc, _⟩
    · simp [Builtin.append_, run_underlying Tryd.underlying22, sizeOf, typeInfo, hi0, Builtin.lenOf, Builtin.firstCells]
    · have := run_append_room_src (P := Tryd.prog) w 22 22 ty 3 i0 Tryd.underlying22 hi0 g 0 l1.length cap (.slice none 0 c2) 0 [] (Src.ofNil w Tryd.underlying22 c2) (by omega) (fun j hj => by simp at hj) (fun j hj => by simp at hj)
      simpa [World.setCells] using this

set_option maxHeartbeats 1000000 in
set_option maxRecDepth 100000 in
/-- slices.Equal of the same list -/
theorem equal_ints (A A' : Option Addr) (c c' : Nat) (l : List Int) (w : World) (hr : Row w w.heap.size A (ints l)) (hr' : Row w w.heap.size A' (ints l)) (hl : l.length ≤ maxLen) :
    Calls Tryd.prog 7 #[.slice A l.length c, .slice A' l.length c'] w fun e w' => e = .returned (.bool true) ∧ Below w.heap.size w w' := by
  unfold maxLen at hl
  go_enter Tryd.func7, Tryd.ntmps7
  go_wp2_with fail
  go_loopw [5, 13] (fun _ i wr => ∃ k : Nat, k ≤ l.length ∧ i = .int .i64 (k : Int) ∧ Below w.heap.size w wr) (fun _ i _ => l.length - (intOf i).toNat)
  case atStart => exact ⟨0, by omega, rfl, Below.refl _ _⟩
  case round =>
    obtain ⟨k, hk, rfl, hbr⟩ := hrel
    by_cases hlt : k < l.length
    · obtain ⟨b, o, rfl, hb, hcs⟩ := (hr.below hbr).open_ (ints_ne l (by omega))
      obtain ⟨b', o', rfl, hb', hcs'⟩ := (hr'.below hbr).open_ (ints_ne l (by omega))
      have h1 := ints_cell hcs k hlt
      have h2 := ints_cell hcs' k hlt
      have k0 : (0 : Int) ≤ (k : Int) := by omega
      have k1 : (k : Int) < (l.length : Int) := by omega
      clear hcs hcs' hr hr'
      generalize l.getD k 0 = y at *
      have t1 : (y != y) = false := by simp
      go_wp2_with fail
      go_quiet (fail)
      go_wp2_with fail
      go_roundw
      case rel => exact ⟨k + 1, by omega, by go_num, below_drew hbr _⟩
      case measure => simp [intOf]; omega
    · clear hr hr'
      go_wp2_with fail
      go_ret
      exact ⟨rfl, hbr⟩

set_option maxHeartbeats 1000000 in
set_option maxRecDepth 100000 in
/-- a copy of a list -/
theorem few_ints (A : Option Addr) (c : Nat) (l : List Int) (w : World) (hr : Row w w.heap.size A (ints l)) (hl : l.length ≤ 1000000) :
    Calls Tryd.prog 8 #[.slice A l.length c] w fun e w' => ∃ v, e = .returned v ∧ w'.ownsRow w.heap.size 3 1 v l.length (ints l) ∧ Below w.heap.size w w' := by
  have HO : (w.alloc (.cells #[] 3)).ownsRow w.heap.size 3 1 (.slice (some ⟨w.heap.size, 0, none⟩) 0 0) ([] : List Int).length (ints []) := World.ownsRow_made w #[] 0 (Nat.le_refl _) (by unfold maxLen; omega) (by simp)
  obtain ⟨v', w', h1, h2, h3⟩ := append_ints (c2 := c) 22 HO (hr.alloc _) (by simp) hl (by simp)
  have hB : Below w.heap.size w w' := (below_alloc1 w _).grown h3 (by simp) (fun k hk => by simp [Value.ownBlock] at hk; omega)
  have H2 := Lib.hid h2
  clear h2 h3 HO hr
  go_enter Tryd.func8, Tryd.ntmps8
  go_wp2_with (at_builtin; refine wpList_append_any rfl _ _ _ _ rfl _ _ _ rfl rfl h1 ?_)
  go_ret
  exact ⟨v', rfl, H2.out, hB⟩
end Go.Proofs.YtonhmgdokghoeaaDoor
