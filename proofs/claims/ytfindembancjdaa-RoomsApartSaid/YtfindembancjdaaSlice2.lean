/- append of one list of ints to another; slices.Equal at []int; few. -/
import Derived.Test.YtfindembancjdaaSlice1
import Derived.Deep.AppendSrc
namespace Go.Proofs.Ytfindembancjdaa
open Go.RowKit Go.Lib
set_option linter.unusedVariables false

theorem wpList_append_any {P : Program} {ops : Array Oper} {rest : List Oper} {o : Oper} {a : Act} {Q : Exit → Act → World → Prop} {w w' : World} (hw : Region.wanted o (yielded ops a.tmps) = true) (s x : Operand) (t u : TypeId)
    (ho : o.op = .call { callee := .builtin .append, args := #[s, x], argTypes := #[t, u] }) (v xv v' : Value) (hs : a.eval s = v) (hx : a.eval x = xv)
    (hr : (Builtin.append_ #[t, u] o.type #[v, xv]).run P w = .ok v' w') (h : wpList P ops Q rest (a.put o.dst v') w') : wpList P ops Q (o :: rest) a w := by
  refine wpList_step fun K hK => ?_
  rw [if_pos hw]
  unfold Oper.wp execOp
  simp only [ho, resolve, invoke, builtin, Sem.run_bind, Sem.run_pure, Result.andThen_ok, List.map_toArray, List.map_cons, List.map_nil, hs, hx, hr]
  exact hK _ _ h

theorem grown_refl (w : World) (row : Option Nat) : w.grownBy w row := ⟨rfl, rfl, rfl, Nat.le_refl _, fun _ _ _ => rfl⟩

/-- append(l1, l2...) -/
theorem append_ints {w : World} {base : Nat} {v : Value} {l1 l2 : List Int} {A2 : Option Addr} {B c2 : Nat} (ty : TypeId) (hown : w.ownsRow base 3 1 v l1.length (ints l1)) (hr : Row w B A2 (ints l2)) (h1 : l1.length ≤ 1000000) (h2 : l2.length ≤ 1000000) (hbase : base ≤ w.heap.size) :
    ∃ v' w', (Builtin.append_ #[22, 22] ty #[v, .slice A2 l2.length c2]).run Try.prog w = .ok v' w' ∧ w'.ownsRow base 3 1 v' (l1 ++ l2).length (ints (l1 ++ l2)) ∧ w.grownBy w' v.ownBlock := by
  obtain ⟨i0, hi0, hz0, hz1, hz2⟩ := info_parts infoInt2
  rw [List.length_append, show ints (l1 ++ l2) = ints l1 ++ ints l2 from by simp [ints]]
  cases A2 with
  | some a =>
    have hn : ∀ j u, (ints l2)[j]? = some u → w.cell? (a.add j) = some u := by
      rcases hr with h | ⟨b, o, ha, _, hc⟩
      · rw [h]; intro j u hu; simp at hu
      · cases ha
        exact row_news hc
    obtain ⟨v', w', a1, a2, a3, _⟩ := run_append_own (P := Try.prog) w base 22 ty 3 i0 (.int .i64 0) 1 8 Try.underlying22 hi0 hz0 hz1 hz2 rfl (by decide) v l1.length (ints l1) hown a l2.length c2 (ints l2) (by rw [ints_length]; omega) hn (ints_one l2) (by simp only [maxLen]; omega) (by omega) hbase
    exact ⟨v', w', a1, a2, a3⟩
  | none =>
    have h0 : l2 = [] := by
      rcases hr with h | ⟨b, o, h, _⟩
      · simpa [ints] using h
      · cases h
    subst h0
    refine ⟨v, w, ?_, by simpa [ints] using hown, grown_refl _ _⟩
    rcases hown.2 with ⟨rfl, h0⟩ | ⟨g, cap, cur, rfl, hbg, hg, hnc, _⟩
    · simp [Builtin.append_, run_underlying Try.underlying22, sizeOf, typeInfo, hi0, Builtin.lenOf, Builtin.firstCells]
    · have := run_append_room_src (P := Try.prog) w 22 22 ty 3 i0 Try.underlying22 hi0 g 0 l1.length cap (.slice none 0 c2) 0 [] (Src.ofNil w Try.underlying22 c2) (by omega) (fun j hj => by simp at hj) (fun j hj => by simp at hj)
      simpa [World.setCells] using this

set_option maxHeartbeats 1000000 in
set_option maxRecDepth 100000 in
/-- slices.Equal of the same list -/
theorem equal_ints (A A' : Option Addr) (c c' : Nat) (l : List Int) (w : World) (hr : Row w w.heap.size A (ints l)) (hr' : Row w w.heap.size A' (ints l)) (hl : l.length ≤ maxLen) :
    Calls Try.prog 14 #[.slice A l.length c, .slice A' l.length c'] w fun e w' => e = .returned (.bool true) ∧ Below w.heap.size w w' := by
  unfold maxLen at hl
  go_enter Try.func14, Try.ntmps14
  go_wp2_with fail
  go_loopw [5, 13] (fun _ i wr => ∃ k : Nat, k ≤ l.length ∧ i = .int .i64 (k : Int) ∧ Below w.heap.size w wr) (fun _ i _ => l.length - (intOf i).toNat)
  case atStart => exact ⟨0, by omega, rfl, Below.refl _ _⟩
  case round =>
    obtain ⟨k, hk, rfl, hbr⟩ := hrel
    by_cases hlt : k < l.length
    · obtain ⟨b, o, rfl, hb, hcs⟩ := (hr.below hbr).open_ (ints_ne l (by omega))
      obtain ⟨b', o', rfl, hb', hcs'⟩ := (hr'.below hbr).open_ (ints_ne l (by omega))
      have h1 := ints_cell hcs k hlt
      have h2 := ints_cell hcs' k hlt
      have k0 : (0 : Int) ≤ (k : Int) := by omega
      have k1 : (k : Int) < (l.length : Int) := by omega
      clear hcs hcs' hr hr'
      generalize l.getD k 0 = y at *
      have t1 : (y != y) = false := by simp
      go_wp2_with fail
      go_quiet (fail)
      go_wp2_with fail
      go_roundw
      case rel => exact ⟨k + 1, by omega, by go_num, below_drew hbr _⟩
      case measure => simp [intOf]; omega
    · clear hr hr'
      go_wp2_with fail
      go_ret
      exact ⟨rfl, hbr⟩

set_option maxHeartbeats 1000000 in
set_option maxRecDepth 100000 in
/-- a copy of a list -/
theorem few_ints (A : Option Addr) (c : Nat) (l : List Int) (w : World) (hr : Row w w.heap.size A (ints l)) (hl : l.length ≤ 1000000) :
    Calls Try.prog 15 #[.slice A l.length c] w fun e w' => ∃ v, e = .returned v ∧ w'.ownsRow w.heap.size 3 1 v l.length (ints l) ∧ Below w.heap.size w w' := by
  have HO : (w.alloc (.cells #[] 3)).ownsRow w.heap.size 3 1 (.slice (some ⟨w.heap.size, 0, none⟩) 0 0) ([] : List Int).length (ints []) := World.ownsRow_made w #[] 0 (Nat.le_refl _) (by unfold maxLen; omega) (by simp)
  obtain ⟨v', w', h1, h2, h3⟩ := append_ints (c2 := c) 22 HO (hr.alloc _) (by simp) hl (by simp)
  have hB : Below w.heap.size w w' := (below_alloc1 w _).grown h3 (by simp) (fun k hk => by simp [Value.ownBlock] at hk; omega)
  have H2 := Lib.hid h2
  clear h2 h3 HO hr
  go_enter Try.func15, Try.ntmps15
  go_wp2_with (at_builtin; refine wpList_append_any rfl _ _ _ _ rfl _ _ _ rfl rfl h1 ?_)
  go_ret
  exact ⟨v', rfl, H2.out, hB⟩
end Go.Proofs.Ytfindembancjdaa
