/- slices.Delete of the one booking; slices.Clone at bookings. -/
import Derived.Test.YtfindembancjdaaRoom3
import Derived.Test.YtfindembancjdaaSlice1
import Derived.Test.YtfindembancjdaaIns2
import Derived.Test.YtfindembancjdaaFlowG
import Derived.Deep.AppendSrc
namespace Go.Proofs.Ytfindembancjdaa
open Go.RowKit Go.Lib
set_option linter.unusedVariables false

theorem run_append_opR {P : Program} {a : Act} {o : Oper} {w w' : World} (s x : Operand) (t u : TypeId) (ho : o.op = .call { callee := .builtin .append, args := #[s, x], argTypes := #[t, u] }) (v xv v' : Value) (hs : a.eval s = v) (hx : a.eval x = xv)
    (hr : (Builtin.append_ #[t, u] o.type #[v, xv]).run P w = .ok v' w') : (execOp a.eval o).run P w = .ok (.value v') w' := by
  unfold execOp
  simp only [ho, resolve, invoke, builtin, Sem.run_bind, Sem.run_pure, Result.andThen_ok, List.map_toArray, List.map_cons, List.map_nil, hs, hx, hr]
def zBk : Value := .agg #[.string ⟨#[]⟩, .int .i64 0, .int .i64 0, .string ⟨#[]⟩]
def zBks : List Value := [.string ⟨#[]⟩, .int .i64 0, .int .i64 0, .string ⟨#[]⟩]
/-- 'clear' of one booking -/
theorem run_clear_one (w : World) (ty : TypeId) (g c : Nat) (cur : Array Value) (hg : Box w g 55 cur) (hs : 4 ≤ cur.size) :
    (Builtin.clear_ #[49] ty #[.slice (some ⟨g, 0, none⟩) 1 c]).run Try.prog w = .ok (.tuple #[]) (w.setCells g 0 zBks) := by
  obtain ⟨i0, hi0, hz0, hz1, hz2⟩ := info_parts infoBk
  have hst := run_storeCells_cells (P := Try.prog) g 0 zBks 0 w (fun j hj => by
    rw [hg.cell]
    have : j < 4 := hj
    simp
    omega) (fun j hj => hg.free _) (by intro v hv; simp [zBks] at hv; rcases hv with rfl | rfl | rfl | rfl <;> rfl)
  simp only [Nat.add_zero] at hst
  have hzc : Builtin.zeroCells (Value.agg #[.string ⟨#[]⟩, .int .i64 0, .int .i64 0, .string ⟨#[]⟩]).cells 1 = zBks.toArray := by kernel_rfl
  have hv : ∀ w, (zeroValue 55).run Try.prog w = .ok (.agg #[.string ⟨#[]⟩, .int .i64 0, .int .i64 0, .string ⟨#[]⟩]) w := fun w => by simp [zeroValue, typeInfo, hi0, hz0]
  simp [Builtin.clear_, run_underlying Try.underlying49, hv, hzc, hst]
theorem grown_setCell (w : World) (g o : Nat) (u : Value) : w.grownBy (w.setCell ⟨g, o, none⟩ u) (some g) :=
  ⟨rfl, rfl, rfl, by rw [World.size_setCell]; exact Nat.le_refl _, fun k hk hne => Below.heap_setCell w ⟨g, o, none⟩ u k (fun e => hne (by rw [e]))⟩
theorem grown_setCells (g : Nat) : ∀ (xs : List Value) (o : Nat) (w : World) , w.grownBy (w.setCells g o xs) (some g)
  | [], _, w => ⟨rfl, rfl, rfl, Nat.le_refl _, fun _ _ _ => rfl⟩
  | x :: xs, o, w => World.grownBy.trans (grown_setCell w g o x) (grown_setCells g xs (o + 1) _)
theorem box_setCells {t : TypeId} (g : Nat) : ∀ (xs : List Value) (o : Nat) (w : World) (cur : Array Value), Box w g t cur → ∃ cur' : Array Value, cur'.size = cur.size ∧ Box (w.setCells g o xs) g t cur'
  | [], _, w, cur, h => ⟨cur, rfl, h⟩
  | x :: xs, o, w, cur, h => by
    obtain ⟨cur', h1, h2⟩ := box_setCells g xs (o + 1) (w.setCell ⟨g, o, none⟩ x) _ (h.set_ o x)
    exact ⟨cur', by simpa using h1, h2⟩

set_option maxHeartbeats 1000000 in
set_option maxRecDepth 100000 in
theorem delete_one (base g c : Nat) (cur : Array Value) (w : World) (hg : Box w g 55 cur) (hs : cur.size = c * 4) (hc : 1 ≤ c) (hcm : c ≤ maxLen) (hbg : base ≤ g) :
    Calls Try.prog 62 #[.slice (some ⟨g, 0, none⟩) 1 c, .int .i64 0, .int .i64 1] w fun e w' => e = .returned (.slice (some ⟨g, 0, none⟩) 0 c) ∧ w'.ownsRow base 55 4 (.slice (some ⟨g, 0, none⟩) 0 c) 0 [] ∧ w.grownBy w' (some g) := by
  have hcm' := hcm
  unfold maxLen at hcm
  have happ : ∀ W ty A' c', (Builtin.append_ #[49, 49] ty #[.slice (some ⟨g, 0, none⟩) 0 c, .slice A' 0 c']).run Try.prog W = .ok (.slice (some ⟨g, 0, none⟩) 0 c) W := fun W ty A' c' => by
    obtain ⟨i0, hi0, hz0, hz1, hz2⟩ := info_parts infoBk
    cases A' with
    | some A' =>
      have := run_append_room_src (P := Try.prog) W 49 49 ty 55 i0 Try.underlying49 hi0 g 0 0 c (.slice (some A') 0 c') 0 [] (Src.ofSlice W Try.underlying49 A' 0 c' [] (by simp) (fun j u h => by simp at h) (fun u h => by cases h)) (by omega) (fun j hj => by simp at hj) (fun j hj => by simp at hj)
      exact this
    | none =>
      have := run_append_room_src (P := Try.prog) W 49 49 ty 55 i0 Try.underlying49 hi0 g 0 0 c (.slice none 0 c') 0 [] (Src.ofNil W Try.underlying49 c') (by omega) (fun j hj => by simp at hj) (fun j hj => by simp at hj)
      exact this
  have HCL : Hid (∀ W, Box W g 55 cur → ∀ ty, (Builtin.clear_ #[49] ty #[.slice (some ⟨g, 0, none⟩) 1 c]).run Try.prog W = .ok (.tuple #[]) (W.setCells g 0 zBks)) := fun W h ty => run_clear_one W ty g c cur h (by omega)
  have HG := Lib.hid hg
  have HS := Lib.hid hs
  have HM := Lib.hid hcm'
  clear hg hs hcm'
  go_enter Try.func62, Try.ntmps62
  go_wp2_with fail
  have HAP := Lib.hid happ
  clear happ
  have c0 : (1 : Int) ≤ (c : Int) := by omega
  refine flow_begin (tellOf []) (by kernel_rfl) (by kernel_rfl) ?_
  repeat (first | (refine flow_val (v := ?_) (by rfl) (by rfl) (fun w hb => ?_) ?_; rotate_left; (· ((go_simp) <;> ((repeat' apply And.intro) <;> with_reducible rfl))); try simp only [Act.put, List.setIfInBounds_toArray, List.set_cons_zero, List.set_cons_succ, Nat.reduceAdd]) | (refine flow_skip (by rfl) (by rfl) ?_; try simp only [Act.put, List.setIfInBounds_toArray, List.set_cons_zero, List.set_cons_succ, Nat.reduceAdd]))
  generalize (if c = 1 then (some ⟨g, 0, none⟩ : Option Addr) else some ⟨g, 4, none⟩) = A' at *
  refine flow_val (v := .slice (some ⟨g, 0, none⟩) 0 c) (by rfl) (by rfl) (fun w hb => run_append_opR _ _ _ _ rfl _ _ _ rfl rfl (HAP.out w _ A' (c - 1))) ?_
  try simp only [Act.put, List.setIfInBounds_toArray, Nat.reduceAdd]
  repeat (first | (refine flow_val (v := ?_) (by rfl) (by rfl) (fun w hb => ?_) ?_; rotate_left; (· ((go_simp) <;> ((repeat' apply And.intro) <;> with_reducible rfl))); try simp only [Act.put, List.setIfInBounds_toArray, List.set_cons_zero, List.set_cons_succ, Nat.reduceAdd]) | (refine flow_skip (by rfl) (by rfl) ?_; try simp only [Act.put, List.setIfInBounds_toArray, List.set_cons_zero, List.set_cons_succ, Nat.reduceAdd]))
  refine flow_nil fun w1 hb1 hf => ?_
  have HG1 := Lib.hid (HG.out.below hb1)
  have HB1 := Lib.hid (grown_bel (row := some g) hb1)
  have hcl := HCL.out w1 HG1.out
  obtain ⟨cur', hs', hx'⟩ := box_setCells g zBks 0 w1 cur HG1.out
  have HX' := Lib.hid hx'
  have HGR := Lib.hid (World.grownBy.trans HB1.out (grown_setCells g zBks 0 w1))
  have HS' := Lib.hid hs'
  clear hf hb1 hx' hs'
  generalize w1.setCells g 0 zBks = w2 at *
  go_wp2_with fail
  go_ret
  exact ⟨rfl, ⟨rfl, .inr ⟨g, c, cur', rfl, hbg, HX'.out, by omega, HM.out, by rw [HS'.out]; exact HS.out, by simp⟩⟩, HGR.out⟩

set_option maxHeartbeats 2000000 in
set_option maxRecDepth 100000 in
/-- Clone of a row of one's own -/
theorem clone_bks (base : Nat) (v : Value) (l : List Bk) (w : World) (hown : w.ownsRow base 55 4 v l.length (l.flatMap bkF)) (hn : l.length ≤ 1000000) :
    Calls Try.prog 63 #[v] w fun e w' => ∃ A c, e = .returned (.slice A l.length c) ∧ Row w' w'.heap.size A (l.flatMap bkF) ∧ Below w.heap.size w w' := by
  obtain ⟨i0, hi0, hz0, hz1, hz2⟩ := info_parts infoBk
  rcases hown.2 with ⟨hv, h0⟩ | ⟨g, cap, cur, hv, hbg, hg, hnc, hcm, hcs, htake⟩
  · subst hv
    have hl : l = [] := List.eq_nil_of_length_eq_zero h0
    subst hl
    have hnil : ∀ w, (binOp .eql 49 (.slice none 0 0) (.slice none 0 0)).run Try.prog w = .ok (.bool true) w := fun w => Lib.run_eql_slice_nil w 49 _ _ _ _ _ _ Try.underlying49
    clear hown
    go_enter Try.func63, Try.ntmps63
    go_wp2_with fail
    go_ret
    exact ⟨none, 0, rfl, .inl rfl, Below.refl _ _⟩
  · subst hv
    have hrow := row_ownB hown
    have hcell : ∀ j v, (l.flatMap bkF)[j]? = some v → w.cell? ⟨g, 0 + j, none⟩ = some v := by
      rcases hrow with he | ⟨b, o, hA, hb, hcs'⟩
      · intro j v hv; rw [he] at hv; simp at hv
      · have hA' : (⟨g, 0, none⟩ : Addr) = ⟨b, o, none⟩ := Option.some.inj hA
        injection hA' with e1 e2
        subst e1 e2
        exact hcs'
    have hglt : g < w.heap.size := (own_lt hown g rfl).2
    have HN := Lib.hid (row_news (w := w.alloc (.cells #[] 55)) (fun j v hv => (World.cell?_alloc_lt w _ ⟨g, 0 + j, none⟩ hglt).trans (hcell j v hv)))
    have HO : Hid ((w.alloc (.cells #[] 55)).ownsRow w.heap.size 55 4 (.slice (some ⟨w.heap.size, 0, none⟩) 0 0) 0 []) := World.ownsRow_made w #[] 0 (Nat.le_refl _) (by unfold maxLen; omega) (by simp)
    have hil := Lib.hid (flat_length bkF_len l)
    have hnil : ∀ w, (binOp .eql 49 (.slice (some ⟨g, 0, none⟩) l.length cap) (.slice none 0 0)).run Try.prog w = .ok (.bool false) w := fun w => Lib.run_eql_slice_nil w 49 _ _ _ _ _ _ Try.underlying49
    clear hown hg hcs htake hrow hcell
    go_enter Try.func63, Try.ntmps63
    go_wp2_with (at_builtin; refine wpList_append_own _ rfl (.tmp 5) (.tmp 6) 49 rfl w.heap.size 55 i0 (.agg #[.string ⟨#[]⟩, .int .i64 0, .int .i64 0, .string ⟨#[]⟩]) 4 48 Try.underlying49 hi0 hz0 hz1 hz2 rfl (by decide) _ 0 [] rfl HO.out ⟨g, 0, none⟩ l.length cap (l.flatMap bkF) rfl ?c0 ?c1 ?c2 ?c3 ?c4 ?c5 ?_)
    case c0 => rw [hil.out]
    case c1 => exact HN.out
    case c2 => exact bks_one l
    case c3 => simp only [maxLen]; omega
    case c4 => omega
    case c5 => simp
    intro v' w3 hown' hgrow _
    have hB : Below w.heap.size w w3 := (below_alloc1 w _).grown hgrow (by simp) (fun k hk => by simp [Value.ownBlock] at hk; omega)
    try simp only [Nat.zero_add, List.nil_append] at hown'
    obtain ⟨A', c', hv', _, _⟩ := own_form hown'
    subst hv'
    have HRW := Lib.hid (row_ownB hown')
    clear hgrow hown'
    go_wp2_with fail
    go_ret
    exact ⟨A', c', rfl, HRW.out, hB⟩
end Go.Proofs.Ytfindembancjdaa
