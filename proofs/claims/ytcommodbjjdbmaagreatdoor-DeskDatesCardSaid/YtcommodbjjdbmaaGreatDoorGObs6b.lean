/- Obs6b -/
import Derived.Test.YtcommodbjjdbmaaGreatDoorGFlow
import Derived.Test.YtcommodbjjdbmaaGreatDoorGMoon1
/- An append to a row of the call's own, as the one writer of a region. -/
namespace Go.Proofs.YtcommodbjjdbmaaGreatDoor
open Go.RowKit Go.Lib
set_option linter.unusedVariables false

/-- blocks of integers may get a new cell number n; all else is as it was -/
structure OnlyAt (B n : Nat) (w w' : World) : Prop where
  be : Below B w w'
  sz : w.heap.size ≤ w'.heap.size
  bl : ∀ b, b < w.heap.size → w'.heap[b]? = w.heap[b]? ∨ ∃ cs x, w.heap[b]? = some (.cells cs 3 (0, 0)) ∧ w'.heap[b]? = some (.cells (cs.setIfInBounds n x) 3 (0, 0)) ∧ n < cs.size
section
variable {B n : Nat} {w w' : World}
theorem OnlyAt.box (h : OnlyAt B n w w') {g : Nat} {t : TypeId} {cs : Array Value} (hx : Box w g t cs) (hn : t ≠ 3 ∨ cs.size ≤ n) : Box w' g t cs := by
  rcases h.bl g hx.lt with e | ⟨cs', x, e1, e2, e3⟩
  · exact e.trans hx
  · have := hx.symm.trans e1
    simp at this
    rcases hn with hn | hn
    · exact absurd this.2 hn
    · rw [this.1] at hn; omega
theorem OnlyAt.own (h : OnlyAt B n w w') {base m : Nat} {v : Value} {xs : List Value} (ho : w.ownsRow base 3 1 v m xs) (hm : m ≤ n) : w'.ownsRow base 3 1 v m xs := by
  refine ⟨ho.1, ?_⟩
  rcases ho.2 with hn | ⟨g, cap, cur, hv, hbb, hg, h1, h2, h3, h4⟩
  · exact .inl hn
  · have hlt : g < w.heap.size := by
      rcases Nat.lt_or_ge g w.heap.size with h' | h'
      · exact h'
      · simp [Array.getElem?_eq_none h'] at hg
    rcases h.bl g hlt with e | ⟨cs', x, e1, e2, e3⟩
    · exact .inr ⟨g, cap, cur, hv, hbb, e.trans hg, h1, h2, h3, h4⟩
    · have := hg.symm.trans e1
      simp at this
      subst this
      refine .inr ⟨g, cap, cur.setIfInBounds n x, hv, hbb, e2, h1, h2, by simpa using h3, ?_⟩
      rw [← h4]
      simp only [Array.toList_setIfInBounds, Nat.mul_one]
      rw [List.take_set_of_le hm]
end
theorem onlyAt_of_below {B n : Nat} {w w' : World} (hB : B ≤ w.heap.size) (h : Below w.heap.size w w') : OnlyAt B n w w' := ⟨h.mono hB, h.size, fun b hb => .inl (h.block b hb)⟩

/-- one more at the end of a row of one's own -/
theorem append_one {w : World} {base : Nat} {v : Value} {ms : List Int} {x : Int} {gx : Nat} (ty : TypeId) (hown : w.ownsRow base 3 1 v ms.length (ints ms)) (hx : Box w gx 3 #[.int .i64 x]) (h1 : ms.length ≤ 1000000) (hbase : base ≤ w.heap.size) :
    ∃ v' w', (Builtin.append_ #[48, 48] ty #[v, .slice (some ⟨gx, 0, none⟩) 1 1]).run Tryz.prog w = .ok v' w' ∧ w'.ownsRow base 3 1 v' (ms.length + 1) (ints ms ++ [.int .i64 x]) ∧ OnlyAt base ms.length w w' := by
  obtain ⟨i0, hi0, hz0, hz1, hz2⟩ := info_parts infoInt2
  have hn : ∀ j u, [Value.int .i64 x][j]? = some u → w.cell? ((⟨gx, 0, none⟩ : Addr).add j) = some u := World.news_of_block (cs := #[.int .i64 x]) hx
  have ho : ∀ u ∈ [Value.int .i64 x], u.oneCell' = true := fun u hu => by simp at hu; subst hu; rfl
  obtain ⟨v', w', a1, a2, a3, _⟩ := run_append_own (P := Tryz.prog) w base 48 ty 3 i0 (.int .i64 0) 1 8 Tryz.underlying48 hi0 hz0 hz1 hz2 rfl (by decide) v ms.length (ints ms) hown ⟨gx, 0, none⟩ 1 1 [.int .i64 x] rfl hn ho (by simp only [maxLen]; omega) (by omega) hbase
  refine ⟨v', w', a1, a2, ?_⟩
  have hS : Src Tryz.prog i0.size 48 (.slice (some ⟨gx, 0, none⟩) 1 1) 1 [.int .i64 x] w := Src.ofSlice w Tryz.underlying48 ⟨gx, 0, none⟩ 1 1 [.int .i64 x] (by rw [hz1]; rfl) hn ho
  rcases hown.2 with ⟨rfl, h0⟩ | ⟨g, cap, cur, rfl, hbg, hg, hnc, hcm, hcs, htake⟩
  · have hB : w.grownBy w' none := a3
    exact onlyAt_of_below hbase ⟨hB.os, hB.tape, hB.output, hB.size, fun b hb => hB.block b hb (by simp)⟩
  · rcases Nat.lt_or_ge ms.length cap with hlt | hge
    · have hcur : Box w g 3 cur := hg
      have hrun := run_append_room_src (P := Tryz.prog) w 48 48 ty 3 i0 Tryz.underlying48 hi0 g 0 ms.length cap _ 1 [.int .i64 x] hS (by omega)
        (fun j hj => by
          have : j = 0 := by simpa using hj
          subst this
          have := hcur.cell (0 + ms.length * i0.size + 0)
          rw [this, hz1]
          simp
          omega) (fun j hj => hcur.free _)
      rw [a1] at hrun
      simp only [World.setCells, hz1, Nat.mul_one, Nat.zero_add] at hrun
      obtain ⟨rfl, rfl⟩ : v' = _ ∧ w' = _ := by simpa using hrun
      refine ⟨(Below.refl _ _).setCell (p := ⟨g, ms.length, none⟩) hbg _, by simp, fun b hb => ?_⟩
      by_cases e : b = g
      · subst e
        exact .inr ⟨cur, .int .i64 x, hcur, hcur.set_ ms.length _, by omega⟩
      · exact .inl (Below.heap_setCell _ _ _ b e)
    · obtain rfl : cap = ms.length := by omega
      have hcc : ∀ j u, (ints ms)[j]? = some u → w.drew.cell? ⟨g, 0 + j, none⟩ = some u := fun j u hu => by
        have hb : Box w g 3 cur := hg
        have := hb.cell (0 + j)
        rw [show w.drew.cell? ⟨g, 0 + j, none⟩ = w.cell? ⟨g, 0 + j, none⟩ from rfl, this]
        rw [← htake] at hu
        simp [List.getElem?_take] at hu
        rw [Nat.zero_add]
        simpa using hu.2
      have hrun := run_append_grow_src (P := Tryz.prog) w 48 48 ty 3 i0 (.int .i64 0) Tryz.underlying48 hi0 hz0 (some ⟨g, 0, none⟩) ms.length ms.length (ints ms)
        (run_firstCells_some w.drew i0.size ms.length ⟨g, 0, none⟩ ms.length ms.length (ints ms) (by rw [hz1, ints_length]; omega) (row_news hcc)) _ 1 [.int .i64 x] hS (by omega) (by omega) (growslice_fits (by omega) (by rw [hz2]; omega))
      rw [a1] at hrun
      obtain ⟨rfl, rfl⟩ : v' = _ ∧ w' = _ := by simpa using hrun
      exact onlyAt_of_below hbase ((below_drew (Below.refl _ _) 1).alloc (Nat.le_refl _) _)

/-- a row of integers of one's own -/
def toldRow (base n : Nat) (xs : List Value) : Told := ⟨fun v => ∃ A c, v = .slice A n c, fun v w => w.ownsRow base 3 1 v n xs⟩
section
variable {P : Program} {ops : Array Oper} {S : Nat → Option (World → World → Prop)} {w0 : World} {R : Nat → Option Told} {E : Act → World → Prop} {o : Oper} {rest : List Oper} {k : Nat} {a : Act} {L : List Fact}
theorem flowW_row {base n : Nat} {xs : List Value} {f : FuncId} {args : Array Value} (use : List Nat) (hu : pastB ops k use = true) (hK : ∀ A c, Keeps ops S k (fun w => w.ownsRow base 3 1 (.slice A n c) n xs)) (hS : S k = none) (hR : R k = some (toldRow base n xs)) (hw : Region.wanted o (yielded ops a.tmps) = true)
    (h : ∀ w, Below w0.heap.size w0 w → (execOp a.eval o).run P w = .ok (.enter f args) w)
    (hc : ∀ w, Below w0.heap.size w0 w → usef use L w → Calls P f args w fun e w' => ∃ v, e = .returned v ∧ w'.ownsRow base 3 1 v n xs ∧ Below w.heap.size w w')
    (hr : ∀ A c, FlowW P ops S w0 R E rest (k + 1) (a.put o.dst (.slice A n c)) ((k, fun w => w.ownsRow base 3 1 (.slice A n c) n xs) :: L)) : FlowW P ops S w0 R E (o :: rest) k a L := by
  refine flowW_told (t := toldRow base n xs) use hu (fun v j T hT hne hp w w' hw hF => ?_) hS hR hw ⟨_, none, 0, rfl⟩ (fun v w w' hb hF => own_next hF hb) h (fun w hb hl => (hc w hb hl).mono fun e w' ⟨v, he, ho, hb'⟩ => ⟨v, he, ?_, ho, hb'⟩) fun v hv => ?_
  · obtain ⟨A, c, rfl, _⟩ := own_form hF
    exact hK A c j T hT hne hp w w' hw hF
  · obtain ⟨A, c, rfl, _⟩ := own_form ho
    exact ⟨A, c, rfl⟩
  · obtain ⟨A, c, rfl⟩ := hv
    exact hr A c
theorem flowW_wrow {base n : Nat} {xs : List Value} {T : World → World → Prop} (use : List Nat) (hu : pastB ops k use = true) (hK : ∀ A c, Keeps ops S k (fun w => w.ownsRow base 3 1 (.slice A n c) n xs)) (hS : S k = some T) (hR : R k = none) (hw : Region.wanted o (yielded ops a.tmps) = true)
    (h : ∀ w, Below w0.heap.size w0 w → usef use L w → ∃ v w', (execOp a.eval o).run P w = .ok (.value v) w' ∧ w'.ownsRow base 3 1 v n xs ∧ T w w')
    (hr : ∀ A c, FlowW P ops S w0 R E rest (k + 1) (a.put o.dst (.slice A n c)) ((k, fun w => w.ownsRow base 3 1 (.slice A n c) n xs) :: L)) : FlowW P ops S w0 R E (o :: rest) k a L := by
  refine flowW_write (t := toldRow base n xs) use hu (fun v j T hT hne hp w w' hw hF => ?_) hS hR hw ⟨_, none, 0, rfl⟩ (fun v w w' hb hF => own_next hF hb) (fun w hb hl => ?_) fun v hv => ?_
  · obtain ⟨A, c, rfl, _⟩ := own_form hF
    exact hK A c j T hT hne hp w w' hw hF
  · obtain ⟨v, w', h1, h2, h3⟩ := h w hb hl
    obtain ⟨A, c, rfl, _⟩ := own_form h2
    exact ⟨_, w', h1, ⟨A, c, rfl⟩, h2, h3⟩
  · obtain ⟨A, c, rfl⟩ := hv
    exact hr A c
/-- an append, run -/
theorem run_append_op {a : Act} {o : Oper} {w w' : World} (s x : Operand) (t u : TypeId) (ho : o.op = .call { callee := .builtin .append, args := #[s, x], argTypes := #[t, u] }) (v xv v' : Value) (hs : a.eval s = v) (hx : a.eval x = xv)
    (hr : (Builtin.append_ #[t, u] o.type #[v, xv]).run P w = .ok v' w') : (execOp a.eval o).run P w = .ok (.value v') w' := by
  unfold execOp
  simp only [ho, resolve, invoke, builtin, Sem.run_bind, Sem.run_pure, Result.andThen_ok, List.map_toArray, List.map_cons, List.map_nil, hs, hx, hr]
end
end Go.Proofs.YtcommodbjjdbmaaGreatDoor
