/- Contracts of package rule: leaf. -/
import Derived.Test.YtbmbphikjainiaaDoorLex3
import Derived.Test.YtbmbphikjainiaaDoorReMem
namespace Go.Proofs.YtbmbphikjainiaaDoor
open Go.RowKit
set_option linter.unusedVariables false

/-- an expression has been read -/
def ExprQ (g : Nat) (S : ByteArray) (op : Int) (t : RE) (ts : List Tok) (w : World) (e : Ending) (w' : World) : Prop :=
  ∃ t' : RE, Same t' t ∧ e = .returned (.tuple #[reV t', .bool true]) ∧ ReAt w' (fun b => w.heap.size ≤ b) w'.heap.size t' ∧ Reads w' g S op ts ∧ w.grownBy w' (some g)
/-- the reader, and the tables -/
structure RdOk (w : World) (g : Nat) (S : ByteArray) (op : Int) (ts : List Tok) : Prop where
  rd : Reads w g S op ts
  sg : Sgs w
  lv : Lvs w
  g1 : g ≠ 1
  g2 : g ≠ 0
theorem Sgs.grown {w w' : World} {g : Nat} (h : Sgs w) (hg : w.grownBy w' (some g)) (h1 : g ≠ 1) : Sgs w' := fun k hk => (cell_heap (hg.block _ (block_lt_of_cell (h k hk)) (by simp; exact fun e => h1 e.symm))).trans (h k hk)
theorem Lvs.grown {w w' : World} {g : Nat} (h : Lvs w) (hg : w.grownBy w' (some g)) (h1 : g ≠ 0) : Lvs w' := fun k hk => (cell_heap (hg.block _ (block_lt_of_cell (h k hk)) (by simp; exact fun e => h1 e.symm))).trans (h k hk)
theorem RdOk.next {w w' : World} {g : Nat} {S : ByteArray} {op : Int} {ts : List Tok} (h : RdOk w g S op ts) (hb : Below w.heap.size w w') : RdOk w' g S op ts := ⟨h.rd.next hb, h.sg.next hb, h.lv.next hb, h.g1, h.g2⟩
theorem RdOk.go {w w' : World} {g : Nat} {S : ByteArray} {op op' : Int} {ts ts' : List Tok} (h : RdOk w g S op ts) (hg : w.grownBy w' (some g)) (hr : Reads w' g S op' ts') : RdOk w' g S op' ts' := ⟨hr, h.sg.grown hg h.g1, h.lv.grown hg h.g2, h.g1, h.g2⟩
theorem RdOk.set_ {w : World} {g : Nat} {S : ByteArray} {op : Int} {ts : List Tok} (h : RdOk w g S op ts) (b i : Nat) (v : Value) (h0 : b ≠ g) (h1 : b ≠ 1) (h2 : b ≠ 0) : RdOk (w.setCell ⟨b, i, none⟩ v) g S op ts := by
  obtain ⟨a, n, hx, hl⟩ := h.rd
  refine ⟨⟨a, n, Box.far hx (fun e => h0 e.symm) v, hl⟩, fun k hk => ?_, fun k hk => ?_, h.g1, h.g2⟩
  · exact (cell_heap (Below.heap_setCell _ _ _ _ (fun e => h1 (show b = _ from e.symm)))).trans (h.sg k hk)
  · exact (cell_heap (Below.heap_setCell _ _ _ _ (fun e => h2 (show b = _ from e.symm)))).trans (h.lv k hk)
theorem RdOk.tab {w : World} {g : Nat} {S : ByteArray} {op : Int} {ts : List Tok} (h : RdOk w g S op ts) : 1 < w.heap.size ∧ 0 < w.heap.size := ⟨block_lt_of_cell (h.sg 0 (by omega)), block_lt_of_cell (h.lv 0 (by omega))⟩
/-- reading from level L on; level 7 is leaf -/
def ExprC (L : Nat) (g : Nat) (S : ByteArray) (op : Int) (t : RE) (ts : List Tok) (w : World) : Prop :=
  if L = 7 then Calls Tryd.prog 50 #[.pointer (some ⟨g, 0, none⟩)] w (ExprQ g S op t ts w)
  else Calls Tryd.prog 33 #[.pointer (some ⟨g, 0, none⟩), .int .i64 (L : Int)] w (ExprQ g S op t ts w)
/-- shorter texts, and stronger levels, are read -/
def IHyp (g : Nat) (S : ByteArray) (m : Nat) : Prop := ∀ L t op ts w, 8 * (prT L t).length + (7 - L) < m → L ≤ 7 → ReOk t → 0 ≤ op → op + (nd L t : Int) ≤ 12 → Good L ts → RdOk w g S op (prT L t ++ ts) → ExprC L g S op t ts w

theorem rd_op {w : World} {g : Nat} {S : ByteArray} {op : Int} {ts : List Tok} (h : Reads w g S op ts) : w.cell? ⟨g, 3, none⟩ = some (.int .i64 op) ∧ w.frozen? ⟨g, 3, none⟩ = false := by
  obtain ⟨a, n, h, _⟩ := h
  exact ⟨Box.cell h 3, Box.free h 3⟩
theorem rd_setop {w : World} {g : Nat} {S : ByteArray} {op : Int} {ts : List Tok} (h : Reads w g S op ts) (op' : Int) : Reads (w.setCell ⟨g, 3, none⟩ (.int .i64 op')) g S op' ts := by
  obtain ⟨a, n, h, h2⟩ := h
  exact ⟨a, n, Box.set_ h 3 _, h2⟩
abbrev zeroRE : Array Value := #[.int .i64 0, .int .i64 0, .slice none 0 0]
theorem grown_setnew {w w1 : World} {row : Option Nat} (h : w.grownBy w1 row) (g4 i : Nat) (v : Value) (hg : w.heap.size ≤ g4) : w.grownBy (w1.setCell ⟨g4, i, none⟩ v) row :=
  ⟨h.os, h.tape, h.output, by simpa using h.size, fun k hk hne => (Below.heap_setCell _ _ _ k (show k ≠ g4 by omega)).trans (h.block k hk hne)⟩
theorem reads_set {w : World} {g : Nat} {S : ByteArray} {op : Int} {ts : List Tok} (h : Reads w g S op ts) (b i : Nat) (v : Value) (h0 : b ≠ g) : Reads (w.setCell ⟨b, i, none⟩ v) g S op ts := by
  obtain ⟨a, n, hx, hl⟩ := h
  exact ⟨a, n, Box.far hx (fun e => h0 e.symm) v, hl⟩
/-- three cells are written -/
abbrev set3 (w : World) (g4 : Nat) (k n : Int) (s : Value) : World := ((w.setCell ⟨g4, 0, none⟩ (.int .i64 k)).setCell ⟨g4, 1, none⟩ (.int .i64 n)).setCell ⟨g4, 2, none⟩ s
theorem expr_done {g : Nat} {S : ByteArray} {op : Int} {t : RE} {ts : List Tok} {w w1 : World} {g4 : Nat} {k n : Int} {A : Option Addr} {c : Nat} {ks : List RE} (hg4 : w.heap.size = g4) (hgg : g < g4) (hr : Reads w1 g S op ts) (hg : w.grownBy w1 (some g)) (hs : Same (.node k n A c ks) t)
    (ha : ReAt w1 (fun b => g4 < b) w1.heap.size (.node k n A c ks)) : ExprQ g S op t ts w (.returned (.tuple #[.agg #[.int .i64 k, .int .i64 n, .slice A ks.length c], .bool true])) (set3 w1 g4 k n (.slice A ks.length c)) := by
  refine ⟨_, hs, rfl, ?_, ?_, ?_⟩
  · have h1 := ha.set_ g4 0 (.int .i64 k) (by omega)
    have h2 := h1.set_ g4 1 (.int .i64 n) (by omega)
    have h3 := h2.set_ g4 2 (.slice A ks.length c) (by omega)
    exact h3.more fun b hb _ => by omega
  · exact reads_set (reads_set (reads_set hr g4 0 _ (by omega)) g4 1 _ (by omega)) g4 2 _ (by omega)
  · exact grown_setnew (grown_setnew (grown_setnew hg g4 0 _ (by omega)) g4 1 _ (by omega)) g4 2 _ (by omega)
set_option maxHeartbeats 2000000 in
set_option maxRecDepth 100000 in
theorem leaf_year (g : Nat) (S : ByteArray) (op : Int) (A : Option Addr) (c : Nat) (ts : List Tok) (w : World) (hS : S.size ≤ 5000) (h : RdOk w g S op ([121] :: ts)) :
    Calls Tryd.prog 50 #[.pointer (some ⟨g, 0, none⟩)] w (ExprQ g S op (.node 2 0 A c []) ts w) := by
  have HB0 := Lib.hid (below_alloc1 w (Obj.cells zeroRE 24))
  have HX0 := Lib.hid (Box.new w 24 zeroRE)
  have HT := Lib.hid (take_yes g S op [121] ts _ (h.next HB0.out).rd hS)
  have hgl := h.rd.lt
  unfold TakeQ at HT
  clear h
  go_enter Tryd.func50, Tryd.ntmps50
  go_wp2_with fail
  refine HT.out.mono ?_
  rintro e w1 ⟨rfl, hr, hg⟩
  generalize hg4 : w.heap.size = g4 at *
  have HG4 := Lib.hid hg4
  clear hg4
  have hx1 := HX0.out.grown hg (by simp; omega)
  have HR := Lib.hid hr
  have HG : Hid (w.grownBy w1 (some g)) := World.grownBy.trans (grown_bel (by rw [HG4.out]; exact HB0.out)) hg
  have r0 : w1.cell? ⟨g4, 0, none⟩ = some (.int .i64 0) := hx1.cell 0
  have r1 : w1.cell? ⟨g4, 1, none⟩ = some (.int .i64 0) := hx1.cell 1
  have r2 : w1.cell? ⟨g4, 2, none⟩ = some (.slice none 0 0) := hx1.cell 2
  have rf : ∀ i, w1.frozen? ⟨g4, i, none⟩ = false := fun i => hx1.free i
  have rl : g4 < w1.heap.size := hx1.lt
  clear hr hg hx1 HX0 HB0 HT
  go_wp2_with fail
  refine bodyPost_ret (v := .tuple #[.agg #[.int .i64 2, .int .i64 0, .slice none 0 0], .bool true]) (by simp [results, Tryd.results50, go_sem, r0, r1, r2]) rfl ?_
  exact expr_done (ks := []) HG4.out hgl HR.out HG.out (same_node 2 0 none A 0 c [] [] rfl) (ReAt.leaf _ _ _ 2 0 0 (by unfold I64; omega) (by unfold I64; omega))

set_option maxHeartbeats 2000000 in
set_option maxRecDepth 100000 in
theorem leaf_num (g : Nat) (S : ByteArray) (op : Int) (n : Int) (A : Option Addr) (c : Nat) (ts : List Tok) (w : World) (hS : S.size ≤ 5000) (h1 : 0 ≤ n) (h2 : n ≤ 2147483647) (h : RdOk w g S op (Lib.itoa n :: ts)) :
    Calls Tryd.prog 50 #[.pointer (some ⟨g, 0, none⟩)] w (ExprQ g S op (.node 1 n A c []) ts w) := by
  have HB0 := Lib.hid (below_alloc1 w (Obj.cells zeroRE 24))
  have HX0 := Lib.hid (Box.new w 24 zeroRE)
  have hn1 : (Lib.itoa n :: ts).headD [] ≠ [121] := fun e => by
    have e' : Lib.itoa n = [121] := e
    have := itoa_dig n h1 121 (by rw [e']; exact List.mem_cons_self ..)
    exact absurd this (by decide)
  have hn2 : ((tokS (Lib.itoa n :: ts)).toList == [40]) = false := by
    rw [beq_eq_false_iff_ne]
    unfold tokS
    rw [str_toList]
    intro e'
    have e' : Lib.itoa n = [40] := e'
    have := itoa_dig n h1 40 (by rw [e']; exact List.mem_cons_self ..)
    exact absurd this (by decide)
  have hn3 : ¬ (tokS (Lib.itoa n :: ts)).toList = [40] := by simpa using hn2
  have HT := Lib.hid (take_no g S op [121] (Lib.itoa n :: ts) _ (h.next HB0.out).rd hS hn1)
  have HK := Lib.hid (fun W (hr : Reads W g S op (Lib.itoa n :: ts)) => tok_at g S op (Lib.itoa n :: ts) W hr hS)
  have HN := Lib.hid (fun W (hr : Reads W g S op (Lib.itoa n :: ts)) => natural_yes g S op n ts W hr hS h1 (by omega))
  have hgl := h.rd.lt
  unfold TakeQ at HT
  unfold WordQ at HN
  clear h hn1
  generalize tokS (Lib.itoa n :: ts) = tk0 at *
  go_enter Tryd.func50, Tryd.ntmps50
  go_wp2_with fail
  refine HT.out.mono ?_
  rintro e w1 ⟨rfl, hr, hg⟩
  generalize hg4 : w.heap.size = g4 at *
  have HG4 := Lib.hid hg4
  clear hg4
  have HX1 := Lib.hid (HX0.out.grown hg (by simp; omega))
  have HR := Lib.hid hr
  have HG : Hid (w.grownBy w1 (some g)) := World.grownBy.trans (grown_bel (by rw [HG4.out]; exact HB0.out)) hg
  clear hr hg HX0 HB0 HT
  go_wp2_with fail
  refine (HK.out w1 HR.out).mono ?_
  rintro e w2 ⟨rfl, m, rfl⟩
  have HR2 := Lib.hid (HR.out.drewN m)
  have HN2 := Lib.hid (HN.out _ HR2.out)
  go_wp2_with fail
  refine HN2.out.mono ?_
  rintro e w3 ⟨rfl, hr, hg⟩
  have hx3 := (HX1.out.drewN m).grown hg (by simp; omega)
  have HR3 := Lib.hid hr
  have HG3 : Hid (w.grownBy w3 (some g)) := World.grownBy.trans HG.out (World.grownBy.trans (grown_bel (below_drewN w1 m)) hg)
  have r0 : w3.cell? ⟨g4, 0, none⟩ = some (.int .i64 0) := hx3.cell 0
  have r1 : w3.cell? ⟨g4, 1, none⟩ = some (.int .i64 0) := hx3.cell 1
  have r2 : w3.cell? ⟨g4, 2, none⟩ = some (.slice none 0 0) := hx3.cell 2
  have rf : ∀ i, w3.frozen? ⟨g4, i, none⟩ = false := fun i => hx3.free i
  have rl : g4 < w3.heap.size := hx3.lt
  clear hr hg hx3 HX1 HR HG HR2 HN2 HN HK
  go_wp2_with fail
  refine bodyPost_ret (v := .tuple #[.agg #[.int .i64 1, .int .i64 n, .slice none 0 0], .bool true]) (by simp [results, Tryd.results50, go_sem, r0, r1, r2]) rfl ?_
  exact expr_done (ks := []) HG4.out hgl HR3.out HG3.out (same_node 1 n none A 0 c [] [] rfl) (ReAt.leaf _ _ _ 1 n 0 (by unfold I64; omega) (by unfold I64; omega))
end Go.Proofs.YtbmbphikjainiaaDoor
