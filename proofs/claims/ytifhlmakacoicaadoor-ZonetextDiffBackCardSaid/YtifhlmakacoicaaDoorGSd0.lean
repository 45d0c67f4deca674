/- Sd0 -/
import Derived.Lib.SliceRun
import Derived.WalkSpells
import Derived.Test.YtifhlmakacoicaaDoorGBu1
import Derived.Test.YtifhlmakacoicaaDoorGFlowS
import Derived.Test.YtifhlmakacoicaaDoorGMoon1
import Derived.Test.YtifhlmakacoicaaDoorGPlainFore
/- Contracts of package spread: notices in memory, newer, slices.Equal and Clone at notices, the keys' check. -/
namespace Go.Proofs.YtifhlmakacoicaaDoor
open Go.RowKit
set_option linter.unusedVariables false

/-- a notice of the first author -/
structure Ntx where
  n : Int
  t : ByteArray
  s : Int
def ntC (x : Ntx) : List Value := [.int .i64 0, .int .i64 x.n, .string x.t, .int .i64 x.s]
abbrev ntV (x : Ntx) : Value := .agg #[.int .i64 0, .int .i64 x.n, .string x.t, .int .i64 x.s]
theorem ntC_one (x : Ntx) : ∀ u ∈ ntC x, u.oneCell' = true := fun u hu => by
  unfold ntC at hu
  simp only [List.mem_cons, List.not_mem_nil, or_false] at hu
  rcases hu with rfl | rfl | rfl | rfl <;> rfl
theorem nt_info : (Tryd.prog.info? 39).map (fun i => (i.zero, i.size, i.bytes)) = some (some (.agg #[.int .i64 0, .int .i64 0, .string ⟨#[]⟩, .int .i64 0]), 4, 40) := by kernel_rfl

set_option maxHeartbeats 1000000 in
set_option maxRecDepth 100000 in
theorem newer_yes (x y : Ntx) (w : World) (h : y.n < x.n) :
    Calls Tryd.prog 35 #[ntV x, ntV y] w fun e w' => e = .returned (.bool true) ∧ Below w.heap.size w w' := by
  have h1 := below_alloc2 w (Obj.cells #[.int .i64 0, .int .i64 x.n, .string x.t, .int .i64 x.s] 39) (Obj.cells #[.int .i64 0, .int .i64 y.n, .string y.t, .int .i64 y.s] 39)
  have y1 := (Box.new w 39 #[.int .i64 0, .int .i64 x.n, .string x.t, .int .i64 x.s]).alloc (Obj.cells #[.int .i64 0, .int .i64 y.n, .string y.t, .int .i64 y.s] 39)
  have y2 := Box.new (w.alloc (Obj.cells #[.int .i64 0, .int .i64 x.n, .string x.t, .int .i64 x.s] 39)) 39 #[.int .i64 0, .int .i64 y.n, .string y.t, .int .i64 y.s]
  rw [World.size_alloc] at y2
  have t1 : decide (y.n < x.n) = true := decide_eq_true h
  have HB := Lib.hid h1
  clear h
  go_enter Tryd.func35, Tryd.ntmps35
  go_upto_region 1 with fail
  generalize (w.alloc (Obj.cells #[.int .i64 0, .int .i64 x.n, .string x.t, .int .i64 x.s] 39)).alloc (Obj.cells #[.int .i64 0, .int .i64 y.n, .string y.t, .int .i64 y.s] 39) = W0 at *
  have x1 : W0.cell? ⟨w.heap.size, 1, none⟩ = some (.int .i64 x.n) := y1.cell 1
  have x2 : W0.cell? ⟨w.heap.size + 1, 1, none⟩ = some (.int .i64 y.n) := y2.cell 1
  have l1 := y1.lt
  have l2 := y2.lt
  clear y1 y2 h1
  go_wp2_with fail
  go_ret
  exact ⟨rfl, HB.out⟩
set_option maxHeartbeats 1000000 in
set_option maxRecDepth 100000 in
theorem newer_no (x y : Ntx) (w : World) (h : x.n < y.n) :
    Calls Tryd.prog 35 #[ntV x, ntV y] w fun e w' => e = .returned (.bool false) ∧ Below w.heap.size w w' := by
  have h1 := below_alloc2 w (Obj.cells #[.int .i64 0, .int .i64 x.n, .string x.t, .int .i64 x.s] 39) (Obj.cells #[.int .i64 0, .int .i64 y.n, .string y.t, .int .i64 y.s] 39)
  have y1 := (Box.new w 39 #[.int .i64 0, .int .i64 x.n, .string x.t, .int .i64 x.s]).alloc (Obj.cells #[.int .i64 0, .int .i64 y.n, .string y.t, .int .i64 y.s] 39)
  have y2 := Box.new (w.alloc (Obj.cells #[.int .i64 0, .int .i64 x.n, .string x.t, .int .i64 x.s] 39)) 39 #[.int .i64 0, .int .i64 y.n, .string y.t, .int .i64 y.s]
  rw [World.size_alloc] at y2
  have t1 : decide (y.n < x.n) = false := decide_eq_false (by omega)
  have t2 : (x.n == y.n) = false := by rw [beq_eq_false_iff_ne]; omega
  have HB := Lib.hid h1
  clear h
  go_enter Tryd.func35, Tryd.ntmps35
  go_upto_region 1 with fail
  generalize (w.alloc (Obj.cells #[.int .i64 0, .int .i64 x.n, .string x.t, .int .i64 x.s] 39)).alloc (Obj.cells #[.int .i64 0, .int .i64 y.n, .string y.t, .int .i64 y.s] 39) = W0 at *
  have x1 : W0.cell? ⟨w.heap.size, 1, none⟩ = some (.int .i64 x.n) := y1.cell 1
  have x2 : W0.cell? ⟨w.heap.size + 1, 1, none⟩ = some (.int .i64 y.n) := y2.cell 1
  have l1 := y1.lt
  have l2 := y2.lt
  clear y1 y2 h1
  go_wp2_with fail
  go_ret
  exact ⟨rfl, HB.out⟩
set_option maxHeartbeats 1000000 in
set_option maxRecDepth 100000 in
theorem newer_same (x : Ntx) (w : World) :
    Calls Tryd.prog 35 #[ntV x, ntV x] w fun e w' => e = .returned (.bool false) ∧ Below w.heap.size w w' := by
  have h1 := below_alloc2 w (Obj.cells #[.int .i64 0, .int .i64 x.n, .string x.t, .int .i64 x.s] 39) (Obj.cells #[.int .i64 0, .int .i64 x.n, .string x.t, .int .i64 x.s] 39)
  have y1 := (Box.new w 39 #[.int .i64 0, .int .i64 x.n, .string x.t, .int .i64 x.s]).alloc (Obj.cells #[.int .i64 0, .int .i64 x.n, .string x.t, .int .i64 x.s] 39)
  have y2 := Box.new (w.alloc (Obj.cells #[.int .i64 0, .int .i64 x.n, .string x.t, .int .i64 x.s] 39)) 39 #[.int .i64 0, .int .i64 x.n, .string x.t, .int .i64 x.s]
  rw [World.size_alloc] at y2
  have HB := Lib.hid h1
  go_enter Tryd.func35, Tryd.ntmps35
  go_upto_region 1 with fail
  generalize (w.alloc (Obj.cells #[.int .i64 0, .int .i64 x.n, .string x.t, .int .i64 x.s] 39)).alloc (Obj.cells #[.int .i64 0, .int .i64 x.n, .string x.t, .int .i64 x.s] 39) = W0 at *
  have x1 : W0.cell? ⟨w.heap.size, 1, none⟩ = some (.int .i64 x.n) := y1.cell 1
  have x2 : W0.cell? ⟨w.heap.size + 1, 1, none⟩ = some (.int .i64 x.n) := y2.cell 1
  have x3 : W0.cell? ⟨w.heap.size, 2, none⟩ = some (.string x.t) := y1.cell 2
  have x4 : W0.cell? ⟨w.heap.size + 1, 2, none⟩ = some (.string x.t) := y2.cell 2
  have l1 := y1.lt
  have l2 := y2.lt
  clear y1 y2 h1
  go_wp2_with fail
  go_ret
  exact ⟨rfl, HB.out⟩

set_option maxHeartbeats 2000000 in
set_option maxRecDepth 100000 in
theorem clone_nt (b o c : Nat) (x : Ntx) (w : World) (hr : Row w w.heap.size (some ⟨b, o, none⟩) (ntC x)) :
    Calls Tryd.prog 63 #[.slice (some ⟨b, o, none⟩) 1 c] w fun e w' => ∃ g c', e = .returned (.slice (some ⟨g, 0, none⟩) 1 c') ∧ w'.ownsRow w.heap.size 39 4 (.slice (some ⟨g, 0, none⟩) 1 c') 1 (ntC x) ∧ Below w.heap.size w w' := by
  obtain ⟨i0, hi0, hz0, hz1, hz2⟩ := info_parts nt_info
  have HN : Hid (∀ j u, (ntC x)[j]? = some u → (w.alloc (.cells #[] 39)).cell? ((⟨b, o, none⟩ : Addr).add j) = some u) := newsRow (hr.alloc _)
  have HO : Hid ((w.alloc (.cells #[] 39)).ownsRow w.heap.size 39 4 (.slice (some ⟨w.heap.size, 0, none⟩) 0 0) 0 []) := World.ownsRow_made w #[] 0 (Nat.le_refl _) (by unfold maxLen; omega) (by simp)
  clear hr
  have hnil : ∀ w, (binOp .eql 75 (.slice (some ⟨b, o, none⟩) 1 c) (.slice none 0 0)).run Tryd.prog w = .ok (.bool false) w := fun w => Lib.run_eql_slice_nil w 75 _ _ _ _ _ _ Tryd.underlying75
  go_enter Tryd.func63, Tryd.ntmps63
  go_wp2_with (at_builtin; refine wpList_append_own _ rfl (.tmp 5) (.tmp 6) 75 rfl w.heap.size 39 i0 (.agg #[.int .i64 0, .int .i64 0, .string ⟨#[]⟩, .int .i64 0]) 4 40 Tryd.underlying75 hi0 hz0 hz1 hz2 rfl (by decide) _ 0 [] rfl HO.out ⟨b, o, none⟩ 1 c (ntC x) rfl ?c0 ?c1 ?c2 ?c3 ?c4 ?c5 ?_)
  case c0 => rfl
  case c1 => exact HN.out
  case c2 => exact ntC_one x
  case c3 => simp only [maxLen]; omega
  case c4 => omega
  case c5 => simp
  intro v' w3 hown' hgrow _
  have hB : Below w.heap.size w w3 := (below_alloc1 w _).grown hgrow (by simp) (fun k hk => by simp [Value.ownBlock] at hk; omega)
  try simp only [Nat.zero_add, List.nil_append] at hown'
  obtain ⟨g, c', hv, _, _⟩ := hown'.form (by omega)
  subst hv
  have HW := Lib.hid hown'
  clear hgrow hown'
  go_wp2_with fail
  go_ret
  exact ⟨g, c', rfl, HW.out, hB⟩

theorem nt_row {w : World} {B b o : Nat} {x : Ntx} (h : Row w B (some ⟨b, o, none⟩) (ntC x)) : b < B ∧ w.cell? ⟨b, o, none⟩ = some (.int .i64 0) ∧ w.cell? ⟨b, o + 1, none⟩ = some (.int .i64 x.n) ∧ w.cell? ⟨b, o + 2, none⟩ = some (.string x.t) ∧ w.cell? ⟨b, o + 3, none⟩ = some (.int .i64 x.s) := by
  obtain ⟨b', o', e, hb, hc⟩ := h.open_ (by simp [ntC])
  cases e
  exact ⟨hb, by have := hc 0 _ rfl; rwa [Nat.add_zero] at this, hc 1 _ rfl, hc 2 _ rfl, hc 3 _ rfl⟩
set_option maxHeartbeats 2000000 in
set_option maxRecDepth 100000 in
theorem equal_same (b1 o1 c1 b2 o2 c2 : Nat) (x : Ntx) (w : World) (h1 : Row w w.heap.size (some ⟨b1, o1, none⟩) (ntC x)) (h2 : Row w w.heap.size (some ⟨b2, o2, none⟩) (ntC x)) :
    Calls Tryd.prog 64 #[.slice (some ⟨b1, o1, none⟩) 1 c1, .slice (some ⟨b2, o2, none⟩) 1 c2] w fun e w' => e = .returned (.bool true) ∧ Below w.heap.size w w' := by
  have HR1 := Lib.hid (fun W (hW : Below w.heap.size w W) => nt_row (h1.next hW))
  have HR2 := Lib.hid (fun W (hW : Below w.heap.size w W) => nt_row (h2.next hW))
  clear h1 h2
  go_enter Tryd.func64, Tryd.ntmps64
  go_wp2_with fail
  refine wp_loop_rounds 2 ?_
  rw [rounds_succ]
  go_upto_region 6 with fail
  have x0 : ∀ W, Below w.heap.size w W → W.cell? ⟨b1, o1, none⟩ = some (.int .i64 0) := fun W hW => (HR1.out W hW).2.1
  have x1 : ∀ W, Below w.heap.size w W → W.cell? ⟨b1, o1 + 1, none⟩ = some (.int .i64 x.n) := fun W hW => (HR1.out W hW).2.2.1
  have x2 : ∀ W, Below w.heap.size w W → W.cell? ⟨b1, o1 + 2, none⟩ = some (.string x.t) := fun W hW => (HR1.out W hW).2.2.2.1
  have x3 : ∀ W, Below w.heap.size w W → W.cell? ⟨b1, o1 + 3, none⟩ = some (.int .i64 x.s) := fun W hW => (HR1.out W hW).2.2.2.2
  have y0 : ∀ W, Below w.heap.size w W → W.cell? ⟨b2, o2, none⟩ = some (.int .i64 0) := fun W hW => (HR2.out W hW).2.1
  have y1 : ∀ W, Below w.heap.size w W → W.cell? ⟨b2, o2 + 1, none⟩ = some (.int .i64 x.n) := fun W hW => (HR2.out W hW).2.2.1
  have y2 : ∀ W, Below w.heap.size w W → W.cell? ⟨b2, o2 + 2, none⟩ = some (.string x.t) := fun W hW => (HR2.out W hW).2.2.2.1
  have y3 : ∀ W, Below w.heap.size w W → W.cell? ⟨b2, o2 + 3, none⟩ = some (.int .i64 x.s) := fun W hW => (HR2.out W hW).2.2.2.2
  refine flow_begin (tellOf []) (by kernel_rfl) (by kernel_rfl) ?_
  repeat (first | (refine flow_val (v := ?_) (by rfl) (by rfl) (fun w hb => ?_) ?_; rotate_left; (· ((go_simp) <;> ((repeat' apply And.intro) <;> with_reducible rfl))); try simp only [Act.put, List.setIfInBounds_toArray, List.set_cons_zero, List.set_cons_succ, Nat.reduceAdd]) | (refine flow_skip (by rfl) (by rfl) ?_; try simp only [Act.put, List.setIfInBounds_toArray, List.set_cons_zero, List.set_cons_succ, Nat.reduceAdd]))
  refine flow_nil fun w1 hb1 _ => ?_
  have HB1 := Lib.hid hb1
  clear x0 x1 x2 x3 y0 y1 y2 y3 hb1
  go_wp2_with fail
  rw [rounds_succ]
  go_wp2_with fail
  go_ret
  exact ⟨rfl, HB1.out⟩
set_option maxHeartbeats 2000000 in
set_option maxRecDepth 100000 in
theorem equal_diff (b1 o1 c1 b2 o2 c2 : Nat) (x y : Ntx) (w : World) (h1 : Row w w.heap.size (some ⟨b1, o1, none⟩) (ntC x)) (h2 : Row w w.heap.size (some ⟨b2, o2, none⟩) (ntC y)) (hne : x.n ≠ y.n) :
    Calls Tryd.prog 64 #[.slice (some ⟨b1, o1, none⟩) 1 c1, .slice (some ⟨b2, o2, none⟩) 1 c2] w fun e w' => e = .returned (.bool false) ∧ Below w.heap.size w w' := by
  have HR1 := Lib.hid (fun W (hW : Below w.heap.size w W) => nt_row (h1.next hW))
  have HR2 := Lib.hid (fun W (hW : Below w.heap.size w W) => nt_row (h2.next hW))
  have tne : (x.n == y.n) = false := by rw [beq_eq_false_iff_ne]; exact hne
  clear h1 h2 hne
  go_enter Tryd.func64, Tryd.ntmps64
  go_wp2_with fail
  refine wp_loop_rounds 2 ?_
  rw [rounds_succ]
  go_upto_region 6 with fail
  have x0 : ∀ W, Below w.heap.size w W → W.cell? ⟨b1, o1, none⟩ = some (.int .i64 0) := fun W hW => (HR1.out W hW).2.1
  have x1 : ∀ W, Below w.heap.size w W → W.cell? ⟨b1, o1 + 1, none⟩ = some (.int .i64 x.n) := fun W hW => (HR1.out W hW).2.2.1
  have x2 : ∀ W, Below w.heap.size w W → W.cell? ⟨b1, o1 + 2, none⟩ = some (.string x.t) := fun W hW => (HR1.out W hW).2.2.2.1
  have x3 : ∀ W, Below w.heap.size w W → W.cell? ⟨b1, o1 + 3, none⟩ = some (.int .i64 x.s) := fun W hW => (HR1.out W hW).2.2.2.2
  have y0 : ∀ W, Below w.heap.size w W → W.cell? ⟨b2, o2, none⟩ = some (.int .i64 0) := fun W hW => (HR2.out W hW).2.1
  have y1 : ∀ W, Below w.heap.size w W → W.cell? ⟨b2, o2 + 1, none⟩ = some (.int .i64 y.n) := fun W hW => (HR2.out W hW).2.2.1
  have y2 : ∀ W, Below w.heap.size w W → W.cell? ⟨b2, o2 + 2, none⟩ = some (.string y.t) := fun W hW => (HR2.out W hW).2.2.2.1
  have y3 : ∀ W, Below w.heap.size w W → W.cell? ⟨b2, o2 + 3, none⟩ = some (.int .i64 y.s) := fun W hW => (HR2.out W hW).2.2.2.2
  refine flow_begin (tellOf []) (by kernel_rfl) (by kernel_rfl) ?_
  repeat (first | (refine flow_val (v := ?_) (by rfl) (by rfl) (fun w hb => ?_) ?_; rotate_left; (· ((go_simp) <;> ((repeat' apply And.intro) <;> with_reducible rfl))); try simp only [Act.put, List.setIfInBounds_toArray, List.set_cons_zero, List.set_cons_succ, Nat.reduceAdd]) | (refine flow_skip (by rfl) (by rfl) ?_; try simp only [Act.put, List.setIfInBounds_toArray, List.set_cons_zero, List.set_cons_succ, Nat.reduceAdd]))
  refine flow_nil fun w1 hb1 _ => ?_
  have HB1 := Lib.hid hb1
  clear x0 x1 x2 x3 y0 y1 y2 y3 hb1
  go_wp2_with fail
  go_ret
  exact ⟨rfl, HB1.out⟩

set_option maxRecDepth 100000 in
theorem key_ok (key : Int) (w : World) (k1 : 1 ≤ key) (k2 : key ≤ 1000000) : Calls Tryd.prog 27 (#[.int .i64 key] ++ #[]) w fun e w' => e = .returned (.bool false) ∧ w = w' := by
  have t1 : decide (key < 1) = false := decide_eq_false (by omega)
  have t2 : decide (1000000000 < key) = false := decide_eq_false (by omega)
  go_enter Tryd.func27, Tryd.ntmps27
  go_wp2_with fail
  go_ret
  exact ⟨rfl, rfl⟩
set_option maxRecDepth 100000 in
theorem idx_keys (b o c : Nat) (key : Int) (w : World) (k1 : 1 ≤ key) (k2 : key ≤ 1000000) (hc : w.cell? ⟨b, o, none⟩ = some (.int .i64 key)) :
    Calls Tryd.prog 62 #[.slice (some ⟨b, o, none⟩) 1 c, .func (.func 27) #[] #[]] w fun e w' => e = .returned (.int .i64 (-1)) ∧ w = w' := by
  have HK := Lib.hid (fun w => key_ok key w k1 k2)
  have eg : ∀ args w, (callFunc 27 args).run Tryd.prog w = .ok (.enter 27 args) w := fun args w => by kernel_rfl
  have hlt := block_lt_of_cell hc
  clear k1 k2
  go_enter Tryd.func62, Tryd.ntmps62
  go_wp2_with fail
  refine wp_loop_rounds 2 ?_
  rw [rounds_succ]
  go_wp2_with (go_at_fn 27; refine (HK.out _).mono ?_; rintro e w' ⟨rfl, rfl⟩)
  rw [rounds_succ]
  go_wp2_with fail
  go_ret
  exact ⟨rfl, rfl⟩
set_option maxRecDepth 100000 in
theorem has_keys (b o c : Nat) (key : Int) (w : World) (k1 : 1 ≤ key) (k2 : key ≤ 1000000) (hc : w.cell? ⟨b, o, none⟩ = some (.int .i64 key)) :
    Calls Tryd.prog 26 #[.slice (some ⟨b, o, none⟩) 1 c, .func (.func 27) #[] #[]] w fun e w' => e = .returned (.bool false) ∧ w = w' := by
  have HI := Lib.hid (idx_keys b o c key w k1 k2 hc)
  clear hc k1 k2
  go_enter Tryd.func26, Tryd.ntmps26
  go_wp2_with (go_at_call 62; refine HI.out.mono ?_; rintro e w' ⟨rfl, rfl⟩)
  go_ret
  exact ⟨rfl, rfl⟩
end Go.Proofs.YtifhlmakacoicaaDoor
