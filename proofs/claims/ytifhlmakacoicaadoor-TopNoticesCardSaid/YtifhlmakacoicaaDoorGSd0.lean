/- Sd0, Sd1, Sd2, Sd3, Sd4 -/
import Derived.Lib.SliceRun
import Derived.WalkSpells
import Derived.Maps.AppendAt
import Derived.Test.YtifhlmakacoicaaDoorGBu1
import Derived.Test.YtifhlmakacoicaaDoorGFlowS
import Derived.Test.YtifhlmakacoicaaDoorGMoon1
import Derived.Test.YtifhlmakacoicaaDoorGPlainFore
/- Contracts of package spread: notices in memory, newer, slices.Equal and Clone at notices, the keys' check. -/
namespace Go.Proofs.YtifhlmakacoicaaDoor
open Go.RowKit
set_option linter.unusedVariables false

/-- a notice of the first author -/
structure Ntx where
  n : Int
  t : ByteArray
  s : Int
def ntC (x : Ntx) : List Value := [.int .i64 0, .int .i64 x.n, .string x.t, .int .i64 x.s]
abbrev ntV (x : Ntx) : Value := .agg #[.int .i64 0, .int .i64 x.n, .string x.t, .int .i64 x.s]
theorem ntC_one (x : Ntx) : ∀ u ∈ ntC x, u.oneCell' = true := fun u hu => by
  unfold ntC at hu
  simp only [List.mem_cons, List.not_mem_nil, or_false] at hu
  rcases hu with rfl | rfl | rfl | rfl <;> rfl
theorem nt_info : (Tryd.prog.info? 39).map (fun i => (i.zero, i.size, i.bytes)) = some (some (.agg #[.int .i64 0, .int .i64 0, .string ⟨#[]⟩, .int .i64 0]), 4, 40) := by kernel_rfl

set_option maxHeartbeats 1000000 in
set_option maxRecDepth 100000 in
theorem newer_yes (x y : Ntx) (w : World) (h : y.n < x.n) :
    Calls Tryd.prog 35 #[ntV x, ntV y] w fun e w' => e = .returned (.bool true) ∧ Below w.heap.size w w' := by
  have h1 := below_alloc2 w (Obj.cells #[.int .i64 0, .int .i64 x.n, .string x.t, .int .i64 x.s] 39) (Obj.cells #[.int .i64 0, .int .i64 y.n, .string y.t, .int .i64 y.s] 39)
  have y1 := (Box.new w 39 #[.int .i64 0, .int .i64 x.n, .string x.t, .int .i64 x.s]).alloc (Obj.cells #[.int .i64 0, .int .i64 y.n, .string y.t, .int .i64 y.s] 39)
  have y2 := Box.new (w.alloc (Obj.cells #[.int .i64 0, .int .i64 x.n, .string x.t, .int .i64 x.s] 39)) 39 #[.int .i64 0, .int .i64 y.n, .string y.t, .int .i64 y.s]
  rw [World.size_alloc] at y2
  have t1 : decide (y.n < x.n) = true := decide_eq_true h
  have HB := Lib.hid h1
  clear h
  go_enter Tryd.func35, Tryd.ntmps35
  go_upto_region 1 with fail
  generalize (w.alloc (Obj.cells #[.int .i64 0, .int .i64 x.n, .string x.t, .int .i64 x.s] 39)).alloc (Obj.cells #[.int .i64 0, .int .i64 y.n, .string y.t, .int .i64 y.s] 39) = W0 at *
  have x1 : W0.cell? ⟨w.heap.size, 1, none⟩ = some (.int .i64 x.n) := y1.cell 1
  have x2 : W0.cell? ⟨w.heap.size + 1, 1, none⟩ = some (.int .i64 y.n) := y2.cell 1
  have l1 := y1.lt
  have l2 := y2.lt
  clear y1 y2 h1
  go_wp2_with fail
  go_ret
  exact ⟨rfl, HB.out⟩
set_option maxHeartbeats 1000000 in
set_option maxRecDepth 100000 in
theorem newer_no (x y : Ntx) (w : World) (h : x.n < y.n) :
    Calls Tryd.prog 35 #[ntV x, ntV y] w fun e w' => e = .returned (.bool false) ∧ Below w.heap.size w w' := by
  have h1 := below_alloc2 w (Obj.cells #[.int .i64 0, .int .i64 x.n, .string x.t, .int .i64 x.s] 39) (Obj.cells #[.int .i64 0, .int .i64 y.n, .string y.t, .int .i64 y.s] 39)
  have y1 := (Box.new w 39 #[.int .i64 0, .int .i64 x.n, .string x.t, .int .i64 x.s]).alloc (Obj.cells #[.int .i64 0, .int .i64 y.n, .string y.t, .int .i64 y.s] 39)
  have y2 := Box.new (w.alloc (Obj.cells #[.int .i64 0, .int .i64 x.n, .string x.t, .int .i64 x.s] 39)) 39 #[.int .i64 0, .int .i64 y.n, .string y.t, .int .i64 y.s]
  rw [World.size_alloc] at y2
  have t1 : decide (y.n < x.n) = false := decide_eq_false (by omega)
  have t2 : (x.n == y.n) = false := by rw [beq_eq_false_iff_ne]; omega
  have HB := Lib.hid h1
  clear h
  go_enter Tryd.func35, Tryd.ntmps35
  go_upto_region 1 with fail
  generalize (w.alloc (Obj.cells #[.int .i64 0, .int .i64 x.n, .string x.t, .int .i64 x.s] 39)).alloc (Obj.cells #[.int .i64 0, .int .i64 y.n, .string y.t, .int .i64 y.s] 39) = W0 at *
  have x1 : W0.cell? ⟨w.heap.size, 1, none⟩ = some (.int .i64 x.n) := y1.cell 1
  have x2 : W0.cell? ⟨w.heap.size + 1, 1, none⟩ = some (.int .i64 y.n) := y2.cell 1
  have l1 := y1.lt
  have l2 := y2.lt
  clear y1 y2 h1
  go_wp2_with fail
  go_ret
  exact ⟨rfl, HB.out⟩
set_option maxHeartbeats 1000000 in
set_option maxRecDepth 100000 in
theorem newer_same (x : Ntx) (w : World) :
    Calls Tryd.prog 35 #[ntV x, ntV x] w fun e w' => e = .returned (.bool false) ∧ Below w.heap.size w w' := by
  have h1 := below_alloc2 w (Obj.cells #[.int .i64 0, .int .i64 x.n, .string x.t, .int .i64 x.s] 39) (Obj.cells #[.int .i64 0, .int .i64 x.n, .string x.t, .int .i64 x.s] 39)
  have y1 := (Box.new w 39 #[.int .i64 0, .int .i64 x.n, .string x.t, .int .i64 x.s]).alloc (Obj.cells #[.int .i64 0, .int .i64 x.n, .string x.t, .int .i64 x.s] 39)
  have y2 := Box.new (w.alloc (Obj.cells #[.int .i64 0, .int .i64 x.n, .string x.t, .int .i64 x.s] 39)) 39 #[.int .i64 0, .int .i64 x.n, .string x.t, .int .i64 x.s]
  rw [World.size_alloc] at y2
  have HB := Lib.hid h1
  go_enter Tryd.func35, Tryd.ntmps35
  go_upto_region 1 with fail
  generalize (w.alloc (Obj.cells #[.int .i64 0, .int .i64 x.n, .string x.t, .int .i64 x.s] 39)).alloc (Obj.cells #[.int .i64 0, .int .i64 x.n, .string x.t, .int .i64 x.s] 39) = W0 at *
  have x1 : W0.cell? ⟨w.heap.size, 1, none⟩ = some (.int .i64 x.n) := y1.cell 1
  have x2 : W0.cell? ⟨w.heap.size + 1, 1, none⟩ = some (.int .i64 x.n) := y2.cell 1
  have x3 : W0.cell? ⟨w.heap.size, 2, none⟩ = some (.string x.t) := y1.cell 2
  have x4 : W0.cell? ⟨w.heap.size + 1, 2, none⟩ = some (.string x.t) := y2.cell 2
  have l1 := y1.lt
  have l2 := y2.lt
  clear y1 y2 h1
  go_wp2_with fail
  go_ret
  exact ⟨rfl, HB.out⟩

set_option maxHeartbeats 2000000 in
set_option maxRecDepth 100000 in
theorem clone_nt (b o c : Nat) (x : Ntx) (w : World) (hr : Row w w.heap.size (some ⟨b, o, none⟩) (ntC x)) :
    Calls Tryd.prog 63 #[.slice (some ⟨b, o, none⟩) 1 c] w fun e w' => ∃ g c', e = .returned (.slice (some ⟨g, 0, none⟩) 1 c') ∧ w'.ownsRow w.heap.size 39 4 (.slice (some ⟨g, 0, none⟩) 1 c') 1 (ntC x) ∧ Below w.heap.size w w' := by
  obtain ⟨i0, hi0, hz0, hz1, hz2⟩ := info_parts nt_info
  have HN : Hid (∀ j u, (ntC x)[j]? = some u → (w.alloc (.cells #[] 39)).cell? ((⟨b, o, none⟩ : Addr).add j) = some u) := newsRow (hr.alloc _)
  have HO : Hid ((w.alloc (.cells #[] 39)).ownsRow w.heap.size 39 4 (.slice (some ⟨w.heap.size, 0, none⟩) 0 0) 0 []) := World.ownsRow_made w #[] 0 (Nat.le_refl _) (by unfold maxLen; omega) (by simp)
  clear hr
  have hnil : ∀ w, (binOp .eql 75 (.slice (some ⟨b, o, none⟩) 1 c) (.slice none 0 0)).run Tryd.prog w = .ok (.bool false) w := fun w => Lib.run_eql_slice_nil w 75 _ _ _ _ _ _ Tryd.underlying75
  go_enter Tryd.func63, Tryd.ntmps63
  go_wp2_with (at_builtin; refine wpList_append_own _ rfl (.tmp 5) (.tmp 6) 75 rfl w.heap.size 39 i0 (.agg #[.int .i64 0, .int .i64 0, .string ⟨#[]⟩, .int .i64 0]) 4 40 Tryd.underlying75 hi0 hz0 hz1 hz2 rfl (by decide) _ 0 [] rfl HO.out ⟨b, o, none⟩ 1 c (ntC x) rfl ?c0 ?c1 ?c2 ?c3 ?c4 ?c5 ?_)
  case c0 => rfl
  case c1 => exact HN.out
  case c2 => exact ntC_one x
  case c3 => simp only [maxLen]; omega
  case c4 => omega
  case c5 => simp
  intro v' w3 hown' hgrow _
  have hB : Below w.heap.size w w3 := (below_alloc1 w _).grown hgrow (by simp) (fun k hk => by simp [Value.ownBlock] at hk; omega)
  try simp only [Nat.zero_add, List.nil_append] at hown'
  obtain ⟨g, c', hv, _, _⟩ := hown'.form (by omega)
  subst hv
  have HW := Lib.hid hown'
  clear hgrow hown'
  go_wp2_with fail
  go_ret
  exact ⟨g, c', rfl, HW.out, hB⟩

theorem nt_row {w : World} {B b o : Nat} {x : Ntx} (h : Row w B (some ⟨b, o, none⟩) (ntC x)) : b < B ∧ w.cell? ⟨b, o, none⟩ = some (.int .i64 0) ∧ w.cell? ⟨b, o + 1, none⟩ = some (.int .i64 x.n) ∧ w.cell? ⟨b, o + 2, none⟩ = some (.string x.t) ∧ w.cell? ⟨b, o + 3, none⟩ = some (.int .i64 x.s) := by
  obtain ⟨b', o', e, hb, hc⟩ := h.open_ (by simp [ntC])
  cases e
  exact ⟨hb, by have := hc 0 _ rfl; rwa [Nat.add_zero] at this, hc 1 _ rfl, hc 2 _ rfl, hc 3 _ rfl⟩
set_option maxHeartbeats 2000000 in
set_option maxRecDepth 100000 in
theorem equal_same (b1 o1 c1 b2 o2 c2 : Nat) (x : Ntx) (w : World) (h1 : Row w w.heap.size (some ⟨b1, o1, none⟩) (ntC x)) (h2 : Row w w.heap.size (some ⟨b2, o2, none⟩) (ntC x)) :
    Calls Tryd.prog 64 #[.slice (some ⟨b1, o1, none⟩) 1 c1, .slice (some ⟨b2, o2, none⟩) 1 c2] w fun e w' => e = .returned (.bool true) ∧ Below w.heap.size w w' := by
  have HR1 := Lib.hid (fun W (hW : Below w.heap.size w W) => nt_row (h1.next hW))
  have HR2 := Lib.hid (fun W (hW : Below w.heap.size w W) => nt_row (h2.next hW))
  clear h1 h2
  go_enter Tryd.func64, Tryd.ntmps64
  go_wp2_with fail
  refine wp_loop_rounds 2 ?_
  rw [rounds_succ]
  go_upto_region 6 with fail
  have x0 : ∀ W, Below w.heap.size w W → W.cell? ⟨b1, o1, none⟩ = some (.int .i64 0) := fun W hW => (HR1.out W hW).2.1
  have x1 : ∀ W, Below w.heap.size w W → W.cell? ⟨b1, o1 + 1, none⟩ = some (.int .i64 x.n) := fun W hW => (HR1.out W hW).2.2.1
  have x2 : ∀ W, Below w.heap.size w W → W.cell? ⟨b1, o1 + 2, none⟩ = some (.string x.t) := fun W hW => (HR1.out W hW).2.2.2.1
  have x3 : ∀ W, Below w.heap.size w W → W.cell? ⟨b1, o1 + 3, none⟩ = some (.int .i64 x.s) := fun W hW => (HR1.out W hW).2.2.2.2
  have y0 : ∀ W, Below w.heap.size w W → W.cell? ⟨b2, o2, none⟩ = some (.int .i64 0) := fun W hW => (HR2.out W hW).2.1
  have y1 : ∀ W, Below w.heap.size w W → W.cell? ⟨b2, o2 + 1, none⟩ = some (.int .i64 x.n) := fun W hW => (HR2.out W hW).2.2.1
  have y2 : ∀ W, Below w.heap.size w W → W.cell? ⟨b2, o2 + 2, none⟩ = some (.string x.t) := fun W hW => (HR2.out W hW).2.2.2.1
  have y3 : ∀ W, Below w.heap.size w W → W.cell? ⟨b2, o2 + 3, none⟩ = some (.int .i64 x.s) := fun W hW => (HR2.out W hW).2.2.2.2
  refine flow_begin (tellOf []) (by kernel_rfl) (by kernel_rfl) ?_
  repeat (first | (refine flow_val (v := ?_) (by rfl) (by rfl) (fun w hb => ?_) ?_; rotate_left; (· ((go_simp) <;> ((repeat' apply And.intro) <;> with_reducible rfl))); try simp only [Act.put, List.setIfInBounds_toArray, List.set_cons_zero, List.set_cons_succ, Nat.reduceAdd]) | (refine flow_skip (by rfl) (by rfl) ?_; try simp only [Act.put, List.setIfInBounds_toArray, List.set_cons_zero, List.set_cons_succ, Nat.reduceAdd]))
  refine flow_nil fun w1 hb1 _ => ?_
  have HB1 := Lib.hid hb1
  clear x0 x1 x2 x3 y0 y1 y2 y3 hb1
  go_wp2_with fail
  rw [rounds_succ]
  go_wp2_with fail
  go_ret
  exact ⟨rfl, HB1.out⟩
set_option maxHeartbeats 2000000 in
set_option maxRecDepth 100000 in
theorem equal_diff (b1 o1 c1 b2 o2 c2 : Nat) (x y : Ntx) (w : World) (h1 : Row w w.heap.size (some ⟨b1, o1, none⟩) (ntC x)) (h2 : Row w w.heap.size (some ⟨b2, o2, none⟩) (ntC y)) (hne : x.n ≠ y.n) :
    Calls Tryd.prog 64 #[.slice (some ⟨b1, o1, none⟩) 1 c1, .slice (some ⟨b2, o2, none⟩) 1 c2] w fun e w' => e = .returned (.bool false) ∧ Below w.heap.size w w' := by
  have HR1 := Lib.hid (fun W (hW : Below w.heap.size w W) => nt_row (h1.next hW))
  have HR2 := Lib.hid (fun W (hW : Below w.heap.size w W) => nt_row (h2.next hW))
  have tne : (x.n == y.n) = false := by rw [beq_eq_false_iff_ne]; exact hne
  clear h1 h2 hne
  go_enter Tryd.func64, Tryd.ntmps64
  go_wp2_with fail
  refine wp_loop_rounds 2 ?_
  rw [rounds_succ]
  go_upto_region 6 with fail
  have x0 : ∀ W, Below w.heap.size w W → W.cell? ⟨b1, o1, none⟩ = some (.int .i64 0) := fun W hW => (HR1.out W hW).2.1
  have x1 : ∀ W, Below w.heap.size w W → W.cell? ⟨b1, o1 + 1, none⟩ = some (.int .i64 x.n) := fun W hW => (HR1.out W hW).2.2.1
  have x2 : ∀ W, Below w.heap.size w W → W.cell? ⟨b1, o1 + 2, none⟩ = some (.string x.t) := fun W hW => (HR1.out W hW).2.2.2.1
  have x3 : ∀ W, Below w.heap.size w W → W.cell? ⟨b1, o1 + 3, none⟩ = some (.int .i64 x.s) := fun W hW => (HR1.out W hW).2.2.2.2
  have y0 : ∀ W, Below w.heap.size w W → W.cell? ⟨b2, o2, none⟩ = some (.int .i64 0) := fun W hW => (HR2.out W hW).2.1
  have y1 : ∀ W, Below w.heap.size w W → W.cell? ⟨b2, o2 + 1, none⟩ = some (.int .i64 y.n) := fun W hW => (HR2.out W hW).2.2.1
  have y2 : ∀ W, Below w.heap.size w W → W.cell? ⟨b2, o2 + 2, none⟩ = some (.string y.t) := fun W hW => (HR2.out W hW).2.2.2.1
  have y3 : ∀ W, Below w.heap.size w W → W.cell? ⟨b2, o2 + 3, none⟩ = some (.int .i64 y.s) := fun W hW => (HR2.out W hW).2.2.2.2
  refine flow_begin (tellOf []) (by kernel_rfl) (by kernel_rfl) ?_
  repeat (first | (refine flow_val (v := ?_) (by rfl) (by rfl) (fun w hb => ?_) ?_; rotate_left; (· ((go_simp) <;> ((repeat' apply And.intro) <;> with_reducible rfl))); try simp only [Act.put, List.setIfInBounds_toArray, List.set_cons_zero, List.set_cons_succ, Nat.reduceAdd]) | (refine flow_skip (by rfl) (by rfl) ?_; try simp only [Act.put, List.setIfInBounds_toArray, List.set_cons_zero, List.set_cons_succ, Nat.reduceAdd]))
  refine flow_nil fun w1 hb1 _ => ?_
  have HB1 := Lib.hid hb1
  clear x0 x1 x2 x3 y0 y1 y2 y3 hb1
  go_wp2_with fail
  go_ret
  exact ⟨rfl, HB1.out⟩

set_option maxRecDepth 100000 in
theorem key_ok (key : Int) (w : World) (k1 : 1 ≤ key) (k2 : key ≤ 1000000) : Calls Tryd.prog 27 (#[.int .i64 key] ++ #[]) w fun e w' => e = .returned (.bool false) ∧ w = w' := by
  have t1 : decide (key < 1) = false := decide_eq_false (by omega)
  have t2 : decide (1000000000 < key) = false := decide_eq_false (by omega)
  go_enter Tryd.func27, Tryd.ntmps27
  go_wp2_with fail
  go_ret
  exact ⟨rfl, rfl⟩
set_option maxRecDepth 100000 in
theorem idx_keys (b o c : Nat) (key : Int) (w : World) (k1 : 1 ≤ key) (k2 : key ≤ 1000000) (hc : w.cell? ⟨b, o, none⟩ = some (.int .i64 key)) :
    Calls Tryd.prog 62 #[.slice (some ⟨b, o, none⟩) 1 c, .func (.func 27) #[] #[]] w fun e w' => e = .returned (.int .i64 (-1)) ∧ w = w' := by
  have HK := Lib.hid (fun w => key_ok key w k1 k2)
  have eg : ∀ args w, (callFunc 27 args).run Tryd.prog w = .ok (.enter 27 args) w := fun args w => by kernel_rfl
  have hlt := block_lt_of_cell hc
  clear k1 k2
  go_enter Tryd.func62, Tryd.ntmps62
  go_wp2_with fail
  refine wp_loop_rounds 2 ?_
  rw [rounds_succ]
  go_wp2_with (go_at_fn 27; refine (HK.out _).mono ?_; rintro e w' ⟨rfl, rfl⟩)
  rw [rounds_succ]
  go_wp2_with fail
  go_ret
  exact ⟨rfl, rfl⟩
set_option maxRecDepth 100000 in
theorem has_keys (b o c : Nat) (key : Int) (w : World) (k1 : 1 ≤ key) (k2 : key ≤ 1000000) (hc : w.cell? ⟨b, o, none⟩ = some (.int .i64 key)) :
    Calls Tryd.prog 26 #[.slice (some ⟨b, o, none⟩) 1 c, .func (.func 27) #[] #[]] w fun e w' => e = .returned (.bool false) ∧ w = w' := by
  have HI := Lib.hid (idx_keys b o c key w k1 k2 hc)
  clear hc k1 k2
  go_enter Tryd.func26, Tryd.ntmps26
  go_wp2_with (go_at_call 62; refine HI.out.mono ?_; rintro e w' ⟨rfl, rfl⟩)
  go_ret
  exact ⟨rfl, rfl⟩
end Go.Proofs.YtifhlmakacoicaaDoor

/- A net of four nodes in memory; spread.New. -/
namespace Go.Proofs.YtifhlmakacoicaaDoor
open Go.RowKit
set_option linter.unusedVariables false

/-- the neighbours of node i after the first k links -/
def nearK (k i : Nat) : List Int := (if 1 ≤ i ∧ i ≤ k then [(i : Int) - 1] else []) ++ (if i < k then [(i : Int) + 1] else [])
theorem nearK_lo (k : Nat) : nearK (k + 1) k = nearK k k ++ [(k : Int) + 1] := by
  unfold nearK
  rw [if_pos (show k < k + 1 by omega), if_neg (show ¬ k < k by omega), List.append_nil]
  by_cases h : 1 ≤ k
  · rw [if_pos (by omega), if_pos (by omega)]
  · rw [if_neg (by omega), if_neg (by omega)]
theorem nearK_hi (k : Nat) : nearK (k + 1) (k + 1) = nearK k (k + 1) ++ [(k : Int)] := by
  unfold nearK
  rw [if_pos (by omega), if_neg (by omega), if_neg (by omega), if_neg (by omega), show ((k + 1 : Nat) : Int) - 1 = (k : Int) from by omega]
  rfl
theorem nearK_same (k i : Nat) (h1 : i ≠ k) (h2 : i ≠ k + 1) : nearK (k + 1) i = nearK k i := by
  unfold nearK
  by_cases a : 1 ≤ i ∧ i ≤ k
  · rw [if_pos a, if_pos (by omega), if_pos (by omega), if_pos (by omega)]
  · by_cases b : i < k
    · rw [if_neg a, if_neg (by omega), if_pos b, if_pos (by omega)]
    · rw [if_neg a, if_neg (by omega), if_neg b, if_neg (by omega)]
theorem nearK_len (k i : Nat) : (nearK k i).length ≤ 2 := by
  unfold nearK
  rw [List.length_append]
  split <;> split <;> simp

/-- the rows of neighbours under way -/
def NearS (w : World) (B gr k : Nat) (vn : Nat → Value) : Prop :=
  Box w gr 34 #[vn 0, vn 1, vn 2, vn 3] ∧ (∀ i, i < 4 → w.ownsRow B 3 1 (vn i) (nearK k i).length (ints (nearK k i))) ∧
    ∀ i j b, i < 4 → j < 4 → i ≠ j → (vn i).ownBlock = some b → (vn j).ownBlock ≠ some b
theorem NearS.next {w w' : World} {B gr k : Nat} {vn : Nat → Value} (h : NearS w B gr k vn) (hb : Below w.heap.size w w') : NearS w' B gr k vn := ⟨h.1.below hb, fun i hi => own_next (h.2.1 i hi) hb, h.2.2⟩

theorem rows_apart {w : World} {B1 B2 : Nat} {e1 e2 : TypeId} {s1 s2 n1 n2 : Nat} {v1 v2 : Value} {xs1 xs2 : List Value} (h1 : w.ownsRow B1 e1 s1 v1 n1 xs1) (h2 : w.ownsRow B2 e2 s2 v2 n2 xs2) (hne : e1 ≠ e2) (b : Nat) (hb : v1.ownBlock = some b) : v2.ownBlock ≠ some b := fun hb2 => by
  rcases h2.2 with ⟨rfl, _⟩ | ⟨g, cap, cur, rfl, _, hg, _⟩
  · cases hb2
  · have e : g = b := Option.some.inj hb2
    subst e
    have hx : Box w g e2 cur := hg
    exact ownApart h1 hx hne g hb rfl
theorem NearS.grown {w w' : World} {B gr k : Nat} {vn : Nat → Value} {r : Option Nat} (h : NearS w B gr k vn) (hg : w.grownBy w' r) (h1 : some gr ≠ r) (h2 : ∀ i b, i < 4 → (vn i).ownBlock = some b → some b ≠ r) : NearS w' B gr k vn :=
  ⟨h.1.grown hg h1, fun i hi => own_heap (h.2.1 i hi) fun b hb => hg.block b (own_lt (h.2.1 i hi) b hb).2 (h2 i b hi hb), h.2.2⟩
theorem NearS.far {w : World} {B gr k g o : Nat} {vn : Nat → Value} (h : NearS w B gr k vn) (v : Value) (h1 : gr ≠ g) (h2 : ∀ i b, i < 4 → (vn i).ownBlock = some b → b ≠ g) : NearS (w.setCell ⟨g, o, none⟩ v) B gr k vn :=
  h.grown (grown_set w g o v) (fun e => h1 (Option.some.inj e)) fun i b hi hb e => h2 i b hi hb (Option.some.inj e)
def nt0 : Ntx := ⟨0, ⟨#[]⟩, 0⟩
/-- a net of four nodes in a row, with one author -/
def NetIn (w : World) (B gb : Nat) (key : Int) (N : Nat → Ntx) (ks bs : Nat → Nat) : Prop :=
  ∃ (Ak : Option Addr) (ck gr : Nat) (vn : Nat → Value) (gh ch : Nat) (cs : Nat → Nat),
    B ≤ gb ∧ Box w gb 74 #[.slice Ak 1 ck, .slice (some ⟨gr, 0, none⟩) 4 4, .slice (some ⟨gh, 0, none⟩) 4 ch] ∧ w.ownsRow B 3 1 (.slice Ak 1 ck) 1 [.int .i64 key] ∧ NearS w B gr 3 vn ∧
    w.ownsRow B 75 1 (.slice (some ⟨gh, 0, none⟩) 4 ch) 4 [.slice (some ⟨bs 0, 0, none⟩) 1 (cs 0), .slice (some ⟨bs 1, 0, none⟩) 1 (cs 1), .slice (some ⟨bs 2, 0, none⟩) 1 (cs 2), .slice (some ⟨bs 3, 0, none⟩) 1 (cs 3)] ∧
    ∀ i, i < 4 → w.ownsRow B 39 4 (.slice (some ⟨bs i, 0, none⟩) 1 (cs i)) 1 (ntC (N (ks i)))
theorem NetIn.next {w w' : World} {B gb : Nat} {key : Int} {N : Nat → Ntx} {ks bs : Nat → Nat} (h : NetIn w B gb key N ks bs) (hb : Below w.heap.size w w') : NetIn w' B gb key N ks bs := by
  obtain ⟨Ak, ck, gr, vn, gh, ch, cs, h1, h2, h3, h4, h5, h6⟩ := h
  exact ⟨Ak, ck, gr, vn, gh, ch, cs, h1, h2.below hb, own_next h3 hb, h4.next hb, own_next h5 hb, fun i hi => own_next (h6 i hi) hb⟩
/-- rows of notices under way: each of a block of its own, with the empty notice -/
def HeldS (w : World) (B : Nat) (hv : Value) (bl : List Nat) : Prop :=
  w.ownsRow B 75 1 hv bl.length (bl.map fun b => .slice (some ⟨b, 0, none⟩) 1 1) ∧ (∀ b ∈ bl, B ≤ b ∧ Box w b 39 #[.int .i64 0, .int .i64 0, .string ⟨#[]⟩, .int .i64 0]) ∧ bl.Nodup
set_option maxHeartbeats 4000000 in
set_option maxRecDepth 100000 in
theorem spnew_yes (bk ok ck be oe ce : Nat) (key : Int) (w : World) (k1 : 1 ≤ key) (k2 : key ≤ 1000000) (hk : Row w w.heap.size (some ⟨bk, ok, none⟩) [.int .i64 key]) (he : Row w w.heap.size (some ⟨be, oe, none⟩) [.int .i64 0, .int .i64 1, .int .i64 1, .int .i64 2, .int .i64 2, .int .i64 3]) :
    Calls Tryd.prog 8 #[.slice (some ⟨bk, ok, none⟩) 1 ck, .int .i64 4, .slice (some ⟨be, oe, none⟩) 3 ce] w fun e w' => ∃ (gb : Nat) (bs : Nat → Nat), e = .returned (.tuple #[.pointer (some ⟨gb, 0, none⟩), .int .i64 0]) ∧ Below w.heap.size w w' ∧ (∀ N : Nat → Ntx, N 0 = nt0 → NetIn w' w.heap.size gb key N (fun _ => 0) bs) ∧ ∀ i j, i < 4 → j < 4 → i ≠ j → bs i ≠ bs j := by
  have HK := Lib.hid (fun W (hW : Below w.heap.size w W) => hk.next hW)
  have HE := Lib.hid (fun W (hW : Below w.heap.size w W) => he.next hW)
  obtain ⟨b', o', e', hbk, hck⟩ := hk.open_ (by simp)
  cases e'
  have kc : w.cell? ⟨bk, ok, none⟩ = some (.int .i64 key) := by have := hck 0 _ rfl; rwa [Nat.add_zero] at this
  have HCF := Lib.hid (has_keys bk ok ck key w k1 k2 kc)
  clear hk he hck kc
  go_enter Tryd.func8, Tryd.ntmps8
  go_upto_region 7 with (go_at_call 26; refine HCF.out.mono ?_; rintro e w' ⟨rfl, rfl⟩)
  generalize hwB : w.heap.size = B at *
  have HWB := Lib.hid hwB
  have HCl := Lib.hid (fun W (hb : Below B w W) => clone_ints (some ⟨bk, ok, none⟩) ck [key] W (HK.out W hb) (by show 0 < 1; omega) (by show 1 ≤ 1000000; omega))
  have hmk : ∀ W, (Instr.makeSlice 71 (.int .i64 4) (.int .i64 4)).run Tryd.prog W = .ok (.slice (some ⟨W.heap.size, 0, none⟩) 4 4) (W.alloc (.cells #[.slice none 0 0, .slice none 0 0, .slice none 0 0, .slice none 0 0] 34)) := fun W => by
    obtain ⟨i0, hi0, hz0, hz1, hz2⟩ := info_parts (show (Tryd.prog.info? 34).map (fun i => (i.zero, i.size, i.bytes)) = some (some (.slice none 0 0), 1, 24) by kernel_rfl)
    have := run_make (P := Tryd.prog) W 71 34 i0 (.slice none 0 0) Tryd.underlying71 hi0 hz0 .i64 .i64 4 4 (by omega) (by omega) (by rw [hz2]; omega) (by omega)
    rw [hz1, show madeCells (Value.slice none 0 0).cells (Int.toNat 4 * 1) = #[.slice none 0 0, .slice none 0 0, .slice none 0 0, .slice none 0 0] from by kernel_rfl] at this
    exact this
  refine flow_begin (tellOf [(1, ⟨fun v => ∃ A' c', v = .slice A' 1 c', fun v W => W.ownsRow B 3 1 v 1 [.int .i64 key]⟩)]) (by kernel_rfl) (by kernel_rfl) ?_
  repeat (first | (refine flow_val (v := ?_) (by rfl) (by rfl) (fun w hb => ?_) ?_; rotate_left; (· ((go_simp) <;> ((repeat' apply And.intro) <;> with_reducible rfl))); try simp only [Act.put, List.setIfInBounds_toArray, List.set_cons_zero, List.set_cons_succ, Nat.reduceAdd]) | (refine flow_skip (by rfl) (by rfl) ?_; try simp only [Act.put, List.setIfInBounds_toArray, List.set_cons_zero, List.set_cons_succ, Nat.reduceAdd]))
  refine flow_told (f := ?_) (args := ?_) [] (by kernel_rfl) (by rfl) (by rfl) ?_ ?_ (fun w hb => ?_) (fun w hb hu => ?_) ?_; rotate_left 4; (· ((go_simp) <;> ((repeat' apply And.intro) <;> with_reducible rfl)))
  · refine (HCl.out w (by rw [← HWB.out]; exact hb)).mono ?_
    rintro e w' ⟨v, he, ho, hb'⟩
    obtain ⟨A', c', hv', _, _⟩ := own_form ho
    exact ⟨v, he, ⟨A', c', hv'⟩, own_lower ho (by have := hb.size; have := HWB.out; omega), hb'⟩
  rotate_left 1
  · exact ⟨_, none, 0, rfl⟩
  · exact fun v w w' hb h => own_next h hb
  rintro v ⟨A1, c1, rfl⟩
  try simp only [Act.put, List.setIfInBounds_toArray, List.set_cons_zero, List.set_cons_succ, Nat.reduceAdd]
  repeat (first | (refine flow_val (v := ?_) (by rfl) (by rfl) (fun w hb => ?_) ?_; rotate_left; (· ((go_simp) <;> ((repeat' apply And.intro) <;> with_reducible rfl))); try simp only [Act.put, List.setIfInBounds_toArray, List.set_cons_zero, List.set_cons_succ, Nat.reduceAdd]) | (refine flow_skip (by rfl) (by rfl) ?_; try simp only [Act.put, List.setIfInBounds_toArray, List.set_cons_zero, List.set_cons_succ, Nat.reduceAdd]))
  refine flow_lits (n := ?_) (c := ?_) (t := ?_) (cs := ?_) (by rfl) (by rfl) (fun w hb => ?_) (fun gr hgr => ?_); rotate_left 4; (· ((go_simp) <;> ((repeat' apply And.intro) <;> with_reducible rfl))); try simp only [Act.put, List.setIfInBounds_toArray, List.set_cons_zero, List.set_cons_succ, Nat.reduceAdd]
  repeat (first | (refine flow_val (v := ?_) (by rfl) (by rfl) (fun w hb => ?_) ?_; rotate_left; (· ((go_simp) <;> ((repeat' apply And.intro) <;> with_reducible rfl))); try simp only [Act.put, List.setIfInBounds_toArray, List.set_cons_zero, List.set_cons_succ, Nat.reduceAdd]) | (refine flow_skip (by rfl) (by rfl) ?_; try simp only [Act.put, List.setIfInBounds_toArray, List.set_cons_zero, List.set_cons_succ, Nat.reduceAdd]))
  refine flow_box (t := ?_) (cs := ?_) (by rfl) (by rfl) (fun w hb => ?_) (fun gb hgb => ?_); rotate_left 2; (· ((go_simp) <;> ((repeat' apply And.intro) <;> with_reducible rfl))); try simp only [Act.put, List.setIfInBounds_toArray, List.set_cons_zero, List.set_cons_succ, Nat.reduceAdd]
  repeat (first | (refine flow_val (v := ?_) (by rfl) (by rfl) (fun w hb => ?_) ?_; rotate_left; (· ((go_simp) <;> ((repeat' apply And.intro) <;> with_reducible rfl))); try simp only [Act.put, List.setIfInBounds_toArray, List.set_cons_zero, List.set_cons_succ, Nat.reduceAdd]) | (refine flow_skip (by rfl) (by rfl) ?_; try simp only [Act.put, List.setIfInBounds_toArray, List.set_cons_zero, List.set_cons_succ, Nat.reduceAdd]))
  refine flow_nil fun w1 hb1 hf => ?_
  have hx1 : Box w1 gb 74 #[.slice A1 1 c1, .slice (some ⟨gr, 0, none⟩) 4 4, .slice none 0 0] := hf.1
  have hm1 : Box w1 gr 34 #[.slice none 0 0, .slice none 0 0, .slice none 0 0, .slice none 0 0] := hf.2.1
  have ho1 : w1.ownsRow B 3 1 (.slice A1 1 c1) 1 [.int .i64 key] := hf.2.2.1
  rw [hwB] at hb1 hgr hgb
  have hBw : B ≤ w1.heap.size := by have := hb1.size; have := HWB.out; omega
  have hgrb : gr ≠ gb := fun e => by
    subst e
    have h := Option.some.inj (hm1.symm.trans hx1)
    injection h with h1 h2
    exact absurd h2 (by decide)
  have HX1 := Lib.hid hx1
  have HO1 := Lib.hid ho1
  have HB1 := Lib.hid hb1
  have HN1 : Hid (NearS w1 B gr 0 (fun _ => .slice none 0 0)) := ⟨hm1, fun i hi => by
    have : nearK 0 i = [] := by unfold nearK; rw [if_neg (by omega), if_neg (by omega)]; rfl
    rw [this]
    exact World.ownsRow_nil _ _ _ _, fun i j b _ _ _ h => by cases h⟩
  clear hf hb1 HCl hx1 hm1 ho1 hmk
  go_wp2_with fail
  go_loopw [10, 12, 37] (fun _ _ i wr => ∃ (k : Nat) (vn : Nat → Value), k ≤ 3 ∧ i = .int .i64 (k : Int) ∧ Hid (NearS wr B gr k vn) ∧ Hid (Box wr gb 74 #[.slice A1 1 c1, .slice (some ⟨gr, 0, none⟩) 4 4, .slice none 0 0]) ∧ Hid (wr.ownsRow B 3 1 (.slice A1 1 c1) 1 [.int .i64 key]) ∧ Hid (∀ i b, i < 4 → (vn i).ownBlock = some b → (Value.slice A1 1 c1).ownBlock ≠ some b) ∧ Hid (Below B w wr)) (fun _ _ i _ => 3 - (intOf i).toNat)
  case atStart => exact ⟨0, _, by omega, rfl, HN1, HX1, HO1, (fun i b _ h => by cases h), HB1⟩
  case round =>
    clear HN1 HX1 HO1 HB1
    obtain ⟨k, vn, hk, rfl, hn, hx, ho, hkap, hbr⟩ := hrel
    have HKA := Lib.hid hkap.out
    clear hkap
    by_cases hlt : k < 3
    · obtain ⟨b', o', e', hbe, hce⟩ := (HE.out wr hbr.out).open_ (by simp)
      cases e'
      have y0 : wr.cell? ⟨be, oe + k * 2, none⟩ = some (.int .i64 (k : Int)) := by
        match k, hlt with
        | 0, _ => exact hce 0 _ rfl
        | 1, _ => exact hce 2 _ rfl
        | 2, _ => exact hce 4 _ rfl
      have y1 : wr.cell? ⟨be, oe + k * 2 + 1, none⟩ = some (.int .i64 ((k : Int) + 1)) := by
        match k, hlt with
        | 0, _ => exact hce 1 _ rfl
        | 1, _ => exact hce 3 _ rfl
        | 2, _ => exact hce 5 _ rfl
      clear hce
      go_upto_region 11 with fail
      have hx5 := Box.new wr 35 #[.int .i64 (k : Int), .int .i64 ((k : Int) + 1)]
      have hb5 := below_alloc1 wr (Obj.cells #[.int .i64 (k : Int), .int .i64 ((k : Int) + 1)] 35)
      have hsz : B ≤ wr.heap.size := by have := hbr.out.size; have := HWB.out; omega
      have HN5 := Lib.hid (hn.out.next hb5)
      have HX5 := Lib.hid (hx.out.below hb5)
      have HO5 := Lib.hid (own_next ho.out hb5)
      have HB5 := Lib.hid (hbr.out.trans (hb5.mono hsz))
      generalize wr.alloc (Obj.cells #[.int .i64 (k : Int), .int .i64 ((k : Int) + 1)] 35) = W5 at *
      generalize wr.heap.size = ge at *
      clear hn hx ho hbr hb5
      have x0 : W5.cell? ⟨ge, 0, none⟩ = some (.int .i64 (k : Int)) := hx5.cell 0
      have x1 : W5.cell? ⟨ge, 1, none⟩ = some (.int .i64 ((k : Int) + 1)) := hx5.cell 1
      have t1 : decide ((k : Int) < 0) = false := decide_eq_false (by omega)
      have t2 : decide ((4 : Int) ≤ (k : Int)) = false := decide_eq_false (by omega)
      have t3 : decide ((k : Int) + 1 < 0) = false := decide_eq_false (by omega)
      have t4 : decide ((4 : Int) ≤ (k : Int) + 1) = false := decide_eq_false (by omega)
      have j0 : ∀ W, (Instr.index 35 (.agg #[.int .i64 (k : Int), .int .i64 ((k : Int) + 1)]) (.int .i64 0)).run Tryd.prog W = .ok (.int .i64 (k : Int)) W := fun W => by simp [Instr.index, run_underlying Tryd.underlying35, asIntOf, go_sem]
      have j1 : ∀ W, (Instr.index 35 (.agg #[.int .i64 (k : Int), .int .i64 ((k : Int) + 1)]) (.int .i64 1)).run Tryd.prog W = .ok (.int .i64 ((k : Int) + 1)) W := fun W => by simp [Instr.index, run_underlying Tryd.underlying35, asIntOf, go_sem]
      go_wp2_with fail
      refine wp_loop_rounds 3 ?_
      rw [rounds_succ]
      go_wp2_with fail
      rw [rounds_succ]
      go_wp2_with fail
      rw [rounds_succ]
      go_upto_region 17 with fail
      clear j0 j1 t1 t2 t3 t4 x0 x1 y0 y1
      obtain ⟨hbx, hrows, hdis⟩ := HN5.out
      have hr0 := hrows k (by omega)
      have hr1 := hrows (k + 1) (by omega)
      obtain ⟨A0, c0, e0, _⟩ := own_form hr0
      obtain ⟨A2, c2, e2, _⟩ := own_form hr1
      have hnl0 := nearK_len k k
      have hnl1 := nearK_len k (k + 1)
      have hd01 : ∀ b, (vn k).ownBlock = some b → (vn (k + 1)).ownBlock ≠ some b := fun b h => hdis k (k + 1) b (by omega) (by omega) (by omega) h
      have hd10 : ∀ b, (vn (k + 1)).ownBlock = some b → (vn k).ownBlock ≠ some b := fun b h => hdis (k + 1) k b (by omega) (by omega) (by omega) h
      have hgr0 : ∀ i, i < 4 → (vn i).ownBlock ≠ some gr := fun i hi h => ownApart (hrows i hi) hbx (by decide) gr h rfl
      have hgb0 : ∀ i, i < 4 → (vn i).ownBlock ≠ some gb := fun i hi h => ownApart (hrows i hi) HX5.out (by decide) gb h rfl
      have hge0 : ∀ i, i < 4 → (vn i).ownBlock ≠ some ge := fun i hi h => ownApart (hrows i hi) hx5 (by decide) ge h rfl
      have hgeg : ge ≠ gr := fun e => by
        subst e
        have h := Option.some.inj (hx5.symm.trans hbx)
        injection h with h1 h2
        exact absurd h2 (by decide)
      obtain ⟨row, hrow⟩ : ∃ row : Nat → Option Nat, row = fun j => if j = 23 then (vn k).ownBlock else if j = 35 then (vn (k + 1)).ownBlock else some gr := ⟨_, rfl⟩
      have r23 : row 23 = (vn k).ownBlock := by rw [hrow]; rfl
      have r35 : row 35 = (vn (k + 1)).ownBlock := by rw [hrow]; rfl
      have r37 : row 37 = some gr := by rw [hrow]; rfl
      clear hrow
      obtain ⟨LA, hLAe⟩ : ∃ LA, LA = [(vn k).ownBlock, (vn (k + 1)).ownBlock, some gr] := ⟨_, rfl⟩
      have hLA : ∀ j ∈ [23, 35, 37], row j ∈ LA := by
        intro j hj
        rw [hLAe]
        simp only [List.mem_cons, List.not_mem_nil, or_false] at hj
        rcases hj with rfl | rfl | rfl
        · rw [r23]; simp
        · rw [r35]; simp
        · rw [r37]; simp
      have HLAm : Hid (∀ r ∈ LA, r = (vn k).ownBlock ∨ r = (vn (k + 1)).ownBlock ∨ r = some gr) := by
        unfold Hid
        rw [hLAe]
        intro r hr
        simpa using hr
      have nb : some gb ∉ LA := by
        rw [hLAe]; simp only [List.mem_cons, List.not_mem_nil, or_false, not_or]
        exact ⟨fun h => hgb0 k (by omega) h.symm, fun h => hgb0 (k + 1) (by omega) h.symm, fun h => hgrb (Option.some.inj h).symm⟩
      have ne : some ge ∉ LA := by
        rw [hLAe]; simp only [List.mem_cons, List.not_mem_nil, or_false, not_or]
        exact ⟨fun h => hge0 k (by omega) h.symm, fun h => hge0 (k + 1) (by omega) h.symm, fun h => hgeg (Option.some.inj h)⟩
      have hrlt : ∀ j ∈ [23, 35, 37], ∀ b, row j = some b → b < W5.heap.size := by
        intro j hj b hb
        simp only [List.mem_cons, List.not_mem_nil, or_false] at hj
        rcases hj with rfl | rfl | rfl
        · rw [r23] at hb; exact (own_lt hr0 b hb).2
        · rw [r35] at hb; exact (own_lt hr1 b hb).2
        · rw [r37] at hb; injection hb with hb; rw [← hb]; exact hbx.lt
      have d1 : ∀ W, GrownL LA W5 W → W.cell? ⟨gb, 1, none⟩ = some (.slice (some ⟨gr, 0, none⟩) 4 4) := fun W hW => (hW.box HX5.out nb).cell 1
      have z0 : ∀ W, GrownL LA W5 W → W.cell? ⟨ge, 0, none⟩ = some (.int .i64 (k : Int)) := fun W hW => (hW.box hx5 ne).cell 0
      have z1 : ∀ W, GrownL LA W5 W → W.cell? ⟨ge, 1, none⟩ = some (.int .i64 ((k : Int) + 1)) := fun W hW => (hW.box hx5 ne).cell 1
      have hcell : ∀ W, Box W gr 34 #[vn 0, vn 1, vn 2, vn 3] → W.cell? ⟨gr, k, none⟩ = some (vn k) ∧ W.cell? ⟨gr, k + 1, none⟩ = some (vn (k + 1)) := fun W hW => by
        match k, hlt with
        | 0, _ => exact ⟨hW.cell 0, hW.cell 1⟩
        | 1, _ => exact ⟨hW.cell 1, hW.cell 2⟩
        | 2, _ => exact ⟨hW.cell 2, hW.cell 3⟩
      obtain ⟨LK, hLK⟩ : ∃ LK, LK = [(vn k).ownBlock, (vn (k + 1)).ownBlock] := ⟨_, rfl⟩
      have nr : some gr ∉ LK := by
        rw [hLK]; simp only [List.mem_cons, List.not_mem_nil, or_false, not_or]
        exact ⟨fun h => hgr0 k (by omega) h.symm, fun h => hgr0 (k + 1) (by omega) h.symm⟩
      have hLKm : ∀ j ∈ [23, 35], row j ∈ LK := by
        intro j hj
        rw [hLK]
        simp only [List.mem_cons, List.not_mem_nil, or_false] at hj
        rcases hj with rfl | rfl
        · rw [r23]; simp
        · rw [r35]; simp
      have g0 : ∀ W, GrownL LK W5 W → W.cell? ⟨gr, k, none⟩ = some (vn k) := fun W hW => (hcell W (hW.box hbx nr)).1
      have g1 : ∀ W, GrownL LK W5 W → W.cell? ⟨gr, k + 1, none⟩ = some (vn (k + 1)) := fun W hW => (hcell W (hW.box hbx nr)).2
      have i1 : (0 : Int) ≤ (k : Int) ∧ (k : Int) < 4 := by omega
      have i2 : (0 : Int) ≤ (k : Int) + 1 ∧ (k : Int) + 1 < 4 := by omega
      have i3 : ((k : Int) + 1).toNat = k + 1 := by omega
      obtain ⟨q0, hi0, hz0, hz1, hz2⟩ := info_parts infoInt2
      have hda : ∀ b, (Value.slice A0 (nearK k k).length c0).ownBlock = some b → (Value.slice A2 (nearK k (k + 1)).length c2).ownBlock ≠ some b := by rw [← e0, ← e2]; exact hd01
      have hdb : ∀ b, (Value.slice A2 (nearK k (k + 1)).length c2).ownBlock = some b → (Value.slice A0 (nearK k k).length c0).ownBlock ≠ some b := by rw [← e0, ← e2]; exact hd10
      have hga : (Value.slice A0 (nearK k k).length c0).ownBlock ≠ some gr := by rw [← e0]; exact hgr0 k (by omega)
      have hgb2 : (Value.slice A2 (nearK k (k + 1)).length c2).ownBlock ≠ some gr := by rw [← e2]; exact hgr0 (k + 1) (by omega)
      have hra := hr0
      have hrb := hr1
      rw [e0] at hra
      rw [e2] at hrb
      have HRA := Lib.hid hra
      have HRB := Lib.hid hrb
      have HDA := Lib.hid hda
      have HDB := Lib.hid hdb
      have HGA := Lib.hid hga
      have HGB2 := Lib.hid hgb2
      have HBX := Lib.hid hbx
      have HROWS := Lib.hid hrows
      have HDIS := Lib.hid hdis
      have HGR0 := Lib.hid hgr0
      clear hda hdb hga hgb2 hra hrb
      clear hLAe hLK
      rw [e0] at g0 r23
      rw [e2] at g1 r35
      have HE0 := Lib.hid e0
      have HE2 := Lib.hid e2
      clear e0 e2
      have R23 := Lib.hid r23
      have R35 := Lib.hid r35
      have R37 := Lib.hid r37
      clear r23 r35 r37
      refine flowN_begin_tail 38 [23, 35, 37] [(19, [23, 35]), (31, [23, 35]), (23, []), (35, [23]), (37, [23, 35])] row (tellOf []) (by kernel_rfl) (by kernel_rfl) (by kernel_rfl) (by rfl) ?_
      simp only [List.take_succ_cons, List.take_zero, List.drop_succ_cons, List.drop_zero]
      repeat (refine flowN_val (v := ?_) LA (by rfl) hLA (by rfl) (by rfl) (fun w hb => ?_) ?_; rotate_left; (· ((go_simp) <;> ((repeat' apply And.intro) <;> with_reducible rfl))); try simp only [Act.put, List.setIfInBounds_toArray, List.set_cons_zero, List.set_cons_succ, Nat.reduceAdd])
      (refine flowN_pre (v := ?_) LK [23,35] (by rfl) hLKm (by rfl) (by rfl) (fun w hb => ?_) ?_; rotate_left; (· ((go_simp) <;> ((repeat' apply And.intro) <;> with_reducible rfl))); try simp only [Act.put, List.setIfInBounds_toArray, List.set_cons_zero, List.set_cons_succ, Nat.reduceAdd])
      repeat (refine flowN_val (v := ?_) LA (by rfl) hLA (by rfl) (by rfl) (fun w hb => ?_) ?_; rotate_left; (· ((go_simp) <;> ((repeat' apply And.intro) <;> with_reducible rfl))); try simp only [Act.put, List.setIfInBounds_toArray, List.set_cons_zero, List.set_cons_succ, Nat.reduceAdd])
      refine flowN_lits (n := ?_) (c := ?_) (t := ?_) (cs := ?_) LA (by rfl) hLA hrlt (by rfl) (by rfl) (fun w hb => ?_) (fun g22 hg22 => ?_); rotate_left 4; (· ((go_simp) <;> ((repeat' apply And.intro) <;> with_reducible rfl))); try simp only [Act.put, List.setIfInBounds_toArray, List.set_cons_zero, List.set_cons_succ, Nat.reduceAdd]
      have R23 := R23.out
      have R35 := R35.out
      have R37 := R37.out
      clear hd01 hd10 hgr0 hgb0 hge0 hr0 hr1 hrows hdis hbx
      have hszB : B ≤ W5.heap.size := by have := HB5.out.size; have := HWB.out; omega
      refine flowN_app none [] [] (by rfl) (by intro j hj; cases hj) [22] (by kernel_rfl) (by decide) (by rfl) (by rfl) (.tmp 72) (.tmp 75) 34 rfl B 3 q0 (.int .i64 0) 1 8 Tryd.underlying34 hi0 hz0 hz1 hz2 rfl (by decide) (.slice A0 (nearK k k).length c0) (nearK k k).length (ints (nearK k k)) rfl R23 HRA.out hszB (fun b _ h => by cases h) ⟨g22, 0, none⟩ 1 1 [.int .i64 ((k : Int) + 1)] rfl rfl (fun w hb hu => World.news_of_block (cs := #[.int .i64 ((k : Int) + 1)]) (t := 3) (fr := (0, 0)) (usef_head hu)) (by simp [Value.oneCell']) (by simp only [maxLen]; omega) (by omega) (fun _ _ _ b h => by cases h) (fun j hj hne b hb => by
        simp only [List.mem_cons, List.not_mem_nil, or_false] at hj
        rcases hj with rfl | rfl | rfl
        · exact absurd rfl hne
        · rw [R35] at hb; exact ⟨HDB.out b hb, (own_lt HRB.out b hb).2⟩
        · rw [R37] at hb; injection hb with hb; subst hb; exact ⟨HGA.out, HBX.out.lt⟩) fun A23 c23 => ?_
      try simp only [Act.put, List.setIfInBounds_toArray, List.set_cons_zero, List.set_cons_succ, Nat.reduceAdd]
      repeat (refine flowN_val (v := ?_) LA (by rfl) hLA (by rfl) (by rfl) (fun w hb => ?_) ?_; rotate_left; (· ((go_simp) <;> ((repeat' apply And.intro) <;> with_reducible rfl))); try simp only [Act.put, List.setIfInBounds_toArray, List.set_cons_zero, List.set_cons_succ, Nat.reduceAdd])
      (refine flowN_pre (v := ?_) LK [23,35] (by rfl) hLKm (by rfl) (by rfl) (fun w hb => ?_) ?_; rotate_left; (· ((go_simp) <;> ((repeat' apply And.intro) <;> with_reducible rfl))); try simp only [Act.put, List.setIfInBounds_toArray, List.set_cons_zero, List.set_cons_succ, Nat.reduceAdd])
      repeat (refine flowN_val (v := ?_) LA (by rfl) hLA (by rfl) (by rfl) (fun w hb => ?_) ?_; rotate_left; (· ((go_simp) <;> ((repeat' apply And.intro) <;> with_reducible rfl))); try simp only [Act.put, List.setIfInBounds_toArray, List.set_cons_zero, List.set_cons_succ, Nat.reduceAdd])
      refine flowN_lits (n := ?_) (c := ?_) (t := ?_) (cs := ?_) LA (by rfl) hLA hrlt (by rfl) (by rfl) (fun w hb => ?_) (fun g34 hg34 => ?_); rotate_left 4; (· ((go_simp) <;> ((repeat' apply And.intro) <;> with_reducible rfl))); try simp only [Act.put, List.setIfInBounds_toArray, List.set_cons_zero, List.set_cons_succ, Nat.reduceAdd]
      refine flowN_app (Value.slice A23 ((nearK k k).length + 1) c23).ownBlock [(Value.slice A0 (nearK k k).length c0).ownBlock] [23] (by rfl) (by intro j hj; simp only [List.mem_cons, List.not_mem_nil, or_false] at hj; subst hj; rw [R23]; exact List.mem_cons_self ..) [34, 23] (by kernel_rfl) (by decide) (by rfl) (by rfl) (.tmp 84) (.tmp 87) 34 rfl B 3 q0 (.int .i64 0) 1 8 Tryd.underlying34 hi0 hz0 hz1 hz2 rfl (by decide) (.slice A2 (nearK k (k + 1)).length c2) (nearK k (k + 1)).length (ints (nearK k (k + 1))) rfl R35 HRB.out hszB (fun b hb h => by rw [List.mem_singleton] at h; exact HDB.out b hb h.symm) ⟨g34, 0, none⟩ 1 1 [.int .i64 (k : Int)] rfl rfl (fun w hb hu => World.news_of_block (cs := #[.int .i64 (k : Int)]) (t := 3) (fr := (0, 0)) (usef_head hu)) (by simp [Value.oneCell']) (by simp only [maxLen]; omega) (by omega) (fun w hb hu b hb' => by
        have hF := usef_at (k := 23) rfl hu (by decide)
        refine ⟨(own_lt hF.1 b hb').2, fun h => ?_⟩
        rcases hF.2.1 with h' | h'
        · exact HDB.out b h (h'.symm.trans hb')
        · have := h' b hb'; have := (own_lt HRB.out b h).2; omega) (fun j hj hne b hb => by
        simp only [List.mem_cons, List.not_mem_nil, or_false] at hj
        rcases hj with rfl | rfl | rfl
        · rw [R23] at hb; exact ⟨HDA.out b hb, (own_lt HRA.out b hb).2⟩
        · exact absurd rfl hne
        · rw [R37] at hb; injection hb with hb; subst hb; exact ⟨HGB2.out, HBX.out.lt⟩) fun A35 c35 => ?_
      try simp only [Act.put, List.setIfInBounds_toArray, List.set_cons_zero, List.set_cons_succ, Nat.reduceAdd]
      repeat (refine flowN_val (v := ?_) LA (by rfl) hLA (by rfl) (by rfl) (fun w hb => ?_) ?_; rotate_left; (· ((go_simp) <;> ((repeat' apply And.intro) <;> with_reducible rfl))); try simp only [Act.put, List.setIfInBounds_toArray, List.set_cons_zero, List.set_cons_succ, Nat.reduceAdd])
      refine flowN_store (F := fun w => Box w gr 34 (#[vn 0, vn 1, vn 2, vn 3].setIfInBounds k (.slice A23 ((nearK k k).length + 1) c23))) LK [23, 35] (by rfl) hLKm [] (by kernel_rfl) (by decide) (by rfl) (by rfl) (fun j hj _ w w' ht h => h.grown ht (by
        split
        · rename_i hm
          simp only [List.mem_cons, List.not_mem_nil, or_false] at hm
          rcases hm with rfl | rfl | rfl
          · rw [R23]; exact fun h => HGA.out h.symm
          · rw [R35]; exact fun h => HGB2.out h.symm
          · exact absurd rfl hj
        · intro h; cases h)) (fun w hb hu => ?_) ?_
      · have hx := hb.box HBX.out nr
        have q1 : w.cell? ⟨gr, k, none⟩ = some (.slice A0 (nearK k k).length c0) := g0 w hb
        have qf : w.frozen? ⟨gr, k, none⟩ = false := hx.free k
        have ql := hx.lt
        exact ⟨w.setCell ⟨gr, k, none⟩ (.slice A23 ((nearK k k).length + 1) c23), by go_simp, hx.set_ k _, by rw [R37]; exact grown_set _ gr k _⟩
      refine flowN_nil LA (by rfl) hLA fun w6 hgrow hf => ?_
      have hb6 : Box w6 gr 34 (#[vn 0, vn 1, vn 2, vn 3].setIfInBounds k (.slice A23 ((nearK k k).length + 1) c23)) := hf.1
      have hF35 := hf.2.1
      have hF23 := hf.2.2.2.1
      have hx6 := hgrow.box HX5.out nb
      have hold : ∀ i, i < 4 → i ≠ k → i ≠ k + 1 → w6.ownsRow B 3 1 (vn i) (nearK k i).length (ints (nearK k i)) := fun i hi h1 h2 => hgrow.own (HROWS.out i hi) fun b hb h => by
        have hl : ∀ r ∈ LA, r = (vn k).ownBlock ∨ r = (vn (k + 1)).ownBlock ∨ r = some gr := HLAm.out
        rcases hl _ h with h | h | h
        · exact HDIS.out i k b hi (by omega) h1 hb h.symm
        · exact HDIS.out i (k + 1) b hi (by omega) h2 hb h.symm
        · exact HGR0.out i hi (hb.trans h)
      have ho6 := hgrow.own HO5.out fun b hb h => by
        have hl : ∀ r ∈ LA, r = (vn k).ownBlock ∨ r = (vn (k + 1)).ownBlock ∨ r = some gr := HLAm.out
        rcases hl _ h with h | h | h
        · exact HKA.out k b (by omega) h.symm hb
        · exact HKA.out (k + 1) b (by omega) h.symm hb
        · exact ownApart HO5.out HBX.out (by decide) b hb (Option.some.inj h)
      have hbw6 : Below B w w6 := hgrow.below HB5.out hszB fun b h => by
        have hl : ∀ r ∈ LA, r = (vn k).ownBlock ∨ r = (vn (k + 1)).ownBlock ∨ r = some gr := HLAm.out
        rcases hl _ h with h | h | h
        · exact (own_lt (HROWS.out k (by omega)) b h.symm).1
        · exact (own_lt (HROWS.out (k + 1) (by omega)) b h.symm).1
        · injection h with h; omega
      have hK5 : ∀ b, (Value.slice A1 1 c1).ownBlock = some b → b < W5.heap.size := fun b hb => (own_lt HO5.out b hb).2
      obtain ⟨W7, hW7⟩ : ∃ W7, W7 = w6.setCell ⟨gr, k + 1, none⟩ (.slice A35 ((nearK k (k + 1)).length + 1) c35) := ⟨_, rfl⟩
      have hfar : ∀ b, b ≠ gr → W7.heap[b]? = w6.heap[b]? := fun b hb => by rw [hW7]; exact Below.heap_setCell _ _ _ b hb
      obtain ⟨va, hva⟩ : ∃ va : Value, va = .slice A23 ((nearK k k).length + 1) c23 := ⟨_, rfl⟩
      obtain ⟨vb, hvb⟩ : ∃ vb : Value, vb = .slice A35 ((nearK k (k + 1)).length + 1) c35 := ⟨_, rfl⟩
      have hra : w6.ownsRow B 3 1 va ((nearK k k).length + 1) (ints (nearK k k) ++ [.int .i64 ((k : Int) + 1)]) := by rw [hva]; exact hF23.1
      have hrb : w6.ownsRow B 3 1 vb ((nearK k (k + 1)).length + 1) (ints (nearK k (k + 1)) ++ [.int .i64 (k : Int)]) := by rw [hvb]; exact hF35.1
      have hoa : va.ownBlock = (vn k).ownBlock ∨ ∀ b, va.ownBlock = some b → W5.heap.size ≤ b := by rw [hva, HE0.out]; exact hF23.2.1
      have hob : vb.ownBlock = (vn (k + 1)).ownBlock ∨ ∀ b, vb.ownBlock = some b → W5.heap.size ≤ b := by rw [hvb, HE2.out]; exact hF35.2.1
      have hab : ∀ b, va.ownBlock = some b → vb.ownBlock ≠ some b := by rw [hva, hvb]; exact hF35.2.2
      have hlt5 : ∀ i b, i < 4 → (vn i).ownBlock = some b → b < W5.heap.size := fun i b hi hb => (own_lt (HROWS.out i hi) b hb).2
      have hao : ∀ i b, i < 4 → i ≠ k → i ≠ k + 1 → va.ownBlock = some b → (vn i).ownBlock ≠ some b := fun i b hi h1 h2 hb h => by
        rcases hoa with h' | h'
        · exact HDIS.out i k b hi (by omega) h1 h (h'.symm.trans hb)
        · have := h' b hb; have := hlt5 i b hi h; omega
      have hbo : ∀ i b, i < 4 → i ≠ k → i ≠ k + 1 → vb.ownBlock = some b → (vn i).ownBlock ≠ some b := fun i b hi h1 h2 hb h => by
        rcases hob with h' | h'
        · exact HDIS.out i (k + 1) b hi (by omega) h2 h (h'.symm.trans hb)
        · have := h' b hb; have := hlt5 i b hi h; omega
      have HNN : Hid (NearS W7 B gr (k + 1) (fun i => if i = k then va else if i = k + 1 then vb else vn i)) := by
        refine ⟨?_, fun i hi => ?_, fun i j b hi hj hij h1 h2 => ?_⟩
        · have h := hb6.set_ (k + 1) vb
          rw [← hva] at h
          rw [← hvb] at hW7
          rw [← hW7] at h
          match k, hlt with
          | 0, _ => exact h
          | 1, _ => exact h
          | 2, _ => exact h
        · by_cases h1 : i = k
          · subst h1
            show W7.ownsRow B 3 1 (if i = i then va else _) _ _
            rw [if_pos rfl, nearK_lo, List.length_append, show ints (nearK i i ++ [(i : Int) + 1]) = ints (nearK i i) ++ [.int .i64 ((i : Int) + 1)] from by simp [ints]]
            exact own_heap hra fun b hb => hfar b (ownApart hra hb6 (by decide) b hb)
          · by_cases h2 : i = k + 1
            · subst h2
              show W7.ownsRow B 3 1 (if k + 1 = k then va else if k + 1 = k + 1 then vb else _) _ _
              rw [if_neg (by omega), if_pos rfl, nearK_hi, List.length_append, show ints (nearK k (k + 1) ++ [(k : Int)]) = ints (nearK k (k + 1)) ++ [.int .i64 (k : Int)] from by simp [ints]]
              exact own_heap hrb fun b hb => hfar b (ownApart hrb hb6 (by decide) b hb)
            · show W7.ownsRow B 3 1 (if i = k then va else if i = k + 1 then vb else vn i) _ _
              rw [if_neg h1, if_neg h2, nearK_same k i h1 h2]
              have hi6 := hold i hi h1 h2
              exact own_heap hi6 fun b hb => hfar b (ownApart hi6 hb6 (by decide) b hb)
        · have e : ∀ i, (fun i => if i = k then va else if i = k + 1 then vb else vn i) i = if i = k then va else if i = k + 1 then vb else vn i := fun _ => rfl
          clear e
          simp only at h1 h2
          by_cases a1 : i = k
          · rw [if_pos a1] at h1
            by_cases a2 : j = k + 1
            · rw [if_neg (by omega), if_pos a2] at h2; exact hab b h1 h2
            · rw [if_neg (by omega), if_neg a2] at h2; exact hao j b hj (by omega) a2 h1 h2
          · by_cases a1' : i = k + 1
            · rw [if_neg a1, if_pos a1'] at h1
              by_cases a2 : j = k
              · rw [if_pos a2] at h2; exact hab b h2 h1
              · rw [if_neg a2, if_neg (by omega)] at h2; exact hbo j b hj a2 (by omega) h1 h2
            · rw [if_neg a1, if_neg a1'] at h1
              by_cases a2 : j = k
              · rw [if_pos a2] at h2; exact hao i b hi a1 a1' h2 h1
              · by_cases a3 : j = k + 1
                · rw [if_neg a2, if_pos a3] at h2; exact hbo i b hi a1 a1' h2 h1
                · rw [if_neg a2, if_neg a3] at h2; exact HDIS.out i j b hi hj hij h1 h2
      have HKN : Hid (∀ i b, i < 4 → (if i = k then va else if i = k + 1 then vb else vn i).ownBlock = some b → (Value.slice A1 1 c1).ownBlock ≠ some b) := fun i b hi h hk' => by
        by_cases a1 : i = k
        · rw [if_pos a1] at h
          rcases hoa with h' | h'
          · exact HKA.out k b (by omega) (h'.symm.trans h) hk'
          · have := h' b h; have := hK5 b hk'; omega
        · by_cases a2 : i = k + 1
          · rw [if_neg a1, if_pos a2] at h
            rcases hob with h' | h'
            · exact HKA.out (k + 1) b (by omega) (h'.symm.trans h) hk'
            · have := h' b h; have := hK5 b hk'; omega
          · rw [if_neg a1, if_neg a2] at h
            exact HKA.out i b hi h hk'
      have HX7 : Hid (Box W7 gb 74 #[.slice A1 1 c1, .slice (some ⟨gr, 0, none⟩) 4 4, .slice none 0 0]) := (hfar gb (fun e => hgrb e.symm)).trans hx6
      have HO7 : Hid (W7.ownsRow B 3 1 (.slice A1 1 c1) 1 [.int .i64 key]) := own_heap ho6 fun b hb => hfar b (ownApart ho6 hb6 (by decide) b hb)
      have HB7 : Hid (Below B w W7) := by rw [hW7]; exact hbw6.setCell (p := ⟨gr, k + 1, none⟩) (by show B ≤ gr; omega) _
      have q1 : ∃ v, w6.cell? ⟨gr, k + 1, none⟩ = some v := ⟨_, by rw [hb6.cell (k + 1), Array.getElem?_eq_getElem (by simp; omega)]⟩
      obtain ⟨vq, q1⟩ := q1
      have qf : w6.frozen? ⟨gr, k + 1, none⟩ = false := hb6.free (k + 1)
      have ql := hb6.lt
      clear hb6 hF35 hF23 hx6 hold ho6 hbw6 hK5 hfar hra hrb hoa hob hab hlt5 hao hbo hva hvb hgrow hf d1 z0 z1 g0 g1 hcell nb ne hrlt hLA hLKm nr hx5 hgeg HLAm HRA HRB HDA HDB HGA HGB2 HBX HROWS HDIS HGR0 R23 R35 R37 HE0 HE2 HN5 HX5 HO5 HB5
      refine wpList_step fun K hK => ?_
      rw [if_pos (by rfl)]
      go_simp
      refine hK _ _ ?_
      clear hK K
      refine wpList_step fun K hK => ?_
      rw [if_pos (by rfl)]
      go_simp
      refine hK _ _ (wpList_nil ?_)
      clear hK K q1 qf ql i1 i2 i3
      rw [← hW7]
      clear hW7
      go_wp2_with fail
      go_roundw
      case rel => exact ⟨k + 1, _, by omega, by go_num, HNN, HX7, HO7, HKN, HB7⟩
      case measure => simp [intOf]; omega
    · have hk3 : k = 3 := by omega
      have hn3 := hn.out
      rw [hk3] at hn3
      have HN3 := Lib.hid hn3
      have tk : decide ((k : Int) < 3) = false := decide_eq_false (by omega)
      clear hk3 hn3 hn HKA
      go_upto_region 19 with fail
      have HH : Hid (HeldS wr B (.slice none 0 0) []) := ⟨World.ownsRow_nil _ _ _ _, (fun b hb => by cases hb), List.nodup_nil⟩
      rename World => w9
      go_wp2_with fail
      go_loopw [93] (fun i wr => ∃ (j : Nat) (hA : Option Addr) (hc : Nat) (bl : List Nat), j ≤ 4 ∧ i = .int .i64 (j : Int) ∧ Hid (bl.length = j) ∧ Hid (HeldS wr B (.slice hA j hc) bl) ∧ Hid (NearS wr B gr 3 vn) ∧ Hid (Box wr gb 74 #[.slice A1 1 c1, .slice (some ⟨gr, 0, none⟩) 4 4, .slice hA j hc]) ∧ Hid (wr.ownsRow B 3 1 (.slice A1 1 c1) 1 [.int .i64 key]) ∧ Hid (Below B w wr)) (fun i _ => 4 - (intOf i).toNat)
      case atStart => exact ⟨0, none, 0, [], by omega, rfl, rfl, HH, HN3, hx, ho, hbr⟩
      case round =>
        clear HH HN3 hx ho hbr
        obtain ⟨j, hA, hc, bl, hj, rfl, hlen, hh, hn, hx, ho, hbr⟩ := hrel
        by_cases hlt : j < 4
        · obtain ⟨h1, h2, h3⟩ := hh.out
          rw [hlen.out] at h1
          have hsz : B ≤ wr.heap.size := by have := hbr.out.size; have := HWB.out; omega
          have hbl : ∀ b, (Value.slice hA j hc).ownBlock = some b → b < wr.heap.size := fun b hb => (own_lt h1 b hb).2
          have hX := hx.out
          have gbo : some gb ≠ (Value.slice hA j hc).ownBlock := fun e => ownApart h1 hX (by decide) gb e.symm rfl
          have d2 : ∀ W, wr.grownBy W (Value.slice hA j hc).ownBlock → W.cell? ⟨gb, 2, none⟩ = some (.slice hA j hc) := fun W hW => (hX.grown hW gbo).cell 2
          have hmk : ∀ W, (Instr.makeSlice 75 (.int .i64 1) (.int .i64 1)).run Tryd.prog W = .ok (.slice (some ⟨W.heap.size, 0, none⟩) 1 1) (W.alloc (.cells #[.int .i64 0, .int .i64 0, .string ⟨#[]⟩, .int .i64 0] 39)) := fun W => by
            obtain ⟨i0, hi0, hz0, hz1, hz2⟩ := info_parts nt_info
            have := run_make (P := Tryd.prog) W 75 39 i0 (.agg #[.int .i64 0, .int .i64 0, .string ⟨#[]⟩, .int .i64 0]) Tryd.underlying75 hi0 hz0 .i64 .i64 1 1 (by omega) (by omega) (by rw [hz2]; omega) (by omega)
            rw [hz1, show madeCells (Value.agg #[.int .i64 0, .int .i64 0, .string ⟨#[]⟩, .int .i64 0]).cells (Int.toNat 1 * 4) = #[.int .i64 0, .int .i64 0, .string ⟨#[]⟩, .int .i64 0] from by kernel_rfl] at this
            exact this
          obtain ⟨q0, hi0, hz0, hz1, hz2⟩ := info_parts (show (Tryd.prog.info? 75).map (fun i => (i.zero, i.size, i.bytes)) = some (some (.slice none 0 0), 1, 24) by kernel_rfl)
          go_upto_region 21 with fail
          refine flowG_begin_tail 10 9 (Value.slice hA j hc).ownBlock (tellOf []) (by kernel_rfl) (by kernel_rfl) ?_
          simp only [List.take_succ_cons, List.take_zero, List.drop_succ_cons, List.drop_zero]
          repeat (first | (refine flowG_val (v := ?_) (by rfl) (by rfl) (fun w hb => ?_) ?_; rotate_left; (· ((go_simp) <;> ((repeat' apply And.intro) <;> with_reducible rfl))); try simp only [Act.put, List.setIfInBounds_toArray, List.set_cons_zero, List.set_cons_succ, Nat.reduceAdd]) | (refine flowG_skip (by rfl) (by rfl) ?_; try simp only [Act.put, List.setIfInBounds_toArray, List.set_cons_zero, List.set_cons_succ, Nat.reduceAdd]))
          refine flowG_lits (n := ?_) (c := ?_) (t := ?_) (cs := ?_) hbl (by rfl) (by rfl) (fun w hb => ?_) (fun g7 hg7 => ?_); rotate_left 4; (· ((go_simp) <;> ((repeat' apply And.intro) <;> with_reducible rfl))); try simp only [Act.put, List.setIfInBounds_toArray, List.set_cons_zero, List.set_cons_succ, Nat.reduceAdd]
          refine flowG_lits (n := ?_) (c := ?_) (t := ?_) (cs := ?_) hbl (by rfl) (by rfl) (fun w hb => ?_) (fun g8 hg8 => ?_); rotate_left 4; (· ((go_simp) <;> ((repeat' apply And.intro) <;> with_reducible rfl))); try simp only [Act.put, List.setIfInBounds_toArray, List.set_cons_zero, List.set_cons_succ, Nat.reduceAdd]
          refine flowG_app [8] (by kernel_rfl) rfl (by rfl) (by rfl) (.tmp 99) (.tmp 103) 72 rfl B 75 q0 (.slice none 0 0) 1 24 Tryd.underlying72 hi0 hz0 hz1 hz2 rfl (by decide) (.slice hA j hc) j (bl.map fun b => .slice (some ⟨b, 0, none⟩) 1 1) rfl rfl h1 hsz ⟨g8, 0, none⟩ 1 1 [.slice (some ⟨g7, 0, none⟩) 1 1] rfl rfl (fun w hb hu => World.news_of_block (cs := #[.slice (some ⟨g7, 0, none⟩) 1 1]) (t := 75) (fr := (0, 0)) (usef_head hu)) (by simp [Value.oneCell']) (by simp only [maxLen]; omega) (by omega) fun A9 c9 => ?_
          try simp only [Act.put, List.setIfInBounds_toArray, List.set_cons_zero, List.set_cons_succ, Nat.reduceAdd]
          refine flowG_nil fun w6 hgrow hf => ?_
          have ho6 : w6.ownsRow B 75 1 (.slice A9 (j + 1) c9) (j + 1) ((bl.map fun b => .slice (some ⟨b, 0, none⟩) 1 1) ++ [.slice (some ⟨g7, 0, none⟩) 1 1]) := hf.1
          have hb7 : Box w6 g7 39 #[.int .i64 0, .int .i64 0, .string ⟨#[]⟩, .int .i64 0] := hf.2.2.1
          have gro : some gr ≠ (Value.slice hA j hc).ownBlock := fun e => ownApart h1 hn.out.1 (by decide) gr e.symm rfl
          have hn6 := hn.out.grown hgrow gro fun i b hi hb e => rows_apart (hn.out.2.1 i hi) h1 (by decide) b hb e.symm
          have hx6 := hX.grown hgrow gbo
          have hk6 := own_heap ho.out fun b hb => hgrow.block b (own_lt ho.out b hb).2 fun e => rows_apart ho.out h1 (by decide) b hb e.symm
          have hbw6 : Below B w w6 := hbr.out.grown hgrow hsz fun b hb => (own_lt h1 b hb).1
          have hbs6 : ∀ b ∈ bl, B ≤ b ∧ Box w6 b 39 #[.int .i64 0, .int .i64 0, .string ⟨#[]⟩, .int .i64 0] ∧ b < wr.heap.size := fun b hb => ⟨(h2 b hb).1, (h2 b hb).2.grown hgrow (fun e => ownApart h1 (h2 b hb).2 (by decide) b e.symm rfl), (h2 b hb).2.lt⟩
          have hbne : ∀ b, Box w6 b 39 #[.int .i64 0, .int .i64 0, .string ⟨#[]⟩, .int .i64 0] → b ≠ gb := fun b hb e => by
            subst e
            have h := Option.some.inj (hb.symm.trans hx6)
            injection h with h1 h2
            exact absurd h2 (by decide)
          obtain ⟨W7, hW7⟩ : ∃ W7, W7 = w6.setCell ⟨gb, 2, none⟩ (.slice A9 (j + 1) c9) := ⟨_, rfl⟩
          have hfar : ∀ b, b ≠ gb → W7.heap[b]? = w6.heap[b]? := fun b hb => by rw [hW7]; exact Below.heap_setCell _ _ _ b hb
          have HH7 : Hid (HeldS W7 B (.slice A9 (j + 1) c9) (bl ++ [g7])) := by
            refine ⟨?_, fun b hb => ?_, ?_⟩
            · rw [List.length_append, List.map_append, hlen.out]
              exact own_heap ho6 fun b hb => hfar b (ownApart ho6 hx6 (by decide) b hb)
            · rcases List.mem_append.1 hb with hb | hb
              · exact ⟨(hbs6 b hb).1, (hfar b (hbne b (hbs6 b hb).2.1)).trans (hbs6 b hb).2.1⟩
              · obtain rfl := List.mem_singleton.1 hb
                exact ⟨by omega, (hfar b (hbne b hb7)).trans hb7⟩
            · refine List.nodup_append.2 ⟨h3, by simp, fun a ha b hb => ?_⟩
              obtain rfl := List.mem_singleton.1 hb
              have := (hbs6 a ha).2.2
              omega
          have HL7 : Hid ((bl ++ [g7]).length = j + 1) := by unfold Hid; rw [List.length_append, hlen.out]; rfl
          have HN7 : Hid (NearS W7 B gr 3 vn) := by rw [hW7]; exact hn6.far _ hgrb (fun i b hi hb => ownApart (hn6.2.1 i hi) hx6 (by decide) b hb)
          have HX7 : Hid (Box W7 gb 74 #[.slice A1 1 c1, .slice (some ⟨gr, 0, none⟩) 4 4, .slice A9 (j + 1) c9]) := by rw [hW7]; exact hx6.set_ 2 _
          have HO7 : Hid (W7.ownsRow B 3 1 (.slice A1 1 c1) 1 [.int .i64 key]) := own_heap hk6 fun b hb => hfar b (ownApart hk6 hx6 (by decide) b hb)
          have HB7 : Hid (Below B w W7) := by rw [hW7]; exact hbw6.setCell (p := ⟨gb, 2, none⟩) (by show B ≤ gb; omega) _
          have q1 : w6.cell? ⟨gb, 2, none⟩ = some (.slice hA j hc) := hx6.cell 2
          have qf : w6.frozen? ⟨gb, 2, none⟩ = false := hx6.free 2
          have ql := hx6.lt
          clear hfar hbne hbs6 hbw6 hk6 hx6 hn6 gro ho6 hb7 hf hgrow d2 hmk gbo hX h1 h2 h3 hbl hh hn hx ho hbr hlen
          refine wpList_step fun K hK => ?_
          rw [if_pos (by rfl)]
          go_simp
          refine hK _ _ ?_
          clear hK K
          refine wpList_step fun K hK => ?_
          rw [if_pos (by rfl)]
          go_simp
          refine hK _ _ ?_
          clear hK K
          refine wpList_step fun K hK => ?_
          rw [if_pos (by rfl)]
          go_simp
          refine hK _ _ (wpList_nil ?_)
          clear hK K q1 qf ql
          rw [← hW7]
          clear hW7
          go_wp2_with fail
          go_roundw
          case rel => exact ⟨j + 1, A9, c9, bl ++ [g7], by omega, by go_num, HL7, HH7, HN7, HX7, HO7, HB7⟩
          case measure => simp [intOf]; omega
        · have hj4 : j = 4 := by omega
          have tj : decide ((j : Int) < 4) = false := decide_eq_false (by omega)
          have hl4 := hlen.out
          rw [hj4] at hl4
          have hH := hh.out
          have hX := hx.out
          rw [hj4] at hH hX
          have HFin : Hid (∃ bs : Nat → Nat, (∀ N : Nat → Ntx, N 0 = nt0 → NetIn wr B gb key N (fun _ => 0) bs) ∧ ∀ i j, i < 4 → j < 4 → i ≠ j → bs i ≠ bs j) := by
            obtain ⟨h1, h2, h3⟩ := hH
            match bl, hl4, h1, h2, h3 with
            | [b0, b1, b2, b3], _, h1, h2, h3 =>
              obtain ⟨gh, ch, hv, _, _⟩ := h1.form (by show 0 < 4; omega)
              cases hv
              refine ⟨fun i => if i = 0 then b0 else if i = 1 then b1 else if i = 2 then b2 else b3, fun N hN => ⟨A1, c1, gr, vn, gh, hc, fun _ => 1, hgb, hX, ho.out, hn.out, h1, fun i hi => ?_⟩, fun i j hi hj hij => ?_⟩
              · have key : ∀ b ∈ [b0, b1, b2, b3], wr.ownsRow B 39 4 (.slice (some ⟨b, 0, none⟩) 1 1) 1 (ntC (N 0)) := fun b hb => by
                  rw [hN]
                  exact ⟨rfl, .inr ⟨b, 1, _, rfl, (h2 b hb).1, (h2 b hb).2, by omega, by unfold maxLen; omega, rfl, rfl⟩⟩
                match i, hi with
                | 0, _ => exact key b0 (by simp)
                | 1, _ => exact key b1 (by simp)
                | 2, _ => exact key b2 (by simp)
                | 3, _ => exact key b3 (by simp)
              · simp only [List.nodup_cons, List.mem_cons, List.not_mem_nil, or_false, not_or] at h3
                obtain ⟨⟨p1, p2, p3⟩, ⟨p4, p5⟩, p6, _⟩ := h3
                match i, j, hi, hj, hij with
                | 0, 1, _, _, _ => exact p1
                | 0, 2, _, _, _ => exact p2
                | 0, 3, _, _, _ => exact p3
                | 1, 0, _, _, _ => exact fun e => p1 e.symm
                | 1, 2, _, _, _ => exact p4
                | 1, 3, _, _, _ => exact p5
                | 2, 0, _, _, _ => exact fun e => p2 e.symm
                | 2, 1, _, _, _ => exact fun e => p4 e.symm
                | 2, 3, _, _, _ => exact p6
                | 3, 0, _, _, _ => exact fun e => p3 e.symm
                | 3, 1, _, _, _ => exact fun e => p5 e.symm
                | 3, 2, _, _, _ => exact fun e => p6 e.symm
                | 0, 0, _, _, h => exact absurd rfl h
                | 1, 1, _, _, h => exact absurd rfl h
                | 2, 2, _, _, h => exact absurd rfl h
                | 3, 3, _, _, h => exact absurd rfl h
          clear hj4 hl4 hH hX hh hn hx ho hlen
          go_wp2_with fail
          go_ret2
          obtain ⟨bs, f1, f2⟩ := HFin.out
          rw [HWB.out]
          exact ⟨gb, bs, rfl, hbr.out, f1, f2⟩
end Go.Proofs.YtifhlmakacoicaaDoor

/- Contracts of package spread: isNode, isAuthor, Put. -/
namespace Go.Proofs.YtifhlmakacoicaaDoor
open Go.RowKit
set_option linter.unusedVariables false

set_option maxRecDepth 100000 in
theorem isNode_yes {w : World} {B gb : Nat} {key : Int} {N : Nat → Ntx} {ks bs : Nat → Nat} (h : NetIn w B gb key N ks bs) (i : Nat) (hi : i < 4) :
    Calls Tryd.prog 32 #[.pointer (some ⟨gb, 0, none⟩), .int .i64 (i : Int)] w fun e w' => e = .returned (.bool true) ∧ w = w' := by
  obtain ⟨Ak, ck, gr, vn, gh, ch, cs, h1, h2, h3, h4, h5, h6⟩ := h
  have c2 : w.cell? ⟨gb, 2, none⟩ = some (.slice (some ⟨gh, 0, none⟩) 4 ch) := h2.cell 2
  have t1 : decide ((0 : Int) ≤ (i : Int)) = true := decide_eq_true (by omega)
  have t2 : decide ((i : Int) < 4) = true := decide_eq_true (by omega)
  clear h1 h2 h3 h4 h5 h6
  go_enter Tryd.func32, Tryd.ntmps32
  go_wp2_with fail
  go_ret
  exact ⟨rfl, rfl⟩
set_option maxRecDepth 100000 in
theorem isAuthor_yes {w : World} {B gb : Nat} {key : Int} {N : Nat → Ntx} {ks bs : Nat → Nat} (h : NetIn w B gb key N ks bs) :
    Calls Tryd.prog 33 #[.pointer (some ⟨gb, 0, none⟩), .int .i64 0] w fun e w' => e = .returned (.bool true) ∧ w = w' := by
  obtain ⟨Ak, ck, gr, vn, gh, ch, cs, h1, h2, h3, h4, h5, h6⟩ := h
  have c0 : w.cell? ⟨gb, 0, none⟩ = some (.slice Ak 1 ck) := h2.cell 0
  clear h1 h2 h3 h4 h5 h6
  go_enter Tryd.func33, Tryd.ntmps33
  go_wp2_with fail
  go_ret
  exact ⟨rfl, rfl⟩

/-- the row of node i -/
theorem held_cell {w : World} {B gh ch : Nat} {bs cs : Nat → Nat} (h : w.ownsRow B 75 1 (.slice (some ⟨gh, 0, none⟩) 4 ch) 4 [.slice (some ⟨bs 0, 0, none⟩) 1 (cs 0), .slice (some ⟨bs 1, 0, none⟩) 1 (cs 1), .slice (some ⟨bs 2, 0, none⟩) 1 (cs 2), .slice (some ⟨bs 3, 0, none⟩) 1 (cs 3)]) (i : Nat) (hi : i < 4) :
    w.cell? ⟨gh, i, none⟩ = some (.slice (some ⟨bs i, 0, none⟩) 1 (cs i)) := by
  obtain ⟨b, o, e, _, hc⟩ := (Row.of_own h).open_ (by simp)
  cases e
  match i, hi with
  | 0, _ => exact hc 0 _ rfl
  | 1, _ => exact hc 1 _ rfl
  | 2, _ => exact hc 2 _ rfl
  | 3, _ => exact hc 3 _ rfl
/-- the notice of a row of one is replaced -/
theorem own_nt_set {w : World} {B b c : Nat} {xs : List Value} (h : w.ownsRow B 39 4 (.slice (some ⟨b, 0, none⟩) 1 c) 1 xs) :
    b < w.heap.size ∧ B ≤ b ∧ (∃ cur : Array Value, 4 ≤ cur.size ∧ Box w b 39 cur) ∧
      ∀ W x y z u, Below w.heap.size w W → ((((W.setCell ⟨b, 0, none⟩ x).setCell ⟨b, 1, none⟩ y).setCell ⟨b, 2, none⟩ z).setCell ⟨b, 3, none⟩ u).ownsRow B 39 4 (.slice (some ⟨b, 0, none⟩) 1 c) 1 [x, y, z, u] := by
  rcases h.2 with ⟨h0, _⟩ | ⟨g, cap, cur, hv, hbg, hg, hnc, hcm, hcs, htk⟩
  · cases h0
  · cases hv
    have hbx : Box w b 39 cur := hg
    refine ⟨hbx.lt, hbg, ⟨cur, by omega, hbx⟩, fun W x y z u hW => ⟨rfl, .inr ⟨b, c, _, rfl, hbg, ((((hbx.below hW).set_ 0 x).set_ 1 y).set_ 2 z).set_ 3 u, hnc, hcm, by simpa using hcs, ?_⟩⟩⟩
    have hsz : 4 ≤ cur.toList.length := by rw [Array.length_toList]; omega
    match h3 : cur.toList, hsz with
    | a :: b :: c :: d :: r, _ =>
      have : cur = (a :: b :: c :: d :: r).toArray := by rw [← h3]
      subst this
      rfl

def PutQ (B gb : Nat) (key : Int) (N : Nat → Ntx) (ks bs : Nat → Nat) (i a : Nat) (w : World) (e : Ending) (w' : World) : Prop :=
  e = .returned (.int .i64 0) ∧ NetIn w' B gb key N (fun j => if j = i then a else ks j) bs ∧ Below B w w' ∧ w.grownBy w' (some (bs i))
set_option maxHeartbeats 4000000 in
set_option maxRecDepth 100000 in
theorem put_yes {w : World} {B gb : Nat} {key : Int} {N : Nat → Ntx} {ks bs : Nat → Nat} (h : NetIn w B gb key N ks bs) (hd : ∀ i j, i < 4 → j < 4 → i ≠ j → bs i ≠ bs j) (i a : Nat) (hi : i < 4) (M : Int) (T : ByteArray) (hB : B ≤ w.heap.size) (h0 : (N (ks i)).n = 0) (ha : N a = ⟨M, T, sumV key M T⟩)
    (k1 : 1 ≤ key) (k2 : key ≤ 1000000) (m1 : 1 ≤ M) (m2 : M ≤ 2147483647) (hs : T.size ≤ 200) (hall : AllIn 32 126 T) (hp : Pow w) :
    Calls Tryd.prog 10 #[.pointer (some ⟨gb, 0, none⟩), .int .i64 (i : Int), .agg #[.int .i64 0, .int .i64 M, .string T, .int .i64 (sumV key M T)]] w (PutQ B gb key N ks bs i a w) := by
  obtain ⟨v1, v2⟩ := sumV_in key M T
  have HCk := Lib.hid (fun W => ncheck_yes M (sumV key M T) T W m1 m2 v1 v2 hs hall)
  have HRi := Lib.hid (fun W (hW : Below w.heap.size w W) => nright_yes key M T W k1 k2 m1 m2 hs hall (hp.next hW))
  have HIn := Lib.hid (fun W (hW : Below w.heap.size w W) => h.next hW)
  have HD := Lib.hid hd
  have H0 := Lib.hid h0
  clear hd h0 h hp hall
  unfold PutQ
  generalize sumV key M T = V at *
  have HA := Lib.hid ha
  clear ha
  have HX0 := Lib.hid (Box.new w 39 #[.int .i64 0, .int .i64 M, .string T, .int .i64 V])
  have HB0 := Lib.hid (below_alloc1 w (Obj.cells #[.int .i64 0, .int .i64 M, .string T, .int .i64 V] 39))
  go_enter Tryd.func10, Tryd.ntmps10
  go_upto_region 1 with fail
  generalize w.alloc (Obj.cells #[.int .i64 0, .int .i64 M, .string T, .int .i64 V] 39) = W0 at *
  obtain ⟨g, hg⟩ : ∃ g, g = w.heap.size := ⟨_, rfl⟩
  rw [← hg] at HX0 ⊢
  have HG := Lib.hid hg
  clear hg
  have HI0 := Lib.hid (HIn.out W0 HB0.out)
  have HIs := Lib.hid (isNode_yes HI0.out i hi)
  go_upto_region 3 with (go_at_call 32; refine HIs.out.mono ?_; rintro e w' ⟨rfl, rfl⟩)
  have x0 : W0.cell? ⟨g, 0, none⟩ = some (.int .i64 0) := HX0.out.cell 0
  have x1 : W0.cell? ⟨g, 1, none⟩ = some (.int .i64 M) := HX0.out.cell 1
  have x2 : W0.cell? ⟨g, 2, none⟩ = some (.string T) := HX0.out.cell 2
  have x3 : W0.cell? ⟨g, 3, none⟩ = some (.int .i64 V) := HX0.out.cell 3
  have hl0 := HX0.out.lt
  go_upto_region 4 with (go_at_call 29; refine (HCk.out _).mono ?_; rintro e w1 ⟨rfl, hb1⟩)
  have HX1 := Lib.hid (HX0.out.below hb1)
  have HB1 := Lib.hid (below_then HB0.out hb1)
  have HI1 := Lib.hid (HI0.out.next hb1)
  clear x0 x1 x2 x3 hl0 hb1 HX0 HB0 HCk HIs HI0
  have x0 : w1.cell? ⟨g, 0, none⟩ = some (.int .i64 0) := HX1.out.cell 0
  have hl1 := HX1.out.lt
  have HIa := Lib.hid (isAuthor_yes HI1.out)
  go_upto_region 8 with (go_at_call 33; refine HIa.out.mono ?_; rintro e w' ⟨rfl, rfl⟩)
  clear x0 HIa HIn
  obtain ⟨Ak, ck, gr, vn, gh, ch, cs, h1, h2, h3, h4, h5, h6⟩ := HI1.out
  obtain ⟨bk, _, hvk, _, _⟩ := h3.form (by omega)
  cases hvk
  obtain ⟨bk', ok, ek, hbk, hck⟩ := (Row.of_own h3).open_ (by simp)
  cases ek
  have a0 : ∀ W, Below w1.heap.size w1 W → W.cell? ⟨gb, 0, none⟩ = some (.slice (some ⟨bk, 0, none⟩) 1 ck) := fun W hW => (h2.below hW).cell 0
  have ak : ∀ W, Below w1.heap.size w1 W → W.cell? ⟨bk, 0, none⟩ = some (.int .i64 key) := fun W hW => (hW.cell (p := ⟨bk, 0, none⟩) hbk).trans (hck 0 _ rfl)
  have b0 : ∀ W, Below w1.heap.size w1 W → W.cell? ⟨g, 0, none⟩ = some (.int .i64 0) := fun W hW => (HX1.out.below hW).cell 0
  have b1 : ∀ W, Below w1.heap.size w1 W → W.cell? ⟨g, 1, none⟩ = some (.int .i64 M) := fun W hW => (HX1.out.below hW).cell 1
  have b2 : ∀ W, Below w1.heap.size w1 W → W.cell? ⟨g, 2, none⟩ = some (.string T) := fun W hW => (HX1.out.below hW).cell 2
  have b3 : ∀ W, Below w1.heap.size w1 W → W.cell? ⟨g, 3, none⟩ = some (.int .i64 V) := fun W hW => (HX1.out.below hW).cell 3
  have H2 := Lib.hid h2
  have H3 := Lib.hid h3
  have H4 := Lib.hid h4
  have H5 := Lib.hid h5
  have H6 := Lib.hid h6
  have HBg := Lib.hid h1
  clear h1 h2 h3 h4 h5 h6 hck HI1
  refine flow_begin (tellOf [(9, det (.tuple #[.bool true, .int .i64 0]))]) (by kernel_rfl) (by kernel_rfl) ?_
  repeat (first | (refine flow_val (v := ?_) (by rfl) (by rfl) (fun w hb => ?_) ?_; rotate_left; (· ((go_simp) <;> ((repeat' apply And.intro) <;> with_reducible rfl))); try simp only [Act.put, List.setIfInBounds_toArray, List.set_cons_zero, List.set_cons_succ, Nat.reduceAdd]) | (refine flow_skip (by rfl) (by rfl) ?_; try simp only [Act.put, List.setIfInBounds_toArray, List.set_cons_zero, List.set_cons_succ, Nat.reduceAdd]))
  refine flow_call (f := ?_) (args := ?_) [] (by kernel_rfl) (by rfl) (by rfl) (fun w hb => ?_) (fun w hb hu => ?_) ?_; rotate_left 2; (· ((go_simp) <;> ((repeat' apply And.intro) <;> with_reducible rfl)))
  · exact HRi.out w (below_then HB1.out hb)
  try simp only [Act.put, List.setIfInBounds_toArray, List.set_cons_zero, List.set_cons_succ, Nat.reduceAdd]
  repeat (first | (refine flow_val (v := ?_) (by rfl) (by rfl) (fun w hb => ?_) ?_; rotate_left; (· ((go_simp) <;> ((repeat' apply And.intro) <;> with_reducible rfl))); try simp only [Act.put, List.setIfInBounds_toArray, List.set_cons_zero, List.set_cons_succ, Nat.reduceAdd]) | (refine flow_skip (by rfl) (by rfl) ?_; try simp only [Act.put, List.setIfInBounds_toArray, List.set_cons_zero, List.set_cons_succ, Nat.reduceAdd]))
  refine flow_nil fun w2 hb2 _ => ?_
  have HX2 := Lib.hid (HX1.out.below hb2)
  have HB2 := Lib.hid (below_then HB1.out hb2)
  have HG2 := Lib.hid (H2.out.below hb2)
  have HK2 := Lib.hid (own_next H3.out hb2)
  have HN2 := Lib.hid (H4.out.next hb2)
  have HH2 := Lib.hid (own_next H5.out hb2)
  have HR2 := Lib.hid (fun j hj => own_next (H6.out j hj) hb2)
  clear a0 ak b0 b1 b2 b3 hb2 HX1 HB1 H2 H3 H4 H5 H6 HRi hbk hl1
  go_upto_region 11 with fail
  have c2 : ∀ W, Below w2.heap.size w2 W → W.cell? ⟨gb, 2, none⟩ = some (.slice (some ⟨gh, 0, none⟩) 4 ch) := fun W hW => (HG2.out.below hW).cell 2
  have ci : ∀ W, Below w2.heap.size w2 W → W.cell? ⟨gh, i, none⟩ = some (.slice (some ⟨bs i, 0, none⟩) 1 (cs i)) := fun W hW => held_cell (own_next HH2.out hW) i hi
  have b0 : ∀ W, Below w2.heap.size w2 W → W.cell? ⟨g, 0, none⟩ = some (.int .i64 0) := fun W hW => (HX2.out.below hW).cell 0
  have i1 : (0 : Int) ≤ (i : Int) ∧ (i : Int) < 4 := by omega
  refine flow_begin (tellOf []) (by kernel_rfl) (by kernel_rfl) ?_
  repeat (first | (refine flow_val (v := ?_) (by rfl) (by rfl) (fun w hb => ?_) ?_; rotate_left; (· ((go_simp) <;> ((repeat' apply And.intro) <;> with_reducible rfl))); try simp only [Act.put, List.setIfInBounds_toArray, List.set_cons_zero, List.set_cons_succ, Nat.reduceAdd]) | (refine flow_skip (by rfl) (by rfl) ?_; try simp only [Act.put, List.setIfInBounds_toArray, List.set_cons_zero, List.set_cons_succ, Nat.reduceAdd]))
  refine flow_nil fun w3 hb3 _ => ?_
  have HX3 := Lib.hid (HX2.out.below hb3)
  have HB3 := Lib.hid (below_then HB2.out hb3)
  have HG3 := Lib.hid (HG2.out.below hb3)
  have HK3 := Lib.hid (own_next HK2.out hb3)
  have HN3 := Lib.hid (HN2.out.next hb3)
  have HH3 := Lib.hid (own_next HH2.out hb3)
  have HR3 := Lib.hid (fun j hj => own_next (HR2.out j hj) hb3)
  clear c2 ci b0 i1 hb3 HX2 HB2 HG2 HK2 HN2 HH2 HR2
  go_upto_region 12 with fail
  have e1 : ∀ W, Below w3.heap.size w3 W → W.cell? ⟨bs i, 1, none⟩ = some (.int .i64 0) := fun W hW => by
    have h := (nt_row (Row.of_ownS (own_next (HR3.out i hi) hW))).2.2.1
    rw [H0.out] at h
    exact h
  refine flow_begin (tellOf []) (by kernel_rfl) (by kernel_rfl) ?_
  repeat (first | (refine flow_val (v := ?_) (by rfl) (by rfl) (fun w hb => ?_) ?_; rotate_left; (· ((go_simp) <;> ((repeat' apply And.intro) <;> with_reducible rfl))); try simp only [Act.put, List.setIfInBounds_toArray, List.set_cons_zero, List.set_cons_succ, Nat.reduceAdd]) | (refine flow_skip (by rfl) (by rfl) ?_; try simp only [Act.put, List.setIfInBounds_toArray, List.set_cons_zero, List.set_cons_succ, Nat.reduceAdd]))
  refine flow_nil fun w4 hb4 _ => ?_
  have hx4 := HX3.out.below hb4
  have HB4 := Lib.hid (below_then HB3.out hb4)
  have hg4 := HG3.out.below hb4
  have hk4 := own_next HK3.out hb4
  have hn4 := HN3.out.next hb4
  have hh4 := own_next HH3.out hb4
  have hr4 := fun j hj => own_next (HR3.out j hj) hb4
  clear e1 hb4 HX3 HB3 HG3 HK3 HN3 HH3 HR3
  go_upto_region 14 with fail
  obtain ⟨hlt, hBb, ⟨cur, hcur, hbx⟩, hset⟩ := own_nt_set (hr4 i hi)
  obtain ⟨_, q0, q1, q2, q3⟩ := nt_row (Row.of_ownS (hr4 i hi))
  have qf : ∀ j, w4.frozen? ⟨bs i, j, none⟩ = false := fun j => hbx.free j
  have x0 : w4.cell? ⟨g, 0, none⟩ = some (.int .i64 0) := hx4.cell 0
  have x1 : w4.cell? ⟨g, 1, none⟩ = some (.int .i64 M) := hx4.cell 1
  have x2 : w4.cell? ⟨g, 2, none⟩ = some (.string T) := hx4.cell 2
  have x3 : w4.cell? ⟨g, 3, none⟩ = some (.int .i64 V) := hx4.cell 3
  have hgl := hx4.lt
  obtain ⟨W5, hW5⟩ : ∃ W5, W5 = (((w4.setCell ⟨bs i, 0, none⟩ (.int .i64 0)).setCell ⟨bs i, 1, none⟩ (.int .i64 M)).setCell ⟨bs i, 2, none⟩ (.string T)).setCell ⟨bs i, 3, none⟩ (.int .i64 V) := ⟨_, rfl⟩
  have hfar : ∀ b, b ≠ bs i → W5.heap[b]? = w4.heap[b]? := fun b hb => by
    rw [hW5, Below.heap_setCell _ _ _ b hb, Below.heap_setCell _ _ _ b hb, Below.heap_setCell _ _ _ b hb, Below.heap_setCell _ _ _ b hb]
  have hnew : W5.ownsRow B 39 4 (.slice (some ⟨bs i, 0, none⟩) 1 (cs i)) 1 (ntC ⟨M, T, V⟩) := by rw [hW5]; exact hset w4 _ _ _ _ (Below.refl _ _)
  have hgn : gb ≠ bs i := fun e => by
    have h := Option.some.inj (hg4.symm.trans ((congrArg (fun b => w4.heap[b]?) e).trans hbx))
    injection h with h1 h2
    exact absurd h2 (by decide)
  have HIN5 : Hid (NetIn W5 B gb key N (fun j => if j = i then a else ks j) bs) := by
    refine ⟨some ⟨bk, 0, none⟩, ck, gr, vn, gh, ch, cs, HBg.out, (hfar gb hgn).trans hg4, own_heap hk4 fun b hb => hfar b (ownApart hk4 hbx (by decide) b hb), ⟨?_, fun j hj => own_heap (hn4.2.1 j hj) fun b hb => hfar b (ownApart (hn4.2.1 j hj) hbx (by decide) b hb), hn4.2.2⟩, own_heap hh4 fun b hb => hfar b (ownApart hh4 hbx (by decide) b hb), fun j hj => ?_⟩
    · refine (hfar gr fun e => ?_).trans hn4.1
      have h := Option.some.inj (hn4.1.symm.trans ((congrArg (fun b => w4.heap[b]?) e).trans hbx))
      injection h with h1 h2
      exact absurd h2 (by decide)
    · show W5.ownsRow B 39 4 _ 1 (ntC (N (if j = i then a else ks j)))
      by_cases hji : j = i
      · subst hji
        rw [if_pos rfl, HA.out]
        exact hnew
      · rw [if_neg hji]
        exact own_heap (hr4 j hj) fun b hb => hfar b (by injection hb with hb; rw [← hb]; exact HD.out j i hj hi hji)
  have HB5 : Hid (Below B w W5) := by
    rw [hW5]
    exact ((((HB4.out.mono hB).setCell (p := ⟨bs i, 0, none⟩) hBb _).setCell (p := ⟨bs i, 1, none⟩) hBb _).setCell (p := ⟨bs i, 2, none⟩) hBb _).setCell (p := ⟨bs i, 3, none⟩) hBb _
  have HGR5 : Hid (w.grownBy W5 (some (bs i))) := by
    rw [hW5]
    exact World.grownBy.trans (grown_bel HB4.out) (((World.grownBy.trans (grown_set _ (bs i) 0 _) (grown_set _ (bs i) 1 _)).trans (grown_set _ (bs i) 2 _)).trans (grown_set _ (bs i) 3 _))
  clear hfar hnew hgn hset hbx hx4 hg4 hk4 hn4 hh4 hr4
  go_wp2_with fail
  rw [← hW5]
  go_ret
  exact ⟨rfl, HIN5.out, HB5.out, HGR5.out⟩
end Go.Proofs.YtifhlmakacoicaaDoor

/- Contract of spread.Step: each node takes the newest notice of its neighbours. -/
namespace Go.Proofs.YtifhlmakacoicaaDoor
open Go.RowKit
set_option linter.unusedVariables false

/-- the newest of a node and of some neighbours -/
def foldK (ks : Nat → Nat) : List Int → Nat → Nat
  | [], m => m
  | j :: l, m => foldK ks l (max m (ks j.toNat))
theorem foldK_snoc (ks : Nat → Nat) : ∀ (l : List Int) (j : Int) (m : Nat), foldK ks (l ++ [j]) m = max (foldK ks l m) (ks j.toNat)
  | [], j, m => rfl
  | i :: l, j, m => foldK_snoc ks l j (max m (ks i.toNat))
def stepK (ks : Nat → Nat) (i : Nat) : Nat := foldK ks (nearK 3 i) (ks i)
theorem near_in (i : Nat) (hi : i < 4) : ∀ j ∈ nearK 3 i, ∃ q : Nat, j = (q : Int) ∧ q < 4 := by
  intro j hj
  unfold nearK at hj
  rcases List.mem_append.1 hj with hj | hj
  · split at hj
    · rw [List.mem_singleton] at hj; exact ⟨i - 1, by omega, by omega⟩
    · cases hj
  · split at hj
    · rw [List.mem_singleton] at hj; exact ⟨i + 1, by omega, by omega⟩
    · cases hj

/-- the rows of the next state under way -/
def NextS (w : World) (B : Nat) (N : Nat → Ntx) (ks : Nat → Nat) (v : Value) (i : Nat) (L : List (Nat × Nat)) : Prop :=
  L.length = i ∧ w.ownsRow B 75 1 v i (L.map fun p => .slice (some ⟨p.1, 0, none⟩) 1 p.2) ∧ ∀ j (h : j < L.length), w.ownsRow B 39 4 (.slice (some ⟨L[j].1, 0, none⟩) 1 L[j].2) 1 (ntC (N (stepK ks j)))
theorem NextS.next {w w' : World} {B : Nat} {N : Nat → Ntx} {ks : Nat → Nat} {v : Value} {i : Nat} {L : List (Nat × Nat)} (h : NextS w B N ks v i L) (hb : Below w.heap.size w w') : NextS w' B N ks v i L := ⟨h.1, own_next h.2.1 hb, fun j hj => own_next (h.2.2 j hj) hb⟩
def StepQ (B gb : Nat) (key : Int) (N : Nat → Ntx) (ks : Nat → Nat) (w : World) (e : Ending) (w' : World) : Prop :=
  ∃ (c : Int) (bs' : Nat → Nat), e = .returned (.int .i64 c) ∧ 0 ≤ c ∧ (c = 0 ↔ ∀ j, j < 4 → stepK ks j = ks j) ∧ NetIn w' B gb key N (stepK ks) bs' ∧ Below B w w'

set_option maxHeartbeats 8000000 in
set_option maxRecDepth 100000 in
theorem step_yes {w : World} {B gb : Nat} {key : Int} {N : Nat → Ntx} {ks bs : Nat → Nat} (h : NetIn w B gb key N ks bs) (hB : B ≤ w.heap.size) (hN : ∀ k, (N k).n = (k : Int)) :
    Calls Tryd.prog 36 #[.pointer (some ⟨gb, 0, none⟩)] w (StepQ B gb key N ks w) := by
  obtain ⟨Ak, ck, gr, vn, gh, ch, cs, h1, h2, h3, h4, h5, h6⟩ := h
  have HBg := Lib.hid h1
  have HG := Lib.hid (fun W (hW : Below w.heap.size w W) => h2.below hW)
  have HK := Lib.hid (fun W (hW : Below w.heap.size w W) => own_next h3 hW)
  have HNr := Lib.hid (fun W (hW : Below w.heap.size w W) => h4.next hW)
  have HH := Lib.hid (fun W (hW : Below w.heap.size w W) => own_next h5 hW)
  have HR := Lib.hid (fun W (hW : Below w.heap.size w W) i hi => own_next (h6 i hi) hW)
  have hgbl := h2.lt
  have c2 : w.cell? ⟨gb, 2, none⟩ = some (.slice (some ⟨gh, 0, none⟩) 4 ch) := h2.cell 2
  have HNN := Lib.hid hN
  clear h1 h2 h3 h4 h5 h6 hN
  unfold StepQ
  go_enter Tryd.func36, Tryd.ntmps36
  go_wp2_with fail
  clear c2
  go_loopw [3, 4, 5, 6, 7, 9, 10, 11, 17] (fun nv cv _ _ _ _ _ _ iv wr => ∃ (i : Nat) (c : Int) (nA : Option Addr) (nc : Nat) (L : List (Nat × Nat)), i ≤ 4 ∧ iv = .int .i64 (i : Int) ∧ nv = .slice nA i nc ∧ cv = .int .i64 c ∧ Hid (0 ≤ c ∧ c ≤ i ∧ (c = 0 ↔ ∀ j, j < i → stepK ks j = ks j)) ∧ Hid (NextS wr w.heap.size N ks (.slice nA i nc) i L) ∧ Hid (Below w.heap.size w wr)) (fun _ _ _ _ _ _ _ _ iv _ => 4 - (intOf iv).toNat)
  case atStart => exact ⟨0, 0, none, 0, [], by omega, rfl, rfl, rfl, ⟨by omega, by omega, ⟨fun _ j hj => by omega, fun _ => rfl⟩⟩, ⟨rfl, World.ownsRow_nil _ _ _ _, fun j hj => absurd hj (by simp)⟩, Below.refl _ _⟩
  case round =>
    obtain ⟨i, c, nA, nc, L, hi, rfl, rfl, rfl, hc, hnx, hbr⟩ := hrel
    by_cases hlt : i < 4
    · have ci : wr.cell? ⟨gh, i, none⟩ = some (.slice (some ⟨bs i, 0, none⟩) 1 (cs i)) := held_cell (HH.out wr hbr.out) i hlt
      have HCl := Lib.hid (clone_nt (bs i) 0 (cs i) (N (ks i)) wr (Row.of_ownS (HR.out wr hbr.out i hlt)))
      have i1 : (0 : Int) ≤ (i : Int) ∧ (i : Int) < 4 := by omega
      go_upto_region 7 with (go_at_call 63; refine HCl.out.mono ?_; rintro e w1 ⟨bl, cl, rfl, hol, hb1⟩)
      obtain ⟨w9, hw9⟩ : ∃ w9, w9 = wr := ⟨_, rfl⟩
      subst hw9
      have HB1 := Lib.hid hb1
      have HOL := Lib.hid hol
      have HBR := Lib.hid hbr.out
      have HNX := Lib.hid hnx.out
      have hw91 := hb1.size
      have hbl : w9.heap.size ≤ bl := (own_lt hol bl rfl).1
      obtain ⟨hnb, hnr, _⟩ := HNr.out w1 (below_then hbr.out hb1)
      obtain ⟨An, cn, en, _⟩ := own_form (hnr i hlt)
      have hnl := nearK_len 3 i
      have hin := near_in i hlt
      have hrow := hnr i hlt
      rw [en] at hrow
      have gi : w1.cell? ⟨gr, i, none⟩ = some (.slice An (nearK 3 i).length cn) := by
        rw [← en]
        match i, hlt with
        | 0, _ => exact hnb.cell 0
        | 1, _ => exact hnb.cell 1
        | 2, _ => exact hnb.cell 2
        | 3, _ => exact hnb.cell 3
      have c1 : w1.cell? ⟨gb, 1, none⟩ = some (.slice (some ⟨gr, 0, none⟩) 4 4) := (HG.out w1 (below_then hbr.out hb1)).cell 1
      have HLR := Lib.hid (fun W (hW : Below w1.heap.size w1 W) => own_next hrow hW)
      have HIN := Lib.hid hin
      have HNR9 : Hid (∀ W, Below w9.heap.size w9 W → W.ownsRow B 3 1 (.slice An (nearK 3 i).length cn) (nearK 3 i).length (ints (nearK 3 i))) := fun W hW => by
        have h := (HNr.out W (below_then hbr.out hW)).2.1 i hlt
        rwa [en] at h
      have HST : Hid (stepK ks i = foldK ks (nearK 3 i) (ks i)) := rfl
      have HF0 : Hid (ks i = foldK ks ((nearK 3 i).take 0) (ks i)) := rfl
      clear hnb hnr en hrow hin hb1 hol hbr hnx ci HCl
      generalize hL : nearK 3 i = l at *
      have HLe := Lib.hid hL
      clear hL
      go_wp2_with fail
      clear gi c1
      go_loopw [9, 10, 11, 32] (fun _ _ _ tv wr => ∃ t m : Nat, t ≤ l.length ∧ tv = .int .i64 (t : Int) ∧ Hid (m = foldK ks (l.take t) (ks i)) ∧ Hid (wr.ownsRow w9.heap.size 39 4 (.slice (some ⟨bl, 0, none⟩) 1 cl) 1 (ntC (N m))) ∧ Hid (Below w9.heap.size w9 wr)) (fun _ _ _ tv _ => l.length - (intOf tv).toNat)
      case atStart => exact ⟨0, ks i, by omega, rfl, HF0, HOL, HB1⟩
      case round =>
        clear HOL HB1
        obtain ⟨t, m, ht, rfl, hm, hol, hbr⟩ := hrel
        by_cases htl : t < l.length
        · obtain ⟨q, hq, hq4⟩ := HIN.out l[t] (List.getElem_mem htl)
          have HBW := Lib.hid (below_then HBR.out hbr.out)
          obtain ⟨bn, on, eA, hbn, hcn⟩ := (Row.of_own (HLR.out w1 (Below.refl _ _))).open_ (ints_ne l (by omega))
          subst eA
          have HROW := Lib.hid (HNR9.out wr hbr.out)
          have yt : wr.cell? ⟨bn, on + t, none⟩ = some (.int .i64 (q : Int)) := by
            obtain ⟨b', o', e', _, hc'⟩ := (Row.of_own HROW.out).open_ (ints_ne l (by omega))
            cases e'
            rw [hc' t _ (by unfold ints; rw [List.getElem?_map, List.getElem?_eq_getElem htl]; rfl), hq]
          have cq : wr.cell? ⟨gh, q, none⟩ = some (.slice (some ⟨bs q, 0, none⟩) 1 (cs q)) := held_cell (HH.out wr HBW.out) q hq4
          have c2 : wr.cell? ⟨gb, 2, none⟩ = some (.slice (some ⟨gh, 0, none⟩) 4 ch) := (HG.out wr HBW.out).cell 2
          obtain ⟨hbq, n0, n1, n2, n3⟩ := nt_row (Row.of_ownS (HR.out wr HBW.out q hq4))
          have hgbw : gb < wr.heap.size := (HG.out wr HBW.out).lt
          have j1 : (0 : Int) ≤ (q : Int) ∧ (q : Int) < 4 := by omega
          clear hcn hbn
          go_upto_region 11 with fail
          refine wp_loop_rounds 2 ?_
          rw [rounds_succ]
          go_upto_region 13 with fail
          have hx5 := Box.new wr 39 #[.int .i64 0, .int .i64 (N (ks q)).n, .string (N (ks q)).t, .int .i64 (N (ks q)).s]
          have hb5 := below_alloc1 wr (Obj.cells #[.int .i64 0, .int .i64 (N (ks q)).n, .string (N (ks q)).t, .int .i64 (N (ks q)).s] 39)
          have hw9r := hbr.out.size
          have ho5 := own_next hol.out hb5
          have HB5 := Lib.hid (hbr.out.trans (hb5.mono hw9r))
          generalize wr.alloc (Obj.cells #[.int .i64 0, .int .i64 (N (ks q)).n, .string (N (ks q)).t, .int .i64 (N (ks q)).s] 39) = W5 at *
          have hgel : wr.heap.size ≤ wr.heap.size := Nat.le_refl _
          generalize wr.heap.size = ge at *
          have z0 : ∀ W, Below W5.heap.size W5 W → W.cell? ⟨ge, 0, none⟩ = some (.int .i64 0) := fun W hW => (hx5.below hW).cell 0
          have z1 : ∀ W, Below W5.heap.size W5 W → W.cell? ⟨ge, 1, none⟩ = some (.int .i64 (N (ks q)).n) := fun W hW => (hx5.below hW).cell 1
          have z2 : ∀ W, Below W5.heap.size W5 W → W.cell? ⟨ge, 2, none⟩ = some (.string (N (ks q)).t) := fun W hW => (hx5.below hW).cell 2
          have z3 : ∀ W, Below W5.heap.size W5 W → W.cell? ⟨ge, 3, none⟩ = some (.int .i64 (N (ks q)).s) := fun W hW => (hx5.below hW).cell 3
          have l0 : ∀ W, Below W5.heap.size W5 W → W.cell? ⟨bl, 0, none⟩ = some (.int .i64 0) := fun W hW => (nt_row (Row.of_ownS (own_next ho5 hW))).2.1
          have l1 : ∀ W, Below W5.heap.size W5 W → W.cell? ⟨bl, 1, none⟩ = some (.int .i64 (N m).n) := fun W hW => (nt_row (Row.of_ownS (own_next ho5 hW))).2.2.1
          have l2 : ∀ W, Below W5.heap.size W5 W → W.cell? ⟨bl, 2, none⟩ = some (.string (N m).t) := fun W hW => (nt_row (Row.of_ownS (own_next ho5 hW))).2.2.2.1
          have l3 : ∀ W, Below W5.heap.size W5 W → W.cell? ⟨bl, 3, none⟩ = some (.int .i64 (N m).s) := fun W hW => (nt_row (Row.of_ownS (own_next ho5 hW))).2.2.2.2
          have HNw : Hid (∀ W, Calls Tryd.prog 35 #[ntV (N (ks q)), ntV (N m)] W fun e w' => e = .returned (.bool (decide (m < ks q))) ∧ Below W.heap.size W w') := fun W => by
            by_cases hc : m < ks q
            · rw [decide_eq_true hc]; exact newer_yes _ _ W (by rw [HNN.out, HNN.out]; omega)
            · rw [decide_eq_false hc]
              by_cases he : m = ks q
              · rw [he]; exact newer_same _ W
              · exact newer_no _ _ W (by rw [HNN.out, HNN.out]; omega)
          have HFN : Hid (foldK ks (l.take (t + 1)) (ks i) = max m (ks q)) := by
            unfold Hid
            rw [List.take_succ_eq_append_getElem htl, foldK_snoc, hq, ← hm.out]
            rfl
          have HX5 := Lib.hid hx5
          have HO5 := Lib.hid ho5
          clear n0 n1 n2 n3 yt cq c2 hbq hx5 ho5 hb5 hbr hol hq hgel j1
          obtain ⟨d, hd⟩ : ∃ d, d = decide (m < ks q) := ⟨_, rfl⟩
          rw [← hd] at HNw
          have HD := Lib.hid hd
          clear hd
          refine flow_begin (tellOf [(5, det (.bool d))]) (by kernel_rfl) (by kernel_rfl) ?_
          repeat (first | (refine flow_val (v := ?_) (by rfl) (by rfl) (fun w hb => ?_) ?_; rotate_left; (· ((go_simp) <;> ((repeat' apply And.intro) <;> with_reducible rfl))); try simp only [Act.put, List.setIfInBounds_toArray, List.set_cons_zero, List.set_cons_succ, Nat.reduceAdd]) | (refine flow_skip (by rfl) (by rfl) ?_; try simp only [Act.put, List.setIfInBounds_toArray, List.set_cons_zero, List.set_cons_succ, Nat.reduceAdd]))
          refine flow_call (f := ?_) (args := ?_) [] (by kernel_rfl) (by rfl) (by rfl) (fun w hb => ?_) (fun w hb hu => ?_) ?_; rotate_left 2; (· ((go_simp) <;> ((repeat' apply And.intro) <;> with_reducible rfl)))
          · exact HNw.out w
          try simp only [Act.put, List.setIfInBounds_toArray, List.set_cons_zero, List.set_cons_succ, Nat.reduceAdd]
          refine flow_nil fun w6 hb6 _ => ?_
          have hx6 := HX5.out.below hb6
          have ho6 := own_next HO5.out hb6
          have hb6' := HB5.out.trans (hb6.mono (by have := HB5.out.size; omega))
          clear z0 z1 z2 z3 l0 l1 l2 l3 HX5 HO5 HB5 hb6 HNw
          cases d with
          | true =>
            have hmq : m < ks q := of_decide_eq_true HD.out.symm
            obtain ⟨hlb, hBb, ⟨cur, hcur, hbx⟩, hset⟩ := own_nt_set ho6
            obtain ⟨_, p0, p1, p2, p3⟩ := nt_row (Row.of_ownS ho6)
            have qf : ∀ j, w6.frozen? ⟨bl, j, none⟩ = false := fun j => hbx.free j
            have z0 : w6.cell? ⟨ge, 0, none⟩ = some (.int .i64 0) := hx6.cell 0
            have z1 : w6.cell? ⟨ge, 1, none⟩ = some (.int .i64 (N (ks q)).n) := hx6.cell 1
            have z2 : w6.cell? ⟨ge, 2, none⟩ = some (.string (N (ks q)).t) := hx6.cell 2
            have z3 : w6.cell? ⟨ge, 3, none⟩ = some (.int .i64 (N (ks q)).s) := hx6.cell 3
            have hgl := hx6.lt
            obtain ⟨W7, hW7⟩ : ∃ W7, W7 = (((w6.setCell ⟨bl, 0, none⟩ (.int .i64 0)).setCell ⟨bl, 1, none⟩ (.int .i64 (N (ks q)).n)).setCell ⟨bl, 2, none⟩ (.string (N (ks q)).t)).setCell ⟨bl, 3, none⟩ (.int .i64 (N (ks q)).s) := ⟨_, rfl⟩
            have HO7 : Hid (W7.ownsRow w9.heap.size 39 4 (.slice (some ⟨bl, 0, none⟩) 1 cl) 1 (ntC (N (max m (ks q))))) := by
              rw [hW7, Nat.max_eq_right (by omega)]
              exact hset w6 _ _ _ _ (Below.refl _ _)
            have HB7 : Hid (Below w9.heap.size w9 W7) := by
              rw [hW7]
              exact (((hb6'.setCell (p := ⟨bl, 0, none⟩) hbl _).setCell (p := ⟨bl, 1, none⟩) hbl _).setCell (p := ⟨bl, 2, none⟩) hbl _).setCell (p := ⟨bl, 3, none⟩) hbl _
            clear hset hbx ho6 hx6 hb6' hcur
            go_wp2_with fail
            rw [rounds_succ]
            rw [← hW7]
            clear p0 p1 p2 p3 qf z0 z1 z2 z3 hW7
            go_wp2_with fail
            go_roundw
            case rel => exact ⟨t + 1, max m (ks q), by omega, by go_num, HFN.out.symm, HO7, HB7⟩
            case measure => simp [intOf]; omega
          | false =>
            have hmq : ¬ m < ks q := of_decide_eq_false HD.out.symm
            have HO7 : Hid (w6.ownsRow w9.heap.size 39 4 (.slice (some ⟨bl, 0, none⟩) 1 cl) 1 (ntC (N (max m (ks q))))) := by
              rw [Nat.max_eq_left (by omega)]
              exact ho6
            have HB7 := Lib.hid hb6'
            clear ho6 hx6 hb6'
            go_wp2_with fail
            rw [rounds_succ]
            go_wp2_with fail
            go_roundw
            case rel => exact ⟨t + 1, max m (ks q), by omega, by go_num, HFN.out.symm, HO7, HB7⟩
            case measure => simp [intOf]; omega
        · have htl' : t = l.length := by omega
          have hm' := hm.out
          rw [htl', List.take_length, ← HST.out] at hm'
          have tt : decide ((t : Int) < (l.length : Int)) = false := decide_eq_false (by omega)
          have HM := Lib.hid hm'
          have HOL := Lib.hid hol.out
          have HBL := Lib.hid hbr.out
          clear htl' hm' hm hol hbr
          have HBW := Lib.hid (below_then HBR.out HBL.out)
          have hdm : (m = ks i ∧ decide (m = ks i) = true) ∨ (m ≠ ks i ∧ decide (m = ks i) = false) := by
            by_cases h : m = ks i
            · exact .inl ⟨h, decide_eq_true h⟩
            · exact .inr ⟨h, decide_eq_false h⟩
          have HEq : Hid (Calls Tryd.prog 64 #[.slice (some ⟨bl, 0, none⟩) 1 cl, .slice (some ⟨bs i, 0, none⟩) 1 (cs i)] wr fun e w' => e = .returned (.bool (decide (m = ks i))) ∧ Below wr.heap.size wr w') := by
            have r1 := Row.of_ownS HOL.out
            have r2 := Row.of_ownS (HR.out wr HBW.out i hlt)
            rcases hdm with ⟨h, e⟩ | ⟨h, e⟩
            · rw [e]
              rw [← h] at r2
              exact equal_same bl 0 cl (bs i) 0 (cs i) (N m) wr r1 r2
            · rw [e]
              exact equal_diff bl 0 cl (bs i) 0 (cs i) (N m) (N (ks i)) wr r1 r2 (by rw [HNN.out, HNN.out]; omega)
          obtain ⟨d, hd⟩ : ∃ d, d = decide (m = ks i) := ⟨_, rfl⟩
          rw [← hd] at HEq
          have HD := Lib.hid hd
          clear hd hdm
          go_upto_region 17 with fail
          go_wp2_with fail
          refine HEq.out.mono ?_
          rintro e w2 ⟨rfl, hb2⟩
          have HO2 := Lib.hid (own_next HOL.out hb2)
          have HB2 := Lib.hid (HBL.out.trans (hb2.mono HBL.out.size))
          have hsz2 : w9.heap.size ≤ w2.heap.size := HB2.out.size
          have HNX2 := Lib.hid (HNX.out.next HB2.out)
          clear hb2 HEq HOL HBL
          obtain ⟨q0, hi0, hz0, hz1, hz2⟩ := info_parts (show (Tryd.prog.info? 75).map (fun i => (i.zero, i.size, i.bytes)) = some (some (.slice none 0 0), 1, 24) by kernel_rfl)
          obtain ⟨hc0, hc1, hc2⟩ := hc.out
          have hsz0 : w.heap.size ≤ w2.heap.size := by have := HBR.out.size; omega
          have hb8 := below_alloc1 w2 (Obj.cells #[.slice (some ⟨bl, 0, none⟩) 1 cl] 75)
          have hx8 := Box.new w2 75 #[.slice (some ⟨bl, 0, none⟩) 1 cl]
          have HNX8 := Lib.hid (HNX2.out.next hb8)
          have HO8 := Lib.hid (own_next HO2.out hb8)
          have HB8 := Lib.hid (HB2.out.trans (hb8.mono hsz2))
          have hnews : Hid (∀ j u, [Value.slice (some ⟨bl, 0, none⟩) 1 cl][j]? = some u → (w2.alloc (Obj.cells #[.slice (some ⟨bl, 0, none⟩) 1 cl] 75)).cell? ((⟨w2.heap.size, 0, none⟩ : Addr).add j) = some u) := World.news_of_block (cs := #[.slice (some ⟨bl, 0, none⟩) 1 cl]) (t := 75) (fr := (0, 0)) hx8
          clear hb8 hx8
          have HFIN : Hid (∀ v' w', w'.ownsRow w.heap.size 75 1 v' (i + 1) ((L.map fun p => .slice (some ⟨p.1, 0, none⟩) 1 p.2) ++ [.slice (some ⟨bl, 0, none⟩) 1 cl]) → (w2.alloc (Obj.cells #[.slice (some ⟨bl, 0, none⟩) 1 cl] 75)).grownBy w' (Value.slice nA i nc).ownBlock →
              ∃ A' c', v' = .slice A' (i + 1) c' ∧ NextS w' w.heap.size N ks (.slice A' (i + 1) c') (i + 1) (L ++ [(bl, cl)]) ∧ Below w.heap.size w w') := fun v' w' ho hg => by
            obtain ⟨A', c', hv, _⟩ := own_form ho
            subst hv
            obtain ⟨n1, n2, n3⟩ := HNX8.out
            refine ⟨A', c', rfl, ⟨by rw [List.length_append, n1]; rfl, by rw [List.map_append]; exact ho, fun j hj => ?_⟩, (HBR.out.trans (HB8.out.mono HBR.out.size)).grown hg (by rw [World.size_alloc]; omega) (fun b hb => (own_lt n2 b hb).1)⟩
            by_cases hjl : j < L.length
            · have h := n3 j hjl
              rw [List.getElem_append_left hjl]
              exact own_heap h fun b hb => hg.block b (own_lt h b hb).2 fun e => rows_apart h n2 (by decide) b hb e.symm
            · have hje : j = L.length := by rw [List.length_append] at hj; simp at hj; omega
              subst hje
              rw [List.getElem_append_right (by omega)]
              simp only [Nat.sub_self, List.getElem_cons_zero]
              rw [n1, ← HM.out]
              have h := own_lower HO8.out HBR.out.size
              exact own_heap h fun b hb => hg.block b (own_lt h b hb).2 fun e => rows_apart h n2 (by decide) b hb e.symm
          have HOWN := Lib.hid HNX8.out.2.1
          have HCS : Hid (∀ d' : Bool, d' = decide (m = ks i) → 0 ≤ (if d' then c else c + 1) ∧ (if d' then c else c + 1) ≤ ((i + 1 : Nat) : Int) ∧ ((if d' then c else c + 1) = 0 ↔ ∀ j, j < i + 1 → stepK ks j = ks j)) := fun d' hd' => by
            have e : stepK ks i = m := HM.out.symm
            cases d' with
            | true =>
              have hmk : m = ks i := of_decide_eq_true hd'.symm
              rw [if_pos rfl]
              refine ⟨hc0, by omega, ⟨fun h j hj => ?_, fun h => hc2.2 fun j hj => h j (by omega)⟩⟩
              by_cases hji : j = i
              · subst hji; rw [e, hmk]
              · exact hc2.1 h j (by omega)
            | false =>
              have hmk : ¬ m = ks i := of_decide_eq_false hd'.symm
              rw [if_neg (by decide)]
              exact ⟨by omega, by omega, ⟨fun h => by omega, fun h => absurd (e.symm.trans (h i (by omega))) hmk⟩⟩
          have hc1' : c ≤ 4 := by omega
          clear hc2 hc
          cases d with
          | true =>
            have HC3 := Lib.hid (HCS.out true HD.out)
            rw [if_pos rfl] at HC3
            go_wp2_with (at_builtin; refine wpList_append_own _ rfl (.tmp 67) (.tmp 69) 72 rfl w.heap.size 75 q0 (.slice none 0 0) 1 24 Tryd.underlying72 hi0 hz0 hz1 hz2 rfl (by decide) (.slice nA i nc) i (L.map fun p => .slice (some ⟨p.1, 0, none⟩) 1 p.2) rfl HOWN.out ⟨w2.heap.size, 0, none⟩ 1 1 [.slice (some ⟨bl, 0, none⟩) 1 cl] rfl rfl hnews.out ?c2 ?c3 ?c4 ?c5 ?_)
            case c2 => intro u hu; rw [List.mem_singleton] at hu; subst hu; rfl
            case c3 => simp only [maxLen]; omega
            case c4 => omega
            case c5 => rw [World.size_alloc]; omega
            intro v' w' hown' hgrow' _
            obtain ⟨A', c', hv, hnx', hbw'⟩ := HFIN.out v' w' hown' hgrow'
            subst hv
            have HNX' := Lib.hid hnx'
            have HBW' := Lib.hid hbw'
            clear hown' hgrow' hnx' hbw' hnews
            go_wp2_with fail
            go_roundw
            case rel => exact ⟨i + 1, c, A', c', L ++ [(bl, cl)], by omega, by go_num, rfl, rfl, HC3.out, HNX', HBW'⟩
            case measure => simp [intOf]; omega
          | false =>
            have HC3 := Lib.hid (HCS.out false HD.out)
            rw [if_neg (by decide)] at HC3
            have ew : IntKind.i64.wrap (c + 1) = c + 1 := IntWalk.i64_in _ (by omega)
            go_wp2_with (at_builtin; refine wpList_append_own _ rfl (.tmp 67) (.tmp 69) 72 rfl w.heap.size 75 q0 (.slice none 0 0) 1 24 Tryd.underlying72 hi0 hz0 hz1 hz2 rfl (by decide) (.slice nA i nc) i (L.map fun p => .slice (some ⟨p.1, 0, none⟩) 1 p.2) rfl HOWN.out ⟨w2.heap.size, 0, none⟩ 1 1 [.slice (some ⟨bl, 0, none⟩) 1 cl] rfl rfl hnews.out ?c2 ?c3 ?c4 ?c5 ?_)
            case c2 => intro u hu; rw [List.mem_singleton] at hu; subst hu; rfl
            case c3 => simp only [maxLen]; omega
            case c4 => omega
            case c5 => rw [World.size_alloc]; omega
            intro v' w' hown' hgrow' _
            obtain ⟨A', c', hv, hnx', hbw'⟩ := HFIN.out v' w' hown' hgrow'
            subst hv
            have HNX' := Lib.hid hnx'
            have HBW' := Lib.hid hbw'
            clear hown' hgrow' hnx' hbw' hnews ew
            go_wp2_with fail
            go_roundw
            case rel => exact ⟨i + 1, c + 1, A', c', L ++ [(bl, cl)], by omega, by go_num, rfl, rfl, HC3.out, HNX', HBW'⟩
            case measure => simp [intOf]; omega
    · have hi4 : i = 4 := by omega
      have ti : decide ((i : Int) < 4) = false := decide_eq_false (by omega)
      have hsz := hbr.out.size
      obtain ⟨hc0, hc1, hc2⟩ := hc.out
      rw [hi4] at hc2
      have HC := Lib.hid (And.intro hc0 hc2)
      have hg := HG.out wr hbr.out
      obtain ⟨n1, n2, n3⟩ := hnx.out
      have q2 : wr.cell? ⟨gb, 2, none⟩ = some (.slice (some ⟨gh, 0, none⟩) 4 ch) := hg.cell 2
      have qf : wr.frozen? ⟨gb, 2, none⟩ = false := hg.free 2
      have ql := hg.lt
      obtain ⟨W5, hW5⟩ : ∃ W5, W5 = wr.setCell ⟨gb, 2, none⟩ (.slice nA i nc) := ⟨_, rfl⟩
      have hfar : ∀ b, b ≠ gb → W5.heap[b]? = wr.heap[b]? := fun b hb => by rw [hW5]; exact Below.heap_setCell _ _ _ b hb
      have HIN : Hid (∃ bs', NetIn W5 B gb key N (stepK ks) bs') := by
        obtain ⟨g9, _, hv, _, _⟩ := n2.form (by omega)
        have hnr := HNr.out wr hbr.out
        have hk := HK.out wr hbr.out
        cases hv
        match L, n1.trans hi4, n2, n3 with
        | [p0, p1, p2, p3], _, n2, n3 =>
          refine ⟨fun i => if i = 0 then p0.1 else if i = 1 then p1.1 else if i = 2 then p2.1 else p3.1, Ak, ck, gr, vn, g9, nc, fun i => if i = 0 then p0.2 else if i = 1 then p1.2 else if i = 2 then p2.2 else p3.2, HBg.out, ?_, own_heap hk fun b hb => hfar b (ownApart hk hg (by decide) b hb), ?_, ?_, fun j hj => ?_⟩
          · have h := hg.set_ 2 (.slice (some ⟨g9, 0, none⟩) i nc)
            rw [← hW5, hi4] at h
            exact h
          · rw [hW5]
            exact hnr.far _ (fun e => by
              have h := Option.some.inj (hnr.1.symm.trans ((congrArg (fun b => wr.heap[b]?) e).trans hg))
              injection h with h1 h2
              exact absurd h2 (by decide)) (fun i b hi hb => ownApart (hnr.2.1 i hi) hg (by decide) b hb)
          · have h := own_lower n2 hB
            have h' : W5.ownsRow B 75 1 (.slice (some ⟨g9, 0, none⟩) i nc) i _ := own_heap h fun b hb => hfar b (ownApart h hg (by decide) b hb)
            rw [hi4] at h'
            exact h'
          · have key' : ∀ j (hj : j < 4), W5.ownsRow B 39 4 (.slice (some ⟨([p0, p1, p2, p3][j]'hj).1, 0, none⟩) 1 ([p0, p1, p2, p3][j]'hj).2) 1 (ntC (N (stepK ks j))) := fun j hj => by
              have h := own_lower (n3 j hj) hB
              exact own_heap h fun b hb => hfar b (ownApart h hg (by decide) b hb)
            match j, hj with
            | 0, _ => exact key' 0 (by omega)
            | 1, _ => exact key' 1 (by omega)
            | 2, _ => exact key' 2 (by omega)
            | 3, _ => exact key' 3 (by omega)
      have HB5 : Hid (Below B w W5) := by rw [hW5]; exact (hbr.out.mono hB).setCell (p := ⟨gb, 2, none⟩) HBg.out _
      clear hfar n1 n2 n3 hg hi4 hc2 hc0 hnx hc
      go_wp2_with fail
      rw [← hW5]
      go_ret
      obtain ⟨bs', hI⟩ := HIN.out
      exact ⟨c, bs', rfl, HC.out.1, HC.out.2, hI, HB5.out⟩
end Go.Proofs.YtifhlmakacoicaaDoor

/- Contracts of package spread: Settle, Held. -/
namespace Go.Proofs.YtifhlmakacoicaaDoor
open Go.RowKit
set_option linter.unusedVariables false

theorem stepK_0 (ks : Nat → Nat) : stepK ks 0 = max (ks 0) (ks 1) := rfl
theorem stepK_1 (ks : Nat → Nat) : stepK ks 1 = max (max (ks 1) (ks 0)) (ks 2) := rfl
theorem stepK_2 (ks : Nat → Nat) : stepK ks 2 = max (max (ks 2) (ks 1)) (ks 3) := rfl
theorem stepK_3 (ks : Nat → Nat) : stepK ks 3 = max (ks 3) (ks 2) := rfl
def sumK (ks : Nat → Nat) : Nat := ks 0 + ks 1 + ks 2 + ks 3
/-- at most 2 everywhere, and 2 somewhere -/
def GoodK (ks : Nat → Nat) : Prop := (ks 0 ≤ 2 ∧ ks 1 ≤ 2 ∧ ks 2 ≤ 2 ∧ ks 3 ≤ 2) ∧ (ks 0 = 2 ∨ ks 1 = 2 ∨ ks 2 = 2 ∨ ks 3 = 2)
theorem GoodK.step {ks : Nat → Nat} (h : GoodK ks) : GoodK (stepK ks) := by
  unfold GoodK at *
  rw [stepK_0, stepK_1, stepK_2, stepK_3]
  omega
theorem sumK_more {ks : Nat → Nat} (h : ¬ ∀ j, j < 4 → stepK ks j = ks j) : sumK ks + 1 ≤ sumK (stepK ks) := by
  refine Classical.byContradiction fun hn => h fun j hj => ?_
  unfold sumK at hn
  have h0 := stepK_0 ks
  have h1 := stepK_1 ks
  have h2 := stepK_2 ks
  have h3 := stepK_3 ks
  match j, hj with
  | 0, _ => omega
  | 1, _ => omega
  | 2, _ => omega
  | 3, _ => omega
theorem settled {ks : Nat → Nat} (h : GoodK ks) (hs : ∀ j, j < 4 → stepK ks j = ks j) : ∀ j, j < 4 → stepK ks j = 2 := by
  have h0 := stepK_0 ks
  have h1 := stepK_1 ks
  have h2 := stepK_2 ks
  have h3 := stepK_3 ks
  have a0 := hs 0 (by omega)
  have a1 := hs 1 (by omega)
  have a2 := hs 2 (by omega)
  have a3 := hs 3 (by omega)
  unfold GoodK at h
  intro j hj
  match j, hj with
  | 0, _ => omega
  | 1, _ => omega
  | 2, _ => omega
  | 3, _ => omega

def SettleQ (B gb : Nat) (key : Int) (N : Nat → Ntx) (w : World) (e : Ending) (w' : World) : Prop :=
  ∃ (c : Int) (ks' bs' : Nat → Nat), e = .returned (.int .i64 c) ∧ (∀ j, j < 4 → ks' j = 2) ∧ NetIn w' B gb key N ks' bs' ∧ Below B w w'
set_option maxHeartbeats 2000000 in
set_option maxRecDepth 100000 in
theorem settle_yes {w : World} {B gb : Nat} {key : Int} {N : Nat → Ntx} {ks bs : Nat → Nat} (h : NetIn w B gb key N ks bs) (hB : B ≤ w.heap.size) (hN : ∀ k, (N k).n = (k : Int)) (hg : GoodK ks) :
    Calls Tryd.prog 12 #[.pointer (some ⟨gb, 0, none⟩)] w (SettleQ B gb key N w) := by
  have HI := Lib.hid h
  have HS := Lib.hid (fun W ks bs (h : NetIn W B gb key N ks bs) (hb : B ≤ W.heap.size) => step_yes h hb hN)
  have HGo := Lib.hid hg
  unfold StepQ at HS
  clear h hN hg
  unfold SettleQ
  go_enter Tryd.func12, Tryd.ntmps12
  go_wp2_with fail
  go_loopw [3] (fun sv wr => ∃ (s : Nat) (ks' bs' : Nat → Nat), sv = .int .i64 (s : Int) ∧ Hid (s ≤ sumK ks') ∧ Hid (GoodK ks') ∧ Hid (NetIn wr B gb key N ks' bs') ∧ Hid (Below B w wr)) (fun sv _ => 8 - (intOf sv).toNat)
  case atStart => exact ⟨0, ks, bs, rfl, Nat.zero_le _, HGo, HI, Below.refl _ _⟩
  case round =>
    clear HI HGo
    obtain ⟨s, ks', bs', rfl, hs, hg, hi, hbr⟩ := hrel
    have hsz : B ≤ wr.heap.size := by have := hbr.out.size; omega
    have HSt := Lib.hid (HS.out wr ks' bs' hi.out hsz)
    have hs8 : s ≤ 8 := by
      have h1 := hs.out
      have h2 := hg.out.1
      unfold sumK at h1
      omega
    go_wp2_with fail
    refine HSt.out.mono ?_
    rintro e w1 ⟨c, bs1, rfl, hc0, hc, hI1, hb1⟩
    have HB1 := Lib.hid (hbr.out.trans hb1)
    have HI1 := Lib.hid hI1
    clear HSt hb1 hI1 hi hbr
    by_cases hz : c = 0
    · have hall := settled hg.out (hc.1 hz)
      have HA := Lib.hid hall
      subst hz
      clear hall hc hc0 hs hg
      go_wp2_with fail
      go_ret
      exact ⟨_, stepK ks', bs1, rfl, HA.out, HI1.out, HB1.out⟩
    · have t1 : decide (0 < c) = true := decide_eq_true (by omega)
      have hmore := sumK_more (fun h => hz (hc.2 h))
      have hs' : s + 1 ≤ sumK (stepK ks') := by have := hs.out; omega
      have hlt : s + 1 ≤ 8 := by
        have h2 := hg.out.step.1
        unfold sumK at hs'
        omega
      have HS' := Lib.hid hs'
      have HG' := Lib.hid hg.out.step
      clear hc hz hmore hs' hs hg hc0
      go_wp2_with fail
      go_roundw
      case rel => exact ⟨s + 1, stepK ks', bs1, by go_num, HS', HG', HI1, HB1⟩
      case measure => simp [intOf]; omega

set_option maxHeartbeats 2000000 in
set_option maxRecDepth 100000 in
theorem held_yes {w : World} {B gb : Nat} {key : Int} {N : Nat → Ntx} {ks bs : Nat → Nat} (h : NetIn w B gb key N ks bs) (i : Nat) (hi : i < 4) (h0 : (N (ks i)).n ≠ 0) :
    Calls Tryd.prog 13 #[.pointer (some ⟨gb, 0, none⟩), .int .i64 (i : Int), .int .i64 0] w fun e w' => e = .returned (.tuple #[ntV (N (ks i)), .int .i64 0]) ∧ Below w.heap.size w w' := by
  have HB0 := Lib.hid (below_alloc1 w (Obj.cells #[.int .i64 0, .int .i64 0, .string ⟨#[]⟩, .int .i64 0] 39))
  have hx := Box.new w 39 #[.int .i64 0, .int .i64 0, .string ⟨#[]⟩, .int .i64 0]
  have HI := Lib.hid (h.next HB0.out)
  clear h
  go_enter Tryd.func13, Tryd.ntmps13
  go_upto_region 1 with fail
  generalize w.alloc (Obj.cells #[.int .i64 0, .int .i64 0, .string ⟨#[]⟩, .int .i64 0] 39) = W0 at *
  obtain ⟨g, hg⟩ : ∃ g, g = w.heap.size := ⟨_, rfl⟩
  rw [← hg] at hx ⊢
  have HG := Lib.hid hg
  clear hg
  have HN1 := Lib.hid (isNode_yes HI.out i hi)
  have HN2 := Lib.hid (isAuthor_yes HI.out)
  go_upto_region 5 with (first | (go_at_call 32; refine HN1.out.mono ?_; rintro e w' ⟨rfl, rfl⟩) | (go_at_call 33; refine HN2.out.mono ?_; rintro e w' ⟨rfl, rfl⟩))
  obtain ⟨Ak, ck, gr, vn, gh, ch, cs, h1, h2, h3, h4, h5, h6⟩ := HI.out
  have c2 : W0.cell? ⟨gb, 2, none⟩ = some (.slice (some ⟨gh, 0, none⟩) 4 ch) := h2.cell 2
  have ci : W0.cell? ⟨gh, i, none⟩ = some (.slice (some ⟨bs i, 0, none⟩) 1 (cs i)) := held_cell h5 i hi
  obtain ⟨hbq, n0, n1, n2, n3⟩ := nt_row (Row.of_ownS (h6 i hi))
  have i1 : (0 : Int) ≤ (i : Int) ∧ (i : Int) < 4 := by omega
  have t0 : ((N (ks i)).n == 0) = false := by rw [beq_eq_false_iff_ne]; exact h0
  have r0 : W0.cell? ⟨g, 0, none⟩ = some (.int .i64 0) := hx.cell 0
  have r1 : W0.cell? ⟨g, 1, none⟩ = some (.int .i64 0) := hx.cell 1
  have r2 : W0.cell? ⟨g, 2, none⟩ = some (.string ⟨#[]⟩) := hx.cell 2
  have r3 : W0.cell? ⟨g, 3, none⟩ = some (.int .i64 0) := hx.cell 3
  have rf : ∀ i, W0.frozen? ⟨g, i, none⟩ = false := fun i => hx.free i
  have hl := hx.lt
  clear h1 h2 h3 h4 h5 h6 h0 hx HN1 HN2 HI
  generalize hxe : N (ks i) = x at *
  have HXE := Lib.hid hxe
  clear hxe
  go_wp2_with fail
  refine bodyPost_ret (v := .tuple #[.agg #[.int .i64 0, .int .i64 x.n, .string x.t, .int .i64 x.s], .int .i64 0]) (by simp [results, Tryd.results13, go_sem, r0, r1, r2, r3]) rfl ?_
  have hgw : w.heap.size ≤ g := by have := HG.out; omega
  rw [HXE.out]
  exact ⟨rfl, (((HB0.out.setCell (p := ⟨g, 0, none⟩) hgw _).setCell (p := ⟨g, 1, none⟩) hgw _).setCell (p := ⟨g, 2, none⟩) hgw _).setCell (p := ⟨g, 3, none⟩) hgw _⟩
end Go.Proofs.YtifhlmakacoicaaDoor
