/- Contract of package rule: the lines 'month'. -/
import Derived.Test.YtbmbphikjainiaaDoorRowC
import Derived.Test.YtbmbphikjainiaaDoorFlowA
namespace Go.Proofs.YtbmbphikjainiaaDoor
open Go.RowKit
set_option linter.unusedVariables false

theorem infoMonth : (Tryd.prog.info? 60).map (fun i => (i.zero, i.size, i.bytes)) = some (some (.agg #[.string ⟨#[]⟩, .int .i64 0, .int .i64 0]), 3, 32) := by kernel_rfl
def RowMQ (g gt : Nat) (nm : ByteArray) (ep cy k n : Int) (ks mo : Value) (base len : Nat) (xs : List Value) (w : World) (e : Ending) (w' : World) : Prop :=
  ∃ (A : Option Addr) (c : Nat), e = .returned (.bool true) ∧ Box w' gt 27 (treeC nm ep cy k n ks (.slice A (len + 1) c)) ∧ w'.ownsRow base 60 3 (.slice A (len + 1) c) (len + 1) xs ∧ Only (fun b => b = g ∨ b = gt ∨ mo.ownBlock = some b) w w'
set_option maxHeartbeats 4000000 in
set_option maxRecDepth 100000 in
theorem row_month (g gt : Nat) (S : ByteArray) (i : Nat) (c : Tok) (sh lo : Int) (nm : ByteArray) (ep cy k n : Int) (ks : Value) (A : Option Addr) (len cp base : Nat) (xs : List Value) (w : World) (hi : 4 ≤ i) (hi2 : i ≤ 1000) (hlen : len ≤ 1000) (hgt : gt ≠ g) (h : Fresh w g S ([109, 111, 110, 116, 104] :: monT c sh lo)) (hb : Box w gt 27 (treeC nm ep cy k n ks (.slice A len cp)))
    (hown : w.ownsRow base 60 3 (.slice A len cp) len xs) (hbase : base ≤ w.heap.size) (hc : ∀ b ∈ c, isLow b = true) (h1 : -9999999999 ≤ sh) (h2 : sh ≤ 9999999999) (h3 : -9999999999 ≤ lo) (h4 : lo ≤ 9999999999) :
    Calls Tryd.prog 13 #[.pointer (some ⟨g, 0, none⟩), .pointer (some ⟨gt, 0, none⟩), .int .i64 (i : Int)] w (RowMQ g gt nm ep cy k n ks (.slice A len cp) base len (xs ++ [.string (str c), .int .i64 sh, .int .i64 lo]) w) := by
  obtain ⟨i0, hi0, hz0, hz1, hz2⟩ := info_parts infoMonth
  have hS := h.2.2
  have HSC := Lib.hid (fresh_scan g S _ w h)
  have HT := Lib.hid (fun W (hr : Reads W g S 0 ([109, 111, 110, 116, 104] :: monT c sh lo)) => take_yes g S 0 [109, 111, 110, 116, 104] _ W hr hS)
  have HC := Lib.hid (fun W (hr : Reads W g S 0 (monT c sh lo)) => month_at g S c sh lo W hS hc h1 h2 h3 h4 hr)
  have HK := Lib.hid (fun W (hr : Reads W g S 0 []) => tok_at g S 0 [] W hr hS)
  rw [show tokS [] = ⟨#[]⟩ from rfl] at HK
  have HB := Lib.hid hb
  have hgl : gt < w.heap.size := hb.lt
  have HW := Lib.hid hown
  unfold TakeQ at HT
  unfold MonQ at HC
  have hrd := h.1
  have hg0 : ¬ (Value.slice A len cp).ownBlock = some g := fun e => ownApart hown (show Box w g _ _ from hrd) (by decide) g e rfl
  have hgt0 : ¬ (Value.slice A len cp).ownBlock = some gt := fun e => ownApart hown hb (by decide) gt e rfl
  have HG0 := Lib.hid hg0
  have HGT0 := Lib.hid hgt0
  clear h hb hown hc h1 h2 h3 h4 hrd hg0 hgt0
  have hmin : min (i : Int) 4 = 4 := by omega
  have e0 : ((i : Int) == 0) = false := by rw [beq_eq_false_iff_ne]; omega
  have e1 : ((i : Int) == 1) = false := by rw [beq_eq_false_iff_ne]; omega
  have e2 : ((i : Int) == 2) = false := by rw [beq_eq_false_iff_ne]; omega
  have e3 : ((i : Int) == 3) = false := by rw [beq_eq_false_iff_ne]; omega
  go_enter Tryd.func13, Tryd.ntmps13
  go_wp2_with fail
  refine HSC.out.mono ?_
  rintro e w1 ⟨rfl, hr, hg⟩
  have HO1 := Lib.hid (only_grown (p := fun b => b = g ∨ b = gt ∨ (Value.slice A len cp).ownBlock = some b) hg (fun k e => by injection e with e; exact .inl e.symm))
  have HB1 := Lib.hid (HB.out.grown hg (by simp; omega))
  have HW1 := Lib.hid (own_heap HW.out (w' := w1) fun b hb => hg.block b (own_lt HW.out b hb).2 (fun e => HG0.out (by rw [hb]; simpa using e)))
  have HR1 := Lib.hid hr
  clear hr hg HSC HB HW
  go_upto_region 4 with fail
  obtain ⟨Wx, hWx⟩ : ∃ Wx, Wx = w1.alloc (Obj.cells #[.string ⟨#[99, 97, 108, 101, 110, 100, 97, 114]⟩, .string ⟨#[101, 112, 111, 99, 104]⟩, .string ⟨#[99, 121, 99, 108, 101]⟩, .string ⟨#[108, 101, 97, 112]⟩, .string ⟨#[109, 111, 110, 116, 104]⟩] 9) := ⟨_, rfl⟩
  have hal : Below w1.heap.size w1 Wx := by rw [hWx]; exact below_alloc1 _ _
  rw [← hWx]
  have HO2 : Hid (Only (fun b => b = g ∨ b = gt ∨ (Value.slice A len cp).ownBlock = some b) w Wx) := HO1.out.trans (only_below hal)
  have HB2 := Lib.hid (HB1.out.below hal)
  have HW2 := Lib.hid (own_next HW1.out hal)
  have HT2 := Lib.hid (HT.out Wx (HR1.out.next hal))
  clear hWx hal HO1 HB1 HR1 HT HW1
  go_wp2_with fail
  refine HT2.out.mono ?_
  rintro e w3 ⟨rfl, hr, hg⟩
  have HO3 : Hid (Only (fun b => b = g ∨ b = gt ∨ (Value.slice A len cp).ownBlock = some b) w w3) := HO2.out.trans (only_grown hg (fun k e => by injection e with e; exact .inl e.symm))
  have HB3 := Lib.hid (HB2.out.grown hg (by simp; omega))
  have HW3 := Lib.hid (own_heap HW2.out (w' := w3) fun b hb => hg.block b (own_lt HW2.out b hb).2 (fun e => HG0.out (by rw [hb]; simpa using e)))
  have hal := below_alloc1 w3 (Obj.cells zeroM 60)
  have HC3 := Lib.hid (HC.out _ (hr.next hal))
  have HO4 : Hid (Only (fun b => b = g ∨ b = gt ∨ (Value.slice A len cp).ownBlock = some b) w (w3.alloc (Obj.cells zeroM 60))) := HO3.out.trans (only_below hal)
  have HB4 := Lib.hid (HB3.out.below hal)
  have HW4 := Lib.hid (own_next HW3.out hal)
  have HM4 := Lib.hid (Box.new w3 60 zeroM)
  have HLT : Hid (∀ b, (Value.slice A len cp).ownBlock = some b → b < w3.heap.size) := fun b hb => (own_lt HW3.out b hb).2
  have hgs : gt < w3.heap.size := HB3.out.lt
  have hgg : g < w3.heap.size := hr.lt
  have hgw : w.heap.size ≤ w3.heap.size := HO3.out.size
  clear hr hg hal HO2 HB2 HT2 HC HW2 HO3 HB3 HW3
  go_wp2_with fail
  generalize w3.alloc (Obj.cells zeroM 60) = W4 at *
  generalize w3.heap.size = g9 at *
  refine HC3.out.mono ?_
  rintro e w5 ⟨rfl, hr, hg⟩
  have hm5 := HM4.out.grown hg (by simp; omega)
  have hb5 := HB4.out.grown hg (by simp; omega)
  have hw5 := own_heap HW4.out (w' := w5) fun b hb => hg.block b (own_lt HW4.out b hb).2 (fun e => HG0.out (by rw [hb]; simpa using e))
  have HM5 : Hid (Box (((w5.setCell ⟨g9, 0, none⟩ (.string (str c))).setCell ⟨g9, 1, none⟩ (.int .i64 sh)).setCell ⟨g9, 2, none⟩ (.int .i64 lo)) g9 60 #[.string (str c), .int .i64 sh, .int .i64 lo]) := ((hm5.set_ 0 _).set_ 1 _).set_ 2 _
  have HB5 := Lib.hid (Box.far (Box.far (Box.far hb5 (p := ⟨g9, 0, none⟩) (by show gt ≠ g9; omega) (.string (str c))) (p := ⟨g9, 1, none⟩) (by show gt ≠ g9; omega) (.int .i64 sh)) (p := ⟨g9, 2, none⟩) (by show gt ≠ g9; omega) (.int .i64 lo))
  have HW5 : Hid ((((w5.setCell ⟨g9, 0, none⟩ (.string (str c))).setCell ⟨g9, 1, none⟩ (.int .i64 sh)).setCell ⟨g9, 2, none⟩ (.int .i64 lo)).ownsRow base 60 3 (.slice A len cp) len xs) := own_heap hw5 fun b hb => by
    have h : b ≠ g9 := by have := HLT.out b hb; omega
    rw [Below.heap_setCell _ _ _ b h, Below.heap_setCell _ _ _ b h, Below.heap_setCell _ _ _ b h]
  have HR5 := Lib.hid (reads_set (reads_set (reads_set hr g9 0 (.string (str c)) (by omega)) g9 1 (.int .i64 sh) (by omega)) g9 2 (.int .i64 lo) (by omega))
  have HO5 : Hid (Only (fun b => b = g ∨ b = gt ∨ (Value.slice A len cp).ownBlock = some b) w (((w5.setCell ⟨g9, 0, none⟩ (.string (str c))).setCell ⟨g9, 1, none⟩ (.int .i64 sh)).setCell ⟨g9, 2, none⟩ (.int .i64 lo))) :=
    only_setnew (only_setnew (only_setnew (HO4.out.trans (only_grown hg (fun k e => by injection e with e; exact .inl e.symm))) g9 0 _ hgw) g9 1 _ hgw) g9 2 _ hgw
  have q0 : w5.cell? ⟨g9, 0, none⟩ = some (.string ⟨#[]⟩) := hm5.cell 0
  have q1 : w5.cell? ⟨g9, 1, none⟩ = some (.int .i64 0) := hm5.cell 1
  have q2 : w5.cell? ⟨g9, 2, none⟩ = some (.int .i64 0) := hm5.cell 2
  have qf : ∀ i, w5.frozen? ⟨g9, i, none⟩ = false := fun i => hm5.free i
  have ql : g9 < w5.heap.size := hm5.lt
  clear hr hg hm5 hb5 hw5 HM4 HB4 HW4 HC3
  go_upto_region 9 with fail
  clear q0 q1 q2 qf ql
  generalize ((w5.setCell ⟨g9, 0, none⟩ (.string (str c))).setCell ⟨g9, 1, none⟩ (.int .i64 sh)).setCell ⟨g9, 2, none⟩ (.int .i64 lo) = w6 at *
  have hW6 := HW5.out
  have hbl : ∀ b, (Value.slice A len cp).ownBlock = some b → b < w6.heap.size := fun b hb => (own_lt hW6 b hb).2
  have d6 : ∀ W, w6.grownBy W (Value.slice A len cp).ownBlock → W.cell? ⟨gt, 6, none⟩ = some (.slice A len cp) := fun W hW => (HB5.out.grown hW (fun e => HGT0.out e.symm)).cell 6
  have m0 : ∀ W, w6.grownBy W (Value.slice A len cp).ownBlock → W.cell? ⟨g9, 0, none⟩ = some (.string (str c)) := fun W hW => (HM5.out.grown hW (fun e => by have := HLT.out g9 e.symm; omega)).cell 0
  have m1 : ∀ W, w6.grownBy W (Value.slice A len cp).ownBlock → W.cell? ⟨g9, 1, none⟩ = some (.int .i64 sh) := fun W hW => (HM5.out.grown hW (fun e => by have := HLT.out g9 e.symm; omega)).cell 1
  have m2 : ∀ W, w6.grownBy W (Value.slice A len cp).ownBlock → W.cell? ⟨g9, 2, none⟩ = some (.int .i64 lo) := fun W hW => (HM5.out.grown hW (fun e => by have := HLT.out g9 e.symm; omega)).cell 2
  have hb6 : base ≤ w6.heap.size := by have := HO5.out.size; omega
  refine flowG_begin_tail 10 7 (Value.slice A len cp).ownBlock (tellOf []) (by kernel_rfl) (by kernel_rfl) ?_
  simp only [List.take_succ_cons, List.take_zero, List.drop_succ_cons, List.drop_zero]
  repeat (first | (refine flowG_val (v := ?_) (by rfl) (by rfl) (fun w hb => ?_) ?_; rotate_left; (· ((go_simp) <;> ((repeat' apply And.intro) <;> with_reducible rfl))); try simp only [Act.put, List.setIfInBounds_toArray, List.set_cons_zero, List.set_cons_succ, Nat.reduceAdd]) | (refine flowG_skip (by rfl) (by rfl) ?_; try simp only [Act.put, List.setIfInBounds_toArray, List.set_cons_zero, List.set_cons_succ, Nat.reduceAdd]))
  refine flowG_lits (n := ?_) (c := ?_) (t := ?_) (cs := ?_) hbl (by rfl) (by rfl) (fun w hb => ?_) (fun g6 hg6 => ?_); rotate_left 4; (· ((go_simp) <;> ((repeat' apply And.intro) <;> with_reducible rfl))); try simp only [Act.put, List.setIfInBounds_toArray, List.set_cons_zero, List.set_cons_succ, Nat.reduceAdd]
  refine flowG_app [6] (by kernel_rfl) rfl (by rfl) (by rfl) (.tmp 33) (.tmp 35) 25 rfl base 60 i0 (.agg #[.string ⟨#[]⟩, .int .i64 0, .int .i64 0]) 3 32 Tryd.underlying25 hi0 hz0 hz1 hz2 rfl (by decide) (.slice A len cp) len xs rfl rfl hW6 hb6 ⟨g6, 0, none⟩ 1 1 [.string (str c), .int .i64 sh, .int .i64 lo] rfl rfl (fun w hb hu => World.news_of_block (cs := #[.string (str c), .int .i64 sh, .int .i64 lo]) (t := 60) (fr := (0, 0)) (usef_head hu)) (by simp [Value.oneCell']) (by simp only [maxLen]; omega) (by omega) fun A7 cap => ?_
  try simp only [Act.put, List.setIfInBounds_toArray, List.set_cons_zero, List.set_cons_succ, Nat.reduceAdd]
  repeat (first | (refine flowG_val (v := ?_) (by rfl) (by rfl) (fun w hb => ?_) ?_; rotate_left; (· ((go_simp) <;> ((repeat' apply And.intro) <;> with_reducible rfl))); try simp only [Act.put, List.setIfInBounds_toArray, List.set_cons_zero, List.set_cons_succ, Nat.reduceAdd]) | (refine flowG_skip (by rfl) (by rfl) ?_; try simp only [Act.put, List.setIfInBounds_toArray, List.set_cons_zero, List.set_cons_succ, Nat.reduceAdd]))
  refine flowG_nil fun w7 hgrow hf => ?_
  have hown7 : w7.ownsRow base 60 3 (.slice A7 (len + 1) cap) (len + 1) (xs ++ [.string (str c), .int .i64 sh, .int .i64 lo]) := hf.1
  have hx7 := HB5.out.grown hgrow (fun e => HGT0.out e.symm)
  have hg7 : gt < w7.heap.size := hx7.lt
  have hf7 : w7.frozen? ⟨gt, 6, none⟩ = false := hx7.free 6
  have hc7 : w7.cell? ⟨gt, 6, none⟩ = some (.slice A len cp) := hx7.cell 6
  have HX8 : Hid (Box (w7.setCell ⟨gt, 6, none⟩ (.slice A7 (len + 1) cap)) gt 27 (treeC nm ep cy k n ks (.slice A7 (len + 1) cap))) := hx7.set_ 6 _
  have HW8 : Hid ((w7.setCell ⟨gt, 6, none⟩ (.slice A7 (len + 1) cap)).ownsRow base 60 3 (.slice A7 (len + 1) cap) (len + 1) (xs ++ [.string (str c), .int .i64 sh, .int .i64 lo])) := own_heap hown7 fun b hb => by
    have h := ownApart hown7 hx7 (by decide) b hb
    rw [Below.heap_setCell _ _ _ b h]
  have HO8 : Hid (Only (fun b => b = g ∨ b = gt ∨ (Value.slice A len cp).ownBlock = some b) w (w7.setCell ⟨gt, 6, none⟩ (.slice A7 (len + 1) cap))) := (HO5.out.trans (only_grown hgrow (fun k e => .inr (.inr e)))).trans (only_set w7 gt 6 _ (.inr (.inl rfl)))
  have hgr7 : Reads w7 g S 0 [] := by
    obtain ⟨a', n', hx, hl⟩ := HR5.out
    exact ⟨a', n', Box.grown (show Box w6 g _ _ from hx) hgrow (fun e => HG0.out e.symm), hl⟩
  have HK8 := Lib.hid (HK.out _ (reads_set hgr7 gt 6 (.slice A7 (len + 1) cap) hgt))
  clear hown7 hgrow hx7 hW6 hf d6 m0 m1 m2 hgr7 HB5 HM5 HW5 HR5 HO5 hbl
  refine wpList_step fun K hK => ?_
  rw [if_pos (by rfl)]
  go_simp
  refine hK _ _ (wpList_nil ?_)
  clear hK K hg7 hf7 hc7
  generalize w7.setCell ⟨gt, 6, none⟩ (.slice A7 (len + 1) cap) = w8 at *
  go_wp2_with fail
  refine HK8.out.mono ?_
  rintro e w9 ⟨rfl, m, rfl⟩
  go_wp2_with fail
  go_ret
  exact ⟨A7, cap, rfl, HX8.out.drewN m, own_next HW8.out (below_drewN w8 m), HO8.out.trans (only_below (below_drewN w8 m))⟩
end Go.Proofs.YtbmbphikjainiaaDoor
