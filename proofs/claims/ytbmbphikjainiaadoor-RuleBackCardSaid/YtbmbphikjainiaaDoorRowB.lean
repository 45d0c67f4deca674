/- Contracts of package rule: the lines 'calendar', 'epoch', 'cycle', 'leap'. -/
import Derived.Test.YtbmbphikjainiaaDoorRowA
namespace Go.Proofs.YtbmbphikjainiaaDoor
open Go.RowKit
set_option linter.unusedVariables false

/-- only blocks of which p holds have changed; new ones may have come -/
structure Only (p : Nat → Prop) (w w' : World) : Prop where
  os : w'.os = w.os
  tape : w'.tape = w.tape
  output : w'.output = w.output
  size : w.heap.size ≤ w'.heap.size
  block : ∀ k, k < w.heap.size → ¬ p k → w'.heap[k]? = w.heap[k]?
theorem Only.trans {p : Nat → Prop} {a b c : World} (h : Only p a b) (k : Only p b c) : Only p a c :=
  ⟨k.os.trans h.os, k.tape.trans h.tape, k.output.trans h.output, Nat.le_trans h.size k.size, fun i hi hp => (k.block i (Nat.lt_of_lt_of_le hi h.size) hp).trans (h.block i hi hp)⟩
theorem only_grown {p : Nat → Prop} {w w' : World} {row : Option Nat} (h : w.grownBy w' row) (hp : ∀ k, row = some k → p k) : Only p w w' :=
  ⟨h.os, h.tape, h.output, h.size, fun k hk hn => h.block k hk (fun e => hn (hp k e.symm))⟩
theorem only_below {p : Nat → Prop} {w w' : World} (h : Below w.heap.size w w') : Only p w w' := ⟨h.os, h.tape, h.output, h.size, fun k hk _ => h.block k hk⟩
theorem only_set {p : Nat → Prop} (w : World) (g i : Nat) (v : Value) (hp : p g) : Only p w (w.setCell ⟨g, i, none⟩ v) :=
  ⟨rfl, rfl, rfl, by simp, fun k hk hn => Below.heap_setCell _ _ _ k (fun e => hn (by have : k = g := e; rw [this]; exact hp))⟩
theorem only_setnew {p : Nat → Prop} {w w1 : World} (h : Only p w w1) (g i : Nat) (v : Value) (hg : w.heap.size ≤ g) : Only p w (w1.setCell ⟨g, i, none⟩ v) :=
  ⟨h.os, h.tape, h.output, by simpa using h.size, fun k hk hn => (Below.heap_setCell _ _ _ k (show k ≠ g by omega)).trans (h.block k hk hn)⟩
theorem Only.more {p q : Nat → Prop} {w w' : World} (h : Only p w w') (hpq : ∀ k, k < w.heap.size → p k → q k) : Only q w w' := ⟨h.os, h.tape, h.output, h.size, fun k hk hn => h.block k hk fun hp => hn (hpq k hk hp)⟩
theorem Only.box {p : Nat → Prop} {w w' : World} (h : Only p w w') {b : Nat} {t : TypeId} {cs : Array Value} (hx : Box w b t cs) (hn : ¬ p b) : Box w' b t cs := (h.block b hx.lt hn).trans hx
/-- a fresh reader of a text with these words -/
def Fresh (w : World) (g : Nat) (S : ByteArray) (ts : List Tok) : Prop := Rd w g S 0 0 0 ∧ toks S.data.toList = ts ∧ S.size ≤ 5000
theorem fresh_scan (g : Nat) (S : ByteArray) (ts : List Tok) (w : World) (h : Fresh w g S ts) :
    Calls Tryd.prog 28 #[.pointer (some ⟨g, 0, none⟩)] w fun e w' => e = .returned (.tuple #[]) ∧ Reads w' g S 0 ts ∧ w.grownBy w' (some g) := by
  obtain ⟨h1, h2, h3⟩ := h
  refine (scan_any g S 0 0 0 ts w h1 h3 (by omega) (by rw [List.drop_zero]; exact h2)).mono ?_
  rintro e w' ⟨he, a', n', h4, h5, h6⟩
  exact ⟨he, ⟨a', n', h4, h5⟩, h6⟩
abbrev treeC (nm : ByteArray) (ep cy k n : Int) (ks : Value) (mo : Value) : Array Value := #[.string nm, .int .i64 ep, .int .i64 cy, .int .i64 k, .int .i64 n, ks, mo]
def RowQ (gt : Nat) (cs : Array Value) (p : Nat → Prop) (w : World) (e : Ending) (w' : World) : Prop := e = .returned (.bool true) ∧ Box w' gt 27 cs ∧ Only p w w'

set_option maxHeartbeats 4000000 in
set_option maxRecDepth 100000 in
theorem row_cal (g gt : Nat) (S : ByteArray) (c : Tok) (nm : ByteArray) (ep cy k n : Int) (ks mo : Value) (w : World) (hc : ∀ b ∈ c, isLow b = true) (hgt : gt ≠ g) (h : Fresh w g S ([99, 97, 108, 101, 110, 100, 97, 114] :: [c])) (hb : Box w gt 27 (treeC nm ep cy k n ks mo)) :
    Calls Tryd.prog 13 #[.pointer (some ⟨g, 0, none⟩), .pointer (some ⟨gt, 0, none⟩), .int .i64 0] w (RowQ gt (treeC (str c) ep cy k n ks mo) (fun k => k = g ∨ k = gt) w) := by
  have hS := h.2.2
  have HSC := Lib.hid (fresh_scan g S _ w h)
  have HT := Lib.hid (fun W (hr : Reads W g S 0 ([99, 97, 108, 101, 110, 100, 97, 114] :: [c])) => take_yes g S 0 [99, 97, 108, 101, 110, 100, 97, 114] ([c]) W hr hS)
  have HC := Lib.hid (fun W (hr : Reads W g S 0 ([c])) => word_yes g S 0 c [] W hr hS hc)
  have HK := Lib.hid (fun W (hr : Reads W g S 0 []) => tok_at g S 0 [] W hr hS)
  rw [show tokS [] = ⟨#[]⟩ from rfl] at HK
  have HB := Lib.hid hb
  have hgl : gt < w.heap.size := hb.lt
  unfold TakeQ at HT
  unfold WordQ at HC
  unfold RowQ
  clear h hb hc
  have hmin : min (0 : Int) 4 = 0 := by omega
  go_enter Tryd.func13, Tryd.ntmps13
  go_wp2_with fail
  refine HSC.out.mono ?_
  rintro e w1 ⟨rfl, hr, hg⟩
  have HO1 := Lib.hid (only_grown (p := fun k => k = g ∨ k = gt) hg (fun k e => by injection e with e; exact .inl e.symm))
  have HB1 := Lib.hid (HB.out.grown hg (by simp; omega))
  have HR1 := Lib.hid hr
  clear hr hg HSC HB
  go_upto_region 4 with fail
  obtain ⟨Wx, hWx⟩ : ∃ Wx, Wx = w1.alloc (Obj.cells #[.string ⟨#[99, 97, 108, 101, 110, 100, 97, 114]⟩, .string ⟨#[101, 112, 111, 99, 104]⟩, .string ⟨#[99, 121, 99, 108, 101]⟩, .string ⟨#[108, 101, 97, 112]⟩, .string ⟨#[109, 111, 110, 116, 104]⟩] 9) := ⟨_, rfl⟩
  have hal : Below w1.heap.size w1 Wx := by rw [hWx]; exact below_alloc1 _ _
  rw [← hWx]
  have HO2 : Hid (Only (fun k => k = g ∨ k = gt) w Wx) := HO1.out.trans (only_below hal)
  have HB2 := Lib.hid (HB1.out.below hal)
  have HT2 := Lib.hid (HT.out Wx (HR1.out.next hal))
  clear hWx hal HO1 HB1 HR1 HT
  go_wp2_with fail
  refine HT2.out.mono ?_
  rintro e w3 ⟨rfl, hr, hg⟩
  have HO3 : Hid (Only (fun k => k = g ∨ k = gt) w w3) := HO2.out.trans (only_grown hg (fun k e => by injection e with e; exact .inl e.symm))
  have HB3 := Lib.hid (HB2.out.grown hg (by simp; omega))
  have HC3 := Lib.hid (HC.out w3 hr)
  clear hr hg HO2 HB2 HT2 HC
  go_wp2_with fail
  refine HC3.out.mono ?_
  rintro e w4 ⟨rfl, hr, hg⟩
  have hb4 := HB3.out.grown hg (by simp; omega)
  have HO4 : Hid (Only (fun k => k = g ∨ k = gt) w (w4.setCell ⟨gt, 0, none⟩ (.string (str c)))) := (HO3.out.trans (only_grown hg (fun k e => by injection e with e; exact .inl e.symm))).trans (only_set w4 gt 0 _ (.inr rfl))
  have HB4 : Hid (Box (w4.setCell ⟨gt, 0, none⟩ (.string (str c))) gt 27 (treeC (str c) ep cy k n ks mo)) := hb4.set_ 0 _
  have HK4 := Lib.hid (HK.out _ (reads_set hr gt 0 (.string (str c)) hgt))
  have q0 : w4.cell? ⟨gt, 0, none⟩ = some (.string nm) := hb4.cell 0
  have qf : w4.frozen? ⟨gt, 0, none⟩ = false := hb4.free 0
  have ql : gt < w4.heap.size := hb4.lt
  clear hr hg hb4 HO3 HB3 HC3 HK
  go_upto_region 18 with fail
  clear q0 qf ql
  generalize w4.setCell ⟨gt, 0, none⟩ (.string (str c)) = w5 at *
  go_wp2_with fail
  refine HK4.out.mono ?_
  rintro e w6 ⟨rfl, m, rfl⟩
  go_wp2_with fail
  go_ret
  exact ⟨rfl, HB4.out.drewN m, HO4.out.trans (only_below (below_drewN w5 m))⟩

set_option maxHeartbeats 4000000 in
set_option maxRecDepth 100000 in
theorem row_epo (g gt : Nat) (S : ByteArray) (v : Int) (nm : ByteArray) (ep cy k n : Int) (ks mo : Value) (w : World) (h1 : -9999999999 ≤ v) (h2 : v ≤ 9999999999) (hgt : gt ≠ g) (h : Fresh w g S ([101, 112, 111, 99, 104] :: numT v ++ [])) (hb : Box w gt 27 (treeC nm ep cy k n ks mo)) :
    Calls Tryd.prog 13 #[.pointer (some ⟨g, 0, none⟩), .pointer (some ⟨gt, 0, none⟩), .int .i64 1] w (RowQ gt (treeC nm v cy k n ks mo) (fun k => k = g ∨ k = gt) w) := by
  have hS := h.2.2
  have HSC := Lib.hid (fresh_scan g S _ w h)
  have HT := Lib.hid (fun W (hr : Reads W g S 0 ([101, 112, 111, 99, 104] :: numT v ++ [])) => take_yes g S 0 [101, 112, 111, 99, 104] (numT v ++ []) W hr hS)
  have HC := Lib.hid (fun W (hr : Reads W g S 0 (numT v ++ [])) => number_at g S 0 v [] W hr hS h1 h2)
  have HK := Lib.hid (fun W (hr : Reads W g S 0 []) => tok_at g S 0 [] W hr hS)
  rw [show tokS [] = ⟨#[]⟩ from rfl] at HK
  have HB := Lib.hid hb
  have hgl : gt < w.heap.size := hb.lt
  unfold TakeQ at HT
  unfold WordQ at HC
  unfold RowQ
  clear h hb h1 h2
  have hmin : min (1 : Int) 4 = 1 := by omega
  go_enter Tryd.func13, Tryd.ntmps13
  go_wp2_with fail
  refine HSC.out.mono ?_
  rintro e w1 ⟨rfl, hr, hg⟩
  have HO1 := Lib.hid (only_grown (p := fun k => k = g ∨ k = gt) hg (fun k e => by injection e with e; exact .inl e.symm))
  have HB1 := Lib.hid (HB.out.grown hg (by simp; omega))
  have HR1 := Lib.hid hr
  clear hr hg HSC HB
  go_upto_region 4 with fail
  obtain ⟨Wx, hWx⟩ : ∃ Wx, Wx = w1.alloc (Obj.cells #[.string ⟨#[99, 97, 108, 101, 110, 100, 97, 114]⟩, .string ⟨#[101, 112, 111, 99, 104]⟩, .string ⟨#[99, 121, 99, 108, 101]⟩, .string ⟨#[108, 101, 97, 112]⟩, .string ⟨#[109, 111, 110, 116, 104]⟩] 9) := ⟨_, rfl⟩
  have hal : Below w1.heap.size w1 Wx := by rw [hWx]; exact below_alloc1 _ _
  rw [← hWx]
  have HO2 : Hid (Only (fun k => k = g ∨ k = gt) w Wx) := HO1.out.trans (only_below hal)
  have HB2 := Lib.hid (HB1.out.below hal)
  have HT2 := Lib.hid (HT.out Wx (HR1.out.next hal))
  clear hWx hal HO1 HB1 HR1 HT
  go_wp2_with fail
  refine HT2.out.mono ?_
  rintro e w3 ⟨rfl, hr, hg⟩
  have HO3 : Hid (Only (fun k => k = g ∨ k = gt) w w3) := HO2.out.trans (only_grown hg (fun k e => by injection e with e; exact .inl e.symm))
  have HB3 := Lib.hid (HB2.out.grown hg (by simp; omega))
  have HC3 := Lib.hid (HC.out w3 hr)
  clear hr hg HO2 HB2 HT2 HC
  go_wp2_with fail
  refine HC3.out.mono ?_
  rintro e w4 ⟨rfl, hr, hg⟩
  have hb4 := HB3.out.grown hg (by simp; omega)
  have HO4 : Hid (Only (fun k => k = g ∨ k = gt) w (w4.setCell ⟨gt, 1, none⟩ (.int .i64 v))) := (HO3.out.trans (only_grown hg (fun k e => by injection e with e; exact .inl e.symm))).trans (only_set w4 gt 1 _ (.inr rfl))
  have HB4 : Hid (Box (w4.setCell ⟨gt, 1, none⟩ (.int .i64 v)) gt 27 (treeC nm v cy k n ks mo)) := hb4.set_ 1 _
  have HK4 := Lib.hid (HK.out _ (reads_set hr gt 1 (.int .i64 v) hgt))
  have q0 : w4.cell? ⟨gt, 1, none⟩ = some (.int .i64 ep) := hb4.cell 1
  have qf : w4.frozen? ⟨gt, 1, none⟩ = false := hb4.free 1
  have ql : gt < w4.heap.size := hb4.lt
  clear hr hg hb4 HO3 HB3 HC3 HK
  go_upto_region 18 with fail
  clear q0 qf ql
  generalize w4.setCell ⟨gt, 1, none⟩ (.int .i64 v) = w5 at *
  go_wp2_with fail
  refine HK4.out.mono ?_
  rintro e w6 ⟨rfl, m, rfl⟩
  go_wp2_with fail
  go_ret
  exact ⟨rfl, HB4.out.drewN m, HO4.out.trans (only_below (below_drewN w5 m))⟩

set_option maxHeartbeats 4000000 in
set_option maxRecDepth 100000 in
theorem row_cyc (g gt : Nat) (S : ByteArray) (v : Int) (nm : ByteArray) (ep cy k n : Int) (ks mo : Value) (w : World) (h1 : -9999999999 ≤ v) (h2 : v ≤ 9999999999) (hgt : gt ≠ g) (h : Fresh w g S ([99, 121, 99, 108, 101] :: numT v ++ [])) (hb : Box w gt 27 (treeC nm ep cy k n ks mo)) :
    Calls Tryd.prog 13 #[.pointer (some ⟨g, 0, none⟩), .pointer (some ⟨gt, 0, none⟩), .int .i64 2] w (RowQ gt (treeC nm ep v k n ks mo) (fun k => k = g ∨ k = gt) w) := by
  have hS := h.2.2
  have HSC := Lib.hid (fresh_scan g S _ w h)
  have HT := Lib.hid (fun W (hr : Reads W g S 0 ([99, 121, 99, 108, 101] :: numT v ++ [])) => take_yes g S 0 [99, 121, 99, 108, 101] (numT v ++ []) W hr hS)
  have HC := Lib.hid (fun W (hr : Reads W g S 0 (numT v ++ [])) => number_at g S 0 v [] W hr hS h1 h2)
  have HK := Lib.hid (fun W (hr : Reads W g S 0 []) => tok_at g S 0 [] W hr hS)
  rw [show tokS [] = ⟨#[]⟩ from rfl] at HK
  have HB := Lib.hid hb
  have hgl : gt < w.heap.size := hb.lt
  unfold TakeQ at HT
  unfold WordQ at HC
  unfold RowQ
  clear h hb h1 h2
  have hmin : min (2 : Int) 4 = 2 := by omega
  go_enter Tryd.func13, Tryd.ntmps13
  go_wp2_with fail
  refine HSC.out.mono ?_
  rintro e w1 ⟨rfl, hr, hg⟩
  have HO1 := Lib.hid (only_grown (p := fun k => k = g ∨ k = gt) hg (fun k e => by injection e with e; exact .inl e.symm))
  have HB1 := Lib.hid (HB.out.grown hg (by simp; omega))
  have HR1 := Lib.hid hr
  clear hr hg HSC HB
  go_upto_region 4 with fail
  obtain ⟨Wx, hWx⟩ : ∃ Wx, Wx = w1.alloc (Obj.cells #[.string ⟨#[99, 97, 108, 101, 110, 100, 97, 114]⟩, .string ⟨#[101, 112, 111, 99, 104]⟩, .string ⟨#[99, 121, 99, 108, 101]⟩, .string ⟨#[108, 101, 97, 112]⟩, .string ⟨#[109, 111, 110, 116, 104]⟩] 9) := ⟨_, rfl⟩
  have hal : Below w1.heap.size w1 Wx := by rw [hWx]; exact below_alloc1 _ _
  rw [← hWx]
  have HO2 : Hid (Only (fun k => k = g ∨ k = gt) w Wx) := HO1.out.trans (only_below hal)
  have HB2 := Lib.hid (HB1.out.below hal)
  have HT2 := Lib.hid (HT.out Wx (HR1.out.next hal))
  clear hWx hal HO1 HB1 HR1 HT
  go_wp2_with fail
  refine HT2.out.mono ?_
  rintro e w3 ⟨rfl, hr, hg⟩
  have HO3 : Hid (Only (fun k => k = g ∨ k = gt) w w3) := HO2.out.trans (only_grown hg (fun k e => by injection e with e; exact .inl e.symm))
  have HB3 := Lib.hid (HB2.out.grown hg (by simp; omega))
  have HC3 := Lib.hid (HC.out w3 hr)
  clear hr hg HO2 HB2 HT2 HC
  go_wp2_with fail
  refine HC3.out.mono ?_
  rintro e w4 ⟨rfl, hr, hg⟩
  have hb4 := HB3.out.grown hg (by simp; omega)
  have HO4 : Hid (Only (fun k => k = g ∨ k = gt) w (w4.setCell ⟨gt, 2, none⟩ (.int .i64 v))) := (HO3.out.trans (only_grown hg (fun k e => by injection e with e; exact .inl e.symm))).trans (only_set w4 gt 2 _ (.inr rfl))
  have HB4 : Hid (Box (w4.setCell ⟨gt, 2, none⟩ (.int .i64 v)) gt 27 (treeC nm ep v k n ks mo)) := hb4.set_ 2 _
  have HK4 := Lib.hid (HK.out _ (reads_set hr gt 2 (.int .i64 v) hgt))
  have q0 : w4.cell? ⟨gt, 2, none⟩ = some (.int .i64 cy) := hb4.cell 2
  have qf : w4.frozen? ⟨gt, 2, none⟩ = false := hb4.free 2
  have ql : gt < w4.heap.size := hb4.lt
  clear hr hg hb4 HO3 HB3 HC3 HK
  go_upto_region 18 with fail
  clear q0 qf ql
  generalize w4.setCell ⟨gt, 2, none⟩ (.int .i64 v) = w5 at *
  go_wp2_with fail
  refine HK4.out.mono ?_
  rintro e w6 ⟨rfl, m, rfl⟩
  go_wp2_with fail
  go_ret
  exact ⟨rfl, HB4.out.drewN m, HO4.out.trans (only_below (below_drewN w5 m))⟩
end Go.Proofs.YtbmbphikjainiaaDoor
