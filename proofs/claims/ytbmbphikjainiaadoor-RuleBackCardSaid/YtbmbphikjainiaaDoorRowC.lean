/- Contract of package rule: the line 'leap'. -/
import Derived.Test.YtbmbphikjainiaaDoorRowB
namespace Go.Proofs.YtbmbphikjainiaaDoor
open Go.RowKit
set_option linter.unusedVariables false

def RowLQ (g gt : Nat) (nm : ByteArray) (ep cy : Int) (mo : Value) (t : RE) (w : World) (e : Ending) (w' : World) : Prop :=
  ∃ (k n : Int) (A : Option Addr) (c : Nat) (ks : List RE), Same (.node k n A c ks) t ∧ e = .returned (.bool true) ∧ Box w' gt 27 (treeC nm ep cy k n (.slice A ks.length c) mo) ∧ ReAt w' (fun b => w.heap.size ≤ b) w'.heap.size (.node k n A c ks) ∧ Only (fun k => k = g ∨ k = gt) w w'
set_option maxHeartbeats 4000000 in
set_option maxRecDepth 100000 in
theorem row_leap (g gt : Nat) (S : ByteArray) (X : List Tok) (t : RE) (nm : ByteArray) (ep cy k n : Int) (ks mo : Value) (w : World) (hgt : gt ≠ g) (h : Fresh w g S ([108, 101, 97, 112] :: X)) (hb : Box w gt 27 (treeC nm ep cy k n ks mo)) (hs : Sgs w) (hv : Lvs w)
    (hg1 : g ≠ 1) (hg2 : g ≠ 0)
    (hE : ∀ W, RdOk W g S 0 X → Calls Tryd.prog 33 #[.pointer (some ⟨g, 0, none⟩), .int .i64 0] W (ExprQ g S 0 t [] W)) :
    Calls Tryd.prog 13 #[.pointer (some ⟨g, 0, none⟩), .pointer (some ⟨gt, 0, none⟩), .int .i64 3] w (RowLQ g gt nm ep cy mo t w) := by
  have hS := h.2.2
  have HSC := Lib.hid (fresh_scan g S _ w h)
  have HT := Lib.hid (fun W (hr : Reads W g S 0 ([108, 101, 97, 112] :: X)) => take_yes g S 0 [108, 101, 97, 112] X W hr hS)
  have HE := Lib.hid hE
  have HK := Lib.hid (fun W (hr : Reads W g S 0 []) => tok_at g S 0 [] W hr hS)
  rw [show tokS [] = ⟨#[]⟩ from rfl] at HK
  have HB := Lib.hid hb
  have hgl : gt < w.heap.size := hb.lt
  have HSG := Lib.hid hs
  have HLV := Lib.hid hv
  unfold TakeQ at HT
  clear h hb hs hv hE
  have hmin : min (3 : Int) 4 = 3 := by omega
  go_enter Tryd.func13, Tryd.ntmps13
  go_wp2_with fail
  refine HSC.out.mono ?_
  rintro e w1 ⟨rfl, hr, hg⟩
  have HO1 := Lib.hid (only_grown (p := fun k => k = g ∨ k = gt) hg (fun k e => by injection e with e; exact .inl e.symm))
  have HB1 := Lib.hid (HB.out.grown hg (by simp; omega))
  have HR1 := Lib.hid hr
  have HS1 := Lib.hid (HSG.out.grown hg hg1)
  have HV1 := Lib.hid (HLV.out.grown hg hg2)
  clear hr hg HSC HB HSG HLV
  go_upto_region 4 with fail
  obtain ⟨Wx, hWx⟩ : ∃ Wx, Wx = w1.alloc (Obj.cells #[.string ⟨#[99, 97, 108, 101, 110, 100, 97, 114]⟩, .string ⟨#[101, 112, 111, 99, 104]⟩, .string ⟨#[99, 121, 99, 108, 101]⟩, .string ⟨#[108, 101, 97, 112]⟩, .string ⟨#[109, 111, 110, 116, 104]⟩] 9) := ⟨_, rfl⟩
  have hal : Below w1.heap.size w1 Wx := by rw [hWx]; exact below_alloc1 _ _
  rw [← hWx]
  have HO2 : Hid (Only (fun k => k = g ∨ k = gt) w Wx) := HO1.out.trans (only_below hal)
  have HB2 := Lib.hid (HB1.out.below hal)
  have HT2 := Lib.hid (HT.out Wx (HR1.out.next hal))
  have HS2 := Lib.hid (HS1.out.next hal)
  have HV2 := Lib.hid (HV1.out.next hal)
  clear hWx hal HO1 HB1 HR1 HT HS1 HV1
  go_wp2_with fail
  refine HT2.out.mono ?_
  rintro e w3 ⟨rfl, hr, hg⟩
  have HO3 : Hid (Only (fun k => k = g ∨ k = gt) w w3) := HO2.out.trans (only_grown hg (fun k e => by injection e with e; exact .inl e.symm))
  have HB3 := Lib.hid (HB2.out.grown hg (by simp; omega))
  have HC3 := Lib.hid (HE.out w3 ⟨hr, HS2.out.grown hg hg1, HV2.out.grown hg hg2, hg1, hg2⟩)
  clear hr hg HO2 HB2 HT2 HE HS2 HV2
  go_wp2_with fail
  refine HC3.out.mono ?_
  rintro e w4 ⟨t', hsm, rfl, ha, hr, hg⟩
  cases t' with
  | node k2 n2 A2 c2 ks2 =>
  rw [show reV (.node k2 n2 A2 c2 ks2) = .agg #[.int .i64 k2, .int .i64 n2, .slice A2 ks2.length c2] from rfl]
  have HSM := Lib.hid hsm
  have hb4 := HB3.out.grown hg (by simp; omega)
  have HO4 : Hid (Only (fun k => k = g ∨ k = gt) w (((w4.setCell ⟨gt, 3, none⟩ (.int .i64 k2)).setCell ⟨gt, 4, none⟩ (.int .i64 n2)).setCell ⟨gt, 5, none⟩ (.slice A2 ks2.length c2))) := (((HO3.out.trans (only_grown hg (fun k e => by injection e with e; exact .inl e.symm))).trans (only_set w4 gt 3 _ (.inr rfl))).trans (only_set _ gt 4 _ (.inr rfl))).trans (only_set _ gt 5 _ (.inr rfl))
  have HB4 : Hid (Box (((w4.setCell ⟨gt, 3, none⟩ (.int .i64 k2)).setCell ⟨gt, 4, none⟩ (.int .i64 n2)).setCell ⟨gt, 5, none⟩ (.slice A2 ks2.length c2)) gt 27 (treeC nm ep cy k2 n2 (.slice A2 ks2.length c2) mo)) := ((hb4.set_ 3 _).set_ 4 _).set_ 5 _
  have ha' := ha.more (p' := fun b => w.heap.size ≤ b) fun b hb _ => by have := HO3.out.size; omega
  have HA4 := Lib.hid (((ha'.set_ gt 3 (.int .i64 k2) (by omega)).set_ gt 4 (.int .i64 n2) (by omega)).set_ gt 5 (.slice A2 ks2.length c2) (by omega))
  have HK4 := Lib.hid (HK.out _ (reads_set (reads_set (reads_set hr gt 3 (.int .i64 k2) hgt) gt 4 (.int .i64 n2) hgt) gt 5 (.slice A2 ks2.length c2) hgt))
  have q3 : w4.cell? ⟨gt, 3, none⟩ = some (.int .i64 k) := hb4.cell 3
  have q4 : w4.cell? ⟨gt, 4, none⟩ = some (.int .i64 n) := hb4.cell 4
  have q5 : w4.cell? ⟨gt, 5, none⟩ = some ks := hb4.cell 5
  have qf : ∀ i, w4.frozen? ⟨gt, i, none⟩ = false := fun i => hb4.free i
  have ql : gt < w4.heap.size := hb4.lt
  clear hr hg hb4 HO3 HB3 HC3 HK hsm ha ha'
  go_upto_region 18 with fail
  clear q3 q4 q5 qf ql
  generalize ((w4.setCell ⟨gt, 3, none⟩ (.int .i64 k2)).setCell ⟨gt, 4, none⟩ (.int .i64 n2)).setCell ⟨gt, 5, none⟩ (.slice A2 ks2.length c2) = w5 at *
  go_wp2_with fail
  refine HK4.out.mono ?_
  rintro e w6 ⟨rfl, m, rfl⟩
  go_wp2_with fail
  go_ret
  exact ⟨k2, n2, A2, c2, ks2, HSM.out, rfl, HB4.out.drewN m, HA4.out.next (below_drewN w5 m), HO4.out.trans (only_below (below_drewN w5 m))⟩
end Go.Proofs.YtbmbphikjainiaaDoor
