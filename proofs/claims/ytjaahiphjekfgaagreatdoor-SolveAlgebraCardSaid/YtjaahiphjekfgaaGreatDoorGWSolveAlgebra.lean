/- WSolveAlgebra -/
import Derived.Test.YtjaahiphjekfgaaGreatDoorGSv16
import Derived.Test.YtjaahiphjekfgaaGreatDoorGFeArg
import Derived.Test.YtjaahiphjekfgaaGreatDoorGBack1
import Derived.Test.YtjaahiphjekfgaaGreatDoorGLine1
/- The walk of SolveAlgebra: it returns true at every input; it writes nothing that was there. -/
namespace Go.Proofs.YtjaahiphjekfgaaGreatDoor.solveAlgebra
open Go Go.RowKit
attribute [local go_sem] Oper.semAt_some
set_option linter.unusedVariables false

/-- an expression of two others -/
def feTwo (k : Int) (A : Option Addr) (c : Nat) (t u : FE) : FE := .node k 0 0 ⟨#[]⟩ A c [t, u]
def wantB (j : Nat) (a b : Bool) : Bool := if j = 0 then a || b else if j = 1 then a && b else a && !b
theorem two_mem (j : Nat) (hj : j < 3) (A : Option Addr) (c : Nat) (t u : FE) (day : Int) (hd : DayIn day) (a b : Bool) (ha : a = true ↔ memF t day) (hb : b = true ↔ memF u day) : wantB j a b = true ↔ memF (feTwo ((j : Int) + 9) A c t u) day := by
  have e0 : memL [t, u] 0 day ↔ memF t day := memL_get [t, u] 0 day (by simp)
  have e1 : memL [t, u] 1 day ↔ memF u day := memL_get [t, u] 1 day (by simp)
  unfold feTwo
  rw [memF]
  match j, hj with
  | 0, _ =>
    show _ ↔ DayIn day ∧ (memL [t, u] 0 day ∨ memL [t, u] 1 day)
    rw [e0, e1, ← ha, ← hb]
    simp [wantB, hd]
  | 1, _ =>
    show _ ↔ DayIn day ∧ (memL [t, u] 0 day ∧ memL [t, u] 1 day)
    rw [e0, e1, ← ha, ← hb]
    simp [wantB, hd]
  | 2, _ =>
    show _ ↔ DayIn day ∧ (memL [t, u] 0 day ∧ ¬ memL [t, u] 1 day)
    rw [e0, e1, ← ha, ← hb]
    simp [wantB, hd]

theorem three_at (a b : Bool) (j : Nat) (hj : j < 3) (W : World) : (Instr.index 30 (.agg #[.bool (a || b), .bool (a && b), .bool (a && !b)]) (.int .i64 (j : Int))).run Tryz.prog W = .ok (.bool (wantB j a b)) W := by
  match j, hj with
  | 0, _ | 1, _ | 2, _ => simp [Instr.index, run_underlying Tryz.underlying30, asIntOf, go_sem, wantB]

set_option maxRecDepth 100000 in
set_option maxHeartbeats 4000000 in
theorem core (t u : FE) (day0 : Int) (w : World) (hv : Env w) (ht : FeIn w w.heap.size t) (hu : FeIn w w.heap.size u) :
    Calls Tryz.prog 3 #[feV t, feV u, .int .i64 day0] w fun e w' => e = .returned (.bool true) ∧ Below w.heap.size w w' := by
  have HV := Lib.hid (fun W (h : Below w.heap.size w W) => hv.next h)
  have HIt := Lib.hid (fun W (h : Below w.heap.size w W) => ht.next h h.size)
  have HIu := Lib.hid (fun W (h : Below w.heap.size w W) => hu.next h h.size)
  have HSo := Lib.hid (fun W (h : Below w.heap.size w W) => solves_any W (hv.next h))
  have HCut := Lib.hid (fun W => cut_any day0 (-1000000) 2000000 W (by omega) (by omega) (by omega) (by omega))
  have b1 := Int.emod_nonneg day0 (show (2000000 : Int) ≠ 0 by omega)
  have b2 := Int.emod_lt_of_pos day0 (show (0 : Int) < 2000000 by omega)
  obtain ⟨day, hday⟩ : ∃ day, day = -1000000 + day0 % 2000000 := ⟨_, rfl⟩
  rw [← hday] at HCut
  have HDay : Hid (DayIn day) := ⟨by omega, by omega⟩
  have HHt := Lib.hid (fun W (h : Below w.heap.size w W) => has_any t day W (hv.next h) (ht.next h h.size))
  have HHu := Lib.hid (fun W (h : Below w.heap.size w W) => has_any u day W (hv.next h) (hu.next h h.size))
  have HM3 := Lib.hid (fun a b W => map3_any a b W)
  unfold HasQ at HHt HHu
  clear b1 b2 hday hv ht hu
  obtain ⟨t0, ht0⟩ : ∃ t0, t0 = t := ⟨_, rfl⟩
  obtain ⟨u0, hu0⟩ : ∃ u0, u0 = u := ⟨_, rfl⟩
  obtain ⟨k, a, b, nm, A, c, ks⟩ := t
  obtain ⟨k2, a2, b2, nm2, A2, c2, ks2⟩ := u
  rw [← ht0] at HHt HIt ⊢
  rw [← hu0] at HHu HIu ⊢
  have hft : feV t0 = .agg #[.int .i64 k, .int .i64 a, .int .i64 b, .string nm, .slice A ks.length c] := by rw [ht0]; rfl
  have hfu : feV u0 = .agg #[.int .i64 k2, .int .i64 a2, .int .i64 b2, .string nm2, .slice A2 ks2.length c2] := by rw [hu0]; rfl
  have hct : feF t0 = [.int .i64 k, .int .i64 a, .int .i64 b, .string nm, .slice A ks.length c] := by rw [ht0]; rfl
  have hcu : feF u0 = [.int .i64 k2, .int .i64 a2, .int .i64 b2, .string nm2, .slice A2 ks2.length c2] := by rw [hu0]; rfl
  rw [hft] at HHt ⊢
  rw [hfu] at HHu ⊢
  have HF := Lib.hid (And.intro hct hcu)
  have HB := Lib.hid (below_alloc2 w (Obj.cells #[.int .i64 k, .int .i64 a, .int .i64 b, .string nm, .slice A ks.length c] 24) (Obj.cells #[.int .i64 k2, .int .i64 a2, .int .i64 b2, .string nm2, .slice A2 ks2.length c2] 24))
  have HX := Lib.hid ((Box.new w 24 #[.int .i64 k, .int .i64 a, .int .i64 b, .string nm, .slice A ks.length c]).alloc (Obj.cells #[.int .i64 k2, .int .i64 a2, .int .i64 b2, .string nm2, .slice A2 ks2.length c2] 24))
  have hy := Box.new (w.alloc (Obj.cells #[.int .i64 k, .int .i64 a, .int .i64 b, .string nm, .slice A ks.length c] 24)) 24 #[.int .i64 k2, .int .i64 a2, .int .i64 b2, .string nm2, .slice A2 ks2.length c2]
  rw [World.size_alloc] at hy
  have HY := Lib.hid hy
  clear ht0 hu0 hft hfu hct hcu hy
  go_enter Tryz.func3, Tryz.ntmps3
  go_upto_region 1 with fail
  generalize (w.alloc (Obj.cells #[.int .i64 k, .int .i64 a, .int .i64 b, .string nm, .slice A ks.length c] 24)).alloc (Obj.cells #[.int .i64 k2, .int .i64 a2, .int .i64 b2, .string nm2, .slice A2 ks2.length c2] 24) = W2 at *
  obtain ⟨g0, hg0⟩ : ∃ g0, g0 = w.heap.size := ⟨_, rfl⟩
  rw [← hg0] at HX HY ⊢
  obtain ⟨g1, hg1⟩ : ∃ g1, g1 = g0 + 1 := ⟨_, rfl⟩
  rw [← hg1] at HY ⊢
  have HG := Lib.hid hg0
  clear hg0 hg1
  go_wp2_with fail
  refine (HSo.out W2 HB.out).mono ?_
  rintro e w3 ⟨rfl, hb3⟩
  have HB3 := Lib.hid (below_then HB.out hb3)
  have HX3 := Lib.hid (HX.out.below hb3)
  have HY3 := Lib.hid (HY.out.below hb3)
  clear hb3 HB HX HY HSo
  obtain ⟨x0, x1, x2, x3, x4⟩ := fecells HX3.out
  go_wp2_with (go_at_call 9; refine (HCut.out _).mono ?_; rintro e w' ⟨rfl, rfl⟩)
  refine (HHt.out w3 HB3.out).mono ?_
  rintro e w4 ⟨ta, E, rfl, hE, hm, _, hb4⟩
  have HB4 := Lib.hid (below_then HB3.out hb4)
  have HX4 := Lib.hid (HX3.out.below hb4)
  have HY4 := Lib.hid (HY3.out.below hb4)
  have HE := Lib.hid (And.intro hE hm)
  clear hb4 hE hm HB3 HX3 HY3 HHt HCut x0 x1 x2 x3 x4
  obtain ⟨x0, x1, x2, x3, x4⟩ := fecells HY4.out
  go_wp2_with fail
  refine (HHu.out w4 HB4.out).mono ?_
  rintro e w5 ⟨tb, F, rfl, hF, hm, _, hb5⟩
  have HB5 := Lib.hid (below_then HB4.out hb5)
  have HX5 := Lib.hid (HX4.out.below hb5)
  have HY5 := Lib.hid (HY4.out.below hb5)
  have HFe := Lib.hid (And.intro hF hm)
  clear hb5 hF hm HB4 HX4 HY4 HHu x0 x1 x2 x3 x4
  by_cases hE0 : E = 0
  case neg =>
    have t1 : (E != 0) = true := by rw [bne_iff_ne]; exact hE0
    clear hE0 HE HFe
    go_wp2_with fail
    go_ret
    exact ⟨rfl, HB5.out⟩
  by_cases hF0 : F = 0
  case neg =>
    have t1 : (E != 0) = false := by rw [bne_eq_false_iff_eq]; exact hE0
    have t2 : (F != 0) = true := by rw [bne_iff_ne]; exact hF0
    clear hE0 hF0 HE HFe
    go_wp2_with fail
    go_ret
    exact ⟨rfl, HB5.out⟩
  subst hE0 hF0
  have HA := Lib.hid (HE.out.2 rfl)
  have HBm := Lib.hid (HFe.out.2 rfl)
  clear HE HFe
  go_wp2_with fail
  refine (HM3.out ta tb w5).mono ?_
  rintro e w6 ⟨rfl, hb6⟩
  have HB6 := Lib.hid (below_then HB5.out hb6)
  have HX6 := Lib.hid (HX5.out.below hb6)
  have HY6 := Lib.hid (HY5.out.below hb6)
  clear hb6 HB5 HX5 HY5 HM3
  go_wp2_with fail
  go_loopw [11, 12, 13, 14, 15, 41] (fun _ _ _ _ _ i wr => ∃ j : Nat, j ≤ 3 ∧ i = .int .i64 (j : Int) ∧ Hid (Box wr g0 24 #[.int .i64 k, .int .i64 a, .int .i64 b, .string nm, .slice A ks.length c]) ∧ Hid (Box wr g1 24 #[.int .i64 k2, .int .i64 a2, .int .i64 b2, .string nm2, .slice A2 ks2.length c2]) ∧ Hid (Below w.heap.size w wr)) (fun _ _ _ _ _ i _ => 3 - (intOf i).toNat)
  case atStart => exact ⟨0, by omega, rfl, HX6, HY6, HB6⟩
  case round =>
    obtain ⟨j, hj, rfl, hX, hY, hbr⟩ := hrel
    clear HB6 HX6 HY6
    by_cases hlt : j < 3
    case neg =>
      have t1 : decide ((j : Int) < 3) = false := decide_eq_false (by omega)
      go_wp2_with fail
      go_ret
      exact ⟨rfl, hbr.out⟩
    have t1 : decide ((j : Int) < 3) = true := decide_eq_true (by omega)
    have hix := fun W => three_at ta tb j hlt W
    have ewj : IntKind.i64.wrap ((j : Int) + 9) = (j : Int) + 9 := intFits _ (by omega) (by omega)
    obtain ⟨x0, x1, x2, x3, x4⟩ := fecells hX.out
    obtain ⟨y0, y1, y2, y3, y4⟩ := fecells hY.out
    obtain ⟨V, hV⟩ : ∃ V, V = wantB j ta tb := ⟨_, rfl⟩
    rw [← hV] at hix
    have HVe := Lib.hid hV
    have HJ := Lib.hid hlt
    have hb7 := below_alloc2 wr (Obj.cells #[.int .i64 k, .int .i64 a, .int .i64 b, .string nm, .slice A ks.length c, .int .i64 k2, .int .i64 a2, .int .i64 b2, .string nm2, .slice A2 ks2.length c2] 24) (Obj.cells #[.int .i64 ((j : Int) + 9), .int .i64 0, .int .i64 0, .string ⟨#[]⟩, .slice (some ⟨wr.heap.size, 0, none⟩) 2 2] 24)
    have hz7 := (Box.new wr 24 #[.int .i64 k, .int .i64 a, .int .i64 b, .string nm, .slice A ks.length c, .int .i64 k2, .int .i64 a2, .int .i64 b2, .string nm2, .slice A2 ks2.length c2]).alloc (Obj.cells #[.int .i64 ((j : Int) + 9), .int .i64 0, .int .i64 0, .string ⟨#[]⟩, .slice (some ⟨wr.heap.size, 0, none⟩) 2 2] 24)
    have hx7 := Box.new (wr.alloc (Obj.cells #[.int .i64 k, .int .i64 a, .int .i64 b, .string nm, .slice A ks.length c, .int .i64 k2, .int .i64 a2, .int .i64 b2, .string nm2, .slice A2 ks2.length c2] 24)) 24 #[.int .i64 ((j : Int) + 9), .int .i64 0, .int .i64 0, .string ⟨#[]⟩, .slice (some ⟨wr.heap.size, 0, none⟩) 2 2]
    rw [World.size_alloc] at hx7
    have HB7 := Lib.hid (below_then hbr.out hb7)
    have HX7 := Lib.hid (hX.out.below hb7)
    have HY7 := Lib.hid (hY.out.below hb7)
    have HZ7 := Lib.hid hz7
    have HF7 := Lib.hid hx7
    clear hV hlt hb7 hz7 hx7
    go_upto_region 12 with fail
    clear x0 x1 x2 x3 x4 y0 y1 y2 y3 y4 hix ewj hX hY hbr
    generalize (wr.alloc (Obj.cells #[.int .i64 k, .int .i64 a, .int .i64 b, .string nm, .slice A ks.length c, .int .i64 k2, .int .i64 a2, .int .i64 b2, .string nm2, .slice A2 ks2.length c2] 24)).alloc (Obj.cells #[.int .i64 ((j : Int) + 9), .int .i64 0, .int .i64 0, .string ⟨#[]⟩, .slice (some ⟨wr.heap.size, 0, none⟩) 2 2] 24) = w7 at *
    generalize wr.heap.size = gb at *
    have HIn : Hid (FeIn w7 w7.heap.size (feTwo ((j : Int) + 9) (some ⟨gb, 0, none⟩) 2 t0 u0)) := by
      refine .mk ⟨by omega, by omega⟩ ⟨by omega, by omega⟩ ⟨by omega, by omega⟩ (by decide) (by simp [maxLen]) ?_ ?_
      · have h := Row.of_box HZ7.out
        have e : [t0, u0].flatMap feF = (#[.int .i64 k, .int .i64 a, .int .i64 b, .string nm, .slice A ks.length c, .int .i64 k2, .int .i64 a2, .int .i64 b2, .string nm2, .slice A2 ks2.length c2] : Array Value).toList := by simp [HF.out.1, HF.out.2]
        rw [e]
        exact h
      · intro x hx
        simp only [List.mem_cons, List.not_mem_nil, or_false] at hx
        rcases hx with rfl | rfl
        · exact HIt.out _ HB7.out
        · exact HIu.out _ HB7.out
    have HCk := Lib.hid (fcheck_any _ w7 (HV.out _ HB7.out) HIn.out)
    have HHa := Lib.hid (fun W (hW : Below w7.heap.size w7 W) => has_any _ day W (HV.out _ (below_then HB7.out hW)) (HIn.out.next hW hW.size))
    have HTm := Lib.hid (two_mem j HJ.out (some ⟨gb, 0, none⟩) 2 t0 u0 day HDay.out ta tb HA.out HBm.out)
    generalize hXX : feTwo ((j : Int) + 9) (some ⟨gb, 0, none⟩) 2 t0 u0 = XX at *
    have hfx : feV XX = .agg #[.int .i64 ((j : Int) + 9), .int .i64 0, .int .i64 0, .string ⟨#[]⟩, .slice (some ⟨gb, 0, none⟩) 2 2] := by rw [← hXX]; rfl
    rw [hfx] at HCk HHa
    unfold FCheckQ at HCk
    unfold HasQ at HHa
    clear hXX hfx HIn
    obtain ⟨x0, x1, x2, x3, x4⟩ := fecells HF7.out
    go_wp2_with fail
    refine HCk.out.mono ?_
    rintro e w8 ⟨E, rfl, hE, hb8⟩
    have HB8 := Lib.hid (below_then HB7.out hb8)
    have HX8 := Lib.hid (HX7.out.below hb8)
    have HY8 := Lib.hid (HY7.out.below hb8)
    have HF8 := Lib.hid (HF7.out.below hb8)
    have HH8 := Lib.hid (HHa.out w8 hb8)
    have HE := Lib.hid hE
    clear hb8 hE HB7 HX7 HY7 HZ7 HF7 HCk HHa x0 x1 x2 x3 x4
    by_cases hE0 : E = 0
    case neg =>
      have t3 : (E != 0) = true := by rw [bne_iff_ne]; exact hE0
      clear hE0 HE
      go_wp2_with fail
      go_ret
      exact ⟨rfl, HB8.out⟩
    subst hE0
    have HGd := Lib.hid (HE.out.1 rfl)
    clear HE
    obtain ⟨x0, x1, x2, x3, x4⟩ := fecells HF8.out
    go_wp2_with fail
    refine HH8.out.mono ?_
    rintro e w9 ⟨is, F, rfl, hF, hm, _, hb9⟩
    have HB9 := Lib.hid (below_then HB8.out hb9)
    have HX9 := Lib.hid (HX8.out.below hb9)
    have HY9 := Lib.hid (HY8.out.below hb9)
    have hF0 : F = 0 := hF.2 ⟨HGd.out, HDay.out⟩
    have his : is = V := by
      rw [HVe.out, Bool.eq_iff_iff]
      exact (hm hF0).trans HTm.out.symm
    clear hb9 hF hm HB8 HX8 HY8 HF8 HH8 x0 x1 x2 x3 x4
    subst hF0 his
    have t4 : (is != is) = false := by cases is <;> rfl
    go_wp2_with fail
    go_roundw
    case rel => exact ⟨j + 1, by have := HJ.out; omega, by go_num, HX9, HY9, HB9⟩
    case measure => have := HJ.out; simp [intOf]; omega

set_option maxRecDepth 100000 in
theorem walk {H : Type} {enc : TypeId × Value → H} {base : Nat} {W : World} (v0 : Value) (d0 : DataW H) (p0 : List MemPlace) (hv0 : Value.okWide Tryz.prog W .any base 24 v0) (h0 : DataW.Trod enc Tryz.prog W 0 (fun _ => true) true 24 v0 d0 p0)
    (v1 : Value) (d1 : DataW H) (p1 : List MemPlace) (hv1 : Value.okWide Tryz.prog W .any base 24 v1) (h1 : DataW.Trod enc Tryz.prog W 0 (fun _ => true) true 24 v1 d1 p1) (a2 : Int) (w2 : (Lit.int .i64 a2).wf = true)
    (hL : laidMet Tryz.prog Rows.solveAlgebraRow.laid W) (hsh : W.ShapedOpen Tryz.prog) :
    Calls Tryz.prog 3 #[v0, v1, .int .i64 a2] W fun e w' => e = .returned (.bool true) ∧ Below W.heap.size W w' := by
  obtain ⟨t, rfl, ht⟩ := fe_open hv0 h0
  obtain ⟨u, rfl, hu⟩ := fe_open hv1 h1
  exact core t u a2 W ⟨sgs_of hL.tail.tail.tail.tail.tail.tail.tail, lvs_of hL.tail.tail.tail.tail.tail.tail, Shp.of hsh⟩ ht hu
end Go.Proofs.YtjaahiphjekfgaaGreatDoor.solveAlgebra
