/- Hr1, Hr2, Hr3, Hr4, Hr5, Hr6, Hr7, Hr8, HrCon, PaArg, Pl1, Pl2, Pl3, Pl4, Pl5, Pl6, Pl7 -/
import Derived.Deep.CutBlock
import Derived.Test.YtabidjmmgnkhkaaGreatDoorGHrPlain
import Derived.Test.YtabidjmmgnkhkaaGreatDoorGFe1
import Derived.Test.YtabidjmmgnkhkaaGreatDoorGSv7
import Derived.Test.YtabidjmmgnkhkaaGreatDoorGPlainRoom
/- Contracts of hours.spans, Check and both. -/
namespace Go.Proofs.YtabidjmmgnkhkaaGreatDoor
open Go Go.RowKit
attribute [local go_sem] Oper.semAt_some
set_option linter.unusedVariables false
def SpOk (l : List Sp) (i : Nat) : Prop := 0 ≤ (l.getD i sp0).a ∧ (l.getD i sp0).a < (l.getD i sp0).b ∧ (l.getD i sp0).b ≤ 86400000 ∧ (0 < i → (l.getD (i - 1) sp0).b ≤ (l.getD i sp0).a)
theorem spansOk_iff (l : List Sp) : SpansOk l ↔ l.length ≤ 8 ∧ ∀ i, i < l.length → SpOk l i :=
 ⟨fun h => ⟨h.ln, fun i hi => ⟨(h.rg i hi).1, (h.rg i hi).2.1, (h.rg i hi).2.2, fun h0 => h.inc i h0 hi⟩⟩, fun h => ⟨h.1, fun i hi => ⟨(h.2 i hi).1, (h.2 i hi).2.1, (h.2 i hi).2.2.1⟩, fun i h0 hi => (h.2 i hi).2.2.2 h0⟩⟩
theorem getD_sp {l : List Sp} {i : Nat} (h : i < l.length) : l.getD i sp0 ∈ l := by
 rw [List.getD_eq_getElem?_getD, List.getElem?_eq_getElem h]
 exact List.getElem_mem h
set_option maxHeartbeats 4000000 in
set_option maxRecDepth 100000 in
theorem spans_any (d : Wd) (w : World) (hin : WdIn w w.heap.size d) : Calls Tryz.prog 87 #[wdV d] w (IsChk (SpansOk d.l) w) := by
 obtain ⟨A, c, l⟩ := d
 have hA : Row w w.heap.size A (l.flatMap spF) := hin.row
 have hl : l.length ≤ maxLen := hin.ln
 have hfit : ∀ s ∈ l, I64 s.a ∧ I64 s.b := hin.fit
 unfold maxLen at hl
 rw [spansOk_iff]
 show Calls Tryz.prog 87 #[.slice A l.length c] w (IsChk (l.length ≤ 8 ∧ ∀ i, i < l.length → SpOk l i) w)
 obtain ⟨G, hG⟩ : ∃ G : Prop, G = (l.length ≤ 8 ∧ ∀ i, i < l.length → SpOk l i) := ⟨_, rfl⟩
 rw [← hG]
 have HG := Lib.hid hG
 clear hG hin
 go_enter Tryz.func87, Tryz.ntmps87
 by_cases h3 : 8 < l.length
 ·have t1 : decide (8 < (l.length : Int)) = true := decide_eq_true (by omega)
  go_wp2_with fail
  go_ret
  exact IsChk.no (fun h => by rw [HG.out] at h; have := h.1; omega) (by omega) (Below.refl _ _)
 have t1 : decide (8 < (l.length : Int)) = false := decide_eq_false (by omega)
 go_wp2_with fail
 clear t1
 go_loopw [3, 4, 10] (fun _ _ i wr => ∃ k : Nat, k ≤ l.length ∧ i = .int .i64 k ∧ Hid (∀ j, j < k → SpOk l j) ∧ Below w.heap.size w wr) (fun _ _ i _ => l.length - (intOf i).toNat)
 case atStart => exact ⟨0, by omega, rfl, (fun j hj => by omega), Below.refl _ _⟩
 case round =>
  obtain ⟨k, hk, rfl, hall, hbr⟩ := hrel
  have hzr := hbr.size
  by_cases hlt : k < l.length
  case neg =>
   have hkl : k = l.length := by omega
   have HY : Hid G := by unfold Hid; rw [HG.out]; exact ⟨by omega, fun i hi => hall.out i (by omega)⟩
   have HBr := Lib.hid hbr
   clear hkl
   go_wp2_with fail
   go_ret
   exact IsChk.yes HY.out HBr.out
  obtain ⟨b, o, rfl, hb, hc⟩ := hA.open_ (flat_ne spF_len (by omega) l (by omega))
  have hc' : ∀ j v, (l.flatMap spF)[j]? = some v → wr.cell? ⟨b, o + j, none⟩ = some v := fun j v hv => (hbr.cell (p := ⟨b, o + j, none⟩) hb).trans (hc j v hv)
  have y0 := flat_cell spF_len sp0 hc' k 0 hlt (by omega) (.int .i64 (l.getD k sp0).a) rfl
  have y1 := flat_cell spF_len sp0 hc' k 1 hlt (by omega) (.int .i64 (l.getD k sp0).b) rfl
  rw [Nat.add_zero] at y0
  have hbl : b < wr.heap.size := by omega
  obtain ⟨⟨f1, f2⟩, f3, f4⟩ := hfit _ (getD_sp hlt)
  have hprev : 0 < k → wr.cell? ⟨b, o + (k - 1) * 2 + 1, none⟩ = some (.int .i64 (l.getD (k - 1) sp0).b) := fun h => flat_cell spF_len sp0 hc' (k - 1) 1 (by omega) (by omega) _ rfl
  have HD : Hid (¬ (0 ≤ (l.getD k sp0).a ∧ (l.getD k sp0).a < (l.getD k sp0).b ∧ (l.getD k sp0).b ≤ 86400000 ∧ (0 < k → (l.getD (k - 1) sp0).b ≤ (l.getD k sp0).a)) → ¬ G) := fun hn h => by rw [HG.out] at h; exact hn (h.2 k hlt)
  have HY : Hid ((0 ≤ (l.getD k sp0).a ∧ (l.getD k sp0).a < (l.getD k sp0).b ∧ (l.getD k sp0).b ≤ 86400000 ∧ (0 < k → (l.getD (k - 1) sp0).b ≤ (l.getD k sp0).a)) → ∀ j, j < k + 1 → SpOk l j) := fun h j hj => by
   by_cases e : j = k
   ·subst e; exact h
   ·exact hall.out j (by omega)
  generalize (l.getD (k - 1) sp0).b = pb at *
  generalize (l.getD k sp0).a = ca at *
  generalize (l.getD k sp0).b = cb at *
  have HP := Lib.hid hprev
  have HB2 := Lib.hid (hbr.alloc hzr (Obj.cells #[.int .i64 ca, .int .i64 cb] 34))
  have hxx := Box.new wr 34 #[.int .i64 ca, .int .i64 cb]
  have hpv : 0 < k → (wr.alloc (Obj.cells #[.int .i64 ca, .int .i64 cb] 34)).cell? ⟨b, o + (k - 1) * 2 + 1, none⟩ = some (.int .i64 pb) := fun h => ((below_alloc1 wr _).cell (p := ⟨b, o + (k - 1) * 2 + 1, none⟩) hbl).trans (hprev h)
  have HPv := Lib.hid hpv
  clear hc hc' hprev hpv HP hall
  go_upto_region 6 with fail
  have z0 : (wr.alloc (Obj.cells #[.int .i64 ca, .int .i64 cb] 34)).cell? ⟨wr.heap.size, 0, none⟩ = some (.int .i64 ca) := hxx.cell 0
  have z1 : (wr.alloc (Obj.cells #[.int .i64 ca, .int .i64 cb] 34)).cell? ⟨wr.heap.size, 1, none⟩ = some (.int .i64 cb) := hxx.cell 1
  clear hxx y0 y1 hbr
  generalize wr.alloc (Obj.cells #[.int .i64 ca, .int .i64 cb] 34) = w2 at *
  generalize wr.heap.size = g at *
  by_cases c1 : ca < 0
  ·have t1 : decide (ca < 0) = true := decide_eq_true c1
   go_wp2_with fail
   go_ret
   exact IsChk.no (HD.out (fun h => by have := h.1; omega)) (by omega) HB2.out
  have t1 : decide (ca < 0) = false := decide_eq_false c1
  by_cases c2 : cb ≤ ca
  ·have t2 : decide (cb ≤ ca) = true := decide_eq_true c2
   go_wp2_with fail
   go_ret
   exact IsChk.no (HD.out (fun h => by have := h.2.1; omega)) (by omega) HB2.out
  have t2 : decide (cb ≤ ca) = false := decide_eq_false c2
  by_cases c3 : 86400000 < cb
  ·have t3 : decide (86400000 < cb) = true := decide_eq_true c3
   go_wp2_with fail
   go_ret
   exact IsChk.no (HD.out (fun h => by have := h.2.2.1; omega)) (by omega) HB2.out
  have t3 : decide (86400000 < cb) = false := decide_eq_false c3
  by_cases k0 : k = 0
  ·subst k0
   have t0 : decide ((0 : Int) < 0) = false := by decide
   have HN := Lib.hid (HY.out ⟨by omega, by omega, by omega, fun h => by omega⟩)
   go_wp2_with fail
   go_quiet (fail)
   go_wp2_with fail
   go_roundw
   case rel => exact ⟨0 + 1, by omega, rfl, HN, below_drew HB2.out _⟩
   case measure => simp [intOf]; omega
  obtain ⟨m, rfl⟩ : ∃ m, k = m + 1 := ⟨k - 1, by omega⟩
  have hp := HPv.out (by omega)
  rw [Nat.add_sub_cancel] at hp
  have t0 : decide ((0 : Int) < ((m + 1 : Nat) : Int)) = true := decide_eq_true (by omega)
  have t0' : decide ((0 : Int) < (m : Int) + 1) = true := decide_eq_true (by omega)
  have hw0 : IntKind.i64.wrap (m : Int) = (m : Int) := IntWalk.i64_in _ (by omega)
  have m0 : (0 : Int) ≤ (m : Int) := by omega
  have m1 : (m : Int) < (l.length : Int) := by omega
  by_cases hle : ca < pb
  ·have t4 : decide (ca < pb) = true := decide_eq_true hle
   go_wp2_with fail
   go_quiet (fail)
   go_wp2_with fail
   go_ret
   exact IsChk.no (HD.out (fun h => by have := h.2.2.2 (by omega); omega)) (by omega) (below_drew HB2.out _)
  ·have t4 : decide (ca < pb) = false := decide_eq_false hle
   have HN := Lib.hid (HY.out ⟨by omega, by omega, by omega, fun h => by omega⟩)
   go_wp2_with fail
   go_quiet (fail)
   go_wp2_with fail
   go_roundw
   case rel => exact ⟨m + 1 + 1, by omega, by go_num, HN, below_drew HB2.out _⟩
   case measure => simp [intOf]; omega
theorem hrOk_iff (h : Hr) : HrOk h ↔ (∀ i, i < 7 → SpansOk (h.wk i).l) ∧ h.ex.length ≤ 10 ∧ ∀ i, i < h.ex.length → FeGood (h.ex.getD i hx0).t ∧ SpansOk (h.ex.getD i hx0).d.l :=
 ⟨fun h => ⟨h.wk, h.ln, h.ex⟩, fun h => ⟨h.1, h.2.1, h.2.2⟩⟩
theorem hrcells {w : World} {g : Nat} {v0 v1 v2 v3 v4 v5 v6 v7 : Value} (h : Box w g 32 #[v0, v1, v2, v3, v4, v5, v6, v7]) :
  w.cell? ⟨g, 0, none⟩ = some v0 ∧ w.cell? ⟨g, 1, none⟩ = some v1 ∧ w.cell? ⟨g, 2, none⟩ = some v2 ∧ w.cell? ⟨g, 3, none⟩ = some v3 ∧ w.cell? ⟨g, 4, none⟩ = some v4 ∧ w.cell? ⟨g, 5, none⟩ = some v5 ∧ w.cell? ⟨g, 6, none⟩ = some v6 ∧ w.cell? ⟨g, 7, none⟩ = some v7 := ⟨h.cell 0, h.cell 1, h.cell 2, h.cell 3, h.cell 4, h.cell 5, h.cell 6, h.cell 7⟩
set_option maxHeartbeats 400000 in
set_option maxRecDepth 2000 in
theorem run_week (h : Hr) (k : Nat) (hk : k < 7) (W : World) : (Instr.index 29 (.agg #[wdV h.w0, wdV h.w1, wdV h.w2, wdV h.w3, wdV h.w4, wdV h.w5, wdV h.w6]) (.int .i64 (k : Int))).run Tryz.prog W = .ok (wdV (h.wk k)) W := by
 match k, hk with
 | 0, _ | 1, _ | 2, _ | 3, _ | 4, _ | 5, _ | 6, _ => simp [Instr.index, run_underlying Tryz.underlying29, asIntOf, go_sem, Hr.wk]
set_option maxHeartbeats 4000000 in
set_option maxRecDepth 100000 in
theorem hcheck_any (h : Hr) (w : World) (hv : Env w) (hin : HrIn w w.heap.size h) : Calls Tryz.prog 52 #[hrV h] w (IsChk (HrOk h) w) := by
 have HSp := Lib.hid (fun i (hi : i < 7) W (hb : Below w.heap.size w W) => spans_any (h.wk i) W ((hin.wk i hi).next hb hb.size))
 have HEx := Lib.hid (fun i (hi : i < h.ex.length) W (hb : Below w.heap.size w W) => fcheck_any (h.ex.getD i hx0).t W (hv.next hb) ((hin.ex i hi).fe.next hb hb.size))
 have HEs := Lib.hid (fun i (hi : i < h.ex.length) W (hb : Below w.heap.size w W) => spans_any (h.ex.getD i hx0).d W ((hin.ex i hi).d.next hb hb.size))
 have HWk := Lib.hid (fun k (hk : k < 7) W => run_week h k hk W)
 have HRow := Lib.hid hin.row
 have hln := hin.ln
 unfold maxLen at hln
 unfold FCheckQ at HEx
 rw [hrOk_iff]
 obtain ⟨G, hG⟩ : ∃ G : Prop, G = ((∀ i, i < 7 → SpansOk (h.wk i).l) ∧ h.ex.length ≤ 10 ∧ ∀ i, i < h.ex.length → FeGood (h.ex.getD i hx0).t ∧ SpansOk (h.ex.getD i hx0).d.l) := ⟨_, rfl⟩
 rw [← hG]
 have HG := Lib.hid hG
 have HN : Hid (∀ E W', ¬ G → E ≠ 0 → Below w.heap.size w W' → IsChk G w (.returned (.int .i64 E)) W') := fun E W' a b c => IsChk.no a b c
 have HYs : Hid (∀ W', G → Below w.heap.size w W' → IsChk G w (.returned (.int .i64 0)) W') := fun W' a c => IsChk.yes a c
 generalize IsChk G w = POST at *
 clear hG hv hin
 unfold hrV
 have HB := Lib.hid (below_alloc1 w (Obj.cells #[wdV h.w0, wdV h.w1, wdV h.w2, wdV h.w3, wdV h.w4, wdV h.w5, wdV h.w6, .slice h.A h.ex.length h.c] 32))
 have HX := Lib.hid (Box.new w 32 #[wdV h.w0, wdV h.w1, wdV h.w2, wdV h.w3, wdV h.w4, wdV h.w5, wdV h.w6, .slice h.A h.ex.length h.c])
 generalize h.A = hA0 at *
 go_enter Tryz.func52, Tryz.ntmps52
 go_upto_region 1 with fail
 generalize wdV h.w0 = v0 at *
 generalize wdV h.w1 = v1 at *
 generalize wdV h.w2 = v2 at *
 generalize wdV h.w3 = v3 at *
 generalize wdV h.w4 = v4 at *
 generalize wdV h.w5 = v5 at *
 generalize wdV h.w6 = v6 at *
 generalize w.alloc (Obj.cells #[v0, v1, v2, v3, v4, v5, v6, .slice hA0 h.ex.length h.c] 32) = W1 at *
 obtain ⟨g0, hg0⟩ : ∃ g0, g0 = w.heap.size := ⟨_, rfl⟩
 rw [← hg0] at HX ⊢
 have HG0 := Lib.hid hg0
 clear hg0
 obtain ⟨x0, x1, x2, x3, x4, x5, x6, x7⟩ := hrcells HX.out
 go_wp2_with fail
 clear x0 x1 x2 x3 x4 x5 x6 x7
 go_loopw [4, 5, 12] (fun _ _ i wr => ∃ k : Nat, k ≤ 7 ∧ i = .int .i64 k ∧ Hid (∀ j, j < k → SpansOk (h.wk j).l) ∧ Hid (Box wr g0 32 #[v0, v1, v2, v3, v4, v5, v6, .slice hA0 h.ex.length h.c]) ∧ Hid (Below w.heap.size w wr)) (fun _ _ i _ => 7 - (intOf i).toNat)
 case atStart => exact ⟨0, by omega, rfl, (fun j hj => by omega), HX, HB⟩
 case round =>
  obtain ⟨k, hk, rfl, hall, hx, hbr⟩ := hrel
  clear HX HB
  by_cases hlt : k < 7
  ·have hXa := HWk.out k hlt
   have HC := Lib.hid (HSp.out k hlt wr hbr.out)
   have HD : Hid (SpansOk (h.wk k).l → ∀ j, j < k + 1 → SpansOk (h.wk j).l) := fun q j hj => by
    by_cases e : j = k
    ·subst e; exact q
    ·exact hall.out j (by omega)
   have HDn : Hid (¬ SpansOk (h.wk k).l → ¬ G) := fun q hg => by rw [HG.out] at hg; exact q (hg.1 k hlt)
   clear hall HWk
   generalize wdV (h.wk k) = vk at *
   generalize SpansOk (h.wk k).l = Q at *
   go_wp2_with fail
   refine HC.out.mono ?_
   rintro e w3 ⟨E, rfl, hE, hb3⟩
   have HE := Lib.hid hE
   have HX3 := Lib.hid (hx.out.below hb3)
   have HB3 := Lib.hid (below_then hbr.out hb3)
   clear hE hb3 hx hbr HC hXa
   by_cases hE0 : E = 0
   ·subst hE0
    have HN2 := Lib.hid (HD.out (HE.out.1 rfl))
    go_wp2_with fail
    go_roundw
    case rel => exact ⟨k + 1, by omega, by go_num, HN2, HX3, HB3⟩
    case measure => simp [intOf]; omega
   ·have t1 : (E != 0) = true := by rw [bne_iff_ne]; exact hE0
    have HE0 := Lib.hid hE0
    clear hE0
    go_wp2_with fail
    exact HN.out E _ (HDn.out (fun q => HE0.out (HE.out.2 q))) HE0.out HB3.out
  obtain rfl : k = 7 := by omega
  rw [show (((7 : Nat) : Int)) = 7 from rfl]
  obtain ⟨x0, x1, x2, x3, x4, x5, x6, x7⟩ := hrcells hx.out
  clear x0 x1 x2 x3 x4 x5 x6 hk hlt HWk HSp
  by_cases h10 : 10 < h.ex.length
  ·have t1 : decide (10 < (h.ex.length : Int)) = true := decide_eq_true (by omega)
   have HNg : Hid (¬ G) := fun hg => by rw [HG.out] at hg; have := hg.2.1; omega
   go_wp2_with fail
   exact HN.out 2 _ HNg.out (by omega) hbr.out
  have t1 : decide (10 < (h.ex.length : Int)) = false := decide_eq_false (by omega)
  go_wp2_with fail
  clear t1 x7
  have HX := hx
  have HB := hbr
  have HA7 := hall
  clear hx hbr hall
  obtain ⟨W7, hW7⟩ : ∃ W7, W7 = wr := ⟨_, rfl⟩
  rw [← hW7] at HX HB ⊢
  clear hW7
  go_loopw [7, 8, 9, 28] (fun _ _ _ i wr => ∃ k : Nat, k ≤ h.ex.length ∧ i = .int .i64 k ∧ Hid (∀ j, j < k → FeGood (h.ex.getD j hx0).t ∧ SpansOk (h.ex.getD j hx0).d.l) ∧ Hid (Below w.heap.size w wr)) (fun _ _ _ i _ => h.ex.length - (intOf i).toNat)
  case atStart => exact ⟨0, by omega, rfl, (fun j hj => by omega), HB⟩
  case round =>
   obtain ⟨k, hk, rfl, hall, hbr⟩ := hrel
   clear HX HB
   by_cases hlt : k < h.ex.length
   case neg =>
    have hkl : h.ex.length ≤ k := by omega
    have HY : Hid G := by unfold Hid; rw [HG.out]; exact ⟨HA7.out, by omega, fun i hi => hall.out i (by omega)⟩
    clear hkl
    go_wp2_with fail
    exact HYs.out _ HY.out hbr.out
   obtain ⟨b, o, rfl, hb, hc⟩ := HRow.out.open_ (flat_ne hxF_len (by omega) h.ex (by omega))
   have hc' : ∀ j v, (h.ex.flatMap hxF)[j]? = some v → wr.cell? ⟨b, o + j, none⟩ = some v := fun j v hv => (hbr.out.cell (p := ⟨b, o + j, none⟩) hb).trans (hc j v hv)
   have HC := Lib.hid (HEx.out k hlt)
   have HC2 := Lib.hid (HEs.out k hlt)
   have HD : Hid (FeGood (h.ex.getD k hx0).t → SpansOk (h.ex.getD k hx0).d.l → ∀ j, j < k + 1 → FeGood (h.ex.getD j hx0).t ∧ SpansOk (h.ex.getD j hx0).d.l) := fun q1 q2 j hj => by
    by_cases e : j = k
    ·subst e; exact ⟨q1, q2⟩
    ·exact hall.out j (by omega)
   have HDn : Hid (¬ (FeGood (h.ex.getD k hx0).t ∧ SpansOk (h.ex.getD k hx0).d.l) → ¬ G) := fun q hg => by rw [HG.out] at hg; exact q (hg.2.2 k hlt)
   have hcc : ∀ j v, j < 6 → (hxF (h.ex.getD k hx0))[j]? = some v → wr.cell? ⟨b, o + k * 6 + j, none⟩ = some v := fun j v hj hv => flat_cell hxF_len hx0 hc' k j hlt hj v hv
   generalize h.ex.getD k hx0 = x at *
   obtain ⟨⟨fk, fa, fb, nm, fA, fc, ks⟩, ⟨dA, dc, dl⟩⟩ := x
   have y0 : wr.cell? ⟨b, o + k * 6 + 0, none⟩ = some (.int .i64 fk) := hcc 0 _ (by omega) rfl
   have y1 : wr.cell? ⟨b, o + k * 6 + 1, none⟩ = some (.int .i64 fa) := hcc 1 _ (by omega) rfl
   have y2 : wr.cell? ⟨b, o + k * 6 + 2, none⟩ = some (.int .i64 fb) := hcc 2 _ (by omega) rfl
   have y3 : wr.cell? ⟨b, o + k * 6 + 3, none⟩ = some (.string nm) := hcc 3 _ (by omega) rfl
   have y4 : wr.cell? ⟨b, o + k * 6 + 4, none⟩ = some (.slice fA ks.length fc) := hcc 4 _ (by omega) rfl
   have y5 : wr.cell? ⟨b, o + k * 6 + 5, none⟩ = some (.slice dA dl.length dc) := hcc 5 _ (by omega) rfl
   rw [Nat.add_zero] at y0
   have HC' : Hid (∀ W, Below w.heap.size w W → Calls Tryz.prog 37 #[.agg #[.int .i64 fk, .int .i64 fa, .int .i64 fb, .string nm, .slice fA ks.length fc]] W fun e w' => ∃ E : Int, e = .returned (.int .i64 E) ∧ (E = 0 ↔ FeGood (.node fk fa fb nm fA fc ks)) ∧ Below W.heap.size W w') := HC.out
   generalize FeGood (.node fk fa fb nm fA fc ks) = Q1 at *
   have HC2' : Hid (∀ W, Below w.heap.size w W → Calls Tryz.prog 87 #[.slice dA dl.length dc] W (IsChk (SpansOk dl) W)) := HC2.out
   dsimp only at HD HDn
   generalize SpansOk dl = Q2 at *
   have HB4 := Lib.hid (below_then hbr.out (below_alloc1 wr (Obj.cells #[.int .i64 fk, .int .i64 fa, .int .i64 fb, .string nm, .slice fA ks.length fc, .slice dA dl.length dc] 153)))
   have HX4 := Lib.hid (Box.new wr 153 #[.int .i64 fk, .int .i64 fa, .int .i64 fb, .string nm, .slice fA ks.length fc, .slice dA dl.length dc])
   have hbl : b < wr.heap.size := by have := hbr.out.size; omega
   clear hc hc' hcc HC HC2 hall
   go_upto_region 13 with fail
   clear y0 y1 y2 y3 y4 y5 hbr
   generalize wr.alloc (Obj.cells #[.int .i64 fk, .int .i64 fa, .int .i64 fb, .string nm, .slice fA ks.length fc, .slice dA dl.length dc] 153) = w4 at *
   generalize wr.heap.size = g4 at *
   have z0 : w4.cell? ⟨g4, 0, none⟩ = some (.int .i64 fk) := HX4.out.cell 0
   have z1 : w4.cell? ⟨g4, 1, none⟩ = some (.int .i64 fa) := HX4.out.cell 1
   have z2 : w4.cell? ⟨g4, 2, none⟩ = some (.int .i64 fb) := HX4.out.cell 2
   have z3 : w4.cell? ⟨g4, 3, none⟩ = some (.string nm) := HX4.out.cell 3
   have z4 : w4.cell? ⟨g4, 4, none⟩ = some (.slice fA ks.length fc) := HX4.out.cell 4
   go_wp2_with fail
   refine (HC'.out w4 HB4.out).mono ?_
   rintro e w5 ⟨E, rfl, hE, hb5⟩
   have HE := Lib.hid hE
   have HX5 := Lib.hid (HX4.out.below hb5)
   have HB5 := Lib.hid (below_then HB4.out hb5)
   clear hE hb5 HX4 HB4 HC' z0 z1 z2 z3 z4
   by_cases hE0 : E = 0
   case neg =>
    have t1 : (E != 0) = true := by rw [bne_iff_ne]; exact hE0
    have HE0 := Lib.hid hE0
    clear hE0
    go_wp2_with fail
    exact HN.out E _ (HDn.out (fun q => HE0.out (HE.out.2 q.1))) HE0.out HB5.out
   subst hE0
   have HQ1 := Lib.hid (HE.out.1 rfl)
   have z5 : w5.cell? ⟨g4, 5, none⟩ = some (.slice dA dl.length dc) := HX5.out.cell 5
   have HC3 := Lib.hid (HC2'.out w5 HB5.out)
   clear HE HC2'
   go_wp2_with fail
   refine HC3.out.mono ?_
   rintro e w6 ⟨E, rfl, hE, hb6⟩
   have HE := Lib.hid hE
   have HB6 := Lib.hid (below_then HB5.out hb6)
   clear hE hb6 HX5 HB5 HC3 z5
   by_cases hE0 : E = 0
   case neg =>
    have t1 : (E != 0) = true := by rw [bne_iff_ne]; exact hE0
    have HE0 := Lib.hid hE0
    clear hE0
    go_wp2_with fail
    exact HN.out E _ (HDn.out (fun q => HE0.out (HE.out.2 q.2))) HE0.out HB6.out
   subst hE0
   have HN2 := Lib.hid (HD.out HQ1.out (HE.out.1 rfl))
   clear HE
   go_wp2_with fail
   go_roundw
   case rel => exact ⟨k + 1, by omega, by go_num, HN2, HB6⟩
   case measure => simp [intOf]; omega
end Go.Proofs.YtabidjmmgnkhkaaGreatDoor
/- Contract of hours.open: opening hours in memory, with the trees of their exceptions. -/
namespace Go.Proofs.YtabidjmmgnkhkaaGreatDoor
open Go Go.RowKit
attribute [local go_sem] Oper.semAt_some
set_option linter.unusedVariables false
structure HrAt (w : World) (p : Nat → Prop) (h : Hr) : Prop where
 wk : ∀ i, i < 7 → RowAt w p (h.wk i).A ((h.wk i).l.flatMap spF)
 row : RowAt w p h.A (h.ex.flatMap hxF)
 ex : ∀ i, i < h.ex.length → RowAt w p (h.ex.getD i hx0).d.A ((h.ex.getD i hx0).d.l.flatMap spF)
theorem HrAt.keep {w w' : World} {p p' : Nat → Prop} {h : Hr} (k : HrAt w p h) (hk : ∀ b, p b → b < w.heap.size → w'.heap[b]? = w.heap[b]? ∧ p' b) (hs : w.heap.size ≤ w'.heap.size) : HrAt w' p' h :=
 ⟨fun i hi => (k.wk i hi).keep hk hs, k.row.keep hk hs, fun i hi => (k.ex i hi).keep hk hs⟩
theorem Row.allAt {w : World} {A : Option Addr} {cs : List Value} {B : Nat} (h : Row w B A cs) (hB : B ≤ w.heap.size) : RowAt w (fun b => b < B) A cs := by
 rcases h with h | ⟨b, o, e, hb, hc⟩
 ·exact .inl h
 ·exact .inr ⟨b, o, e, hb, by omega, hc⟩
theorem HrIn.at_ {w : World} {B : Nat} {h : Hr} (k : HrIn w B h) (hB : B ≤ w.heap.size) : HrAt w (fun b => b < B) h :=
 ⟨fun i hi => (k.wk i hi).row.allAt hB, k.row.allAt hB, fun i hi => (k.ex i hi).d.row.allAt hB⟩
structure Zn where
 nm : ByteArray
 first : Int
 A : Option Addr
 c : Nat
 chs : List Chg
def znV (z : Zn) : Value := .agg #[.string z.nm, .int .i64 z.first, .slice z.A z.chs.length z.c]
def bkL (h : Hr) (z : Zn) (v : Value) : Array Value := #[wdV h.w0, wdV h.w1, wdV h.w2, wdV h.w3, wdV h.w4, wdV h.w5, wdV h.w6, .slice h.A h.ex.length h.c, v, .string z.nm, .int .i64 z.first, .slice z.A z.chs.length z.c]
structure BkAt (w : World) (p : Nat → Prop) (g : Nat) (h : Hr) (z : Zn) (At : Option Addr) (ct : Nat) (Ts : List ST) : Prop where
 box : Box w g 192 (bkL h z (.slice At Ts.length ct))
 pg : p g
 tln : Ts.length = h.ex.length
 trow : RowAt w p At (Ts.flatMap stF)
 trees : ∀ i, i < Ts.length → StAt w p (Ts.getD i st0) (h.ex.getD i hx0).t
 hat : HrAt w p h
 zat : RowAt w p z.A (chCells z.chs)
theorem BkAt.keep {w w' : World} {p p' : Nat → Prop} {g : Nat} {h : Hr} {z : Zn} {At : Option Addr} {ct : Nat} {Ts : List ST} (k : BkAt w p g h z At ct Ts) (hk : ∀ b, p b → b < w.heap.size → w'.heap[b]? = w.heap[b]? ∧ p' b) (hs : w.heap.size ≤ w'.heap.size) : BkAt w' p' g h z At ct Ts := by
 have hg := hk g k.pg k.box.lt
 exact ⟨hg.1.trans k.box, hg.2, k.tln, k.trow.keep hk hs, fun i hi => (k.trees i hi).keep hk hs, k.hat.keep hk hs, k.zat.keep hk hs⟩
theorem BkAt.next {w w' : World} {p : Nat → Prop} {g : Nat} {h : Hr} {z : Zn} {At : Option Addr} {ct : Nat} {Ts : List ST} (k : BkAt w p g h z At ct Ts) (hb : Below w.heap.size w w') : BkAt w' p g h z At ct Ts :=
 k.keep (fun b hp hl => ⟨hb.block b hl, hp⟩) hb.size
def HOpenQ (p : Nat → Prop) (h : Hr) (z : Zn) (w : World) (e : Ending) (w' : World) : Prop := ∃ (g : Nat) (At : Option Addr) (ct : Nat) (Ts : List ST), e = .returned (.pointer (some ⟨g, 0, none⟩)) ∧ w.heap.size ≤ g ∧ BkAt w' p g h z At ct Ts ∧ Below w.heap.size w w'
theorem own_last {w : World} {base : Nat} {e : TypeId} {g n cap : Nat} {xs : List Value} {a0 a1 a2 a3 a4 a5 a6 a7 a8 a9 a10 b0 b1 b2 b3 b4 b5 b6 b7 b8 b9 b10 : Value} {k : Nat} (hk : xs.length = k) (h : w.ownsRow base e 11 (.slice (some ⟨g, 0, none⟩) n cap) n (xs ++ [a0, a1, a2, a3, a4, a5, a6, a7, a8, a9, a10])) :
  (((((((((((w.setCell ⟨g, k, none⟩ b0).setCell ⟨g, k + 1, none⟩ b1).setCell ⟨g, k + 2, none⟩ b2).setCell ⟨g, k + 3, none⟩ b3).setCell ⟨g, k + 4, none⟩ b4).setCell ⟨g, k + 5, none⟩ b5).setCell ⟨g, k + 6, none⟩ b6).setCell ⟨g, k + 7, none⟩ b7).setCell ⟨g, k + 8, none⟩ b8).setCell ⟨g, k + 9, none⟩ b9).setCell ⟨g, k + 10, none⟩ b10).ownsRow base e 11 (.slice (some ⟨g, 0, none⟩) n cap) n (xs ++ [b0, b1, b2, b3, b4, b5, b6, b7, b8, b9, b10]) := by
 have h2 := (((((((((((h.stored k b0).1.stored (k + 1) b1).1.stored (k + 2) b2).1.stored (k + 3) b3).1.stored (k + 4) b4).1.stored (k + 5) b5).1.stored (k + 6) b6).1.stored (k + 7) b7).1.stored (k + 8) b8).1.stored (k + 9) b9).1.stored (k + 10) b10).1
 subst hk
 simpa [List.set_append] using h2
theorem bk_a {B : Nat} {w w7 : World} {base : Nat} {e tb : TypeId} {gb g n cap : Nat} {cs : Array Value} {xs : List Value} {a0 a1 a2 a3 a4 a5 a6 a7 a8 a9 a10 : Value} {k : Nat} (hx : Box w7 gb tb cs) (h : w7.ownsRow base e 11 (.slice (some ⟨g, 0, none⟩) n cap) n (xs ++ [a0, a1, a2, a3, a4, a5, a6, a7, a8, a9, a10])) (hk : xs.length = k) (v b0 b1 b2 b3 b4 b5 b6 b7 b8 b9 b10 : Value) (hne : ¬ gb = g) (hgb : gb < base) (hB : Below B w w7) (hg1 : B ≤ gb) (hg2 : B ≤ g) :
  Box ((((((((((((w7.setCell ⟨g, k, none⟩ b0).setCell ⟨g, k + 1, none⟩ b1).setCell ⟨g, k + 2, none⟩ b2).setCell ⟨g, k + 3, none⟩ b3).setCell ⟨g, k + 4, none⟩ b4).setCell ⟨g, k + 5, none⟩ b5).setCell ⟨g, k + 6, none⟩ b6).setCell ⟨g, k + 7, none⟩ b7).setCell ⟨g, k + 8, none⟩ b8).setCell ⟨g, k + 9, none⟩ b9).setCell ⟨g, k + 10, none⟩ b10).setCell ⟨gb, 8, none⟩ v) gb tb (cs.setIfInBounds 8 v) ∧ ((((((((((((w7.setCell ⟨g, k, none⟩ b0).setCell ⟨g, k + 1, none⟩ b1).setCell ⟨g, k + 2, none⟩ b2).setCell ⟨g, k + 3, none⟩ b3).setCell ⟨g, k + 4, none⟩ b4).setCell ⟨g, k + 5, none⟩ b5).setCell ⟨g, k + 6, none⟩ b6).setCell ⟨g, k + 7, none⟩ b7).setCell ⟨g, k + 8, none⟩ b8).setCell ⟨g, k + 9, none⟩ b9).setCell ⟨g, k + 10, none⟩ b10).setCell ⟨gb, 8, none⟩ v).ownsRow base e 11 (.slice (some ⟨g, 0, none⟩) n cap) n (xs ++ [b0, b1, b2, b3, b4, b5, b6, b7, b8, b9, b10]) ∧ (∀ b, b ≠ gb → b ≠ g → ((((((((((((w7.setCell ⟨g, k, none⟩ b0).setCell ⟨g, k + 1, none⟩ b1).setCell ⟨g, k + 2, none⟩ b2).setCell ⟨g, k + 3, none⟩ b3).setCell ⟨g, k + 4, none⟩ b4).setCell ⟨g, k + 5, none⟩ b5).setCell ⟨g, k + 6, none⟩ b6).setCell ⟨g, k + 7, none⟩ b7).setCell ⟨g, k + 8, none⟩ b8).setCell ⟨g, k + 9, none⟩ b9).setCell ⟨g, k + 10, none⟩ b10).setCell ⟨gb, 8, none⟩ v).heap[b]? = w7.heap[b]?) ∧ ((((((((((((w7.setCell ⟨g, k, none⟩ b0).setCell ⟨g, k + 1, none⟩ b1).setCell ⟨g, k + 2, none⟩ b2).setCell ⟨g, k + 3, none⟩ b3).setCell ⟨g, k + 4, none⟩ b4).setCell ⟨g, k + 5, none⟩ b5).setCell ⟨g, k + 6, none⟩ b6).setCell ⟨g, k + 7, none⟩ b7).setCell ⟨g, k + 8, none⟩ b8).setCell ⟨g, k + 9, none⟩ b9).setCell ⟨g, k + 10, none⟩ b10).setCell ⟨gb, 8, none⟩ v).heap.size = w7.heap.size ∧ Below B w ((((((((((((w7.setCell ⟨g, k, none⟩ b0).setCell ⟨g, k + 1, none⟩ b1).setCell ⟨g, k + 2, none⟩ b2).setCell ⟨g, k + 3, none⟩ b3).setCell ⟨g, k + 4, none⟩ b4).setCell ⟨g, k + 5, none⟩ b5).setCell ⟨g, k + 6, none⟩ b6).setCell ⟨g, k + 7, none⟩ b7).setCell ⟨g, k + 8, none⟩ b8).setCell ⟨g, k + 9, none⟩ b9).setCell ⟨g, k + 10, none⟩ b10).setCell ⟨gb, 8, none⟩ v) :=
 ⟨((((((((((((hx).far (p := ⟨g, k, none⟩) (by show gb ≠ g; exact hne) _).far (p := ⟨g, k + 1, none⟩) (by show gb ≠ g; exact hne) _).far (p := ⟨g, k + 2, none⟩) (by show gb ≠ g; exact hne) _).far (p := ⟨g, k + 3, none⟩) (by show gb ≠ g; exact hne) _).far (p := ⟨g, k + 4, none⟩) (by show gb ≠ g; exact hne) _).far (p := ⟨g, k + 5, none⟩) (by show gb ≠ g; exact hne) _).far (p := ⟨g, k + 6, none⟩) (by show gb ≠ g; exact hne) _).far (p := ⟨g, k + 7, none⟩) (by show gb ≠ g; exact hne) _).far (p := ⟨g, k + 8, none⟩) (by show gb ≠ g; exact hne) _).far (p := ⟨g, k + 9, none⟩) (by show gb ≠ g; exact hne) _).far (p := ⟨g, k + 10, none⟩) (by show gb ≠ g; exact hne) _).set_ 8 v, own_set (own_last hk h) ⟨gb, 8, none⟩ v (show gb < base by omega), fun b h1 h2 => by rw [Below.heap_setCell _ _ _ b h1, Below.heap_setCell _ _ _ b h2, Below.heap_setCell _ _ _ b h2, Below.heap_setCell _ _ _ b h2, Below.heap_setCell _ _ _ b h2, Below.heap_setCell _ _ _ b h2, Below.heap_setCell _ _ _ b h2, Below.heap_setCell _ _ _ b h2, Below.heap_setCell _ _ _ b h2, Below.heap_setCell _ _ _ b h2, Below.heap_setCell _ _ _ b h2, Below.heap_setCell _ _ _ b h2], by simp, ((((((((((((hB).setCell (p := ⟨g, k, none⟩) (by show B ≤ g; exact hg2) _).setCell (p := ⟨g, k + 1, none⟩) (by show B ≤ g; exact hg2) _).setCell (p := ⟨g, k + 2, none⟩) (by show B ≤ g; exact hg2) _).setCell (p := ⟨g, k + 3, none⟩) (by show B ≤ g; exact hg2) _).setCell (p := ⟨g, k + 4, none⟩) (by show B ≤ g; exact hg2) _).setCell (p := ⟨g, k + 5, none⟩) (by show B ≤ g; exact hg2) _).setCell (p := ⟨g, k + 6, none⟩) (by show B ≤ g; exact hg2) _).setCell (p := ⟨g, k + 7, none⟩) (by show B ≤ g; exact hg2) _).setCell (p := ⟨g, k + 8, none⟩) (by show B ≤ g; exact hg2) _).setCell (p := ⟨g, k + 9, none⟩) (by show B ≤ g; exact hg2) _).setCell (p := ⟨g, k + 10, none⟩) (by show B ≤ g; exact hg2) _).setCell (p := ⟨gb, 8, none⟩) (by show B ≤ gb; exact hg1) _⟩
theorem bk_b {B : Nat} {w w7 : World} {base : Nat} {e tb : TypeId} {gb g n cap : Nat} {cs : Array Value} {xs : List Value} {a0 a1 a2 a3 a4 a5 a6 a7 a8 a9 a10 : Value} {k : Nat} (hx : Box w7 gb tb cs) (h : w7.ownsRow base e 11 (.slice (some ⟨g, 0, none⟩) n cap) n (xs ++ [a0, a1, a2, a3, a4, a5, a6, a7, a8, a9, a10])) (hk : xs.length = k) (v b0 b1 b2 b3 b4 b5 b6 b7 b8 b9 b10 : Value) (hne : ¬ gb = g) (hgb : gb < base) (hB : Below B w w7) (hg1 : B ≤ gb) (hg2 : B ≤ g) :
  Box (((((((((((((w7.setCell ⟨gb, 8, none⟩ v).setCell ⟨g, k, none⟩ b0).setCell ⟨g, k + 1, none⟩ b1).setCell ⟨g, k + 2, none⟩ b2).setCell ⟨g, k + 3, none⟩ b3).setCell ⟨g, k + 4, none⟩ b4).setCell ⟨g, k + 5, none⟩ b5).setCell ⟨g, k + 6, none⟩ b6).setCell ⟨g, k + 7, none⟩ b7).setCell ⟨g, k + 8, none⟩ b8).setCell ⟨g, k + 9, none⟩ b9).setCell ⟨g, k + 10, none⟩ b10)) gb tb (cs.setIfInBounds 8 v) ∧ (((((((((((((w7.setCell ⟨gb, 8, none⟩ v).setCell ⟨g, k, none⟩ b0).setCell ⟨g, k + 1, none⟩ b1).setCell ⟨g, k + 2, none⟩ b2).setCell ⟨g, k + 3, none⟩ b3).setCell ⟨g, k + 4, none⟩ b4).setCell ⟨g, k + 5, none⟩ b5).setCell ⟨g, k + 6, none⟩ b6).setCell ⟨g, k + 7, none⟩ b7).setCell ⟨g, k + 8, none⟩ b8).setCell ⟨g, k + 9, none⟩ b9).setCell ⟨g, k + 10, none⟩ b10)).ownsRow base e 11 (.slice (some ⟨g, 0, none⟩) n cap) n (xs ++ [b0, b1, b2, b3, b4, b5, b6, b7, b8, b9, b10]) ∧ (∀ b, b ≠ gb → b ≠ g → (((((((((((((w7.setCell ⟨gb, 8, none⟩ v).setCell ⟨g, k, none⟩ b0).setCell ⟨g, k + 1, none⟩ b1).setCell ⟨g, k + 2, none⟩ b2).setCell ⟨g, k + 3, none⟩ b3).setCell ⟨g, k + 4, none⟩ b4).setCell ⟨g, k + 5, none⟩ b5).setCell ⟨g, k + 6, none⟩ b6).setCell ⟨g, k + 7, none⟩ b7).setCell ⟨g, k + 8, none⟩ b8).setCell ⟨g, k + 9, none⟩ b9).setCell ⟨g, k + 10, none⟩ b10)).heap[b]? = w7.heap[b]?) ∧ (((((((((((((w7.setCell ⟨gb, 8, none⟩ v).setCell ⟨g, k, none⟩ b0).setCell ⟨g, k + 1, none⟩ b1).setCell ⟨g, k + 2, none⟩ b2).setCell ⟨g, k + 3, none⟩ b3).setCell ⟨g, k + 4, none⟩ b4).setCell ⟨g, k + 5, none⟩ b5).setCell ⟨g, k + 6, none⟩ b6).setCell ⟨g, k + 7, none⟩ b7).setCell ⟨g, k + 8, none⟩ b8).setCell ⟨g, k + 9, none⟩ b9).setCell ⟨g, k + 10, none⟩ b10)).heap.size = w7.heap.size ∧ Below B w (((((((((((((w7.setCell ⟨gb, 8, none⟩ v).setCell ⟨g, k, none⟩ b0).setCell ⟨g, k + 1, none⟩ b1).setCell ⟨g, k + 2, none⟩ b2).setCell ⟨g, k + 3, none⟩ b3).setCell ⟨g, k + 4, none⟩ b4).setCell ⟨g, k + 5, none⟩ b5).setCell ⟨g, k + 6, none⟩ b6).setCell ⟨g, k + 7, none⟩ b7).setCell ⟨g, k + 8, none⟩ b8).setCell ⟨g, k + 9, none⟩ b9).setCell ⟨g, k + 10, none⟩ b10)) :=
 ⟨(((((((((((hx.set_ 8 v).far (p := ⟨g, k, none⟩) (by show gb ≠ g; exact hne) _).far (p := ⟨g, k + 1, none⟩) (by show gb ≠ g; exact hne) _).far (p := ⟨g, k + 2, none⟩) (by show gb ≠ g; exact hne) _).far (p := ⟨g, k + 3, none⟩) (by show gb ≠ g; exact hne) _).far (p := ⟨g, k + 4, none⟩) (by show gb ≠ g; exact hne) _).far (p := ⟨g, k + 5, none⟩) (by show gb ≠ g; exact hne) _).far (p := ⟨g, k + 6, none⟩) (by show gb ≠ g; exact hne) _).far (p := ⟨g, k + 7, none⟩) (by show gb ≠ g; exact hne) _).far (p := ⟨g, k + 8, none⟩) (by show gb ≠ g; exact hne) _).far (p := ⟨g, k + 9, none⟩) (by show gb ≠ g; exact hne) _).far (p := ⟨g, k + 10, none⟩) (by show gb ≠ g; exact hne) _, own_last hk (own_set h ⟨gb, 8, none⟩ v (show gb < base by omega)), fun b h1 h2 => by rw [Below.heap_setCell _ _ _ b h2, Below.heap_setCell _ _ _ b h2, Below.heap_setCell _ _ _ b h2, Below.heap_setCell _ _ _ b h2, Below.heap_setCell _ _ _ b h2, Below.heap_setCell _ _ _ b h2, Below.heap_setCell _ _ _ b h2, Below.heap_setCell _ _ _ b h2, Below.heap_setCell _ _ _ b h2, Below.heap_setCell _ _ _ b h2, Below.heap_setCell _ _ _ b h2, Below.heap_setCell _ _ _ b h1], by simp, ((((((((((((hB).setCell (p := ⟨gb, 8, none⟩) (by show B ≤ gb; exact hg1) _).setCell (p := ⟨g, k, none⟩) (by show B ≤ g; exact hg2) _).setCell (p := ⟨g, k + 1, none⟩) (by show B ≤ g; exact hg2) _).setCell (p := ⟨g, k + 2, none⟩) (by show B ≤ g; exact hg2) _).setCell (p := ⟨g, k + 3, none⟩) (by show B ≤ g; exact hg2) _).setCell (p := ⟨g, k + 4, none⟩) (by show B ≤ g; exact hg2) _).setCell (p := ⟨g, k + 5, none⟩) (by show B ≤ g; exact hg2) _).setCell (p := ⟨g, k + 6, none⟩) (by show B ≤ g; exact hg2) _).setCell (p := ⟨g, k + 7, none⟩) (by show B ≤ g; exact hg2) _).setCell (p := ⟨g, k + 8, none⟩) (by show B ≤ g; exact hg2) _).setCell (p := ⟨g, k + 9, none⟩) (by show B ≤ g; exact hg2) _).setCell (p := ⟨g, k + 10, none⟩) (by show B ≤ g; exact hg2) _⟩
set_option maxHeartbeats 16000000 in
set_option maxRecDepth 100000 in
theorem hopen_any (h : Hr) (z : Zn) (ok : HrOk h) (w : World) (hv : Env w) (hin : HrIn w w.heap.size h) (p : Nat → Prop) (hp : ∀ b, w.heap.size ≤ b → p b) (hat : HrAt w p h) (zat : RowAt w p z.A (chCells z.chs)) :
  Calls Tryz.prog 91 #[hrV h, znV z] w (HOpenQ p h z w) := by
 obtain ⟨i0, hi0, hz0, hz1, hz2⟩ := info_parts tree_info
 have HRow := Lib.hid hin.row
 have hln : h.ex.length ≤ 10 := ok.ln
 have HOp := Lib.hid (fun i (hi : i < h.ex.length) W (hb : Below w.heap.size w W) => open_any w hv (h.ex.getD i hx0).t (hin.ex i hi).fe (ok.ex i hi).1.ok W hb)
 have HAt := Lib.hid (And.intro hat zat)
 have HP := Lib.hid hp
 clear hat zat hp hin hv ok
 unfold HOpenQ
 obtain ⟨nm, first, Az, cz, chs⟩ := z
 unfold hrV znV
 have hb2 := below_alloc2 w (Obj.cells #[wdV h.w0, wdV h.w1, wdV h.w2, wdV h.w3, wdV h.w4, wdV h.w5, wdV h.w6, .slice h.A h.ex.length h.c] 32) (Obj.cells #[.string nm, .int .i64 first, .slice Az chs.length cz] 37)
 have hx2 := (Box.new w 32 #[wdV h.w0, wdV h.w1, wdV h.w2, wdV h.w3, wdV h.w4, wdV h.w5, wdV h.w6, .slice h.A h.ex.length h.c]).alloc (Obj.cells #[.string nm, .int .i64 first, .slice Az chs.length cz] 37)
 have hz2' := Box.new (w.alloc (Obj.cells #[wdV h.w0, wdV h.w1, wdV h.w2, wdV h.w3, wdV h.w4, wdV h.w5, wdV h.w6, .slice h.A h.ex.length h.c] 32)) 37 #[.string nm, .int .i64 first, .slice Az chs.length cz]
 simp only [World.size_alloc] at hx2 hz2'
 have HB2 := Lib.hid hb2
 have HX2 := Lib.hid hx2
 have HZ2 := Lib.hid hz2'
 clear hb2 hx2 hz2'
 have HBK : Hid (∀ v, bkL h ⟨nm, first, Az, cz, chs⟩ v = #[wdV h.w0, wdV h.w1, wdV h.w2, wdV h.w3, wdV h.w4, wdV h.w5, wdV h.w6, .slice h.A h.ex.length h.c, v, .string nm, .int .i64 first, .slice Az chs.length cz]) := fun v => rfl
 obtain ⟨hA0, hA0e⟩ : ∃ A, A = h.A := ⟨_, rfl⟩
 rw [← hA0e] at HRow HX2 HB2 HBK HZ2 ⊢
 clear hA0e
 go_enter Tryz.func91, Tryz.ntmps91
 go_upto_region 1 with fail
 generalize wdV h.w0 = v0 at *
 generalize wdV h.w1 = v1 at *
 generalize wdV h.w2 = v2 at *
 generalize wdV h.w3 = v3 at *
 generalize wdV h.w4 = v4 at *
 generalize wdV h.w5 = v5 at *
 generalize wdV h.w6 = v6 at *
 have hs2 : ((w.alloc (Obj.cells #[v0, v1, v2, v3, v4, v5, v6, .slice hA0 h.ex.length h.c] 32)).alloc (Obj.cells #[.string nm, .int .i64 first, .slice Az chs.length cz] 37)).heap.size = w.heap.size + 1 + 1 := by rw [World.size_alloc, World.size_alloc]
 generalize (w.alloc (Obj.cells #[v0, v1, v2, v3, v4, v5, v6, .slice hA0 h.ex.length h.c] 32)).alloc (Obj.cells #[.string nm, .int .i64 first, .slice Az chs.length cz] 37) = W2 at *
 obtain ⟨x0, x1, x2, x3, x4, x5, x6, x7⟩ := hrcells HX2.out
 have z0 : W2.cell? ⟨w.heap.size + 1, 0, none⟩ = some (.string nm) := HZ2.out.cell 0
 have z1 : W2.cell? ⟨w.heap.size + 1, 1, none⟩ = some (.int .i64 first) := HZ2.out.cell 1
 have z2 : W2.cell? ⟨w.heap.size + 1, 2, none⟩ = some (.slice Az chs.length cz) := HZ2.out.cell 2
 have HX3 := Lib.hid (HX2.out.alloc (Obj.cells #[v0, v1, v2, v3, v4, v5, v6, .slice hA0 h.ex.length h.c, .slice none 0 0, .string nm, .int .i64 first, .slice Az chs.length cz] 192))
 have HB3 : Hid (Below w.heap.size w (W2.alloc (Obj.cells #[v0, v1, v2, v3, v4, v5, v6, .slice hA0 h.ex.length h.c, .slice none 0 0, .string nm, .int .i64 first, .slice Az chs.length cz] 192))) := HB2.out.alloc (by omega) _
 have hk3 := (Box.new W2 192 #[v0, v1, v2, v3, v4, v5, v6, .slice hA0 h.ex.length h.c, .slice none 0 0, .string nm, .int .i64 first, .slice Az chs.length cz])
 rw [hs2] at hk3
 have HK3 := Lib.hid hk3
 clear hk3
 go_upto_region 2 with fail
 clear x0 x1 x2 x3 x4 x5 x6 x7 z0 z1 z2 HX2 HZ2 HB2
 obtain ⟨W3, hW3⟩ : ∃ W3, W3 = W2.alloc (Obj.cells #[v0, v1, v2, v3, v4, v5, v6, .slice hA0 h.ex.length h.c, .slice none 0 0, .string nm, .int .i64 first, .slice Az chs.length cz] 192) := ⟨_, rfl⟩
 rw [← hW3] at HX3 HB3 HK3 ⊢
 clear hW3
 obtain ⟨gb, hgb⟩ : ∃ gb, gb = w.heap.size + 1 + 1 := ⟨_, rfl⟩
 rw [← hgb] at HK3 ⊢
 have hgw : w.heap.size + 2 = gb := by omega
 obtain ⟨x0, x1, x2, x3, x4, x5, x6, x7⟩ := hrcells HX3.out
 have HGW := Lib.hid hgw
 have hgw1 : w.heap.size < gb := by omega
 clear hgb hs2 hgw
 go_wp2_with fail
 clear x0 x1 x2 x3 x4 x5 x6 x7 HX3
 go_loopw [7, 15] (fun _ i wr => ∃ j : Nat, j ≤ h.ex.length ∧ i = .int .i64 (j : Int) ∧ ∃ (Ts : List ST) (A' : Option Addr) (c' : Nat), Ts.length = j ∧ Hid (Box wr gb 192 #[v0, v1, v2, v3, v4, v5, v6, .slice hA0 h.ex.length h.c, .slice A' j c', .string nm, .int .i64 first, .slice Az chs.length cz]) ∧ Hid (wr.ownsRow (gb + 1) 105 11 (.slice A' j c') j (Ts.flatMap stF)) ∧ Hid (∀ i, i < j → StAt wr (ownP gb (.slice A' j c')) (Ts.getD i st0) (h.ex.getD i hx0).t) ∧ Hid (Below w.heap.size w wr)) (fun _ i _ => h.ex.length - (intOf i).toNat)
 case atStart => exact ⟨0, by omega, rfl, [], none, 0, rfl, HK3, World.ownsRow_nil _ _ _ _, (fun i hi => by omega), HB3⟩
 case round =>
  obtain ⟨j, hj, rfl, Ts, A', c', hTs, hT, hO, hS, hbr⟩ := hrel
  clear HK3 HB3
  have hszr := hbr.out.size
  by_cases hlt : j < h.ex.length
  case neg =>
   obtain rfl : j = h.ex.length := by omega
   have HTs := Lib.hid hTs
   clear hTs hlt hj
   go_wp2_with fail
   go_ret
   have hrow9 : RowAt wr (fun b => gb + 1 ≤ b) A' (Ts.flatMap stF) := rowAt_own hO.out
   have hpp : ∀ b, gb ≤ b → p b := fun b hb => HP.out b (by omega)
   have hk9 : ∀ b, ownP gb (.slice A' h.ex.length c') b → b < wr.heap.size → wr.heap[b]? = wr.heap[b]? ∧ p b := fun b hb _ => ⟨rfl, hpp b (by have := hb.1; omega)⟩
   refine ⟨gb, A', c', Ts, rfl, by omega, ⟨by rw [HBK.out, HTs.out]; exact hT.out, hpp gb (by omega), HTs.out, hrow9.keep (fun b hb _ => ⟨rfl, hpp b (by omega)⟩) (Nat.le_refl _), fun i hi => (hS.out i (by rw [← HTs.out]; exact hi)).keep hk9 (Nat.le_refl _), HAt.out.1.keep (fun b hb hl => ⟨hbr.out.block b hl, hb⟩) hszr, HAt.out.2.keep (fun b hb hl => ⟨hbr.out.block b hl, hb⟩) hszr⟩, hbr.out⟩
  obtain ⟨bb, o, rfl, hb, hc⟩ := HRow.out.open_ (flat_ne hxF_len (by omega) h.ex (by omega))
  have hc' : ∀ j v, (h.ex.flatMap hxF)[j]? = some v → wr.cell? ⟨bb, o + j, none⟩ = some v := fun j v hv => (hbr.out.cell (p := ⟨bb, o + j, none⟩) hb).trans (hc j v hv)
  have hcc : ∀ i v, i < 6 → (hxF (h.ex.getD j hx0))[i]? = some v → wr.cell? ⟨bb, o + j * 6 + i, none⟩ = some v := fun i v hi hv => flat_cell hxF_len hx0 hc' j i hlt hi v hv
  have HI0 := HOp.out j hlt
  generalize hx : h.ex.getD j hx0 = x at *
  obtain ⟨⟨k', a', b', nm', A2, c2, ks'⟩, ⟨dA, dc, dl⟩⟩ := x
  have y0 : wr.cell? ⟨bb, o + j * 6 + 0, none⟩ = some (.int .i64 k') := hcc 0 _ (by omega) rfl
  have y1 : wr.cell? ⟨bb, o + j * 6 + 1, none⟩ = some (.int .i64 a') := hcc 1 _ (by omega) rfl
  have y2 : wr.cell? ⟨bb, o + j * 6 + 2, none⟩ = some (.int .i64 b') := hcc 2 _ (by omega) rfl
  have y3 : wr.cell? ⟨bb, o + j * 6 + 3, none⟩ = some (.string nm') := hcc 3 _ (by omega) rfl
  have y4 : wr.cell? ⟨bb, o + j * 6 + 4, none⟩ = some (.slice A2 ks'.length c2) := hcc 4 _ (by omega) rfl
  have y5 : wr.cell? ⟨bb, o + j * 6 + 5, none⟩ = some (.slice dA dl.length dc) := hcc 5 _ (by omega) rfl
  rw [Nat.add_zero] at y0
  have hbl : bb < wr.heap.size := by omega
  have HI : Hid (∀ W, Below w.heap.size w W → Calls Tryz.prog 45 #[.agg #[.int .i64 k', .int .i64 a', .int .i64 b', .string nm', .slice A2 ks'.length c2]] W (OpenQ (.node k' a' b' nm' A2 c2 ks') W)) := HI0
  have HX := Lib.hid hx
  have hba := below_alloc1 wr (Obj.cells #[.int .i64 k', .int .i64 a', .int .i64 b', .string nm', .slice A2 ks'.length c2, .slice dA dl.length dc] 153)
  have HB4 : Hid (Below w.heap.size w (wr.alloc (Obj.cells #[.int .i64 k', .int .i64 a', .int .i64 b', .string nm', .slice A2 ks'.length c2, .slice dA dl.length dc] 153))) := hbr.out.alloc (by omega) _
  have HT4 := Lib.hid (hT.out.below hba)
  have HO4 := Lib.hid (own_next hO.out hba)
  have HX4 := Lib.hid (Box.new wr 153 #[.int .i64 k', .int .i64 a', .int .i64 b', .string nm', .slice A2 ks'.length c2, .slice dA dl.length dc])
  have HA4 := Lib.hid hba
  have hl4 : (wr.alloc (Obj.cells #[.int .i64 k', .int .i64 a', .int .i64 b', .string nm', .slice A2 ks'.length c2, .slice dA dl.length dc] 153)).heap.size = wr.heap.size + 1 := World.size_alloc _ _
  clear hc hc' HI0 hx hba hcc
  go_upto_region 5 with fail
  clear y0 y1 y2 y3 y4 y5
  generalize wr.alloc (Obj.cells #[.int .i64 k', .int .i64 a', .int .i64 b', .string nm', .slice A2 ks'.length c2, .slice dA dl.length dc] 153) = w4 at *
  obtain ⟨g5, hg5⟩ : ∃ g5, g5 = wr.heap.size := ⟨_, rfl⟩
  rw [← hg5] at HX4 hl4 ⊢
  have HG5 := Lib.hid hg5
  have hg5l : wr.heap.size ≤ g5 := by omega
  clear hg5
  have hown := HO4.out
  obtain ⟨row, hrow⟩ : ∃ row, row = (Value.slice A' j c').ownBlock := ⟨_, rfl⟩
  have hlr : ∀ b, row = some b → gb + 1 ≤ b ∧ b < wr.heap.size := fun b hb => own_lt hO.out b (by rw [← hrow]; exact hb)
  have HRw := Lib.hid hrow
  clear hrow
  have hbl4 : ∀ b, row = some b → b < w4.heap.size := fun b hb => by have := hlr b hb; omega
  have d10 : ∀ W, w4.grownBy W row → W.cell? ⟨gb, 8, none⟩ = some (.slice A' j c') := fun W hW => (HT4.out.grown hW (fun e => by have := hlr gb e.symm; omega)).cell 8
  have m5 : ∀ W, w4.grownBy W row → Box W g5 153 #[.int .i64 k', .int .i64 a', .int .i64 b', .string nm', .slice A2 ks'.length c2, .slice dA dl.length dc] := fun W hW => HX4.out.grown hW (fun e => by have := hlr g5 e.symm; omega)
  have m0 : ∀ W, w4.grownBy W row → W.cell? ⟨g5, 0, none⟩ = some (.int .i64 k') := fun W hW => (m5 W hW).cell 0
  have m1 : ∀ W, w4.grownBy W row → W.cell? ⟨g5, 1, none⟩ = some (.int .i64 a') := fun W hW => (m5 W hW).cell 1
  have m2 : ∀ W, w4.grownBy W row → W.cell? ⟨g5, 2, none⟩ = some (.int .i64 b') := fun W hW => (m5 W hW).cell 2
  have m3 : ∀ W, w4.grownBy W row → W.cell? ⟨g5, 3, none⟩ = some (.string nm') := fun W hW => (m5 W hW).cell 3
  have m4 : ∀ W, w4.grownBy W row → W.cell? ⟨g5, 4, none⟩ = some (.slice A2 ks'.length c2) := fun W hW => (m5 W hW).cell 4
  have hb4 : gb + 1 ≤ w4.heap.size := by have := HT4.out.lt; omega
  have hsz4 : w.heap.size ≤ w4.heap.size := by omega
  have hlrg : ∀ k, row = some k → w.heap.size ≤ k := fun k hk => by have := hlr k hk; omega
  clear m5
  refine flowG_begin_rest 10 9 #[true, true, true, true, true, true, true, true, true, true, false, false, false, false, false] row (tellOf [(6, toldO (.node k' a' b' nm' A2 c2 ks') (ownP gb (.slice A' j c')))]) 5 (by kernel_rfl) (by kernel_rfl) (by kernel_rfl) ?_
  simp only [List.take_succ_cons, List.take_zero]
  repeat (first | (refine flowG_val (v := ?_) (by rfl) (by rfl) (fun w hb => ?_) ?_; rotate_left; (· ((go_simp) <;> ((repeat' apply And.intro) <;> with_reducible rfl))); try simp only [Act.put, List.setIfInBounds_toArray, List.set_cons_zero, List.set_cons_succ, Nat.reduceAdd]) | (refine flowG_skip (by rfl) (by rfl) ?_; try simp only [Act.put, List.setIfInBounds_toArray, List.set_cons_zero, List.set_cons_succ, Nat.reduceAdd]))
  refine flowG_told (f := ?_) (args := ?_) (t := toldO (.node k' a' b' nm' A2 c2 ks') (ownP gb (.slice A' j c'))) [] (by kernel_rfl) (by rfl) (by rfl) ⟨_, st0, rfl⟩ (fun v w w' hg h T e => by obtain ⟨T', e', hs⟩ := h T e; exact ⟨T', e', hs.grown hg (fun b hp _ e => hp.2 (by rw [← HRw.out]; exact e.symm))⟩) (fun w hb => ?_) (fun w hb hu => ?_) ?_; rotate_left 2; (· ((go_simp) <;> ((repeat' apply And.intro) <;> with_reducible rfl)))
  ·refine (HI.out _ (HB4.out.grown hb hsz4 hlrg)).mono ?_
   rintro e w' ⟨T, he, hs, hb'⟩
   have hsw := hb.size
   exact ⟨_, he, ⟨T, rfl⟩, fun T2 e2 => ⟨T, toldO_eq e2, hs.more (fun b hp hl => ⟨by omega, fun e3 => by have := hlr b (by rw [HRw.out]; exact e3); omega⟩)⟩, hb'⟩
  rintro v ⟨T, rfl⟩
  obtain ⟨k3, a3, b3, nm3, A3, c3, cal3, A4, c4, ks3⟩ := T
  dsimp only [stF, stL]
  try simp only [Act.put, List.setIfInBounds_toArray, List.set_cons_zero, List.set_cons_succ, Nat.reduceAdd]
  repeat (first | (refine flowG_val (v := ?_) (by rfl) (by rfl) (fun w hb => ?_) ?_; rotate_left; (· ((go_simp) <;> ((repeat' apply And.intro) <;> with_reducible rfl))); try simp only [Act.put, List.setIfInBounds_toArray, List.set_cons_zero, List.set_cons_succ, Nat.reduceAdd]) | (refine flowG_skip (by rfl) (by rfl) ?_; try simp only [Act.put, List.setIfInBounds_toArray, List.set_cons_zero, List.set_cons_succ, Nat.reduceAdd]))
  refine flowG_lits (n := ?_) (c := ?_) (t := ?_) (cs := ?_) hbl4 (by rfl) (by rfl) (fun w hb => ?_) (fun g8 hg8 => ?_); rotate_left 4; (· ((go_simp) <;> ((repeat' apply And.intro) <;> with_reducible rfl))); try simp only [Act.put, List.setIfInBounds_toArray, List.set_cons_zero, List.set_cons_succ, Nat.reduceAdd]
  refine flowG_app_at [8, 6] (by kernel_rfl) rfl (by rfl) (by rfl) (.tmp 22) (.tmp 27) 103 rfl (gb + 1) 105 i0 (.agg zTr) 11 168 Tryz.underlying103 hi0 hz0 hz1 hz2 rfl (by decide) (.slice A' j c') j (Ts.flatMap stF) rfl HRw.out hown hb4 ⟨g8, 0, none⟩ 1 1 zTr.toList rfl rfl (fun w hb hu => World.news_of_block (cs := zTr) (t := 105) (fr := (0, 0)) (usef_head hu)) (by simp [Value.oneCell', zTr]) (fun w => ∃ T' : ST, stF T' = stL k3 a3 b3 nm3 A3 ks3.length c3 cal3 A4 ks3.length c4 ∧ StAt w (ownP gb (.slice A' j c')) T' (.node k' a' b' nm' A2 c2 ks')) (fun w w' hb ⟨T', e, h⟩ => ⟨T', e, h.next hb⟩) (fun w hb hu => (usef_at (k := 6) rfl hu (by decide)) (.node k3 a3 b3 nm3 A3 c3 cal3 A4 c4 ks3) rfl)
   (fun r w => (∃ T' : ST, stF T' = stL k3 a3 b3 nm3 A3 ks3.length c3 cal3 A4 ks3.length c4 ∧ StAt w (fun b => gb < b ∧ r ≠ some b) T' (.node k' a' b' nm' A2 c2 ks')) ∧ (r = row ∨ ∃ n, r = some n ∧ w4.heap.size ≤ n)) (fun r w w' hb ⟨⟨T', e, h⟩, h2⟩ => ⟨⟨T', e, h.next hb⟩, h2⟩)
   (fun r w w' ⟨T', e, h⟩ hg hb hr => ⟨⟨T', e, h.keep (fun b hp hl => ⟨hg.block b hl (fun e => hp.2 (by rw [← HRw.out]; exact e.symm)), hp.1, fun e => by
    rcases hr with hr | hr
    ·exact hp.2 (by rw [← HRw.out, ← hr]; exact e)
    ·rw [hr] at e; injection e with e; omega⟩) hg.size⟩, hr.imp id fun h => ⟨_, h, hb.size⟩⟩) (by simp only [maxLen]; omega) (by omega) fun A8 cap => ?_
  try simp only [Act.put, List.setIfInBounds_toArray, List.set_cons_zero, List.set_cons_succ, Nat.reduceAdd]
  repeat (first | (refine flowG_val (v := ?_) (by rfl) (by rfl) (fun w hb => ?_) ?_; rotate_left; (· ((go_simp) <;> ((repeat' apply And.intro) <;> with_reducible rfl))); try simp only [Act.put, List.setIfInBounds_toArray, List.set_cons_zero, List.set_cons_succ, Nat.reduceAdd]) | (refine flowG_skip (by rfl) (by rfl) ?_; try simp only [Act.put, List.setIfInBounds_toArray, List.set_cons_zero, List.set_cons_succ, Nat.reduceAdd]))
  refine flowG_nil fun w7 hgrow hf => ?_
  obtain ⟨hown7, ⟨T', eT, hsT⟩, hrow7⟩ := hf.1
  obtain ⟨g9, cap9, hv9, hb9, hlt9⟩ := hown7.form (by omega)
  obtain rfl : A8 = some ⟨g9, 0, none⟩ := by injection hv9
  have hx7 := HT4.out.grown hgrow (fun e => by have := hlr gb e.symm; omega)
  have hg7 : gb < w7.heap.size := hx7.lt
  have hf7 : w7.frozen? ⟨gb, 8, none⟩ = false := hx7.free 8
  have hc7 : w7.cell? ⟨gb, 8, none⟩ = some (.slice A' j c') := hx7.cell 8
  have hxl : (Ts.flatMap stF).length = j * 11 := by rw [flat_length stF_len, hTs]
  have hne1 : ¬ g9 = gb := by omega
  have hne2 : ¬ gb = g9 := by omega
  have f0 : w7.frozen? ⟨g9, j * 11, none⟩ = false := hown7.frozenAt _
  have f1 : w7.frozen? ⟨g9, j * 11 + 1, none⟩ = false := hown7.frozenAt _
  have f2 : w7.frozen? ⟨g9, j * 11 + 2, none⟩ = false := hown7.frozenAt _
  have f3 : w7.frozen? ⟨g9, j * 11 + 3, none⟩ = false := hown7.frozenAt _
  have f4 : w7.frozen? ⟨g9, j * 11 + 4, none⟩ = false := hown7.frozenAt _
  have f5 : w7.frozen? ⟨g9, j * 11 + 5, none⟩ = false := hown7.frozenAt _
  have f6 : w7.frozen? ⟨g9, j * 11 + 6, none⟩ = false := hown7.frozenAt _
  have f7 : w7.frozen? ⟨g9, j * 11 + 7, none⟩ = false := hown7.frozenAt _
  have f8 : w7.frozen? ⟨g9, j * 11 + 8, none⟩ = false := hown7.frozenAt _
  have f9 : w7.frozen? ⟨g9, j * 11 + 9, none⟩ = false := hown7.frozenAt _
  have f10 : w7.frozen? ⟨g9, j * 11 + 10, none⟩ = false := hown7.frozenAt _
  have n0 : w7.cell? ⟨g9, j * 11, none⟩ = some (.int .i64 0) := (hown7.cellAt (j * 11 + 0) (by omega)).trans (by rw [List.getElem?_append_right (by omega), hxl, Nat.add_sub_cancel_left]; rfl)
  have n1 : w7.cell? ⟨g9, j * 11 + 1, none⟩ = some (.int .i64 0) := (hown7.cellAt (j * 11 + 1) (by omega)).trans (by rw [List.getElem?_append_right (by omega), hxl, Nat.add_sub_cancel_left]; rfl)
  have n2 : w7.cell? ⟨g9, j * 11 + 2, none⟩ = some (.int .i64 0) := (hown7.cellAt (j * 11 + 2) (by omega)).trans (by rw [List.getElem?_append_right (by omega), hxl, Nat.add_sub_cancel_left]; rfl)
  have n3 : w7.cell? ⟨g9, j * 11 + 3, none⟩ = some (.string ⟨#[]⟩) := (hown7.cellAt (j * 11 + 3) (by omega)).trans (by rw [List.getElem?_append_right (by omega), hxl, Nat.add_sub_cancel_left]; rfl)
  have n4 : w7.cell? ⟨g9, j * 11 + 4, none⟩ = some (.slice none 0 0) := (hown7.cellAt (j * 11 + 4) (by omega)).trans (by rw [List.getElem?_append_right (by omega), hxl, Nat.add_sub_cancel_left]; rfl)
  have n5 : w7.cell? ⟨g9, j * 11 + 5, none⟩ = some (.string ⟨#[]⟩) := (hown7.cellAt (j * 11 + 5) (by omega)).trans (by rw [List.getElem?_append_right (by omega), hxl, Nat.add_sub_cancel_left]; rfl)
  have n6 : w7.cell? ⟨g9, j * 11 + 6, none⟩ = some (.int .i64 0) := (hown7.cellAt (j * 11 + 6) (by omega)).trans (by rw [List.getElem?_append_right (by omega), hxl, Nat.add_sub_cancel_left]; rfl)
  have n7 : w7.cell? ⟨g9, j * 11 + 7, none⟩ = some (.int .i64 0) := (hown7.cellAt (j * 11 + 7) (by omega)).trans (by rw [List.getElem?_append_right (by omega), hxl, Nat.add_sub_cancel_left]; rfl)
  have n8 : w7.cell? ⟨g9, j * 11 + 8, none⟩ = some (.slice none 0 0) := (hown7.cellAt (j * 11 + 8) (by omega)).trans (by rw [List.getElem?_append_right (by omega), hxl, Nat.add_sub_cancel_left]; rfl)
  have n9 : w7.cell? ⟨g9, j * 11 + 9, none⟩ = some (.slice none 0 0) := (hown7.cellAt (j * 11 + 9) (by omega)).trans (by rw [List.getElem?_append_right (by omega), hxl, Nat.add_sub_cancel_left]; rfl)
  have n10 : w7.cell? ⟨g9, j * 11 + 10, none⟩ = some (.slice none 0 0) := (hown7.cellAt (j * 11 + 10) (by omega)).trans (by rw [List.getElem?_append_right (by omega), hxl, Nat.add_sub_cancel_left]; rfl)
  have hj0 : (0 : Int) ≤ (j : Int) := by omega
  have hj1 : (j : Int) < ((j + 1 : Nat) : Int) := by omega
  have hj2 : (j : Int) < (j : Int) + 1 := by omega
  clear hv9 hf
  have HB7 : Hid (Below w.heap.size w w7) := HB4.out.grown hgrow hsz4 hlrg
  refine wpAny_two 10 12 (by kernel_rfl) ?_ ?_
  ·(refine wpOp_val (v := ?_) (by rfl) (by rfl) ?_ ?_; rotate_left; (· ((go_simp) <;> ((repeat' apply And.intro) <;> with_reducible rfl))); try simp only [Act.put, List.setIfInBounds_toArray, List.set_cons_zero, List.set_cons_succ])
   refine wpAny_two 11 12 (by kernel_rfl) ?_ ?_
   ·(refine wpOp_store (w' := ?_) (by rfl) (by rfl) ?_ ?_; rotate_left; (· ((go_simp) <;> ((repeat' apply And.intro) <;> with_reducible rfl))); try simp only [Act.put])
    refine wpAny_one 12 (by kernel_rfl) ?_
    (refine wpOp_val (v := ?_) (by rfl) (by rfl) ?_ ?_; rotate_left; (· ((go_simp) <;> ((repeat' apply And.intro) <;> with_reducible rfl))); try simp only [Act.put, List.setIfInBounds_toArray, List.set_cons_zero, List.set_cons_succ])
    refine wpAny_one 13 (by kernel_rfl) ?_
    (refine wpOp_val (v := ?_) (by rfl) (by rfl) ?_ ?_; rotate_left; (· ((go_simp) <;> ((repeat' apply And.intro) <;> with_reducible rfl))); try simp only [Act.put, List.setIfInBounds_toArray, List.set_cons_zero, List.set_cons_succ])
    refine wpAny_one 14 (by kernel_rfl) ?_
    (refine wpOp_store (w' := ?_) (by rfl) (by rfl) ?_ ?_; rotate_left; (· ((go_simp) <;> ((repeat' apply And.intro) <;> with_reducible rfl))); try simp only [Act.put])
    refine wpAny_end (by kernel_rfl) ?_
    obtain ⟨q1, q2, q3, q4, q5⟩ := bk_a (B := w.heap.size) (w := w) hx7 hown7 hxl (.slice (some ⟨g9, 0, none⟩) (j + 1) cap) (.int .i64 k3) (.int .i64 a3) (.int .i64 b3) (.string nm3) (.slice A3 ks3.length c3) (.string cal3.nm) (.int .i64 cal3.ep) (.int .i64 cal3.cy) (.slice cal3.A1 cal3.mo.length cal3.c1) (.slice cal3.A2 cal3.lp.length cal3.c2) (.slice A4 ks3.length c4) hne2 (by omega) HB7.out (by omega) (by omega)
    clear n0 n1 n2 n3 n4 n5 n6 n7 n8 n9 n10 f0 f1 f2 f3 f4 f5 f6 f7 f8 f9 f10
    generalize (((((((((((w7.setCell ⟨g9, j * 11, none⟩ (.int .i64 k3)).setCell ⟨g9, j * 11 + 1, none⟩ (.int .i64 a3)).setCell ⟨g9, j * 11 + 2, none⟩ (.int .i64 b3)).setCell ⟨g9, j * 11 + 3, none⟩ (.string nm3)).setCell ⟨g9, j * 11 + 4, none⟩ (.slice A3 ks3.length c3)).setCell ⟨g9, j * 11 + 5, none⟩ (.string cal3.nm)).setCell ⟨g9, j * 11 + 6, none⟩ (.int .i64 cal3.ep)).setCell ⟨g9, j * 11 + 7, none⟩ (.int .i64 cal3.cy)).setCell ⟨g9, j * 11 + 8, none⟩ (.slice cal3.A1 cal3.mo.length cal3.c1)).setCell ⟨g9, j * 11 + 9, none⟩ (.slice cal3.A2 cal3.lp.length cal3.c2)).setCell ⟨g9, j * 11 + 10, none⟩ (.slice A4 ks3.length c4)).setCell ⟨gb, 8, none⟩ (.slice (some ⟨g9, 0, none⟩) (j + 1) cap) = w8 at *
    have HT8 : Hid (Box w8 gb 192 #[v0, v1, v2, v3, v4, v5, v6, .slice (some ⟨bb, o, none⟩) h.ex.length h.c, .slice (some ⟨g9, 0, none⟩) (j + 1) cap, .string nm, .int .i64 first, .slice Az chs.length cz]) := q1
    have HO8 : Hid (w8.ownsRow (gb + 1) 105 11 (.slice (some ⟨g9, 0, none⟩) (j + 1) cap) (j + 1) ((Ts ++ [T']).flatMap stF)) := by
     have e : (Ts ++ [T']).flatMap stF = Ts.flatMap stF ++ stL k3 a3 b3 nm3 A3 ks3.length c3 cal3 A4 ks3.length c4 := by rw [List.flatMap_append, ← eT]; simp
     unfold Hid
     rw [e]
     exact q2
    have hkeep : ∀ b, ownP gb (.slice A' j c') b → b < wr.heap.size → w8.heap[b]? = wr.heap[b]? ∧ ownP gb (.slice (some ⟨g9, 0, none⟩) (j + 1) cap) b := fun b hp hl => by
     have h1 := hp.1
     have h9 : (Value.slice (some ⟨g9, 0, none⟩) (j + 1) cap).ownBlock ≠ some b := fun e => by
      rcases hrow7 with h | ⟨n, h, hn⟩
      ·exact hp.2 (by rw [← HRw.out, ← h]; exact e)
      ·rw [h] at e; injection e with e; omega
     have h9' : b ≠ g9 := fun e => h9 (by rw [e]; rfl)
     exact ⟨(q3 b (by omega) h9').trans ((hgrow.block b (by omega) (fun e => hp.2 (by rw [← HRw.out]; exact e.symm))).trans (HA4.out.block b hl)), h1, h9⟩
    have hkt : ∀ b, (gb < b ∧ (Value.slice (some ⟨g9, 0, none⟩) (j + 1) cap).ownBlock ≠ some b) → b < w7.heap.size → w8.heap[b]? = w7.heap[b]? ∧ ownP gb (.slice (some ⟨g9, 0, none⟩) (j + 1) cap) b := fun b hp hl => ⟨q3 b (by have := hp.1; omega) (fun e => hp.2 (by rw [e]; rfl)), hp⟩
    have hs7 := hgrow.size
    have HS8 : Hid (∀ i, i < j + 1 → StAt w8 (ownP gb (.slice (some ⟨g9, 0, none⟩) (j + 1) cap)) ((Ts ++ [T']).getD i st0) (h.ex.getD i hx0).t) := fun i hi => by
     by_cases hij : i < j
     ·have e : (Ts ++ [T']).getD i st0 = Ts.getD i st0 := by simp [List.getD_eq_getElem?_getD, List.getElem?_append_left (show i < Ts.length by omega)]
      rw [e]
      exact (hS.out i hij).keep hkeep (by omega)
     ·obtain rfl : i = j := by omega
      have e : (Ts ++ [T']).getD i st0 = T' := by simp [List.getD_eq_getElem?_getD, ← hTs]
      rw [e, HX.out]
      exact hsT.keep hkt (by omega)
    have HB8 := Lib.hid q5
    clear hown7 hsT hrow7 hgrow hx7 hkeep hkt q1 q2 q3 q4 q5 d10 m0 m1 m2 m3 m4 hS hT hO hbr HT4 HO4 HX4 HA4 HB4 hown hlr hlrg hbl4 hg7 hf7 hc7 HB7
    go_wp2_with fail
    go_roundw
    case rel => exact ⟨j + 1, by omega, by go_num, Ts ++ [T'], some ⟨g9, 0, none⟩, cap, by simp [hTs], HT8, HO8, HS8, HB8⟩
    case measure => simp [intOf]; omega
   ·(refine wpOp_val (v := ?_) (by rfl) (by rfl) ?_ ?_; rotate_left; (· ((go_simp) <;> ((repeat' apply And.intro) <;> with_reducible rfl))); try simp only [Act.put, List.setIfInBounds_toArray, List.set_cons_zero, List.set_cons_succ])
    refine wpAny_two 11 13 (by kernel_rfl) ?_ ?_
    ·(refine wpOp_store (w' := ?_) (by rfl) (by rfl) ?_ ?_; rotate_left; (· ((go_simp) <;> ((repeat' apply And.intro) <;> with_reducible rfl))); try simp only [Act.put])
     refine wpAny_one 13 (by kernel_rfl) ?_
     (refine wpOp_val (v := ?_) (by rfl) (by rfl) ?_ ?_; rotate_left; (· ((go_simp) <;> ((repeat' apply And.intro) <;> with_reducible rfl))); try simp only [Act.put, List.setIfInBounds_toArray, List.set_cons_zero, List.set_cons_succ])
     refine wpAny_one 14 (by kernel_rfl) ?_
     (refine wpOp_store (w' := ?_) (by rfl) (by rfl) ?_ ?_; rotate_left; (· ((go_simp) <;> ((repeat' apply And.intro) <;> with_reducible rfl))); try simp only [Act.put])
     refine wpAny_end (by kernel_rfl) ?_
     obtain ⟨q1, q2, q3, q4, q5⟩ := bk_a (B := w.heap.size) (w := w) hx7 hown7 hxl (.slice (some ⟨g9, 0, none⟩) (j + 1) cap) (.int .i64 k3) (.int .i64 a3) (.int .i64 b3) (.string nm3) (.slice A3 ks3.length c3) (.string cal3.nm) (.int .i64 cal3.ep) (.int .i64 cal3.cy) (.slice cal3.A1 cal3.mo.length cal3.c1) (.slice cal3.A2 cal3.lp.length cal3.c2) (.slice A4 ks3.length c4) hne2 (by omega) HB7.out (by omega) (by omega)
     clear n0 n1 n2 n3 n4 n5 n6 n7 n8 n9 n10 f0 f1 f2 f3 f4 f5 f6 f7 f8 f9 f10
     generalize (((((((((((w7.setCell ⟨g9, j * 11, none⟩ (.int .i64 k3)).setCell ⟨g9, j * 11 + 1, none⟩ (.int .i64 a3)).setCell ⟨g9, j * 11 + 2, none⟩ (.int .i64 b3)).setCell ⟨g9, j * 11 + 3, none⟩ (.string nm3)).setCell ⟨g9, j * 11 + 4, none⟩ (.slice A3 ks3.length c3)).setCell ⟨g9, j * 11 + 5, none⟩ (.string cal3.nm)).setCell ⟨g9, j * 11 + 6, none⟩ (.int .i64 cal3.ep)).setCell ⟨g9, j * 11 + 7, none⟩ (.int .i64 cal3.cy)).setCell ⟨g9, j * 11 + 8, none⟩ (.slice cal3.A1 cal3.mo.length cal3.c1)).setCell ⟨g9, j * 11 + 9, none⟩ (.slice cal3.A2 cal3.lp.length cal3.c2)).setCell ⟨g9, j * 11 + 10, none⟩ (.slice A4 ks3.length c4)).setCell ⟨gb, 8, none⟩ (.slice (some ⟨g9, 0, none⟩) (j + 1) cap) = w8 at *
     have HT8 : Hid (Box w8 gb 192 #[v0, v1, v2, v3, v4, v5, v6, .slice (some ⟨bb, o, none⟩) h.ex.length h.c, .slice (some ⟨g9, 0, none⟩) (j + 1) cap, .string nm, .int .i64 first, .slice Az chs.length cz]) := q1
     have HO8 : Hid (w8.ownsRow (gb + 1) 105 11 (.slice (some ⟨g9, 0, none⟩) (j + 1) cap) (j + 1) ((Ts ++ [T']).flatMap stF)) := by
      have e : (Ts ++ [T']).flatMap stF = Ts.flatMap stF ++ stL k3 a3 b3 nm3 A3 ks3.length c3 cal3 A4 ks3.length c4 := by rw [List.flatMap_append, ← eT]; simp
      unfold Hid
      rw [e]
      exact q2
     have hkeep : ∀ b, ownP gb (.slice A' j c') b → b < wr.heap.size → w8.heap[b]? = wr.heap[b]? ∧ ownP gb (.slice (some ⟨g9, 0, none⟩) (j + 1) cap) b := fun b hp hl => by
      have h1 := hp.1
      have h9 : (Value.slice (some ⟨g9, 0, none⟩) (j + 1) cap).ownBlock ≠ some b := fun e => by
       rcases hrow7 with h | ⟨n, h, hn⟩
       ·exact hp.2 (by rw [← HRw.out, ← h]; exact e)
       ·rw [h] at e; injection e with e; omega
      have h9' : b ≠ g9 := fun e => h9 (by rw [e]; rfl)
      exact ⟨(q3 b (by omega) h9').trans ((hgrow.block b (by omega) (fun e => hp.2 (by rw [← HRw.out]; exact e.symm))).trans (HA4.out.block b hl)), h1, h9⟩
     have hkt : ∀ b, (gb < b ∧ (Value.slice (some ⟨g9, 0, none⟩) (j + 1) cap).ownBlock ≠ some b) → b < w7.heap.size → w8.heap[b]? = w7.heap[b]? ∧ ownP gb (.slice (some ⟨g9, 0, none⟩) (j + 1) cap) b := fun b hp hl => ⟨q3 b (by have := hp.1; omega) (fun e => hp.2 (by rw [e]; rfl)), hp⟩
     have hs7 := hgrow.size
     have HS8 : Hid (∀ i, i < j + 1 → StAt w8 (ownP gb (.slice (some ⟨g9, 0, none⟩) (j + 1) cap)) ((Ts ++ [T']).getD i st0) (h.ex.getD i hx0).t) := fun i hi => by
      by_cases hij : i < j
      ·have e : (Ts ++ [T']).getD i st0 = Ts.getD i st0 := by simp [List.getD_eq_getElem?_getD, List.getElem?_append_left (show i < Ts.length by omega)]
       rw [e]
       exact (hS.out i hij).keep hkeep (by omega)
      ·obtain rfl : i = j := by omega
       have e : (Ts ++ [T']).getD i st0 = T' := by simp [List.getD_eq_getElem?_getD, ← hTs]
       rw [e, HX.out]
       exact hsT.keep hkt (by omega)
     have HB8 := Lib.hid q5
     clear hown7 hsT hrow7 hgrow hx7 hkeep hkt q1 q2 q3 q4 q5 d10 m0 m1 m2 m3 m4 hS hT hO hbr HT4 HO4 HX4 HA4 HB4 hown hlr hlrg hbl4 hg7 hf7 hc7 HB7
     go_wp2_with fail
     go_roundw
     case rel => exact ⟨j + 1, by omega, by go_num, Ts ++ [T'], some ⟨g9, 0, none⟩, cap, by simp [hTs], HT8, HO8, HS8, HB8⟩
     case measure => simp [intOf]; omega
    ·(refine wpOp_val (v := ?_) (by rfl) (by rfl) ?_ ?_; rotate_left; (· ((go_simp) <;> ((repeat' apply And.intro) <;> with_reducible rfl))); try simp only [Act.put, List.setIfInBounds_toArray, List.set_cons_zero, List.set_cons_succ])
     refine wpAny_two 11 14 (by kernel_rfl) ?_ ?_
     ·(refine wpOp_store (w' := ?_) (by rfl) (by rfl) ?_ ?_; rotate_left; (· ((go_simp) <;> ((repeat' apply And.intro) <;> with_reducible rfl))); try simp only [Act.put])
      refine wpAny_one 14 (by kernel_rfl) ?_
      (refine wpOp_store (w' := ?_) (by rfl) (by rfl) ?_ ?_; rotate_left; (· ((go_simp) <;> ((repeat' apply And.intro) <;> with_reducible rfl))); try simp only [Act.put])
      refine wpAny_end (by kernel_rfl) ?_
      obtain ⟨q1, q2, q3, q4, q5⟩ := bk_a (B := w.heap.size) (w := w) hx7 hown7 hxl (.slice (some ⟨g9, 0, none⟩) (j + 1) cap) (.int .i64 k3) (.int .i64 a3) (.int .i64 b3) (.string nm3) (.slice A3 ks3.length c3) (.string cal3.nm) (.int .i64 cal3.ep) (.int .i64 cal3.cy) (.slice cal3.A1 cal3.mo.length cal3.c1) (.slice cal3.A2 cal3.lp.length cal3.c2) (.slice A4 ks3.length c4) hne2 (by omega) HB7.out (by omega) (by omega)
      clear n0 n1 n2 n3 n4 n5 n6 n7 n8 n9 n10 f0 f1 f2 f3 f4 f5 f6 f7 f8 f9 f10
      generalize (((((((((((w7.setCell ⟨g9, j * 11, none⟩ (.int .i64 k3)).setCell ⟨g9, j * 11 + 1, none⟩ (.int .i64 a3)).setCell ⟨g9, j * 11 + 2, none⟩ (.int .i64 b3)).setCell ⟨g9, j * 11 + 3, none⟩ (.string nm3)).setCell ⟨g9, j * 11 + 4, none⟩ (.slice A3 ks3.length c3)).setCell ⟨g9, j * 11 + 5, none⟩ (.string cal3.nm)).setCell ⟨g9, j * 11 + 6, none⟩ (.int .i64 cal3.ep)).setCell ⟨g9, j * 11 + 7, none⟩ (.int .i64 cal3.cy)).setCell ⟨g9, j * 11 + 8, none⟩ (.slice cal3.A1 cal3.mo.length cal3.c1)).setCell ⟨g9, j * 11 + 9, none⟩ (.slice cal3.A2 cal3.lp.length cal3.c2)).setCell ⟨g9, j * 11 + 10, none⟩ (.slice A4 ks3.length c4)).setCell ⟨gb, 8, none⟩ (.slice (some ⟨g9, 0, none⟩) (j + 1) cap) = w8 at *
      have HT8 : Hid (Box w8 gb 192 #[v0, v1, v2, v3, v4, v5, v6, .slice (some ⟨bb, o, none⟩) h.ex.length h.c, .slice (some ⟨g9, 0, none⟩) (j + 1) cap, .string nm, .int .i64 first, .slice Az chs.length cz]) := q1
      have HO8 : Hid (w8.ownsRow (gb + 1) 105 11 (.slice (some ⟨g9, 0, none⟩) (j + 1) cap) (j + 1) ((Ts ++ [T']).flatMap stF)) := by
       have e : (Ts ++ [T']).flatMap stF = Ts.flatMap stF ++ stL k3 a3 b3 nm3 A3 ks3.length c3 cal3 A4 ks3.length c4 := by rw [List.flatMap_append, ← eT]; simp
       unfold Hid
       rw [e]
       exact q2
      have hkeep : ∀ b, ownP gb (.slice A' j c') b → b < wr.heap.size → w8.heap[b]? = wr.heap[b]? ∧ ownP gb (.slice (some ⟨g9, 0, none⟩) (j + 1) cap) b := fun b hp hl => by
       have h1 := hp.1
       have h9 : (Value.slice (some ⟨g9, 0, none⟩) (j + 1) cap).ownBlock ≠ some b := fun e => by
        rcases hrow7 with h | ⟨n, h, hn⟩
        ·exact hp.2 (by rw [← HRw.out, ← h]; exact e)
        ·rw [h] at e; injection e with e; omega
       have h9' : b ≠ g9 := fun e => h9 (by rw [e]; rfl)
       exact ⟨(q3 b (by omega) h9').trans ((hgrow.block b (by omega) (fun e => hp.2 (by rw [← HRw.out]; exact e.symm))).trans (HA4.out.block b hl)), h1, h9⟩
      have hkt : ∀ b, (gb < b ∧ (Value.slice (some ⟨g9, 0, none⟩) (j + 1) cap).ownBlock ≠ some b) → b < w7.heap.size → w8.heap[b]? = w7.heap[b]? ∧ ownP gb (.slice (some ⟨g9, 0, none⟩) (j + 1) cap) b := fun b hp hl => ⟨q3 b (by have := hp.1; omega) (fun e => hp.2 (by rw [e]; rfl)), hp⟩
      have hs7 := hgrow.size
      have HS8 : Hid (∀ i, i < j + 1 → StAt w8 (ownP gb (.slice (some ⟨g9, 0, none⟩) (j + 1) cap)) ((Ts ++ [T']).getD i st0) (h.ex.getD i hx0).t) := fun i hi => by
       by_cases hij : i < j
       ·have e : (Ts ++ [T']).getD i st0 = Ts.getD i st0 := by simp [List.getD_eq_getElem?_getD, List.getElem?_append_left (show i < Ts.length by omega)]
        rw [e]
        exact (hS.out i hij).keep hkeep (by omega)
       ·obtain rfl : i = j := by omega
        have e : (Ts ++ [T']).getD i st0 = T' := by simp [List.getD_eq_getElem?_getD, ← hTs]
        rw [e, HX.out]
        exact hsT.keep hkt (by omega)
      have HB8 := Lib.hid q5
      clear hown7 hsT hrow7 hgrow hx7 hkeep hkt q1 q2 q3 q4 q5 d10 m0 m1 m2 m3 m4 hS hT hO hbr HT4 HO4 HX4 HA4 HB4 hown hlr hlrg hbl4 hg7 hf7 hc7 HB7
      go_wp2_with fail
      go_roundw
      case rel => exact ⟨j + 1, by omega, by go_num, Ts ++ [T'], some ⟨g9, 0, none⟩, cap, by simp [hTs], HT8, HO8, HS8, HB8⟩
      case measure => simp [intOf]; omega
     ·(refine wpOp_store (w' := ?_) (by rfl) (by rfl) ?_ ?_; rotate_left; (· ((go_simp) <;> ((repeat' apply And.intro) <;> with_reducible rfl))); try simp only [Act.put])
      refine wpAny_one 11 (by kernel_rfl) ?_
      (refine wpOp_store (w' := ?_) (by rfl) (by rfl) ?_ ?_; rotate_left; (· ((go_simp) <;> ((repeat' apply And.intro) <;> with_reducible rfl))); try simp only [Act.put])
      refine wpAny_end (by kernel_rfl) ?_
      obtain ⟨q1, q2, q3, q4, q5⟩ := bk_b (B := w.heap.size) (w := w) hx7 hown7 hxl (.slice (some ⟨g9, 0, none⟩) (j + 1) cap) (.int .i64 k3) (.int .i64 a3) (.int .i64 b3) (.string nm3) (.slice A3 ks3.length c3) (.string cal3.nm) (.int .i64 cal3.ep) (.int .i64 cal3.cy) (.slice cal3.A1 cal3.mo.length cal3.c1) (.slice cal3.A2 cal3.lp.length cal3.c2) (.slice A4 ks3.length c4) hne2 (by omega) HB7.out (by omega) (by omega)
      clear n0 n1 n2 n3 n4 n5 n6 n7 n8 n9 n10 f0 f1 f2 f3 f4 f5 f6 f7 f8 f9 f10
      generalize (((((((((((w7.setCell ⟨gb, 8, none⟩ (.slice (some ⟨g9, 0, none⟩) (j + 1) cap)).setCell ⟨g9, j * 11, none⟩ (.int .i64 k3)).setCell ⟨g9, j * 11 + 1, none⟩ (.int .i64 a3)).setCell ⟨g9, j * 11 + 2, none⟩ (.int .i64 b3)).setCell ⟨g9, j * 11 + 3, none⟩ (.string nm3)).setCell ⟨g9, j * 11 + 4, none⟩ (.slice A3 ks3.length c3)).setCell ⟨g9, j * 11 + 5, none⟩ (.string cal3.nm)).setCell ⟨g9, j * 11 + 6, none⟩ (.int .i64 cal3.ep)).setCell ⟨g9, j * 11 + 7, none⟩ (.int .i64 cal3.cy)).setCell ⟨g9, j * 11 + 8, none⟩ (.slice cal3.A1 cal3.mo.length cal3.c1)).setCell ⟨g9, j * 11 + 9, none⟩ (.slice cal3.A2 cal3.lp.length cal3.c2)).setCell ⟨g9, j * 11 + 10, none⟩ (.slice A4 ks3.length c4) = w8 at *
      have HT8 : Hid (Box w8 gb 192 #[v0, v1, v2, v3, v4, v5, v6, .slice (some ⟨bb, o, none⟩) h.ex.length h.c, .slice (some ⟨g9, 0, none⟩) (j + 1) cap, .string nm, .int .i64 first, .slice Az chs.length cz]) := q1
      have HO8 : Hid (w8.ownsRow (gb + 1) 105 11 (.slice (some ⟨g9, 0, none⟩) (j + 1) cap) (j + 1) ((Ts ++ [T']).flatMap stF)) := by
       have e : (Ts ++ [T']).flatMap stF = Ts.flatMap stF ++ stL k3 a3 b3 nm3 A3 ks3.length c3 cal3 A4 ks3.length c4 := by rw [List.flatMap_append, ← eT]; simp
       unfold Hid
       rw [e]
       exact q2
      have hkeep : ∀ b, ownP gb (.slice A' j c') b → b < wr.heap.size → w8.heap[b]? = wr.heap[b]? ∧ ownP gb (.slice (some ⟨g9, 0, none⟩) (j + 1) cap) b := fun b hp hl => by
       have h1 := hp.1
       have h9 : (Value.slice (some ⟨g9, 0, none⟩) (j + 1) cap).ownBlock ≠ some b := fun e => by
        rcases hrow7 with h | ⟨n, h, hn⟩
        ·exact hp.2 (by rw [← HRw.out, ← h]; exact e)
        ·rw [h] at e; injection e with e; omega
       have h9' : b ≠ g9 := fun e => h9 (by rw [e]; rfl)
       exact ⟨(q3 b (by omega) h9').trans ((hgrow.block b (by omega) (fun e => hp.2 (by rw [← HRw.out]; exact e.symm))).trans (HA4.out.block b hl)), h1, h9⟩
      have hkt : ∀ b, (gb < b ∧ (Value.slice (some ⟨g9, 0, none⟩) (j + 1) cap).ownBlock ≠ some b) → b < w7.heap.size → w8.heap[b]? = w7.heap[b]? ∧ ownP gb (.slice (some ⟨g9, 0, none⟩) (j + 1) cap) b := fun b hp hl => ⟨q3 b (by have := hp.1; omega) (fun e => hp.2 (by rw [e]; rfl)), hp⟩
      have hs7 := hgrow.size
      have HS8 : Hid (∀ i, i < j + 1 → StAt w8 (ownP gb (.slice (some ⟨g9, 0, none⟩) (j + 1) cap)) ((Ts ++ [T']).getD i st0) (h.ex.getD i hx0).t) := fun i hi => by
       by_cases hij : i < j
       ·have e : (Ts ++ [T']).getD i st0 = Ts.getD i st0 := by simp [List.getD_eq_getElem?_getD, List.getElem?_append_left (show i < Ts.length by omega)]
        rw [e]
        exact (hS.out i hij).keep hkeep (by omega)
       ·obtain rfl : i = j := by omega
        have e : (Ts ++ [T']).getD i st0 = T' := by simp [List.getD_eq_getElem?_getD, ← hTs]
        rw [e, HX.out]
        exact hsT.keep hkt (by omega)
      have HB8 := Lib.hid q5
      clear hown7 hsT hrow7 hgrow hx7 hkeep hkt q1 q2 q3 q4 q5 d10 m0 m1 m2 m3 m4 hS hT hO hbr HT4 HO4 HX4 HA4 HB4 hown hlr hlrg hbl4 hg7 hf7 hc7 HB7
      go_wp2_with fail
      go_roundw
      case rel => exact ⟨j + 1, by omega, by go_num, Ts ++ [T'], some ⟨g9, 0, none⟩, cap, by simp [hTs], HT8, HO8, HS8, HB8⟩
      case measure => simp [intOf]; omega
  ·(refine wpOp_val (v := ?_) (by rfl) (by rfl) ?_ ?_; rotate_left; (· ((go_simp) <;> ((repeat' apply And.intro) <;> with_reducible rfl))); try simp only [Act.put, List.setIfInBounds_toArray, List.set_cons_zero, List.set_cons_succ])
   refine wpAny_two 10 13 (by kernel_rfl) ?_ ?_
   ·(refine wpOp_val (v := ?_) (by rfl) (by rfl) ?_ ?_; rotate_left; (· ((go_simp) <;> ((repeat' apply And.intro) <;> with_reducible rfl))); try simp only [Act.put, List.setIfInBounds_toArray, List.set_cons_zero, List.set_cons_succ])
    refine wpAny_two 11 13 (by kernel_rfl) ?_ ?_
    ·(refine wpOp_store (w' := ?_) (by rfl) (by rfl) ?_ ?_; rotate_left; (· ((go_simp) <;> ((repeat' apply And.intro) <;> with_reducible rfl))); try simp only [Act.put])
     refine wpAny_one 13 (by kernel_rfl) ?_
     (refine wpOp_val (v := ?_) (by rfl) (by rfl) ?_ ?_; rotate_left; (· ((go_simp) <;> ((repeat' apply And.intro) <;> with_reducible rfl))); try simp only [Act.put, List.setIfInBounds_toArray, List.set_cons_zero, List.set_cons_succ])
     refine wpAny_one 14 (by kernel_rfl) ?_
     (refine wpOp_store (w' := ?_) (by rfl) (by rfl) ?_ ?_; rotate_left; (· ((go_simp) <;> ((repeat' apply And.intro) <;> with_reducible rfl))); try simp only [Act.put])
     refine wpAny_end (by kernel_rfl) ?_
     obtain ⟨q1, q2, q3, q4, q5⟩ := bk_a (B := w.heap.size) (w := w) hx7 hown7 hxl (.slice (some ⟨g9, 0, none⟩) (j + 1) cap) (.int .i64 k3) (.int .i64 a3) (.int .i64 b3) (.string nm3) (.slice A3 ks3.length c3) (.string cal3.nm) (.int .i64 cal3.ep) (.int .i64 cal3.cy) (.slice cal3.A1 cal3.mo.length cal3.c1) (.slice cal3.A2 cal3.lp.length cal3.c2) (.slice A4 ks3.length c4) hne2 (by omega) HB7.out (by omega) (by omega)
     clear n0 n1 n2 n3 n4 n5 n6 n7 n8 n9 n10 f0 f1 f2 f3 f4 f5 f6 f7 f8 f9 f10
     generalize (((((((((((w7.setCell ⟨g9, j * 11, none⟩ (.int .i64 k3)).setCell ⟨g9, j * 11 + 1, none⟩ (.int .i64 a3)).setCell ⟨g9, j * 11 + 2, none⟩ (.int .i64 b3)).setCell ⟨g9, j * 11 + 3, none⟩ (.string nm3)).setCell ⟨g9, j * 11 + 4, none⟩ (.slice A3 ks3.length c3)).setCell ⟨g9, j * 11 + 5, none⟩ (.string cal3.nm)).setCell ⟨g9, j * 11 + 6, none⟩ (.int .i64 cal3.ep)).setCell ⟨g9, j * 11 + 7, none⟩ (.int .i64 cal3.cy)).setCell ⟨g9, j * 11 + 8, none⟩ (.slice cal3.A1 cal3.mo.length cal3.c1)).setCell ⟨g9, j * 11 + 9, none⟩ (.slice cal3.A2 cal3.lp.length cal3.c2)).setCell ⟨g9, j * 11 + 10, none⟩ (.slice A4 ks3.length c4)).setCell ⟨gb, 8, none⟩ (.slice (some ⟨g9, 0, none⟩) (j + 1) cap) = w8 at *
     have HT8 : Hid (Box w8 gb 192 #[v0, v1, v2, v3, v4, v5, v6, .slice (some ⟨bb, o, none⟩) h.ex.length h.c, .slice (some ⟨g9, 0, none⟩) (j + 1) cap, .string nm, .int .i64 first, .slice Az chs.length cz]) := q1
     have HO8 : Hid (w8.ownsRow (gb + 1) 105 11 (.slice (some ⟨g9, 0, none⟩) (j + 1) cap) (j + 1) ((Ts ++ [T']).flatMap stF)) := by
      have e : (Ts ++ [T']).flatMap stF = Ts.flatMap stF ++ stL k3 a3 b3 nm3 A3 ks3.length c3 cal3 A4 ks3.length c4 := by rw [List.flatMap_append, ← eT]; simp
      unfold Hid
      rw [e]
      exact q2
     have hkeep : ∀ b, ownP gb (.slice A' j c') b → b < wr.heap.size → w8.heap[b]? = wr.heap[b]? ∧ ownP gb (.slice (some ⟨g9, 0, none⟩) (j + 1) cap) b := fun b hp hl => by
      have h1 := hp.1
      have h9 : (Value.slice (some ⟨g9, 0, none⟩) (j + 1) cap).ownBlock ≠ some b := fun e => by
       rcases hrow7 with h | ⟨n, h, hn⟩
       ·exact hp.2 (by rw [← HRw.out, ← h]; exact e)
       ·rw [h] at e; injection e with e; omega
      have h9' : b ≠ g9 := fun e => h9 (by rw [e]; rfl)
      exact ⟨(q3 b (by omega) h9').trans ((hgrow.block b (by omega) (fun e => hp.2 (by rw [← HRw.out]; exact e.symm))).trans (HA4.out.block b hl)), h1, h9⟩
     have hkt : ∀ b, (gb < b ∧ (Value.slice (some ⟨g9, 0, none⟩) (j + 1) cap).ownBlock ≠ some b) → b < w7.heap.size → w8.heap[b]? = w7.heap[b]? ∧ ownP gb (.slice (some ⟨g9, 0, none⟩) (j + 1) cap) b := fun b hp hl => ⟨q3 b (by have := hp.1; omega) (fun e => hp.2 (by rw [e]; rfl)), hp⟩
     have hs7 := hgrow.size
     have HS8 : Hid (∀ i, i < j + 1 → StAt w8 (ownP gb (.slice (some ⟨g9, 0, none⟩) (j + 1) cap)) ((Ts ++ [T']).getD i st0) (h.ex.getD i hx0).t) := fun i hi => by
      by_cases hij : i < j
      ·have e : (Ts ++ [T']).getD i st0 = Ts.getD i st0 := by simp [List.getD_eq_getElem?_getD, List.getElem?_append_left (show i < Ts.length by omega)]
       rw [e]
       exact (hS.out i hij).keep hkeep (by omega)
      ·obtain rfl : i = j := by omega
       have e : (Ts ++ [T']).getD i st0 = T' := by simp [List.getD_eq_getElem?_getD, ← hTs]
       rw [e, HX.out]
       exact hsT.keep hkt (by omega)
     have HB8 := Lib.hid q5
     clear hown7 hsT hrow7 hgrow hx7 hkeep hkt q1 q2 q3 q4 q5 d10 m0 m1 m2 m3 m4 hS hT hO hbr HT4 HO4 HX4 HA4 HB4 hown hlr hlrg hbl4 hg7 hf7 hc7 HB7
     go_wp2_with fail
     go_roundw
     case rel => exact ⟨j + 1, by omega, by go_num, Ts ++ [T'], some ⟨g9, 0, none⟩, cap, by simp [hTs], HT8, HO8, HS8, HB8⟩
     case measure => simp [intOf]; omega
    ·(refine wpOp_val (v := ?_) (by rfl) (by rfl) ?_ ?_; rotate_left; (· ((go_simp) <;> ((repeat' apply And.intro) <;> with_reducible rfl))); try simp only [Act.put, List.setIfInBounds_toArray, List.set_cons_zero, List.set_cons_succ])
     refine wpAny_two 11 14 (by kernel_rfl) ?_ ?_
     ·(refine wpOp_store (w' := ?_) (by rfl) (by rfl) ?_ ?_; rotate_left; (· ((go_simp) <;> ((repeat' apply And.intro) <;> with_reducible rfl))); try simp only [Act.put])
      refine wpAny_one 14 (by kernel_rfl) ?_
      (refine wpOp_store (w' := ?_) (by rfl) (by rfl) ?_ ?_; rotate_left; (· ((go_simp) <;> ((repeat' apply And.intro) <;> with_reducible rfl))); try simp only [Act.put])
      refine wpAny_end (by kernel_rfl) ?_
      obtain ⟨q1, q2, q3, q4, q5⟩ := bk_a (B := w.heap.size) (w := w) hx7 hown7 hxl (.slice (some ⟨g9, 0, none⟩) (j + 1) cap) (.int .i64 k3) (.int .i64 a3) (.int .i64 b3) (.string nm3) (.slice A3 ks3.length c3) (.string cal3.nm) (.int .i64 cal3.ep) (.int .i64 cal3.cy) (.slice cal3.A1 cal3.mo.length cal3.c1) (.slice cal3.A2 cal3.lp.length cal3.c2) (.slice A4 ks3.length c4) hne2 (by omega) HB7.out (by omega) (by omega)
      clear n0 n1 n2 n3 n4 n5 n6 n7 n8 n9 n10 f0 f1 f2 f3 f4 f5 f6 f7 f8 f9 f10
      generalize (((((((((((w7.setCell ⟨g9, j * 11, none⟩ (.int .i64 k3)).setCell ⟨g9, j * 11 + 1, none⟩ (.int .i64 a3)).setCell ⟨g9, j * 11 + 2, none⟩ (.int .i64 b3)).setCell ⟨g9, j * 11 + 3, none⟩ (.string nm3)).setCell ⟨g9, j * 11 + 4, none⟩ (.slice A3 ks3.length c3)).setCell ⟨g9, j * 11 + 5, none⟩ (.string cal3.nm)).setCell ⟨g9, j * 11 + 6, none⟩ (.int .i64 cal3.ep)).setCell ⟨g9, j * 11 + 7, none⟩ (.int .i64 cal3.cy)).setCell ⟨g9, j * 11 + 8, none⟩ (.slice cal3.A1 cal3.mo.length cal3.c1)).setCell ⟨g9, j * 11 + 9, none⟩ (.slice cal3.A2 cal3.lp.length cal3.c2)).setCell ⟨g9, j * 11 + 10, none⟩ (.slice A4 ks3.length c4)).setCell ⟨gb, 8, none⟩ (.slice (some ⟨g9, 0, none⟩) (j + 1) cap) = w8 at *
      have HT8 : Hid (Box w8 gb 192 #[v0, v1, v2, v3, v4, v5, v6, .slice (some ⟨bb, o, none⟩) h.ex.length h.c, .slice (some ⟨g9, 0, none⟩) (j + 1) cap, .string nm, .int .i64 first, .slice Az chs.length cz]) := q1
      have HO8 : Hid (w8.ownsRow (gb + 1) 105 11 (.slice (some ⟨g9, 0, none⟩) (j + 1) cap) (j + 1) ((Ts ++ [T']).flatMap stF)) := by
       have e : (Ts ++ [T']).flatMap stF = Ts.flatMap stF ++ stL k3 a3 b3 nm3 A3 ks3.length c3 cal3 A4 ks3.length c4 := by rw [List.flatMap_append, ← eT]; simp
       unfold Hid
       rw [e]
       exact q2
      have hkeep : ∀ b, ownP gb (.slice A' j c') b → b < wr.heap.size → w8.heap[b]? = wr.heap[b]? ∧ ownP gb (.slice (some ⟨g9, 0, none⟩) (j + 1) cap) b := fun b hp hl => by
       have h1 := hp.1
       have h9 : (Value.slice (some ⟨g9, 0, none⟩) (j + 1) cap).ownBlock ≠ some b := fun e => by
        rcases hrow7 with h | ⟨n, h, hn⟩
        ·exact hp.2 (by rw [← HRw.out, ← h]; exact e)
        ·rw [h] at e; injection e with e; omega
       have h9' : b ≠ g9 := fun e => h9 (by rw [e]; rfl)
       exact ⟨(q3 b (by omega) h9').trans ((hgrow.block b (by omega) (fun e => hp.2 (by rw [← HRw.out]; exact e.symm))).trans (HA4.out.block b hl)), h1, h9⟩
      have hkt : ∀ b, (gb < b ∧ (Value.slice (some ⟨g9, 0, none⟩) (j + 1) cap).ownBlock ≠ some b) → b < w7.heap.size → w8.heap[b]? = w7.heap[b]? ∧ ownP gb (.slice (some ⟨g9, 0, none⟩) (j + 1) cap) b := fun b hp hl => ⟨q3 b (by have := hp.1; omega) (fun e => hp.2 (by rw [e]; rfl)), hp⟩
      have hs7 := hgrow.size
      have HS8 : Hid (∀ i, i < j + 1 → StAt w8 (ownP gb (.slice (some ⟨g9, 0, none⟩) (j + 1) cap)) ((Ts ++ [T']).getD i st0) (h.ex.getD i hx0).t) := fun i hi => by
       by_cases hij : i < j
       ·have e : (Ts ++ [T']).getD i st0 = Ts.getD i st0 := by simp [List.getD_eq_getElem?_getD, List.getElem?_append_left (show i < Ts.length by omega)]
        rw [e]
        exact (hS.out i hij).keep hkeep (by omega)
       ·obtain rfl : i = j := by omega
        have e : (Ts ++ [T']).getD i st0 = T' := by simp [List.getD_eq_getElem?_getD, ← hTs]
        rw [e, HX.out]
        exact hsT.keep hkt (by omega)
      have HB8 := Lib.hid q5
      clear hown7 hsT hrow7 hgrow hx7 hkeep hkt q1 q2 q3 q4 q5 d10 m0 m1 m2 m3 m4 hS hT hO hbr HT4 HO4 HX4 HA4 HB4 hown hlr hlrg hbl4 hg7 hf7 hc7 HB7
      go_wp2_with fail
      go_roundw
      case rel => exact ⟨j + 1, by omega, by go_num, Ts ++ [T'], some ⟨g9, 0, none⟩, cap, by simp [hTs], HT8, HO8, HS8, HB8⟩
      case measure => simp [intOf]; omega
     ·(refine wpOp_store (w' := ?_) (by rfl) (by rfl) ?_ ?_; rotate_left; (· ((go_simp) <;> ((repeat' apply And.intro) <;> with_reducible rfl))); try simp only [Act.put])
      refine wpAny_one 11 (by kernel_rfl) ?_
      (refine wpOp_store (w' := ?_) (by rfl) (by rfl) ?_ ?_; rotate_left; (· ((go_simp) <;> ((repeat' apply And.intro) <;> with_reducible rfl))); try simp only [Act.put])
      refine wpAny_end (by kernel_rfl) ?_
      obtain ⟨q1, q2, q3, q4, q5⟩ := bk_b (B := w.heap.size) (w := w) hx7 hown7 hxl (.slice (some ⟨g9, 0, none⟩) (j + 1) cap) (.int .i64 k3) (.int .i64 a3) (.int .i64 b3) (.string nm3) (.slice A3 ks3.length c3) (.string cal3.nm) (.int .i64 cal3.ep) (.int .i64 cal3.cy) (.slice cal3.A1 cal3.mo.length cal3.c1) (.slice cal3.A2 cal3.lp.length cal3.c2) (.slice A4 ks3.length c4) hne2 (by omega) HB7.out (by omega) (by omega)
      clear n0 n1 n2 n3 n4 n5 n6 n7 n8 n9 n10 f0 f1 f2 f3 f4 f5 f6 f7 f8 f9 f10
      generalize (((((((((((w7.setCell ⟨gb, 8, none⟩ (.slice (some ⟨g9, 0, none⟩) (j + 1) cap)).setCell ⟨g9, j * 11, none⟩ (.int .i64 k3)).setCell ⟨g9, j * 11 + 1, none⟩ (.int .i64 a3)).setCell ⟨g9, j * 11 + 2, none⟩ (.int .i64 b3)).setCell ⟨g9, j * 11 + 3, none⟩ (.string nm3)).setCell ⟨g9, j * 11 + 4, none⟩ (.slice A3 ks3.length c3)).setCell ⟨g9, j * 11 + 5, none⟩ (.string cal3.nm)).setCell ⟨g9, j * 11 + 6, none⟩ (.int .i64 cal3.ep)).setCell ⟨g9, j * 11 + 7, none⟩ (.int .i64 cal3.cy)).setCell ⟨g9, j * 11 + 8, none⟩ (.slice cal3.A1 cal3.mo.length cal3.c1)).setCell ⟨g9, j * 11 + 9, none⟩ (.slice cal3.A2 cal3.lp.length cal3.c2)).setCell ⟨g9, j * 11 + 10, none⟩ (.slice A4 ks3.length c4) = w8 at *
      have HT8 : Hid (Box w8 gb 192 #[v0, v1, v2, v3, v4, v5, v6, .slice (some ⟨bb, o, none⟩) h.ex.length h.c, .slice (some ⟨g9, 0, none⟩) (j + 1) cap, .string nm, .int .i64 first, .slice Az chs.length cz]) := q1
      have HO8 : Hid (w8.ownsRow (gb + 1) 105 11 (.slice (some ⟨g9, 0, none⟩) (j + 1) cap) (j + 1) ((Ts ++ [T']).flatMap stF)) := by
       have e : (Ts ++ [T']).flatMap stF = Ts.flatMap stF ++ stL k3 a3 b3 nm3 A3 ks3.length c3 cal3 A4 ks3.length c4 := by rw [List.flatMap_append, ← eT]; simp
       unfold Hid
       rw [e]
       exact q2
      have hkeep : ∀ b, ownP gb (.slice A' j c') b → b < wr.heap.size → w8.heap[b]? = wr.heap[b]? ∧ ownP gb (.slice (some ⟨g9, 0, none⟩) (j + 1) cap) b := fun b hp hl => by
       have h1 := hp.1
       have h9 : (Value.slice (some ⟨g9, 0, none⟩) (j + 1) cap).ownBlock ≠ some b := fun e => by
        rcases hrow7 with h | ⟨n, h, hn⟩
        ·exact hp.2 (by rw [← HRw.out, ← h]; exact e)
        ·rw [h] at e; injection e with e; omega
       have h9' : b ≠ g9 := fun e => h9 (by rw [e]; rfl)
       exact ⟨(q3 b (by omega) h9').trans ((hgrow.block b (by omega) (fun e => hp.2 (by rw [← HRw.out]; exact e.symm))).trans (HA4.out.block b hl)), h1, h9⟩
      have hkt : ∀ b, (gb < b ∧ (Value.slice (some ⟨g9, 0, none⟩) (j + 1) cap).ownBlock ≠ some b) → b < w7.heap.size → w8.heap[b]? = w7.heap[b]? ∧ ownP gb (.slice (some ⟨g9, 0, none⟩) (j + 1) cap) b := fun b hp hl => ⟨q3 b (by have := hp.1; omega) (fun e => hp.2 (by rw [e]; rfl)), hp⟩
      have hs7 := hgrow.size
      have HS8 : Hid (∀ i, i < j + 1 → StAt w8 (ownP gb (.slice (some ⟨g9, 0, none⟩) (j + 1) cap)) ((Ts ++ [T']).getD i st0) (h.ex.getD i hx0).t) := fun i hi => by
       by_cases hij : i < j
       ·have e : (Ts ++ [T']).getD i st0 = Ts.getD i st0 := by simp [List.getD_eq_getElem?_getD, List.getElem?_append_left (show i < Ts.length by omega)]
        rw [e]
        exact (hS.out i hij).keep hkeep (by omega)
       ·obtain rfl : i = j := by omega
        have e : (Ts ++ [T']).getD i st0 = T' := by simp [List.getD_eq_getElem?_getD, ← hTs]
        rw [e, HX.out]
        exact hsT.keep hkt (by omega)
      have HB8 := Lib.hid q5
      clear hown7 hsT hrow7 hgrow hx7 hkeep hkt q1 q2 q3 q4 q5 d10 m0 m1 m2 m3 m4 hS hT hO hbr HT4 HO4 HX4 HA4 HB4 hown hlr hlrg hbl4 hg7 hf7 hc7 HB7
      go_wp2_with fail
      go_roundw
      case rel => exact ⟨j + 1, by omega, by go_num, Ts ++ [T'], some ⟨g9, 0, none⟩, cap, by simp [hTs], HT8, HO8, HS8, HB8⟩
      case measure => simp [intOf]; omega
   ·(refine wpOp_val (v := ?_) (by rfl) (by rfl) ?_ ?_; rotate_left; (· ((go_simp) <;> ((repeat' apply And.intro) <;> with_reducible rfl))); try simp only [Act.put, List.setIfInBounds_toArray, List.set_cons_zero, List.set_cons_succ])
    refine wpAny_two 10 14 (by kernel_rfl) ?_ ?_
    ·(refine wpOp_val (v := ?_) (by rfl) (by rfl) ?_ ?_; rotate_left; (· ((go_simp) <;> ((repeat' apply And.intro) <;> with_reducible rfl))); try simp only [Act.put, List.setIfInBounds_toArray, List.set_cons_zero, List.set_cons_succ])
     refine wpAny_two 11 14 (by kernel_rfl) ?_ ?_
     ·(refine wpOp_store (w' := ?_) (by rfl) (by rfl) ?_ ?_; rotate_left; (· ((go_simp) <;> ((repeat' apply And.intro) <;> with_reducible rfl))); try simp only [Act.put])
      refine wpAny_one 14 (by kernel_rfl) ?_
      (refine wpOp_store (w' := ?_) (by rfl) (by rfl) ?_ ?_; rotate_left; (· ((go_simp) <;> ((repeat' apply And.intro) <;> with_reducible rfl))); try simp only [Act.put])
      refine wpAny_end (by kernel_rfl) ?_
      obtain ⟨q1, q2, q3, q4, q5⟩ := bk_a (B := w.heap.size) (w := w) hx7 hown7 hxl (.slice (some ⟨g9, 0, none⟩) (j + 1) cap) (.int .i64 k3) (.int .i64 a3) (.int .i64 b3) (.string nm3) (.slice A3 ks3.length c3) (.string cal3.nm) (.int .i64 cal3.ep) (.int .i64 cal3.cy) (.slice cal3.A1 cal3.mo.length cal3.c1) (.slice cal3.A2 cal3.lp.length cal3.c2) (.slice A4 ks3.length c4) hne2 (by omega) HB7.out (by omega) (by omega)
      clear n0 n1 n2 n3 n4 n5 n6 n7 n8 n9 n10 f0 f1 f2 f3 f4 f5 f6 f7 f8 f9 f10
      generalize (((((((((((w7.setCell ⟨g9, j * 11, none⟩ (.int .i64 k3)).setCell ⟨g9, j * 11 + 1, none⟩ (.int .i64 a3)).setCell ⟨g9, j * 11 + 2, none⟩ (.int .i64 b3)).setCell ⟨g9, j * 11 + 3, none⟩ (.string nm3)).setCell ⟨g9, j * 11 + 4, none⟩ (.slice A3 ks3.length c3)).setCell ⟨g9, j * 11 + 5, none⟩ (.string cal3.nm)).setCell ⟨g9, j * 11 + 6, none⟩ (.int .i64 cal3.ep)).setCell ⟨g9, j * 11 + 7, none⟩ (.int .i64 cal3.cy)).setCell ⟨g9, j * 11 + 8, none⟩ (.slice cal3.A1 cal3.mo.length cal3.c1)).setCell ⟨g9, j * 11 + 9, none⟩ (.slice cal3.A2 cal3.lp.length cal3.c2)).setCell ⟨g9, j * 11 + 10, none⟩ (.slice A4 ks3.length c4)).setCell ⟨gb, 8, none⟩ (.slice (some ⟨g9, 0, none⟩) (j + 1) cap) = w8 at *
      have HT8 : Hid (Box w8 gb 192 #[v0, v1, v2, v3, v4, v5, v6, .slice (some ⟨bb, o, none⟩) h.ex.length h.c, .slice (some ⟨g9, 0, none⟩) (j + 1) cap, .string nm, .int .i64 first, .slice Az chs.length cz]) := q1
      have HO8 : Hid (w8.ownsRow (gb + 1) 105 11 (.slice (some ⟨g9, 0, none⟩) (j + 1) cap) (j + 1) ((Ts ++ [T']).flatMap stF)) := by
       have e : (Ts ++ [T']).flatMap stF = Ts.flatMap stF ++ stL k3 a3 b3 nm3 A3 ks3.length c3 cal3 A4 ks3.length c4 := by rw [List.flatMap_append, ← eT]; simp
       unfold Hid
       rw [e]
       exact q2
      have hkeep : ∀ b, ownP gb (.slice A' j c') b → b < wr.heap.size → w8.heap[b]? = wr.heap[b]? ∧ ownP gb (.slice (some ⟨g9, 0, none⟩) (j + 1) cap) b := fun b hp hl => by
       have h1 := hp.1
       have h9 : (Value.slice (some ⟨g9, 0, none⟩) (j + 1) cap).ownBlock ≠ some b := fun e => by
        rcases hrow7 with h | ⟨n, h, hn⟩
        ·exact hp.2 (by rw [← HRw.out, ← h]; exact e)
        ·rw [h] at e; injection e with e; omega
       have h9' : b ≠ g9 := fun e => h9 (by rw [e]; rfl)
       exact ⟨(q3 b (by omega) h9').trans ((hgrow.block b (by omega) (fun e => hp.2 (by rw [← HRw.out]; exact e.symm))).trans (HA4.out.block b hl)), h1, h9⟩
      have hkt : ∀ b, (gb < b ∧ (Value.slice (some ⟨g9, 0, none⟩) (j + 1) cap).ownBlock ≠ some b) → b < w7.heap.size → w8.heap[b]? = w7.heap[b]? ∧ ownP gb (.slice (some ⟨g9, 0, none⟩) (j + 1) cap) b := fun b hp hl => ⟨q3 b (by have := hp.1; omega) (fun e => hp.2 (by rw [e]; rfl)), hp⟩
      have hs7 := hgrow.size
      have HS8 : Hid (∀ i, i < j + 1 → StAt w8 (ownP gb (.slice (some ⟨g9, 0, none⟩) (j + 1) cap)) ((Ts ++ [T']).getD i st0) (h.ex.getD i hx0).t) := fun i hi => by
       by_cases hij : i < j
       ·have e : (Ts ++ [T']).getD i st0 = Ts.getD i st0 := by simp [List.getD_eq_getElem?_getD, List.getElem?_append_left (show i < Ts.length by omega)]
        rw [e]
        exact (hS.out i hij).keep hkeep (by omega)
       ·obtain rfl : i = j := by omega
        have e : (Ts ++ [T']).getD i st0 = T' := by simp [List.getD_eq_getElem?_getD, ← hTs]
        rw [e, HX.out]
        exact hsT.keep hkt (by omega)
      have HB8 := Lib.hid q5
      clear hown7 hsT hrow7 hgrow hx7 hkeep hkt q1 q2 q3 q4 q5 d10 m0 m1 m2 m3 m4 hS hT hO hbr HT4 HO4 HX4 HA4 HB4 hown hlr hlrg hbl4 hg7 hf7 hc7 HB7
      go_wp2_with fail
      go_roundw
      case rel => exact ⟨j + 1, by omega, by go_num, Ts ++ [T'], some ⟨g9, 0, none⟩, cap, by simp [hTs], HT8, HO8, HS8, HB8⟩
      case measure => simp [intOf]; omega
     ·(refine wpOp_store (w' := ?_) (by rfl) (by rfl) ?_ ?_; rotate_left; (· ((go_simp) <;> ((repeat' apply And.intro) <;> with_reducible rfl))); try simp only [Act.put])
      refine wpAny_one 11 (by kernel_rfl) ?_
      (refine wpOp_store (w' := ?_) (by rfl) (by rfl) ?_ ?_; rotate_left; (· ((go_simp) <;> ((repeat' apply And.intro) <;> with_reducible rfl))); try simp only [Act.put])
      refine wpAny_end (by kernel_rfl) ?_
      obtain ⟨q1, q2, q3, q4, q5⟩ := bk_b (B := w.heap.size) (w := w) hx7 hown7 hxl (.slice (some ⟨g9, 0, none⟩) (j + 1) cap) (.int .i64 k3) (.int .i64 a3) (.int .i64 b3) (.string nm3) (.slice A3 ks3.length c3) (.string cal3.nm) (.int .i64 cal3.ep) (.int .i64 cal3.cy) (.slice cal3.A1 cal3.mo.length cal3.c1) (.slice cal3.A2 cal3.lp.length cal3.c2) (.slice A4 ks3.length c4) hne2 (by omega) HB7.out (by omega) (by omega)
      clear n0 n1 n2 n3 n4 n5 n6 n7 n8 n9 n10 f0 f1 f2 f3 f4 f5 f6 f7 f8 f9 f10
      generalize (((((((((((w7.setCell ⟨gb, 8, none⟩ (.slice (some ⟨g9, 0, none⟩) (j + 1) cap)).setCell ⟨g9, j * 11, none⟩ (.int .i64 k3)).setCell ⟨g9, j * 11 + 1, none⟩ (.int .i64 a3)).setCell ⟨g9, j * 11 + 2, none⟩ (.int .i64 b3)).setCell ⟨g9, j * 11 + 3, none⟩ (.string nm3)).setCell ⟨g9, j * 11 + 4, none⟩ (.slice A3 ks3.length c3)).setCell ⟨g9, j * 11 + 5, none⟩ (.string cal3.nm)).setCell ⟨g9, j * 11 + 6, none⟩ (.int .i64 cal3.ep)).setCell ⟨g9, j * 11 + 7, none⟩ (.int .i64 cal3.cy)).setCell ⟨g9, j * 11 + 8, none⟩ (.slice cal3.A1 cal3.mo.length cal3.c1)).setCell ⟨g9, j * 11 + 9, none⟩ (.slice cal3.A2 cal3.lp.length cal3.c2)).setCell ⟨g9, j * 11 + 10, none⟩ (.slice A4 ks3.length c4) = w8 at *
      have HT8 : Hid (Box w8 gb 192 #[v0, v1, v2, v3, v4, v5, v6, .slice (some ⟨bb, o, none⟩) h.ex.length h.c, .slice (some ⟨g9, 0, none⟩) (j + 1) cap, .string nm, .int .i64 first, .slice Az chs.length cz]) := q1
      have HO8 : Hid (w8.ownsRow (gb + 1) 105 11 (.slice (some ⟨g9, 0, none⟩) (j + 1) cap) (j + 1) ((Ts ++ [T']).flatMap stF)) := by
       have e : (Ts ++ [T']).flatMap stF = Ts.flatMap stF ++ stL k3 a3 b3 nm3 A3 ks3.length c3 cal3 A4 ks3.length c4 := by rw [List.flatMap_append, ← eT]; simp
       unfold Hid
       rw [e]
       exact q2
      have hkeep : ∀ b, ownP gb (.slice A' j c') b → b < wr.heap.size → w8.heap[b]? = wr.heap[b]? ∧ ownP gb (.slice (some ⟨g9, 0, none⟩) (j + 1) cap) b := fun b hp hl => by
       have h1 := hp.1
       have h9 : (Value.slice (some ⟨g9, 0, none⟩) (j + 1) cap).ownBlock ≠ some b := fun e => by
        rcases hrow7 with h | ⟨n, h, hn⟩
        ·exact hp.2 (by rw [← HRw.out, ← h]; exact e)
        ·rw [h] at e; injection e with e; omega
       have h9' : b ≠ g9 := fun e => h9 (by rw [e]; rfl)
       exact ⟨(q3 b (by omega) h9').trans ((hgrow.block b (by omega) (fun e => hp.2 (by rw [← HRw.out]; exact e.symm))).trans (HA4.out.block b hl)), h1, h9⟩
      have hkt : ∀ b, (gb < b ∧ (Value.slice (some ⟨g9, 0, none⟩) (j + 1) cap).ownBlock ≠ some b) → b < w7.heap.size → w8.heap[b]? = w7.heap[b]? ∧ ownP gb (.slice (some ⟨g9, 0, none⟩) (j + 1) cap) b := fun b hp hl => ⟨q3 b (by have := hp.1; omega) (fun e => hp.2 (by rw [e]; rfl)), hp⟩
      have hs7 := hgrow.size
      have HS8 : Hid (∀ i, i < j + 1 → StAt w8 (ownP gb (.slice (some ⟨g9, 0, none⟩) (j + 1) cap)) ((Ts ++ [T']).getD i st0) (h.ex.getD i hx0).t) := fun i hi => by
       by_cases hij : i < j
       ·have e : (Ts ++ [T']).getD i st0 = Ts.getD i st0 := by simp [List.getD_eq_getElem?_getD, List.getElem?_append_left (show i < Ts.length by omega)]
        rw [e]
        exact (hS.out i hij).keep hkeep (by omega)
       ·obtain rfl : i = j := by omega
        have e : (Ts ++ [T']).getD i st0 = T' := by simp [List.getD_eq_getElem?_getD, ← hTs]
        rw [e, HX.out]
        exact hsT.keep hkt (by omega)
      have HB8 := Lib.hid q5
      clear hown7 hsT hrow7 hgrow hx7 hkeep hkt q1 q2 q3 q4 q5 d10 m0 m1 m2 m3 m4 hS hT hO hbr HT4 HO4 HX4 HA4 HB4 hown hlr hlrg hbl4 hg7 hf7 hc7 HB7
      go_wp2_with fail
      go_roundw
      case rel => exact ⟨j + 1, by omega, by go_num, Ts ++ [T'], some ⟨g9, 0, none⟩, cap, by simp [hTs], HT8, HO8, HS8, HB8⟩
      case measure => simp [intOf]; omega
    ·(refine wpOp_store (w' := ?_) (by rfl) (by rfl) ?_ ?_; rotate_left; (· ((go_simp) <;> ((repeat' apply And.intro) <;> with_reducible rfl))); try simp only [Act.put])
     refine wpAny_one 10 (by kernel_rfl) ?_
     (refine wpOp_val (v := ?_) (by rfl) (by rfl) ?_ ?_; rotate_left; (· ((go_simp) <;> ((repeat' apply And.intro) <;> with_reducible rfl))); try simp only [Act.put, List.setIfInBounds_toArray, List.set_cons_zero, List.set_cons_succ])
     refine wpAny_one 11 (by kernel_rfl) ?_
     (refine wpOp_store (w' := ?_) (by rfl) (by rfl) ?_ ?_; rotate_left; (· ((go_simp) <;> ((repeat' apply And.intro) <;> with_reducible rfl))); try simp only [Act.put])
     refine wpAny_end (by kernel_rfl) ?_
     obtain ⟨q1, q2, q3, q4, q5⟩ := bk_b (B := w.heap.size) (w := w) hx7 hown7 hxl (.slice (some ⟨g9, 0, none⟩) (j + 1) cap) (.int .i64 k3) (.int .i64 a3) (.int .i64 b3) (.string nm3) (.slice A3 ks3.length c3) (.string cal3.nm) (.int .i64 cal3.ep) (.int .i64 cal3.cy) (.slice cal3.A1 cal3.mo.length cal3.c1) (.slice cal3.A2 cal3.lp.length cal3.c2) (.slice A4 ks3.length c4) hne2 (by omega) HB7.out (by omega) (by omega)
     clear n0 n1 n2 n3 n4 n5 n6 n7 n8 n9 n10 f0 f1 f2 f3 f4 f5 f6 f7 f8 f9 f10
     generalize (((((((((((w7.setCell ⟨gb, 8, none⟩ (.slice (some ⟨g9, 0, none⟩) (j + 1) cap)).setCell ⟨g9, j * 11, none⟩ (.int .i64 k3)).setCell ⟨g9, j * 11 + 1, none⟩ (.int .i64 a3)).setCell ⟨g9, j * 11 + 2, none⟩ (.int .i64 b3)).setCell ⟨g9, j * 11 + 3, none⟩ (.string nm3)).setCell ⟨g9, j * 11 + 4, none⟩ (.slice A3 ks3.length c3)).setCell ⟨g9, j * 11 + 5, none⟩ (.string cal3.nm)).setCell ⟨g9, j * 11 + 6, none⟩ (.int .i64 cal3.ep)).setCell ⟨g9, j * 11 + 7, none⟩ (.int .i64 cal3.cy)).setCell ⟨g9, j * 11 + 8, none⟩ (.slice cal3.A1 cal3.mo.length cal3.c1)).setCell ⟨g9, j * 11 + 9, none⟩ (.slice cal3.A2 cal3.lp.length cal3.c2)).setCell ⟨g9, j * 11 + 10, none⟩ (.slice A4 ks3.length c4) = w8 at *
     have HT8 : Hid (Box w8 gb 192 #[v0, v1, v2, v3, v4, v5, v6, .slice (some ⟨bb, o, none⟩) h.ex.length h.c, .slice (some ⟨g9, 0, none⟩) (j + 1) cap, .string nm, .int .i64 first, .slice Az chs.length cz]) := q1
     have HO8 : Hid (w8.ownsRow (gb + 1) 105 11 (.slice (some ⟨g9, 0, none⟩) (j + 1) cap) (j + 1) ((Ts ++ [T']).flatMap stF)) := by
      have e : (Ts ++ [T']).flatMap stF = Ts.flatMap stF ++ stL k3 a3 b3 nm3 A3 ks3.length c3 cal3 A4 ks3.length c4 := by rw [List.flatMap_append, ← eT]; simp
      unfold Hid
      rw [e]
      exact q2
     have hkeep : ∀ b, ownP gb (.slice A' j c') b → b < wr.heap.size → w8.heap[b]? = wr.heap[b]? ∧ ownP gb (.slice (some ⟨g9, 0, none⟩) (j + 1) cap) b := fun b hp hl => by
      have h1 := hp.1
      have h9 : (Value.slice (some ⟨g9, 0, none⟩) (j + 1) cap).ownBlock ≠ some b := fun e => by
       rcases hrow7 with h | ⟨n, h, hn⟩
       ·exact hp.2 (by rw [← HRw.out, ← h]; exact e)
       ·rw [h] at e; injection e with e; omega
      have h9' : b ≠ g9 := fun e => h9 (by rw [e]; rfl)
      exact ⟨(q3 b (by omega) h9').trans ((hgrow.block b (by omega) (fun e => hp.2 (by rw [← HRw.out]; exact e.symm))).trans (HA4.out.block b hl)), h1, h9⟩
     have hkt : ∀ b, (gb < b ∧ (Value.slice (some ⟨g9, 0, none⟩) (j + 1) cap).ownBlock ≠ some b) → b < w7.heap.size → w8.heap[b]? = w7.heap[b]? ∧ ownP gb (.slice (some ⟨g9, 0, none⟩) (j + 1) cap) b := fun b hp hl => ⟨q3 b (by have := hp.1; omega) (fun e => hp.2 (by rw [e]; rfl)), hp⟩
     have hs7 := hgrow.size
     have HS8 : Hid (∀ i, i < j + 1 → StAt w8 (ownP gb (.slice (some ⟨g9, 0, none⟩) (j + 1) cap)) ((Ts ++ [T']).getD i st0) (h.ex.getD i hx0).t) := fun i hi => by
      by_cases hij : i < j
      ·have e : (Ts ++ [T']).getD i st0 = Ts.getD i st0 := by simp [List.getD_eq_getElem?_getD, List.getElem?_append_left (show i < Ts.length by omega)]
       rw [e]
       exact (hS.out i hij).keep hkeep (by omega)
      ·obtain rfl : i = j := by omega
       have e : (Ts ++ [T']).getD i st0 = T' := by simp [List.getD_eq_getElem?_getD, ← hTs]
       rw [e, HX.out]
       exact hsT.keep hkt (by omega)
     have HB8 := Lib.hid q5
     clear hown7 hsT hrow7 hgrow hx7 hkeep hkt q1 q2 q3 q4 q5 d10 m0 m1 m2 m3 m4 hS hT hO hbr HT4 HO4 HX4 HA4 HB4 hown hlr hlrg hbl4 hg7 hf7 hc7 HB7
     go_wp2_with fail
     go_roundw
     case rel => exact ⟨j + 1, by omega, by go_num, Ts ++ [T'], some ⟨g9, 0, none⟩, cap, by simp [hTs], HT8, HO8, HS8, HB8⟩
     case measure => simp [intOf]; omega
end Go.Proofs.YtabidjmmgnkhkaaGreatDoor
/- Contract of (*hours.book).parts. -/
namespace Go.Proofs.YtabidjmmgnkhkaaGreatDoor
open Go Go.RowKit
attribute [local go_sem] Oper.semAt_some
set_option linter.unusedVariables false
theorem bk_week (h : Hr) (z : Zn) (v : Value) (m : Nat) (hm : m < 7) : (bkL h z v)[m]? = some (wdV (h.wk m)) := by
 match m, hm with
 | 0, _ | 1, _ | 2, _ | 3, _ | 4, _ | 5, _ | 6, _ => rfl
set_option maxHeartbeats 8000000 in
set_option maxRecDepth 100000 in
theorem hparts_any (g : Nat) (h : Hr) (z : Zn) (At : Option Addr) (ct : Nat) (Ts : List ST) (p : Nat → Prop) (day : Int) (w : World) (ok : HrOk h) (hd : DayIn day) (k : BkAt w p g h z At ct Ts) :
  Calls Tryz.prog 121 #[.pointer (some ⟨g, 0, none⟩), .int .i64 day] w fun e w' => e = .returned (wdV (h.parts day)) ∧ Below w.heap.size w w' := by
 obtain ⟨hd1, hd2⟩ := hd
 have HX := Lib.hid k.box
 have hTl := k.tln
 have hln := ok.ln
 have HTr := Lib.hid k.trow.row
 have HEr := Lib.hid k.hat.row.row
 have HSt := Lib.hid (fun i (hi : i < Ts.length) W (hb : Below w.heap.size w W) => set_any (k.trees i hi) (ok.ex i (by omega)).1.ok W day day 1 hb (by omega) (by have := (ok.ex i (by omega)).1.ht; omega) (by have := (ok.ex i (by omega)).1.ht; omega) (by omega) (by have := (ok.ex i (by omega)).1.ht; omega))
 unfold SetQ at HSt
 have HW := Lib.hid (fun m hm => (k.box.cell m).trans (bk_week h z (.slice At Ts.length ct) m hm))
 have hgl := k.box.lt
 have HPe : Hid (∀ i, i < h.ex.length → (∀ j, j < i → ¬ memF (h.ex.getD j hx0).t day) → memF (h.ex.getD i hx0).t day → wdV (h.parts day) = wdV (h.ex.getD i hx0).d) := fun i hi a b => by rw [parts_ex i hi a b]
 have HPw : Hid ((∀ j, j < h.ex.length → ¬ memF (h.ex.getD j hx0).t day) → wdV (h.parts day) = wdV (h.wk ((day - 1) % 7).toNat)) := fun a => by rw [parts_wk a]
 have x8 : w.cell? ⟨g, 8, none⟩ = some (.slice At Ts.length ct) := HX.out.cell 8
 clear k ok
 generalize wdV (h.parts day) = res at *
 go_enter Tryz.func121, Tryz.ntmps121
 go_wp2_with fail
 clear x8
 go_loopw [5, 6, 12] (fun _ _ i wr => ∃ j : Nat, j ≤ Ts.length ∧ i = .int .i64 (j : Int) ∧ Hid (∀ i, i < j → ¬ memF (h.ex.getD i hx0).t day) ∧ Hid (Below w.heap.size w wr)) (fun _ _ i _ => Ts.length - (intOf i).toNat)
 case atStart => exact ⟨0, by omega, rfl, (fun i hi => by omega), Below.refl _ _⟩
 case round =>
  obtain ⟨j, hj, rfl, hall, hbr⟩ := hrel
  have hszr := hbr.out.size
  by_cases hlt : j < Ts.length
  case neg =>
   have hje : Ts.length = j := by omega
   have HR : Hid (res = wdV (h.wk ((day - 1) % 7).toNat)) := HPw.out (fun i hi => hall.out i (by omega))
   obtain ⟨m, hm⟩ : ∃ m : Nat, (m : Int) = (day - 1) % 7 := ⟨((day - 1) % 7).toNat, by omega⟩
   have hm7 : m < 7 := by omega
   have hmt : ((day - 1) % 7).toNat = m := by omega
   rw [hmt] at HR
   have HMd := Lib.hid (fun W => mod_pos (day - 1) 7 W (by omega) (by omega) (by omega) (by omega))
   rw [← hm] at HMd
   have c0 : ∀ W, Below wr.heap.size wr W → W.cell? ⟨g, m, none⟩ = some (wdV (h.wk m)) := fun W hW => (hW.cell (p := ⟨g, m, none⟩) (show g < wr.heap.size by omega)).trans ((hbr.out.cell (p := ⟨g, m, none⟩) hgl).trans (HW.out m hm7))
   have ew : IntKind.i64.wrap (day - 1) = day - 1 := intFits _ (by omega) (by omega)
   have hm0 : (0 : Int) ≤ (m : Int) := by omega
   have hm8 : (m : Int) < 7 := by omega
   clear hje hmt hm hall HW HPe HPw HSt
   generalize wdV (h.wk m) = vm at *
   go_upto_region 7 with fail
   refine flow_begin (tellOf [(3, det (.int .i64 (m : Int)))]) (by kernel_rfl) (by kernel_rfl) ?_
   repeat (first | (refine flow_val (v := ?_) (by rfl) (by rfl) (fun w hb => ?_) ?_; rotate_left; (· ((go_simp) <;> ((repeat' apply And.intro) <;> with_reducible rfl))); try simp only [Act.put, List.setIfInBounds_toArray, List.set_cons_zero, List.set_cons_succ, Nat.reduceAdd]) | (refine flow_skip (by rfl) (by rfl) ?_; try simp only [Act.put, List.setIfInBounds_toArray, List.set_cons_zero, List.set_cons_succ, Nat.reduceAdd]))
   refine flow_call (f := ?_) (args := ?_) [] (by kernel_rfl) (by rfl) (by rfl) (fun w hb => ?_) (fun w hb hu => ?_) ?_; rotate_left 2; (· ((go_simp) <;> ((repeat' apply And.intro) <;> with_reducible rfl)))
   ·exact (HMd.out w).mono fun e w' ⟨he, nq, hw⟩ => ⟨he, by rw [hw]; exact below_drewN _ _⟩
   try simp only [Act.put, List.setIfInBounds_toArray, List.set_cons_zero, List.set_cons_succ, Nat.reduceAdd]
   repeat (first | (refine flow_val (v := ?_) (by rfl) (by rfl) (fun w hb => ?_) ?_; rotate_left; (· ((go_simp) <;> ((repeat' apply And.intro) <;> with_reducible rfl))); try simp only [Act.put, List.setIfInBounds_toArray, List.set_cons_zero, List.set_cons_succ, Nat.reduceAdd]) | (refine flow_skip (by rfl) (by rfl) ?_; try simp only [Act.put, List.setIfInBounds_toArray, List.set_cons_zero, List.set_cons_succ, Nat.reduceAdd]))
   refine flow_nil fun w2 hb2 _ => ?_
   have HB2 := Lib.hid (below_then hbr.out hb2)
   clear hb2 c0 hbr
   go_wp2_with fail
   go_ret
   exact ⟨by rw [HR.out]; rfl, HB2.out⟩
  obtain ⟨bt, ot, hA, hb, hc⟩ := HTr.out.open_ (flat_ne stF_len (by omega) Ts (by omega))
  have hc' : ∀ i v, (Ts.flatMap stF)[i]? = some v → wr.cell? ⟨bt, ot + i, none⟩ = some v := fun i v hv => (hbr.out.cell (p := ⟨bt, ot + i, none⟩) hb).trans (hc i v hv)
  have hcc : ∀ i v, i < 11 → (stF (Ts.getD j st0))[i]? = some v → wr.cell? ⟨bt, ot + j * 11 + i, none⟩ = some v := fun i v hi hv => flat_cell stF_len st0 hc' j i hlt hi v hv
  have HS0 := HSt.out j hlt
  have HPj := Lib.hid (HPe.out j (by omega) hall.out)
  have HNx : Hid (¬ memF (h.ex.getD j hx0).t day → ∀ i, i < j + 1 → ¬ memF (h.ex.getD i hx0).t day) := fun q i hi => by
   by_cases e : i = j
   ·rw [e]; exact q
   ·exact hall.out i (by omega)
  obtain ⟨bb, o, hEA, heb, hec⟩ := HEr.out.open_ (flat_ne hxF_len (by omega) h.ex (by omega))
  have e5 : w.cell? ⟨bb, o + j * 6 + 5, none⟩ = some (wdV (h.ex.getD j hx0).d) := flat_cell hxF_len hx0 hec j 5 (by omega) (by omega) _ (by unfold hxF; rw [List.getElem?_append_right (by rw [feF_len]; omega), feF_len]; rfl)
  have hxl : j < h.ex.length := by omega
  generalize h.ex.getD j hx0 = x at *
  generalize Ts.getD j st0 = T at *
  obtain ⟨tk, ta, tb, tn, tA, tc, tcal, tA2, tc2, tks⟩ := T
  have y0 : wr.cell? ⟨bt, ot + j * 11 + 0, none⟩ = some (.int .i64 tk) := hcc 0 _ (by omega) rfl
  have y1 : wr.cell? ⟨bt, ot + j * 11 + 1, none⟩ = some (.int .i64 ta) := hcc 1 _ (by omega) rfl
  have y2 : wr.cell? ⟨bt, ot + j * 11 + 2, none⟩ = some (.int .i64 tb) := hcc 2 _ (by omega) rfl
  have y3 : wr.cell? ⟨bt, ot + j * 11 + 3, none⟩ = some (.string tn) := hcc 3 _ (by omega) rfl
  have y4 : wr.cell? ⟨bt, ot + j * 11 + 4, none⟩ = some (.slice tA tks.length tc) := hcc 4 _ (by omega) rfl
  have y5 : wr.cell? ⟨bt, ot + j * 11 + 5, none⟩ = some (.string tcal.nm) := hcc 5 _ (by omega) rfl
  have y6 : wr.cell? ⟨bt, ot + j * 11 + 6, none⟩ = some (.int .i64 tcal.ep) := hcc 6 _ (by omega) rfl
  have y7 : wr.cell? ⟨bt, ot + j * 11 + 7, none⟩ = some (.int .i64 tcal.cy) := hcc 7 _ (by omega) rfl
  have y8 : wr.cell? ⟨bt, ot + j * 11 + 8, none⟩ = some (.slice tcal.A1 tcal.mo.length tcal.c1) := hcc 8 _ (by omega) rfl
  have y9 : wr.cell? ⟨bt, ot + j * 11 + 9, none⟩ = some (.slice tcal.A2 tcal.lp.length tcal.c2) := hcc 9 _ (by omega) rfl
  have y10 : wr.cell? ⟨bt, ot + j * 11 + 10, none⟩ = some (.slice tA2 tks.length tc2) := hcc 10 _ (by omega) rfl
  rw [Nat.add_zero] at y0
  have hbl : bt < wr.heap.size := by omega
  have HB4 := Lib.hid (below_then hbr.out (below_alloc1 wr (Obj.cells #[.int .i64 tk, .int .i64 ta, .int .i64 tb, .string tn, .slice tA tks.length tc, .string tcal.nm, .int .i64 tcal.ep, .int .i64 tcal.cy, .slice tcal.A1 tcal.mo.length tcal.c1, .slice tcal.A2 tcal.lp.length tcal.c2, .slice tA2 tks.length tc2] 105)))
  have HX4 := Lib.hid (Box.new wr 105 #[.int .i64 tk, .int .i64 ta, .int .i64 tb, .string tn, .slice tA tks.length tc, .string tcal.nm, .int .i64 tcal.ep, .int .i64 tcal.cy, .slice tcal.A1 tcal.mo.length tcal.c1, .slice tcal.A2 tcal.lp.length tcal.c2, .slice tA2 tks.length tc2])
  have HC0 : Hid (∀ W, Below w.heap.size w W → Calls Tryz.prog 47 #[.agg #[.int .i64 tk, .int .i64 ta, .int .i64 tb, .string tn, .slice tA tks.length tc, .string tcal.nm, .int .i64 tcal.ep, .int .i64 tcal.cy, .slice tcal.A1 tcal.mo.length tcal.c1, .slice tcal.A2 tcal.lp.length tcal.c2, .slice tA2 tks.length tc2], .int .i64 day, .int .i64 day] W fun e w' => ∃ gs, e = .returned (.slice (some ⟨gs, 0, none⟩) 1 1) ∧ BoolsAt w' gs day 1 (memF x.t) ∧ W.heap.size ≤ gs ∧ Below W.heap.size W w') := HS0
  have HAt := Lib.hid hA
  have HEA := Lib.hid hEA
  rw [hA]
  clear hc hc' hcc HS0 hA hall hEA hec HSt HPe HPw HW
  go_upto_region 4 with fail
  clear y0 y1 y2 y3 y4 y5 y6 y7 y8 y9 y10
  generalize wr.alloc (Obj.cells #[.int .i64 tk, .int .i64 ta, .int .i64 tb, .string tn, .slice tA tks.length tc, .string tcal.nm, .int .i64 tcal.ep, .int .i64 tcal.cy, .slice tcal.A1 tcal.mo.length tcal.c1, .slice tcal.A2 tcal.lp.length tcal.c2, .slice tA2 tks.length tc2] 105) = w4 at *
  generalize wr.heap.size = g4 at *
  have z0 : w4.cell? ⟨g4, 0, none⟩ = some (.int .i64 tk) := HX4.out.cell 0
  have z1 : w4.cell? ⟨g4, 1, none⟩ = some (.int .i64 ta) := HX4.out.cell 1
  have z2 : w4.cell? ⟨g4, 2, none⟩ = some (.int .i64 tb) := HX4.out.cell 2
  have z3 : w4.cell? ⟨g4, 3, none⟩ = some (.string tn) := HX4.out.cell 3
  have z4 : w4.cell? ⟨g4, 4, none⟩ = some (.slice tA tks.length tc) := HX4.out.cell 4
  have z5 : w4.cell? ⟨g4, 5, none⟩ = some (.string tcal.nm) := HX4.out.cell 5
  have z6 : w4.cell? ⟨g4, 6, none⟩ = some (.int .i64 tcal.ep) := HX4.out.cell 6
  have z7 : w4.cell? ⟨g4, 7, none⟩ = some (.int .i64 tcal.cy) := HX4.out.cell 7
  have z8 : w4.cell? ⟨g4, 8, none⟩ = some (.slice tcal.A1 tcal.mo.length tcal.c1) := HX4.out.cell 8
  have z9 : w4.cell? ⟨g4, 9, none⟩ = some (.slice tcal.A2 tcal.lp.length tcal.c2) := HX4.out.cell 9
  have z10 : w4.cell? ⟨g4, 10, none⟩ = some (.slice tA2 tks.length tc2) := HX4.out.cell 10
  go_wp2_with fail
  refine (HC0.out w4 HB4.out).mono ?_
  rintro e w5 ⟨gs, rfl, hbs, _, hb5⟩
  have HB5 := Lib.hid (below_then HB4.out hb5)
  obtain ⟨L, hL, hLc, hLm⟩ := hbs.list
  obtain ⟨v, hv⟩ : ∃ v, L[0]? = some v := ⟨_, List.getElem?_eq_getElem (by omega)⟩
  have hcx : w5.cell? ⟨gs, 0, none⟩ = some (.bool v) := hLc 0 v hv
  have hxm : v = true ↔ memF x.t day := by
   have := hLm 0 (by omega)
   rw [List.getD_eq_getElem?_getD, hv] at this
   simpa using this
  have HXm := Lib.hid hxm
  clear hb5 HB4 HX4 HC0 z0 z1 z2 z3 z4 z5 z6 z7 z8 z9 z10 hbs hLc hLm hv hxm hbr
  cases v with
  | false =>
   have HN : Hid (¬ memF x.t day) := fun q => by have := HXm.out.2 q; cases this
   have HN2 := Lib.hid (HNx.out HN.out)
   go_wp2_with fail
   go_roundw
   case rel => exact ⟨j + 1, by omega, by go_num, HN2, HB5⟩
   case measure => simp [intOf]; omega
  | true =>
   have HR := Lib.hid (HPj.out (HXm.out.1 rfl))
   have HX5 := Lib.hid (HX.out.belowB HB5.out hgl)
   have f7 : w5.cell? ⟨g, 7, none⟩ = some (.slice (some ⟨bb, o, none⟩) h.ex.length h.c) := by rw [← HEA.out]; exact HX5.out.cell 7
   have f5 : w5.cell? ⟨bb, o + j * 6 + 5, none⟩ = some (wdV x.d) := (HB5.out.cell (p := ⟨bb, o + j * 6 + 5, none⟩) heb).trans e5
   have hg5 : g < w5.heap.size := by have := HB5.out.size; omega
   have hj2 : (j : Int) < (h.ex.length : Int) := by omega
   clear e5
   generalize wdV x.d = vd at *
   go_wp2_with fail
   go_ret
   exact ⟨by rw [HR.out]; rfl, HB5.out⟩
end Go.Proofs.YtabidjmmgnkhkaaGreatDoor
/- Contract of (*hours.book).stretches, at any visit. -/
namespace Go.Proofs.YtabidjmmgnkhkaaGreatDoor
open Go Go.RowKit
attribute [local go_sem] Oper.semAt_some
set_option linter.unusedVariables false
structure StrH (p : Nat → Prop) (g : Nat) (h : Hr) (z : Zn) (At : Option Addr) (ct : Nat) (Ts : List ST) (low high : Int) (f : Nat) (cb : Array Value) (Inv : Int → World → Prop) (Dn : World → Prop) : Prop where
 keep : ∀ q W, Inv q W → BkAt W p g h z At ct Ts
 skip : ∀ a b W, low ≤ a → a ≤ b → b ≤ high → Inv a W → (∀ t, a ≤ t → t < b → ¬ OpenAt h z.first z.chs t) → Inv b W
 bel : ∀ q W W', Inv q W → Below W.heap.size W W' → Inv q W'
 call : ∀ a b W, low ≤ a → a < b → b ≤ high → Inv a W → (∀ t, a ≤ t → t < b → OpenAt h z.first z.chs t) → Calls Tryz.prog f (#[.int .i64 a, .int .i64 b] ++ cb) W fun e w' => ∃ B : Bool, e = .returned (.bool B) ∧ (B = true → Inv b w') ∧ (B = false → Dn w')
 eg : ∀ args w, (callFunc f args).run Tryz.prog w = .ok (.enter f args) w
def NxOk (chs : List Chg) (a high nx : Int) : Prop := a < nx ∧ nx ≤ high ∧ (seg chs a = chs.length ∨ nx ≤ (chs.getD (seg chs a) chg0).a)
theorem bkcells {w : World} {g : Nat} {h : Hr} {z : Zn} {v : Value} (k : Box w g 192 (bkL h z v)) : w.cell? ⟨g, 10, none⟩ = some (.int .i64 z.first) ∧ w.cell? ⟨g, 11, none⟩ = some (.slice z.A z.chs.length z.c) := ⟨k.cell 10, k.cell 11⟩
theorem HrAt.parts {w : World} {p : Nat → Prop} {h : Hr} (k : HrAt w p h) (day : Int) : RowAt w p (h.parts day).A ((h.parts day).l.flatMap spF) := by
 classical
 unfold Hr.parts
 cases e : h.ex.find? (fun x => decide (memF x.t day)) with
 | none => exact k.wk _ (by omega)
 | some x =>
  obtain ⟨i, hi, rfl⟩ := List.getElem_of_mem (List.mem_of_find?_eq_some e)
  have := k.ex i hi
  rw [List.getD_eq_getElem?_getD, List.getElem?_eq_getElem hi] at this
  exact this
def StrQ (high : Int) (Inv : Int → World → Prop) (Dn : World → Prop) (e : Ending) (w' : World) : Prop := e = .returned (.tuple #[]) ∧ (Inv high w' ∨ Dn w')
set_option maxHeartbeats 16000000 in
set_option maxRecDepth 100000 in
theorem stretches_any (p : Nat → Prop) (g : Nat) (h : Hr) (z : Zn) (At : Option Addr) (ct : Nat) (Ts : List ST) (low high : Int) (f : Nat) (cb : Array Value) (Inv : Int → World → Prop) (Dn : World → Prop)
  (hh : StrH p g h z At ct Ts low high f cb Inv Dn) (ok : HrOk h) (zok : ZoneOk z.nm z.first z.chs) (hlo : -346000000000000 ≤ low) (hlh : low ≤ high) (hhi : high ≤ 346000000000000) (w : World) (h0 : Inv low w) :
  Calls Tryz.prog 92 #[.pointer (some ⟨g, 0, none⟩), .int .i64 low, .int .i64 high, .func (.func f) #[] cb] w (StrQ high Inv Dn) := by
 obtain ⟨nm, first, Az, cz, chs⟩ := z
 have eg := hh.eg
 have hof : ∀ a, -64800000 ≤ offAt first chs a ∧ offAt first chs a ≤ 64800000 := fun a => by have := off_in zok (seg chs a) (seg_le chs a); exact ⟨this.1, this.2.1⟩
 have hcl : chs.length ≤ 200 := zok.2.2.1
 have HOf := Lib.hid hof
 have HS := Lib.hid (zone_sorted zok)
 have HI0 := Lib.hid h0
 have HK := Lib.hid hh.keep
 have HSk := Lib.hid hh.skip
 have HBl := Lib.hid hh.bel
 have HCl := Lib.hid hh.call
 have HPt := Lib.hid (fun day W (hd : DayIn day) (k : BkAt W p g h ⟨nm, first, Az, cz, chs⟩ At ct Ts) => hparts_any g h ⟨nm, first, Az, cz, chs⟩ At ct Ts p day W ok hd k)
 have HSp := Lib.hid (fun day => parts_ok ok day)
 have HIs := Lib.hid (fun d W => isDay_any d W)
 clear hh hof h0 ok zok
 go_enter Tryz.func92, Tryz.ntmps92
 go_wp2_with fail
 go_loopw [8, 9, 10, 12, 13, 14, 16, 17, 18, 33, 34, 35, 66, 67, 68] (fun a _ _ _ _ _ _ _ _ _ _ _ _ _ _ wr => ∃ at_ : Int, a = .int .i64 at_ ∧ low ≤ at_ ∧ at_ ≤ high ∧ Hid (Inv at_ wr)) (fun a _ _ _ _ _ _ _ _ _ _ _ _ _ _ _ => (high - intOf a).toNat)
 case atStart => exact ⟨low, rfl, by omega, by omega, HI0⟩
 case round =>
  obtain ⟨at_, rfl, ha1, ha2, hinv⟩ := hrel
  rename World => w9
  clear HI0
  by_cases hlt : at_ < high
  case neg =>
   obtain rfl : at_ = high := by omega
   have t1 : decide (at_ < at_) = false := decide_eq_false (by omega)
   go_wp2_with fail
   go_end0
   exact ⟨rfl, .inl hinv.out⟩
  have t1 : decide (at_ < high) = true := decide_eq_true hlt
  have hbk := HK.out _ _ hinv.out
  obtain ⟨x10, x11⟩ := bkcells hbk.box
  have hgl := hbk.box.lt
  have hgl := hbk.box.lt
  have HBk := Lib.hid hbk
  have hZr : Row w9 w9.heap.size Az (chCells chs) := hbk.zat.row
  have hsl := seg_le chs at_
  have HSb := Lib.hid (seg_before chs at_)
  have HSa := Lib.hid (seg_after chs at_)
  have HOff : Hid (offAt first chs at_ = offI first chs (seg chs at_)) := rfl
  have HNx : Hid (∀ nx, at_ < nx → nx ≤ high → (seg chs at_ = chs.length ∨ nx ≤ (chs.getD (seg chs at_) chg0).a) → NxOk chs at_ high nx) := fun nx a b c => ⟨a, b, c⟩
  have HO0 : Hid (offI first chs 0 = first) := rfl
  obtain ⟨sg, hsg⟩ : ∃ sg, sg = seg chs at_ := ⟨_, rfl⟩
  rw [← hsg] at hsl HSb HSa HOff HNx
  clear hsg hbk
  go_upto_block 2 with fail
  clear x10 x11
  go_cut [9, 10] (fun s9 s10 wx => ∃ nx : Int, s9 = .int .i64 (offAt first chs at_) ∧ s10 = .int .i64 nx ∧ Hid (NxOk chs at_ high nx) ∧ Hid (Below w9.heap.size w9 wx))
  case first =>
   go_wp2_with fail
   go_loopw [9, 10, 12, 35] (fun n nx _ i wr => ∃ k : Nat, k ≤ sg ∧ i = .int .i64 (k : Int) ∧ n = .int .i64 (offI first chs k) ∧ nx = .int .i64 high ∧ Hid (Below w9.heap.size w9 wr)) (fun _ _ _ i _ => chs.length - (intOf i).toNat)
   case atStart => exact ⟨0, by omega, rfl, by rw [HO0.out], rfl, Below.refl _ _⟩
   case round =>
    obtain ⟨k, hk, rfl, rfl, rfl, hbq⟩ := hrel
    by_cases hkl : k < chs.length
    case neg =>
     obtain rfl : k = sg := by omega
     have HN := Lib.hid (HNx.out high hlt (Int.le_refl _) (.inl (by omega)))
     have HO2 : Hid (Value.int .i64 (offI first chs k) = .int .i64 (offAt first chs at_)) := by unfold Hid; rw [HOff.out]
     clear hk hsl
     go_wp2_with fail
     go_meet
     exact ⟨high, HO2.out, rfl, HN, hbq⟩
    obtain ⟨b, o, rfl, hb, hc⟩ := hZr.open_ (chCells_ne chs (by omega))
    have hc' : ∀ j v, (chCells chs)[j]? = some v → wr.cell? ⟨b, o + j, none⟩ = some v := fun j v hv => (hbq.out.cell (p := ⟨b, o + j, none⟩) hb).trans (hc j v hv)
    obtain ⟨y0, y1, y2⟩ := ch_cells hc' k hkl
    have hbl : b < wr.heap.size := by have := hbq.out.size; omega
    have hI1 : Hid (offI first chs (k + 1) = (chs.getD k chg0).o) := rfl
    have hkn : k < sg → (chs.getD k chg0).a ≤ at_ := HSb.out k
    have hks : k = sg → at_ < (chs.getD k chg0).a := fun h => by
     have := HSa.out
     rw [← h] at this
     rcases this with e | e
     ·omega
     ·exact e
    have HNk : Hid (k = sg → ∀ nx, at_ < nx → nx ≤ high → nx ≤ (chs.getD k chg0).a → NxOk chs at_ high nx) := fun e nx a b c => HNx.out nx a b (.inr (by rw [← e]; exact c))
    have HOk : Hid (k = sg → Value.int .i64 (offI first chs k) = .int .i64 (offAt first chs at_)) := fun e => by rw [HOff.out, e]
    generalize offI first chs k = nk at *
    generalize (chs.getD k chg0).a = ca at *
    generalize (chs.getD k chg0).o = co at *
    generalize (chs.getD k chg0).l = cl at *
    have HB4 := Lib.hid (below_then hbq.out (below_alloc1 wr (Obj.cells #[.int .i64 ca, .int .i64 co, .string cl] 150)))
    have hX4 := Box.new wr 150 #[.int .i64 ca, .int .i64 co, .string cl]
    clear hc hc'
    go_upto_region 6 with fail
    have z0 : (wr.alloc (Obj.cells #[.int .i64 ca, .int .i64 co, .string cl] 150)).cell? ⟨wr.heap.size, 0, none⟩ = some (.int .i64 ca) := hX4.cell 0
    have z1 : (wr.alloc (Obj.cells #[.int .i64 ca, .int .i64 co, .string cl] 150)).cell? ⟨wr.heap.size, 1, none⟩ = some (.int .i64 co) := hX4.cell 1
    clear y0 y1 y2 hX4 hbq
    generalize wr.alloc (Obj.cells #[.int .i64 ca, .int .i64 co, .string cl] 150) = w4 at *
    generalize wr.heap.size = g4 at *
    by_cases hks' : k < sg
    ·have t2 : decide (ca ≤ at_) = true := decide_eq_true (hkn hks')
     clear hkn hks HNk HOk
     go_wp2_with fail
     go_roundw
     case rel => exact ⟨k + 1, by omega, by go_num, by rw [hI1.out], rfl, HB4⟩
     case measure => simp [intOf]; omega
    ·obtain rfl : k = sg := by omega
     have h3 := hks rfl
     have t2 : decide (ca ≤ at_) = false := decide_eq_false (by omega)
     have HN := Lib.hid (HNk.out rfl (min high ca) (by omega) (by omega) (by omega))
     have HO2 := Lib.hid (HOk.out rfl)
     clear hkn hks HNk HOk h3
     go_wp2_with fail
     go_meet
     exact ⟨min high ca, HO2.out, rfl, HN, HB4⟩
  case rest =>
  obtain ⟨nx, rfl, rfl, hnx, hbx⟩ := hcut
  have HInx := Lib.hid (HBl.out _ _ _ hinv.out hbx.out)
  obtain ⟨hn1, hn2, hn3⟩ := hnx.out
  have HN3 := Lib.hid hn3
  obtain ⟨ho1, ho2⟩ := HOf.out at_
  have HOp : Hid (∀ day mid t, day = (at_ + offAt first chs at_) / 86400000 → mid = day * 86400000 - offAt first chs at_ → at_ ≤ t → t < mid + 86400000 → t < nx → (OpenAt h first chs t ↔ DayIn day ∧ InSp (h.parts day).l (t - mid))) := fun day mid t e1 e2 a b c => open_in HS.out e1 e2 a b (hn3.imp id fun q => by omega)
  obtain ⟨off, hoff⟩ : ∃ off, off = offAt first chs at_ := ⟨_, rfl⟩
  rw [← hoff] at HOp ho1 ho2 ⊢
  clear hn3 hoff hinv hbx hnx HSb HSa HOff HNx HO0 hsl HBk hZr
  obtain ⟨day, hday⟩ : ∃ day, day = (at_ + off) / 86400000 := ⟨_, rfl⟩
  have HDn := Lib.hid (fun W => down_pos (at_ + off) 86400000 W (by omega) (by omega) (by omega) (by omega))
  rw [← hday] at HDn
  obtain ⟨mid, hmid⟩ : ∃ mid, mid = day * 86400000 - off := ⟨_, rfl⟩
  have hmm := mid_le hday hmid
  have HOp2 := Lib.hid (fun t => HOp.out day mid t hday hmid)
  have hd1 : -5000000 ≤ day ∧ day ≤ 5000000 := by omega
  have hm1 : -347000000000000 ≤ mid ∧ mid ≤ 347000000000000 := by omega
  obtain ⟨nx2, hnx2⟩ : ∃ nx2, nx2 = min nx (mid + 86400000) := ⟨_, rfl⟩
  have hq1 : at_ < nx2 := by omega
  have hq2 : nx2 ≤ high := by omega
  have hq3 : nx2 ≤ nx ∧ nx2 ≤ mid + 86400000 := by omega
  have em : day * 86400000 - off = mid := hmid.symm
  have en : min nx (mid + 86400000) = nx2 := hnx2.symm
  have HI1 := Lib.hid (HIs.out day)
  have ew1 : IntKind.i64.wrap (at_ + off) = at_ + off := intFits _ (by omega) (by omega)
  clear hday hmid hnx2 HOp hmm
  by_cases hd : DayIn day
  case neg =>
   have HIs1 : Hid (∀ W, Calls Tryz.prog 53 #[.int .i64 day] W fun e w' => e = .returned (.bool false) ∧ W = w') := fun W => by have := HI1.out W; rwa [decide_eq_false (show ¬ (-4000000 ≤ day ∧ day ≤ 4000000) from hd)] at this
   have HNo : Hid (∀ t, at_ ≤ t → t < nx2 → ¬ OpenAt h first chs t) := fun t a b q => hd ((HOp2.out t a (by omega) (by omega)).1 q).1
   clear hd HI1
   go_wp2_with (first | (go_at_call 54; refine (HDn.out _).mono ?_; rintro e w' ⟨rfl, nq, rfl⟩) | (go_at_call 53; refine (HIs1.out _).mono ?_; rintro e w' ⟨rfl, rfl⟩))
   go_roundw
   case rel => exact ⟨nx2, rfl, by omega, hq2, HSk.out at_ nx2 _ ha1 (by omega) hq2 (HBl.out _ _ _ HInx.out (below_drewN _ _)) HNo.out⟩
   case measure => simp [intOf]; omega
  have HIs1 : Hid (∀ W, Calls Tryz.prog 53 #[.int .i64 day] W fun e w' => e = .returned (.bool true) ∧ W = w') := fun W => by have := HI1.out W; rwa [decide_eq_true (show -4000000 ≤ day ∧ day ≤ 4000000 from hd)] at this
  have HPt1 := Lib.hid (fun W (k : Inv at_ W) => HPt.out day W hd (HK.out _ _ k))
  have HSp1 := Lib.hid (HSp.out day)
  have HLf : Hid (Left (OpenAt h first chs) mid at_ nx2 (h.parts day).l 0 at_) := Left.first (by omega) fun t a b => (HOp2.out t a (by omega) (by omega)).trans ⟨fun q => q.2, fun q => ⟨hd, q⟩⟩
  have HRw := Lib.hid (fun q W (k : Inv q W) => ((HK.out _ _ k).hat.parts day).row)
  clear hd HI1 HOp2 HIs HPt HSp
  go_wp2_with (first | (go_at_call 54; refine (HDn.out _).mono ?_; rintro e w' ⟨rfl, nq, rfl⟩) | (go_at_call 53; refine (HIs1.out _).mono ?_; rintro e w' ⟨rfl, rfl⟩))
  have HInx2 := Lib.hid (HBl.out _ _ _ HInx.out (below_drewN _ nq))
  refine (HPt1.out _ HInx2.out).mono ?_
  rintro e w6 ⟨rfl, hb6⟩
  have HIn6 := Lib.hid (HBl.out _ _ _ HInx2.out hb6)
  clear hb6 HInx HInx2 HPt1 HIs1 HDn em en ew1
  generalize h.parts day = pd at *
  obtain ⟨Ap, cp, lp⟩ := pd
  unfold wdV
  dsimp only at HSp1 HLf HRw ⊢
  have hlp := HSp1.out.ln
  go_wp2_with fail
  go_loopw [16, 17, 18, 68] (fun _ _ _ i wr => ∃ (k : Nat) (q : Int), k ≤ lp.length ∧ i = .int .i64 (k : Int) ∧ Hid (Left (OpenAt h first chs) mid at_ nx2 lp k q) ∧ Hid (Inv q wr)) (fun _ _ _ i _ => lp.length - (intOf i).toNat)
  case atStart => exact ⟨0, at_, by omega, rfl, HLf, HIn6⟩
  case round =>
   obtain ⟨k, q, hk, rfl, hlf, hiq⟩ := hrel
   clear HLf HIn6
   by_cases hkl : k < lp.length
   case neg =>
    have hdone := Left.done hlf.out (by omega)
    have HIe := Lib.hid (HSk.out q nx2 _ (by have := hlf.out.lo; omega) hlf.out.hi hq2 hiq.out hdone)
    clear hdone
    go_wp2_with fail
    go_roundw
    case rel => exact ⟨nx2, rfl, by omega, hq2, HIe⟩
    case measure => simp [intOf]; omega
   obtain ⟨b, o, rfl, hb, hc⟩ := (HRw.out q wr hiq.out).open_ (flat_ne spF_len (by omega) lp (by omega))
   have y0 : wr.cell? ⟨b, o + k * 2, none⟩ = some (.int .i64 (lp.getD k sp0).a) := flat_cell spF_len sp0 hc k 0 hkl (by omega) _ rfl
   have y1 : wr.cell? ⟨b, o + k * 2 + 1, none⟩ = some (.int .i64 (lp.getD k sp0).b) := flat_cell spF_len sp0 hc k 1 hkl (by omega) _ rfl
   obtain ⟨r1, r2, r3⟩ := HSp1.out.rg k hkl
   have HTk := Lib.hid (fun he => hlf.out.take HSp1.out hkl he)
   have HSkp := Lib.hid (fun he => hlf.out.skip HSp1.out hkl he)
   have hq5 := hlf.out.lo
   have hq6 := hlf.out.hi
   generalize (lp.getD k sp0).a = sa at *
   generalize (lp.getD k sp0).b = sb at *
   have HIn4 := Lib.hid (HBl.out _ _ _ hiq.out (below_alloc1 wr (Obj.cells #[.int .i64 sa, .int .i64 sb] 34)))
   have HX4 := Lib.hid (Box.new wr 34 #[.int .i64 sa, .int .i64 sb])
   clear hc hlf
   go_upto_region 17 with fail
   clear y0 y1 hiq
   generalize wr.alloc (Obj.cells #[.int .i64 sa, .int .i64 sb] 34) = w4 at *
   generalize wr.heap.size = g4 at *
   have c0 : ∀ W, Below w4.heap.size w4 W → W.cell? ⟨g4, 0, none⟩ = some (.int .i64 sa) := fun W hW => (HX4.out.below hW).cell 0
   have c1 : ∀ W, Below w4.heap.size w4 W → W.cell? ⟨g4, 1, none⟩ = some (.int .i64 sb) := fun W hW => (HX4.out.below hW).cell 1
   have ew2 : IntKind.i64.wrap (mid + sa) = mid + sa := intFits _ (by omega) (by omega)
   have ew3 : IntKind.i64.wrap (mid + sb) = mid + sb := intFits _ (by omega) (by omega)
   refine flow_begin (tellOf []) (by kernel_rfl) (by kernel_rfl) ?_
   repeat (first | (refine flow_val (v := ?_) (by rfl) (by rfl) (fun w hb => ?_) ?_; rotate_left; (· ((go_simp) <;> ((repeat' apply And.intro) <;> with_reducible rfl))); try simp only [Act.put, List.setIfInBounds_toArray, List.set_cons_zero, List.set_cons_succ, Nat.reduceAdd]) | (refine flow_skip (by rfl) (by rfl) ?_; try simp only [Act.put, List.setIfInBounds_toArray, List.set_cons_zero, List.set_cons_succ, Nat.reduceAdd]))
   refine flow_nil fun w5 hb5 _ => ?_
   have HIn5 := Lib.hid (HBl.out _ _ _ HIn4.out hb5)
   clear hb5 c0 c1 HX4 HIn4 ew2 ew3
   have hfb : at_ ≤ max (mid + sa) at_ ∧ min (mid + sb) nx2 ≤ nx2 := by omega
   obtain ⟨fr, hfr⟩ : ∃ fr, fr = max (mid + sa) at_ := ⟨_, rfl⟩
   obtain ⟨tt, htt⟩ : ∃ tt, tt = min (mid + sb) nx2 := ⟨_, rfl⟩
   rw [← hfr, ← htt] at HTk HSkp hfb ⊢
   clear hfr htt
   by_cases he : fr < tt
   case neg =>
    have t2 : decide (fr < tt) = false := decide_eq_false he
    have HL2 := Lib.hid (HSkp.out he)
    clear he
    go_wp2_with fail
    go_roundw
    case rel => exact ⟨k + 1, q, by omega, by go_num, HL2, HIn5⟩
    case measure => simp [intOf]; omega
   have t2 : decide (fr < tt) = true := decide_eq_true he
   obtain ⟨j1, j2, j3, j4⟩ := HTk.out he
   have HL2 := Lib.hid j4
   have HInf := Lib.hid (HSk.out q fr _ (by omega) j1 (by omega) HIn5.out j2)
   have HC := Lib.hid (HCl.out fr tt _ (by omega) he (by omega) HInf.out j3)
   clear he j1 j2 j3 j4 HIn5 HTk HSkp
   go_wp2_with (go_at_fn f; refine HC.out.mono ?_; rintro e w' ⟨B, rfl, hT, hF⟩; have HT := Lib.hid hT; have HF := Lib.hid hF; clear hT hF; cases B)
   ·have HDn := Lib.hid (HF.out (by simp))
    go_end0
    exact ⟨rfl, .inr HDn.out⟩
   ·have HI2 := Lib.hid (HT.out (by simp))
    go_roundw
    case rel => exact ⟨k + 1, tt, by omega, by go_num, HL2, HI2⟩
    case measure => simp [intOf]; omega
end Go.Proofs.YtabidjmmgnkhkaaGreatDoor
/- Contracts of hours.both and Total. -/
namespace Go.Proofs.YtabidjmmgnkhkaaGreatDoor
open Go Go.RowKit
attribute [local go_sem] Oper.semAt_some
set_option linter.unusedVariables false
structure ZnIn (w : World) (B : Nat) (z : Zn) : Prop where
 row : Row w B z.A (chCells z.chs)
 nm : z.nm.size ≤ maxLen
 ln : z.chs.length ≤ maxLen
 fit : ∀ x ∈ z.chs, ChgFit x
theorem ZnIn.next {w w' : World} {B B' : Nat} {z : Zn} (h : ZnIn w B z) (hb : Below B w w') (hB : B ≤ B') : ZnIn w' B' z := ⟨(h.row.below hb).more hB, h.nm, h.ln, h.fit⟩
theorem ZnIn.z {w : World} {z : Zn} (h : ZnIn w w.heap.size z) : ZIn w z.nm z.A z.chs := ⟨h.row, h.nm, h.ln, h.fit⟩
def ZOk (z : Zn) : Prop := ZoneOk z.nm z.first z.chs
theorem zncells {w : World} {g : Nat} {z : Zn} (h : Box w g 37 #[.string z.nm, .int .i64 z.first, .slice z.A z.chs.length z.c]) : w.cell? ⟨g, 0, none⟩ = some (.string z.nm) ∧ w.cell? ⟨g, 1, none⟩ = some (.int .i64 z.first) ∧ w.cell? ⟨g, 2, none⟩ = some (.slice z.A z.chs.length z.c) := ⟨h.cell 0, h.cell 1, h.cell 2⟩
set_option maxHeartbeats 4000000 in
set_option maxRecDepth 100000 in
theorem hboth_any (h : Hr) (z : Zn) (w : World) (hv : Env w) (hin : HrIn w w.heap.size h) (zin : ZnIn w w.heap.size z) : Calls Tryz.prog 89 #[hrV h, znV z] w (IsChk (HrOk h ∧ ZOk z) w) := by
 have HCk := Lib.hid (fun W (hb : Below w.heap.size w W) => hcheck_any h W (hv.next hb) (hin.next hb hb.size))
 have HZk := Lib.hid (fun W (hb : Below w.heap.size w W) => (zin.next hb hb.size).z.check z.first z.c)
 have HN : Hid (∀ E W', ¬ (HrOk h ∧ ZOk z) → E ≠ 0 → Below w.heap.size w W' → IsChk (HrOk h ∧ ZOk z) w (.returned (.int .i64 E)) W') := fun E W' a b c => IsChk.no a b c
 have HYs : Hid (∀ W', (HrOk h ∧ ZOk z) → Below w.heap.size w W' → IsChk (HrOk h ∧ ZOk z) w (.returned (.int .i64 0)) W') := fun W' a c => IsChk.yes a c
 have HZe : Hid (ZOk z = ZoneOk z.nm z.first z.chs) := rfl
 unfold IsChk at HCk HZk
 generalize IsChk (HrOk h ∧ ZOk z) w = POST at *
 clear hv hin zin
 have HB := Lib.hid (below_alloc2 w (Obj.cells #[wdV h.w0, wdV h.w1, wdV h.w2, wdV h.w3, wdV h.w4, wdV h.w5, wdV h.w6, .slice h.A h.ex.length h.c] 32) (Obj.cells #[.string z.nm, .int .i64 z.first, .slice z.A z.chs.length z.c] 37))
 have hx2 := (Box.new w 32 #[wdV h.w0, wdV h.w1, wdV h.w2, wdV h.w3, wdV h.w4, wdV h.w5, wdV h.w6, .slice h.A h.ex.length h.c]).alloc (Obj.cells #[.string z.nm, .int .i64 z.first, .slice z.A z.chs.length z.c] 37)
 have hz2 := Box.new (w.alloc (Obj.cells #[wdV h.w0, wdV h.w1, wdV h.w2, wdV h.w3, wdV h.w4, wdV h.w5, wdV h.w6, .slice h.A h.ex.length h.c] 32)) 37 #[.string z.nm, .int .i64 z.first, .slice z.A z.chs.length z.c]
 simp only [World.size_alloc] at hx2 hz2
 have HX := Lib.hid hx2
 have HZ := Lib.hid hz2
 clear hx2 hz2
 unfold hrV znV at *
 go_enter Tryz.func89, Tryz.ntmps89
 go_upto_region 1 with fail
 generalize wdV h.w0 = v0 at *
 generalize wdV h.w1 = v1 at *
 generalize wdV h.w2 = v2 at *
 generalize wdV h.w3 = v3 at *
 generalize wdV h.w4 = v4 at *
 generalize wdV h.w5 = v5 at *
 generalize wdV h.w6 = v6 at *
 generalize (w.alloc (Obj.cells #[v0, v1, v2, v3, v4, v5, v6, .slice h.A h.ex.length h.c] 32)).alloc (Obj.cells #[.string z.nm, .int .i64 z.first, .slice z.A z.chs.length z.c] 37) = W2 at *
 obtain ⟨x0, x1, x2, x3, x4, x5, x6, x7⟩ := hrcells HX.out
 go_wp2_with fail
 refine (HCk.out W2 HB.out).mono ?_
 rintro e w3 ⟨E, rfl, hE, hb3⟩
 have HE := Lib.hid hE
 have HB3 := Lib.hid (below_then HB.out hb3)
 have HZ3 := Lib.hid (HZ.out.below hb3)
 clear hE hb3 HX HZ HB HCk x0 x1 x2 x3 x4 x5 x6 x7
 by_cases hE0 : E = 0
 case neg =>
  have t1 : (E != 0) = true := by rw [bne_iff_ne]; exact hE0
  have HE0 := Lib.hid hE0
  clear hE0
  go_wp2_with fail
  exact HN.out E _ (fun q => HE0.out (HE.out.2 q.1)) HE0.out HB3.out
 subst hE0
 have HQ1 := Lib.hid (HE.out.1 rfl)
 obtain ⟨z0, z1, z2⟩ := zncells HZ3.out
 have HZ4 := Lib.hid (HZk.out w3 HB3.out)
 clear HE HZk
 go_wp2_with fail
 refine HZ4.out.mono ?_
 rintro e w4 ⟨E, rfl, hE, hb4⟩
 have HE := Lib.hid hE
 have HB4 := Lib.hid (below_then HB3.out hb4)
 clear hE hb4 HZ4 HZ3 HB3 z0 z1 z2
 go_wp2_with fail
 by_cases hE0 : E = 0
 ·subst hE0
  exact HYs.out _ ⟨HQ1.out, by rw [HZe.out]; exact HE.out.1 rfl⟩ HB4.out
 ·exact HN.out E _ (fun q => hE0 (HE.out.2 (by rw [← HZe.out]; exact q.2))) hE0 HB4.out
end Go.Proofs.YtabidjmmgnkhkaaGreatDoor
/- Contract of hours.Total. -/
namespace Go.Proofs.YtabidjmmgnkhkaaGreatDoor
open Go Go.RowKit
attribute [local go_sem] Oper.semAt_some
set_option linter.unusedVariables false
set_option maxHeartbeats 1000000 in
set_option maxRecDepth 100000 in
theorem total1_any (gt : Nat) (n a b : Int) (w : World) (hx : Box w gt 3 #[.int .i64 n]) (hn : 0 ≤ n ∧ n ≤ 4000000000) (hab : a < b) (hb : b - a ≤ 4000000000) (h1 : -346000000000000 ≤ a) (h2 : b ≤ 346000000000000) :
  Calls Tryz.prog 93 #[.int .i64 a, .int .i64 b, .pointer (some ⟨gt, 0, none⟩)] w fun e w' => e = .returned (.bool true) ∧ w' = w.setCell ⟨gt, 0, none⟩ (.int .i64 (n + (b - a))) := by
 have x0 : w.cell? ⟨gt, 0, none⟩ = some (.int .i64 n) := hx.cell 0
 have xf : w.frozen? ⟨gt, 0, none⟩ = false := hx.free 0
 have xl := hx.lt
 have ew1 : IntKind.i64.wrap (b - a) = b - a := intFits _ (by omega) (by omega)
 have ew2 : IntKind.i64.wrap (n + (b - a)) = n + (b - a) := intFits _ (by omega) (by omega)
 obtain ⟨hn1, hn2⟩ := hn
 clear hx
 go_enter Tryz.func93, Tryz.ntmps93
 go_wp2_with fail
 go_ret
 exact ⟨rfl, rfl⟩
structure TotI (w : World) (p : Nat → Prop) (g gt : Nat) (h : Hr) (z : Zn) (At : Option Addr) (ct : Nat) (Ts : List ST) (a q : Int) (W : World) : Prop where
 bk : BkAt W p g h z At ct Ts
 box : Box W gt 3 #[.int .i64 (cntW (OpenAt h z.first z.chs) a (q - a).toNat : Int)]
 bel : Below w.heap.size w W
set_option maxRecDepth 100000 in
theorem total_str (w : World) (g gt : Nat) (h : Hr) (z : Zn) (At : Option Addr) (ct : Nat) (Ts : List ST) (a b : Int) (hgt : w.heap.size ≤ gt) (hab : b - a ≤ 3456000000) (h1 : -346000000000000 ≤ a) (h2 : b ≤ 346000000000000) :
  StrH (fun x => x ≠ gt) g h z At ct Ts a b 93 #[.pointer (some ⟨gt, 0, none⟩)] (fun q W => TotI w (fun x => x ≠ gt) g gt h z At ct Ts a q W) (fun _ => False) where
 keep := fun q W k => k.bk
 skip := fun x y W hx hxy hy k hn => ⟨k.bk, by
  have e : (y - a).toNat = (x - a).toNat + (y - x).toNat := by omega
  rw [e, cntW_add, cntW_none (a := a + ((x - a).toNat : Int)) (y - x).toNat fun t q1 q2 => hn t (by omega) (by omega), Nat.add_zero]
  exact k.box, k.bel⟩
 bel := fun q W W' k hb => ⟨k.bk.next hb, k.box.below hb, below_then k.bel hb⟩
 call := fun x y W hx hxy hy k hp => by
  have hc := cntW_le (OpenAt h z.first z.chs) a (x - a).toNat
  refine (total1_any gt _ x y W k.box ⟨by omega, by omega⟩ hxy (by omega) (by omega) (by omega)).mono ?_
  rintro e w' ⟨rfl, rfl⟩
  refine ⟨true, rfl, fun _ => ⟨?_, ?_, ?_⟩, fun h => by cases h⟩
  ·exact k.bk.keep (fun b hb hl => ⟨Below.heap_setCell _ _ _ b hb, hb⟩) (by simp)
  ·have e : (y - a).toNat = (x - a).toNat + (y - x).toNat := by omega
   rw [e, cntW_add, cntW_all (a := a + ((x - a).toNat : Int)) (y - x).toNat fun t q1 q2 => hp t (by omega) (by omega)]
   have := k.box.set_ 0 (.int .i64 ((cntW (OpenAt h z.first z.chs) a (x - a).toNat : Int) + (y - x)))
   rw [show (((cntW (OpenAt h z.first z.chs) a (x - a).toNat + (y - x).toNat : Nat) : Int)) = (cntW (OpenAt h z.first z.chs) a (x - a).toNat : Int) + (y - x) from by omega]
   exact this
  ·exact k.bel.setCell (p := ⟨gt, 0, none⟩) hgt _
 eg := fun _ _ => rfl
def locD (z : Zn) (t : Int) : Int := (t + offAt z.first z.chs t) / 86400000
def locM (z : Zn) (t : Int) : Int := (t + offAt z.first z.chs t) % 86400000
theorem zlocal_in (z : Zn) (t : Int) (w : World) (hz : ZnIn w w.heap.size z) (hok : ZOk z) (h1 : -300000000000000 ≤ t) (h2 : t ≤ 300000000000000) :
  Calls Tryz.prog 90 #[.agg #[.string z.nm, .int .i64 z.first, .slice z.A z.chs.length z.c], .int .i64 t] w fun e w' => e = .returned (.tuple #[.int .i64 (locD z t), .int .i64 (locM z t), .int .i64 0]) ∧ Below w.heap.size w w' := by
 have ho := off_in hok (seg z.chs t) (seg_le z.chs t)
 change -64800000 ≤ offAt z.first z.chs t ∧ offAt z.first z.chs t ≤ 64800000 ∧ offAt z.first z.chs t % 1000 = 0 at ho
 refine (zlocal_yes z.nm z.first z.A z.c z.chs t w hz.z hok ⟨by omega, by omega⟩).mono ?_
 rintro e w' ⟨rfl, hb⟩
 refine ⟨?_, hb⟩
 unfold splitV
 rw [if_pos ⟨by omega, by omega⟩]
 rfl
def TotQ (h : Hr) (z : Zn) (a b : Int) (w : World) (e : Ending) (w' : World) : Prop := ∃ n E : Int, e = .returned (.tuple #[.int .i64 n, .int .i64 E]) ∧ (E = 0 ↔ HrOk h ∧ ZOk z) ∧ (E = 0 → n = (cntW (OpenAt h z.first z.chs) a (b - a).toNat : Int)) ∧ (E ≠ 0 → n = 0) ∧ Below w.heap.size w w'
set_option maxHeartbeats 400000 in
set_option maxRecDepth 2000 in
theorem run_two (a b : Int) (W : World) : (Instr.index 157 (.agg #[.int .i64 a, .int .i64 b]) (.int .i64 0)).run Tryz.prog W = .ok (.int .i64 a) W ∧ (Instr.index 157 (.agg #[.int .i64 a, .int .i64 b]) (.int .i64 1)).run Tryz.prog W = .ok (.int .i64 b) W := by
 constructor <;> simp [Instr.index, run_underlying Tryz.underlying157, asIntOf, go_sem]
set_option maxHeartbeats 8000000 in
set_option maxRecDepth 100000 in
theorem htotal_any (h : Hr) (z : Zn) (a b : Int) (w : World) (hv : Env w) (hin : HrIn w w.heap.size h) (zin : ZnIn w w.heap.size z) (hab : a ≤ b) (hab2 : b - a ≤ 3456000000) (h1 : -300000000000000 ≤ a) (h2 : b ≤ 300000000000000) :
  Calls Tryz.prog 55 #[hrV h, znV z, .int .i64 a, .int .i64 b] w (TotQ h z a b w) := by
 have HBo := Lib.hid (fun W (hb : Below w.heap.size w W) => hboth_any h z W (hv.next hb) (hin.next hb hb.size) (zin.next hb hb.size))
 have HLo := Lib.hid (fun (zok : ZOk z) t W (hb : Below w.heap.size w W) q1 q2 => zlocal_in z t W (zin.next hb hb.size) zok q1 q2)
 have HOp := Lib.hid (fun (ok : HrOk h) gt W (hb : Below w.heap.size w W) (hg1 : w.heap.size ≤ gt) (hg2 : gt < W.heap.size) => hopen_any h z ok W (hv.next hb) (hin.next hb hb.size) (fun x => x ≠ gt) (fun b hb2 => by omega) ((hin.at_ (Nat.le_refl _)).keep (fun b hl _ => ⟨hb.block b hl, by omega⟩) hb.size) ((zin.row.allAt (Nat.le_refl _)).keep (fun b hl _ => ⟨hb.block b hl, by omega⟩) hb.size))
 have HSt := Lib.hid (fun (ok : HrOk h) (zok : ZOk z) g gt At ct Ts W (hg : w.heap.size ≤ gt) (k : TotI w (fun x => x ≠ gt) g gt h z At ct Ts a a W) => stretches_any (fun x => x ≠ gt) g h z At ct Ts a b 93 #[.pointer (some ⟨gt, 0, none⟩)] (fun q W => TotI w (fun x => x ≠ gt) g gt h z At ct Ts a q W) (fun _ => False) (total_str w g gt h z At ct Ts a b hg hab2 (by omega) (by omega)) ok zok (by omega) hab (by omega) W k)
 have hI := fun W => run_two a b W
 have hI0 := fun W => (hI W).1
 have hI1 := fun W => (hI W).2
 unfold HOpenQ at HOp
 unfold StrQ at HSt
 unfold IsChk at HBo
 have HQ : Hid (∀ n E w', (E = 0 ↔ HrOk h ∧ ZOk z) → (E = 0 → n = (cntW (OpenAt h z.first z.chs) a (b - a).toNat : Int)) → (E ≠ 0 → n = 0) → Below w.heap.size w w' → TotQ h z a b w (.returned (.tuple #[.int .i64 n, .int .i64 E])) w') := fun n E w' a b c d => ⟨n, E, rfl, a, b, c, d⟩
 generalize TotQ h z a b w = POST at *
 have HZv : Hid (znV z = .agg #[.string z.nm, .int .i64 z.first, .slice z.A z.chs.length z.c]) := rfl
 clear hv hin zin hI
 have HB := Lib.hid (below_alloc2 w (Obj.cells #[wdV h.w0, wdV h.w1, wdV h.w2, wdV h.w3, wdV h.w4, wdV h.w5, wdV h.w6, .slice h.A h.ex.length h.c] 32) (Obj.cells #[.string z.nm, .int .i64 z.first, .slice z.A z.chs.length z.c] 37))
 have hx2 := (Box.new w 32 #[wdV h.w0, wdV h.w1, wdV h.w2, wdV h.w3, wdV h.w4, wdV h.w5, wdV h.w6, .slice h.A h.ex.length h.c]).alloc (Obj.cells #[.string z.nm, .int .i64 z.first, .slice z.A z.chs.length z.c] 37)
 have hz2 := Box.new (w.alloc (Obj.cells #[wdV h.w0, wdV h.w1, wdV h.w2, wdV h.w3, wdV h.w4, wdV h.w5, wdV h.w6, .slice h.A h.ex.length h.c] 32)) 37 #[.string z.nm, .int .i64 z.first, .slice z.A z.chs.length z.c]
 simp only [World.size_alloc] at hx2 hz2
 have HX := Lib.hid hx2
 have HZ := Lib.hid hz2
 clear hx2 hz2
 rw [HZv.out] at HBo HOp ⊢
 unfold hrV at *
 go_enter Tryz.func55, Tryz.ntmps55
 go_upto_region 1 with fail
 generalize wdV h.w0 = v0 at *
 generalize wdV h.w1 = v1 at *
 generalize wdV h.w2 = v2 at *
 generalize wdV h.w3 = v3 at *
 generalize wdV h.w4 = v4 at *
 generalize wdV h.w5 = v5 at *
 generalize wdV h.w6 = v6 at *
 generalize (w.alloc (Obj.cells #[v0, v1, v2, v3, v4, v5, v6, .slice h.A h.ex.length h.c] 32)).alloc (Obj.cells #[.string z.nm, .int .i64 z.first, .slice z.A z.chs.length z.c] 37) = W2 at *
 obtain ⟨g0, hg0⟩ : ∃ g0, g0 = w.heap.size := ⟨_, rfl⟩
 have HG0 := Lib.hid hg0
 rw [← hg0] at HX HZ ⊢
 clear hg0
 obtain ⟨x0, x1, x2, x3, x4, x5, x6, x7⟩ := hrcells HX.out
 obtain ⟨z0, z1, z2⟩ := zncells HZ.out
 go_wp2_with fail
 refine (HBo.out W2 HB.out).mono ?_
 rintro e w3 ⟨E, rfl, hE, hb3⟩
 have HE := Lib.hid hE
 have HB3 := Lib.hid (below_then HB.out hb3)
 have HX3 := Lib.hid (HX.out.below hb3)
 have HZ3 := Lib.hid (HZ.out.below hb3)
 clear hE hb3 HX HZ HB HBo x0 x1 x2 x3 x4 x5 x6 x7 z0 z1 z2
 by_cases hE0 : E = 0
 case neg =>
  have t1 : (E != 0) = true := by rw [bne_iff_ne]; exact hE0
  have HE0 := Lib.hid hE0
  clear hE0
  go_wp2_with fail
  exact HQ.out 0 E _ HE.out (fun q => absurd q HE0.out) (fun _ => rfl) HB3.out
 subst hE0
 have HOk := Lib.hid (HE.out.1 rfl)
 have t2 : decide (b < a) = false := decide_eq_false (by omega)
 have t3 : decide (3456000000 < b - a) = false := decide_eq_false (by omega)
 have ew1 : IntKind.i64.wrap (b - a) = b - a := intFits _ (by omega) (by omega)
 have HIa := Lib.hid (fun W => isInstant_yes a W ⟨by omega, by omega⟩)
 have HIb := Lib.hid (fun W => isInstant_yes b W ⟨by omega, by omega⟩)
 go_upto_region 10 with (go_at_call 27; first | (with_reducible refine (HIa.out _).mono ?_; rintro e w' ⟨rfl, nq, rfl⟩) | (with_reducible refine (HIb.out _).mono ?_; rintro e w' ⟨rfl, nq, rfl⟩))
 generalize hw4 : World.drewN _ _ = w4
 have HB4 : Hid (Below w.heap.size w w4) := by rw [← hw4]; exact below_then HB3.out (below_drewN _ _)
 have HX4 : Hid (Box w4 g0 32 #[v0, v1, v2, v3, v4, v5, v6, .slice h.A h.ex.length h.c]) := by rw [← hw4]; exact HX3.out.drewN _
 have HZ4 : Hid (Box w4 (g0 + 1) 37 #[.string z.nm, .int .i64 z.first, .slice z.A z.chs.length z.c]) := by rw [← hw4]; exact HZ3.out.drewN _
 clear hw4 HB3 HX3 HZ3 HIa HIb t2 t3 ew1
 go_wp2_with fail
 go_loopw [12, 13, 14, 15, 44] (fun _ _ _ _ i wr => ∃ k : Int, (k = 0 ∨ k = 1 ∨ k = 2) ∧ i = .int .i64 k ∧ Hid (Box wr g0 32 #[v0, v1, v2, v3, v4, v5, v6, .slice h.A h.ex.length h.c]) ∧ Hid (Box wr (g0 + 1) 37 #[.string z.nm, .int .i64 z.first, .slice z.A z.chs.length z.c]) ∧ Hid (Below w.heap.size w wr)) (fun _ _ _ _ i _ => (2 - intOf i).toNat)
 case atStart => exact ⟨0, .inl rfl, rfl, HX4, HZ4, HB4⟩
 case round =>
  obtain ⟨k, hk, rfl, hx, hz, hb⟩ := hrel
  clear HX4 HZ4 HB4
  obtain ⟨z0, z1, z2⟩ := zncells hz.out
  rcases hk with rfl | rfl | rfl
  ·have HL := Lib.hid (HLo.out HOk.out.2 a wr hb.out (by omega) (by omega))
   generalize locD z a = ld at *
   generalize locM z a = lm at *
   go_wp2_with fail
   refine HL.out.mono ?_
   rintro e w5 ⟨rfl, hb5⟩
   have HB5 := Lib.hid (below_then hb.out hb5)
   have HX5 := Lib.hid (hx.out.below hb5)
   have HZ5 := Lib.hid (hz.out.below hb5)
   clear hb5 HL hb hx hz z0 z1 z2
   go_wp2_with fail
   go_roundw
   case rel => exact ⟨1, .inr (.inl rfl), by go_num, HX5, HZ5, HB5⟩
   case measure => simp [intOf]
  ·have HL := Lib.hid (HLo.out HOk.out.2 b wr hb.out (by omega) (by omega))
   generalize locD z b = ld at *
   generalize locM z b = lm at *
   go_wp2_with fail
   refine HL.out.mono ?_
   rintro e w5 ⟨rfl, hb5⟩
   have HB5 := Lib.hid (below_then hb.out hb5)
   have HX5 := Lib.hid (hx.out.below hb5)
   have HZ5 := Lib.hid (hz.out.below hb5)
   clear hb5 HL hb hx hz z0 z1 z2
   go_wp2_with fail
   go_roundw
   case rel => exact ⟨2, .inr (.inr rfl), by go_num, HX5, HZ5, HB5⟩
   case measure => simp [intOf]
  obtain ⟨gt, hgt⟩ : ∃ gt, gt = wr.heap.size := ⟨_, rfl⟩
  have hwg : w.heap.size ≤ gt := by have := hb.out.size; omega
  have HB5 := Lib.hid (below_then hb.out (below_alloc1 wr (Obj.cells #[.int .i64 0] 3)))
  have hT5 := Box.new wr 3 #[.int .i64 0]
  rw [← hgt] at hT5
  have HT5 := Lib.hid hT5
  have HX5 := Lib.hid (hx.out.alloc (Obj.cells #[.int .i64 0] 3))
  have HZ5 := Lib.hid (hz.out.alloc (Obj.cells #[.int .i64 0] 3))
  clear hT5 hb hx hz z0 z1 z2 hI0 hI1
  go_upto_region 18 with fail
  rw [← hgt]
  generalize wr.alloc (Obj.cells #[.int .i64 0] 3) = w5 at *
  clear hgt
  obtain ⟨x0, x1, x2, x3, x4, x5, x6, x7⟩ := hrcells HX5.out
  obtain ⟨z0, z1, z2⟩ := zncells HZ5.out
  have HO5 := Lib.hid (HOp.out HOk.out.1 gt w5 HB5.out hwg HT5.out.lt)
  clear HOp HX5 HZ5
  go_wp2_with fail
  refine HO5.out.mono ?_
  rintro e w6 ⟨g, At, ct, Ts, rfl, hg, hbk, hb6⟩
  have HT6 := Lib.hid (HT5.out.below hb6)
  have HB6 := Lib.hid (below_then HB5.out hb6)
  have HS6 := Lib.hid (HSt.out HOk.out.1 HOk.out.2 g gt At ct Ts w6 hwg ⟨hbk, by rw [Int.sub_self]; exact HT6.out, HB6.out⟩)
  clear hbk hb6 HO5 HSt hg HT5 HB5 x0 x1 x2 x3 x4 x5 x6 x7 z0 z1 z2
  go_wp2_with fail
  refine HS6.out.mono ?_
  rintro e w7 ⟨rfl, hi⟩
  have HI := Lib.hid (hi.resolve_right id)
  have t0 : w7.cell? ⟨gt, 0, none⟩ = some (.int .i64 (cntW (OpenAt h z.first z.chs) a (b - a).toNat : Int)) := HI.out.box.cell 0
  have hgl := HI.out.box.lt
  clear hi HS6 HT6 HB6
  have HQ1 := Lib.hid (fun n (hn : n = (cntW (OpenAt h z.first z.chs) a (b - a).toNat : Int)) => HQ.out n 0 w7 ⟨fun _ => HOk.out, fun _ => rfl⟩ (fun _ => hn) (fun q => absurd rfl q) HI.out.bel)
  have HI2 := Lib.hid HI.out
  clear HI HQ HLo HE
  generalize cntW (OpenAt h z.first z.chs) a (b - a).toNat = N at *
  go_wp2_with fail
  exact HQ1.out _ rfl
end Go.Proofs.YtabidjmmgnkhkaaGreatDoor
/- Contracts of hours.Open and Next. -/
namespace Go.Proofs.YtabidjmmgnkhkaaGreatDoor
open Go Go.RowKit
attribute [local go_sem] Oper.semAt_some
set_option linter.unusedVariables false
structure NxtI (w : World) (p : Nat → Prop) (g go gi : Nat) (h : Hr) (z : Zn) (At : Option Addr) (ct : Nat) (Ts : List ST) (a q : Int) (W : World) : Prop where
 bk : BkAt W p g h z At ct Ts
 bo : Box W go 3 #[.int .i64 0]
 bi : Box W gi 4 #[.bool false]
 bel : Below w.heap.size w W
 no : ∀ t, a ≤ t → t < q → ¬ OpenAt h z.first z.chs t
def FirstO (h : Hr) (z : Zn) (a high t : Int) : Prop := a ≤ t ∧ t < high ∧ OpenAt h z.first z.chs t ∧ ∀ u, a ≤ u → u < t → ¬ OpenAt h z.first z.chs u
structure NxtD (w : World) (go gi : Nat) (h : Hr) (z : Zn) (a high t : Int) (W : World) : Prop where
 bo : Box W go 3 #[.int .i64 t]
 bi : Box W gi 4 #[.bool true]
 bel : Below w.heap.size w W
 fo : FirstO h z a high t
end Go.Proofs.YtabidjmmgnkhkaaGreatDoor
/- Contract of hours.Next. -/
namespace Go.Proofs.YtabidjmmgnkhkaaGreatDoor
open Go Go.RowKit
attribute [local go_sem] Oper.semAt_some
set_option linter.unusedVariables false
end Go.Proofs.YtabidjmmgnkhkaaGreatDoor
/- The constants of the laws on opening hours: a zone without changes, hours on one weekday, hours on all. -/
namespace Go.Proofs.YtabidjmmgnkhkaaGreatDoor
open Go Go.RowKit
set_option linter.unusedVariables false
def znA : Zn := ⟨⟨#[97]⟩, 0, none, 0, []⟩
theorem znA_in (w : World) (B : Nat) : ZnIn w B znA := ⟨.inl rfl, by decide, by decide, fun x hx => by cases hx⟩
theorem znA_ok : ZOk znA := ⟨nameB_ok ⟨#[97]⟩ (by decide), by show OffOk 0; unfold OffOk; decide, by decide, fun i hi => by exact absurd hi (Nat.not_lt_zero i)⟩
theorem znA_off (t : Int) : offAt 0 [] t = 0 := rfl
def oneHr (A : Option Addr) (s : Sp) : Hr := ⟨⟨A, 1, [s]⟩, wd0, wd0, wd0, wd0, wd0, wd0, none, 0, []⟩
def SpOk1 (s : Sp) : Prop := 0 ≤ s.a ∧ s.a < s.b ∧ s.b ≤ 86400000
theorem spans1 {s : Sp} (h : SpOk1 s) : SpansOk [s] := ⟨by simp, fun i hi => by
 have : i < 1 := hi
 obtain rfl : i = 0 := by omega
 exact h, fun i h0 hi => by have : i < 1 := hi; omega⟩
theorem spans0 : SpansOk [] := ⟨by simp, fun i hi => absurd hi (Nat.not_lt_zero i), fun i h0 hi => absurd hi (Nat.not_lt_zero i)⟩
theorem wd0_in (w : World) (B : Nat) : WdIn w B wd0 := ⟨.inl rfl, by decide, fun s hs => by cases hs⟩
theorem wd1_in {w : World} {g : Nat} {s : Sp} (hs : SpOk1 s) (hx : Box w g 34 #[.int .i64 s.a, .int .i64 s.b]) : WdIn w w.heap.size ⟨some ⟨g, 0, none⟩, 1, [s]⟩ :=
 ⟨by have := Row.of_box hx; simpa [spF] using this, by show 1 ≤ maxLen; decide, fun x h => by
  obtain rfl : x = s := by simpa using h
  obtain ⟨h1, h2, h3⟩ := hs
  unfold I64
  constructor <;> constructor <;> omega⟩
theorem one_ok (A : Option Addr) {s : Sp} (h : SpOk1 s) : HrOk (oneHr A s) := ⟨fun i hi => by
 match i, hi with
 | 0, _ => exact spans1 h
 | 1, _ => exact spans0
 | 2, _ => exact spans0
 | 3, _ => exact spans0
 | 4, _ => exact spans0
 | 5, _ => exact spans0
 | 6, _ => exact spans0, by simp [oneHr], fun i hi => absurd hi (Nat.not_lt_zero i)⟩
theorem one_in {w : World} {g : Nat} {s : Sp} (hs : SpOk1 s) (hx : Box w g 34 #[.int .i64 s.a, .int .i64 s.b]) : HrIn w w.heap.size (oneHr (some ⟨g, 0, none⟩) s) := ⟨fun i hi => by
 match i, hi with
 | 0, _ => exact wd1_in hs hx
 | 1, _ => exact wd0_in _ _
 | 2, _ => exact wd0_in _ _
 | 3, _ => exact wd0_in _ _
 | 4, _ => exact wd0_in _ _
 | 5, _ => exact wd0_in _ _
 | 6, _ => exact wd0_in _ _, .inl rfl, Nat.zero_le _, fun i hi => absurd hi (Nat.not_lt_zero i)⟩
theorem insp1 (s : Sp) (m : Int) : InSp [s] m ↔ s.a ≤ m ∧ m < s.b := ⟨fun ⟨i, hi, h⟩ => by
 have : i < 1 := hi
 obtain rfl : i = 0 := by omega
 exact h, fun h => ⟨0, by simp, h⟩⟩
theorem one_open (A : Option Addr) (s : Sp) (t : Int) : OpenAt (oneHr A s) 0 [] t ↔ DayIn (t / 86400000) ∧ (t / 86400000 - 1) % 7 = 0 ∧ s.a ≤ t % 86400000 ∧ t % 86400000 < s.b := by
 unfold OpenAt
 rw [znA_off, Int.add_zero, parts_wk (h := oneHr A s) (fun i hi => absurd hi (Nat.not_lt_zero i))]
 generalize t / 86400000 = d
 generalize t % 86400000 = m
 obtain ⟨k, hk⟩ : ∃ k : Nat, (d - 1) % 7 = (k : Int) := ⟨((d - 1) % 7).toNat, by omega⟩
 have hk7 : k < 7 := by omega
 rw [hk, Int.toNat_natCast]
 have hno : ∀ m, ¬ InSp [] m := fun m ⟨i, hi, _⟩ => by cases hi
 match k, hk7 with
 | 0, _ => exact ⟨fun h => ⟨h.1, rfl, (insp1 s m).1 h.2⟩, fun h => ⟨h.1, (insp1 s m).2 h.2.2⟩⟩
 | 1, _ | 2, _ | 3, _ | 4, _ | 5, _ | 6, _ => exact ⟨fun h => absurd h.2 (hno m), fun h => by have := h.2.1; omega⟩
end Go.Proofs.YtabidjmmgnkhkaaGreatDoor
/- Parties of a meeting: plain, in memory, come in as an argument. -/
namespace Go.Proofs.YtabidjmmgnkhkaaGreatDoor
open Go.RowKit Go.Joins Go.ChangeShapes Go.WideShapes Go.Deep
set_option linter.unusedVariables false
structure Pa where
 nm : ByteArray
 z : Zn
 h : Hr
 wt : Int
def znL (z : Zn) : List Value := [.string z.nm, .int .i64 z.first, .slice z.A z.chs.length z.c]
def pa0 : Pa := ⟨⟨#[]⟩, ⟨⟨#[]⟩, 0, none, 0, []⟩, ⟨wd0, wd0, wd0, wd0, wd0, wd0, wd0, none, 0, []⟩, 0⟩
def paF (x : Pa) : List Value := [.string x.nm, .string x.z.nm, .int .i64 x.z.first, .slice x.z.A x.z.chs.length x.z.c, wdV x.h.w0, wdV x.h.w1, wdV x.h.w2, wdV x.h.w3, wdV x.h.w4, wdV x.h.w5, wdV x.h.w6, .slice x.h.A x.h.ex.length x.h.c, .int .i64 x.wt]
theorem paF_len (x : Pa) : (paF x).length = 13 := rfl
structure PaIn (w : World) (B : Nat) (x : Pa) : Prop where
 nm : x.nm.size ≤ maxLen
 z : ZnIn w B x.z
 h : HrIn w B x.h
 wt : I64 x.wt
theorem PaIn.next {w w' : World} {B B' : Nat} {x : Pa} (h : PaIn w B x) (hb : Below B w w') (hB : B ≤ B') : PaIn w' B' x := ⟨h.nm, h.z.next hb hB, h.h.next hb hB, h.wt⟩
structure PasIn (w : World) (B : Nat) (A : Option Addr) (l : List Pa) : Prop where
 row : Row w B A (l.flatMap paF)
 ln : l.length ≤ maxLen
 pa : ∀ i, i < l.length → PaIn w B (l.getD i pa0)
theorem PasIn.next {w w' : World} {B B' : Nat} {A : Option Addr} {l : List Pa} (h : PasIn w B A l) (hb : Below B w w') (hB : B ≤ B') : PasIn w' B' A l := ⟨(h.row.below hb).more hB, h.ln, fun i hi => (h.pa i hi).next hb hB⟩
structure PaOk (l : List Pa) (i : Nat) : Prop where
 nm : NameOk (l.getD i pa0).nm
 one : (l.take i).any (fun x => x.nm.toList == (l.getD i pa0).nm.toList) = false
 z : ZOk (l.getD i pa0).z
 h : HrOk (l.getD i pa0).h
 wt : 1 ≤ (l.getD i pa0).wt ∧ (l.getD i pa0).wt ≤ 1000
def PasOk (l : List Pa) : Prop := (1 ≤ l.length ∧ l.length ≤ 8) ∧ ∀ i, i < l.length → PaOk l i
theorem getD_pa {l : List Pa} {i : Nat} (h : i < l.length) : l.getD i pa0 ∈ l := by
 rw [List.getD_eq_getElem?_getD, List.getElem?_eq_getElem h]
 exact List.getElem_mem h
def Attend (x : Pa) (a b : Int) : Prop := cntW (OpenAt x.h x.z.first x.z.chs) a (b - a).toNat = (b - a).toNat
open Classical in
noncomputable def scoreF (l : List Pa) (a b : Int) : Int := match l with | [] => 0 | x :: r => (if Attend x a b then x.wt else 0) + scoreF r a b
section
variable {H : Type} {enc : TypeId × Value → H} {W : World}
set_option maxRecDepth 100000 in
theorem zn_trod {n : Nat} {cs : List Value} {y : DataW H × List MemPlace} (h : DataW.trod enc Tryz.prog W 0 (fun _ => true) true n 37 cs = some y) : ∃ z : Zn, cs = znL z ∧ ZnIn W W.heap.size z := by
 obtain ⟨xs, m, _, _, hlen, hxl, hf⟩ := DataW.trod_struct Tryz.underlying37 h
 have hC : Tryz.prog.cellsOf 37 = 3 := by kernel_rfl
 rw [hC] at hlen
 have e0 : Tryz.prog.cellsOf 9 = 1 := by kernel_rfl
 have e1 : Tryz.prog.cellsOf 3 = 1 := by kernel_rfl
 have e2 : Tryz.prog.cellsOf 35 = 1 := by kernel_rfl
 match cs, hlen with
 | [c0, c1, c2], _ =>
  have h0 := hf 0 _ rfl
  have h1 := hf 1 _ rfl
  have h2 := hf 2 _ rfl
  match xs, hxl with
  | [x0, x1, x2], _ =>
   simp [e0, e1, e2] at h0 h1 h2
   obtain ⟨nm, q0, _, wn⟩ := DataW.trod_string Tryz.underlying9 h0
   obtain ⟨first, q1, _, _⟩ := DataW.trod_int Tryz.underlying3 h1
   obtain ⟨A, chs, c, q2, hrow, hl, hfit⟩ := chgs_of_trod h2
   simp at q0 q1
   subst q0 q1 q2
   exact ⟨⟨nm, first, A, c, chs⟩, rfl, hrow, wn, hl, hfit⟩
set_option maxRecDepth 100000 in
theorem pa_trod {n : Nat} {cs : List Value} {y : DataW H × List MemPlace} (h : DataW.trod enc Tryz.prog W 0 (fun _ => true) true n 39 cs = some y) : ∃ x : Pa, cs = paF x ∧ PaIn W W.heap.size x := by
 obtain ⟨xs, m, _, _, hlen, hxl, hf⟩ := DataW.trod_struct Tryz.underlying39 h
 have hC : Tryz.prog.cellsOf 39 = 13 := by kernel_rfl
 rw [hC] at hlen
 have e0 : Tryz.prog.cellsOf 9 = 1 := by kernel_rfl
 have e1 : Tryz.prog.cellsOf 37 = 3 := by kernel_rfl
 have e2 : Tryz.prog.cellsOf 32 = 8 := by kernel_rfl
 have e3 : Tryz.prog.cellsOf 3 = 1 := by kernel_rfl
 match cs, hlen with
 | [c0, c1, c2, c3, c4, c5, c6, c7, c8, c9, c10, c11, c12], _ =>
  have h0 := hf 0 _ rfl
  have h1 := hf 1 _ rfl
  have h2 := hf 2 _ rfl
  have h3 := hf 3 _ rfl
  match xs, hxl with
  | [x0, x1, x2, x3], _ =>
   simp [e0, e1, e2, e3] at h0 h1 h2 h3
   obtain ⟨nm, en, _, wn⟩ := DataW.trod_string Tryz.underlying9 h0
   obtain ⟨z, ez, hz⟩ := zn_trod h1
   obtain ⟨hh, eh, hhr⟩ := hr_trod h2
   obtain ⟨k, ek, _, wk⟩ := DataW.trod_int Tryz.underlying3 h3
   simp at en ek
   subst en ek
   simp only [znL, hrL, List.cons.injEq, and_true] at ez eh
   obtain ⟨rfl, rfl, rfl⟩ := ez
   obtain ⟨rfl, rfl, rfl, rfl, rfl, rfl, rfl, rfl⟩ := eh
   exact ⟨⟨nm, z, hh, k⟩, rfl, wn, hz, hhr, bounds_i64 wk⟩
set_option maxRecDepth 100000 in
theorem pas_open {base : Nat} {v : Value} {d : DataW H} {p : List MemPlace} (hv : Value.okWide Tryz.prog W .any base 22 v) (h : DataW.Trod enc Tryz.prog W 0 (fun _ => true) true 22 v d p) :
  ∃ (A : Option Addr) (l : List Pa) (c : Nat), v = .slice A l.length c ∧ l.length ≤ c ∧ c ≤ maxLen ∧ PasIn W W.heap.size A l := by
 obtain ⟨a0, len, cap, rfl⟩ := okWide_slice Tryz.underlying22 hv
 obtain ⟨m, hm⟩ := h
 obtain ⟨A, xs, c, e, k1, k2, row, fit⟩ := list_trod pa0 paF_len (by omega) (Fit := fun x => PaIn W W.heap.size x) Tryz.underlying22 (show Tryz.prog.cellsOf 39 = 13 by kernel_rfl) (fun n cs y hy => pa_trod hy) (v := .slice a0 len cap) hm
 exact ⟨A, xs, c, e, k1, k2, row, by omega, fun i hi => fit _ (getD_pa hi)⟩
end
end Go.Proofs.YtabidjmmgnkhkaaGreatDoor
/- Contract of plan.Check. -/
namespace Go.Proofs.YtabidjmmgnkhkaaGreatDoor
open Go Go.RowKit
attribute [local go_sem] Oper.semAt_some
set_option linter.unusedVariables false
def paC (x : Pa) : Array Value := #[.string x.nm, .string x.z.nm, .int .i64 x.z.first, .slice x.z.A x.z.chs.length x.z.c, wdV x.h.w0, wdV x.h.w1, wdV x.h.w2, wdV x.h.w3, wdV x.h.w4, wdV x.h.w5, wdV x.h.w6, .slice x.h.A x.h.ex.length x.h.c, .int .i64 x.wt]
def paV (x : Pa) : Value := .agg #[.string x.nm, .string x.z.nm, .int .i64 x.z.first, .slice x.z.A x.z.chs.length x.z.c, wdV x.h.w0, wdV x.h.w1, wdV x.h.w2, wdV x.h.w3, wdV x.h.w4, wdV x.h.w5, wdV x.h.w6, .slice x.h.A x.h.ex.length x.h.c, .int .i64 x.wt]
set_option maxHeartbeats 1000000 in
set_option maxRecDepth 100000 in
theorem indexFunc_pas (g : Nat) (cb : Array Value) (p : Pa → Bool) (S : World → Prop) (A : Option Addr) (c : Nat) (l : List Pa) (w : World) (hS : S w) (hl : l.length ≤ 1000000) (eg : ∀ args w, (callFunc g args).run Tryz.prog w = .ok (.enter g args) w)
  (hr : ∀ W, S W → Row W W.heap.size A (l.flatMap paF))
  (hf : ∀ W x, S W → Calls Tryz.prog g (#[paV x] ++ cb) W fun e w' => e = .returned (.bool (p x)) ∧ S w') :
  Calls Tryz.prog 84 #[.slice A l.length c, .func (.func g) #[] cb] w (IsIdxF (l.any p = true) S) := by
 have HF := Lib.hid hf
 have HRr := Lib.hid hr
 have HS := Lib.hid hS
 obtain ⟨P, hP⟩ : ∃ P : Prop, P = (l.any p = true) := ⟨_, rfl⟩
 rw [← hP]
 have HP := Lib.hid hP
 clear hP hf hr hS
 go_enter Tryz.func84, Tryz.ntmps84
 go_wp2_with fail
 go_loopw [5, 8] (fun _ i wr => ∃ k : Nat, k ≤ l.length ∧ i = .int .i64 (k : Int) ∧ Hid (∀ j, j < k → p (l.getD j pa0) = false) ∧ Hid (S wr)) (fun _ i _ => l.length - (intOf i).toNat)
 case atStart => exact ⟨0, by omega, rfl, fun j hj => by omega, HS⟩
 case round =>
  obtain ⟨k, hk, rfl, hall, HSr⟩ := hrel
  by_cases hlt : k < l.length
  ·obtain ⟨b, o, rfl, _, hcs⟩ := (HRr.out _ HSr.out).open_ (flat_ne paF_len (by omega) l (by omega))
   have hc0 := flat_cell paF_len pa0 hcs k 0 hlt (by omega) _ rfl
   have hc1 := flat_cell paF_len pa0 hcs k 1 hlt (by omega) _ rfl
   have hc2 := flat_cell paF_len pa0 hcs k 2 hlt (by omega) _ rfl
   have hc3 := flat_cell paF_len pa0 hcs k 3 hlt (by omega) _ rfl
   have hc4 := flat_cell paF_len pa0 hcs k 4 hlt (by omega) _ rfl
   have hc5 := flat_cell paF_len pa0 hcs k 5 hlt (by omega) _ rfl
   have hc6 := flat_cell paF_len pa0 hcs k 6 hlt (by omega) _ rfl
   have hc7 := flat_cell paF_len pa0 hcs k 7 hlt (by omega) _ rfl
   have hc8 := flat_cell paF_len pa0 hcs k 8 hlt (by omega) _ rfl
   have hc9 := flat_cell paF_len pa0 hcs k 9 hlt (by omega) _ rfl
   have hc10 := flat_cell paF_len pa0 hcs k 10 hlt (by omega) _ rfl
   have hc11 := flat_cell paF_len pa0 hcs k 11 hlt (by omega) _ rfl
   have hc12 := flat_cell paF_len pa0 hcs k 12 hlt (by omega) _ rfl
   have hmem : Hid (l.getD k pa0 ∈ l) := by unfold Hid; simp [List.getD, List.getElem?_eq_getElem hlt]
   have HX : Hid (p (l.getD k pa0) = false → ∀ j, j < k + 1 → p (l.getD j pa0) = false) := fun h j hj => by
    by_cases e : j = k
    ·subst e; exact h
    ·exact hall.out j (by omega)
   have hcall := HF.out _ (l.getD k pa0) HSr.out
   clear hcs
   generalize l.getD k pa0 = y at *
   rw [Nat.add_zero] at hc0
   cases hp : p y <;> rw [hp] at hcall
   ·have HPy := Lib.hid hp
    clear hp
    have HCl := Lib.hid hcall
    clear hcall
    go_wp2_with (go_at_fn g; refine HCl.out.mono ?_; rintro e w' ⟨rfl, hs'⟩)
    go_roundw
    case rel => exact ⟨k + 1, by omega, by go_num, HX.out HPy.out, hs'⟩
    case measure => simp [intOf]; omega
   ·have HPy := Lib.hid hp
    clear hp
    have HCl := Lib.hid hcall
    clear hcall
    go_wp2_with (go_at_fn g; refine HCl.out.mono ?_; rintro e w' ⟨rfl, hs'⟩)
    go_ret
    exact ⟨(k : Int), rfl, ⟨fun _ => by rw [HP.out]; exact List.any_eq_true.2 ⟨y, hmem.out, HPy.out⟩, fun _ => by omega⟩, hs'⟩
  ·go_wp2_with fail
   go_ret
   refine ⟨-1, rfl, ⟨fun h => by omega, fun h => ?_⟩, HSr.out⟩
   rw [HP.out] at h
   obtain ⟨y, hy, hpy⟩ := List.any_eq_true.1 h
   obtain ⟨i, hi, e⟩ := List.getElem_of_mem hy
   have := hall.out i (by omega)
   simp [List.getD, List.getElem?_eq_getElem hi, e, hpy] at this
set_option maxRecDepth 100000 in
theorem containsFunc_pas (g : Nat) (cb : Array Value) (p : Pa → Bool) (S : World → Prop) (A : Option Addr) (c : Nat) (l : List Pa) (w : World) (hS : S w) (hl : l.length ≤ 1000000) (eg : ∀ args w, (callFunc g args).run Tryz.prog w = .ok (.enter g args) w)
  (hr : ∀ W, S W → Row W W.heap.size A (l.flatMap paF))
  (hf : ∀ W x, S W → Calls Tryz.prog g (#[paV x] ++ cb) W fun e w' => e = .returned (.bool (p x)) ∧ S w') :
  Calls Tryz.prog 49 #[.slice A l.length c, .func (.func g) #[] cb] w fun e w' => e = .returned (.bool (l.any p)) ∧ S w' := by
 have HI := Lib.hid (indexFunc_pas g cb p S A c l w hS hl eg hr hf)
 obtain ⟨R, hR⟩ : ∃ R, R = l.any p := ⟨_, rfl⟩
 rw [← hR]
 have HR := Lib.hid hR
 clear hR hl hS hr hf
 go_enter Tryz.func49, Tryz.ntmps49
 go_wp2_with fail
 refine HI.out.mono ?_
 rintro e w' ⟨i, rfl, hi, hs'⟩
 have HH := Lib.hid hi
 have HS' := Lib.hid hs'
 clear hi HI hs'
 by_cases h0 : 0 ≤ i
 ·go_wp2_with fail
  go_ret
  exact ⟨by rw [HR.out, HH.out.1 h0]; simp, HS'.out⟩
 ·have t1 : decide (0 ≤ i) = false := decide_eq_false h0
  have hf : l.any p = false := by
   cases h : l.any p
   ·rfl
   ·exact absurd (HH.out.2 h) h0
  have HFF := Lib.hid hf
  clear hf
  go_wp2_with fail
  go_ret
  exact ⟨by rw [HR.out, HFF.out]; rfl, HS'.out⟩
set_option maxRecDepth 100000 in
theorem pcheck1_any (gp : Nat) (nm : ByteArray) (x : Pa) (W : World) (hx : W.cell? ⟨gp, 0, none⟩ = some (.string nm)) :
  Calls Tryz.prog 50 (#[paV x] ++ #[.pointer (some ⟨gp, 0, none⟩)]) W fun e w' => e = .returned (.bool (x.nm.toList == nm.toList)) ∧ Below W.heap.size W w' := by
 have hlt : gp < W.heap.size := block_lt_of_cell hx
 have hx' : (W.alloc (Obj.cells (paC x) 39)).cell? ⟨gp, 0, none⟩ = some (.string nm) := ((below_alloc1 W _).cell (p := ⟨gp, 0, none⟩) hlt).trans hx
 have HB := Lib.hid (below_alloc1 W (Obj.cells (paC x) 39))
 unfold paC at hx' HB
 unfold paV
 generalize wdV x.h.w0 = v0 at *
 generalize wdV x.h.w1 = v1 at *
 generalize wdV x.h.w2 = v2 at *
 generalize wdV x.h.w3 = v3 at *
 generalize wdV x.h.w4 = v4 at *
 generalize wdV x.h.w5 = v5 at *
 generalize wdV x.h.w6 = v6 at *
 go_enter Tryz.func50, Tryz.ntmps50
 go_wp2_with fail
 go_ret
 exact ⟨rfl, HB.out⟩
end Go.Proofs.YtabidjmmgnkhkaaGreatDoor
/- Contract of plan.Check: parties are valid. -/
namespace Go.Proofs.YtabidjmmgnkhkaaGreatDoor
open Go Go.RowKit
attribute [local go_sem] Oper.semAt_some
set_option linter.unusedVariables false
theorem row_takeP {w : World} {B b o : Nat} {l : List Pa} (i : Nat) (hb : b < B) (h : ∀ j v, (l.flatMap paF)[j]? = some v → w.cell? ⟨b, o + j, none⟩ = some v) : Row w B (some ⟨b, o, none⟩) ((l.take i).flatMap paF) :=
 .inr ⟨b, o, rfl, hb, fun j v hv => h j v (by
  have hp : (l.take i).flatMap paF ++ (l.drop i).flatMap paF = l.flatMap paF := by rw [← List.flatMap_append, List.take_append_drop]
  rw [← hp, List.getElem?_append_left (List.getElem?_eq_some_iff.1 hv).1]
  exact hv)⟩
set_option maxHeartbeats 16000000 in
set_option maxRecDepth 100000 in
theorem pcheck_any (l : List Pa) (A : Option Addr) (cp : Nat) (w : World) (hv : Env w) (hin : PasIn w w.heap.size A l) (hlc : l.length ≤ cp) (hcm : cp ≤ maxLen) : Calls Tryz.prog 26 #[.slice A l.length cp] w (IsChk (PasOk l) w) := by
 have hln := hin.ln
 unfold maxLen at hln hcm
 have HRow := Lib.hid hin.row
 have HNm := Lib.hid (fun i (hi : i < l.length) W => isName_any (l.getD i pa0).nm W (hin.pa i hi).nm)
 have HZk := Lib.hid (fun i (hi : i < l.length) W (hb : Below w.heap.size w W) => ((hin.pa i hi).z.next hb hb.size).z.check (l.getD i pa0).z.first (l.getD i pa0).z.c)
 have HHk := Lib.hid (fun i (hi : i < l.length) W (hb : Below w.heap.size w W) => hcheck_any (l.getD i pa0).h W (hv.next hb) ((hin.pa i hi).h.next hb hb.size))
 have HWt := Lib.hid (fun i (hi : i < l.length) => (hin.pa i hi).wt)
 unfold IsChk at HZk HHk
 have HCt : Hid (∀ k, k < l.length → l.length ≤ 8 → ∀ (y : Pa) (g W), Below w.heap.size w W → W.cell? ⟨g, 0, none⟩ = some (.string y.nm) → Calls Tryz.prog 49 #[.slice A k cp, .func (.func 50) #[] #[.pointer (some ⟨g, 0, none⟩)]] W fun e w' => e = .returned (.bool ((l.take k).any (fun x => x.nm.toList == y.nm.toList))) ∧ Below W.heap.size W w') := fun k hk hk8 y g W hb hc => by
  have hrt : Row w w.heap.size A ((l.take k).flatMap paF) := by
   rcases hin.row with h | ⟨b, o, e, hb1, hcs⟩
   ·have := flat_length paF_len l
    rw [h] at this
    simp at this
    omega
   ·rw [e]; exact row_takeP k hb1 hcs
  have h := containsFunc_pas 50 #[.pointer (some ⟨g, 0, none⟩)] (fun x => x.nm.toList == y.nm.toList) (Below W.heap.size W) A cp (l.take k) W (Below.refl _ _) (by simp; omega) (fun _ _ => rfl)
   (fun W' hW => (hrt.next hb).next hW)
   (fun W' x hW => (pcheck1_any g y.nm x W' ((hW.cell (p := ⟨g, 0, none⟩) (block_lt_of_cell hc)).trans hc)).mono fun e w' ⟨he, hb⟩ => ⟨he, below_then hW hb⟩)
  rwa [show (l.take k).length = k from by simp; omega] at h
 obtain ⟨G, hG⟩ : ∃ G : Prop, G = PasOk l := ⟨_, rfl⟩
 rw [← hG]
 have HG : Hid (G = ((1 ≤ l.length ∧ l.length ≤ 8) ∧ ∀ i, i < l.length → PaOk l i)) := hG
 have HN : Hid (∀ E W', ¬ G → E ≠ 0 → Below w.heap.size w W' → IsChk G w (.returned (.int .i64 E)) W') := fun E W' a b c => IsChk.no a b c
 have HYs : Hid (∀ W', G → Below w.heap.size w W' → IsChk G w (.returned (.int .i64 0)) W') := fun W' a c => IsChk.yes a c
 generalize IsChk G w = POST at *
 clear hG hv hin
 go_enter Tryz.func26, Tryz.ntmps26
 by_cases h1 : l.length < 1
 ·have t1 : decide ((l.length : Int) < 1) = true := decide_eq_true (by omega)
  have t1' : decide (l.length < 1) = true := decide_eq_true h1
  have HNg : Hid (¬ G) := fun hg => by rw [HG.out] at hg; have := hg.1.1; omega
  go_wp2_with fail
  all_goals exact HN.out 2 _ HNg.out (by omega) (Below.refl _ _)
 have t1 : decide ((l.length : Int) < 1) = false := decide_eq_false (by omega)
 by_cases h2 : 8 < l.length
 ·have t2 : decide ((8 : Int) < (l.length : Int)) = true := decide_eq_true (by omega)
  have t2' : decide (8 < l.length) = true := decide_eq_true h2
  have HNg : Hid (¬ G) := fun hg => by rw [HG.out] at hg; have := hg.1.2; omega
  go_wp2_with fail
  all_goals exact HN.out 2 _ HNg.out (by omega) (Below.refl _ _)
 have t2 : decide ((8 : Int) < (l.length : Int)) = false := decide_eq_false (by omega)
 have t2' : decide (8 < l.length) = false := decide_eq_false h2
 go_wp2_with fail
 clear t1 t2 t2'
 go_loopw [3, 4, 5, 6, 17] (fun _ _ _ _ i wr => ∃ k : Nat, k ≤ l.length ∧ i = .int .i64 (k : Int) ∧ Hid (∀ j, j < k → PaOk l j) ∧ Hid (Below w.heap.size w wr)) (fun _ _ _ _ i _ => l.length - (intOf i).toNat)
 case atStart => exact ⟨0, by omega, rfl, fun j hj => by omega, Below.refl _ _⟩
 case round =>
  obtain ⟨k, hk, rfl, hall, hbr⟩ := hrel
  by_cases hlt : k < l.length
  case neg =>
   have hkl : l.length ≤ k := by omega
   have HY : Hid G := by unfold Hid; rw [HG.out]; exact ⟨by omega, fun i hi => hall.out i (by omega)⟩
   clear hkl
   go_wp2_with fail
   exact HYs.out _ HY.out hbr.out
  ·obtain ⟨b, o, rfl, hbl0, hcs0⟩ := HRow.out.open_ (flat_ne paF_len (by omega) l (by omega))
   have hcs : ∀ j v, (l.flatMap paF)[j]? = some v → wr.cell? ⟨b, o + j, none⟩ = some v := fun j v hv => (hbr.out.cell (p := ⟨b, o + j, none⟩) hbl0).trans (hcs0 j v hv)
   have hcc : ∀ j v, j < 13 → (paF (l.getD k pa0))[j]? = some v → wr.cell? ⟨b, o + k * 13 + j, none⟩ = some v := fun j v hj hv => flat_cell paF_len pa0 hcs k j hlt hj v hv
   have HIN := Lib.hid (HNm.out k hlt)
   have HZ := Lib.hid (HZk.out k hlt)
   have HH := Lib.hid (HHk.out k hlt)
   have HCT := Lib.hid (HCt.out k hlt (by omega) (l.getD k pa0))
   have HMK : Hid (∀ (a : NameOk (l.getD k pa0).nm) (b : (l.take k).any (fun x => x.nm.toList == (l.getD k pa0).nm.toList) = false) (c : ZOk (l.getD k pa0).z) (d : HrOk (l.getD k pa0).h) (e : 1 ≤ (l.getD k pa0).wt ∧ (l.getD k pa0).wt ≤ 1000), ∀ j, j < k + 1 → PaOk l j) := fun a b c d e j hj => by
    by_cases q : j = k
    ·subst q; exact ⟨a, b, c, d, e⟩
    ·exact hall.out j (by omega)
   have HDn : Hid (¬ (NameOk (l.getD k pa0).nm ∧ (l.take k).any (fun x => x.nm.toList == (l.getD k pa0).nm.toList) = false ∧ ZOk (l.getD k pa0).z ∧ HrOk (l.getD k pa0).h ∧ (1 ≤ (l.getD k pa0).wt ∧ (l.getD k pa0).wt ≤ 1000)) → ¬ G) := fun q hg => by
    rw [HG.out] at hg
    have := hg.2 k hlt
    exact q ⟨this.nm, this.one, this.z, this.h, this.wt⟩
   obtain ⟨hw1, hw2⟩ := HWt.out k hlt
   generalize l.getD k pa0 = x at *
   obtain ⟨nm, ⟨zn, zf, zA, zc, zs⟩, ⟨⟨A0, c0, l0⟩, ⟨A1, c1, l1⟩, ⟨A2, c2, l2⟩, ⟨A3, c3, l3⟩, ⟨A4, c4, l4⟩, ⟨A5, c5, l5⟩, ⟨A6, c6, l6⟩, hA, hc, hx⟩, wt⟩ := x
   have y0 : wr.cell? ⟨b, o + k * 13 + 0, none⟩ = some (.string nm) := hcc 0 _ (by omega) rfl
   have y1 : wr.cell? ⟨b, o + k * 13 + 1, none⟩ = some (.string zn) := hcc 1 _ (by omega) rfl
   have y2 : wr.cell? ⟨b, o + k * 13 + 2, none⟩ = some (.int .i64 zf) := hcc 2 _ (by omega) rfl
   have y3 : wr.cell? ⟨b, o + k * 13 + 3, none⟩ = some (.slice zA zs.length zc) := hcc 3 _ (by omega) rfl
   have y4 : wr.cell? ⟨b, o + k * 13 + 4, none⟩ = some (.slice A0 l0.length c0) := hcc 4 _ (by omega) rfl
   have y5 : wr.cell? ⟨b, o + k * 13 + 5, none⟩ = some (.slice A1 l1.length c1) := hcc 5 _ (by omega) rfl
   have y6 : wr.cell? ⟨b, o + k * 13 + 6, none⟩ = some (.slice A2 l2.length c2) := hcc 6 _ (by omega) rfl
   have y7 : wr.cell? ⟨b, o + k * 13 + 7, none⟩ = some (.slice A3 l3.length c3) := hcc 7 _ (by omega) rfl
   have y8 : wr.cell? ⟨b, o + k * 13 + 8, none⟩ = some (.slice A4 l4.length c4) := hcc 8 _ (by omega) rfl
   have y9 : wr.cell? ⟨b, o + k * 13 + 9, none⟩ = some (.slice A5 l5.length c5) := hcc 9 _ (by omega) rfl
   have y10 : wr.cell? ⟨b, o + k * 13 + 10, none⟩ = some (.slice A6 l6.length c6) := hcc 10 _ (by omega) rfl
   have y11 : wr.cell? ⟨b, o + k * 13 + 11, none⟩ = some (.slice hA hx.length hc) := hcc 11 _ (by omega) rfl
   have y12 : wr.cell? ⟨b, o + k * 13 + 12, none⟩ = some (.int .i64 wt) := hcc 12 _ (by omega) rfl
   rw [Nat.add_zero] at y0
   have HH' : Hid (∀ W, Below w.heap.size w W → Calls Tryz.prog 52 #[.agg #[.slice A0 l0.length c0, .slice A1 l1.length c1, .slice A2 l2.length c2, .slice A3 l3.length c3, .slice A4 l4.length c4, .slice A5 l5.length c5, .slice A6 l6.length c6, .slice hA hx.length hc]] W fun e w' => ∃ E : Int, e = .returned (.int .i64 E) ∧ (E = 0 ↔ HrOk ⟨⟨A0, c0, l0⟩, ⟨A1, c1, l1⟩, ⟨A2, c2, l2⟩, ⟨A3, c3, l3⟩, ⟨A4, c4, l4⟩, ⟨A5, c5, l5⟩, ⟨A6, c6, l6⟩, hA, hc, hx⟩) ∧ Below W.heap.size W w') := HH.out
   dsimp only at HIN HZ HCT HMK HDn hw1 hw2
   have HZ' : Hid (∀ W, Below w.heap.size w W → Calls Tryz.prog 51 #[.agg #[.string zn, .int .i64 zf, .slice zA zs.length zc]] W fun e w' => ∃ E : Int, e = .returned (.int .i64 E) ∧ (E = 0 ↔ ZOk ⟨zn, zf, zA, zc, zs⟩) ∧ Below W.heap.size W w') := HZ.out
   have HQN := Lib.hid (fun q1 q2 q3 q4 q5 => HMK.out q1 q2 q3 q4 q5)
   generalize HrOk ⟨⟨A0, c0, l0⟩, ⟨A1, c1, l1⟩, ⟨A2, c2, l2⟩, ⟨A3, c3, l3⟩, ⟨A4, c4, l4⟩, ⟨A5, c5, l5⟩, ⟨A6, c6, l6⟩, hA, hc, hx⟩ = QH at *
   generalize ZOk ⟨zn, zf, zA, zc, zs⟩ = QZ at *
   have HB4 := Lib.hid (below_then hbr.out (below_alloc1 wr (Obj.cells #[.string nm, .string zn, .int .i64 zf, .slice zA zs.length zc, .slice A0 l0.length c0, .slice A1 l1.length c1, .slice A2 l2.length c2, .slice A3 l3.length c3, .slice A4 l4.length c4, .slice A5 l5.length c5, .slice A6 l6.length c6, .slice hA hx.length hc, .int .i64 wt] 39)))
   have HX4 := Lib.hid (Box.new wr 39 #[.string nm, .string zn, .int .i64 zf, .slice zA zs.length zc, .slice A0 l0.length c0, .slice A1 l1.length c1, .slice A2 l2.length c2, .slice A3 l3.length c3, .slice A4 l4.length c4, .slice A5 l5.length c5, .slice A6 l6.length c6, .slice hA hx.length hc, .int .i64 wt])
   have hbl : b < wr.heap.size := by have := hbr.out.size; omega
   have k0 : (0 : Int) ≤ (k : Int) := by omega
   have k1 : (k : Int) ≤ (cp : Int) := by omega
   generalize hT : (l.take k).any (fun x => x.nm.toList == nm.toList) = T at *
   clear hT hcs0 hcs hcc HZ HH HMK hall
   go_upto_region 6 with fail
   clear y0 y1 y2 y3 y4 y5 y6 y7 y8 y9 y10 y11 y12 hbr
   generalize wr.alloc (Obj.cells #[.string nm, .string zn, .int .i64 zf, .slice zA zs.length zc, .slice A0 l0.length c0, .slice A1 l1.length c1, .slice A2 l2.length c2, .slice A3 l3.length c3, .slice A4 l4.length c4, .slice A5 l5.length c5, .slice A6 l6.length c6, .slice hA hx.length hc, .int .i64 wt] 39) = w4 at *
   generalize wr.heap.size = g4 at *
   have z0 : w4.cell? ⟨g4, 0, none⟩ = some (.string nm) := HX4.out.cell 0
   have z1 : w4.cell? ⟨g4, 1, none⟩ = some (.string zn) := HX4.out.cell 1
   have z2 : w4.cell? ⟨g4, 2, none⟩ = some (.int .i64 zf) := HX4.out.cell 2
   have z3 : w4.cell? ⟨g4, 3, none⟩ = some (.slice zA zs.length zc) := HX4.out.cell 3
   have z4 : w4.cell? ⟨g4, 4, none⟩ = some (.slice A0 l0.length c0) := HX4.out.cell 4
   have z5 : w4.cell? ⟨g4, 5, none⟩ = some (.slice A1 l1.length c1) := HX4.out.cell 5
   have z6 : w4.cell? ⟨g4, 6, none⟩ = some (.slice A2 l2.length c2) := HX4.out.cell 6
   have z7 : w4.cell? ⟨g4, 7, none⟩ = some (.slice A3 l3.length c3) := HX4.out.cell 7
   have z8 : w4.cell? ⟨g4, 8, none⟩ = some (.slice A4 l4.length c4) := HX4.out.cell 8
   have z9 : w4.cell? ⟨g4, 9, none⟩ = some (.slice A5 l5.length c5) := HX4.out.cell 9
   have z10 : w4.cell? ⟨g4, 10, none⟩ = some (.slice A6 l6.length c6) := HX4.out.cell 10
   have z11 : w4.cell? ⟨g4, 11, none⟩ = some (.slice hA hx.length hc) := HX4.out.cell 11
   have z12 : w4.cell? ⟨g4, 12, none⟩ = some (.int .i64 wt) := HX4.out.cell 12
   go_wp2_with fail
   refine (HIN.out _).mono ?_
   rintro e w' ⟨bn, rfl, hbn, rfl⟩
   have HBN := Lib.hid hbn
   clear hbn HIN
   cases bn with
   | false =>
    have HF : Hid (¬ G) := HDn.out (fun q => by have := HBN.out.2 q.1; cases this)
    go_wp2_with fail
    exact HN.out 5 _ HF.out (by omega) HB4.out
   | true =>
    have HQ1 := Lib.hid (HBN.out.1 rfl)
    have HCT4 := Lib.hid (HCT.out g4 w4 HB4.out z0)
    clear HBN HCT
    go_wp2_with fail
    refine HCT4.out.mono ?_
    rintro e w5 ⟨rfl, hb5⟩
    have HB5 := Lib.hid (below_then HB4.out hb5)
    have HX5 := Lib.hid (HX4.out.below hb5)
    clear hb5 HCT4 HB4 HX4 z0 z1 z2 z3 z4 z5 z6 z7 z8 z9 z10 z11 z12
    cases T with
    | true =>
     have HF : Hid (¬ G) := HDn.out (fun q => by have := q.2.1; cases this)
     go_wp2_with fail
     exact HN.out 7 _ HF.out (by omega) HB5.out
    | false =>
     have z0 : w5.cell? ⟨g4, 0, none⟩ = some (.string nm) := HX5.out.cell 0
     have z1 : w5.cell? ⟨g4, 1, none⟩ = some (.string zn) := HX5.out.cell 1
     have z2 : w5.cell? ⟨g4, 2, none⟩ = some (.int .i64 zf) := HX5.out.cell 2
     have z3 : w5.cell? ⟨g4, 3, none⟩ = some (.slice zA zs.length zc) := HX5.out.cell 3
     have z4 : w5.cell? ⟨g4, 4, none⟩ = some (.slice A0 l0.length c0) := HX5.out.cell 4
     have z5 : w5.cell? ⟨g4, 5, none⟩ = some (.slice A1 l1.length c1) := HX5.out.cell 5
     have z6 : w5.cell? ⟨g4, 6, none⟩ = some (.slice A2 l2.length c2) := HX5.out.cell 6
     have z7 : w5.cell? ⟨g4, 7, none⟩ = some (.slice A3 l3.length c3) := HX5.out.cell 7
     have z8 : w5.cell? ⟨g4, 8, none⟩ = some (.slice A4 l4.length c4) := HX5.out.cell 8
     have z9 : w5.cell? ⟨g4, 9, none⟩ = some (.slice A5 l5.length c5) := HX5.out.cell 9
     have z10 : w5.cell? ⟨g4, 10, none⟩ = some (.slice A6 l6.length c6) := HX5.out.cell 10
     have z11 : w5.cell? ⟨g4, 11, none⟩ = some (.slice hA hx.length hc) := HX5.out.cell 11
     have z12 : w5.cell? ⟨g4, 12, none⟩ = some (.int .i64 wt) := HX5.out.cell 12
     have HZ5 := Lib.hid (HZ'.out w5 HB5.out)
     go_wp2_with fail
     refine HZ5.out.mono ?_
     rintro e w6 ⟨E, rfl, hE, hb6⟩
     have HE := Lib.hid hE
     have HB6 := Lib.hid (below_then HB5.out hb6)
     have HX6 := Lib.hid (HX5.out.below hb6)
     clear hE hb6 HZ5 HZ' HB5 HX5 z0 z1 z2 z3 z4 z5 z6 z7 z8 z9 z10 z11 z12
     by_cases hE0 : E = 0
     case neg =>
      have t1 : (E != 0) = true := by rw [bne_iff_ne]; exact hE0
      have HE0 := Lib.hid hE0
      clear hE0
      go_wp2_with fail
      exact HN.out E _ (HDn.out (fun q => HE0.out (HE.out.2 q.2.2.1))) HE0.out HB6.out
     subst hE0
     have HQ3 := Lib.hid (HE.out.1 rfl)
     clear HE
     have z0 : w6.cell? ⟨g4, 0, none⟩ = some (.string nm) := HX6.out.cell 0
     have z1 : w6.cell? ⟨g4, 1, none⟩ = some (.string zn) := HX6.out.cell 1
     have z2 : w6.cell? ⟨g4, 2, none⟩ = some (.int .i64 zf) := HX6.out.cell 2
     have z3 : w6.cell? ⟨g4, 3, none⟩ = some (.slice zA zs.length zc) := HX6.out.cell 3
     have z4 : w6.cell? ⟨g4, 4, none⟩ = some (.slice A0 l0.length c0) := HX6.out.cell 4
     have z5 : w6.cell? ⟨g4, 5, none⟩ = some (.slice A1 l1.length c1) := HX6.out.cell 5
     have z6 : w6.cell? ⟨g4, 6, none⟩ = some (.slice A2 l2.length c2) := HX6.out.cell 6
     have z7 : w6.cell? ⟨g4, 7, none⟩ = some (.slice A3 l3.length c3) := HX6.out.cell 7
     have z8 : w6.cell? ⟨g4, 8, none⟩ = some (.slice A4 l4.length c4) := HX6.out.cell 8
     have z9 : w6.cell? ⟨g4, 9, none⟩ = some (.slice A5 l5.length c5) := HX6.out.cell 9
     have z10 : w6.cell? ⟨g4, 10, none⟩ = some (.slice A6 l6.length c6) := HX6.out.cell 10
     have z11 : w6.cell? ⟨g4, 11, none⟩ = some (.slice hA hx.length hc) := HX6.out.cell 11
     have z12 : w6.cell? ⟨g4, 12, none⟩ = some (.int .i64 wt) := HX6.out.cell 12
     have HH6 := Lib.hid (HH'.out w6 HB6.out)
     go_wp2_with fail
     refine HH6.out.mono ?_
     rintro e w7 ⟨E, rfl, hE, hb7⟩
     have HE := Lib.hid hE
     have HB7 := Lib.hid (below_then HB6.out hb7)
     have HX7 := Lib.hid (HX6.out.below hb7)
     clear hE hb7 HH6 HH' HB6 HX6 z0 z1 z2 z3 z4 z5 z6 z7 z8 z9 z10 z11 z12
     by_cases hE0 : E = 0
     case neg =>
      have t1 : (E != 0) = true := by rw [bne_iff_ne]; exact hE0
      have HE0 := Lib.hid hE0
      clear hE0
      go_wp2_with fail
      exact HN.out E _ (HDn.out (fun q => HE0.out (HE.out.2 q.2.2.2.1))) HE0.out HB7.out
     subst hE0
     have HQ4 := Lib.hid (HE.out.1 rfl)
     clear HE
     have z12 : w7.cell? ⟨g4, 12, none⟩ = some (.int .i64 wt) := HX7.out.cell 12
     have hgl := HX7.out.lt
     by_cases a1 : wt < 1
     ·have t3 : decide (wt < 1) = true := decide_eq_true a1
      have HF : Hid (¬ G) := HDn.out (fun q => by have := q.2.2.2.2.1; omega)
      go_wp2_with fail
      exact HN.out 3 _ HF.out (by omega) HB7.out
     have t3 : decide (wt < 1) = false := decide_eq_false a1
     by_cases a2 : 1000 < wt
     ·have t4 : decide (1000 < wt) = true := decide_eq_true a2
      have HF : Hid (¬ G) := HDn.out (fun q => by have := q.2.2.2.2.2; omega)
      go_wp2_with fail
      exact HN.out 3 _ HF.out (by omega) HB7.out
     have t4 : decide (1000 < wt) = false := decide_eq_false a2
     have HAL := Lib.hid (HQN.out HQ1.out (by first | rfl | trivial) HQ3.out HQ4.out ⟨by omega, by omega⟩)
     go_wp2_with fail
     go_roundw
     case rel => exact ⟨k + 1, by omega, by go_num, HAL, HB7⟩
     case measure => simp [intOf]; omega
end Go.Proofs.YtabidjmmgnkhkaaGreatDoor
/- Contracts of plan.score and Score. -/
namespace Go.Proofs.YtabidjmmgnkhkaaGreatDoor
open Go Go.RowKit
attribute [local go_sem] Oper.semAt_some
set_option linter.unusedVariables false
open Classical in
theorem scoreF_app (l r : List Pa) (a b : Int) : scoreF (l ++ r) a b = scoreF l a b + scoreF r a b := by
 induction l with
 | nil => simp [scoreF]
 | cons x l ih => rw [List.cons_append, scoreF, ih, scoreF]; omega
open Classical in
theorem scoreF_take (l : List Pa) (a b : Int) (k : Nat) (hk : k < l.length) : scoreF (l.take (k + 1)) a b = scoreF (l.take k) a b + (if Attend (l.getD k pa0) a b then (l.getD k pa0).wt else 0) := by
 rw [List.take_succ_eq_append_getElem hk, scoreF_app, List.getD_eq_getElem?_getD, List.getElem?_eq_getElem hk]
 simp [scoreF]
open Classical in
theorem scoreF_in (l : List Pa) (a b : Int) (k : Nat) (hk : k ≤ l.length) (hw : ∀ i, i < k → 1 ≤ (l.getD i pa0).wt ∧ (l.getD i pa0).wt ≤ 1000) : 0 ≤ scoreF (l.take k) a b ∧ scoreF (l.take k) a b ≤ 1000 * (k : Int) := by
 induction k with
 | zero => simp [scoreF]
 | succ k ih =>
  have h1 := ih (by omega) (fun i hi => hw i (by omega))
  have h2 := hw k (by omega)
  rw [scoreF_take l a b k (by omega)]
  split <;> omega
set_option maxHeartbeats 16000000 in
set_option maxRecDepth 100000 in
theorem score_any (l : List Pa) (A : Option Addr) (cp : Nat) (a b : Int) (w : World) (hv : Env w) (hin : PasIn w w.heap.size A l) (ok : PasOk l) (hab : a < b) (hab2 : b - a ≤ 86400000) (h1 : -300000000000000 ≤ a) (h2 : b ≤ 300000000000000) :
  Calls Tryz.prog 28 #[.slice A l.length cp, .int .i64 a, .int .i64 b] w fun e w' => e = .returned (.int .i64 (scoreF l a b)) ∧ Below w.heap.size w w' := by
 have hl8 := ok.1.2
 have HRow := Lib.hid hin.row
 have HTo := Lib.hid (fun i (hi : i < l.length) W (hb : Below w.heap.size w W) => htotal_any (l.getD i pa0).h (l.getD i pa0).z a b W (hv.next hb) ((hin.pa i hi).h.next hb hb.size) ((hin.pa i hi).z.next hb hb.size) (by omega) (by omega) h1 h2)
 unfold TotQ at HTo
 have HOk := Lib.hid (fun i (hi : i < l.length) => And.intro (ok.2 i hi).h (ok.2 i hi).z)
 have HWt := Lib.hid (fun i (hi : i < l.length) => (ok.2 i hi).wt)
 have HSc := Lib.hid (fun k (hk : k ≤ l.length) => scoreF_in l a b k hk (fun i hi => (ok.2 i (by omega)).wt))
 clear hin ok hv
 go_enter Tryz.func28, Tryz.ntmps28
 go_wp2_with fail
 go_loopw [7, 9, 10, 11, 14] (fun s _ _ _ i wr => ∃ k : Nat, k ≤ l.length ∧ i = .int .i64 (k : Int) ∧ s = .int .i64 (scoreF (l.take k) a b) ∧ Hid (Below w.heap.size w wr)) (fun _ _ _ _ i _ => l.length - (intOf i).toNat)
 case atStart => exact ⟨0, by omega, rfl, rfl, Below.refl _ _⟩
 case round =>
  obtain ⟨k, hk, rfl, rfl, hbr⟩ := hrel
  obtain ⟨hs1, hs2⟩ := HSc.out k hk
  by_cases hlt : k < l.length
  case neg =>
   have hkl : l.length ≤ k := by omega
   have HE : Hid (Ending.returned (.int .i64 (scoreF (l.take k) a b)) = .returned (.int .i64 (scoreF l a b))) := by unfold Hid; rw [List.take_of_length_le hkl]
   clear hkl
   generalize scoreF (l.take k) a b = sc at *
   go_wp2_with fail
   go_ret
   exact ⟨HE.out, hbr.out⟩
  obtain ⟨b0, o, rfl, hbl0, hcs0⟩ := HRow.out.open_ (flat_ne paF_len (by omega) l (by omega))
  have hcs : ∀ j v, (l.flatMap paF)[j]? = some v → wr.cell? ⟨b0, o + j, none⟩ = some v := fun j v hv => (hbr.out.cell (p := ⟨b0, o + j, none⟩) hbl0).trans (hcs0 j v hv)
  have hcc : ∀ j v, j < 13 → (paF (l.getD k pa0))[j]? = some v → wr.cell? ⟨b0, o + k * 13 + j, none⟩ = some v := fun j v hj hv => flat_cell paF_len pa0 hcs k j hlt hj v hv
  have HT := Lib.hid (HTo.out k hlt)
  obtain ⟨hok, zok⟩ := HOk.out k hlt
  obtain ⟨hw1, hw2⟩ := HWt.out k hlt
  have HSt := Lib.hid (scoreF_take l a b k hlt)
  have HAt : Hid (∀ n : Int, n = (cntW (OpenAt (l.getD k pa0).h (l.getD k pa0).z.first (l.getD k pa0).z.chs) a (b - a).toNat : Int) → (n = b - a ↔ Attend (l.getD k pa0) a b)) := fun n hn => by
   unfold Attend
   rw [hn]
   omega
  generalize l.getD k pa0 = x at *
  obtain ⟨nm, ⟨zn, zf, zA, zc, zs⟩, ⟨⟨A0, c0, l0⟩, ⟨A1, c1, l1⟩, ⟨A2, c2, l2⟩, ⟨A3, c3, l3⟩, ⟨A4, c4, l4⟩, ⟨A5, c5, l5⟩, ⟨A6, c6, l6⟩, hA, hc, hx⟩, wt⟩ := x
  have y0 : wr.cell? ⟨b0, o + k * 13 + 0, none⟩ = some (.string nm) := hcc 0 _ (by omega) rfl
  have y1 : wr.cell? ⟨b0, o + k * 13 + 1, none⟩ = some (.string zn) := hcc 1 _ (by omega) rfl
  have y2 : wr.cell? ⟨b0, o + k * 13 + 2, none⟩ = some (.int .i64 zf) := hcc 2 _ (by omega) rfl
  have y3 : wr.cell? ⟨b0, o + k * 13 + 3, none⟩ = some (.slice zA zs.length zc) := hcc 3 _ (by omega) rfl
  have y4 : wr.cell? ⟨b0, o + k * 13 + 4, none⟩ = some (.slice A0 l0.length c0) := hcc 4 _ (by omega) rfl
  have y5 : wr.cell? ⟨b0, o + k * 13 + 5, none⟩ = some (.slice A1 l1.length c1) := hcc 5 _ (by omega) rfl
  have y6 : wr.cell? ⟨b0, o + k * 13 + 6, none⟩ = some (.slice A2 l2.length c2) := hcc 6 _ (by omega) rfl
  have y7 : wr.cell? ⟨b0, o + k * 13 + 7, none⟩ = some (.slice A3 l3.length c3) := hcc 7 _ (by omega) rfl
  have y8 : wr.cell? ⟨b0, o + k * 13 + 8, none⟩ = some (.slice A4 l4.length c4) := hcc 8 _ (by omega) rfl
  have y9 : wr.cell? ⟨b0, o + k * 13 + 9, none⟩ = some (.slice A5 l5.length c5) := hcc 9 _ (by omega) rfl
  have y10 : wr.cell? ⟨b0, o + k * 13 + 10, none⟩ = some (.slice A6 l6.length c6) := hcc 10 _ (by omega) rfl
  have y11 : wr.cell? ⟨b0, o + k * 13 + 11, none⟩ = some (.slice hA hx.length hc) := hcc 11 _ (by omega) rfl
  have y12 : wr.cell? ⟨b0, o + k * 13 + 12, none⟩ = some (.int .i64 wt) := hcc 12 _ (by omega) rfl
  rw [Nat.add_zero] at y0
  dsimp only at HT HSt HAt hw1 hw2 hok zok
  have HOk2 := Lib.hid (And.intro hok zok)
  have HT' : Hid (∀ W, Below w.heap.size w W → Calls Tryz.prog 55 #[.agg #[.slice A0 l0.length c0, .slice A1 l1.length c1, .slice A2 l2.length c2, .slice A3 l3.length c3, .slice A4 l4.length c4, .slice A5 l5.length c5, .slice A6 l6.length c6, .slice hA hx.length hc], .agg #[.string zn, .int .i64 zf, .slice zA zs.length zc], .int .i64 a, .int .i64 b] W fun e w' => ∃ n E : Int, e = .returned (.tuple #[.int .i64 n, .int .i64 E]) ∧ (E = 0 ↔ HrOk ⟨⟨A0, c0, l0⟩, ⟨A1, c1, l1⟩, ⟨A2, c2, l2⟩, ⟨A3, c3, l3⟩, ⟨A4, c4, l4⟩, ⟨A5, c5, l5⟩, ⟨A6, c6, l6⟩, hA, hc, hx⟩ ∧ ZOk ⟨zn, zf, zA, zc, zs⟩) ∧ (E = 0 → n = (cntW (OpenAt ⟨⟨A0, c0, l0⟩, ⟨A1, c1, l1⟩, ⟨A2, c2, l2⟩, ⟨A3, c3, l3⟩, ⟨A4, c4, l4⟩, ⟨A5, c5, l5⟩, ⟨A6, c6, l6⟩, hA, hc, hx⟩ zf zs) a (b - a).toNat : Int)) ∧ (E ≠ 0 → n = 0) ∧ Below W.heap.size W w') := HT.out
  generalize HrOk ⟨⟨A0, c0, l0⟩, ⟨A1, c1, l1⟩, ⟨A2, c2, l2⟩, ⟨A3, c3, l3⟩, ⟨A4, c4, l4⟩, ⟨A5, c5, l5⟩, ⟨A6, c6, l6⟩, hA, hc, hx⟩ = QH at *
  generalize ZOk ⟨zn, zf, zA, zc, zs⟩ = QZ at *
  generalize cntW (OpenAt ⟨⟨A0, c0, l0⟩, ⟨A1, c1, l1⟩, ⟨A2, c2, l2⟩, ⟨A3, c3, l3⟩, ⟨A4, c4, l4⟩, ⟨A5, c5, l5⟩, ⟨A6, c6, l6⟩, hA, hc, hx⟩ zf zs) a (b - a).toNat = N at *
  generalize Attend ⟨nm, ⟨zn, zf, zA, zc, zs⟩, ⟨⟨A0, c0, l0⟩, ⟨A1, c1, l1⟩, ⟨A2, c2, l2⟩, ⟨A3, c3, l3⟩, ⟨A4, c4, l4⟩, ⟨A5, c5, l5⟩, ⟨A6, c6, l6⟩, hA, hc, hx⟩, wt⟩ a b = AT at *
  have HB4 := Lib.hid (below_then hbr.out (below_alloc1 wr (Obj.cells #[.string nm, .string zn, .int .i64 zf, .slice zA zs.length zc, .slice A0 l0.length c0, .slice A1 l1.length c1, .slice A2 l2.length c2, .slice A3 l3.length c3, .slice A4 l4.length c4, .slice A5 l5.length c5, .slice A6 l6.length c6, .slice hA hx.length hc, .int .i64 wt] 39)))
  have HX4 := Lib.hid (Box.new wr 39 #[.string nm, .string zn, .int .i64 zf, .slice zA zs.length zc, .slice A0 l0.length c0, .slice A1 l1.length c1, .slice A2 l2.length c2, .slice A3 l3.length c3, .slice A4 l4.length c4, .slice A5 l5.length c5, .slice A6 l6.length c6, .slice hA hx.length hc, .int .i64 wt])
  have hbl : b0 < wr.heap.size := by have := hbr.out.size; omega
  clear hcs0 hcs hcc HT hok zok
  generalize scoreF (l.take k) a b = sc at *
  go_upto_region 5 with fail
  clear y0 y1 y2 y3 y4 y5 y6 y7 y8 y9 y10 y11 y12 hbr
  generalize wr.alloc (Obj.cells #[.string nm, .string zn, .int .i64 zf, .slice zA zs.length zc, .slice A0 l0.length c0, .slice A1 l1.length c1, .slice A2 l2.length c2, .slice A3 l3.length c3, .slice A4 l4.length c4, .slice A5 l5.length c5, .slice A6 l6.length c6, .slice hA hx.length hc, .int .i64 wt] 39) = w4 at *
  generalize wr.heap.size = g4 at *
  have z0 : w4.cell? ⟨g4, 0, none⟩ = some (.string nm) := HX4.out.cell 0
  have z1 : w4.cell? ⟨g4, 1, none⟩ = some (.string zn) := HX4.out.cell 1
  have z2 : w4.cell? ⟨g4, 2, none⟩ = some (.int .i64 zf) := HX4.out.cell 2
  have z3 : w4.cell? ⟨g4, 3, none⟩ = some (.slice zA zs.length zc) := HX4.out.cell 3
  have z4 : w4.cell? ⟨g4, 4, none⟩ = some (.slice A0 l0.length c0) := HX4.out.cell 4
  have z5 : w4.cell? ⟨g4, 5, none⟩ = some (.slice A1 l1.length c1) := HX4.out.cell 5
  have z6 : w4.cell? ⟨g4, 6, none⟩ = some (.slice A2 l2.length c2) := HX4.out.cell 6
  have z7 : w4.cell? ⟨g4, 7, none⟩ = some (.slice A3 l3.length c3) := HX4.out.cell 7
  have z8 : w4.cell? ⟨g4, 8, none⟩ = some (.slice A4 l4.length c4) := HX4.out.cell 8
  have z9 : w4.cell? ⟨g4, 9, none⟩ = some (.slice A5 l5.length c5) := HX4.out.cell 9
  have z10 : w4.cell? ⟨g4, 10, none⟩ = some (.slice A6 l6.length c6) := HX4.out.cell 10
  have z11 : w4.cell? ⟨g4, 11, none⟩ = some (.slice hA hx.length hc) := HX4.out.cell 11
  have z12 : w4.cell? ⟨g4, 12, none⟩ = some (.int .i64 wt) := HX4.out.cell 12
  have HT4 := Lib.hid (HT'.out w4 HB4.out)
  have ew1 : IntKind.i64.wrap (b - a) = b - a := intFits _ (by omega) (by omega)
  go_wp2_with fail
  refine HT4.out.mono ?_
  rintro e w5 ⟨n, E, rfl, hE, hn, _, hb5⟩
  obtain rfl : E = 0 := hE.2 HOk2.out
  have hn' := hn rfl
  have HA2 := Lib.hid (HAt.out n hn')
  have HB5 := Lib.hid (below_then HB4.out hb5)
  have HX5 := Lib.hid (HX4.out.below hb5)
  clear hE hn hn' hb5 HT4 HT' HB4 HX4 HAt z0 z1 z2 z3 z4 z5 z6 z7 z8 z9 z10 z11 z12
  have z12 : w5.cell? ⟨g4, 12, none⟩ = some (.int .i64 wt) := HX5.out.cell 12
  have hgl := HX5.out.lt
  by_cases hat : AT
  ·have t1 : (n == b - a) = true := by rw [beq_iff_eq]; exact HA2.out.2 hat
   have HS2 : Hid (scoreF (List.take (k + 1) l) a b = sc + wt) := by unfold Hid; rw [HSt.out, if_pos hat]
   have ew2 : IntKind.i64.wrap (sc + wt) = sc + wt := intFits _ (by omega) (by omega)
   clear hat HA2
   go_wp2_with fail
   go_roundw
   case rel => exact ⟨k + 1, by omega, by go_num, by rw [HS2.out], HB5⟩
   case measure => simp [intOf]; omega
  ·have t1 : (n == b - a) = false := by rw [beq_eq_false_iff_ne]; exact fun q => hat (HA2.out.1 q)
   have HS2 : Hid (scoreF (List.take (k + 1) l) a b = sc) := by unfold Hid; rw [HSt.out, if_neg hat, Int.add_zero]
   clear hat HA2
   go_wp2_with fail
   go_roundw
   case rel => exact ⟨k + 1, by omega, by go_num, by rw [HS2.out], HB5⟩
   case measure => simp [intOf]; omega
def PScoreQ (l : List Pa) (a b : Int) (w : World) (e : Ending) (w' : World) : Prop := ∃ n E : Int, e = .returned (.tuple #[.int .i64 n, .int .i64 E]) ∧ (E = 0 ↔ PasOk l) ∧ (E = 0 → n = scoreF l a b) ∧ Below w.heap.size w w'
set_option maxHeartbeats 4000000 in
set_option maxRecDepth 100000 in
theorem pscore_any (l : List Pa) (A : Option Addr) (cp : Nat) (a b : Int) (w : World) (hv : Env w) (hin : PasIn w w.heap.size A l) (hlc : l.length ≤ cp) (hcm : cp ≤ maxLen) (hab : a < b) (hab2 : b - a ≤ 86400000) (h1 : -300000000000000 ≤ a) (h2 : b ≤ 300000000000000) :
  Calls Tryz.prog 9 #[.slice A l.length cp, .int .i64 a, .int .i64 b] w (PScoreQ l a b w) := by
 have HCk := Lib.hid (pcheck_any l A cp w hv hin hlc hcm)
 have HSc := Lib.hid (fun (ok : PasOk l) W (hb : Below w.heap.size w W) => score_any l A cp a b W (hv.next hb) (hin.next hb hb.size) ok hab hab2 h1 h2)
 have HQ : Hid (∀ n E w', (E = 0 ↔ PasOk l) → (E = 0 → n = scoreF l a b) → Below w.heap.size w w' → PScoreQ l a b w (.returned (.tuple #[.int .i64 n, .int .i64 E])) w') := fun n E w' a b c => ⟨n, E, rfl, a, b, c⟩
 unfold IsChk at HCk
 generalize PScoreQ l a b w = POST at *
 generalize scoreF l a b = SC at *
 generalize PasOk l = G at *
 clear hv hin
 go_enter Tryz.func9, Tryz.ntmps9
 go_wp2_with fail
 refine HCk.out.mono ?_
 rintro e w3 ⟨E, rfl, hE, hb3⟩
 have HE := Lib.hid hE
 have HB3 := Lib.hid hb3
 clear hE hb3 HCk
 by_cases hE0 : E = 0
 case neg =>
  have t1 : (E != 0) = true := by rw [bne_iff_ne]; exact hE0
  have HE0 := Lib.hid hE0
  clear hE0
  go_wp2_with fail
  exact HQ.out 0 E _ HE.out (fun q => absurd q HE0.out) HB3.out
 subst hE0
 have HG := Lib.hid (HE.out.1 rfl)
 have t2 : decide (b ≤ a) = false := decide_eq_false (by omega)
 have t3 : decide (86400000 < b - a) = false := decide_eq_false (by omega)
 have ew1 : IntKind.i64.wrap (b - a) = b - a := intFits _ (by omega) (by omega)
 have HIa := Lib.hid (fun W => isInstant_yes a W ⟨by omega, by omega⟩)
 have HIb := Lib.hid (fun W => isInstant_yes b W ⟨by omega, by omega⟩)
 go_upto_region 10 with (go_at_call 27; first | (with_reducible refine (HIa.out _).mono ?_; rintro e w' ⟨rfl, nq, rfl⟩) | (with_reducible refine (HIb.out _).mono ?_; rintro e w' ⟨rfl, nq, rfl⟩))
 generalize hw4 : World.drewN _ _ = w4
 have HB4 : Hid (Below w.heap.size w w4) := by rw [← hw4]; exact below_then HB3.out (below_drewN _ _)
 have HS4 := Lib.hid (HSc.out HG.out w4 HB4.out)
 clear hw4 HB3 HIa HIb t2 t3 ew1 HSc
 go_wp2_with fail
 refine HS4.out.mono ?_
 rintro e w5 ⟨rfl, hb5⟩
 have HB5 := Lib.hid (below_then HB4.out hb5)
 clear hb5 HS4 HB4
 go_wp2_with fail
 exact HQ.out SC 0 _ ⟨fun _ => HG.out, fun _ => rfl⟩ (fun _ => rfl) HB5.out
end Go.Proofs.YtabidjmmgnkhkaaGreatDoor
/- Contracts of plan.isLength and check; the slots of a meeting, plain. -/
namespace Go.Proofs.YtabidjmmgnkhkaaGreatDoor
open Go Go.RowKit
attribute [local go_sem] Oper.semAt_some
set_option linter.unusedVariables false
structure Sl where
 fr : Int
 rm : ByteArray
 sc : Int
def sl0 : Sl := ⟨0, ⟨#[]⟩, 0⟩
def slF (s : Sl) : List Value := [.int .i64 s.fr, .string s.rm, .int .i64 s.sc]
theorem slF_len (s : Sl) : (slF s).length = 3 := rfl
noncomputable def slotsF (l : List Pa) (bs : List Bk) (fr len st : Int) : Nat → List Sl
 | 0 => []
 | n + 1 => slotsF l bs fr len st n ++ (if bs.any (fun x => x.over (fr + (n : Int) * st) (fr + (n : Int) * st + len)) then [] else [⟨fr + (n : Int) * st, nOne, scoreF l (fr + (n : Int) * st) (fr + (n : Int) * st + len)⟩])
theorem slotsF_len (l : List Pa) (bs : List Bk) (fr len st : Int) (n : Nat) : (slotsF l bs fr len st n).length ≤ n := by
 induction n with
 | zero => simp [slotsF]
 | succ n ih => rw [slotsF, List.length_append]; split <;> simp <;> omega
theorem slotsF_mem (l : List Pa) (bs : List Bk) (fr len st : Int) (n : Nat) (s : Sl) : s ∈ slotsF l bs fr len st n ↔ ∃ j : Nat, j < n ∧ bs.any (fun x => x.over (fr + (j : Int) * st) (fr + (j : Int) * st + len)) = false ∧ s = ⟨fr + (j : Int) * st, nOne, scoreF l (fr + (j : Int) * st) (fr + (j : Int) * st + len)⟩ := by
 induction n with
 | zero => simp [slotsF]
 | succ n ih =>
  rw [slotsF, List.mem_append, ih]
  constructor
  ·rintro (⟨j, h1, h2, h3⟩ | h)
   ·exact ⟨j, by omega, h2, h3⟩
   ·by_cases hf : bs.any (fun x => x.over (fr + (n : Int) * st) (fr + (n : Int) * st + len)) = true
    ·rw [if_pos hf] at h; cases h
    ·rw [if_neg hf] at h
     exact ⟨n, by omega, by simpa using hf, by simpa using h⟩
  ·rintro ⟨j, h1, h2, h3⟩
   by_cases hj : j = n
   ·subst hj
    right
    rw [if_neg (by rw [h2]; simp)]
    simp [h3]
   ·exact .inl ⟨j, by omega, h2, h3⟩
def NOk (fr tt len st : Int) (n : Nat) : Prop := (∀ j : Nat, j < n → fr + (j : Int) * st + len ≤ tt) ∧ tt < fr + (n : Int) * st + len
theorem NOk.one {fr tt len st : Int} {n m : Nat} (h : NOk fr tt len st n) (h' : NOk fr tt len st m) : n = m := by
 rcases Nat.lt_trichotomy n m with q | q | q
 ·have := h'.1 n q; have := h.2; omega
 ·exact q
 ·have := h.1 m q; have := h'.2; omega
def BestS (l : List Sl) (s : Sl) : Prop := s ∈ l ∧ ∀ i, i < l.length → (l.getD i sl0).sc ≤ s.sc ∧ ((l.getD i sl0).sc = s.sc → ∃ k, k ≤ i ∧ l.getD k sl0 = s)
theorem isLen_any (n : Int) (w : World) : Calls Tryz.prog 56 #[.int .i64 n] w fun e w' => e = .returned (.bool (decide (1 ≤ n ∧ n ≤ 86400000))) ∧ w = w' := by
 by_cases h1 : 1 ≤ n
 ·have t1 : decide (1 ≤ n) = true := decide_eq_true h1
  by_cases h2 : n ≤ 86400000
  ·have t2 : decide (n ≤ 86400000) = true := decide_eq_true h2
   rw [decide_eq_true (⟨h1, h2⟩ : 1 ≤ n ∧ n ≤ 86400000)]
   go_enter Tryz.func56, Tryz.ntmps56
   go_wp2_with fail
   go_ret
   exact ⟨rfl, rfl⟩
  ·have t2 : decide (n ≤ 86400000) = false := decide_eq_false h2
   rw [decide_eq_false (fun h => h2 h.2 : ¬ (1 ≤ n ∧ n ≤ 86400000))]
   go_enter Tryz.func56, Tryz.ntmps56
   go_wp2_with fail
   go_ret
   exact ⟨rfl, rfl⟩
 ·have t1 : decide (1 ≤ n) = false := decide_eq_false h1
  rw [decide_eq_false (fun h => h1 h.1 : ¬ (1 ≤ n ∧ n ≤ 86400000))]
  go_enter Tryz.func56, Tryz.ntmps56
  go_wp2_with fail
  go_ret
  exact ⟨rfl, rfl⟩
theorem idxOne : IdxS [nOne] nOne ((0 : Nat) : Int) := .inr ⟨0, rfl, by decide, by simp, fun j hj => by omega⟩
def Rm1 (w : World) (B g gB : Nat) (An : Option Addr) (cn : Nat) (vs : List Value) (bs : List Bk) : Prop := Rms w B g gB An cn [nOne] vs [bs]
set_option maxHeartbeats 8000000 in
set_option maxRecDepth 100000 in
theorem pchk_any (l : List Pa) (A : Option Addr) (cp : Nat) (B g gB : Nat) (An : Option Addr) (cn : Nat) (vs : List Value) (bs : List Bk) (gn : Nat) (fr tt len st : Int) (w : World) (hv : Env w) (hin : PasIn w w.heap.size A l) (hlc : l.length ≤ cp) (hcm : cp ≤ maxLen)
  (hrm : Rm1 w B g gB An cn vs bs) (hbs : bs.length ≤ 1000) (hgn : Box w gn 9 #[.string nOne]) (h0 : -300000000000000 ≤ fr) (h1 : fr ≤ tt) (h2 : tt ≤ 300000000000000) (h3 : 1 ≤ len ∧ len ≤ 86400000) (h4 : 1 ≤ st ∧ st ≤ 86400000) (h5 : tt - fr ≤ 200 * st) :
  Calls Tryz.prog 30 #[.slice A l.length cp, .pointer (some ⟨g, 0, none⟩), .slice (some ⟨gn, 0, none⟩) 1 1, .int .i64 fr, .int .i64 tt, .int .i64 len, .int .i64 st] w (IsChk (PasOk l) w) := by
 have HCk := Lib.hid (pcheck_any l A cp w hv hin hlc hcm)
 have HLs := Lib.hid (fun W (hb : Below w.heap.size w W) => rlist_any nOne 0 W (Rms.next hrm hb) (by simp) (by simp) idxOne (by simpa using hbs))
 have HGn := Lib.hid hgn
 have HN : Hid (∀ E W', (E = 0 ↔ PasOk l) → Below w.heap.size w W' → IsChk (PasOk l) w (.returned (.int .i64 E)) W') := fun E W' a c => ⟨E, rfl, a, c⟩
 unfold IsChk at HCk
 unfold ListQ at HLs
 generalize IsChk (PasOk l) w = POST at *
 generalize PasOk l = G at *
 clear hv hin hrm hgn
 obtain ⟨h31, h32⟩ := h3
 obtain ⟨h41, h42⟩ := h4
 go_enter Tryz.func30, Tryz.ntmps30
 go_wp2_with fail
 refine HCk.out.mono ?_
 rintro e w3 ⟨E, rfl, hE, hb3⟩
 have HE := Lib.hid hE
 have HB3 := Lib.hid hb3
 clear hE hb3 HCk
 by_cases hE0 : E = 0
 case neg =>
  have t1 : (E != 0) = true := by rw [bne_iff_ne]; exact hE0
  clear hE0
  go_wp2_with fail
  exact HN.out E _ HE.out HB3.out
 subst hE0
 have HG := Lib.hid (HE.out.1 rfl)
 have t2 : decide (tt < fr) = false := decide_eq_false (by omega)
 have t3 : decide (200 * st < tt - fr) = false := decide_eq_false (by omega)
 have ew1 : IntKind.i64.wrap (tt - fr) = tt - fr := intFits _ (by omega) (by omega)
 have ew2 : IntKind.i64.wrap (200 * st) = 200 * st := intFits _ (by omega) (by omega)
 have HIa := Lib.hid (fun W => isInstant_yes fr W ⟨by omega, by omega⟩)
 have HIb := Lib.hid (fun W => isInstant_yes tt W ⟨by omega, by omega⟩)
 have hl1 := fun W => isLen_any len W
 have hl2 := fun W => isLen_any st W
 rw [decide_eq_true (show 1 ≤ len ∧ len ≤ 86400000 from ⟨h31, h32⟩)] at hl1
 rw [decide_eq_true (show 1 ≤ st ∧ st ≤ 86400000 from ⟨h41, h42⟩)] at hl2
 have HL1 := Lib.hid hl1
 have HL2 := Lib.hid hl2
 clear hl1 hl2
 go_upto_region 14 with (first | (go_at_call 27; first | (with_reducible refine (HIa.out _).mono ?_; rintro e w' ⟨rfl, nq, rfl⟩) | (with_reducible refine (HIb.out _).mono ?_; rintro e w' ⟨rfl, nq, rfl⟩)) | (go_at_call 56; first | (with_reducible refine (HL1.out _).mono ?_; rintro e w' ⟨rfl, rfl⟩) | (with_reducible refine (HL2.out _).mono ?_; rintro e w' ⟨rfl, rfl⟩)))
 generalize hw4 : World.drewN _ _ = w4
 have HB4 : Hid (Below w.heap.size w w4) := by rw [← hw4]; exact below_then HB3.out (below_drewN _ _)
 clear hw4 HB3 HIa HIb HL1 HL2 t2 t3 ew1 ew2
 go_wp2_with fail
 go_loopw [17, 18, 19, 60] (fun _ _ _ i wr => ∃ k : Int, (k = 0 ∨ k = 1) ∧ i = .int .i64 k ∧ Hid (Below w.heap.size w wr)) (fun _ _ _ i _ => (1 - intOf i).toNat)
 case atStart => exact ⟨0, .inl rfl, rfl, HB4⟩
 case round =>
  obtain ⟨k, hk, rfl, hb⟩ := hrel
  rcases hk with rfl | rfl
  ·have n0 : wr.cell? ⟨gn, 0, none⟩ = some (.string nOne) := (HGn.out.belowB hb.out HGn.out.lt).cell 0
   have nl := (HGn.out.belowB hb.out HGn.out.lt).lt
   have HL := Lib.hid (HLs.out wr hb.out)
   clear HB4
   generalize nOne = s1 at *
   go_wp2_with fail
   refine HL.out.mono ?_
   rintro e w5 ⟨A5, c5, rfl, _, hb5⟩
   have HB5 := Lib.hid (below_then hb.out hb5)
   clear hb5 HL hb n0
   go_wp2_with fail
   go_roundw
   case rel => exact ⟨1, .inr rfl, by go_num, HB5⟩
   case measure => simp [intOf]
  ·go_wp2_with fail
   exact HN.out 0 _ ⟨fun _ => HG.out, fun _ => rfl⟩ hb.out
end Go.Proofs.YtabidjmmgnkhkaaGreatDoor
/- Contract of plan.All. -/
namespace Go.Proofs.YtabidjmmgnkhkaaGreatDoor
open Go Go.RowKit
attribute [local go_sem] Oper.semAt_some
set_option linter.unusedVariables false
theorem slInfo : (Tryz.prog.info? 47).map (fun i => (i.zero, i.size, i.bytes)) = some (some (.agg #[.int .i64 0, .string ⟨#[]⟩, .int .i64 0]), 3, 32) := by kernel_rfl
def AllQ (l : List Pa) (bs : List Bk) (fr tt len st : Int) (w : World) (e : Ending) (w' : World) : Prop := ∃ (v : Value) (E : Int), e = .returned (.tuple #[v, .int .i64 E]) ∧ (E = 0 ↔ PasOk l) ∧ (E ≠ 0 → v = .slice none 0 0) ∧ (E = 0 → ∃ N A c, v = .slice A (slotsF l bs fr len st N).length c ∧ NOk fr tt len st N ∧ N ≤ 201 ∧ Row w' w'.heap.size A ((slotsF l bs fr len st N).flatMap slF)) ∧ Below w.heap.size w w'
set_option maxHeartbeats 16000000 in
set_option maxRecDepth 100000 in
theorem all_any (l : List Pa) (A : Option Addr) (cp : Nat) (B g gB : Nat) (An : Option Addr) (cn : Nat) (vs : List Value) (bs : List Bk) (gn : Nat) (fr tt len st : Int) (w : World) (hv : Env w) (hin : PasIn w w.heap.size A l) (hlc : l.length ≤ cp) (hcm : cp ≤ maxLen)
  (hrm : Rm1 w B g gB An cn vs bs) (hbs : bs.length ≤ 1000) (hgn : Box w gn 9 #[.string nOne]) (h0 : -200000000000000 ≤ fr) (h1 : fr ≤ tt) (h2 : tt ≤ 200000000000000) (h3 : 1 ≤ len ∧ len ≤ 86400000) (h4 : 1 ≤ st ∧ st ≤ 86400000) (h5 : tt - fr ≤ 200 * st) :
  Calls Tryz.prog 11 #[.slice A l.length cp, .pointer (some ⟨g, 0, none⟩), .slice (some ⟨gn, 0, none⟩) 1 1, .int .i64 fr, .int .i64 tt, .int .i64 len, .int .i64 st] w (AllQ l bs fr tt len st w) := by
 obtain ⟨i0, hi0, hz0, hz1, hz2⟩ := info_parts slInfo
 have HCk := Lib.hid (pchk_any l A cp B g gB An cn vs bs gn fr tt len st w hv hin hlc hcm hrm hbs hgn (by omega) h1 (by omega) h3 h4 h5)
 have HFr := Lib.hid (fun a b W (hb : Below w.heap.size w W) (q1 : -300000000000000 ≤ a ∧ a ≤ 300000000000000) (q2 : -300000000000000 ≤ b ∧ b ≤ 300000000000000) => free_room nOne 0 a b W (Rms.next hrm hb) (by simp) (by simp) idxOne (by simpa using hbs) (by omega) (by omega) (by omega) (by omega))
 have HSc := Lib.hid (fun (ok : PasOk l) a b W (hb : Below w.heap.size w W) q1 q2 q3 q4 => score_any l A cp a b W (hv.next hb) (hin.next hb hb.size) ok q1 q2 q3 q4)
 have HGn := Lib.hid hgn
 have HQ : Hid (∀ v E w', (E = 0 ↔ PasOk l) → (E ≠ 0 → v = .slice none 0 0) → (E = 0 → ∃ N A c, v = .slice A (slotsF l bs fr len st N).length c ∧ NOk fr tt len st N ∧ N ≤ 201 ∧ Row w' w'.heap.size A ((slotsF l bs fr len st N).flatMap slF)) → Below w.heap.size w w' → AllQ l bs fr tt len st w (.returned (.tuple #[v, .int .i64 E])) w') := fun v E w' a b c d => ⟨v, E, rfl, a, b, c, d⟩
 unfold IsChk at HCk
 unfold FreeQ at HFr
 generalize AllQ l bs fr tt len st w = POST at *
 clear hv hin hrm hgn
 obtain ⟨h31, h32⟩ := h3
 obtain ⟨h41, h42⟩ := h4
 go_enter Tryz.func11, Tryz.ntmps11
 go_wp2_with fail
 refine HCk.out.mono ?_
 rintro e w3 ⟨E, rfl, hE, hb3⟩
 have HE := Lib.hid hE
 have HB3 := Lib.hid hb3
 clear hE hb3 HCk
 by_cases hE0 : E = 0
 case neg =>
  have t1 : (E != 0) = true := by rw [bne_iff_ne]; exact hE0
  have HE0 := Lib.hid hE0
  clear hE0
  go_wp2_with fail
  exact HQ.out (.slice none 0 0) E _ HE.out (fun _ => rfl) (fun q => absurd q HE0.out) HB3.out
 subst hE0
 have HG := Lib.hid (HE.out.1 rfl)
 clear HE
 have HBd : Hid (∀ n : Nat, fr + (n : Int) * st + len ≤ tt → n ≤ 200) := fun n hn => by
  have hk : (n : Int) * st ≤ 200 * st := by omega
  have := Int.le_of_mul_le_mul_right hk (by omega)
  omega
 have HSl := Lib.hid (fun n => slotsF_len l bs fr len st n)
 go_wp2_with fail
 go_loopw [17, 18, 20, 21, 22, 43, 44, 45] (fun sv a _ _ _ _ _ _ wr => ∃ (n : Nat) (at_ : Int) (A' : Option Addr) (c' : Nat), n ≤ 201 ∧ a = .int .i64 at_ ∧ Hid (at_ = fr + (n : Int) * st) ∧ fr ≤ at_ ∧ at_ ≤ tt + st ∧ sv = .slice A' (slotsF l bs fr len st n).length c' ∧ Hid (∀ j : Nat, j < n → fr + (j : Int) * st + len ≤ tt) ∧ Hid (wr.ownsRow w.heap.size 47 3 (.slice A' (slotsF l bs fr len st n).length c') (slotsF l bs fr len st n).length ((slotsF l bs fr len st n).flatMap slF)) ∧ Hid (Below w.heap.size w wr)) (fun _ a _ _ _ _ _ _ _ => (tt + st + 1 - intOf a).toNat)
 case atStart => exact ⟨0, fr, none, 0, by omega, rfl, by unfold Hid; simp, by omega, by omega, rfl, fun j hj => by omega, World.ownsRow_nil _ _ _ _, HB3⟩
 case round =>
  obtain ⟨n, at_, A', c', hn, rfl, hat, ha1, ha2, rfl, hall, hown, hbr⟩ := hrel
  rename World => w9
  clear HB3
  have hsl := HSl.out n
  have ew1 : IntKind.i64.wrap (at_ + len) = at_ + len := intFits _ (by omega) (by omega)
  by_cases hlt : at_ + len ≤ tt
  case neg =>
   have t2 : decide (at_ + len ≤ tt) = false := decide_eq_false hlt
   have HR : Hid (∃ N A c, Value.slice A' (slotsF l bs fr len st n).length c' = .slice A (slotsF l bs fr len st N).length c ∧ NOk fr tt len st N ∧ N ≤ 201 ∧ Row w9 w9.heap.size A ((slotsF l bs fr len st N).flatMap slF)) := ⟨n, A', c', rfl, ⟨hall.out, by have := hat.out; omega⟩, hn, row_ownB hown.out⟩
   clear hlt
   generalize Value.slice A' (slotsF l bs fr len st n).length c' = v17 at *
   go_wp2_with fail
   exact HQ.out v17 0 _ ⟨fun _ => HG.out, fun _ => rfl⟩ (fun q => absurd rfl q) (fun _ => HR.out) hbr.out
  have t2 : decide (at_ + len ≤ tt) = true := decide_eq_true hlt
  have hn2 : n ≤ 200 := HBd.out n (by have := hat.out; omega)
  have HAll : Hid (∀ j : Nat, j < n + 1 → fr + (j : Int) * st + len ≤ tt) := fun j hj => by
   by_cases e : j = n
   ·subst e; have := hat.out; omega
   ·exact hall.out j (by omega)
  have HAt : Hid (at_ + st = fr + ((n + 1 : Nat) : Int) * st) := by
   unfold Hid
   rw [Int.natCast_add, Int.add_mul, hat.out]
   simp
   omega
  have HSs : Hid (slotsF l bs fr len st (n + 1) = slotsF l bs fr len st n ++ (if bs.any (fun x => x.over at_ (at_ + len)) then [] else [⟨at_, nOne, scoreF l at_ (at_ + len)⟩])) := by
   unfold Hid
   rw [slotsF, ← hat.out]
  clear hall hat
  go_upto_block 1 with fail
  go_cut [17] (fun s17 wx => ∃ (A2 : Option Addr) (c2 : Nat), s17 = .slice A2 (slotsF l bs fr len st (n + 1)).length c2 ∧ Hid (wx.ownsRow w.heap.size 47 3 (.slice A2 (slotsF l bs fr len st (n + 1)).length c2) (slotsF l bs fr len st (n + 1)).length ((slotsF l bs fr len st (n + 1)).flatMap slF)) ∧ Hid (Below w.heap.size w wx))
  case first =>
   have n0 : w9.cell? ⟨gn, 0, none⟩ = some (.string nOne) := (HGn.out.belowB hbr.out HGn.out.lt).cell 0
   have nl := (HGn.out.belowB hbr.out HGn.out.lt).lt
   have HF := Lib.hid (HFr.out at_ (at_ + len) w9 hbr.out ⟨by omega, by omega⟩ ⟨by omega, by omega⟩)
   have HS5 := Lib.hid (fun W hb => HSc.out HG.out at_ (at_ + len) W hb (by omega) (by omega) (by omega) (by omega))
   generalize hsc : scoreF l at_ (at_ + len) = sc at *
   obtain ⟨m, hm⟩ : ∃ m, m = (slotsF l bs fr len st n).length := ⟨_, rfl⟩
   have HM := Lib.hid hm
   rw [← hm] at hown hsl ⊢
   clear hm
   obtain ⟨fl, hfl⟩ : ∃ fl, fl = bs.any (fun x => x.over at_ (at_ + len)) := ⟨_, rfl⟩
   have HFl := Lib.hid hfl
   rw [← hfl] at HSs
   have HF2 : Hid (Calls Tryz.prog 31 #[.pointer (some ⟨g, 0, none⟩), .string nOne, .int .i64 at_, .int .i64 (at_ + len)] w9 fun e w' => e = .returned (.tuple #[.bool (!fl), .int .i64 0]) ∧ Below w9.heap.size w9 w') := HF.out.mono fun e w' ⟨r, E, he, q1, q2, q3⟩ => by
    have hE : E = 0 := q1.2 ⟨⟨by omega, by omega⟩, ⟨by omega, by omega⟩, by omega⟩
    rw [he, q2 hE, hE, hfl]
    exact ⟨by simp, q3⟩
   clear hfl HF
   go_wp2_with fail
   go_loopw [17, 20, 21, 22, 45] (fun sv _ _ _ i wr => ∃ k : Int, i = .int .i64 k ∧ sv = .slice A' m c' ∧ Hid (wr.ownsRow w.heap.size 47 3 (.slice A' m c') m ((slotsF l bs fr len st n).flatMap slF)) ∧ Hid (Below w.heap.size w wr) ∧ ((k = 0 ∧ wr = w9) ∨ (k = 1 ∧ fl = true))) (fun _ _ _ _ i _ => (1 - intOf i).toNat)
   case atStart => exact ⟨0, rfl, rfl, hown, hbr, .inl ⟨rfl, rfl⟩⟩
   case round =>
    obtain ⟨k, rfl, rfl, ho, hb, hk⟩ := hrel
    rcases hk with ⟨rfl, rfl⟩ | ⟨rfl, hff⟩
    ·generalize hnone : nOne = s1 at *
     go_wp2_with fail
     refine HF2.out.mono ?_
     rintro e w5 ⟨rfl, hb5⟩
     have HB5 := Lib.hid (below_then hb.out hb5)
     have HO5 := Lib.hid (own_next ho.out hb5)
     clear hb5 HF2 ho hb n0
     cases fl with
     | true =>
      go_wp2_with fail
      go_roundw
      case rel => exact ⟨1, by go_num, rfl, HO5, HB5, .inr ⟨rfl, by first | rfl | trivial⟩⟩
      case measure => simp [intOf]
     | false =>
      have HS6 := Lib.hid (HS5.out w5 HB5.out)
      go_wp2_with fail
      refine HS6.out.mono ?_
      rintro e w6 ⟨rfl, hb6⟩
      have HB6 := Lib.hid (below_then HB5.out hb6)
      have hown6 := own_next HO5.out hb6
      have hsz6 := HB6.out.size
      clear hb6 HS6 HB5 HO5
      go_wp2_with (at_builtin; refine wpList_append_own _ rfl (.tmp 60) (.tmp 70) 43 rfl w.heap.size 47 i0 (.agg #[.int .i64 0, .string ⟨#[]⟩, .int .i64 0]) 3 32 Tryz.underlying43 hi0 hz0 hz1 hz2 rfl (by decide) (.slice A' m c') m _ rfl (hown6.alloc _) ⟨w6.heap.size, 0, none⟩ 1 1 [.int .i64 at_, .string s1, .int .i64 sc] rfl rfl ?c1 ?c2 ?c3 ?c4 ?c5 ?_)
      case c1 => exact fun j u hj => World.news_of_block (cs := #[.int .i64 at_, .string s1, .int .i64 sc]) (t := 47) (fr := (0, 0)) (heap_alloc_new w6 _) j u hj
      case c2 => simp [Value.oneCell']
      case c3 => unfold maxLen; omega
      case c4 => omega
      case c5 => simp only [World.size_alloc]; omega
      intro v' w7 hown' hgrow _
      obtain ⟨A7, c7, rfl, _⟩ := own_form hown'
      have HB7 := Lib.hid ((HB6.out.alloc hsz6 (Obj.cells #[.int .i64 at_, .string s1, .int .i64 sc] 47)).grown hgrow (by simp only [World.size_alloc]; omega) (fun b hb => (own_lt hown6 b hb).1))
      have HL7 : Hid ((slotsF l bs fr len st (n + 1)).length = m + 1 ∧ (slotsF l bs fr len st (n + 1)).flatMap slF = (slotsF l bs fr len st n).flatMap slF ++ [.int .i64 at_, .string s1, .int .i64 sc]) := by
       unfold Hid
       rw [HSs.out, HM.out, ← hnone]
       simp [slF]
      have HO7 : Hid (w7.ownsRow w.heap.size 47 3 (.slice A7 (slotsF l bs fr len st (n + 1)).length c7) (slotsF l bs fr len st (n + 1)).length ((slotsF l bs fr len st (n + 1)).flatMap slF)) := by
       unfold Hid
       rw [HL7.out.2, HL7.out.1]
       exact hown'
      have HV7 : Hid (Value.slice A7 (m + 1) c7 = .slice A7 (slotsF l bs fr len st (n + 1)).length c7) := by unfold Hid; rw [HL7.out.1]
      clear hown' hgrow hown6 HB6 hnone
      go_wp2_with fail
      go_meet
      exact ⟨A7, c7, HV7.out, HO7, HB7⟩
    ·have HL7 : Hid (slotsF l bs fr len st (n + 1) = slotsF l bs fr len st n) := by unfold Hid; rw [HSs.out, hff]; simp
     have HO7 : Hid (wr.ownsRow w.heap.size 47 3 (.slice A' (slotsF l bs fr len st (n + 1)).length c') (slotsF l bs fr len st (n + 1)).length ((slotsF l bs fr len st (n + 1)).flatMap slF)) := by
      unfold Hid
      rw [HL7.out, ← HM.out]
      exact ho.out
     have HV7 : Hid (Value.slice A' m c' = .slice A' (slotsF l bs fr len st (n + 1)).length c') := by unfold Hid; rw [HL7.out, ← HM.out]
     clear ho hff
     go_wp2_with fail
     go_meet
     exact ⟨A', c', HV7.out, HO7, hb⟩
  case rest =>
  obtain ⟨A2, c2, rfl, hown2, hbx⟩ := hcut
  clear hown hbr HSs
  have ew2 : IntKind.i64.wrap (at_ + st) = at_ + st := intFits _ (by omega) (by omega)
  obtain ⟨m2, hm2⟩ : ∃ m2, m2 = (slotsF l bs fr len st (n + 1)).length := ⟨_, rfl⟩
  have HM2 := Lib.hid hm2
  have HV2 : Hid (Value.slice A2 m2 c2 = .slice A2 (slotsF l bs fr len st (n + 1)).length c2) := by unfold Hid; rw [hm2]
  rw [← hm2]
  clear hm2
  go_wp2_with fail
  go_roundw
  case rel => exact ⟨n + 1, at_ + st, A2, c2, by omega, rfl, HAt, by omega, by omega, HV2.out, HAll, hown2, hbx⟩
  case measure => simp [intOf]; omega
end Go.Proofs.YtabidjmmgnkhkaaGreatDoor
/- Contract of plan.Best. -/
namespace Go.Proofs.YtabidjmmgnkhkaaGreatDoor
open Go Go.RowKit
attribute [local go_sem] Oper.semAt_some
set_option linter.unusedVariables false
def BestK (l : List Sl) (k : Nat) (s : Sl) : Prop := ∃ j, j < l.length ∧ (j < k ∨ j = 0) ∧ l.getD j sl0 = s ∧ ∀ i, i < k → (l.getD i sl0).sc ≤ s.sc ∧ ((l.getD i sl0).sc = s.sc → ∃ q, q ≤ i ∧ l.getD q sl0 = s)
theorem BestK.zero {l : List Sl} (h : 0 < l.length) : BestK l 0 (l.getD 0 sl0) := ⟨0, h, .inr rfl, rfl, fun i hi => by omega⟩
theorem BestK.more {l : List Sl} {k : Nat} {s : Sl} (h : BestK l k s) (hk : k < l.length) (hs : s.sc < (l.getD k sl0).sc) : BestK l (k + 1) (l.getD k sl0) := by
 obtain ⟨j, h1, h2, h3, h4⟩ := h
 refine ⟨k, hk, .inl (by omega), rfl, fun i hi => ?_⟩
 by_cases e : i = k
 ·subst e; exact ⟨Int.le_refl _, fun _ => ⟨i, Nat.le_refl _, rfl⟩⟩
 ·have := (h4 i (by omega)).1
  exact ⟨by omega, fun q => by omega⟩
theorem BestK.same {l : List Sl} {k : Nat} {s : Sl} (h : BestK l k s) (hk : k < l.length) (hs : ¬ s.sc < (l.getD k sl0).sc) : BestK l (k + 1) s := by
 obtain ⟨j, h1, h2, h3, h4⟩ := h
 refine ⟨j, h1, by omega, h3, fun i hi => ?_⟩
 by_cases e : i = k
 ·subst e; exact ⟨by omega, fun _ => ⟨j, by omega, h3⟩⟩
 ·exact h4 i (by omega)
theorem getD_sl {l : List Sl} {i : Nat} (h : i < l.length) : l.getD i sl0 ∈ l := by
 rw [List.getD_eq_getElem?_getD, List.getElem?_eq_getElem h]
 exact List.getElem_mem h
theorem BestK.best {l : List Sl} {k : Nat} {s : Sl} (h : BestK l k s) (hk : l.length ≤ k) : BestS l s := by
 obtain ⟨j, h1, h2, h3, h4⟩ := h
 exact ⟨by rw [← h3]; exact getD_sl h1, fun i hi => h4 i (by omega)⟩
def BestQ (l : List Pa) (bs : List Bk) (fr tt len st : Int) (w : World) (e : Ending) (w' : World) : Prop := ∃ (s : Sl) (E : Int), e = .returned (.tuple #[.agg #[.int .i64 s.fr, .string s.rm, .int .i64 s.sc], .int .i64 E]) ∧ (E = 0 → PasOk l ∧ ∃ N, NOk fr tt len st N ∧ N ≤ 201 ∧ BestS (slotsF l bs fr len st N) s) ∧ (E ≠ 0 → ¬ PasOk l ∨ (E = 6 ∧ ∃ N, NOk fr tt len st N ∧ slotsF l bs fr len st N = [])) ∧ Below w.heap.size w w'
theorem slcells {w : World} {g : Nat} {a c : Int} {b : ByteArray} (h : Box w g 47 #[.int .i64 a, .string b, .int .i64 c]) : w.cell? ⟨g, 0, none⟩ = some (.int .i64 a) ∧ w.cell? ⟨g, 1, none⟩ = some (.string b) ∧ w.cell? ⟨g, 2, none⟩ = some (.int .i64 c) := ⟨h.cell 0, h.cell 1, h.cell 2⟩
set_option maxHeartbeats 16000000 in
set_option maxRecDepth 100000 in
theorem best_any (l : List Pa) (A : Option Addr) (cp : Nat) (B g gB : Nat) (An : Option Addr) (cn : Nat) (vs : List Value) (bs : List Bk) (gn : Nat) (fr tt len st : Int) (w : World) (hv : Env w) (hin : PasIn w w.heap.size A l) (hlc : l.length ≤ cp) (hcm : cp ≤ maxLen)
  (hrm : Rm1 w B g gB An cn vs bs) (hbs : bs.length ≤ 1000) (hgn : Box w gn 9 #[.string nOne]) (h0 : -200000000000000 ≤ fr) (h1 : fr ≤ tt) (h2 : tt ≤ 200000000000000) (h3 : 1 ≤ len ∧ len ≤ 86400000) (h4 : 1 ≤ st ∧ st ≤ 86400000) (h5 : tt - fr ≤ 200 * st) :
  Calls Tryz.prog 12 #[.slice A l.length cp, .pointer (some ⟨g, 0, none⟩), .slice (some ⟨gn, 0, none⟩) 1 1, .int .i64 fr, .int .i64 tt, .int .i64 len, .int .i64 st] w (BestQ l bs fr tt len st w) := by
 have hb1 := below_alloc1 w (Obj.cells #[.int .i64 0, .string ⟨#[]⟩, .int .i64 0] 47)
 have HAl := Lib.hid (all_any l A cp B g gB An cn vs bs gn fr tt len st (w.alloc (Obj.cells #[.int .i64 0, .string ⟨#[]⟩, .int .i64 0] 47)) (hv.next hb1) (hin.next hb1 hb1.size) hlc hcm (Rms.next hrm hb1) hbs (hgn.below hb1) h0 h1 h2 h3 h4 h5)
 unfold AllQ at HAl
 have HB1 := Lib.hid hb1
 have HR1 := Lib.hid (Box.new w 47 #[.int .i64 0, .string ⟨#[]⟩, .int .i64 0])
 have HQ : Hid (∀ (s : Sl) E w', (E = 0 → PasOk l ∧ ∃ N, NOk fr tt len st N ∧ N ≤ 201 ∧ BestS (slotsF l bs fr len st N) s) → (E ≠ 0 → ¬ PasOk l ∨ (E = 6 ∧ ∃ N, NOk fr tt len st N ∧ slotsF l bs fr len st N = [])) → Below w.heap.size w w' → BestQ l bs fr tt len st w (.returned (.tuple #[.agg #[.int .i64 s.fr, .string s.rm, .int .i64 s.sc], .int .i64 E])) w') := fun s E w' a b c => ⟨s, E, rfl, a, b, c⟩
 generalize BestQ l bs fr tt len st w = POST at *
 clear hb1 hv hin hrm hgn h0 h1 h2 h3 h4 h5 hbs
 go_enter Tryz.func12, Tryz.ntmps12
 go_upto_region 1 with fail
 obtain ⟨gr, hgr⟩ : ∃ gr, gr = w.heap.size := ⟨_, rfl⟩
 have HGr := Lib.hid hgr
 rw [← hgr] at HR1 ⊢
 have hwg : w.heap.size ≤ gr := by omega
 clear hgr
 generalize w.alloc (Obj.cells #[.int .i64 0, .string ⟨#[]⟩, .int .i64 0] 47) = w1 at *
 go_wp2_with fail
 refine HAl.out.mono ?_
 rintro e w3 ⟨v, E, rfl, hE, hnil, hy, hb3⟩
 have HE := Lib.hid hE
 have HY := Lib.hid hy
 have HB3 := Lib.hid (below_then HB1.out hb3)
 have HR3 := Lib.hid (HR1.out.below hb3)
 clear hE hnil hy hb3 HAl HB1 HR1
 obtain ⟨r0, r1, r2⟩ := slcells HR3.out
 have rf : ∀ i, w3.frozen? ⟨gr, i, none⟩ = false := fun i => HR3.out.free i
 have rl := HR3.out.lt
 by_cases hE0 : E = 0
 case neg =>
  have t1 : (E != 0) = true := by rw [bne_iff_ne]; exact hE0
  have HE0 := Lib.hid hE0
  clear hE0
  go_wp2_with fail
  have hz4 := ((HR3.out.set_ 0 (.int .i64 0)).set_ 1 (.string ⟨#[]⟩)).set_ 2 (.int .i64 0)
  have HB9 : Hid (Below w.heap.size w (((w3.setCell ⟨gr, 0, none⟩ (.int .i64 0)).setCell ⟨gr, 1, none⟩ (.string ⟨#[]⟩)).setCell ⟨gr, 2, none⟩ (.int .i64 0))) := ((HB3.out.setCell (p := ⟨gr, 0, none⟩) hwg _).setCell (p := ⟨gr, 1, none⟩) hwg _).setCell (p := ⟨gr, 2, none⟩) hwg _
  generalize ((w3.setCell ⟨gr, 0, none⟩ (.int .i64 0)).setCell ⟨gr, 1, none⟩ (.string ⟨#[]⟩)).setCell ⟨gr, 2, none⟩ (.int .i64 0) = w9 at *
  obtain ⟨q0, q1, q2⟩ := slcells (show Box w9 gr 47 #[.int .i64 0, .string ⟨#[]⟩, .int .i64 0] from hz4)
  have ql := hz4.lt
  refine bodyPost_ret (v := .tuple #[.agg #[.int .i64 0, .string ⟨#[]⟩, .int .i64 0], .int .i64 E]) (by simp [results, Tryz.results12, go_sem, q0, q1, q2]) rfl ?_
  exact HQ.out ⟨0, ⟨#[]⟩, 0⟩ E _ (fun q => absurd q HE0.out) (fun _ => .inl (fun q => HE0.out (HE.out.2 q))) HB9.out
 have HG := Lib.hid (HE.out.1 hE0)
 obtain ⟨N, A', c', rfl, hN, hN2, hrow⟩ := HY.out hE0
 subst hE0
 have HN := Lib.hid hN
 have HRow := Lib.hid hrow
 have HQ6 : Hid (∀ w', slotsF l bs fr len st N = [] → Below w.heap.size w w' → POST (.returned (.tuple #[.agg #[.int .i64 0, .string ⟨#[]⟩, .int .i64 0], .int .i64 6])) w') := fun w' h hb => HQ.out ⟨0, ⟨#[]⟩, 0⟩ 6 w' (fun q => by omega) (fun _ => .inr ⟨rfl, N, HN.out, h⟩) hb
 have HQ0 : Hid (∀ (s : Sl) w', BestS (slotsF l bs fr len st N) s → Below w.heap.size w w' → POST (.returned (.tuple #[.agg #[.int .i64 s.fr, .string s.rm, .int .i64 s.sc], .int .i64 0])) w') := fun s w' h hb => HQ.out s 0 w' (fun _ => ⟨HG.out, N, HN.out, hN2, h⟩) (fun q => absurd rfl q) hb
 have hln := slotsF_len l bs fr len st N
 generalize slotsF l bs fr len st N = sl at *
 clear hrow hN HY HE HQ
 by_cases h0 : sl.length = 0
 ·have t2 : ((sl.length : Int) == 0) = true := by rw [beq_iff_eq]; omega
  have t2' : (sl.length == 0) = true := by rw [beq_iff_eq]; exact h0
  have HNil : Hid (sl = []) := List.eq_nil_of_length_eq_zero h0
  clear h0
  go_wp2_with fail
  have hz4 := ((HR3.out.set_ 0 (.int .i64 0)).set_ 1 (.string ⟨#[]⟩)).set_ 2 (.int .i64 0)
  have HB9 : Hid (Below w.heap.size w (((w3.setCell ⟨gr, 0, none⟩ (.int .i64 0)).setCell ⟨gr, 1, none⟩ (.string ⟨#[]⟩)).setCell ⟨gr, 2, none⟩ (.int .i64 0))) := ((HB3.out.setCell (p := ⟨gr, 0, none⟩) hwg _).setCell (p := ⟨gr, 1, none⟩) hwg _).setCell (p := ⟨gr, 2, none⟩) hwg _
  generalize ((w3.setCell ⟨gr, 0, none⟩ (.int .i64 0)).setCell ⟨gr, 1, none⟩ (.string ⟨#[]⟩)).setCell ⟨gr, 2, none⟩ (.int .i64 0) = w9 at *
  obtain ⟨q0, q1, q2⟩ := slcells (show Box w9 gr 47 #[.int .i64 0, .string ⟨#[]⟩, .int .i64 0] from hz4)
  have ql := hz4.lt
  refine bodyPost_ret (v := .tuple #[.agg #[.int .i64 0, .string ⟨#[]⟩, .int .i64 0], .int .i64 6]) (by simp [results, Tryz.results12, go_sem, q0, q1, q2]) rfl ?_
  exact HQ6.out _ HNil.out HB9.out
 have t2 : ((sl.length : Int) == 0) = false := by rw [beq_eq_false_iff_ne]; omega
 have t2' : (sl.length == 0) = false := by rw [beq_eq_false_iff_ne]; exact h0
 obtain ⟨b, o, rfl, hb, hc⟩ := HRow.out.open_ (flat_ne slF_len (by omega) sl (by omega))
 have y0 : w3.cell? ⟨b, o, none⟩ = some (.int .i64 (sl.getD 0 sl0).fr) := by have := flat_cell slF_len sl0 hc 0 0 (by omega) (by omega) _ rfl; simpa using this
 have y1 : w3.cell? ⟨b, o + 1, none⟩ = some (.string (sl.getD 0 sl0).rm) := by have := flat_cell slF_len sl0 hc 0 1 (by omega) (by omega) _ rfl; simpa using this
 have y2 : w3.cell? ⟨b, o + 2, none⟩ = some (.int .i64 (sl.getD 0 sl0).sc) := by have := flat_cell slF_len sl0 hc 0 2 (by omega) (by omega) _ rfl; simpa using this
 have HC3 := Lib.hid hc
 have HBk0 := Lib.hid (BestK.zero (l := sl) (by omega))
 have hsl1 : 0 < sl.length := by omega
 clear hc h0
 generalize sl.getD 0 sl0 = s0 at *
 have HB4 := Lib.hid (below_then HB3.out (below_alloc1 w3 (Obj.cells #[.int .i64 s0.fr, .string s0.rm, .int .i64 s0.sc] 47)))
 have HS4 := Lib.hid (Box.new w3 47 #[.int .i64 s0.fr, .string s0.rm, .int .i64 s0.sc])
 have HR4 := Lib.hid (HR3.out.alloc (Obj.cells #[.int .i64 s0.fr, .string s0.rm, .int .i64 s0.sc] 47))
 have HA3 := Lib.hid (below_alloc1 w3 (Obj.cells #[.int .i64 s0.fr, .string s0.rm, .int .i64 s0.sc] 47))
 clear r0 r1 r2 rf
 go_upto_region 7 with fail
 obtain ⟨gs, hgs⟩ : ∃ gs, gs = w3.heap.size := ⟨_, rfl⟩
 rw [← hgs] at HS4 hb rl ⊢
 have hwgs : w.heap.size ≤ gs := by have := HB3.out.size; omega
 have HGs := Lib.hid hgs
 generalize hw4 : w3.alloc (Obj.cells #[.int .i64 s0.fr, .string s0.rm, .int .i64 s0.sc] 47) = w4 at *
 clear y0 y1 y2 hgs hw4 t2 t2'
 go_wp2_with fail
 go_loopw [20, 45] (fun _ i wr => ∃ (k : Nat) (s : Sl), k ≤ sl.length ∧ i = .int .i64 (k : Int) ∧ Hid (BestK sl k s) ∧ Hid (Box wr gs 47 #[.int .i64 s.fr, .string s.rm, .int .i64 s.sc]) ∧ Hid (Box wr gr 47 #[.int .i64 0, .string ⟨#[]⟩, .int .i64 0]) ∧ Hid (∀ j v, (sl.flatMap slF)[j]? = some v → wr.cell? ⟨b, o + j, none⟩ = some v) ∧ gs < wr.heap.size ∧ Hid (Below w.heap.size w wr)) (fun _ i _ => sl.length - (intOf i).toNat)
 case atStart => exact ⟨0, s0, by omega, rfl, HBk0, HS4, HR4, fun j v hv => (HA3.out.cell (p := ⟨b, o + j, none⟩) (by show b < w3.heap.size; rw [← HGs.out]; exact hb)).trans (HC3.out j v hv), HS4.out.lt, HB4⟩
 case round =>
  obtain ⟨k, s, hk, rfl, hbk, hs, hr, hcs, hgl, hbr⟩ := hrel
  clear HBk0 HS4 HR4 HB4 HC3
  by_cases hlt : k < sl.length
  case neg =>
   have HBs := Lib.hid (hbk.out.best (by omega))
   obtain ⟨s1, s2, s3⟩ := slcells hs.out
   have HRr := hr
   have HBr := hbr
   obtain ⟨r0, r1, r2⟩ := slcells hr.out
   have rf : ∀ i, wr.frozen? ⟨gr, i, none⟩ = false := fun i => hr.out.free i
   have rl2 := hr.out.lt
   obtain ⟨sf, sr, sc⟩ := s
   dsimp only at s1 s2 s3
   go_wp2_with fail
   have hz4 := ((HRr.out.set_ 0 (.int .i64 sf)).set_ 1 (.string sr)).set_ 2 (.int .i64 sc)
   have HB9 : Hid (Below w.heap.size w (((wr.setCell ⟨gr, 0, none⟩ (.int .i64 sf)).setCell ⟨gr, 1, none⟩ (.string sr)).setCell ⟨gr, 2, none⟩ (.int .i64 sc))) := ((HBr.out.setCell (p := ⟨gr, 0, none⟩) hwg _).setCell (p := ⟨gr, 1, none⟩) hwg _).setCell (p := ⟨gr, 2, none⟩) hwg _
   generalize ((wr.setCell ⟨gr, 0, none⟩ (.int .i64 sf)).setCell ⟨gr, 1, none⟩ (.string sr)).setCell ⟨gr, 2, none⟩ (.int .i64 sc) = w9 at *
   obtain ⟨q0, q1, q2⟩ := slcells (show Box w9 gr 47 #[.int .i64 sf, .string sr, .int .i64 sc] from hz4)
   have ql := hz4.lt
   refine bodyPost_ret (v := .tuple #[.agg #[.int .i64 sf, .string sr, .int .i64 sc], .int .i64 0]) (by simp [results, Tryz.results12, go_sem, q0, q1, q2]) rfl ?_
   exact HQ0.out ⟨sf, sr, sc⟩ _ HBs.out HB9.out
  have y0 : wr.cell? ⟨b, o + k * 3, none⟩ = some (.int .i64 (sl.getD k sl0).fr) := flat_cell slF_len sl0 hcs.out k 0 hlt (by omega) _ rfl
  have y1 : wr.cell? ⟨b, o + k * 3 + 1, none⟩ = some (.string (sl.getD k sl0).rm) := flat_cell slF_len sl0 hcs.out k 1 hlt (by omega) _ rfl
  have y2 : wr.cell? ⟨b, o + k * 3 + 2, none⟩ = some (.int .i64 (sl.getD k sl0).sc) := flat_cell slF_len sl0 hcs.out k 2 hlt (by omega) _ rfl
  have HM := Lib.hid (fun q => hbk.out.more hlt q)
  have HSm := Lib.hid (fun q => hbk.out.same hlt q)
  generalize sl.getD k sl0 = x at *
  have hbl : b < wr.heap.size := by omega
  have hne : ¬ b = gs := by omega
  have HB5 := Lib.hid (below_then hbr.out (below_alloc1 wr (Obj.cells #[.int .i64 x.fr, .string x.rm, .int .i64 x.sc] 47)))
  have HX5 := Lib.hid (Box.new wr 47 #[.int .i64 x.fr, .string x.rm, .int .i64 x.sc])
  have HS5 := Lib.hid (hs.out.alloc (Obj.cells #[.int .i64 x.fr, .string x.rm, .int .i64 x.sc] 47))
  have HR5 := Lib.hid (hr.out.alloc (Obj.cells #[.int .i64 x.fr, .string x.rm, .int .i64 x.sc] 47))
  have HC5 : Hid (∀ j v, (sl.flatMap slF)[j]? = some v → (wr.alloc (Obj.cells #[.int .i64 x.fr, .string x.rm, .int .i64 x.sc] 47)).cell? ⟨b, o + j, none⟩ = some v) := fun j v hv => ((below_alloc1 wr _).cell (p := ⟨b, o + j, none⟩) hbl).trans (hcs.out j v hv)
  have hsz5 : (wr.alloc (Obj.cells #[.int .i64 x.fr, .string x.rm, .int .i64 x.sc] 47)).heap.size = wr.heap.size + 1 := World.size_alloc _ _
  clear hs hr hcs hbr hbk
  go_upto_region 10 with fail
  clear y0 y1 y2
  generalize wr.alloc (Obj.cells #[.int .i64 x.fr, .string x.rm, .int .i64 x.sc] 47) = w5 at *
  obtain ⟨gx, hgx⟩ : ∃ gx, gx = wr.heap.size := ⟨_, rfl⟩
  rw [← hgx] at HX5 hgl hsz5 ⊢
  clear hgx
  obtain ⟨x0, x1, x2⟩ := slcells HX5.out
  obtain ⟨s1, s2, s3⟩ := slcells HS5.out
  have hgl5 : gs < w5.heap.size := by omega
  obtain ⟨xf, xr, xc⟩ := x
  obtain ⟨sf, sr, sc⟩ := s
  dsimp only at x0 x1 x2 s1 s2 s3 HM HSm
  by_cases hcmp : sc < xc
  ·have t3 : decide (sc < xc) = true := decide_eq_true hcmp
   have HM2 := Lib.hid (HM.out hcmp)
   have sfr : ∀ i, w5.frozen? ⟨gs, i, none⟩ = false := fun i => HS5.out.free i
   have HS6 : Hid (Box (((w5.setCell ⟨gs, 0, none⟩ (.int .i64 xf)).setCell ⟨gs, 1, none⟩ (.string xr)).setCell ⟨gs, 2, none⟩ (.int .i64 xc)) gs 47 #[.int .i64 xf, .string xr, .int .i64 xc]) := ((HS5.out.set_ 0 (.int .i64 xf)).set_ 1 (.string xr)).set_ 2 (.int .i64 xc)
   have HR6 : Hid (Box (((w5.setCell ⟨gs, 0, none⟩ (.int .i64 xf)).setCell ⟨gs, 1, none⟩ (.string xr)).setCell ⟨gs, 2, none⟩ (.int .i64 xc)) gr 47 #[.int .i64 0, .string ⟨#[]⟩, .int .i64 0]) := ((HR5.out.far (p := ⟨gs, 0, none⟩) (by show gr ≠ gs; omega) _).far (p := ⟨gs, 1, none⟩) (by show gr ≠ gs; omega) _).far (p := ⟨gs, 2, none⟩) (by show gr ≠ gs; omega) _
   have HB6 : Hid (Below w.heap.size w (((w5.setCell ⟨gs, 0, none⟩ (.int .i64 xf)).setCell ⟨gs, 1, none⟩ (.string xr)).setCell ⟨gs, 2, none⟩ (.int .i64 xc))) := ((HB5.out.setCell (p := ⟨gs, 0, none⟩) hwgs _).setCell (p := ⟨gs, 1, none⟩) hwgs _).setCell (p := ⟨gs, 2, none⟩) hwgs _
   have HC6 : Hid (∀ j v, (sl.flatMap slF)[j]? = some v → (((w5.setCell ⟨gs, 0, none⟩ (.int .i64 xf)).setCell ⟨gs, 1, none⟩ (.string xr)).setCell ⟨gs, 2, none⟩ (.int .i64 xc)).cell? ⟨b, o + j, none⟩ = some v) := fun j v hv => (cell_heap' (by rw [Below.heap_setCell _ _ _ b hne, Below.heap_setCell _ _ _ b hne, Below.heap_setCell _ _ _ b hne])).trans (HC5.out j v hv)
   have hs6 : gs < (((w5.setCell ⟨gs, 0, none⟩ (.int .i64 xf)).setCell ⟨gs, 1, none⟩ (.string xr)).setCell ⟨gs, 2, none⟩ (.int .i64 xc)).heap.size := by simpa using hgl5
   clear hcmp HM HSm
   go_wp2_with fail
   go_roundw
   case rel => exact ⟨k + 1, ⟨xf, xr, xc⟩, by omega, by go_num, HM2, HS6, HR6, HC6, hs6, HB6⟩
   case measure => simp [intOf]; omega
  ·have t3 : decide (sc < xc) = false := decide_eq_false hcmp
   have HM2 := Lib.hid (HSm.out hcmp)
   clear hcmp HM HSm
   go_wp2_with fail
   go_roundw
   case rel => exact ⟨k + 1, ⟨sf, sr, sc⟩, by omega, by go_num, HM2, HS5, HR5, HC5, hgl5, HB5⟩
   case measure => simp [intOf]; omega
end Go.Proofs.YtabidjmmgnkhkaaGreatDoor
/- The constants of the laws on meetings; steps that are too long; slots come in order. -/
namespace Go.Proofs.YtabidjmmgnkhkaaGreatDoor
open Go Go.RowKit
attribute [local go_sem] Oper.semAt_some
set_option linter.unusedVariables false
theorem slotsF_mono (l : List Pa) (bs : List Bk) (fr len st : Int) (hst : 0 ≤ st) (n : Nat) : (slotsF l bs fr len st n).Pairwise (fun a b => a.fr ≤ b.fr) := by
 induction n with
 | zero => exact .nil
 | succ n ih =>
  rw [slotsF, List.pairwise_append]
  refine ⟨ih, ?_, fun a ha b hb => ?_⟩
  ·split
   ·exact .nil
   ·exact List.pairwise_singleton _ _
  ·obtain ⟨j, h1, _, h3⟩ := (slotsF_mem l bs fr len st n a).1 ha
   split at hb
   ·cases hb
   ·have hb' : b = ⟨fr + (n : Int) * st, nOne, scoreF l (fr + (n : Int) * st) (fr + (n : Int) * st + len)⟩ := by simpa using hb
    rw [h3, hb']
    show fr + (j : Int) * st ≤ fr + (n : Int) * st
    have := Int.mul_le_mul_of_nonneg_right (show (j : Int) ≤ (n : Int) by omega) hst
    omega
theorem slots_le {l : List Sl} (h : l.Pairwise (fun a b => a.fr ≤ b.fr)) {q i : Nat} (hq : q ≤ i) (hi : i < l.length) : (l.getD q sl0).fr ≤ (l.getD i sl0).fr := by
 rcases Nat.lt_or_ge q i with hlt | hge
 ·have := List.pairwise_iff_getElem.1 h q i (by omega) hi hlt
  rw [List.getD_eq_getElem?_getD, List.getD_eq_getElem?_getD, List.getElem?_eq_getElem (show q < l.length by omega), List.getElem?_eq_getElem hi]
  exact this
 ·obtain rfl : q = i := by omega
  exact Int.le_refl _
def mePa (A : Option Addr) : Pa := ⟨nMe, znA, oneHr A ⟨0, 86400000⟩, 2⟩
theorem day1 : SpOk1 ⟨0, 86400000⟩ := ⟨by decide, by decide, by decide⟩
theorem mePas_ok (A : Option Addr) : PasOk [mePa A] := ⟨⟨by simp, by simp⟩, fun i hi => by
 have : i < 1 := hi
 obtain rfl : i = 0 := by omega
 exact ⟨me_ok, rfl, znA_ok, one_ok A day1, by show (1 : Int) ≤ 2 ∧ (2 : Int) ≤ 1000; decide⟩⟩
theorem mePas_in {w : World} {g gp : Nat} (hg : Box w g 34 #[.int .i64 0, .int .i64 86400000]) (hp : Box w gp 39 (paC (mePa (some ⟨g, 0, none⟩)))) : PasIn w w.heap.size (some ⟨gp, 0, none⟩) [mePa (some ⟨g, 0, none⟩)] :=
 ⟨by have := Row.of_box hp; simpa [paC, paF] using this, by show 1 ≤ maxLen; decide, fun i hi => by
  have : i < 1 := hi
  obtain rfl : i = 0 := by omega
  exact ⟨by show nMe.size ≤ maxLen; decide, znA_in _ _, one_in (s := ⟨0, 86400000⟩) day1 hg, by show I64 2; unfold I64; decide⟩⟩
theorem me_score (A : Option Addr) (d a b : Int) (hd : DayIn d) (h1 : d * 86400000 ≤ a) (h2 : a < b) (h3 : b ≤ d * 86400000 + 86400000) : scoreF [mePa A] a b = if (d - 1) % 7 = 0 then 2 else 0 := by
 have ho : ∀ t, a ≤ t → t < b → (OpenAt (oneHr A ⟨0, 86400000⟩) 0 [] t ↔ (d - 1) % 7 = 0) := fun t p q => by
  rw [one_open]
  have e1 : t / 86400000 = d := by omega
  rw [e1]
  exact ⟨fun h => h.2.1, fun h => ⟨hd, h, by show 0 ≤ t % 86400000; omega, by show t % 86400000 < 86400000; omega⟩⟩
 have hA : Attend (mePa A) a b ↔ (d - 1) % 7 = 0 := by
  unfold Attend
  show cntW (OpenAt (oneHr A ⟨0, 86400000⟩) 0 []) a (b - a).toNat = (b - a).toNat ↔ _
  by_cases hq : (d - 1) % 7 = 0
  ·rw [cntW_all _ fun t p q => (ho t p (by omega)).2 hq]
   exact ⟨fun _ => hq, fun _ => rfl⟩
  ·rw [cntW_none _ fun t p q h => hq ((ho t p (by omega)).1 h)]
   exact ⟨fun h => by omega, fun h => absurd h hq⟩
 unfold scoreF
 rw [show scoreF [] a b = 0 from rfl, Int.add_zero]
 by_cases hq : (d - 1) % 7 = 0
 ·rw [if_pos hq, if_pos (hA.2 hq)]; rfl
 ·rw [if_neg hq, if_neg (fun h => hq (hA.1 h))]
set_option maxHeartbeats 8000000 in
set_option maxRecDepth 100000 in
theorem pchk_bad (l : List Pa) (A : Option Addr) (cp : Nat) (r : Value) (gn : Nat) (fr tt len st : Int) (w : World) (hv : Env w) (hin : PasIn w w.heap.size A l) (hlc : l.length ≤ cp) (hcm : cp ≤ maxLen)
  (h0 : -300000000000000 ≤ fr) (h1 : fr ≤ tt) (h2 : tt ≤ 300000000000000) (h3 : 1 ≤ len ∧ len ≤ 86400000) (h4 : 86400000 < st) (h5 : st ≤ 200000000) :
  Calls Tryz.prog 30 #[.slice A l.length cp, r, .slice (some ⟨gn, 0, none⟩) 1 1, .int .i64 fr, .int .i64 tt, .int .i64 len, .int .i64 st] w fun e w' => ∃ E : Int, e = .returned (.int .i64 E) ∧ E ≠ 0 ∧ Below w.heap.size w w' := by
 have HCk := Lib.hid (pcheck_any l A cp w hv hin hlc hcm)
 unfold IsChk at HCk
 generalize PasOk l = G at *
 clear hv hin
 obtain ⟨h31, h32⟩ := h3
 go_enter Tryz.func30, Tryz.ntmps30
 go_wp2_with fail
 refine HCk.out.mono ?_
 rintro e w3 ⟨E, rfl, hE, hb3⟩
 have HB3 := Lib.hid hb3
 clear hE hb3 HCk
 by_cases hE0 : E = 0
 case neg =>
  have t1 : (E != 0) = true := by rw [bne_iff_ne]; exact hE0
  have HE0 := Lib.hid hE0
  clear hE0
  go_wp2_with fail
  go_ret
  exact ⟨E, rfl, HE0.out, HB3.out⟩
 subst hE0
 have HIa := Lib.hid (fun W => isInstant_yes fr W ⟨by omega, by omega⟩)
 have HIb := Lib.hid (fun W => isInstant_yes tt W ⟨by omega, by omega⟩)
 have hl1 := fun W => isLen_any len W
 have hl2 := fun W => isLen_any st W
 rw [decide_eq_true (show 1 ≤ len ∧ len ≤ 86400000 from ⟨h31, h32⟩)] at hl1
 rw [decide_eq_false (show ¬ (1 ≤ st ∧ st ≤ 86400000) by omega)] at hl2
 have HL1 := Lib.hid hl1
 have HL2 := Lib.hid hl2
 clear hl1 hl2
 go_wp2_with (first | (go_at_call 27; first | (with_reducible refine (HIa.out _).mono ?_; rintro e w' ⟨rfl, nq, rfl⟩) | (with_reducible refine (HIb.out _).mono ?_; rintro e w' ⟨rfl, nq, rfl⟩)) | (go_at_call 56; first | (with_reducible refine (HL1.out _).mono ?_; rintro e w' ⟨rfl, rfl⟩) | (with_reducible refine (HL2.out _).mono ?_; rintro e w' ⟨rfl, rfl⟩)))
 go_ret
 exact ⟨1, rfl, by omega, below_then HB3.out (below_drewN _ _)⟩
set_option maxHeartbeats 4000000 in
set_option maxRecDepth 100000 in
theorem all_bad (l : List Pa) (A : Option Addr) (cp : Nat) (g : Nat) (gn : Nat) (fr tt len st : Int) (w : World) (hv : Env w) (hin : PasIn w w.heap.size A l) (hlc : l.length ≤ cp) (hcm : cp ≤ maxLen)
  (h0 : -300000000000000 ≤ fr) (h1 : fr ≤ tt) (h2 : tt ≤ 300000000000000) (h3 : 1 ≤ len ∧ len ≤ 86400000) (h4 : 86400000 < st) (h5 : st ≤ 200000000) :
  Calls Tryz.prog 11 #[.slice A l.length cp, .pointer (some ⟨g, 0, none⟩), .slice (some ⟨gn, 0, none⟩) 1 1, .int .i64 fr, .int .i64 tt, .int .i64 len, .int .i64 st] w fun e w' => ∃ E : Int, e = .returned (.tuple #[.slice none 0 0, .int .i64 E]) ∧ E ≠ 0 ∧ Below w.heap.size w w' := by
 have HCk := Lib.hid (pchk_bad l A cp (.pointer (some ⟨g, 0, none⟩)) gn fr tt len st w hv hin hlc hcm h0 h1 h2 h3 h4 h5)
 clear hv hin
 go_enter Tryz.func11, Tryz.ntmps11
 go_wp2_with fail
 refine HCk.out.mono ?_
 rintro e w3 ⟨E, rfl, hE, hb3⟩
 have HB3 := Lib.hid hb3
 have t1 : (E != 0) = true := by rw [bne_iff_ne]; exact hE
 have HE := Lib.hid hE
 clear hE hb3 HCk
 go_wp2_with fail
 go_ret2
 exact ⟨E, rfl, HE.out, HB3.out⟩
end Go.Proofs.YtabidjmmgnkhkaaGreatDoor
