/- Hr1, Hr2, Hr3, Hr4, Hr5, Hr6, Hr7, Hr8, HrCon -/
import Derived.Deep.CutBlock
import Derived.Deep.DeepCutAuto
import Derived.Laws.EntriesVeiled
import Derived.Test.YtoaflcnphijhpaaGreatDoorGHrPlain
import Derived.Test.YtoaflcnphijhpaaGreatDoorGFe1
import Derived.Test.YtoaflcnphijhpaaGreatDoorGZoneArg
import Derived.Test.YtoaflcnphijhpaaGreatDoorGSvMem
import Derived.Test.YtoaflcnphijhpaaGreatDoorGFlow
import Derived.Test.YtoaflcnphijhpaaGreatDoorGSv7
import Derived.Test.YtoaflcnphijhpaaGreatDoorGPlainInt
import Derived.Test.YtoaflcnphijhpaaGreatDoorGLine1
import Derived.Test.YtoaflcnphijhpaaGreatDoorGSliceFind
/- Contracts of hours.spans, Check and both. -/
namespace Go.Proofs.YtoaflcnphijhpaaGreatDoor
open Go Go.RowKit
attribute [local go_sem] Oper.semAt_some
set_option linter.unusedVariables false

def SpOk (l : List Sp) (i : Nat) : Prop := 0 ≤ (l.getD i sp0).a ∧ (l.getD i sp0).a < (l.getD i sp0).b ∧ (l.getD i sp0).b ≤ 86400000 ∧ (0 < i → (l.getD (i - 1) sp0).b ≤ (l.getD i sp0).a)
theorem spansOk_iff (l : List Sp) : SpansOk l ↔ l.length ≤ 8 ∧ ∀ i, i < l.length → SpOk l i :=
  ⟨fun h => ⟨h.ln, fun i hi => ⟨(h.rg i hi).1, (h.rg i hi).2.1, (h.rg i hi).2.2, fun h0 => h.inc i h0 hi⟩⟩, fun h => ⟨h.1, fun i hi => ⟨(h.2 i hi).1, (h.2 i hi).2.1, (h.2 i hi).2.2.1⟩, fun i h0 hi => (h.2 i hi).2.2.2 h0⟩⟩
theorem getD_sp {l : List Sp} {i : Nat} (h : i < l.length) : l.getD i sp0 ∈ l := by
  rw [List.getD_eq_getElem?_getD, List.getElem?_eq_getElem h]
  exact List.getElem_mem h
set_option maxHeartbeats 4000000 in
set_option maxRecDepth 100000 in
theorem spans_any (d : Wd) (w : World) (hin : WdIn w w.heap.size d) : Calls Tryz.prog 128 #[wdV d] w (IsChk (SpansOk d.l) w) := by
  obtain ⟨A, c, l⟩ := d
  have hA : Row w w.heap.size A (l.flatMap spF) := hin.row
  have hl : l.length ≤ maxLen := hin.ln
  have hfit : ∀ s ∈ l, I64 s.a ∧ I64 s.b := hin.fit
  unfold maxLen at hl
  rw [spansOk_iff]
  show Calls Tryz.prog 128 #[.slice A l.length c] w (IsChk (l.length ≤ 8 ∧ ∀ i, i < l.length → SpOk l i) w)
  obtain ⟨G, hG⟩ : ∃ G : Prop, G = (l.length ≤ 8 ∧ ∀ i, i < l.length → SpOk l i) := ⟨_, rfl⟩
  rw [← hG]
  have HG := Lib.hid hG
  clear hG hin
  go_enter Tryz.func128, Tryz.ntmps128
  by_cases h3 : 8 < l.length
  · have t1 : decide (8 < (l.length : Int)) = true := decide_eq_true (by omega)
    go_wp2_with fail
    go_ret
    exact IsChk.no (fun h => by rw [HG.out] at h; have := h.1; omega) (by omega) (Below.refl _ _)
  have t1 : decide (8 < (l.length : Int)) = false := decide_eq_false (by omega)
  go_wp2_with fail
  clear t1
  go_loopw [3, 4, 10] (fun _ _ i wr => ∃ k : Nat, k ≤ l.length ∧ i = .int .i64 k ∧ Hid (∀ j, j < k → SpOk l j) ∧ Below w.heap.size w wr) (fun _ _ i _ => l.length - (intOf i).toNat)
  case atStart => exact ⟨0, by omega, rfl, (fun j hj => by omega), Below.refl _ _⟩
  case round =>
    obtain ⟨k, hk, rfl, hall, hbr⟩ := hrel
    have hzr := hbr.size
    by_cases hlt : k < l.length
    case neg =>
      have hkl : k = l.length := by omega
      have HY : Hid G := by unfold Hid; rw [HG.out]; exact ⟨by omega, fun i hi => hall.out i (by omega)⟩
      have HBr := Lib.hid hbr
      clear hkl
      go_wp2_with fail
      go_ret
      exact IsChk.yes HY.out HBr.out
    obtain ⟨b, o, rfl, hb, hc⟩ := hA.open_ (flat_ne spF_len (by omega) l (by omega))
    have hc' : ∀ j v, (l.flatMap spF)[j]? = some v → wr.cell? ⟨b, o + j, none⟩ = some v := fun j v hv => (hbr.cell (p := ⟨b, o + j, none⟩) hb).trans (hc j v hv)
    have y0 := flat_cell spF_len sp0 hc' k 0 hlt (by omega) (.int .i64 (l.getD k sp0).a) rfl
    have y1 := flat_cell spF_len sp0 hc' k 1 hlt (by omega) (.int .i64 (l.getD k sp0).b) rfl
    rw [Nat.add_zero] at y0
    have hbl : b < wr.heap.size := by omega
    obtain ⟨⟨f1, f2⟩, f3, f4⟩ := hfit _ (getD_sp hlt)
    have hprev : 0 < k → wr.cell? ⟨b, o + (k - 1) * 2 + 1, none⟩ = some (.int .i64 (l.getD (k - 1) sp0).b) := fun h => flat_cell spF_len sp0 hc' (k - 1) 1 (by omega) (by omega) _ rfl
    have HD : Hid (¬ (0 ≤ (l.getD k sp0).a ∧ (l.getD k sp0).a < (l.getD k sp0).b ∧ (l.getD k sp0).b ≤ 86400000 ∧ (0 < k → (l.getD (k - 1) sp0).b ≤ (l.getD k sp0).a)) → ¬ G) := fun hn h => by rw [HG.out] at h; exact hn (h.2 k hlt)
    have HY : Hid ((0 ≤ (l.getD k sp0).a ∧ (l.getD k sp0).a < (l.getD k sp0).b ∧ (l.getD k sp0).b ≤ 86400000 ∧ (0 < k → (l.getD (k - 1) sp0).b ≤ (l.getD k sp0).a)) → ∀ j, j < k + 1 → SpOk l j) := fun h j hj => by
      by_cases e : j = k
      · subst e; exact h
      · exact hall.out j (by omega)
    generalize (l.getD (k - 1) sp0).b = pb at *
    generalize (l.getD k sp0).a = ca at *
    generalize (l.getD k sp0).b = cb at *
    have HP := Lib.hid hprev
    have HB2 := Lib.hid (hbr.alloc hzr (Obj.cells #[.int .i64 ca, .int .i64 cb] 49))
    have hxx := Box.new wr 49 #[.int .i64 ca, .int .i64 cb]
    have hpv : 0 < k → (wr.alloc (Obj.cells #[.int .i64 ca, .int .i64 cb] 49)).cell? ⟨b, o + (k - 1) * 2 + 1, none⟩ = some (.int .i64 pb) := fun h => ((below_alloc1 wr _).cell (p := ⟨b, o + (k - 1) * 2 + 1, none⟩) hbl).trans (hprev h)
    have HPv := Lib.hid hpv
    clear hc hc' hprev hpv HP hall
    go_upto_region 6 with fail
    have z0 : (wr.alloc (Obj.cells #[.int .i64 ca, .int .i64 cb] 49)).cell? ⟨wr.heap.size, 0, none⟩ = some (.int .i64 ca) := hxx.cell 0
    have z1 : (wr.alloc (Obj.cells #[.int .i64 ca, .int .i64 cb] 49)).cell? ⟨wr.heap.size, 1, none⟩ = some (.int .i64 cb) := hxx.cell 1
    clear hxx y0 y1 hbr
    generalize wr.alloc (Obj.cells #[.int .i64 ca, .int .i64 cb] 49) = w2 at *
    generalize wr.heap.size = g at *
    by_cases c1 : ca < 0
    · have t1 : decide (ca < 0) = true := decide_eq_true c1
      go_wp2_with fail
      go_ret
      exact IsChk.no (HD.out (fun h => by have := h.1; omega)) (by omega) HB2.out
    have t1 : decide (ca < 0) = false := decide_eq_false c1
    by_cases c2 : cb ≤ ca
    · have t2 : decide (cb ≤ ca) = true := decide_eq_true c2
      go_wp2_with fail
      go_ret
      exact IsChk.no (HD.out (fun h => by have := h.2.1; omega)) (by omega) HB2.out
    have t2 : decide (cb ≤ ca) = false := decide_eq_false c2
    by_cases c3 : 86400000 < cb
    · have t3 : decide (86400000 < cb) = true := decide_eq_true c3
      go_wp2_with fail
      go_ret
      exact IsChk.no (HD.out (fun h => by have := h.2.2.1; omega)) (by omega) HB2.out
    have t3 : decide (86400000 < cb) = false := decide_eq_false c3
    by_cases k0 : k = 0
    · subst k0
      have t0 : decide ((0 : Int) < 0) = false := by decide
      have HN := Lib.hid (HY.out ⟨by omega, by omega, by omega, fun h => by omega⟩)
      go_wp2_with fail
      go_quiet (fail)
      go_wp2_with fail
      go_roundw
      case rel => exact ⟨0 + 1, by omega, rfl, HN, below_drew HB2.out _⟩
      case measure => simp [intOf]; omega
    obtain ⟨m, rfl⟩ : ∃ m, k = m + 1 := ⟨k - 1, by omega⟩
    have hp := HPv.out (by omega)
    rw [Nat.add_sub_cancel] at hp
    have t0 : decide ((0 : Int) < ((m + 1 : Nat) : Int)) = true := decide_eq_true (by omega)
    have t0' : decide ((0 : Int) < (m : Int) + 1) = true := decide_eq_true (by omega)
    have hw0 : IntKind.i64.wrap (m : Int) = (m : Int) := IntWalk.i64_in _ (by omega)
    have m0 : (0 : Int) ≤ (m : Int) := by omega
    have m1 : (m : Int) < (l.length : Int) := by omega
    by_cases hle : ca < pb
    · have t4 : decide (ca < pb) = true := decide_eq_true hle
      go_wp2_with fail
      go_quiet (fail)
      go_wp2_with fail
      go_ret
      exact IsChk.no (HD.out (fun h => by have := h.2.2.2 (by omega); omega)) (by omega) (below_drew HB2.out _)
    · have t4 : decide (ca < pb) = false := decide_eq_false hle
      have HN := Lib.hid (HY.out ⟨by omega, by omega, by omega, fun h => by omega⟩)
      go_wp2_with fail
      go_quiet (fail)
      go_wp2_with fail
      go_roundw
      case rel => exact ⟨m + 1 + 1, by omega, by go_num, HN, below_drew HB2.out _⟩
      case measure => simp [intOf]; omega

theorem hrOk_iff (h : Hr) : HrOk h ↔ (∀ i, i < 7 → SpansOk (h.wk i).l) ∧ h.ex.length ≤ 10 ∧ ∀ i, i < h.ex.length → FeGood (h.ex.getD i hx0).t ∧ SpansOk (h.ex.getD i hx0).d.l :=
  ⟨fun h => ⟨h.wk, h.ln, h.ex⟩, fun h => ⟨h.1, h.2.1, h.2.2⟩⟩
theorem hrcells {w : World} {g : Nat} {v0 v1 v2 v3 v4 v5 v6 v7 : Value} (h : Box w g 44 #[v0, v1, v2, v3, v4, v5, v6, v7]) :
    w.cell? ⟨g, 0, none⟩ = some v0 ∧ w.cell? ⟨g, 1, none⟩ = some v1 ∧ w.cell? ⟨g, 2, none⟩ = some v2 ∧ w.cell? ⟨g, 3, none⟩ = some v3 ∧ w.cell? ⟨g, 4, none⟩ = some v4 ∧ w.cell? ⟨g, 5, none⟩ = some v5 ∧ w.cell? ⟨g, 6, none⟩ = some v6 ∧ w.cell? ⟨g, 7, none⟩ = some v7 := ⟨h.cell 0, h.cell 1, h.cell 2, h.cell 3, h.cell 4, h.cell 5, h.cell 6, h.cell 7⟩
set_option maxHeartbeats 400000 in
set_option maxRecDepth 2000 in
theorem run_week (h : Hr) (k : Nat) (hk : k < 7) (W : World) : (Instr.index 41 (.agg #[wdV h.w0, wdV h.w1, wdV h.w2, wdV h.w3, wdV h.w4, wdV h.w5, wdV h.w6]) (.int .i64 (k : Int))).run Tryz.prog W = .ok (wdV (h.wk k)) W := by
  match k, hk with
  | 0, _ | 1, _ | 2, _ | 3, _ | 4, _ | 5, _ | 6, _ => simp [Instr.index, run_underlying Tryz.underlying41, asIntOf, go_sem, Hr.wk]
set_option maxHeartbeats 4000000 in
set_option maxRecDepth 100000 in
theorem hcheck_any (h : Hr) (w : World) (hv : Env w) (hin : HrIn w w.heap.size h) : Calls Tryz.prog 92 #[hrV h] w (IsChk (HrOk h) w) := by
  have HSp := Lib.hid (fun i (hi : i < 7) W (hb : Below w.heap.size w W) => spans_any (h.wk i) W ((hin.wk i hi).next hb hb.size))
  have HEx := Lib.hid (fun i (hi : i < h.ex.length) W (hb : Below w.heap.size w W) => fcheck_any (h.ex.getD i hx0).t W (hv.next hb) ((hin.ex i hi).fe.next hb hb.size))
  have HEs := Lib.hid (fun i (hi : i < h.ex.length) W (hb : Below w.heap.size w W) => spans_any (h.ex.getD i hx0).d W ((hin.ex i hi).d.next hb hb.size))
  have HWk := Lib.hid (fun k (hk : k < 7) W => run_week h k hk W)
  have HRow := Lib.hid hin.row
  have hln := hin.ln
  unfold maxLen at hln
  unfold FCheckQ at HEx
  rw [hrOk_iff]
  obtain ⟨G, hG⟩ : ∃ G : Prop, G = ((∀ i, i < 7 → SpansOk (h.wk i).l) ∧ h.ex.length ≤ 10 ∧ ∀ i, i < h.ex.length → FeGood (h.ex.getD i hx0).t ∧ SpansOk (h.ex.getD i hx0).d.l) := ⟨_, rfl⟩
  rw [← hG]
  have HG := Lib.hid hG
  have HN : Hid (∀ E W', ¬ G → E ≠ 0 → Below w.heap.size w W' → IsChk G w (.returned (.int .i64 E)) W') := fun E W' a b c => IsChk.no a b c
  have HYs : Hid (∀ W', G → Below w.heap.size w W' → IsChk G w (.returned (.int .i64 0)) W') := fun W' a c => IsChk.yes a c
  generalize IsChk G w = POST at *
  clear hG hv hin
  unfold hrV
  have HB := Lib.hid (below_alloc1 w (Obj.cells #[wdV h.w0, wdV h.w1, wdV h.w2, wdV h.w3, wdV h.w4, wdV h.w5, wdV h.w6, .slice h.A h.ex.length h.c] 44))
  have HX := Lib.hid (Box.new w 44 #[wdV h.w0, wdV h.w1, wdV h.w2, wdV h.w3, wdV h.w4, wdV h.w5, wdV h.w6, .slice h.A h.ex.length h.c])
  generalize h.A = hA0 at *
  go_enter Tryz.func92, Tryz.ntmps92
  go_upto_region 1 with fail
  generalize wdV h.w0 = v0 at *
  generalize wdV h.w1 = v1 at *
  generalize wdV h.w2 = v2 at *
  generalize wdV h.w3 = v3 at *
  generalize wdV h.w4 = v4 at *
  generalize wdV h.w5 = v5 at *
  generalize wdV h.w6 = v6 at *
  generalize w.alloc (Obj.cells #[v0, v1, v2, v3, v4, v5, v6, .slice hA0 h.ex.length h.c] 44) = W1 at *
  obtain ⟨g0, hg0⟩ : ∃ g0, g0 = w.heap.size := ⟨_, rfl⟩
  rw [← hg0] at HX ⊢
  have HG0 := Lib.hid hg0
  clear hg0
  obtain ⟨x0, x1, x2, x3, x4, x5, x6, x7⟩ := hrcells HX.out
  go_wp2_with fail
  clear x0 x1 x2 x3 x4 x5 x6 x7
  go_loopw [4, 5, 12] (fun _ _ i wr => ∃ k : Nat, k ≤ 7 ∧ i = .int .i64 k ∧ Hid (∀ j, j < k → SpansOk (h.wk j).l) ∧ Hid (Box wr g0 44 #[v0, v1, v2, v3, v4, v5, v6, .slice hA0 h.ex.length h.c]) ∧ Hid (Below w.heap.size w wr)) (fun _ _ i _ => 7 - (intOf i).toNat)
  case atStart => exact ⟨0, by omega, rfl, (fun j hj => by omega), HX, HB⟩
  case round =>
    obtain ⟨k, hk, rfl, hall, hx, hbr⟩ := hrel
    clear HX HB
    by_cases hlt : k < 7
    · have hXa := HWk.out k hlt
      have HC := Lib.hid (HSp.out k hlt wr hbr.out)
      have HD : Hid (SpansOk (h.wk k).l → ∀ j, j < k + 1 → SpansOk (h.wk j).l) := fun q j hj => by
        by_cases e : j = k
        · subst e; exact q
        · exact hall.out j (by omega)
      have HDn : Hid (¬ SpansOk (h.wk k).l → ¬ G) := fun q hg => by rw [HG.out] at hg; exact q (hg.1 k hlt)
      clear hall HWk
      generalize wdV (h.wk k) = vk at *
      generalize SpansOk (h.wk k).l = Q at *
      go_wp2_with fail
      refine HC.out.mono ?_
      rintro e w3 ⟨E, rfl, hE, hb3⟩
      have HE := Lib.hid hE
      have HX3 := Lib.hid (hx.out.below hb3)
      have HB3 := Lib.hid (below_then hbr.out hb3)
      clear hE hb3 hx hbr HC hXa
      by_cases hE0 : E = 0
      · subst hE0
        have HN2 := Lib.hid (HD.out (HE.out.1 rfl))
        go_wp2_with fail
        go_roundw
        case rel => exact ⟨k + 1, by omega, by go_num, HN2, HX3, HB3⟩
        case measure => simp [intOf]; omega
      · have t1 : (E != 0) = true := by rw [bne_iff_ne]; exact hE0
        have HE0 := Lib.hid hE0
        clear hE0
        go_wp2_with fail
        exact HN.out E _ (HDn.out (fun q => HE0.out (HE.out.2 q))) HE0.out HB3.out
    obtain rfl : k = 7 := by omega
    rw [show (((7 : Nat) : Int)) = 7 from rfl]
    obtain ⟨x0, x1, x2, x3, x4, x5, x6, x7⟩ := hrcells hx.out
    clear x0 x1 x2 x3 x4 x5 x6 hk hlt HWk HSp
    by_cases h10 : 10 < h.ex.length
    · have t1 : decide (10 < (h.ex.length : Int)) = true := decide_eq_true (by omega)
      have HNg : Hid (¬ G) := fun hg => by rw [HG.out] at hg; have := hg.2.1; omega
      go_wp2_with fail
      exact HN.out 2 _ HNg.out (by omega) hbr.out
    have t1 : decide (10 < (h.ex.length : Int)) = false := decide_eq_false (by omega)
    go_wp2_with fail
    clear t1 x7
    have HX := hx
    have HB := hbr
    have HA7 := hall
    clear hx hbr hall
    obtain ⟨W7, hW7⟩ : ∃ W7, W7 = wr := ⟨_, rfl⟩
    rw [← hW7] at HX HB ⊢
    clear hW7
    go_loopw [7, 8, 9, 28] (fun _ _ _ i wr => ∃ k : Nat, k ≤ h.ex.length ∧ i = .int .i64 k ∧ Hid (∀ j, j < k → FeGood (h.ex.getD j hx0).t ∧ SpansOk (h.ex.getD j hx0).d.l) ∧ Hid (Below w.heap.size w wr)) (fun _ _ _ i _ => h.ex.length - (intOf i).toNat)
    case atStart => exact ⟨0, by omega, rfl, (fun j hj => by omega), HB⟩
    case round =>
      obtain ⟨k, hk, rfl, hall, hbr⟩ := hrel
      clear HX HB
      by_cases hlt : k < h.ex.length
      case neg =>
        have hkl : h.ex.length ≤ k := by omega
        have HY : Hid G := by unfold Hid; rw [HG.out]; exact ⟨HA7.out, by omega, fun i hi => hall.out i (by omega)⟩
        clear hkl
        go_wp2_with fail
        exact HYs.out _ HY.out hbr.out
      obtain ⟨b, o, rfl, hb, hc⟩ := HRow.out.open_ (flat_ne hxF_len (by omega) h.ex (by omega))
      have hc' : ∀ j v, (h.ex.flatMap hxF)[j]? = some v → wr.cell? ⟨b, o + j, none⟩ = some v := fun j v hv => (hbr.out.cell (p := ⟨b, o + j, none⟩) hb).trans (hc j v hv)
      have HC := Lib.hid (HEx.out k hlt)
      have HC2 := Lib.hid (HEs.out k hlt)
      have HD : Hid (FeGood (h.ex.getD k hx0).t → SpansOk (h.ex.getD k hx0).d.l → ∀ j, j < k + 1 → FeGood (h.ex.getD j hx0).t ∧ SpansOk (h.ex.getD j hx0).d.l) := fun q1 q2 j hj => by
        by_cases e : j = k
        · subst e; exact ⟨q1, q2⟩
        · exact hall.out j (by omega)
      have HDn : Hid (¬ (FeGood (h.ex.getD k hx0).t ∧ SpansOk (h.ex.getD k hx0).d.l) → ¬ G) := fun q hg => by rw [HG.out] at hg; exact q (hg.2.2 k hlt)
      have hcc : ∀ j v, j < 6 → (hxF (h.ex.getD k hx0))[j]? = some v → wr.cell? ⟨b, o + k * 6 + j, none⟩ = some v := fun j v hj hv => flat_cell hxF_len hx0 hc' k j hlt hj v hv
      generalize h.ex.getD k hx0 = x at *
      obtain ⟨⟨fk, fa, fb, nm, fA, fc, ks⟩, ⟨dA, dc, dl⟩⟩ := x
      have y0 : wr.cell? ⟨b, o + k * 6 + 0, none⟩ = some (.int .i64 fk) := hcc 0 _ (by omega) rfl
      have y1 : wr.cell? ⟨b, o + k * 6 + 1, none⟩ = some (.int .i64 fa) := hcc 1 _ (by omega) rfl
      have y2 : wr.cell? ⟨b, o + k * 6 + 2, none⟩ = some (.int .i64 fb) := hcc 2 _ (by omega) rfl
      have y3 : wr.cell? ⟨b, o + k * 6 + 3, none⟩ = some (.string nm) := hcc 3 _ (by omega) rfl
      have y4 : wr.cell? ⟨b, o + k * 6 + 4, none⟩ = some (.slice fA ks.length fc) := hcc 4 _ (by omega) rfl
      have y5 : wr.cell? ⟨b, o + k * 6 + 5, none⟩ = some (.slice dA dl.length dc) := hcc 5 _ (by omega) rfl
      rw [Nat.add_zero] at y0
      have HC' : Hid (∀ W, Below w.heap.size w W → Calls Tryz.prog 20 #[.agg #[.int .i64 fk, .int .i64 fa, .int .i64 fb, .string nm, .slice fA ks.length fc]] W fun e w' => ∃ E : Int, e = .returned (.int .i64 E) ∧ (E = 0 ↔ FeGood (.node fk fa fb nm fA fc ks)) ∧ Below W.heap.size W w') := HC.out
      generalize FeGood (.node fk fa fb nm fA fc ks) = Q1 at *
      have HC2' : Hid (∀ W, Below w.heap.size w W → Calls Tryz.prog 128 #[.slice dA dl.length dc] W (IsChk (SpansOk dl) W)) := HC2.out
      dsimp only at HD HDn
      generalize SpansOk dl = Q2 at *
      have HB4 := Lib.hid (below_then hbr.out (below_alloc1 wr (Obj.cells #[.int .i64 fk, .int .i64 fa, .int .i64 fb, .string nm, .slice fA ks.length fc, .slice dA dl.length dc] 159)))
      have HX4 := Lib.hid (Box.new wr 159 #[.int .i64 fk, .int .i64 fa, .int .i64 fb, .string nm, .slice fA ks.length fc, .slice dA dl.length dc])
      have hbl : b < wr.heap.size := by have := hbr.out.size; omega
      clear hc hc' hcc HC HC2 hall
      go_upto_region 13 with fail
      clear y0 y1 y2 y3 y4 y5 hbr
      generalize wr.alloc (Obj.cells #[.int .i64 fk, .int .i64 fa, .int .i64 fb, .string nm, .slice fA ks.length fc, .slice dA dl.length dc] 159) = w4 at *
      generalize wr.heap.size = g4 at *
      have z0 : w4.cell? ⟨g4, 0, none⟩ = some (.int .i64 fk) := HX4.out.cell 0
      have z1 : w4.cell? ⟨g4, 1, none⟩ = some (.int .i64 fa) := HX4.out.cell 1
      have z2 : w4.cell? ⟨g4, 2, none⟩ = some (.int .i64 fb) := HX4.out.cell 2
      have z3 : w4.cell? ⟨g4, 3, none⟩ = some (.string nm) := HX4.out.cell 3
      have z4 : w4.cell? ⟨g4, 4, none⟩ = some (.slice fA ks.length fc) := HX4.out.cell 4
      go_wp2_with fail
      refine (HC'.out w4 HB4.out).mono ?_
      rintro e w5 ⟨E, rfl, hE, hb5⟩
      have HE := Lib.hid hE
      have HX5 := Lib.hid (HX4.out.below hb5)
      have HB5 := Lib.hid (below_then HB4.out hb5)
      clear hE hb5 HX4 HB4 HC' z0 z1 z2 z3 z4
      by_cases hE0 : E = 0
      case neg =>
        have t1 : (E != 0) = true := by rw [bne_iff_ne]; exact hE0
        have HE0 := Lib.hid hE0
        clear hE0
        go_wp2_with fail
        exact HN.out E _ (HDn.out (fun q => HE0.out (HE.out.2 q.1))) HE0.out HB5.out
      subst hE0
      have HQ1 := Lib.hid (HE.out.1 rfl)
      have z5 : w5.cell? ⟨g4, 5, none⟩ = some (.slice dA dl.length dc) := HX5.out.cell 5
      have HC3 := Lib.hid (HC2'.out w5 HB5.out)
      clear HE HC2'
      go_wp2_with fail
      refine HC3.out.mono ?_
      rintro e w6 ⟨E, rfl, hE, hb6⟩
      have HE := Lib.hid hE
      have HB6 := Lib.hid (below_then HB5.out hb6)
      clear hE hb6 HX5 HB5 HC3 z5
      by_cases hE0 : E = 0
      case neg =>
        have t1 : (E != 0) = true := by rw [bne_iff_ne]; exact hE0
        have HE0 := Lib.hid hE0
        clear hE0
        go_wp2_with fail
        exact HN.out E _ (HDn.out (fun q => HE0.out (HE.out.2 q.2))) HE0.out HB6.out
      subst hE0
      have HN2 := Lib.hid (HD.out HQ1.out (HE.out.1 rfl))
      clear HE
      go_wp2_with fail
      go_roundw
      case rel => exact ⟨k + 1, by omega, by go_num, HN2, HB6⟩
      case measure => simp [intOf]; omega
end Go.Proofs.YtoaflcnphijhpaaGreatDoor

/- Contract of hours.open: opening hours in memory, with the trees of their exceptions. -/
namespace Go.Proofs.YtoaflcnphijhpaaGreatDoor
open Go Go.RowKit
attribute [local go_sem] Oper.semAt_some
set_option linter.unusedVariables false

structure HrAt (w : World) (p : Nat → Prop) (h : Hr) : Prop where
  wk : ∀ i, i < 7 → RowAt w p (h.wk i).A ((h.wk i).l.flatMap spF)
  row : RowAt w p h.A (h.ex.flatMap hxF)
  ex : ∀ i, i < h.ex.length → RowAt w p (h.ex.getD i hx0).d.A ((h.ex.getD i hx0).d.l.flatMap spF)
theorem HrAt.keep {w w' : World} {p p' : Nat → Prop} {h : Hr} (k : HrAt w p h) (hk : ∀ b, p b → b < w.heap.size → w'.heap[b]? = w.heap[b]? ∧ p' b) (hs : w.heap.size ≤ w'.heap.size) : HrAt w' p' h :=
  ⟨fun i hi => (k.wk i hi).keep hk hs, k.row.keep hk hs, fun i hi => (k.ex i hi).keep hk hs⟩
theorem Row.allAt {w : World} {A : Option Addr} {cs : List Value} {B : Nat} (h : Row w B A cs) (hB : B ≤ w.heap.size) : RowAt w (fun b => b < B) A cs := by
  rcases h with h | ⟨b, o, e, hb, hc⟩
  · exact .inl h
  · exact .inr ⟨b, o, e, hb, by omega, hc⟩
theorem HrIn.at_ {w : World} {B : Nat} {h : Hr} (k : HrIn w B h) (hB : B ≤ w.heap.size) : HrAt w (fun b => b < B) h :=
  ⟨fun i hi => (k.wk i hi).row.allAt hB, k.row.allAt hB, fun i hi => (k.ex i hi).d.row.allAt hB⟩
structure Zn where
  nm : ByteArray
  first : Int
  A : Option Addr
  c : Nat
  chs : List Chg
def znV (z : Zn) : Value := .agg #[.string z.nm, .int .i64 z.first, .slice z.A z.chs.length z.c]
def bkL (h : Hr) (z : Zn) (v : Value) : Array Value := #[wdV h.w0, wdV h.w1, wdV h.w2, wdV h.w3, wdV h.w4, wdV h.w5, wdV h.w6, .slice h.A h.ex.length h.c, v, .string z.nm, .int .i64 z.first, .slice z.A z.chs.length z.c]
structure BkAt (w : World) (p : Nat → Prop) (g : Nat) (h : Hr) (z : Zn) (At : Option Addr) (ct : Nat) (Ts : List ST) : Prop where
  box : Box w g 157 (bkL h z (.slice At Ts.length ct))
  pg : p g
  tln : Ts.length = h.ex.length
  trow : RowAt w p At (Ts.flatMap stF)
  trees : ∀ i, i < Ts.length → StAt w p (Ts.getD i st0) (h.ex.getD i hx0).t
  hat : HrAt w p h
  zat : RowAt w p z.A (chCells z.chs)
theorem BkAt.keep {w w' : World} {p p' : Nat → Prop} {g : Nat} {h : Hr} {z : Zn} {At : Option Addr} {ct : Nat} {Ts : List ST} (k : BkAt w p g h z At ct Ts) (hk : ∀ b, p b → b < w.heap.size → w'.heap[b]? = w.heap[b]? ∧ p' b) (hs : w.heap.size ≤ w'.heap.size) : BkAt w' p' g h z At ct Ts := by
  have hg := hk g k.pg k.box.lt
  exact ⟨hg.1.trans k.box, hg.2, k.tln, k.trow.keep hk hs, fun i hi => (k.trees i hi).keep hk hs, k.hat.keep hk hs, k.zat.keep hk hs⟩
theorem BkAt.next {w w' : World} {p : Nat → Prop} {g : Nat} {h : Hr} {z : Zn} {At : Option Addr} {ct : Nat} {Ts : List ST} (k : BkAt w p g h z At ct Ts) (hb : Below w.heap.size w w') : BkAt w' p g h z At ct Ts :=
  k.keep (fun b hp hl => ⟨hb.block b hl, hp⟩) hb.size
def HOpenQ (p : Nat → Prop) (h : Hr) (z : Zn) (w : World) (e : Ending) (w' : World) : Prop := ∃ (g : Nat) (At : Option Addr) (ct : Nat) (Ts : List ST), e = .returned (.pointer (some ⟨g, 0, none⟩)) ∧ w.heap.size ≤ g ∧ BkAt w' p g h z At ct Ts ∧ Below w.heap.size w w'
theorem own_last {w : World} {base : Nat} {e : TypeId} {g n cap : Nat} {xs : List Value} {a0 a1 a2 a3 a4 a5 a6 a7 a8 a9 a10 b0 b1 b2 b3 b4 b5 b6 b7 b8 b9 b10 : Value} {k : Nat} (hk : xs.length = k) (h : w.ownsRow base e 11 (.slice (some ⟨g, 0, none⟩) n cap) n (xs ++ [a0, a1, a2, a3, a4, a5, a6, a7, a8, a9, a10])) :
    (((((((((((w.setCell ⟨g, k, none⟩ b0).setCell ⟨g, k + 1, none⟩ b1).setCell ⟨g, k + 2, none⟩ b2).setCell ⟨g, k + 3, none⟩ b3).setCell ⟨g, k + 4, none⟩ b4).setCell ⟨g, k + 5, none⟩ b5).setCell ⟨g, k + 6, none⟩ b6).setCell ⟨g, k + 7, none⟩ b7).setCell ⟨g, k + 8, none⟩ b8).setCell ⟨g, k + 9, none⟩ b9).setCell ⟨g, k + 10, none⟩ b10).ownsRow base e 11 (.slice (some ⟨g, 0, none⟩) n cap) n (xs ++ [b0, b1, b2, b3, b4, b5, b6, b7, b8, b9, b10]) := by
  have h2 := (((((((((((h.stored k b0).1.stored (k + 1) b1).1.stored (k + 2) b2).1.stored (k + 3) b3).1.stored (k + 4) b4).1.stored (k + 5) b5).1.stored (k + 6) b6).1.stored (k + 7) b7).1.stored (k + 8) b8).1.stored (k + 9) b9).1.stored (k + 10) b10).1
  subst hk
  simpa [List.set_append] using h2

theorem bk_a {B : Nat} {w w7 : World} {base : Nat} {e tb : TypeId} {gb g n cap : Nat} {cs : Array Value} {xs : List Value} {a0 a1 a2 a3 a4 a5 a6 a7 a8 a9 a10 : Value} {k : Nat} (hx : Box w7 gb tb cs) (h : w7.ownsRow base e 11 (.slice (some ⟨g, 0, none⟩) n cap) n (xs ++ [a0, a1, a2, a3, a4, a5, a6, a7, a8, a9, a10])) (hk : xs.length = k) (v b0 b1 b2 b3 b4 b5 b6 b7 b8 b9 b10 : Value) (hne : ¬ gb = g) (hgb : gb < base) (hB : Below B w w7) (hg1 : B ≤ gb) (hg2 : B ≤ g) :
    Box ((((((((((((w7.setCell ⟨g, k, none⟩ b0).setCell ⟨g, k + 1, none⟩ b1).setCell ⟨g, k + 2, none⟩ b2).setCell ⟨g, k + 3, none⟩ b3).setCell ⟨g, k + 4, none⟩ b4).setCell ⟨g, k + 5, none⟩ b5).setCell ⟨g, k + 6, none⟩ b6).setCell ⟨g, k + 7, none⟩ b7).setCell ⟨g, k + 8, none⟩ b8).setCell ⟨g, k + 9, none⟩ b9).setCell ⟨g, k + 10, none⟩ b10).setCell ⟨gb, 8, none⟩ v) gb tb (cs.setIfInBounds 8 v) ∧ ((((((((((((w7.setCell ⟨g, k, none⟩ b0).setCell ⟨g, k + 1, none⟩ b1).setCell ⟨g, k + 2, none⟩ b2).setCell ⟨g, k + 3, none⟩ b3).setCell ⟨g, k + 4, none⟩ b4).setCell ⟨g, k + 5, none⟩ b5).setCell ⟨g, k + 6, none⟩ b6).setCell ⟨g, k + 7, none⟩ b7).setCell ⟨g, k + 8, none⟩ b8).setCell ⟨g, k + 9, none⟩ b9).setCell ⟨g, k + 10, none⟩ b10).setCell ⟨gb, 8, none⟩ v).ownsRow base e 11 (.slice (some ⟨g, 0, none⟩) n cap) n (xs ++ [b0, b1, b2, b3, b4, b5, b6, b7, b8, b9, b10]) ∧ (∀ b, b ≠ gb → b ≠ g → ((((((((((((w7.setCell ⟨g, k, none⟩ b0).setCell ⟨g, k + 1, none⟩ b1).setCell ⟨g, k + 2, none⟩ b2).setCell ⟨g, k + 3, none⟩ b3).setCell ⟨g, k + 4, none⟩ b4).setCell ⟨g, k + 5, none⟩ b5).setCell ⟨g, k + 6, none⟩ b6).setCell ⟨g, k + 7, none⟩ b7).setCell ⟨g, k + 8, none⟩ b8).setCell ⟨g, k + 9, none⟩ b9).setCell ⟨g, k + 10, none⟩ b10).setCell ⟨gb, 8, none⟩ v).heap[b]? = w7.heap[b]?) ∧ ((((((((((((w7.setCell ⟨g, k, none⟩ b0).setCell ⟨g, k + 1, none⟩ b1).setCell ⟨g, k + 2, none⟩ b2).setCell ⟨g, k + 3, none⟩ b3).setCell ⟨g, k + 4, none⟩ b4).setCell ⟨g, k + 5, none⟩ b5).setCell ⟨g, k + 6, none⟩ b6).setCell ⟨g, k + 7, none⟩ b7).setCell ⟨g, k + 8, none⟩ b8).setCell ⟨g, k + 9, none⟩ b9).setCell ⟨g, k + 10, none⟩ b10).setCell ⟨gb, 8, none⟩ v).heap.size = w7.heap.size ∧ Below B w ((((((((((((w7.setCell ⟨g, k, none⟩ b0).setCell ⟨g, k + 1, none⟩ b1).setCell ⟨g, k + 2, none⟩ b2).setCell ⟨g, k + 3, none⟩ b3).setCell ⟨g, k + 4, none⟩ b4).setCell ⟨g, k + 5, none⟩ b5).setCell ⟨g, k + 6, none⟩ b6).setCell ⟨g, k + 7, none⟩ b7).setCell ⟨g, k + 8, none⟩ b8).setCell ⟨g, k + 9, none⟩ b9).setCell ⟨g, k + 10, none⟩ b10).setCell ⟨gb, 8, none⟩ v) :=
  ⟨((((((((((((hx).far (p := ⟨g, k, none⟩) (by show gb ≠ g; exact hne) _).far (p := ⟨g, k + 1, none⟩) (by show gb ≠ g; exact hne) _).far (p := ⟨g, k + 2, none⟩) (by show gb ≠ g; exact hne) _).far (p := ⟨g, k + 3, none⟩) (by show gb ≠ g; exact hne) _).far (p := ⟨g, k + 4, none⟩) (by show gb ≠ g; exact hne) _).far (p := ⟨g, k + 5, none⟩) (by show gb ≠ g; exact hne) _).far (p := ⟨g, k + 6, none⟩) (by show gb ≠ g; exact hne) _).far (p := ⟨g, k + 7, none⟩) (by show gb ≠ g; exact hne) _).far (p := ⟨g, k + 8, none⟩) (by show gb ≠ g; exact hne) _).far (p := ⟨g, k + 9, none⟩) (by show gb ≠ g; exact hne) _).far (p := ⟨g, k + 10, none⟩) (by show gb ≠ g; exact hne) _).set_ 8 v, own_set (own_last hk h) ⟨gb, 8, none⟩ v (show gb < base by omega), fun b h1 h2 => by rw [Below.heap_setCell _ _ _ b h1, Below.heap_setCell _ _ _ b h2, Below.heap_setCell _ _ _ b h2, Below.heap_setCell _ _ _ b h2, Below.heap_setCell _ _ _ b h2, Below.heap_setCell _ _ _ b h2, Below.heap_setCell _ _ _ b h2, Below.heap_setCell _ _ _ b h2, Below.heap_setCell _ _ _ b h2, Below.heap_setCell _ _ _ b h2, Below.heap_setCell _ _ _ b h2, Below.heap_setCell _ _ _ b h2], by simp, ((((((((((((hB).setCell (p := ⟨g, k, none⟩) (by show B ≤ g; exact hg2) _).setCell (p := ⟨g, k + 1, none⟩) (by show B ≤ g; exact hg2) _).setCell (p := ⟨g, k + 2, none⟩) (by show B ≤ g; exact hg2) _).setCell (p := ⟨g, k + 3, none⟩) (by show B ≤ g; exact hg2) _).setCell (p := ⟨g, k + 4, none⟩) (by show B ≤ g; exact hg2) _).setCell (p := ⟨g, k + 5, none⟩) (by show B ≤ g; exact hg2) _).setCell (p := ⟨g, k + 6, none⟩) (by show B ≤ g; exact hg2) _).setCell (p := ⟨g, k + 7, none⟩) (by show B ≤ g; exact hg2) _).setCell (p := ⟨g, k + 8, none⟩) (by show B ≤ g; exact hg2) _).setCell (p := ⟨g, k + 9, none⟩) (by show B ≤ g; exact hg2) _).setCell (p := ⟨g, k + 10, none⟩) (by show B ≤ g; exact hg2) _).setCell (p := ⟨gb, 8, none⟩) (by show B ≤ gb; exact hg1) _⟩
theorem bk_b {B : Nat} {w w7 : World} {base : Nat} {e tb : TypeId} {gb g n cap : Nat} {cs : Array Value} {xs : List Value} {a0 a1 a2 a3 a4 a5 a6 a7 a8 a9 a10 : Value} {k : Nat} (hx : Box w7 gb tb cs) (h : w7.ownsRow base e 11 (.slice (some ⟨g, 0, none⟩) n cap) n (xs ++ [a0, a1, a2, a3, a4, a5, a6, a7, a8, a9, a10])) (hk : xs.length = k) (v b0 b1 b2 b3 b4 b5 b6 b7 b8 b9 b10 : Value) (hne : ¬ gb = g) (hgb : gb < base) (hB : Below B w w7) (hg1 : B ≤ gb) (hg2 : B ≤ g) :
    Box (((((((((((((w7.setCell ⟨gb, 8, none⟩ v).setCell ⟨g, k, none⟩ b0).setCell ⟨g, k + 1, none⟩ b1).setCell ⟨g, k + 2, none⟩ b2).setCell ⟨g, k + 3, none⟩ b3).setCell ⟨g, k + 4, none⟩ b4).setCell ⟨g, k + 5, none⟩ b5).setCell ⟨g, k + 6, none⟩ b6).setCell ⟨g, k + 7, none⟩ b7).setCell ⟨g, k + 8, none⟩ b8).setCell ⟨g, k + 9, none⟩ b9).setCell ⟨g, k + 10, none⟩ b10)) gb tb (cs.setIfInBounds 8 v) ∧ (((((((((((((w7.setCell ⟨gb, 8, none⟩ v).setCell ⟨g, k, none⟩ b0).setCell ⟨g, k + 1, none⟩ b1).setCell ⟨g, k + 2, none⟩ b2).setCell ⟨g, k + 3, none⟩ b3).setCell ⟨g, k + 4, none⟩ b4).setCell ⟨g, k + 5, none⟩ b5).setCell ⟨g, k + 6, none⟩ b6).setCell ⟨g, k + 7, none⟩ b7).setCell ⟨g, k + 8, none⟩ b8).setCell ⟨g, k + 9, none⟩ b9).setCell ⟨g, k + 10, none⟩ b10)).ownsRow base e 11 (.slice (some ⟨g, 0, none⟩) n cap) n (xs ++ [b0, b1, b2, b3, b4, b5, b6, b7, b8, b9, b10]) ∧ (∀ b, b ≠ gb → b ≠ g → (((((((((((((w7.setCell ⟨gb, 8, none⟩ v).setCell ⟨g, k, none⟩ b0).setCell ⟨g, k + 1, none⟩ b1).setCell ⟨g, k + 2, none⟩ b2).setCell ⟨g, k + 3, none⟩ b3).setCell ⟨g, k + 4, none⟩ b4).setCell ⟨g, k + 5, none⟩ b5).setCell ⟨g, k + 6, none⟩ b6).setCell ⟨g, k + 7, none⟩ b7).setCell ⟨g, k + 8, none⟩ b8).setCell ⟨g, k + 9, none⟩ b9).setCell ⟨g, k + 10, none⟩ b10)).heap[b]? = w7.heap[b]?) ∧ (((((((((((((w7.setCell ⟨gb, 8, none⟩ v).setCell ⟨g, k, none⟩ b0).setCell ⟨g, k + 1, none⟩ b1).setCell ⟨g, k + 2, none⟩ b2).setCell ⟨g, k + 3, none⟩ b3).setCell ⟨g, k + 4, none⟩ b4).setCell ⟨g, k + 5, none⟩ b5).setCell ⟨g, k + 6, none⟩ b6).setCell ⟨g, k + 7, none⟩ b7).setCell ⟨g, k + 8, none⟩ b8).setCell ⟨g, k + 9, none⟩ b9).setCell ⟨g, k + 10, none⟩ b10)).heap.size = w7.heap.size ∧ Below B w (((((((((((((w7.setCell ⟨gb, 8, none⟩ v).setCell ⟨g, k, none⟩ b0).setCell ⟨g, k + 1, none⟩ b1).setCell ⟨g, k + 2, none⟩ b2).setCell ⟨g, k + 3, none⟩ b3).setCell ⟨g, k + 4, none⟩ b4).setCell ⟨g, k + 5, none⟩ b5).setCell ⟨g, k + 6, none⟩ b6).setCell ⟨g, k + 7, none⟩ b7).setCell ⟨g, k + 8, none⟩ b8).setCell ⟨g, k + 9, none⟩ b9).setCell ⟨g, k + 10, none⟩ b10)) :=
  ⟨(((((((((((hx.set_ 8 v).far (p := ⟨g, k, none⟩) (by show gb ≠ g; exact hne) _).far (p := ⟨g, k + 1, none⟩) (by show gb ≠ g; exact hne) _).far (p := ⟨g, k + 2, none⟩) (by show gb ≠ g; exact hne) _).far (p := ⟨g, k + 3, none⟩) (by show gb ≠ g; exact hne) _).far (p := ⟨g, k + 4, none⟩) (by show gb ≠ g; exact hne) _).far (p := ⟨g, k + 5, none⟩) (by show gb ≠ g; exact hne) _).far (p := ⟨g, k + 6, none⟩) (by show gb ≠ g; exact hne) _).far (p := ⟨g, k + 7, none⟩) (by show gb ≠ g; exact hne) _).far (p := ⟨g, k + 8, none⟩) (by show gb ≠ g; exact hne) _).far (p := ⟨g, k + 9, none⟩) (by show gb ≠ g; exact hne) _).far (p := ⟨g, k + 10, none⟩) (by show gb ≠ g; exact hne) _, own_last hk (own_set h ⟨gb, 8, none⟩ v (show gb < base by omega)), fun b h1 h2 => by rw [Below.heap_setCell _ _ _ b h2, Below.heap_setCell _ _ _ b h2, Below.heap_setCell _ _ _ b h2, Below.heap_setCell _ _ _ b h2, Below.heap_setCell _ _ _ b h2, Below.heap_setCell _ _ _ b h2, Below.heap_setCell _ _ _ b h2, Below.heap_setCell _ _ _ b h2, Below.heap_setCell _ _ _ b h2, Below.heap_setCell _ _ _ b h2, Below.heap_setCell _ _ _ b h2, Below.heap_setCell _ _ _ b h1], by simp, ((((((((((((hB).setCell (p := ⟨gb, 8, none⟩) (by show B ≤ gb; exact hg1) _).setCell (p := ⟨g, k, none⟩) (by show B ≤ g; exact hg2) _).setCell (p := ⟨g, k + 1, none⟩) (by show B ≤ g; exact hg2) _).setCell (p := ⟨g, k + 2, none⟩) (by show B ≤ g; exact hg2) _).setCell (p := ⟨g, k + 3, none⟩) (by show B ≤ g; exact hg2) _).setCell (p := ⟨g, k + 4, none⟩) (by show B ≤ g; exact hg2) _).setCell (p := ⟨g, k + 5, none⟩) (by show B ≤ g; exact hg2) _).setCell (p := ⟨g, k + 6, none⟩) (by show B ≤ g; exact hg2) _).setCell (p := ⟨g, k + 7, none⟩) (by show B ≤ g; exact hg2) _).setCell (p := ⟨g, k + 8, none⟩) (by show B ≤ g; exact hg2) _).setCell (p := ⟨g, k + 9, none⟩) (by show B ≤ g; exact hg2) _).setCell (p := ⟨g, k + 10, none⟩) (by show B ≤ g; exact hg2) _⟩
set_option maxHeartbeats 16000000 in
set_option maxRecDepth 100000 in
theorem hopen_any (h : Hr) (z : Zn) (ok : HrOk h) (w : World) (hv : Env w) (hin : HrIn w w.heap.size h) (p : Nat → Prop) (hp : ∀ b, w.heap.size ≤ b → p b) (hat : HrAt w p h) (zat : RowAt w p z.A (chCells z.chs)) :
    Calls Tryz.prog 49 #[hrV h, znV z] w (HOpenQ p h z w) := by
  obtain ⟨i0, hi0, hz0, hz1, hz2⟩ := info_parts tree_info
  have HRow := Lib.hid hin.row
  have hln : h.ex.length ≤ 10 := ok.ln
  have HOp := Lib.hid (fun i (hi : i < h.ex.length) W (hb : Below w.heap.size w W) => open_any w hv (h.ex.getD i hx0).t (hin.ex i hi).fe (ok.ex i hi).1.ok W hb)
  have HAt := Lib.hid (And.intro hat zat)
  have HP := Lib.hid hp
  clear hat zat hp hin hv ok
  unfold HOpenQ
  obtain ⟨nm, first, Az, cz, chs⟩ := z
  unfold hrV znV
  have hb2 := below_alloc2 w (Obj.cells #[wdV h.w0, wdV h.w1, wdV h.w2, wdV h.w3, wdV h.w4, wdV h.w5, wdV h.w6, .slice h.A h.ex.length h.c] 44) (Obj.cells #[.string nm, .int .i64 first, .slice Az chs.length cz] 47)
  have hx2 := (Box.new w 44 #[wdV h.w0, wdV h.w1, wdV h.w2, wdV h.w3, wdV h.w4, wdV h.w5, wdV h.w6, .slice h.A h.ex.length h.c]).alloc (Obj.cells #[.string nm, .int .i64 first, .slice Az chs.length cz] 47)
  have hz2' := Box.new (w.alloc (Obj.cells #[wdV h.w0, wdV h.w1, wdV h.w2, wdV h.w3, wdV h.w4, wdV h.w5, wdV h.w6, .slice h.A h.ex.length h.c] 44)) 47 #[.string nm, .int .i64 first, .slice Az chs.length cz]
  simp only [World.size_alloc] at hx2 hz2'
  have HB2 := Lib.hid hb2
  have HX2 := Lib.hid hx2
  have HZ2 := Lib.hid hz2'
  clear hb2 hx2 hz2'
  have HBK : Hid (∀ v, bkL h ⟨nm, first, Az, cz, chs⟩ v = #[wdV h.w0, wdV h.w1, wdV h.w2, wdV h.w3, wdV h.w4, wdV h.w5, wdV h.w6, .slice h.A h.ex.length h.c, v, .string nm, .int .i64 first, .slice Az chs.length cz]) := fun v => rfl
  obtain ⟨hA0, hA0e⟩ : ∃ A, A = h.A := ⟨_, rfl⟩
  rw [← hA0e] at HRow HX2 HB2 HBK HZ2 ⊢
  clear hA0e
  go_enter Tryz.func49, Tryz.ntmps49
  go_upto_region 1 with fail
  generalize wdV h.w0 = v0 at *
  generalize wdV h.w1 = v1 at *
  generalize wdV h.w2 = v2 at *
  generalize wdV h.w3 = v3 at *
  generalize wdV h.w4 = v4 at *
  generalize wdV h.w5 = v5 at *
  generalize wdV h.w6 = v6 at *
  have hs2 : ((w.alloc (Obj.cells #[v0, v1, v2, v3, v4, v5, v6, .slice hA0 h.ex.length h.c] 44)).alloc (Obj.cells #[.string nm, .int .i64 first, .slice Az chs.length cz] 47)).heap.size = w.heap.size + 1 + 1 := by rw [World.size_alloc, World.size_alloc]
  generalize (w.alloc (Obj.cells #[v0, v1, v2, v3, v4, v5, v6, .slice hA0 h.ex.length h.c] 44)).alloc (Obj.cells #[.string nm, .int .i64 first, .slice Az chs.length cz] 47) = W2 at *
  obtain ⟨x0, x1, x2, x3, x4, x5, x6, x7⟩ := hrcells HX2.out
  have z0 : W2.cell? ⟨w.heap.size + 1, 0, none⟩ = some (.string nm) := HZ2.out.cell 0
  have z1 : W2.cell? ⟨w.heap.size + 1, 1, none⟩ = some (.int .i64 first) := HZ2.out.cell 1
  have z2 : W2.cell? ⟨w.heap.size + 1, 2, none⟩ = some (.slice Az chs.length cz) := HZ2.out.cell 2
  have HX3 := Lib.hid (HX2.out.alloc (Obj.cells #[v0, v1, v2, v3, v4, v5, v6, .slice hA0 h.ex.length h.c, .slice none 0 0, .string nm, .int .i64 first, .slice Az chs.length cz] 157))
  have HB3 : Hid (Below w.heap.size w (W2.alloc (Obj.cells #[v0, v1, v2, v3, v4, v5, v6, .slice hA0 h.ex.length h.c, .slice none 0 0, .string nm, .int .i64 first, .slice Az chs.length cz] 157))) := HB2.out.alloc (by omega) _
  have hk3 := (Box.new W2 157 #[v0, v1, v2, v3, v4, v5, v6, .slice hA0 h.ex.length h.c, .slice none 0 0, .string nm, .int .i64 first, .slice Az chs.length cz])
  rw [hs2] at hk3
  have HK3 := Lib.hid hk3
  clear hk3
  go_upto_region 2 with fail
  clear x0 x1 x2 x3 x4 x5 x6 x7 z0 z1 z2 HX2 HZ2 HB2
  obtain ⟨W3, hW3⟩ : ∃ W3, W3 = W2.alloc (Obj.cells #[v0, v1, v2, v3, v4, v5, v6, .slice hA0 h.ex.length h.c, .slice none 0 0, .string nm, .int .i64 first, .slice Az chs.length cz] 157) := ⟨_, rfl⟩
  rw [← hW3] at HX3 HB3 HK3 ⊢
  clear hW3
  obtain ⟨gb, hgb⟩ : ∃ gb, gb = w.heap.size + 1 + 1 := ⟨_, rfl⟩
  rw [← hgb] at HK3 ⊢
  have hgw : w.heap.size + 2 = gb := by omega
  obtain ⟨x0, x1, x2, x3, x4, x5, x6, x7⟩ := hrcells HX3.out
  have HGW := Lib.hid hgw
  have hgw1 : w.heap.size < gb := by omega
  clear hgb hs2 hgw
  go_wp2_with fail
  clear x0 x1 x2 x3 x4 x5 x6 x7 HX3
  go_loopw [7, 15] (fun _ i wr => ∃ j : Nat, j ≤ h.ex.length ∧ i = .int .i64 (j : Int) ∧ ∃ (Ts : List ST) (A' : Option Addr) (c' : Nat), Ts.length = j ∧ Hid (Box wr gb 157 #[v0, v1, v2, v3, v4, v5, v6, .slice hA0 h.ex.length h.c, .slice A' j c', .string nm, .int .i64 first, .slice Az chs.length cz]) ∧ Hid (wr.ownsRow (gb + 1) 99 11 (.slice A' j c') j (Ts.flatMap stF)) ∧ Hid (∀ i, i < j → StAt wr (ownP gb (.slice A' j c')) (Ts.getD i st0) (h.ex.getD i hx0).t) ∧ Hid (Below w.heap.size w wr)) (fun _ i _ => h.ex.length - (intOf i).toNat)
  case atStart => exact ⟨0, by omega, rfl, [], none, 0, rfl, HK3, World.ownsRow_nil _ _ _ _, (fun i hi => by omega), HB3⟩
  case round =>
    obtain ⟨j, hj, rfl, Ts, A', c', hTs, hT, hO, hS, hbr⟩ := hrel
    clear HK3 HB3
    have hszr := hbr.out.size
    by_cases hlt : j < h.ex.length
    case neg =>
      obtain rfl : j = h.ex.length := by omega
      have HTs := Lib.hid hTs
      clear hTs hlt hj
      go_wp2_with fail
      go_ret
      have hrow9 : RowAt wr (fun b => gb + 1 ≤ b) A' (Ts.flatMap stF) := rowAt_own hO.out
      have hpp : ∀ b, gb ≤ b → p b := fun b hb => HP.out b (by omega)
      have hk9 : ∀ b, ownP gb (.slice A' h.ex.length c') b → b < wr.heap.size → wr.heap[b]? = wr.heap[b]? ∧ p b := fun b hb _ => ⟨rfl, hpp b (by have := hb.1; omega)⟩
      refine ⟨gb, A', c', Ts, rfl, by omega, ⟨by rw [HBK.out, HTs.out]; exact hT.out, hpp gb (by omega), HTs.out, hrow9.keep (fun b hb _ => ⟨rfl, hpp b (by omega)⟩) (Nat.le_refl _), fun i hi => (hS.out i (by rw [← HTs.out]; exact hi)).keep hk9 (Nat.le_refl _), HAt.out.1.keep (fun b hb hl => ⟨hbr.out.block b hl, hb⟩) hszr, HAt.out.2.keep (fun b hb hl => ⟨hbr.out.block b hl, hb⟩) hszr⟩, hbr.out⟩
    obtain ⟨bb, o, rfl, hb, hc⟩ := HRow.out.open_ (flat_ne hxF_len (by omega) h.ex (by omega))
    have hc' : ∀ j v, (h.ex.flatMap hxF)[j]? = some v → wr.cell? ⟨bb, o + j, none⟩ = some v := fun j v hv => (hbr.out.cell (p := ⟨bb, o + j, none⟩) hb).trans (hc j v hv)
    have hcc : ∀ i v, i < 6 → (hxF (h.ex.getD j hx0))[i]? = some v → wr.cell? ⟨bb, o + j * 6 + i, none⟩ = some v := fun i v hi hv => flat_cell hxF_len hx0 hc' j i hlt hi v hv
    have HI0 := HOp.out j hlt
    generalize hx : h.ex.getD j hx0 = x at *
    obtain ⟨⟨k', a', b', nm', A2, c2, ks'⟩, ⟨dA, dc, dl⟩⟩ := x
    have y0 : wr.cell? ⟨bb, o + j * 6 + 0, none⟩ = some (.int .i64 k') := hcc 0 _ (by omega) rfl
    have y1 : wr.cell? ⟨bb, o + j * 6 + 1, none⟩ = some (.int .i64 a') := hcc 1 _ (by omega) rfl
    have y2 : wr.cell? ⟨bb, o + j * 6 + 2, none⟩ = some (.int .i64 b') := hcc 2 _ (by omega) rfl
    have y3 : wr.cell? ⟨bb, o + j * 6 + 3, none⟩ = some (.string nm') := hcc 3 _ (by omega) rfl
    have y4 : wr.cell? ⟨bb, o + j * 6 + 4, none⟩ = some (.slice A2 ks'.length c2) := hcc 4 _ (by omega) rfl
    have y5 : wr.cell? ⟨bb, o + j * 6 + 5, none⟩ = some (.slice dA dl.length dc) := hcc 5 _ (by omega) rfl
    rw [Nat.add_zero] at y0
    have hbl : bb < wr.heap.size := by omega
    have HI : Hid (∀ W, Below w.heap.size w W → Calls Tryz.prog 44 #[.agg #[.int .i64 k', .int .i64 a', .int .i64 b', .string nm', .slice A2 ks'.length c2]] W (OpenQ (.node k' a' b' nm' A2 c2 ks') W)) := HI0
    have HX := Lib.hid hx
    have hba := below_alloc1 wr (Obj.cells #[.int .i64 k', .int .i64 a', .int .i64 b', .string nm', .slice A2 ks'.length c2, .slice dA dl.length dc] 159)
    have HB4 : Hid (Below w.heap.size w (wr.alloc (Obj.cells #[.int .i64 k', .int .i64 a', .int .i64 b', .string nm', .slice A2 ks'.length c2, .slice dA dl.length dc] 159))) := hbr.out.alloc (by omega) _
    have HT4 := Lib.hid (hT.out.below hba)
    have HO4 := Lib.hid (own_next hO.out hba)
    have HX4 := Lib.hid (Box.new wr 159 #[.int .i64 k', .int .i64 a', .int .i64 b', .string nm', .slice A2 ks'.length c2, .slice dA dl.length dc])
    have HA4 := Lib.hid hba
    have hl4 : (wr.alloc (Obj.cells #[.int .i64 k', .int .i64 a', .int .i64 b', .string nm', .slice A2 ks'.length c2, .slice dA dl.length dc] 159)).heap.size = wr.heap.size + 1 := World.size_alloc _ _
    clear hc hc' HI0 hx hba hcc
    go_upto_region 5 with fail
    clear y0 y1 y2 y3 y4 y5
    generalize wr.alloc (Obj.cells #[.int .i64 k', .int .i64 a', .int .i64 b', .string nm', .slice A2 ks'.length c2, .slice dA dl.length dc] 159) = w4 at *
    obtain ⟨g5, hg5⟩ : ∃ g5, g5 = wr.heap.size := ⟨_, rfl⟩
    rw [← hg5] at HX4 hl4 ⊢
    have HG5 := Lib.hid hg5
    have hg5l : wr.heap.size ≤ g5 := by omega
    clear hg5
    have hown := HO4.out
    obtain ⟨row, hrow⟩ : ∃ row, row = (Value.slice A' j c').ownBlock := ⟨_, rfl⟩
    have hlr : ∀ b, row = some b → gb + 1 ≤ b ∧ b < wr.heap.size := fun b hb => own_lt hO.out b (by rw [← hrow]; exact hb)
    have HRw := Lib.hid hrow
    clear hrow
    have hbl4 : ∀ b, row = some b → b < w4.heap.size := fun b hb => by have := hlr b hb; omega
    have d10 : ∀ W, w4.grownBy W row → W.cell? ⟨gb, 8, none⟩ = some (.slice A' j c') := fun W hW => (HT4.out.grown hW (fun e => by have := hlr gb e.symm; omega)).cell 8
    have m5 : ∀ W, w4.grownBy W row → Box W g5 159 #[.int .i64 k', .int .i64 a', .int .i64 b', .string nm', .slice A2 ks'.length c2, .slice dA dl.length dc] := fun W hW => HX4.out.grown hW (fun e => by have := hlr g5 e.symm; omega)
    have m0 : ∀ W, w4.grownBy W row → W.cell? ⟨g5, 0, none⟩ = some (.int .i64 k') := fun W hW => (m5 W hW).cell 0
    have m1 : ∀ W, w4.grownBy W row → W.cell? ⟨g5, 1, none⟩ = some (.int .i64 a') := fun W hW => (m5 W hW).cell 1
    have m2 : ∀ W, w4.grownBy W row → W.cell? ⟨g5, 2, none⟩ = some (.int .i64 b') := fun W hW => (m5 W hW).cell 2
    have m3 : ∀ W, w4.grownBy W row → W.cell? ⟨g5, 3, none⟩ = some (.string nm') := fun W hW => (m5 W hW).cell 3
    have m4 : ∀ W, w4.grownBy W row → W.cell? ⟨g5, 4, none⟩ = some (.slice A2 ks'.length c2) := fun W hW => (m5 W hW).cell 4
    have hb4 : gb + 1 ≤ w4.heap.size := by have := HT4.out.lt; omega
    have hsz4 : w.heap.size ≤ w4.heap.size := by omega
    have hlrg : ∀ k, row = some k → w.heap.size ≤ k := fun k hk => by have := hlr k hk; omega
    clear m5
    refine flowG_begin_rest 10 9 #[true, true, true, true, true, true, true, true, true, true, false, false, false, false, false] row (tellOf [(6, toldO (.node k' a' b' nm' A2 c2 ks') (ownP gb (.slice A' j c')))]) 5 (by kernel_rfl) (by kernel_rfl) (by kernel_rfl) ?_
    simp only [List.take_succ_cons, List.take_zero]
    repeat (first | (refine flowG_val (v := ?_) (by rfl) (by rfl) (fun w hb => ?_) ?_; rotate_left; (· ((go_simp) <;> ((repeat' apply And.intro) <;> with_reducible rfl))); try simp only [Act.put, List.setIfInBounds_toArray, List.set_cons_zero, List.set_cons_succ, Nat.reduceAdd]) | (refine flowG_skip (by rfl) (by rfl) ?_; try simp only [Act.put, List.setIfInBounds_toArray, List.set_cons_zero, List.set_cons_succ, Nat.reduceAdd]))
    refine flowG_told (f := ?_) (args := ?_) (t := toldO (.node k' a' b' nm' A2 c2 ks') (ownP gb (.slice A' j c'))) [] (by kernel_rfl) (by rfl) (by rfl) ⟨_, st0, rfl⟩ (fun v w w' hg h T e => by obtain ⟨T', e', hs⟩ := h T e; exact ⟨T', e', hs.grown hg (fun b hp _ e => hp.2 (by rw [← HRw.out]; exact e.symm))⟩) (fun w hb => ?_) (fun w hb hu => ?_) ?_; rotate_left 2; (· ((go_simp) <;> ((repeat' apply And.intro) <;> with_reducible rfl)))
    · refine (HI.out _ (HB4.out.grown hb hsz4 hlrg)).mono ?_
      rintro e w' ⟨T, he, hs, hb'⟩
      have hsw := hb.size
      exact ⟨_, he, ⟨T, rfl⟩, fun T2 e2 => ⟨T, toldO_eq e2, hs.more (fun b hp hl => ⟨by omega, fun e3 => by have := hlr b (by rw [HRw.out]; exact e3); omega⟩)⟩, hb'⟩
    rintro v ⟨T, rfl⟩
    obtain ⟨k3, a3, b3, nm3, A3, c3, cal3, A4, c4, ks3⟩ := T
    dsimp only [stF, stL]
    try simp only [Act.put, List.setIfInBounds_toArray, List.set_cons_zero, List.set_cons_succ, Nat.reduceAdd]
    repeat (first | (refine flowG_val (v := ?_) (by rfl) (by rfl) (fun w hb => ?_) ?_; rotate_left; (· ((go_simp) <;> ((repeat' apply And.intro) <;> with_reducible rfl))); try simp only [Act.put, List.setIfInBounds_toArray, List.set_cons_zero, List.set_cons_succ, Nat.reduceAdd]) | (refine flowG_skip (by rfl) (by rfl) ?_; try simp only [Act.put, List.setIfInBounds_toArray, List.set_cons_zero, List.set_cons_succ, Nat.reduceAdd]))
    refine flowG_lits (n := ?_) (c := ?_) (t := ?_) (cs := ?_) hbl4 (by rfl) (by rfl) (fun w hb => ?_) (fun g8 hg8 => ?_); rotate_left 4; (· ((go_simp) <;> ((repeat' apply And.intro) <;> with_reducible rfl))); try simp only [Act.put, List.setIfInBounds_toArray, List.set_cons_zero, List.set_cons_succ, Nat.reduceAdd]
    refine flowG_app_at [8, 6] (by kernel_rfl) rfl (by rfl) (by rfl) (.tmp 22) (.tmp 27) 97 rfl (gb + 1) 99 i0 (.agg zTr) 11 168 Tryz.underlying97 hi0 hz0 hz1 hz2 rfl (by decide) (.slice A' j c') j (Ts.flatMap stF) rfl HRw.out hown hb4 ⟨g8, 0, none⟩ 1 1 zTr.toList rfl rfl (fun w hb hu => World.news_of_block (cs := zTr) (t := 99) (fr := (0, 0)) (usef_head hu)) (by simp [Value.oneCell', zTr]) (fun w => ∃ T' : ST, stF T' = stL k3 a3 b3 nm3 A3 ks3.length c3 cal3 A4 ks3.length c4 ∧ StAt w (ownP gb (.slice A' j c')) T' (.node k' a' b' nm' A2 c2 ks')) (fun w w' hb ⟨T', e, h⟩ => ⟨T', e, h.next hb⟩) (fun w hb hu => (usef_at (k := 6) rfl hu (by decide)) (.node k3 a3 b3 nm3 A3 c3 cal3 A4 c4 ks3) rfl)
      (fun r w => (∃ T' : ST, stF T' = stL k3 a3 b3 nm3 A3 ks3.length c3 cal3 A4 ks3.length c4 ∧ StAt w (fun b => gb < b ∧ r ≠ some b) T' (.node k' a' b' nm' A2 c2 ks')) ∧ (r = row ∨ ∃ n, r = some n ∧ w4.heap.size ≤ n)) (fun r w w' hb ⟨⟨T', e, h⟩, h2⟩ => ⟨⟨T', e, h.next hb⟩, h2⟩)
      (fun r w w' ⟨T', e, h⟩ hg hb hr => ⟨⟨T', e, h.keep (fun b hp hl => ⟨hg.block b hl (fun e => hp.2 (by rw [← HRw.out]; exact e.symm)), hp.1, fun e => by
        rcases hr with hr | hr
        · exact hp.2 (by rw [← HRw.out, ← hr]; exact e)
        · rw [hr] at e; injection e with e; omega⟩) hg.size⟩, hr.imp id fun h => ⟨_, h, hb.size⟩⟩) (by simp only [maxLen]; omega) (by omega) fun A8 cap => ?_
    try simp only [Act.put, List.setIfInBounds_toArray, List.set_cons_zero, List.set_cons_succ, Nat.reduceAdd]
    repeat (first | (refine flowG_val (v := ?_) (by rfl) (by rfl) (fun w hb => ?_) ?_; rotate_left; (· ((go_simp) <;> ((repeat' apply And.intro) <;> with_reducible rfl))); try simp only [Act.put, List.setIfInBounds_toArray, List.set_cons_zero, List.set_cons_succ, Nat.reduceAdd]) | (refine flowG_skip (by rfl) (by rfl) ?_; try simp only [Act.put, List.setIfInBounds_toArray, List.set_cons_zero, List.set_cons_succ, Nat.reduceAdd]))
    refine flowG_nil fun w7 hgrow hf => ?_
    obtain ⟨hown7, ⟨T', eT, hsT⟩, hrow7⟩ := hf.1
    obtain ⟨g9, cap9, hv9, hb9, hlt9⟩ := hown7.form (by omega)
    obtain rfl : A8 = some ⟨g9, 0, none⟩ := by injection hv9
    have hx7 := HT4.out.grown hgrow (fun e => by have := hlr gb e.symm; omega)
    have hg7 : gb < w7.heap.size := hx7.lt
    have hf7 : w7.frozen? ⟨gb, 8, none⟩ = false := hx7.free 8
    have hc7 : w7.cell? ⟨gb, 8, none⟩ = some (.slice A' j c') := hx7.cell 8
    have hxl : (Ts.flatMap stF).length = j * 11 := by rw [flat_length stF_len, hTs]
    have hne1 : ¬ g9 = gb := by omega
    have hne2 : ¬ gb = g9 := by omega
    have f0 : w7.frozen? ⟨g9, j * 11, none⟩ = false := hown7.frozenAt _
    have f1 : w7.frozen? ⟨g9, j * 11 + 1, none⟩ = false := hown7.frozenAt _
    have f2 : w7.frozen? ⟨g9, j * 11 + 2, none⟩ = false := hown7.frozenAt _
    have f3 : w7.frozen? ⟨g9, j * 11 + 3, none⟩ = false := hown7.frozenAt _
    have f4 : w7.frozen? ⟨g9, j * 11 + 4, none⟩ = false := hown7.frozenAt _
    have f5 : w7.frozen? ⟨g9, j * 11 + 5, none⟩ = false := hown7.frozenAt _
    have f6 : w7.frozen? ⟨g9, j * 11 + 6, none⟩ = false := hown7.frozenAt _
    have f7 : w7.frozen? ⟨g9, j * 11 + 7, none⟩ = false := hown7.frozenAt _
    have f8 : w7.frozen? ⟨g9, j * 11 + 8, none⟩ = false := hown7.frozenAt _
    have f9 : w7.frozen? ⟨g9, j * 11 + 9, none⟩ = false := hown7.frozenAt _
    have f10 : w7.frozen? ⟨g9, j * 11 + 10, none⟩ = false := hown7.frozenAt _
    have n0 : w7.cell? ⟨g9, j * 11, none⟩ = some (.int .i64 0) := (hown7.cellAt (j * 11 + 0) (by omega)).trans (by rw [List.getElem?_append_right (by omega), hxl, Nat.add_sub_cancel_left]; rfl)
    have n1 : w7.cell? ⟨g9, j * 11 + 1, none⟩ = some (.int .i64 0) := (hown7.cellAt (j * 11 + 1) (by omega)).trans (by rw [List.getElem?_append_right (by omega), hxl, Nat.add_sub_cancel_left]; rfl)
    have n2 : w7.cell? ⟨g9, j * 11 + 2, none⟩ = some (.int .i64 0) := (hown7.cellAt (j * 11 + 2) (by omega)).trans (by rw [List.getElem?_append_right (by omega), hxl, Nat.add_sub_cancel_left]; rfl)
    have n3 : w7.cell? ⟨g9, j * 11 + 3, none⟩ = some (.string ⟨#[]⟩) := (hown7.cellAt (j * 11 + 3) (by omega)).trans (by rw [List.getElem?_append_right (by omega), hxl, Nat.add_sub_cancel_left]; rfl)
    have n4 : w7.cell? ⟨g9, j * 11 + 4, none⟩ = some (.slice none 0 0) := (hown7.cellAt (j * 11 + 4) (by omega)).trans (by rw [List.getElem?_append_right (by omega), hxl, Nat.add_sub_cancel_left]; rfl)
    have n5 : w7.cell? ⟨g9, j * 11 + 5, none⟩ = some (.string ⟨#[]⟩) := (hown7.cellAt (j * 11 + 5) (by omega)).trans (by rw [List.getElem?_append_right (by omega), hxl, Nat.add_sub_cancel_left]; rfl)
    have n6 : w7.cell? ⟨g9, j * 11 + 6, none⟩ = some (.int .i64 0) := (hown7.cellAt (j * 11 + 6) (by omega)).trans (by rw [List.getElem?_append_right (by omega), hxl, Nat.add_sub_cancel_left]; rfl)
    have n7 : w7.cell? ⟨g9, j * 11 + 7, none⟩ = some (.int .i64 0) := (hown7.cellAt (j * 11 + 7) (by omega)).trans (by rw [List.getElem?_append_right (by omega), hxl, Nat.add_sub_cancel_left]; rfl)
    have n8 : w7.cell? ⟨g9, j * 11 + 8, none⟩ = some (.slice none 0 0) := (hown7.cellAt (j * 11 + 8) (by omega)).trans (by rw [List.getElem?_append_right (by omega), hxl, Nat.add_sub_cancel_left]; rfl)
    have n9 : w7.cell? ⟨g9, j * 11 + 9, none⟩ = some (.slice none 0 0) := (hown7.cellAt (j * 11 + 9) (by omega)).trans (by rw [List.getElem?_append_right (by omega), hxl, Nat.add_sub_cancel_left]; rfl)
    have n10 : w7.cell? ⟨g9, j * 11 + 10, none⟩ = some (.slice none 0 0) := (hown7.cellAt (j * 11 + 10) (by omega)).trans (by rw [List.getElem?_append_right (by omega), hxl, Nat.add_sub_cancel_left]; rfl)
    have hj0 : (0 : Int) ≤ (j : Int) := by omega
    have hj1 : (j : Int) < ((j + 1 : Nat) : Int) := by omega
    have hj2 : (j : Int) < (j : Int) + 1 := by omega
    clear hv9 hf
    have HB7 : Hid (Below w.heap.size w w7) := HB4.out.grown hgrow hsz4 hlrg
    refine wpAny_two 10 12 (by kernel_rfl) ?_ ?_
    · (refine wpOp_val (v := ?_) (by rfl) (by rfl) ?_ ?_; rotate_left; (· ((go_simp) <;> ((repeat' apply And.intro) <;> with_reducible rfl))); try simp only [Act.put, List.setIfInBounds_toArray, List.set_cons_zero, List.set_cons_succ])
      refine wpAny_two 11 12 (by kernel_rfl) ?_ ?_
      · (refine wpOp_store (w' := ?_) (by rfl) (by rfl) ?_ ?_; rotate_left; (· ((go_simp) <;> ((repeat' apply And.intro) <;> with_reducible rfl))); try simp only [Act.put])
        refine wpAny_one 12 (by kernel_rfl) ?_
        (refine wpOp_val (v := ?_) (by rfl) (by rfl) ?_ ?_; rotate_left; (· ((go_simp) <;> ((repeat' apply And.intro) <;> with_reducible rfl))); try simp only [Act.put, List.setIfInBounds_toArray, List.set_cons_zero, List.set_cons_succ])
        refine wpAny_one 13 (by kernel_rfl) ?_
        (refine wpOp_val (v := ?_) (by rfl) (by rfl) ?_ ?_; rotate_left; (· ((go_simp) <;> ((repeat' apply And.intro) <;> with_reducible rfl))); try simp only [Act.put, List.setIfInBounds_toArray, List.set_cons_zero, List.set_cons_succ])
        refine wpAny_one 14 (by kernel_rfl) ?_
        (refine wpOp_store (w' := ?_) (by rfl) (by rfl) ?_ ?_; rotate_left; (· ((go_simp) <;> ((repeat' apply And.intro) <;> with_reducible rfl))); try simp only [Act.put])
        refine wpAny_end (by kernel_rfl) ?_
        obtain ⟨q1, q2, q3, q4, q5⟩ := bk_a (B := w.heap.size) (w := w) hx7 hown7 hxl (.slice (some ⟨g9, 0, none⟩) (j + 1) cap) (.int .i64 k3) (.int .i64 a3) (.int .i64 b3) (.string nm3) (.slice A3 ks3.length c3) (.string cal3.nm) (.int .i64 cal3.ep) (.int .i64 cal3.cy) (.slice cal3.A1 cal3.mo.length cal3.c1) (.slice cal3.A2 cal3.lp.length cal3.c2) (.slice A4 ks3.length c4) hne2 (by omega) HB7.out (by omega) (by omega)
        clear n0 n1 n2 n3 n4 n5 n6 n7 n8 n9 n10 f0 f1 f2 f3 f4 f5 f6 f7 f8 f9 f10
        generalize (((((((((((w7.setCell ⟨g9, j * 11, none⟩ (.int .i64 k3)).setCell ⟨g9, j * 11 + 1, none⟩ (.int .i64 a3)).setCell ⟨g9, j * 11 + 2, none⟩ (.int .i64 b3)).setCell ⟨g9, j * 11 + 3, none⟩ (.string nm3)).setCell ⟨g9, j * 11 + 4, none⟩ (.slice A3 ks3.length c3)).setCell ⟨g9, j * 11 + 5, none⟩ (.string cal3.nm)).setCell ⟨g9, j * 11 + 6, none⟩ (.int .i64 cal3.ep)).setCell ⟨g9, j * 11 + 7, none⟩ (.int .i64 cal3.cy)).setCell ⟨g9, j * 11 + 8, none⟩ (.slice cal3.A1 cal3.mo.length cal3.c1)).setCell ⟨g9, j * 11 + 9, none⟩ (.slice cal3.A2 cal3.lp.length cal3.c2)).setCell ⟨g9, j * 11 + 10, none⟩ (.slice A4 ks3.length c4)).setCell ⟨gb, 8, none⟩ (.slice (some ⟨g9, 0, none⟩) (j + 1) cap) = w8 at *
        have HT8 : Hid (Box w8 gb 157 #[v0, v1, v2, v3, v4, v5, v6, .slice (some ⟨bb, o, none⟩) h.ex.length h.c, .slice (some ⟨g9, 0, none⟩) (j + 1) cap, .string nm, .int .i64 first, .slice Az chs.length cz]) := q1
        have HO8 : Hid (w8.ownsRow (gb + 1) 99 11 (.slice (some ⟨g9, 0, none⟩) (j + 1) cap) (j + 1) ((Ts ++ [T']).flatMap stF)) := by
          have e : (Ts ++ [T']).flatMap stF = Ts.flatMap stF ++ stL k3 a3 b3 nm3 A3 ks3.length c3 cal3 A4 ks3.length c4 := by rw [List.flatMap_append, ← eT]; simp
          unfold Hid
          rw [e]
          exact q2
        have hkeep : ∀ b, ownP gb (.slice A' j c') b → b < wr.heap.size → w8.heap[b]? = wr.heap[b]? ∧ ownP gb (.slice (some ⟨g9, 0, none⟩) (j + 1) cap) b := fun b hp hl => by
          have h1 := hp.1
          have h9 : (Value.slice (some ⟨g9, 0, none⟩) (j + 1) cap).ownBlock ≠ some b := fun e => by
            rcases hrow7 with h | ⟨n, h, hn⟩
            · exact hp.2 (by rw [← HRw.out, ← h]; exact e)
            · rw [h] at e; injection e with e; omega
          have h9' : b ≠ g9 := fun e => h9 (by rw [e]; rfl)
          exact ⟨(q3 b (by omega) h9').trans ((hgrow.block b (by omega) (fun e => hp.2 (by rw [← HRw.out]; exact e.symm))).trans (HA4.out.block b hl)), h1, h9⟩
        have hkt : ∀ b, (gb < b ∧ (Value.slice (some ⟨g9, 0, none⟩) (j + 1) cap).ownBlock ≠ some b) → b < w7.heap.size → w8.heap[b]? = w7.heap[b]? ∧ ownP gb (.slice (some ⟨g9, 0, none⟩) (j + 1) cap) b := fun b hp hl => ⟨q3 b (by have := hp.1; omega) (fun e => hp.2 (by rw [e]; rfl)), hp⟩
        have hs7 := hgrow.size
        have HS8 : Hid (∀ i, i < j + 1 → StAt w8 (ownP gb (.slice (some ⟨g9, 0, none⟩) (j + 1) cap)) ((Ts ++ [T']).getD i st0) (h.ex.getD i hx0).t) := fun i hi => by
          by_cases hij : i < j
          · have e : (Ts ++ [T']).getD i st0 = Ts.getD i st0 := by simp [List.getD_eq_getElem?_getD, List.getElem?_append_left (show i < Ts.length by omega)]
            rw [e]
            exact (hS.out i hij).keep hkeep (by omega)
          · obtain rfl : i = j := by omega
            have e : (Ts ++ [T']).getD i st0 = T' := by simp [List.getD_eq_getElem?_getD, ← hTs]
            rw [e, HX.out]
            exact hsT.keep hkt (by omega)
        have HB8 := Lib.hid q5
        clear hown7 hsT hrow7 hgrow hx7 hkeep hkt q1 q2 q3 q4 q5 d10 m0 m1 m2 m3 m4 hS hT hO hbr HT4 HO4 HX4 HA4 HB4 hown hlr hlrg hbl4 hg7 hf7 hc7 HB7
        go_wp2_with fail
        go_roundw
        case rel => exact ⟨j + 1, by omega, by go_num, Ts ++ [T'], some ⟨g9, 0, none⟩, cap, by simp [hTs], HT8, HO8, HS8, HB8⟩
        case measure => simp [intOf]; omega
      · (refine wpOp_val (v := ?_) (by rfl) (by rfl) ?_ ?_; rotate_left; (· ((go_simp) <;> ((repeat' apply And.intro) <;> with_reducible rfl))); try simp only [Act.put, List.setIfInBounds_toArray, List.set_cons_zero, List.set_cons_succ])
        refine wpAny_two 11 13 (by kernel_rfl) ?_ ?_
        · (refine wpOp_store (w' := ?_) (by rfl) (by rfl) ?_ ?_; rotate_left; (· ((go_simp) <;> ((repeat' apply And.intro) <;> with_reducible rfl))); try simp only [Act.put])
          refine wpAny_one 13 (by kernel_rfl) ?_
          (refine wpOp_val (v := ?_) (by rfl) (by rfl) ?_ ?_; rotate_left; (· ((go_simp) <;> ((repeat' apply And.intro) <;> with_reducible rfl))); try simp only [Act.put, List.setIfInBounds_toArray, List.set_cons_zero, List.set_cons_succ])
          refine wpAny_one 14 (by kernel_rfl) ?_
          (refine wpOp_store (w' := ?_) (by rfl) (by rfl) ?_ ?_; rotate_left; (· ((go_simp) <;> ((repeat' apply And.intro) <;> with_reducible rfl))); try simp only [Act.put])
          refine wpAny_end (by kernel_rfl) ?_
          obtain ⟨q1, q2, q3, q4, q5⟩ := bk_a (B := w.heap.size) (w := w) hx7 hown7 hxl (.slice (some ⟨g9, 0, none⟩) (j + 1) cap) (.int .i64 k3) (.int .i64 a3) (.int .i64 b3) (.string nm3) (.slice A3 ks3.length c3) (.string cal3.nm) (.int .i64 cal3.ep) (.int .i64 cal3.cy) (.slice cal3.A1 cal3.mo.length cal3.c1) (.slice cal3.A2 cal3.lp.length cal3.c2) (.slice A4 ks3.length c4) hne2 (by omega) HB7.out (by omega) (by omega)
          clear n0 n1 n2 n3 n4 n5 n6 n7 n8 n9 n10 f0 f1 f2 f3 f4 f5 f6 f7 f8 f9 f10
          generalize (((((((((((w7.setCell ⟨g9, j * 11, none⟩ (.int .i64 k3)).setCell ⟨g9, j * 11 + 1, none⟩ (.int .i64 a3)).setCell ⟨g9, j * 11 + 2, none⟩ (.int .i64 b3)).setCell ⟨g9, j * 11 + 3, none⟩ (.string nm3)).setCell ⟨g9, j * 11 + 4, none⟩ (.slice A3 ks3.length c3)).setCell ⟨g9, j * 11 + 5, none⟩ (.string cal3.nm)).setCell ⟨g9, j * 11 + 6, none⟩ (.int .i64 cal3.ep)).setCell ⟨g9, j * 11 + 7, none⟩ (.int .i64 cal3.cy)).setCell ⟨g9, j * 11 + 8, none⟩ (.slice cal3.A1 cal3.mo.length cal3.c1)).setCell ⟨g9, j * 11 + 9, none⟩ (.slice cal3.A2 cal3.lp.length cal3.c2)).setCell ⟨g9, j * 11 + 10, none⟩ (.slice A4 ks3.length c4)).setCell ⟨gb, 8, none⟩ (.slice (some ⟨g9, 0, none⟩) (j + 1) cap) = w8 at *
          have HT8 : Hid (Box w8 gb 157 #[v0, v1, v2, v3, v4, v5, v6, .slice (some ⟨bb, o, none⟩) h.ex.length h.c, .slice (some ⟨g9, 0, none⟩) (j + 1) cap, .string nm, .int .i64 first, .slice Az chs.length cz]) := q1
          have HO8 : Hid (w8.ownsRow (gb + 1) 99 11 (.slice (some ⟨g9, 0, none⟩) (j + 1) cap) (j + 1) ((Ts ++ [T']).flatMap stF)) := by
            have e : (Ts ++ [T']).flatMap stF = Ts.flatMap stF ++ stL k3 a3 b3 nm3 A3 ks3.length c3 cal3 A4 ks3.length c4 := by rw [List.flatMap_append, ← eT]; simp
            unfold Hid
            rw [e]
            exact q2
          have hkeep : ∀ b, ownP gb (.slice A' j c') b → b < wr.heap.size → w8.heap[b]? = wr.heap[b]? ∧ ownP gb (.slice (some ⟨g9, 0, none⟩) (j + 1) cap) b := fun b hp hl => by
            have h1 := hp.1
            have h9 : (Value.slice (some ⟨g9, 0, none⟩) (j + 1) cap).ownBlock ≠ some b := fun e => by
              rcases hrow7 with h | ⟨n, h, hn⟩
              · exact hp.2 (by rw [← HRw.out, ← h]; exact e)
              · rw [h] at e; injection e with e; omega
            have h9' : b ≠ g9 := fun e => h9 (by rw [e]; rfl)
            exact ⟨(q3 b (by omega) h9').trans ((hgrow.block b (by omega) (fun e => hp.2 (by rw [← HRw.out]; exact e.symm))).trans (HA4.out.block b hl)), h1, h9⟩
          have hkt : ∀ b, (gb < b ∧ (Value.slice (some ⟨g9, 0, none⟩) (j + 1) cap).ownBlock ≠ some b) → b < w7.heap.size → w8.heap[b]? = w7.heap[b]? ∧ ownP gb (.slice (some ⟨g9, 0, none⟩) (j + 1) cap) b := fun b hp hl => ⟨q3 b (by have := hp.1; omega) (fun e => hp.2 (by rw [e]; rfl)), hp⟩
          have hs7 := hgrow.size
          have HS8 : Hid (∀ i, i < j + 1 → StAt w8 (ownP gb (.slice (some ⟨g9, 0, none⟩) (j + 1) cap)) ((Ts ++ [T']).getD i st0) (h.ex.getD i hx0).t) := fun i hi => by
            by_cases hij : i < j
            · have e : (Ts ++ [T']).getD i st0 = Ts.getD i st0 := by simp [List.getD_eq_getElem?_getD, List.getElem?_append_left (show i < Ts.length by omega)]
              rw [e]
              exact (hS.out i hij).keep hkeep (by omega)
            · obtain rfl : i = j := by omega
              have e : (Ts ++ [T']).getD i st0 = T' := by simp [List.getD_eq_getElem?_getD, ← hTs]
              rw [e, HX.out]
              exact hsT.keep hkt (by omega)
          have HB8 := Lib.hid q5
          clear hown7 hsT hrow7 hgrow hx7 hkeep hkt q1 q2 q3 q4 q5 d10 m0 m1 m2 m3 m4 hS hT hO hbr HT4 HO4 HX4 HA4 HB4 hown hlr hlrg hbl4 hg7 hf7 hc7 HB7
          go_wp2_with fail
          go_roundw
          case rel => exact ⟨j + 1, by omega, by go_num, Ts ++ [T'], some ⟨g9, 0, none⟩, cap, by simp [hTs], HT8, HO8, HS8, HB8⟩
          case measure => simp [intOf]; omega
        · (refine wpOp_val (v := ?_) (by rfl) (by rfl) ?_ ?_; rotate_left; (· ((go_simp) <;> ((repeat' apply And.intro) <;> with_reducible rfl))); try simp only [Act.put, List.setIfInBounds_toArray, List.set_cons_zero, List.set_cons_succ])
          refine wpAny_two 11 14 (by kernel_rfl) ?_ ?_
          · (refine wpOp_store (w' := ?_) (by rfl) (by rfl) ?_ ?_; rotate_left; (· ((go_simp) <;> ((repeat' apply And.intro) <;> with_reducible rfl))); try simp only [Act.put])
            refine wpAny_one 14 (by kernel_rfl) ?_
            (refine wpOp_store (w' := ?_) (by rfl) (by rfl) ?_ ?_; rotate_left; (· ((go_simp) <;> ((repeat' apply And.intro) <;> with_reducible rfl))); try simp only [Act.put])
            refine wpAny_end (by kernel_rfl) ?_
            obtain ⟨q1, q2, q3, q4, q5⟩ := bk_a (B := w.heap.size) (w := w) hx7 hown7 hxl (.slice (some ⟨g9, 0, none⟩) (j + 1) cap) (.int .i64 k3) (.int .i64 a3) (.int .i64 b3) (.string nm3) (.slice A3 ks3.length c3) (.string cal3.nm) (.int .i64 cal3.ep) (.int .i64 cal3.cy) (.slice cal3.A1 cal3.mo.length cal3.c1) (.slice cal3.A2 cal3.lp.length cal3.c2) (.slice A4 ks3.length c4) hne2 (by omega) HB7.out (by omega) (by omega)
            clear n0 n1 n2 n3 n4 n5 n6 n7 n8 n9 n10 f0 f1 f2 f3 f4 f5 f6 f7 f8 f9 f10
            generalize (((((((((((w7.setCell ⟨g9, j * 11, none⟩ (.int .i64 k3)).setCell ⟨g9, j * 11 + 1, none⟩ (.int .i64 a3)).setCell ⟨g9, j * 11 + 2, none⟩ (.int .i64 b3)).setCell ⟨g9, j * 11 + 3, none⟩ (.string nm3)).setCell ⟨g9, j * 11 + 4, none⟩ (.slice A3 ks3.length c3)).setCell ⟨g9, j * 11 + 5, none⟩ (.string cal3.nm)).setCell ⟨g9, j * 11 + 6, none⟩ (.int .i64 cal3.ep)).setCell ⟨g9, j * 11 + 7, none⟩ (.int .i64 cal3.cy)).setCell ⟨g9, j * 11 + 8, none⟩ (.slice cal3.A1 cal3.mo.length cal3.c1)).setCell ⟨g9, j * 11 + 9, none⟩ (.slice cal3.A2 cal3.lp.length cal3.c2)).setCell ⟨g9, j * 11 + 10, none⟩ (.slice A4 ks3.length c4)).setCell ⟨gb, 8, none⟩ (.slice (some ⟨g9, 0, none⟩) (j + 1) cap) = w8 at *
            have HT8 : Hid (Box w8 gb 157 #[v0, v1, v2, v3, v4, v5, v6, .slice (some ⟨bb, o, none⟩) h.ex.length h.c, .slice (some ⟨g9, 0, none⟩) (j + 1) cap, .string nm, .int .i64 first, .slice Az chs.length cz]) := q1
            have HO8 : Hid (w8.ownsRow (gb + 1) 99 11 (.slice (some ⟨g9, 0, none⟩) (j + 1) cap) (j + 1) ((Ts ++ [T']).flatMap stF)) := by
              have e : (Ts ++ [T']).flatMap stF = Ts.flatMap stF ++ stL k3 a3 b3 nm3 A3 ks3.length c3 cal3 A4 ks3.length c4 := by rw [List.flatMap_append, ← eT]; simp
              unfold Hid
              rw [e]
              exact q2
            have hkeep : ∀ b, ownP gb (.slice A' j c') b → b < wr.heap.size → w8.heap[b]? = wr.heap[b]? ∧ ownP gb (.slice (some ⟨g9, 0, none⟩) (j + 1) cap) b := fun b hp hl => by
              have h1 := hp.1
              have h9 : (Value.slice (some ⟨g9, 0, none⟩) (j + 1) cap).ownBlock ≠ some b := fun e => by
                rcases hrow7 with h | ⟨n, h, hn⟩
                · exact hp.2 (by rw [← HRw.out, ← h]; exact e)
                · rw [h] at e; injection e with e; omega
              have h9' : b ≠ g9 := fun e => h9 (by rw [e]; rfl)
              exact ⟨(q3 b (by omega) h9').trans ((hgrow.block b (by omega) (fun e => hp.2 (by rw [← HRw.out]; exact e.symm))).trans (HA4.out.block b hl)), h1, h9⟩
            have hkt : ∀ b, (gb < b ∧ (Value.slice (some ⟨g9, 0, none⟩) (j + 1) cap).ownBlock ≠ some b) → b < w7.heap.size → w8.heap[b]? = w7.heap[b]? ∧ ownP gb (.slice (some ⟨g9, 0, none⟩) (j + 1) cap) b := fun b hp hl => ⟨q3 b (by have := hp.1; omega) (fun e => hp.2 (by rw [e]; rfl)), hp⟩
            have hs7 := hgrow.size
            have HS8 : Hid (∀ i, i < j + 1 → StAt w8 (ownP gb (.slice (some ⟨g9, 0, none⟩) (j + 1) cap)) ((Ts ++ [T']).getD i st0) (h.ex.getD i hx0).t) := fun i hi => by
              by_cases hij : i < j
              · have e : (Ts ++ [T']).getD i st0 = Ts.getD i st0 := by simp [List.getD_eq_getElem?_getD, List.getElem?_append_left (show i < Ts.length by omega)]
                rw [e]
                exact (hS.out i hij).keep hkeep (by omega)
              · obtain rfl : i = j := by omega
                have e : (Ts ++ [T']).getD i st0 = T' := by simp [List.getD_eq_getElem?_getD, ← hTs]
                rw [e, HX.out]
                exact hsT.keep hkt (by omega)
            have HB8 := Lib.hid q5
            clear hown7 hsT hrow7 hgrow hx7 hkeep hkt q1 q2 q3 q4 q5 d10 m0 m1 m2 m3 m4 hS hT hO hbr HT4 HO4 HX4 HA4 HB4 hown hlr hlrg hbl4 hg7 hf7 hc7 HB7
            go_wp2_with fail
            go_roundw
            case rel => exact ⟨j + 1, by omega, by go_num, Ts ++ [T'], some ⟨g9, 0, none⟩, cap, by simp [hTs], HT8, HO8, HS8, HB8⟩
            case measure => simp [intOf]; omega
          · (refine wpOp_store (w' := ?_) (by rfl) (by rfl) ?_ ?_; rotate_left; (· ((go_simp) <;> ((repeat' apply And.intro) <;> with_reducible rfl))); try simp only [Act.put])
            refine wpAny_one 11 (by kernel_rfl) ?_
            (refine wpOp_store (w' := ?_) (by rfl) (by rfl) ?_ ?_; rotate_left; (· ((go_simp) <;> ((repeat' apply And.intro) <;> with_reducible rfl))); try simp only [Act.put])
            refine wpAny_end (by kernel_rfl) ?_
            obtain ⟨q1, q2, q3, q4, q5⟩ := bk_b (B := w.heap.size) (w := w) hx7 hown7 hxl (.slice (some ⟨g9, 0, none⟩) (j + 1) cap) (.int .i64 k3) (.int .i64 a3) (.int .i64 b3) (.string nm3) (.slice A3 ks3.length c3) (.string cal3.nm) (.int .i64 cal3.ep) (.int .i64 cal3.cy) (.slice cal3.A1 cal3.mo.length cal3.c1) (.slice cal3.A2 cal3.lp.length cal3.c2) (.slice A4 ks3.length c4) hne2 (by omega) HB7.out (by omega) (by omega)
            clear n0 n1 n2 n3 n4 n5 n6 n7 n8 n9 n10 f0 f1 f2 f3 f4 f5 f6 f7 f8 f9 f10
            generalize (((((((((((w7.setCell ⟨gb, 8, none⟩ (.slice (some ⟨g9, 0, none⟩) (j + 1) cap)).setCell ⟨g9, j * 11, none⟩ (.int .i64 k3)).setCell ⟨g9, j * 11 + 1, none⟩ (.int .i64 a3)).setCell ⟨g9, j * 11 + 2, none⟩ (.int .i64 b3)).setCell ⟨g9, j * 11 + 3, none⟩ (.string nm3)).setCell ⟨g9, j * 11 + 4, none⟩ (.slice A3 ks3.length c3)).setCell ⟨g9, j * 11 + 5, none⟩ (.string cal3.nm)).setCell ⟨g9, j * 11 + 6, none⟩ (.int .i64 cal3.ep)).setCell ⟨g9, j * 11 + 7, none⟩ (.int .i64 cal3.cy)).setCell ⟨g9, j * 11 + 8, none⟩ (.slice cal3.A1 cal3.mo.length cal3.c1)).setCell ⟨g9, j * 11 + 9, none⟩ (.slice cal3.A2 cal3.lp.length cal3.c2)).setCell ⟨g9, j * 11 + 10, none⟩ (.slice A4 ks3.length c4) = w8 at *
            have HT8 : Hid (Box w8 gb 157 #[v0, v1, v2, v3, v4, v5, v6, .slice (some ⟨bb, o, none⟩) h.ex.length h.c, .slice (some ⟨g9, 0, none⟩) (j + 1) cap, .string nm, .int .i64 first, .slice Az chs.length cz]) := q1
            have HO8 : Hid (w8.ownsRow (gb + 1) 99 11 (.slice (some ⟨g9, 0, none⟩) (j + 1) cap) (j + 1) ((Ts ++ [T']).flatMap stF)) := by
              have e : (Ts ++ [T']).flatMap stF = Ts.flatMap stF ++ stL k3 a3 b3 nm3 A3 ks3.length c3 cal3 A4 ks3.length c4 := by rw [List.flatMap_append, ← eT]; simp
              unfold Hid
              rw [e]
              exact q2
            have hkeep : ∀ b, ownP gb (.slice A' j c') b → b < wr.heap.size → w8.heap[b]? = wr.heap[b]? ∧ ownP gb (.slice (some ⟨g9, 0, none⟩) (j + 1) cap) b := fun b hp hl => by
              have h1 := hp.1
              have h9 : (Value.slice (some ⟨g9, 0, none⟩) (j + 1) cap).ownBlock ≠ some b := fun e => by
                rcases hrow7 with h | ⟨n, h, hn⟩
                · exact hp.2 (by rw [← HRw.out, ← h]; exact e)
                · rw [h] at e; injection e with e; omega
              have h9' : b ≠ g9 := fun e => h9 (by rw [e]; rfl)
              exact ⟨(q3 b (by omega) h9').trans ((hgrow.block b (by omega) (fun e => hp.2 (by rw [← HRw.out]; exact e.symm))).trans (HA4.out.block b hl)), h1, h9⟩
            have hkt : ∀ b, (gb < b ∧ (Value.slice (some ⟨g9, 0, none⟩) (j + 1) cap).ownBlock ≠ some b) → b < w7.heap.size → w8.heap[b]? = w7.heap[b]? ∧ ownP gb (.slice (some ⟨g9, 0, none⟩) (j + 1) cap) b := fun b hp hl => ⟨q3 b (by have := hp.1; omega) (fun e => hp.2 (by rw [e]; rfl)), hp⟩
            have hs7 := hgrow.size
            have HS8 : Hid (∀ i, i < j + 1 → StAt w8 (ownP gb (.slice (some ⟨g9, 0, none⟩) (j + 1) cap)) ((Ts ++ [T']).getD i st0) (h.ex.getD i hx0).t) := fun i hi => by
              by_cases hij : i < j
              · have e : (Ts ++ [T']).getD i st0 = Ts.getD i st0 := by simp [List.getD_eq_getElem?_getD, List.getElem?_append_left (show i < Ts.length by omega)]
                rw [e]
                exact (hS.out i hij).keep hkeep (by omega)
              · obtain rfl : i = j := by omega
                have e : (Ts ++ [T']).getD i st0 = T' := by simp [List.getD_eq_getElem?_getD, ← hTs]
                rw [e, HX.out]
                exact hsT.keep hkt (by omega)
            have HB8 := Lib.hid q5
            clear hown7 hsT hrow7 hgrow hx7 hkeep hkt q1 q2 q3 q4 q5 d10 m0 m1 m2 m3 m4 hS hT hO hbr HT4 HO4 HX4 HA4 HB4 hown hlr hlrg hbl4 hg7 hf7 hc7 HB7
            go_wp2_with fail
            go_roundw
            case rel => exact ⟨j + 1, by omega, by go_num, Ts ++ [T'], some ⟨g9, 0, none⟩, cap, by simp [hTs], HT8, HO8, HS8, HB8⟩
            case measure => simp [intOf]; omega
    · (refine wpOp_val (v := ?_) (by rfl) (by rfl) ?_ ?_; rotate_left; (· ((go_simp) <;> ((repeat' apply And.intro) <;> with_reducible rfl))); try simp only [Act.put, List.setIfInBounds_toArray, List.set_cons_zero, List.set_cons_succ])
      refine wpAny_two 10 13 (by kernel_rfl) ?_ ?_
      · (refine wpOp_val (v := ?_) (by rfl) (by rfl) ?_ ?_; rotate_left; (· ((go_simp) <;> ((repeat' apply And.intro) <;> with_reducible rfl))); try simp only [Act.put, List.setIfInBounds_toArray, List.set_cons_zero, List.set_cons_succ])
        refine wpAny_two 11 13 (by kernel_rfl) ?_ ?_
        · (refine wpOp_store (w' := ?_) (by rfl) (by rfl) ?_ ?_; rotate_left; (· ((go_simp) <;> ((repeat' apply And.intro) <;> with_reducible rfl))); try simp only [Act.put])
          refine wpAny_one 13 (by kernel_rfl) ?_
          (refine wpOp_val (v := ?_) (by rfl) (by rfl) ?_ ?_; rotate_left; (· ((go_simp) <;> ((repeat' apply And.intro) <;> with_reducible rfl))); try simp only [Act.put, List.setIfInBounds_toArray, List.set_cons_zero, List.set_cons_succ])
          refine wpAny_one 14 (by kernel_rfl) ?_
          (refine wpOp_store (w' := ?_) (by rfl) (by rfl) ?_ ?_; rotate_left; (· ((go_simp) <;> ((repeat' apply And.intro) <;> with_reducible rfl))); try simp only [Act.put])
          refine wpAny_end (by kernel_rfl) ?_
          obtain ⟨q1, q2, q3, q4, q5⟩ := bk_a (B := w.heap.size) (w := w) hx7 hown7 hxl (.slice (some ⟨g9, 0, none⟩) (j + 1) cap) (.int .i64 k3) (.int .i64 a3) (.int .i64 b3) (.string nm3) (.slice A3 ks3.length c3) (.string cal3.nm) (.int .i64 cal3.ep) (.int .i64 cal3.cy) (.slice cal3.A1 cal3.mo.length cal3.c1) (.slice cal3.A2 cal3.lp.length cal3.c2) (.slice A4 ks3.length c4) hne2 (by omega) HB7.out (by omega) (by omega)
          clear n0 n1 n2 n3 n4 n5 n6 n7 n8 n9 n10 f0 f1 f2 f3 f4 f5 f6 f7 f8 f9 f10
          generalize (((((((((((w7.setCell ⟨g9, j * 11, none⟩ (.int .i64 k3)).setCell ⟨g9, j * 11 + 1, none⟩ (.int .i64 a3)).setCell ⟨g9, j * 11 + 2, none⟩ (.int .i64 b3)).setCell ⟨g9, j * 11 + 3, none⟩ (.string nm3)).setCell ⟨g9, j * 11 + 4, none⟩ (.slice A3 ks3.length c3)).setCell ⟨g9, j * 11 + 5, none⟩ (.string cal3.nm)).setCell ⟨g9, j * 11 + 6, none⟩ (.int .i64 cal3.ep)).setCell ⟨g9, j * 11 + 7, none⟩ (.int .i64 cal3.cy)).setCell ⟨g9, j * 11 + 8, none⟩ (.slice cal3.A1 cal3.mo.length cal3.c1)).setCell ⟨g9, j * 11 + 9, none⟩ (.slice cal3.A2 cal3.lp.length cal3.c2)).setCell ⟨g9, j * 11 + 10, none⟩ (.slice A4 ks3.length c4)).setCell ⟨gb, 8, none⟩ (.slice (some ⟨g9, 0, none⟩) (j + 1) cap) = w8 at *
          have HT8 : Hid (Box w8 gb 157 #[v0, v1, v2, v3, v4, v5, v6, .slice (some ⟨bb, o, none⟩) h.ex.length h.c, .slice (some ⟨g9, 0, none⟩) (j + 1) cap, .string nm, .int .i64 first, .slice Az chs.length cz]) := q1
          have HO8 : Hid (w8.ownsRow (gb + 1) 99 11 (.slice (some ⟨g9, 0, none⟩) (j + 1) cap) (j + 1) ((Ts ++ [T']).flatMap stF)) := by
            have e : (Ts ++ [T']).flatMap stF = Ts.flatMap stF ++ stL k3 a3 b3 nm3 A3 ks3.length c3 cal3 A4 ks3.length c4 := by rw [List.flatMap_append, ← eT]; simp
            unfold Hid
            rw [e]
            exact q2
          have hkeep : ∀ b, ownP gb (.slice A' j c') b → b < wr.heap.size → w8.heap[b]? = wr.heap[b]? ∧ ownP gb (.slice (some ⟨g9, 0, none⟩) (j + 1) cap) b := fun b hp hl => by
            have h1 := hp.1
            have h9 : (Value.slice (some ⟨g9, 0, none⟩) (j + 1) cap).ownBlock ≠ some b := fun e => by
              rcases hrow7 with h | ⟨n, h, hn⟩
              · exact hp.2 (by rw [← HRw.out, ← h]; exact e)
              · rw [h] at e; injection e with e; omega
            have h9' : b ≠ g9 := fun e => h9 (by rw [e]; rfl)
            exact ⟨(q3 b (by omega) h9').trans ((hgrow.block b (by omega) (fun e => hp.2 (by rw [← HRw.out]; exact e.symm))).trans (HA4.out.block b hl)), h1, h9⟩
          have hkt : ∀ b, (gb < b ∧ (Value.slice (some ⟨g9, 0, none⟩) (j + 1) cap).ownBlock ≠ some b) → b < w7.heap.size → w8.heap[b]? = w7.heap[b]? ∧ ownP gb (.slice (some ⟨g9, 0, none⟩) (j + 1) cap) b := fun b hp hl => ⟨q3 b (by have := hp.1; omega) (fun e => hp.2 (by rw [e]; rfl)), hp⟩
          have hs7 := hgrow.size
          have HS8 : Hid (∀ i, i < j + 1 → StAt w8 (ownP gb (.slice (some ⟨g9, 0, none⟩) (j + 1) cap)) ((Ts ++ [T']).getD i st0) (h.ex.getD i hx0).t) := fun i hi => by
            by_cases hij : i < j
            · have e : (Ts ++ [T']).getD i st0 = Ts.getD i st0 := by simp [List.getD_eq_getElem?_getD, List.getElem?_append_left (show i < Ts.length by omega)]
              rw [e]
              exact (hS.out i hij).keep hkeep (by omega)
            · obtain rfl : i = j := by omega
              have e : (Ts ++ [T']).getD i st0 = T' := by simp [List.getD_eq_getElem?_getD, ← hTs]
              rw [e, HX.out]
              exact hsT.keep hkt (by omega)
          have HB8 := Lib.hid q5
          clear hown7 hsT hrow7 hgrow hx7 hkeep hkt q1 q2 q3 q4 q5 d10 m0 m1 m2 m3 m4 hS hT hO hbr HT4 HO4 HX4 HA4 HB4 hown hlr hlrg hbl4 hg7 hf7 hc7 HB7
          go_wp2_with fail
          go_roundw
          case rel => exact ⟨j + 1, by omega, by go_num, Ts ++ [T'], some ⟨g9, 0, none⟩, cap, by simp [hTs], HT8, HO8, HS8, HB8⟩
          case measure => simp [intOf]; omega
        · (refine wpOp_val (v := ?_) (by rfl) (by rfl) ?_ ?_; rotate_left; (· ((go_simp) <;> ((repeat' apply And.intro) <;> with_reducible rfl))); try simp only [Act.put, List.setIfInBounds_toArray, List.set_cons_zero, List.set_cons_succ])
          refine wpAny_two 11 14 (by kernel_rfl) ?_ ?_
          · (refine wpOp_store (w' := ?_) (by rfl) (by rfl) ?_ ?_; rotate_left; (· ((go_simp) <;> ((repeat' apply And.intro) <;> with_reducible rfl))); try simp only [Act.put])
            refine wpAny_one 14 (by kernel_rfl) ?_
            (refine wpOp_store (w' := ?_) (by rfl) (by rfl) ?_ ?_; rotate_left; (· ((go_simp) <;> ((repeat' apply And.intro) <;> with_reducible rfl))); try simp only [Act.put])
            refine wpAny_end (by kernel_rfl) ?_
            obtain ⟨q1, q2, q3, q4, q5⟩ := bk_a (B := w.heap.size) (w := w) hx7 hown7 hxl (.slice (some ⟨g9, 0, none⟩) (j + 1) cap) (.int .i64 k3) (.int .i64 a3) (.int .i64 b3) (.string nm3) (.slice A3 ks3.length c3) (.string cal3.nm) (.int .i64 cal3.ep) (.int .i64 cal3.cy) (.slice cal3.A1 cal3.mo.length cal3.c1) (.slice cal3.A2 cal3.lp.length cal3.c2) (.slice A4 ks3.length c4) hne2 (by omega) HB7.out (by omega) (by omega)
            clear n0 n1 n2 n3 n4 n5 n6 n7 n8 n9 n10 f0 f1 f2 f3 f4 f5 f6 f7 f8 f9 f10
            generalize (((((((((((w7.setCell ⟨g9, j * 11, none⟩ (.int .i64 k3)).setCell ⟨g9, j * 11 + 1, none⟩ (.int .i64 a3)).setCell ⟨g9, j * 11 + 2, none⟩ (.int .i64 b3)).setCell ⟨g9, j * 11 + 3, none⟩ (.string nm3)).setCell ⟨g9, j * 11 + 4, none⟩ (.slice A3 ks3.length c3)).setCell ⟨g9, j * 11 + 5, none⟩ (.string cal3.nm)).setCell ⟨g9, j * 11 + 6, none⟩ (.int .i64 cal3.ep)).setCell ⟨g9, j * 11 + 7, none⟩ (.int .i64 cal3.cy)).setCell ⟨g9, j * 11 + 8, none⟩ (.slice cal3.A1 cal3.mo.length cal3.c1)).setCell ⟨g9, j * 11 + 9, none⟩ (.slice cal3.A2 cal3.lp.length cal3.c2)).setCell ⟨g9, j * 11 + 10, none⟩ (.slice A4 ks3.length c4)).setCell ⟨gb, 8, none⟩ (.slice (some ⟨g9, 0, none⟩) (j + 1) cap) = w8 at *
            have HT8 : Hid (Box w8 gb 157 #[v0, v1, v2, v3, v4, v5, v6, .slice (some ⟨bb, o, none⟩) h.ex.length h.c, .slice (some ⟨g9, 0, none⟩) (j + 1) cap, .string nm, .int .i64 first, .slice Az chs.length cz]) := q1
            have HO8 : Hid (w8.ownsRow (gb + 1) 99 11 (.slice (some ⟨g9, 0, none⟩) (j + 1) cap) (j + 1) ((Ts ++ [T']).flatMap stF)) := by
              have e : (Ts ++ [T']).flatMap stF = Ts.flatMap stF ++ stL k3 a3 b3 nm3 A3 ks3.length c3 cal3 A4 ks3.length c4 := by rw [List.flatMap_append, ← eT]; simp
              unfold Hid
              rw [e]
              exact q2
            have hkeep : ∀ b, ownP gb (.slice A' j c') b → b < wr.heap.size → w8.heap[b]? = wr.heap[b]? ∧ ownP gb (.slice (some ⟨g9, 0, none⟩) (j + 1) cap) b := fun b hp hl => by
              have h1 := hp.1
              have h9 : (Value.slice (some ⟨g9, 0, none⟩) (j + 1) cap).ownBlock ≠ some b := fun e => by
                rcases hrow7 with h | ⟨n, h, hn⟩
                · exact hp.2 (by rw [← HRw.out, ← h]; exact e)
                · rw [h] at e; injection e with e; omega
              have h9' : b ≠ g9 := fun e => h9 (by rw [e]; rfl)
              exact ⟨(q3 b (by omega) h9').trans ((hgrow.block b (by omega) (fun e => hp.2 (by rw [← HRw.out]; exact e.symm))).trans (HA4.out.block b hl)), h1, h9⟩
            have hkt : ∀ b, (gb < b ∧ (Value.slice (some ⟨g9, 0, none⟩) (j + 1) cap).ownBlock ≠ some b) → b < w7.heap.size → w8.heap[b]? = w7.heap[b]? ∧ ownP gb (.slice (some ⟨g9, 0, none⟩) (j + 1) cap) b := fun b hp hl => ⟨q3 b (by have := hp.1; omega) (fun e => hp.2 (by rw [e]; rfl)), hp⟩
            have hs7 := hgrow.size
            have HS8 : Hid (∀ i, i < j + 1 → StAt w8 (ownP gb (.slice (some ⟨g9, 0, none⟩) (j + 1) cap)) ((Ts ++ [T']).getD i st0) (h.ex.getD i hx0).t) := fun i hi => by
              by_cases hij : i < j
              · have e : (Ts ++ [T']).getD i st0 = Ts.getD i st0 := by simp [List.getD_eq_getElem?_getD, List.getElem?_append_left (show i < Ts.length by omega)]
                rw [e]
                exact (hS.out i hij).keep hkeep (by omega)
              · obtain rfl : i = j := by omega
                have e : (Ts ++ [T']).getD i st0 = T' := by simp [List.getD_eq_getElem?_getD, ← hTs]
                rw [e, HX.out]
                exact hsT.keep hkt (by omega)
            have HB8 := Lib.hid q5
            clear hown7 hsT hrow7 hgrow hx7 hkeep hkt q1 q2 q3 q4 q5 d10 m0 m1 m2 m3 m4 hS hT hO hbr HT4 HO4 HX4 HA4 HB4 hown hlr hlrg hbl4 hg7 hf7 hc7 HB7
            go_wp2_with fail
            go_roundw
            case rel => exact ⟨j + 1, by omega, by go_num, Ts ++ [T'], some ⟨g9, 0, none⟩, cap, by simp [hTs], HT8, HO8, HS8, HB8⟩
            case measure => simp [intOf]; omega
          · (refine wpOp_store (w' := ?_) (by rfl) (by rfl) ?_ ?_; rotate_left; (· ((go_simp) <;> ((repeat' apply And.intro) <;> with_reducible rfl))); try simp only [Act.put])
            refine wpAny_one 11 (by kernel_rfl) ?_
            (refine wpOp_store (w' := ?_) (by rfl) (by rfl) ?_ ?_; rotate_left; (· ((go_simp) <;> ((repeat' apply And.intro) <;> with_reducible rfl))); try simp only [Act.put])
            refine wpAny_end (by kernel_rfl) ?_
            obtain ⟨q1, q2, q3, q4, q5⟩ := bk_b (B := w.heap.size) (w := w) hx7 hown7 hxl (.slice (some ⟨g9, 0, none⟩) (j + 1) cap) (.int .i64 k3) (.int .i64 a3) (.int .i64 b3) (.string nm3) (.slice A3 ks3.length c3) (.string cal3.nm) (.int .i64 cal3.ep) (.int .i64 cal3.cy) (.slice cal3.A1 cal3.mo.length cal3.c1) (.slice cal3.A2 cal3.lp.length cal3.c2) (.slice A4 ks3.length c4) hne2 (by omega) HB7.out (by omega) (by omega)
            clear n0 n1 n2 n3 n4 n5 n6 n7 n8 n9 n10 f0 f1 f2 f3 f4 f5 f6 f7 f8 f9 f10
            generalize (((((((((((w7.setCell ⟨gb, 8, none⟩ (.slice (some ⟨g9, 0, none⟩) (j + 1) cap)).setCell ⟨g9, j * 11, none⟩ (.int .i64 k3)).setCell ⟨g9, j * 11 + 1, none⟩ (.int .i64 a3)).setCell ⟨g9, j * 11 + 2, none⟩ (.int .i64 b3)).setCell ⟨g9, j * 11 + 3, none⟩ (.string nm3)).setCell ⟨g9, j * 11 + 4, none⟩ (.slice A3 ks3.length c3)).setCell ⟨g9, j * 11 + 5, none⟩ (.string cal3.nm)).setCell ⟨g9, j * 11 + 6, none⟩ (.int .i64 cal3.ep)).setCell ⟨g9, j * 11 + 7, none⟩ (.int .i64 cal3.cy)).setCell ⟨g9, j * 11 + 8, none⟩ (.slice cal3.A1 cal3.mo.length cal3.c1)).setCell ⟨g9, j * 11 + 9, none⟩ (.slice cal3.A2 cal3.lp.length cal3.c2)).setCell ⟨g9, j * 11 + 10, none⟩ (.slice A4 ks3.length c4) = w8 at *
            have HT8 : Hid (Box w8 gb 157 #[v0, v1, v2, v3, v4, v5, v6, .slice (some ⟨bb, o, none⟩) h.ex.length h.c, .slice (some ⟨g9, 0, none⟩) (j + 1) cap, .string nm, .int .i64 first, .slice Az chs.length cz]) := q1
            have HO8 : Hid (w8.ownsRow (gb + 1) 99 11 (.slice (some ⟨g9, 0, none⟩) (j + 1) cap) (j + 1) ((Ts ++ [T']).flatMap stF)) := by
              have e : (Ts ++ [T']).flatMap stF = Ts.flatMap stF ++ stL k3 a3 b3 nm3 A3 ks3.length c3 cal3 A4 ks3.length c4 := by rw [List.flatMap_append, ← eT]; simp
              unfold Hid
              rw [e]
              exact q2
            have hkeep : ∀ b, ownP gb (.slice A' j c') b → b < wr.heap.size → w8.heap[b]? = wr.heap[b]? ∧ ownP gb (.slice (some ⟨g9, 0, none⟩) (j + 1) cap) b := fun b hp hl => by
              have h1 := hp.1
              have h9 : (Value.slice (some ⟨g9, 0, none⟩) (j + 1) cap).ownBlock ≠ some b := fun e => by
                rcases hrow7 with h | ⟨n, h, hn⟩
                · exact hp.2 (by rw [← HRw.out, ← h]; exact e)
                · rw [h] at e; injection e with e; omega
              have h9' : b ≠ g9 := fun e => h9 (by rw [e]; rfl)
              exact ⟨(q3 b (by omega) h9').trans ((hgrow.block b (by omega) (fun e => hp.2 (by rw [← HRw.out]; exact e.symm))).trans (HA4.out.block b hl)), h1, h9⟩
            have hkt : ∀ b, (gb < b ∧ (Value.slice (some ⟨g9, 0, none⟩) (j + 1) cap).ownBlock ≠ some b) → b < w7.heap.size → w8.heap[b]? = w7.heap[b]? ∧ ownP gb (.slice (some ⟨g9, 0, none⟩) (j + 1) cap) b := fun b hp hl => ⟨q3 b (by have := hp.1; omega) (fun e => hp.2 (by rw [e]; rfl)), hp⟩
            have hs7 := hgrow.size
            have HS8 : Hid (∀ i, i < j + 1 → StAt w8 (ownP gb (.slice (some ⟨g9, 0, none⟩) (j + 1) cap)) ((Ts ++ [T']).getD i st0) (h.ex.getD i hx0).t) := fun i hi => by
              by_cases hij : i < j
              · have e : (Ts ++ [T']).getD i st0 = Ts.getD i st0 := by simp [List.getD_eq_getElem?_getD, List.getElem?_append_left (show i < Ts.length by omega)]
                rw [e]
                exact (hS.out i hij).keep hkeep (by omega)
              · obtain rfl : i = j := by omega
                have e : (Ts ++ [T']).getD i st0 = T' := by simp [List.getD_eq_getElem?_getD, ← hTs]
                rw [e, HX.out]
                exact hsT.keep hkt (by omega)
            have HB8 := Lib.hid q5
            clear hown7 hsT hrow7 hgrow hx7 hkeep hkt q1 q2 q3 q4 q5 d10 m0 m1 m2 m3 m4 hS hT hO hbr HT4 HO4 HX4 HA4 HB4 hown hlr hlrg hbl4 hg7 hf7 hc7 HB7
            go_wp2_with fail
            go_roundw
            case rel => exact ⟨j + 1, by omega, by go_num, Ts ++ [T'], some ⟨g9, 0, none⟩, cap, by simp [hTs], HT8, HO8, HS8, HB8⟩
            case measure => simp [intOf]; omega
      · (refine wpOp_val (v := ?_) (by rfl) (by rfl) ?_ ?_; rotate_left; (· ((go_simp) <;> ((repeat' apply And.intro) <;> with_reducible rfl))); try simp only [Act.put, List.setIfInBounds_toArray, List.set_cons_zero, List.set_cons_succ])
        refine wpAny_two 10 14 (by kernel_rfl) ?_ ?_
        · (refine wpOp_val (v := ?_) (by rfl) (by rfl) ?_ ?_; rotate_left; (· ((go_simp) <;> ((repeat' apply And.intro) <;> with_reducible rfl))); try simp only [Act.put, List.setIfInBounds_toArray, List.set_cons_zero, List.set_cons_succ])
          refine wpAny_two 11 14 (by kernel_rfl) ?_ ?_
          · (refine wpOp_store (w' := ?_) (by rfl) (by rfl) ?_ ?_; rotate_left; (· ((go_simp) <;> ((repeat' apply And.intro) <;> with_reducible rfl))); try simp only [Act.put])
            refine wpAny_one 14 (by kernel_rfl) ?_
            (refine wpOp_store (w' := ?_) (by rfl) (by rfl) ?_ ?_; rotate_left; (· ((go_simp) <;> ((repeat' apply And.intro) <;> with_reducible rfl))); try simp only [Act.put])
            refine wpAny_end (by kernel_rfl) ?_
            obtain ⟨q1, q2, q3, q4, q5⟩ := bk_a (B := w.heap.size) (w := w) hx7 hown7 hxl (.slice (some ⟨g9, 0, none⟩) (j + 1) cap) (.int .i64 k3) (.int .i64 a3) (.int .i64 b3) (.string nm3) (.slice A3 ks3.length c3) (.string cal3.nm) (.int .i64 cal3.ep) (.int .i64 cal3.cy) (.slice cal3.A1 cal3.mo.length cal3.c1) (.slice cal3.A2 cal3.lp.length cal3.c2) (.slice A4 ks3.length c4) hne2 (by omega) HB7.out (by omega) (by omega)
            clear n0 n1 n2 n3 n4 n5 n6 n7 n8 n9 n10 f0 f1 f2 f3 f4 f5 f6 f7 f8 f9 f10
            generalize (((((((((((w7.setCell ⟨g9, j * 11, none⟩ (.int .i64 k3)).setCell ⟨g9, j * 11 + 1, none⟩ (.int .i64 a3)).setCell ⟨g9, j * 11 + 2, none⟩ (.int .i64 b3)).setCell ⟨g9, j * 11 + 3, none⟩ (.string nm3)).setCell ⟨g9, j * 11 + 4, none⟩ (.slice A3 ks3.length c3)).setCell ⟨g9, j * 11 + 5, none⟩ (.string cal3.nm)).setCell ⟨g9, j * 11 + 6, none⟩ (.int .i64 cal3.ep)).setCell ⟨g9, j * 11 + 7, none⟩ (.int .i64 cal3.cy)).setCell ⟨g9, j * 11 + 8, none⟩ (.slice cal3.A1 cal3.mo.length cal3.c1)).setCell ⟨g9, j * 11 + 9, none⟩ (.slice cal3.A2 cal3.lp.length cal3.c2)).setCell ⟨g9, j * 11 + 10, none⟩ (.slice A4 ks3.length c4)).setCell ⟨gb, 8, none⟩ (.slice (some ⟨g9, 0, none⟩) (j + 1) cap) = w8 at *
            have HT8 : Hid (Box w8 gb 157 #[v0, v1, v2, v3, v4, v5, v6, .slice (some ⟨bb, o, none⟩) h.ex.length h.c, .slice (some ⟨g9, 0, none⟩) (j + 1) cap, .string nm, .int .i64 first, .slice Az chs.length cz]) := q1
            have HO8 : Hid (w8.ownsRow (gb + 1) 99 11 (.slice (some ⟨g9, 0, none⟩) (j + 1) cap) (j + 1) ((Ts ++ [T']).flatMap stF)) := by
              have e : (Ts ++ [T']).flatMap stF = Ts.flatMap stF ++ stL k3 a3 b3 nm3 A3 ks3.length c3 cal3 A4 ks3.length c4 := by rw [List.flatMap_append, ← eT]; simp
              unfold Hid
              rw [e]
              exact q2
            have hkeep : ∀ b, ownP gb (.slice A' j c') b → b < wr.heap.size → w8.heap[b]? = wr.heap[b]? ∧ ownP gb (.slice (some ⟨g9, 0, none⟩) (j + 1) cap) b := fun b hp hl => by
              have h1 := hp.1
              have h9 : (Value.slice (some ⟨g9, 0, none⟩) (j + 1) cap).ownBlock ≠ some b := fun e => by
                rcases hrow7 with h | ⟨n, h, hn⟩
                · exact hp.2 (by rw [← HRw.out, ← h]; exact e)
                · rw [h] at e; injection e with e; omega
              have h9' : b ≠ g9 := fun e => h9 (by rw [e]; rfl)
              exact ⟨(q3 b (by omega) h9').trans ((hgrow.block b (by omega) (fun e => hp.2 (by rw [← HRw.out]; exact e.symm))).trans (HA4.out.block b hl)), h1, h9⟩
            have hkt : ∀ b, (gb < b ∧ (Value.slice (some ⟨g9, 0, none⟩) (j + 1) cap).ownBlock ≠ some b) → b < w7.heap.size → w8.heap[b]? = w7.heap[b]? ∧ ownP gb (.slice (some ⟨g9, 0, none⟩) (j + 1) cap) b := fun b hp hl => ⟨q3 b (by have := hp.1; omega) (fun e => hp.2 (by rw [e]; rfl)), hp⟩
            have hs7 := hgrow.size
            have HS8 : Hid (∀ i, i < j + 1 → StAt w8 (ownP gb (.slice (some ⟨g9, 0, none⟩) (j + 1) cap)) ((Ts ++ [T']).getD i st0) (h.ex.getD i hx0).t) := fun i hi => by
              by_cases hij : i < j
              · have e : (Ts ++ [T']).getD i st0 = Ts.getD i st0 := by simp [List.getD_eq_getElem?_getD, List.getElem?_append_left (show i < Ts.length by omega)]
                rw [e]
                exact (hS.out i hij).keep hkeep (by omega)
              · obtain rfl : i = j := by omega
                have e : (Ts ++ [T']).getD i st0 = T' := by simp [List.getD_eq_getElem?_getD, ← hTs]
                rw [e, HX.out]
                exact hsT.keep hkt (by omega)
            have HB8 := Lib.hid q5
            clear hown7 hsT hrow7 hgrow hx7 hkeep hkt q1 q2 q3 q4 q5 d10 m0 m1 m2 m3 m4 hS hT hO hbr HT4 HO4 HX4 HA4 HB4 hown hlr hlrg hbl4 hg7 hf7 hc7 HB7
            go_wp2_with fail
            go_roundw
            case rel => exact ⟨j + 1, by omega, by go_num, Ts ++ [T'], some ⟨g9, 0, none⟩, cap, by simp [hTs], HT8, HO8, HS8, HB8⟩
            case measure => simp [intOf]; omega
          · (refine wpOp_store (w' := ?_) (by rfl) (by rfl) ?_ ?_; rotate_left; (· ((go_simp) <;> ((repeat' apply And.intro) <;> with_reducible rfl))); try simp only [Act.put])
            refine wpAny_one 11 (by kernel_rfl) ?_
            (refine wpOp_store (w' := ?_) (by rfl) (by rfl) ?_ ?_; rotate_left; (· ((go_simp) <;> ((repeat' apply And.intro) <;> with_reducible rfl))); try simp only [Act.put])
            refine wpAny_end (by kernel_rfl) ?_
            obtain ⟨q1, q2, q3, q4, q5⟩ := bk_b (B := w.heap.size) (w := w) hx7 hown7 hxl (.slice (some ⟨g9, 0, none⟩) (j + 1) cap) (.int .i64 k3) (.int .i64 a3) (.int .i64 b3) (.string nm3) (.slice A3 ks3.length c3) (.string cal3.nm) (.int .i64 cal3.ep) (.int .i64 cal3.cy) (.slice cal3.A1 cal3.mo.length cal3.c1) (.slice cal3.A2 cal3.lp.length cal3.c2) (.slice A4 ks3.length c4) hne2 (by omega) HB7.out (by omega) (by omega)
            clear n0 n1 n2 n3 n4 n5 n6 n7 n8 n9 n10 f0 f1 f2 f3 f4 f5 f6 f7 f8 f9 f10
            generalize (((((((((((w7.setCell ⟨gb, 8, none⟩ (.slice (some ⟨g9, 0, none⟩) (j + 1) cap)).setCell ⟨g9, j * 11, none⟩ (.int .i64 k3)).setCell ⟨g9, j * 11 + 1, none⟩ (.int .i64 a3)).setCell ⟨g9, j * 11 + 2, none⟩ (.int .i64 b3)).setCell ⟨g9, j * 11 + 3, none⟩ (.string nm3)).setCell ⟨g9, j * 11 + 4, none⟩ (.slice A3 ks3.length c3)).setCell ⟨g9, j * 11 + 5, none⟩ (.string cal3.nm)).setCell ⟨g9, j * 11 + 6, none⟩ (.int .i64 cal3.ep)).setCell ⟨g9, j * 11 + 7, none⟩ (.int .i64 cal3.cy)).setCell ⟨g9, j * 11 + 8, none⟩ (.slice cal3.A1 cal3.mo.length cal3.c1)).setCell ⟨g9, j * 11 + 9, none⟩ (.slice cal3.A2 cal3.lp.length cal3.c2)).setCell ⟨g9, j * 11 + 10, none⟩ (.slice A4 ks3.length c4) = w8 at *
            have HT8 : Hid (Box w8 gb 157 #[v0, v1, v2, v3, v4, v5, v6, .slice (some ⟨bb, o, none⟩) h.ex.length h.c, .slice (some ⟨g9, 0, none⟩) (j + 1) cap, .string nm, .int .i64 first, .slice Az chs.length cz]) := q1
            have HO8 : Hid (w8.ownsRow (gb + 1) 99 11 (.slice (some ⟨g9, 0, none⟩) (j + 1) cap) (j + 1) ((Ts ++ [T']).flatMap stF)) := by
              have e : (Ts ++ [T']).flatMap stF = Ts.flatMap stF ++ stL k3 a3 b3 nm3 A3 ks3.length c3 cal3 A4 ks3.length c4 := by rw [List.flatMap_append, ← eT]; simp
              unfold Hid
              rw [e]
              exact q2
            have hkeep : ∀ b, ownP gb (.slice A' j c') b → b < wr.heap.size → w8.heap[b]? = wr.heap[b]? ∧ ownP gb (.slice (some ⟨g9, 0, none⟩) (j + 1) cap) b := fun b hp hl => by
              have h1 := hp.1
              have h9 : (Value.slice (some ⟨g9, 0, none⟩) (j + 1) cap).ownBlock ≠ some b := fun e => by
                rcases hrow7 with h | ⟨n, h, hn⟩
                · exact hp.2 (by rw [← HRw.out, ← h]; exact e)
                · rw [h] at e; injection e with e; omega
              have h9' : b ≠ g9 := fun e => h9 (by rw [e]; rfl)
              exact ⟨(q3 b (by omega) h9').trans ((hgrow.block b (by omega) (fun e => hp.2 (by rw [← HRw.out]; exact e.symm))).trans (HA4.out.block b hl)), h1, h9⟩
            have hkt : ∀ b, (gb < b ∧ (Value.slice (some ⟨g9, 0, none⟩) (j + 1) cap).ownBlock ≠ some b) → b < w7.heap.size → w8.heap[b]? = w7.heap[b]? ∧ ownP gb (.slice (some ⟨g9, 0, none⟩) (j + 1) cap) b := fun b hp hl => ⟨q3 b (by have := hp.1; omega) (fun e => hp.2 (by rw [e]; rfl)), hp⟩
            have hs7 := hgrow.size
            have HS8 : Hid (∀ i, i < j + 1 → StAt w8 (ownP gb (.slice (some ⟨g9, 0, none⟩) (j + 1) cap)) ((Ts ++ [T']).getD i st0) (h.ex.getD i hx0).t) := fun i hi => by
              by_cases hij : i < j
              · have e : (Ts ++ [T']).getD i st0 = Ts.getD i st0 := by simp [List.getD_eq_getElem?_getD, List.getElem?_append_left (show i < Ts.length by omega)]
                rw [e]
                exact (hS.out i hij).keep hkeep (by omega)
              · obtain rfl : i = j := by omega
                have e : (Ts ++ [T']).getD i st0 = T' := by simp [List.getD_eq_getElem?_getD, ← hTs]
                rw [e, HX.out]
                exact hsT.keep hkt (by omega)
            have HB8 := Lib.hid q5
            clear hown7 hsT hrow7 hgrow hx7 hkeep hkt q1 q2 q3 q4 q5 d10 m0 m1 m2 m3 m4 hS hT hO hbr HT4 HO4 HX4 HA4 HB4 hown hlr hlrg hbl4 hg7 hf7 hc7 HB7
            go_wp2_with fail
            go_roundw
            case rel => exact ⟨j + 1, by omega, by go_num, Ts ++ [T'], some ⟨g9, 0, none⟩, cap, by simp [hTs], HT8, HO8, HS8, HB8⟩
            case measure => simp [intOf]; omega
        · (refine wpOp_store (w' := ?_) (by rfl) (by rfl) ?_ ?_; rotate_left; (· ((go_simp) <;> ((repeat' apply And.intro) <;> with_reducible rfl))); try simp only [Act.put])
          refine wpAny_one 10 (by kernel_rfl) ?_
          (refine wpOp_val (v := ?_) (by rfl) (by rfl) ?_ ?_; rotate_left; (· ((go_simp) <;> ((repeat' apply And.intro) <;> with_reducible rfl))); try simp only [Act.put, List.setIfInBounds_toArray, List.set_cons_zero, List.set_cons_succ])
          refine wpAny_one 11 (by kernel_rfl) ?_
          (refine wpOp_store (w' := ?_) (by rfl) (by rfl) ?_ ?_; rotate_left; (· ((go_simp) <;> ((repeat' apply And.intro) <;> with_reducible rfl))); try simp only [Act.put])
          refine wpAny_end (by kernel_rfl) ?_
          obtain ⟨q1, q2, q3, q4, q5⟩ := bk_b (B := w.heap.size) (w := w) hx7 hown7 hxl (.slice (some ⟨g9, 0, none⟩) (j + 1) cap) (.int .i64 k3) (.int .i64 a3) (.int .i64 b3) (.string nm3) (.slice A3 ks3.length c3) (.string cal3.nm) (.int .i64 cal3.ep) (.int .i64 cal3.cy) (.slice cal3.A1 cal3.mo.length cal3.c1) (.slice cal3.A2 cal3.lp.length cal3.c2) (.slice A4 ks3.length c4) hne2 (by omega) HB7.out (by omega) (by omega)
          clear n0 n1 n2 n3 n4 n5 n6 n7 n8 n9 n10 f0 f1 f2 f3 f4 f5 f6 f7 f8 f9 f10
          generalize (((((((((((w7.setCell ⟨gb, 8, none⟩ (.slice (some ⟨g9, 0, none⟩) (j + 1) cap)).setCell ⟨g9, j * 11, none⟩ (.int .i64 k3)).setCell ⟨g9, j * 11 + 1, none⟩ (.int .i64 a3)).setCell ⟨g9, j * 11 + 2, none⟩ (.int .i64 b3)).setCell ⟨g9, j * 11 + 3, none⟩ (.string nm3)).setCell ⟨g9, j * 11 + 4, none⟩ (.slice A3 ks3.length c3)).setCell ⟨g9, j * 11 + 5, none⟩ (.string cal3.nm)).setCell ⟨g9, j * 11 + 6, none⟩ (.int .i64 cal3.ep)).setCell ⟨g9, j * 11 + 7, none⟩ (.int .i64 cal3.cy)).setCell ⟨g9, j * 11 + 8, none⟩ (.slice cal3.A1 cal3.mo.length cal3.c1)).setCell ⟨g9, j * 11 + 9, none⟩ (.slice cal3.A2 cal3.lp.length cal3.c2)).setCell ⟨g9, j * 11 + 10, none⟩ (.slice A4 ks3.length c4) = w8 at *
          have HT8 : Hid (Box w8 gb 157 #[v0, v1, v2, v3, v4, v5, v6, .slice (some ⟨bb, o, none⟩) h.ex.length h.c, .slice (some ⟨g9, 0, none⟩) (j + 1) cap, .string nm, .int .i64 first, .slice Az chs.length cz]) := q1
          have HO8 : Hid (w8.ownsRow (gb + 1) 99 11 (.slice (some ⟨g9, 0, none⟩) (j + 1) cap) (j + 1) ((Ts ++ [T']).flatMap stF)) := by
            have e : (Ts ++ [T']).flatMap stF = Ts.flatMap stF ++ stL k3 a3 b3 nm3 A3 ks3.length c3 cal3 A4 ks3.length c4 := by rw [List.flatMap_append, ← eT]; simp
            unfold Hid
            rw [e]
            exact q2
          have hkeep : ∀ b, ownP gb (.slice A' j c') b → b < wr.heap.size → w8.heap[b]? = wr.heap[b]? ∧ ownP gb (.slice (some ⟨g9, 0, none⟩) (j + 1) cap) b := fun b hp hl => by
            have h1 := hp.1
            have h9 : (Value.slice (some ⟨g9, 0, none⟩) (j + 1) cap).ownBlock ≠ some b := fun e => by
              rcases hrow7 with h | ⟨n, h, hn⟩
              · exact hp.2 (by rw [← HRw.out, ← h]; exact e)
              · rw [h] at e; injection e with e; omega
            have h9' : b ≠ g9 := fun e => h9 (by rw [e]; rfl)
            exact ⟨(q3 b (by omega) h9').trans ((hgrow.block b (by omega) (fun e => hp.2 (by rw [← HRw.out]; exact e.symm))).trans (HA4.out.block b hl)), h1, h9⟩
          have hkt : ∀ b, (gb < b ∧ (Value.slice (some ⟨g9, 0, none⟩) (j + 1) cap).ownBlock ≠ some b) → b < w7.heap.size → w8.heap[b]? = w7.heap[b]? ∧ ownP gb (.slice (some ⟨g9, 0, none⟩) (j + 1) cap) b := fun b hp hl => ⟨q3 b (by have := hp.1; omega) (fun e => hp.2 (by rw [e]; rfl)), hp⟩
          have hs7 := hgrow.size
          have HS8 : Hid (∀ i, i < j + 1 → StAt w8 (ownP gb (.slice (some ⟨g9, 0, none⟩) (j + 1) cap)) ((Ts ++ [T']).getD i st0) (h.ex.getD i hx0).t) := fun i hi => by
            by_cases hij : i < j
            · have e : (Ts ++ [T']).getD i st0 = Ts.getD i st0 := by simp [List.getD_eq_getElem?_getD, List.getElem?_append_left (show i < Ts.length by omega)]
              rw [e]
              exact (hS.out i hij).keep hkeep (by omega)
            · obtain rfl : i = j := by omega
              have e : (Ts ++ [T']).getD i st0 = T' := by simp [List.getD_eq_getElem?_getD, ← hTs]
              rw [e, HX.out]
              exact hsT.keep hkt (by omega)
          have HB8 := Lib.hid q5
          clear hown7 hsT hrow7 hgrow hx7 hkeep hkt q1 q2 q3 q4 q5 d10 m0 m1 m2 m3 m4 hS hT hO hbr HT4 HO4 HX4 HA4 HB4 hown hlr hlrg hbl4 hg7 hf7 hc7 HB7
          go_wp2_with fail
          go_roundw
          case rel => exact ⟨j + 1, by omega, by go_num, Ts ++ [T'], some ⟨g9, 0, none⟩, cap, by simp [hTs], HT8, HO8, HS8, HB8⟩
          case measure => simp [intOf]; omega
end Go.Proofs.YtoaflcnphijhpaaGreatDoor

/- Contract of (*hours.book).parts. -/
namespace Go.Proofs.YtoaflcnphijhpaaGreatDoor
open Go Go.RowKit
attribute [local go_sem] Oper.semAt_some
set_option linter.unusedVariables false

theorem bk_week (h : Hr) (z : Zn) (v : Value) (m : Nat) (hm : m < 7) : (bkL h z v)[m]? = some (wdV (h.wk m)) := by
  match m, hm with
  | 0, _ | 1, _ | 2, _ | 3, _ | 4, _ | 5, _ | 6, _ => rfl
set_option maxHeartbeats 8000000 in
set_option maxRecDepth 100000 in
theorem hparts_any (g : Nat) (h : Hr) (z : Zn) (At : Option Addr) (ct : Nat) (Ts : List ST) (p : Nat → Prop) (day : Int) (w : World) (ok : HrOk h) (hd : DayIn day) (k : BkAt w p g h z At ct Ts) :
    Calls Tryz.prog 54 #[.pointer (some ⟨g, 0, none⟩), .int .i64 day] w fun e w' => e = .returned (wdV (h.parts day)) ∧ Below w.heap.size w w' := by
  obtain ⟨hd1, hd2⟩ := hd
  have HX := Lib.hid k.box
  have hTl := k.tln
  have hln := ok.ln
  have HTr := Lib.hid k.trow.row
  have HEr := Lib.hid k.hat.row.row
  have HSt := Lib.hid (fun i (hi : i < Ts.length) W (hb : Below w.heap.size w W) => set_any (k.trees i hi) (ok.ex i (by omega)).1.ok W day day 1 hb (by omega) (by have := (ok.ex i (by omega)).1.ht; omega) (by have := (ok.ex i (by omega)).1.ht; omega) (by omega) (by have := (ok.ex i (by omega)).1.ht; omega))
  unfold SetQ at HSt
  have HW := Lib.hid (fun m hm => (k.box.cell m).trans (bk_week h z (.slice At Ts.length ct) m hm))
  have hgl := k.box.lt
  have HPe : Hid (∀ i, i < h.ex.length → (∀ j, j < i → ¬ memF (h.ex.getD j hx0).t day) → memF (h.ex.getD i hx0).t day → wdV (h.parts day) = wdV (h.ex.getD i hx0).d) := fun i hi a b => by rw [parts_ex i hi a b]
  have HPw : Hid ((∀ j, j < h.ex.length → ¬ memF (h.ex.getD j hx0).t day) → wdV (h.parts day) = wdV (h.wk ((day - 1) % 7).toNat)) := fun a => by rw [parts_wk a]
  have x8 : w.cell? ⟨g, 8, none⟩ = some (.slice At Ts.length ct) := HX.out.cell 8
  clear k ok
  generalize wdV (h.parts day) = res at *
  go_enter Tryz.func54, Tryz.ntmps54
  go_wp2_with fail
  clear x8
  go_loopw [5, 6, 12] (fun _ _ i wr => ∃ j : Nat, j ≤ Ts.length ∧ i = .int .i64 (j : Int) ∧ Hid (∀ i, i < j → ¬ memF (h.ex.getD i hx0).t day) ∧ Hid (Below w.heap.size w wr)) (fun _ _ i _ => Ts.length - (intOf i).toNat)
  case atStart => exact ⟨0, by omega, rfl, (fun i hi => by omega), Below.refl _ _⟩
  case round =>
    obtain ⟨j, hj, rfl, hall, hbr⟩ := hrel
    have hszr := hbr.out.size
    by_cases hlt : j < Ts.length
    case neg =>
      have hje : Ts.length = j := by omega
      have HR : Hid (res = wdV (h.wk ((day - 1) % 7).toNat)) := HPw.out (fun i hi => hall.out i (by omega))
      obtain ⟨m, hm⟩ : ∃ m : Nat, (m : Int) = (day - 1) % 7 := ⟨((day - 1) % 7).toNat, by omega⟩
      have hm7 : m < 7 := by omega
      have hmt : ((day - 1) % 7).toNat = m := by omega
      rw [hmt] at HR
      have HMd := Lib.hid (fun W => mod_pos (day - 1) 7 W (by omega) (by omega) (by omega) (by omega))
      rw [← hm] at HMd
      have c0 : ∀ W, Below wr.heap.size wr W → W.cell? ⟨g, m, none⟩ = some (wdV (h.wk m)) := fun W hW => (hW.cell (p := ⟨g, m, none⟩) (show g < wr.heap.size by omega)).trans ((hbr.out.cell (p := ⟨g, m, none⟩) hgl).trans (HW.out m hm7))
      have ew : IntKind.i64.wrap (day - 1) = day - 1 := intFits _ (by omega) (by omega)
      have hm0 : (0 : Int) ≤ (m : Int) := by omega
      have hm8 : (m : Int) < 7 := by omega
      clear hje hmt hm hall HW HPe HPw HSt
      generalize wdV (h.wk m) = vm at *
      go_upto_region 7 with fail
      refine flow_begin (tellOf [(3, det (.int .i64 (m : Int)))]) (by kernel_rfl) (by kernel_rfl) ?_
      repeat (first | (refine flow_val (v := ?_) (by rfl) (by rfl) (fun w hb => ?_) ?_; rotate_left; (· ((go_simp) <;> ((repeat' apply And.intro) <;> with_reducible rfl))); try simp only [Act.put, List.setIfInBounds_toArray, List.set_cons_zero, List.set_cons_succ, Nat.reduceAdd]) | (refine flow_skip (by rfl) (by rfl) ?_; try simp only [Act.put, List.setIfInBounds_toArray, List.set_cons_zero, List.set_cons_succ, Nat.reduceAdd]))
      refine flow_call (f := ?_) (args := ?_) [] (by kernel_rfl) (by rfl) (by rfl) (fun w hb => ?_) (fun w hb hu => ?_) ?_; rotate_left 2; (· ((go_simp) <;> ((repeat' apply And.intro) <;> with_reducible rfl)))
      · exact (HMd.out w).mono fun e w' ⟨he, nq, hw⟩ => ⟨he, by rw [hw]; exact below_drewN _ _⟩
      try simp only [Act.put, List.setIfInBounds_toArray, List.set_cons_zero, List.set_cons_succ, Nat.reduceAdd]
      repeat (first | (refine flow_val (v := ?_) (by rfl) (by rfl) (fun w hb => ?_) ?_; rotate_left; (· ((go_simp) <;> ((repeat' apply And.intro) <;> with_reducible rfl))); try simp only [Act.put, List.setIfInBounds_toArray, List.set_cons_zero, List.set_cons_succ, Nat.reduceAdd]) | (refine flow_skip (by rfl) (by rfl) ?_; try simp only [Act.put, List.setIfInBounds_toArray, List.set_cons_zero, List.set_cons_succ, Nat.reduceAdd]))
      refine flow_nil fun w2 hb2 _ => ?_
      have HB2 := Lib.hid (below_then hbr.out hb2)
      clear hb2 c0 hbr
      go_wp2_with fail
      go_ret
      exact ⟨by rw [HR.out]; rfl, HB2.out⟩
    obtain ⟨bt, ot, hA, hb, hc⟩ := HTr.out.open_ (flat_ne stF_len (by omega) Ts (by omega))
    have hc' : ∀ i v, (Ts.flatMap stF)[i]? = some v → wr.cell? ⟨bt, ot + i, none⟩ = some v := fun i v hv => (hbr.out.cell (p := ⟨bt, ot + i, none⟩) hb).trans (hc i v hv)
    have hcc : ∀ i v, i < 11 → (stF (Ts.getD j st0))[i]? = some v → wr.cell? ⟨bt, ot + j * 11 + i, none⟩ = some v := fun i v hi hv => flat_cell stF_len st0 hc' j i hlt hi v hv
    have HS0 := HSt.out j hlt
    have HPj := Lib.hid (HPe.out j (by omega) hall.out)
    have HNx : Hid (¬ memF (h.ex.getD j hx0).t day → ∀ i, i < j + 1 → ¬ memF (h.ex.getD i hx0).t day) := fun q i hi => by
      by_cases e : i = j
      · rw [e]; exact q
      · exact hall.out i (by omega)
    obtain ⟨bb, o, hEA, heb, hec⟩ := HEr.out.open_ (flat_ne hxF_len (by omega) h.ex (by omega))
    have e5 : w.cell? ⟨bb, o + j * 6 + 5, none⟩ = some (wdV (h.ex.getD j hx0).d) := flat_cell hxF_len hx0 hec j 5 (by omega) (by omega) _ (by unfold hxF; rw [List.getElem?_append_right (by rw [feF_len]; omega), feF_len]; rfl)
    have hxl : j < h.ex.length := by omega
    generalize h.ex.getD j hx0 = x at *
    generalize Ts.getD j st0 = T at *
    obtain ⟨tk, ta, tb, tn, tA, tc, tcal, tA2, tc2, tks⟩ := T
    have y0 : wr.cell? ⟨bt, ot + j * 11 + 0, none⟩ = some (.int .i64 tk) := hcc 0 _ (by omega) rfl
    have y1 : wr.cell? ⟨bt, ot + j * 11 + 1, none⟩ = some (.int .i64 ta) := hcc 1 _ (by omega) rfl
    have y2 : wr.cell? ⟨bt, ot + j * 11 + 2, none⟩ = some (.int .i64 tb) := hcc 2 _ (by omega) rfl
    have y3 : wr.cell? ⟨bt, ot + j * 11 + 3, none⟩ = some (.string tn) := hcc 3 _ (by omega) rfl
    have y4 : wr.cell? ⟨bt, ot + j * 11 + 4, none⟩ = some (.slice tA tks.length tc) := hcc 4 _ (by omega) rfl
    have y5 : wr.cell? ⟨bt, ot + j * 11 + 5, none⟩ = some (.string tcal.nm) := hcc 5 _ (by omega) rfl
    have y6 : wr.cell? ⟨bt, ot + j * 11 + 6, none⟩ = some (.int .i64 tcal.ep) := hcc 6 _ (by omega) rfl
    have y7 : wr.cell? ⟨bt, ot + j * 11 + 7, none⟩ = some (.int .i64 tcal.cy) := hcc 7 _ (by omega) rfl
    have y8 : wr.cell? ⟨bt, ot + j * 11 + 8, none⟩ = some (.slice tcal.A1 tcal.mo.length tcal.c1) := hcc 8 _ (by omega) rfl
    have y9 : wr.cell? ⟨bt, ot + j * 11 + 9, none⟩ = some (.slice tcal.A2 tcal.lp.length tcal.c2) := hcc 9 _ (by omega) rfl
    have y10 : wr.cell? ⟨bt, ot + j * 11 + 10, none⟩ = some (.slice tA2 tks.length tc2) := hcc 10 _ (by omega) rfl
    rw [Nat.add_zero] at y0
    have hbl : bt < wr.heap.size := by omega
    have HB4 := Lib.hid (below_then hbr.out (below_alloc1 wr (Obj.cells #[.int .i64 tk, .int .i64 ta, .int .i64 tb, .string tn, .slice tA tks.length tc, .string tcal.nm, .int .i64 tcal.ep, .int .i64 tcal.cy, .slice tcal.A1 tcal.mo.length tcal.c1, .slice tcal.A2 tcal.lp.length tcal.c2, .slice tA2 tks.length tc2] 99)))
    have HX4 := Lib.hid (Box.new wr 99 #[.int .i64 tk, .int .i64 ta, .int .i64 tb, .string tn, .slice tA tks.length tc, .string tcal.nm, .int .i64 tcal.ep, .int .i64 tcal.cy, .slice tcal.A1 tcal.mo.length tcal.c1, .slice tcal.A2 tcal.lp.length tcal.c2, .slice tA2 tks.length tc2])
    have HC0 : Hid (∀ W, Below w.heap.size w W → Calls Tryz.prog 45 #[.agg #[.int .i64 tk, .int .i64 ta, .int .i64 tb, .string tn, .slice tA tks.length tc, .string tcal.nm, .int .i64 tcal.ep, .int .i64 tcal.cy, .slice tcal.A1 tcal.mo.length tcal.c1, .slice tcal.A2 tcal.lp.length tcal.c2, .slice tA2 tks.length tc2], .int .i64 day, .int .i64 day] W fun e w' => ∃ gs, e = .returned (.slice (some ⟨gs, 0, none⟩) 1 1) ∧ BoolsAt w' gs day 1 (memF x.t) ∧ W.heap.size ≤ gs ∧ Below W.heap.size W w') := HS0
    have HAt := Lib.hid hA
    have HEA := Lib.hid hEA
    rw [hA]
    clear hc hc' hcc HS0 hA hall hEA hec HSt HPe HPw HW
    go_upto_region 4 with fail
    clear y0 y1 y2 y3 y4 y5 y6 y7 y8 y9 y10
    generalize wr.alloc (Obj.cells #[.int .i64 tk, .int .i64 ta, .int .i64 tb, .string tn, .slice tA tks.length tc, .string tcal.nm, .int .i64 tcal.ep, .int .i64 tcal.cy, .slice tcal.A1 tcal.mo.length tcal.c1, .slice tcal.A2 tcal.lp.length tcal.c2, .slice tA2 tks.length tc2] 99) = w4 at *
    generalize wr.heap.size = g4 at *
    have z0 : w4.cell? ⟨g4, 0, none⟩ = some (.int .i64 tk) := HX4.out.cell 0
    have z1 : w4.cell? ⟨g4, 1, none⟩ = some (.int .i64 ta) := HX4.out.cell 1
    have z2 : w4.cell? ⟨g4, 2, none⟩ = some (.int .i64 tb) := HX4.out.cell 2
    have z3 : w4.cell? ⟨g4, 3, none⟩ = some (.string tn) := HX4.out.cell 3
    have z4 : w4.cell? ⟨g4, 4, none⟩ = some (.slice tA tks.length tc) := HX4.out.cell 4
    have z5 : w4.cell? ⟨g4, 5, none⟩ = some (.string tcal.nm) := HX4.out.cell 5
    have z6 : w4.cell? ⟨g4, 6, none⟩ = some (.int .i64 tcal.ep) := HX4.out.cell 6
    have z7 : w4.cell? ⟨g4, 7, none⟩ = some (.int .i64 tcal.cy) := HX4.out.cell 7
    have z8 : w4.cell? ⟨g4, 8, none⟩ = some (.slice tcal.A1 tcal.mo.length tcal.c1) := HX4.out.cell 8
    have z9 : w4.cell? ⟨g4, 9, none⟩ = some (.slice tcal.A2 tcal.lp.length tcal.c2) := HX4.out.cell 9
    have z10 : w4.cell? ⟨g4, 10, none⟩ = some (.slice tA2 tks.length tc2) := HX4.out.cell 10
    go_wp2_with fail
    refine (HC0.out w4 HB4.out).mono ?_
    rintro e w5 ⟨gs, rfl, hbs, _, hb5⟩
    have HB5 := Lib.hid (below_then HB4.out hb5)
    obtain ⟨L, hL, hLc, hLm⟩ := hbs.list
    obtain ⟨v, hv⟩ : ∃ v, L[0]? = some v := ⟨_, List.getElem?_eq_getElem (by omega)⟩
    have hcx : w5.cell? ⟨gs, 0, none⟩ = some (.bool v) := hLc 0 v hv
    have hxm : v = true ↔ memF x.t day := by
      have := hLm 0 (by omega)
      rw [List.getD_eq_getElem?_getD, hv] at this
      simpa using this
    have HXm := Lib.hid hxm
    clear hb5 HB4 HX4 HC0 z0 z1 z2 z3 z4 z5 z6 z7 z8 z9 z10 hbs hLc hLm hv hxm hbr
    cases v with
    | false =>
      have HN : Hid (¬ memF x.t day) := fun q => by have := HXm.out.2 q; cases this
      have HN2 := Lib.hid (HNx.out HN.out)
      go_wp2_with fail
      go_roundw
      case rel => exact ⟨j + 1, by omega, by go_num, HN2, HB5⟩
      case measure => simp [intOf]; omega
    | true =>
      have HR := Lib.hid (HPj.out (HXm.out.1 rfl))
      have HX5 := Lib.hid (HX.out.belowB HB5.out hgl)
      have f7 : w5.cell? ⟨g, 7, none⟩ = some (.slice (some ⟨bb, o, none⟩) h.ex.length h.c) := by rw [← HEA.out]; exact HX5.out.cell 7
      have f5 : w5.cell? ⟨bb, o + j * 6 + 5, none⟩ = some (wdV x.d) := (HB5.out.cell (p := ⟨bb, o + j * 6 + 5, none⟩) heb).trans e5
      have hg5 : g < w5.heap.size := by have := HB5.out.size; omega
      have hj2 : (j : Int) < (h.ex.length : Int) := by omega
      clear e5
      generalize wdV x.d = vd at *
      go_wp2_with fail
      go_ret
      exact ⟨by rw [HR.out]; rfl, HB5.out⟩
end Go.Proofs.YtoaflcnphijhpaaGreatDoor

/- Contract of (*hours.book).stretches, at any visit. -/
namespace Go.Proofs.YtoaflcnphijhpaaGreatDoor
open Go Go.RowKit
attribute [local go_sem] Oper.semAt_some
set_option linter.unusedVariables false

structure StrH (p : Nat → Prop) (g : Nat) (h : Hr) (z : Zn) (At : Option Addr) (ct : Nat) (Ts : List ST) (low high : Int) (f : Nat) (cb : Array Value) (Inv : Int → World → Prop) (Dn : World → Prop) : Prop where
  keep : ∀ q W, Inv q W → BkAt W p g h z At ct Ts
  skip : ∀ a b W, low ≤ a → a ≤ b → b ≤ high → Inv a W → (∀ t, a ≤ t → t < b → ¬ OpenAt h z.first z.chs t) → Inv b W
  bel : ∀ q W W', Inv q W → Below W.heap.size W W' → Inv q W'
  call : ∀ a b W, low ≤ a → a < b → b ≤ high → Inv a W → (∀ t, a ≤ t → t < b → OpenAt h z.first z.chs t) → Calls Tryz.prog f (#[.int .i64 a, .int .i64 b] ++ cb) W fun e w' => ∃ B : Bool, e = .returned (.bool B) ∧ (B = true → Inv b w') ∧ (B = false → Dn w')
  eg : ∀ args w, (callFunc f args).run Tryz.prog w = .ok (.enter f args) w
def NxOk (chs : List Chg) (a high nx : Int) : Prop := a < nx ∧ nx ≤ high ∧ (seg chs a = chs.length ∨ nx ≤ (chs.getD (seg chs a) chg0).a)
theorem bkcells {w : World} {g : Nat} {h : Hr} {z : Zn} {v : Value} (k : Box w g 157 (bkL h z v)) : w.cell? ⟨g, 10, none⟩ = some (.int .i64 z.first) ∧ w.cell? ⟨g, 11, none⟩ = some (.slice z.A z.chs.length z.c) := ⟨k.cell 10, k.cell 11⟩
theorem HrAt.parts {w : World} {p : Nat → Prop} {h : Hr} (k : HrAt w p h) (day : Int) : RowAt w p (h.parts day).A ((h.parts day).l.flatMap spF) := by
  classical
  unfold Hr.parts
  cases e : h.ex.find? (fun x => decide (memF x.t day)) with
  | none => exact k.wk _ (by omega)
  | some x =>
    obtain ⟨i, hi, rfl⟩ := List.getElem_of_mem (List.mem_of_find?_eq_some e)
    have := k.ex i hi
    rw [List.getD_eq_getElem?_getD, List.getElem?_eq_getElem hi] at this
    exact this
def StrQ (high : Int) (Inv : Int → World → Prop) (Dn : World → Prop) (e : Ending) (w' : World) : Prop := e = .returned (.tuple #[]) ∧ (Inv high w' ∨ Dn w')
set_option maxHeartbeats 16000000 in
set_option maxRecDepth 100000 in
theorem stretches_any (p : Nat → Prop) (g : Nat) (h : Hr) (z : Zn) (At : Option Addr) (ct : Nat) (Ts : List ST) (low high : Int) (f : Nat) (cb : Array Value) (Inv : Int → World → Prop) (Dn : World → Prop)
    (hh : StrH p g h z At ct Ts low high f cb Inv Dn) (ok : HrOk h) (zok : ZoneOk z.nm z.first z.chs) (hlo : -346000000000000 ≤ low) (hlh : low ≤ high) (hhi : high ≤ 346000000000000) (w : World) (h0 : Inv low w) :
    Calls Tryz.prog 50 #[.pointer (some ⟨g, 0, none⟩), .int .i64 low, .int .i64 high, .func (.func f) #[] cb] w (StrQ high Inv Dn) := by
  obtain ⟨nm, first, Az, cz, chs⟩ := z
  have eg := hh.eg
  have hof : ∀ a, -64800000 ≤ offAt first chs a ∧ offAt first chs a ≤ 64800000 := fun a => by have := off_in zok (seg chs a) (seg_le chs a); exact ⟨this.1, this.2.1⟩
  have hcl : chs.length ≤ 200 := zok.2.2.1
  have HOf := Lib.hid hof
  have HS := Lib.hid (zone_sorted zok)
  have HI0 := Lib.hid h0
  have HK := Lib.hid hh.keep
  have HSk := Lib.hid hh.skip
  have HBl := Lib.hid hh.bel
  have HCl := Lib.hid hh.call
  have HPt := Lib.hid (fun day W (hd : DayIn day) (k : BkAt W p g h ⟨nm, first, Az, cz, chs⟩ At ct Ts) => hparts_any g h ⟨nm, first, Az, cz, chs⟩ At ct Ts p day W ok hd k)
  have HSp := Lib.hid (fun day => parts_ok ok day)
  have HIs := Lib.hid (fun d W => isDay_any d W)
  clear hh hof h0 ok zok
  go_enter Tryz.func50, Tryz.ntmps50
  go_wp2_with fail
  go_loopw [8, 9, 10, 12, 13, 14, 16, 17, 18, 33, 34, 35, 66, 67, 68] (fun a _ _ _ _ _ _ _ _ _ _ _ _ _ _ wr => ∃ at_ : Int, a = .int .i64 at_ ∧ low ≤ at_ ∧ at_ ≤ high ∧ Hid (Inv at_ wr)) (fun a _ _ _ _ _ _ _ _ _ _ _ _ _ _ _ => (high - intOf a).toNat)
  case atStart => exact ⟨low, rfl, by omega, by omega, HI0⟩
  case round =>
    obtain ⟨at_, rfl, ha1, ha2, hinv⟩ := hrel
    rename World => w9
    clear HI0
    by_cases hlt : at_ < high
    case neg =>
      obtain rfl : at_ = high := by omega
      have t1 : decide (at_ < at_) = false := decide_eq_false (by omega)
      go_wp2_with fail
      go_end0
      exact ⟨rfl, .inl hinv.out⟩
    have t1 : decide (at_ < high) = true := decide_eq_true hlt
    have hbk := HK.out _ _ hinv.out
    obtain ⟨x10, x11⟩ := bkcells hbk.box
    have hgl := hbk.box.lt
    have hgl := hbk.box.lt
    have HBk := Lib.hid hbk
    have hZr : Row w9 w9.heap.size Az (chCells chs) := hbk.zat.row
    have hsl := seg_le chs at_
    have HSb := Lib.hid (seg_before chs at_)
    have HSa := Lib.hid (seg_after chs at_)
    have HOff : Hid (offAt first chs at_ = offI first chs (seg chs at_)) := rfl
    have HNx : Hid (∀ nx, at_ < nx → nx ≤ high → (seg chs at_ = chs.length ∨ nx ≤ (chs.getD (seg chs at_) chg0).a) → NxOk chs at_ high nx) := fun nx a b c => ⟨a, b, c⟩
    have HO0 : Hid (offI first chs 0 = first) := rfl
    obtain ⟨sg, hsg⟩ : ∃ sg, sg = seg chs at_ := ⟨_, rfl⟩
    rw [← hsg] at hsl HSb HSa HOff HNx
    clear hsg hbk
    go_upto_block 2 with fail
    clear x10 x11
    go_cut [9, 10] (fun s9 s10 wx => ∃ nx : Int, s9 = .int .i64 (offAt first chs at_) ∧ s10 = .int .i64 nx ∧ Hid (NxOk chs at_ high nx) ∧ Hid (Below w9.heap.size w9 wx))
    case first =>
      go_wp2_with fail
      go_loopw [9, 10, 12, 35] (fun n nx _ i wr => ∃ k : Nat, k ≤ sg ∧ i = .int .i64 (k : Int) ∧ n = .int .i64 (offI first chs k) ∧ nx = .int .i64 high ∧ Hid (Below w9.heap.size w9 wr)) (fun _ _ _ i _ => chs.length - (intOf i).toNat)
      case atStart => exact ⟨0, by omega, rfl, by rw [HO0.out], rfl, Below.refl _ _⟩
      case round =>
        obtain ⟨k, hk, rfl, rfl, rfl, hbq⟩ := hrel
        by_cases hkl : k < chs.length
        case neg =>
          obtain rfl : k = sg := by omega
          have HN := Lib.hid (HNx.out high hlt (Int.le_refl _) (.inl (by omega)))
          have HO2 : Hid (Value.int .i64 (offI first chs k) = .int .i64 (offAt first chs at_)) := by unfold Hid; rw [HOff.out]
          clear hk hsl
          go_wp2_with fail
          go_meet
          exact ⟨high, HO2.out, rfl, HN, hbq⟩
        obtain ⟨b, o, rfl, hb, hc⟩ := hZr.open_ (chCells_ne chs (by omega))
        have hc' : ∀ j v, (chCells chs)[j]? = some v → wr.cell? ⟨b, o + j, none⟩ = some v := fun j v hv => (hbq.out.cell (p := ⟨b, o + j, none⟩) hb).trans (hc j v hv)
        obtain ⟨y0, y1, y2⟩ := ch_cells hc' k hkl
        have hbl : b < wr.heap.size := by have := hbq.out.size; omega
        have hI1 : Hid (offI first chs (k + 1) = (chs.getD k chg0).o) := rfl
        have hkn : k < sg → (chs.getD k chg0).a ≤ at_ := HSb.out k
        have hks : k = sg → at_ < (chs.getD k chg0).a := fun h => by
          have := HSa.out
          rw [← h] at this
          rcases this with e | e
          · omega
          · exact e
        have HNk : Hid (k = sg → ∀ nx, at_ < nx → nx ≤ high → nx ≤ (chs.getD k chg0).a → NxOk chs at_ high nx) := fun e nx a b c => HNx.out nx a b (.inr (by rw [← e]; exact c))
        have HOk : Hid (k = sg → Value.int .i64 (offI first chs k) = .int .i64 (offAt first chs at_)) := fun e => by rw [HOff.out, e]
        generalize offI first chs k = nk at *
        generalize (chs.getD k chg0).a = ca at *
        generalize (chs.getD k chg0).o = co at *
        generalize (chs.getD k chg0).l = cl at *
        have HB4 := Lib.hid (below_then hbq.out (below_alloc1 wr (Obj.cells #[.int .i64 ca, .int .i64 co, .string cl] 161)))
        have hX4 := Box.new wr 161 #[.int .i64 ca, .int .i64 co, .string cl]
        clear hc hc'
        go_upto_region 6 with fail
        have z0 : (wr.alloc (Obj.cells #[.int .i64 ca, .int .i64 co, .string cl] 161)).cell? ⟨wr.heap.size, 0, none⟩ = some (.int .i64 ca) := hX4.cell 0
        have z1 : (wr.alloc (Obj.cells #[.int .i64 ca, .int .i64 co, .string cl] 161)).cell? ⟨wr.heap.size, 1, none⟩ = some (.int .i64 co) := hX4.cell 1
        clear y0 y1 y2 hX4 hbq
        generalize wr.alloc (Obj.cells #[.int .i64 ca, .int .i64 co, .string cl] 161) = w4 at *
        generalize wr.heap.size = g4 at *
        by_cases hks' : k < sg
        · have t2 : decide (ca ≤ at_) = true := decide_eq_true (hkn hks')
          clear hkn hks HNk HOk
          go_wp2_with fail
          go_roundw
          case rel => exact ⟨k + 1, by omega, by go_num, by rw [hI1.out], rfl, HB4⟩
          case measure => simp [intOf]; omega
        · obtain rfl : k = sg := by omega
          have h3 := hks rfl
          have t2 : decide (ca ≤ at_) = false := decide_eq_false (by omega)
          have HN := Lib.hid (HNk.out rfl (min high ca) (by omega) (by omega) (by omega))
          have HO2 := Lib.hid (HOk.out rfl)
          clear hkn hks HNk HOk h3
          go_wp2_with fail
          go_meet
          exact ⟨min high ca, HO2.out, rfl, HN, HB4⟩
    case rest =>
    obtain ⟨nx, rfl, rfl, hnx, hbx⟩ := hcut
    have HInx := Lib.hid (HBl.out _ _ _ hinv.out hbx.out)
    obtain ⟨hn1, hn2, hn3⟩ := hnx.out
    have HN3 := Lib.hid hn3
    obtain ⟨ho1, ho2⟩ := HOf.out at_
    have HOp : Hid (∀ day mid t, day = (at_ + offAt first chs at_) / 86400000 → mid = day * 86400000 - offAt first chs at_ → at_ ≤ t → t < mid + 86400000 → t < nx → (OpenAt h first chs t ↔ DayIn day ∧ InSp (h.parts day).l (t - mid))) := fun day mid t e1 e2 a b c => open_in HS.out e1 e2 a b (hn3.imp id fun q => by omega)
    obtain ⟨off, hoff⟩ : ∃ off, off = offAt first chs at_ := ⟨_, rfl⟩
    rw [← hoff] at HOp ho1 ho2 ⊢
    clear hn3 hoff hinv hbx hnx HSb HSa HOff HNx HO0 hsl HBk hZr
    obtain ⟨day, hday⟩ : ∃ day, day = (at_ + off) / 86400000 := ⟨_, rfl⟩
    have HDn := Lib.hid (fun W => down_pos (at_ + off) 86400000 W (by omega) (by omega) (by omega) (by omega))
    rw [← hday] at HDn
    obtain ⟨mid, hmid⟩ : ∃ mid, mid = day * 86400000 - off := ⟨_, rfl⟩
    have hmm := mid_le hday hmid
    have HOp2 := Lib.hid (fun t => HOp.out day mid t hday hmid)
    have hd1 : -5000000 ≤ day ∧ day ≤ 5000000 := by omega
    have hm1 : -347000000000000 ≤ mid ∧ mid ≤ 347000000000000 := by omega
    obtain ⟨nx2, hnx2⟩ : ∃ nx2, nx2 = min nx (mid + 86400000) := ⟨_, rfl⟩
    have hq1 : at_ < nx2 := by omega
    have hq2 : nx2 ≤ high := by omega
    have hq3 : nx2 ≤ nx ∧ nx2 ≤ mid + 86400000 := by omega
    have em : day * 86400000 - off = mid := hmid.symm
    have en : min nx (mid + 86400000) = nx2 := hnx2.symm
    have HI1 := Lib.hid (HIs.out day)
    have ew1 : IntKind.i64.wrap (at_ + off) = at_ + off := intFits _ (by omega) (by omega)
    clear hday hmid hnx2 HOp hmm
    by_cases hd : DayIn day
    case neg =>
      have HIs1 : Hid (∀ W, Calls Tryz.prog 41 #[.int .i64 day] W fun e w' => e = .returned (.bool false) ∧ W = w') := fun W => by have := HI1.out W; rwa [decide_eq_false (show ¬ (-4000000 ≤ day ∧ day ≤ 4000000) from hd)] at this
      have HNo : Hid (∀ t, at_ ≤ t → t < nx2 → ¬ OpenAt h first chs t) := fun t a b q => hd ((HOp2.out t a (by omega) (by omega)).1 q).1
      clear hd HI1
      go_wp2_with (first | (go_at_call 94; refine (HDn.out _).mono ?_; rintro e w' ⟨rfl, nq, rfl⟩) | (go_at_call 41; refine (HIs1.out _).mono ?_; rintro e w' ⟨rfl, rfl⟩))
      go_roundw
      case rel => exact ⟨nx2, rfl, by omega, hq2, HSk.out at_ nx2 _ ha1 (by omega) hq2 (HBl.out _ _ _ HInx.out (below_drewN _ _)) HNo.out⟩
      case measure => simp [intOf]; omega
    have HIs1 : Hid (∀ W, Calls Tryz.prog 41 #[.int .i64 day] W fun e w' => e = .returned (.bool true) ∧ W = w') := fun W => by have := HI1.out W; rwa [decide_eq_true (show -4000000 ≤ day ∧ day ≤ 4000000 from hd)] at this
    have HPt1 := Lib.hid (fun W (k : Inv at_ W) => HPt.out day W hd (HK.out _ _ k))
    have HSp1 := Lib.hid (HSp.out day)
    have HLf : Hid (Left (OpenAt h first chs) mid at_ nx2 (h.parts day).l 0 at_) := Left.first (by omega) fun t a b => (HOp2.out t a (by omega) (by omega)).trans ⟨fun q => q.2, fun q => ⟨hd, q⟩⟩
    have HRw := Lib.hid (fun q W (k : Inv q W) => ((HK.out _ _ k).hat.parts day).row)
    clear hd HI1 HOp2 HIs HPt HSp
    go_wp2_with (first | (go_at_call 94; refine (HDn.out _).mono ?_; rintro e w' ⟨rfl, nq, rfl⟩) | (go_at_call 41; refine (HIs1.out _).mono ?_; rintro e w' ⟨rfl, rfl⟩))
    have HInx2 := Lib.hid (HBl.out _ _ _ HInx.out (below_drewN _ nq))
    refine (HPt1.out _ HInx2.out).mono ?_
    rintro e w6 ⟨rfl, hb6⟩
    have HIn6 := Lib.hid (HBl.out _ _ _ HInx2.out hb6)
    clear hb6 HInx HInx2 HPt1 HIs1 HDn em en ew1
    generalize h.parts day = pd at *
    obtain ⟨Ap, cp, lp⟩ := pd
    unfold wdV
    dsimp only at HSp1 HLf HRw ⊢
    have hlp := HSp1.out.ln
    go_wp2_with fail
    go_loopw [16, 17, 18, 68] (fun _ _ _ i wr => ∃ (k : Nat) (q : Int), k ≤ lp.length ∧ i = .int .i64 (k : Int) ∧ Hid (Left (OpenAt h first chs) mid at_ nx2 lp k q) ∧ Hid (Inv q wr)) (fun _ _ _ i _ => lp.length - (intOf i).toNat)
    case atStart => exact ⟨0, at_, by omega, rfl, HLf, HIn6⟩
    case round =>
      obtain ⟨k, q, hk, rfl, hlf, hiq⟩ := hrel
      clear HLf HIn6
      by_cases hkl : k < lp.length
      case neg =>
        have hdone := Left.done hlf.out (by omega)
        have HIe := Lib.hid (HSk.out q nx2 _ (by have := hlf.out.lo; omega) hlf.out.hi hq2 hiq.out hdone)
        clear hdone
        go_wp2_with fail
        go_roundw
        case rel => exact ⟨nx2, rfl, by omega, hq2, HIe⟩
        case measure => simp [intOf]; omega
      obtain ⟨b, o, rfl, hb, hc⟩ := (HRw.out q wr hiq.out).open_ (flat_ne spF_len (by omega) lp (by omega))
      have y0 : wr.cell? ⟨b, o + k * 2, none⟩ = some (.int .i64 (lp.getD k sp0).a) := flat_cell spF_len sp0 hc k 0 hkl (by omega) _ rfl
      have y1 : wr.cell? ⟨b, o + k * 2 + 1, none⟩ = some (.int .i64 (lp.getD k sp0).b) := flat_cell spF_len sp0 hc k 1 hkl (by omega) _ rfl
      obtain ⟨r1, r2, r3⟩ := HSp1.out.rg k hkl
      have HTk := Lib.hid (fun he => hlf.out.take HSp1.out hkl he)
      have HSkp := Lib.hid (fun he => hlf.out.skip HSp1.out hkl he)
      have hq5 := hlf.out.lo
      have hq6 := hlf.out.hi
      generalize (lp.getD k sp0).a = sa at *
      generalize (lp.getD k sp0).b = sb at *
      have HIn4 := Lib.hid (HBl.out _ _ _ hiq.out (below_alloc1 wr (Obj.cells #[.int .i64 sa, .int .i64 sb] 49)))
      have HX4 := Lib.hid (Box.new wr 49 #[.int .i64 sa, .int .i64 sb])
      clear hc hlf
      go_upto_region 17 with fail
      clear y0 y1 hiq
      generalize wr.alloc (Obj.cells #[.int .i64 sa, .int .i64 sb] 49) = w4 at *
      generalize wr.heap.size = g4 at *
      have c0 : ∀ W, Below w4.heap.size w4 W → W.cell? ⟨g4, 0, none⟩ = some (.int .i64 sa) := fun W hW => (HX4.out.below hW).cell 0
      have c1 : ∀ W, Below w4.heap.size w4 W → W.cell? ⟨g4, 1, none⟩ = some (.int .i64 sb) := fun W hW => (HX4.out.below hW).cell 1
      have ew2 : IntKind.i64.wrap (mid + sa) = mid + sa := intFits _ (by omega) (by omega)
      have ew3 : IntKind.i64.wrap (mid + sb) = mid + sb := intFits _ (by omega) (by omega)
      refine flow_begin (tellOf []) (by kernel_rfl) (by kernel_rfl) ?_
      repeat (first | (refine flow_val (v := ?_) (by rfl) (by rfl) (fun w hb => ?_) ?_; rotate_left; (· ((go_simp) <;> ((repeat' apply And.intro) <;> with_reducible rfl))); try simp only [Act.put, List.setIfInBounds_toArray, List.set_cons_zero, List.set_cons_succ, Nat.reduceAdd]) | (refine flow_skip (by rfl) (by rfl) ?_; try simp only [Act.put, List.setIfInBounds_toArray, List.set_cons_zero, List.set_cons_succ, Nat.reduceAdd]))
      refine flow_nil fun w5 hb5 _ => ?_
      have HIn5 := Lib.hid (HBl.out _ _ _ HIn4.out hb5)
      clear hb5 c0 c1 HX4 HIn4 ew2 ew3
      have hfb : at_ ≤ max (mid + sa) at_ ∧ min (mid + sb) nx2 ≤ nx2 := by omega
      obtain ⟨fr, hfr⟩ : ∃ fr, fr = max (mid + sa) at_ := ⟨_, rfl⟩
      obtain ⟨tt, htt⟩ : ∃ tt, tt = min (mid + sb) nx2 := ⟨_, rfl⟩
      rw [← hfr, ← htt] at HTk HSkp hfb ⊢
      clear hfr htt
      by_cases he : fr < tt
      case neg =>
        have t2 : decide (fr < tt) = false := decide_eq_false he
        have HL2 := Lib.hid (HSkp.out he)
        clear he
        go_wp2_with fail
        go_roundw
        case rel => exact ⟨k + 1, q, by omega, by go_num, HL2, HIn5⟩
        case measure => simp [intOf]; omega
      have t2 : decide (fr < tt) = true := decide_eq_true he
      obtain ⟨j1, j2, j3, j4⟩ := HTk.out he
      have HL2 := Lib.hid j4
      have HInf := Lib.hid (HSk.out q fr _ (by omega) j1 (by omega) HIn5.out j2)
      have HC := Lib.hid (HCl.out fr tt _ (by omega) he (by omega) HInf.out j3)
      clear he j1 j2 j3 j4 HIn5 HTk HSkp
      go_wp2_with (go_at_fn f; refine HC.out.mono ?_; rintro e w' ⟨B, rfl, hT, hF⟩; have HT := Lib.hid hT; have HF := Lib.hid hF; clear hT hF; cases B)
      · have HDn := Lib.hid (HF.out (by simp))
        go_end0
        exact ⟨rfl, .inr HDn.out⟩
      · have HI2 := Lib.hid (HT.out (by simp))
        go_roundw
        case rel => exact ⟨k + 1, tt, by omega, by go_num, HL2, HI2⟩
        case measure => simp [intOf]; omega
end Go.Proofs.YtoaflcnphijhpaaGreatDoor

/- Contracts of hours.both and Total. -/
namespace Go.Proofs.YtoaflcnphijhpaaGreatDoor
open Go Go.RowKit
attribute [local go_sem] Oper.semAt_some
set_option linter.unusedVariables false

structure ZnIn (w : World) (B : Nat) (z : Zn) : Prop where
  row : Row w B z.A (chCells z.chs)
  nm : z.nm.size ≤ maxLen
  ln : z.chs.length ≤ maxLen
  fit : ∀ x ∈ z.chs, ChgFit x
theorem ZnIn.next {w w' : World} {B B' : Nat} {z : Zn} (h : ZnIn w B z) (hb : Below B w w') (hB : B ≤ B') : ZnIn w' B' z := ⟨(h.row.below hb).more hB, h.nm, h.ln, h.fit⟩
theorem ZnIn.z {w : World} {z : Zn} (h : ZnIn w w.heap.size z) : ZIn w z.nm z.A z.chs := ⟨h.row, h.nm, h.ln, h.fit⟩
def ZOk (z : Zn) : Prop := ZoneOk z.nm z.first z.chs
theorem zncells {w : World} {g : Nat} {z : Zn} (h : Box w g 47 #[.string z.nm, .int .i64 z.first, .slice z.A z.chs.length z.c]) : w.cell? ⟨g, 0, none⟩ = some (.string z.nm) ∧ w.cell? ⟨g, 1, none⟩ = some (.int .i64 z.first) ∧ w.cell? ⟨g, 2, none⟩ = some (.slice z.A z.chs.length z.c) := ⟨h.cell 0, h.cell 1, h.cell 2⟩
set_option maxHeartbeats 4000000 in
set_option maxRecDepth 100000 in
theorem hboth_any (h : Hr) (z : Zn) (w : World) (hv : Env w) (hin : HrIn w w.heap.size h) (zin : ZnIn w w.heap.size z) : Calls Tryz.prog 46 #[hrV h, znV z] w (IsChk (HrOk h ∧ ZOk z) w) := by
  have HCk := Lib.hid (fun W (hb : Below w.heap.size w W) => hcheck_any h W (hv.next hb) (hin.next hb hb.size))
  have HZk := Lib.hid (fun W (hb : Below w.heap.size w W) => (zin.next hb hb.size).z.check z.first z.c)
  have HN : Hid (∀ E W', ¬ (HrOk h ∧ ZOk z) → E ≠ 0 → Below w.heap.size w W' → IsChk (HrOk h ∧ ZOk z) w (.returned (.int .i64 E)) W') := fun E W' a b c => IsChk.no a b c
  have HYs : Hid (∀ W', (HrOk h ∧ ZOk z) → Below w.heap.size w W' → IsChk (HrOk h ∧ ZOk z) w (.returned (.int .i64 0)) W') := fun W' a c => IsChk.yes a c
  have HZe : Hid (ZOk z = ZoneOk z.nm z.first z.chs) := rfl
  unfold IsChk at HCk HZk
  generalize IsChk (HrOk h ∧ ZOk z) w = POST at *
  clear hv hin zin
  have HB := Lib.hid (below_alloc2 w (Obj.cells #[wdV h.w0, wdV h.w1, wdV h.w2, wdV h.w3, wdV h.w4, wdV h.w5, wdV h.w6, .slice h.A h.ex.length h.c] 44) (Obj.cells #[.string z.nm, .int .i64 z.first, .slice z.A z.chs.length z.c] 47))
  have hx2 := (Box.new w 44 #[wdV h.w0, wdV h.w1, wdV h.w2, wdV h.w3, wdV h.w4, wdV h.w5, wdV h.w6, .slice h.A h.ex.length h.c]).alloc (Obj.cells #[.string z.nm, .int .i64 z.first, .slice z.A z.chs.length z.c] 47)
  have hz2 := Box.new (w.alloc (Obj.cells #[wdV h.w0, wdV h.w1, wdV h.w2, wdV h.w3, wdV h.w4, wdV h.w5, wdV h.w6, .slice h.A h.ex.length h.c] 44)) 47 #[.string z.nm, .int .i64 z.first, .slice z.A z.chs.length z.c]
  simp only [World.size_alloc] at hx2 hz2
  have HX := Lib.hid hx2
  have HZ := Lib.hid hz2
  clear hx2 hz2
  unfold hrV znV at *
  go_enter Tryz.func46, Tryz.ntmps46
  go_upto_region 1 with fail
  generalize wdV h.w0 = v0 at *
  generalize wdV h.w1 = v1 at *
  generalize wdV h.w2 = v2 at *
  generalize wdV h.w3 = v3 at *
  generalize wdV h.w4 = v4 at *
  generalize wdV h.w5 = v5 at *
  generalize wdV h.w6 = v6 at *
  generalize (w.alloc (Obj.cells #[v0, v1, v2, v3, v4, v5, v6, .slice h.A h.ex.length h.c] 44)).alloc (Obj.cells #[.string z.nm, .int .i64 z.first, .slice z.A z.chs.length z.c] 47) = W2 at *
  obtain ⟨x0, x1, x2, x3, x4, x5, x6, x7⟩ := hrcells HX.out
  go_wp2_with fail
  refine (HCk.out W2 HB.out).mono ?_
  rintro e w3 ⟨E, rfl, hE, hb3⟩
  have HE := Lib.hid hE
  have HB3 := Lib.hid (below_then HB.out hb3)
  have HZ3 := Lib.hid (HZ.out.below hb3)
  clear hE hb3 HX HZ HB HCk x0 x1 x2 x3 x4 x5 x6 x7
  by_cases hE0 : E = 0
  case neg =>
    have t1 : (E != 0) = true := by rw [bne_iff_ne]; exact hE0
    have HE0 := Lib.hid hE0
    clear hE0
    go_wp2_with fail
    exact HN.out E _ (fun q => HE0.out (HE.out.2 q.1)) HE0.out HB3.out
  subst hE0
  have HQ1 := Lib.hid (HE.out.1 rfl)
  obtain ⟨z0, z1, z2⟩ := zncells HZ3.out
  have HZ4 := Lib.hid (HZk.out w3 HB3.out)
  clear HE HZk
  go_wp2_with fail
  refine HZ4.out.mono ?_
  rintro e w4 ⟨E, rfl, hE, hb4⟩
  have HE := Lib.hid hE
  have HB4 := Lib.hid (below_then HB3.out hb4)
  clear hE hb4 HZ4 HZ3 HB3 z0 z1 z2
  go_wp2_with fail
  by_cases hE0 : E = 0
  · subst hE0
    exact HYs.out _ ⟨HQ1.out, by rw [HZe.out]; exact HE.out.1 rfl⟩ HB4.out
  · exact HN.out E _ (fun q => hE0 (HE.out.2 (by rw [← HZe.out]; exact q.2))) hE0 HB4.out
end Go.Proofs.YtoaflcnphijhpaaGreatDoor

/- Contract of hours.Total. -/
namespace Go.Proofs.YtoaflcnphijhpaaGreatDoor
open Go Go.RowKit
attribute [local go_sem] Oper.semAt_some
set_option linter.unusedVariables false

set_option maxHeartbeats 1000000 in
set_option maxRecDepth 100000 in
theorem total1_any (gt : Nat) (n a b : Int) (w : World) (hx : Box w gt 3 #[.int .i64 n]) (hn : 0 ≤ n ∧ n ≤ 4000000000) (hab : a < b) (hb : b - a ≤ 4000000000) (h1 : -346000000000000 ≤ a) (h2 : b ≤ 346000000000000) :
    Calls Tryz.prog 51 #[.int .i64 a, .int .i64 b, .pointer (some ⟨gt, 0, none⟩)] w fun e w' => e = .returned (.bool true) ∧ w' = w.setCell ⟨gt, 0, none⟩ (.int .i64 (n + (b - a))) := by
  have x0 : w.cell? ⟨gt, 0, none⟩ = some (.int .i64 n) := hx.cell 0
  have xf : w.frozen? ⟨gt, 0, none⟩ = false := hx.free 0
  have xl := hx.lt
  have ew1 : IntKind.i64.wrap (b - a) = b - a := intFits _ (by omega) (by omega)
  have ew2 : IntKind.i64.wrap (n + (b - a)) = n + (b - a) := intFits _ (by omega) (by omega)
  obtain ⟨hn1, hn2⟩ := hn
  clear hx
  go_enter Tryz.func51, Tryz.ntmps51
  go_wp2_with fail
  go_ret
  exact ⟨rfl, rfl⟩
structure TotI (w : World) (p : Nat → Prop) (g gt : Nat) (h : Hr) (z : Zn) (At : Option Addr) (ct : Nat) (Ts : List ST) (a q : Int) (W : World) : Prop where
  bk : BkAt W p g h z At ct Ts
  box : Box W gt 3 #[.int .i64 (cntW (OpenAt h z.first z.chs) a (q - a).toNat : Int)]
  bel : Below w.heap.size w W
set_option maxRecDepth 100000 in
theorem total_str (w : World) (g gt : Nat) (h : Hr) (z : Zn) (At : Option Addr) (ct : Nat) (Ts : List ST) (a b : Int) (hgt : w.heap.size ≤ gt) (hab : b - a ≤ 3456000000) (h1 : -346000000000000 ≤ a) (h2 : b ≤ 346000000000000) :
    StrH (fun x => x ≠ gt) g h z At ct Ts a b 51 #[.pointer (some ⟨gt, 0, none⟩)] (fun q W => TotI w (fun x => x ≠ gt) g gt h z At ct Ts a q W) (fun _ => False) where
  keep := fun q W k => k.bk
  skip := fun x y W hx hxy hy k hn => ⟨k.bk, by
    have e : (y - a).toNat = (x - a).toNat + (y - x).toNat := by omega
    rw [e, cntW_add, cntW_none (a := a + ((x - a).toNat : Int)) (y - x).toNat fun t q1 q2 => hn t (by omega) (by omega), Nat.add_zero]
    exact k.box, k.bel⟩
  bel := fun q W W' k hb => ⟨k.bk.next hb, k.box.below hb, below_then k.bel hb⟩
  call := fun x y W hx hxy hy k hp => by
    have hc := cntW_le (OpenAt h z.first z.chs) a (x - a).toNat
    refine (total1_any gt _ x y W k.box ⟨by omega, by omega⟩ hxy (by omega) (by omega) (by omega)).mono ?_
    rintro e w' ⟨rfl, rfl⟩
    refine ⟨true, rfl, fun _ => ⟨?_, ?_, ?_⟩, fun h => by cases h⟩
    · exact k.bk.keep (fun b hb hl => ⟨Below.heap_setCell _ _ _ b hb, hb⟩) (by simp)
    · have e : (y - a).toNat = (x - a).toNat + (y - x).toNat := by omega
      rw [e, cntW_add, cntW_all (a := a + ((x - a).toNat : Int)) (y - x).toNat fun t q1 q2 => hp t (by omega) (by omega)]
      have := k.box.set_ 0 (.int .i64 ((cntW (OpenAt h z.first z.chs) a (x - a).toNat : Int) + (y - x)))
      rw [show (((cntW (OpenAt h z.first z.chs) a (x - a).toNat + (y - x).toNat : Nat) : Int)) = (cntW (OpenAt h z.first z.chs) a (x - a).toNat : Int) + (y - x) from by omega]
      exact this
    · exact k.bel.setCell (p := ⟨gt, 0, none⟩) hgt _
  eg := fun _ _ => rfl
def locD (z : Zn) (t : Int) : Int := (t + offAt z.first z.chs t) / 86400000
def locM (z : Zn) (t : Int) : Int := (t + offAt z.first z.chs t) % 86400000
theorem zlocal_in (z : Zn) (t : Int) (w : World) (hz : ZnIn w w.heap.size z) (hok : ZOk z) (h1 : -300000000000000 ≤ t) (h2 : t ≤ 300000000000000) :
    Calls Tryz.prog 48 #[.agg #[.string z.nm, .int .i64 z.first, .slice z.A z.chs.length z.c], .int .i64 t] w fun e w' => e = .returned (.tuple #[.int .i64 (locD z t), .int .i64 (locM z t), .int .i64 0]) ∧ Below w.heap.size w w' := by
  have ho := off_in hok (seg z.chs t) (seg_le z.chs t)
  change -64800000 ≤ offAt z.first z.chs t ∧ offAt z.first z.chs t ≤ 64800000 ∧ offAt z.first z.chs t % 1000 = 0 at ho
  refine (zlocal_yes z.nm z.first z.A z.c z.chs t w hz.z hok ⟨by omega, by omega⟩).mono ?_
  rintro e w' ⟨rfl, hb⟩
  refine ⟨?_, hb⟩
  unfold splitV
  rw [if_pos ⟨by omega, by omega⟩]
  rfl
theorem loc_day {z : Zn} (hok : ZOk z) {t : Int} (h1 : -300000000000000 ≤ t) (h2 : t ≤ 300000000000000) : DayIn (locD z t) := by
  have ho := off_in hok (seg z.chs t) (seg_le z.chs t)
  change -64800000 ≤ offAt z.first z.chs t ∧ offAt z.first z.chs t ≤ 64800000 ∧ offAt z.first z.chs t % 1000 = 0 at ho
  unfold locD DayIn
  omega
def TotQ (h : Hr) (z : Zn) (a b : Int) (w : World) (e : Ending) (w' : World) : Prop := ∃ n E : Int, e = .returned (.tuple #[.int .i64 n, .int .i64 E]) ∧ (E = 0 ↔ HrOk h ∧ ZOk z) ∧ (E = 0 → n = (cntW (OpenAt h z.first z.chs) a (b - a).toNat : Int)) ∧ (E ≠ 0 → n = 0) ∧ Below w.heap.size w w'
set_option maxHeartbeats 400000 in
set_option maxRecDepth 2000 in
theorem run_two (a b : Int) (W : World) : (Instr.index 103 (.agg #[.int .i64 a, .int .i64 b]) (.int .i64 0)).run Tryz.prog W = .ok (.int .i64 a) W ∧ (Instr.index 103 (.agg #[.int .i64 a, .int .i64 b]) (.int .i64 1)).run Tryz.prog W = .ok (.int .i64 b) W := by
  constructor <;> simp [Instr.index, run_underlying Tryz.underlying103, asIntOf, go_sem]
set_option maxHeartbeats 8000000 in
set_option maxRecDepth 100000 in
theorem htotal_any (h : Hr) (z : Zn) (a b : Int) (w : World) (hv : Env w) (hin : HrIn w w.heap.size h) (zin : ZnIn w w.heap.size z) (hab : a ≤ b) (hab2 : b - a ≤ 3456000000) (h1 : -300000000000000 ≤ a) (h2 : b ≤ 300000000000000) :
    Calls Tryz.prog 23 #[hrV h, znV z, .int .i64 a, .int .i64 b] w (TotQ h z a b w) := by
  have HBo := Lib.hid (fun W (hb : Below w.heap.size w W) => hboth_any h z W (hv.next hb) (hin.next hb hb.size) (zin.next hb hb.size))
  have HLo := Lib.hid (fun (zok : ZOk z) t W (hb : Below w.heap.size w W) q1 q2 => zlocal_in z t W (zin.next hb hb.size) zok q1 q2)
  have HOp := Lib.hid (fun (ok : HrOk h) gt W (hb : Below w.heap.size w W) (hg1 : w.heap.size ≤ gt) (hg2 : gt < W.heap.size) => hopen_any h z ok W (hv.next hb) (hin.next hb hb.size) (fun x => x ≠ gt) (fun b hb2 => by omega) ((hin.at_ (Nat.le_refl _)).keep (fun b hl _ => ⟨hb.block b hl, by omega⟩) hb.size) ((zin.row.allAt (Nat.le_refl _)).keep (fun b hl _ => ⟨hb.block b hl, by omega⟩) hb.size))
  have HSt := Lib.hid (fun (ok : HrOk h) (zok : ZOk z) g gt At ct Ts W (hg : w.heap.size ≤ gt) (k : TotI w (fun x => x ≠ gt) g gt h z At ct Ts a a W) => stretches_any (fun x => x ≠ gt) g h z At ct Ts a b 51 #[.pointer (some ⟨gt, 0, none⟩)] (fun q W => TotI w (fun x => x ≠ gt) g gt h z At ct Ts a q W) (fun _ => False) (total_str w g gt h z At ct Ts a b hg hab2 (by omega) (by omega)) ok zok (by omega) hab (by omega) W k)
  have hI := fun W => run_two a b W
  have hI0 := fun W => (hI W).1
  have hI1 := fun W => (hI W).2
  unfold HOpenQ at HOp
  unfold StrQ at HSt
  unfold IsChk at HBo
  have HQ : Hid (∀ n E w', (E = 0 ↔ HrOk h ∧ ZOk z) → (E = 0 → n = (cntW (OpenAt h z.first z.chs) a (b - a).toNat : Int)) → (E ≠ 0 → n = 0) → Below w.heap.size w w' → TotQ h z a b w (.returned (.tuple #[.int .i64 n, .int .i64 E])) w') := fun n E w' a b c d => ⟨n, E, rfl, a, b, c, d⟩
  generalize TotQ h z a b w = POST at *
  have HZv : Hid (znV z = .agg #[.string z.nm, .int .i64 z.first, .slice z.A z.chs.length z.c]) := rfl
  clear hv hin zin hI
  have HB := Lib.hid (below_alloc2 w (Obj.cells #[wdV h.w0, wdV h.w1, wdV h.w2, wdV h.w3, wdV h.w4, wdV h.w5, wdV h.w6, .slice h.A h.ex.length h.c] 44) (Obj.cells #[.string z.nm, .int .i64 z.first, .slice z.A z.chs.length z.c] 47))
  have hx2 := (Box.new w 44 #[wdV h.w0, wdV h.w1, wdV h.w2, wdV h.w3, wdV h.w4, wdV h.w5, wdV h.w6, .slice h.A h.ex.length h.c]).alloc (Obj.cells #[.string z.nm, .int .i64 z.first, .slice z.A z.chs.length z.c] 47)
  have hz2 := Box.new (w.alloc (Obj.cells #[wdV h.w0, wdV h.w1, wdV h.w2, wdV h.w3, wdV h.w4, wdV h.w5, wdV h.w6, .slice h.A h.ex.length h.c] 44)) 47 #[.string z.nm, .int .i64 z.first, .slice z.A z.chs.length z.c]
  simp only [World.size_alloc] at hx2 hz2
  have HX := Lib.hid hx2
  have HZ := Lib.hid hz2
  clear hx2 hz2
  rw [HZv.out] at HBo HOp ⊢
  unfold hrV at *
  go_enter Tryz.func23, Tryz.ntmps23
  go_upto_region 1 with fail
  generalize wdV h.w0 = v0 at *
  generalize wdV h.w1 = v1 at *
  generalize wdV h.w2 = v2 at *
  generalize wdV h.w3 = v3 at *
  generalize wdV h.w4 = v4 at *
  generalize wdV h.w5 = v5 at *
  generalize wdV h.w6 = v6 at *
  generalize (w.alloc (Obj.cells #[v0, v1, v2, v3, v4, v5, v6, .slice h.A h.ex.length h.c] 44)).alloc (Obj.cells #[.string z.nm, .int .i64 z.first, .slice z.A z.chs.length z.c] 47) = W2 at *
  obtain ⟨g0, hg0⟩ : ∃ g0, g0 = w.heap.size := ⟨_, rfl⟩
  have HG0 := Lib.hid hg0
  rw [← hg0] at HX HZ ⊢
  clear hg0
  obtain ⟨x0, x1, x2, x3, x4, x5, x6, x7⟩ := hrcells HX.out
  obtain ⟨z0, z1, z2⟩ := zncells HZ.out
  go_wp2_with fail
  refine (HBo.out W2 HB.out).mono ?_
  rintro e w3 ⟨E, rfl, hE, hb3⟩
  have HE := Lib.hid hE
  have HB3 := Lib.hid (below_then HB.out hb3)
  have HX3 := Lib.hid (HX.out.below hb3)
  have HZ3 := Lib.hid (HZ.out.below hb3)
  clear hE hb3 HX HZ HB HBo x0 x1 x2 x3 x4 x5 x6 x7 z0 z1 z2
  by_cases hE0 : E = 0
  case neg =>
    have t1 : (E != 0) = true := by rw [bne_iff_ne]; exact hE0
    have HE0 := Lib.hid hE0
    clear hE0
    go_wp2_with fail
    exact HQ.out 0 E _ HE.out (fun q => absurd q HE0.out) (fun _ => rfl) HB3.out
  subst hE0
  have HOk := Lib.hid (HE.out.1 rfl)
  have t2 : decide (b < a) = false := decide_eq_false (by omega)
  have t3 : decide (3456000000 < b - a) = false := decide_eq_false (by omega)
  have ew1 : IntKind.i64.wrap (b - a) = b - a := intFits _ (by omega) (by omega)
  have HIa := Lib.hid (fun W => isInstant_yes a W ⟨by omega, by omega⟩)
  have HIb := Lib.hid (fun W => isInstant_yes b W ⟨by omega, by omega⟩)
  go_upto_region 10 with (go_at_call 47; first | (with_reducible refine (HIa.out _).mono ?_; rintro e w' ⟨rfl, nq, rfl⟩) | (with_reducible refine (HIb.out _).mono ?_; rintro e w' ⟨rfl, nq, rfl⟩))
  generalize hw4 : World.drewN _ _ = w4
  have HB4 : Hid (Below w.heap.size w w4) := by rw [← hw4]; exact below_then HB3.out (below_drewN _ _)
  have HX4 : Hid (Box w4 g0 44 #[v0, v1, v2, v3, v4, v5, v6, .slice h.A h.ex.length h.c]) := by rw [← hw4]; exact HX3.out.drewN _
  have HZ4 : Hid (Box w4 (g0 + 1) 47 #[.string z.nm, .int .i64 z.first, .slice z.A z.chs.length z.c]) := by rw [← hw4]; exact HZ3.out.drewN _
  clear hw4 HB3 HX3 HZ3 HIa HIb t2 t3 ew1
  go_wp2_with fail
  go_loopw [12, 13, 14, 15, 44] (fun _ _ _ _ i wr => ∃ k : Int, (k = 0 ∨ k = 1 ∨ k = 2) ∧ i = .int .i64 k ∧ Hid (Box wr g0 44 #[v0, v1, v2, v3, v4, v5, v6, .slice h.A h.ex.length h.c]) ∧ Hid (Box wr (g0 + 1) 47 #[.string z.nm, .int .i64 z.first, .slice z.A z.chs.length z.c]) ∧ Hid (Below w.heap.size w wr)) (fun _ _ _ _ i _ => (2 - intOf i).toNat)
  case atStart => exact ⟨0, .inl rfl, rfl, HX4, HZ4, HB4⟩
  case round =>
    obtain ⟨k, hk, rfl, hx, hz, hb⟩ := hrel
    clear HX4 HZ4 HB4
    obtain ⟨z0, z1, z2⟩ := zncells hz.out
    rcases hk with rfl | rfl | rfl
    · have HL := Lib.hid (HLo.out HOk.out.2 a wr hb.out (by omega) (by omega))
      generalize locD z a = ld at *
      generalize locM z a = lm at *
      go_wp2_with fail
      refine HL.out.mono ?_
      rintro e w5 ⟨rfl, hb5⟩
      have HB5 := Lib.hid (below_then hb.out hb5)
      have HX5 := Lib.hid (hx.out.below hb5)
      have HZ5 := Lib.hid (hz.out.below hb5)
      clear hb5 HL hb hx hz z0 z1 z2
      go_wp2_with fail
      go_roundw
      case rel => exact ⟨1, .inr (.inl rfl), by go_num, HX5, HZ5, HB5⟩
      case measure => simp [intOf]
    · have HL := Lib.hid (HLo.out HOk.out.2 b wr hb.out (by omega) (by omega))
      generalize locD z b = ld at *
      generalize locM z b = lm at *
      go_wp2_with fail
      refine HL.out.mono ?_
      rintro e w5 ⟨rfl, hb5⟩
      have HB5 := Lib.hid (below_then hb.out hb5)
      have HX5 := Lib.hid (hx.out.below hb5)
      have HZ5 := Lib.hid (hz.out.below hb5)
      clear hb5 HL hb hx hz z0 z1 z2
      go_wp2_with fail
      go_roundw
      case rel => exact ⟨2, .inr (.inr rfl), by go_num, HX5, HZ5, HB5⟩
      case measure => simp [intOf]
    obtain ⟨gt, hgt⟩ : ∃ gt, gt = wr.heap.size := ⟨_, rfl⟩
    have hwg : w.heap.size ≤ gt := by have := hb.out.size; omega
    have HB5 := Lib.hid (below_then hb.out (below_alloc1 wr (Obj.cells #[.int .i64 0] 3)))
    have hT5 := Box.new wr 3 #[.int .i64 0]
    rw [← hgt] at hT5
    have HT5 := Lib.hid hT5
    have HX5 := Lib.hid (hx.out.alloc (Obj.cells #[.int .i64 0] 3))
    have HZ5 := Lib.hid (hz.out.alloc (Obj.cells #[.int .i64 0] 3))
    clear hT5 hb hx hz z0 z1 z2 hI0 hI1
    go_upto_region 18 with fail
    rw [← hgt]
    generalize wr.alloc (Obj.cells #[.int .i64 0] 3) = w5 at *
    clear hgt
    obtain ⟨x0, x1, x2, x3, x4, x5, x6, x7⟩ := hrcells HX5.out
    obtain ⟨z0, z1, z2⟩ := zncells HZ5.out
    have HO5 := Lib.hid (HOp.out HOk.out.1 gt w5 HB5.out hwg HT5.out.lt)
    clear HOp HX5 HZ5
    go_wp2_with fail
    refine HO5.out.mono ?_
    rintro e w6 ⟨g, At, ct, Ts, rfl, hg, hbk, hb6⟩
    have HT6 := Lib.hid (HT5.out.below hb6)
    have HB6 := Lib.hid (below_then HB5.out hb6)
    have HS6 := Lib.hid (HSt.out HOk.out.1 HOk.out.2 g gt At ct Ts w6 hwg ⟨hbk, by rw [Int.sub_self]; exact HT6.out, HB6.out⟩)
    clear hbk hb6 HO5 HSt hg HT5 HB5 x0 x1 x2 x3 x4 x5 x6 x7 z0 z1 z2
    go_wp2_with fail
    refine HS6.out.mono ?_
    rintro e w7 ⟨rfl, hi⟩
    have HI := Lib.hid (hi.resolve_right id)
    have t0 : w7.cell? ⟨gt, 0, none⟩ = some (.int .i64 (cntW (OpenAt h z.first z.chs) a (b - a).toNat : Int)) := HI.out.box.cell 0
    have hgl := HI.out.box.lt
    clear hi HS6 HT6 HB6
    have HQ1 := Lib.hid (fun n (hn : n = (cntW (OpenAt h z.first z.chs) a (b - a).toNat : Int)) => HQ.out n 0 w7 ⟨fun _ => HOk.out, fun _ => rfl⟩ (fun _ => hn) (fun q => absurd rfl q) HI.out.bel)
    have HI2 := Lib.hid HI.out
    clear HI HQ HLo HE
    generalize cntW (OpenAt h z.first z.chs) a (b - a).toNat = N at *
    go_wp2_with fail
    exact HQ1.out _ rfl
end Go.Proofs.YtoaflcnphijhpaaGreatDoor

/- Contracts of hours.Open and Next. -/
namespace Go.Proofs.YtoaflcnphijhpaaGreatDoor
open Go Go.RowKit
attribute [local go_sem] Oper.semAt_some
set_option linter.unusedVariables false

set_option maxHeartbeats 1000000 in
set_option maxRecDepth 100000 in
theorem indexFunc_sps (g : Nat) (cb : Array Value) (p : Sp → Bool) (S : World → Prop) (A : Option Addr) (c : Nat) (l : List Sp) (w : World) (hS : S w) (hl : l.length ≤ 1000000) (eg : ∀ args w, (callFunc g args).run Tryz.prog w = .ok (.enter g args) w)
    (hr : ∀ W, S W → Row W W.heap.size A (l.flatMap spF))
    (hf : ∀ W x, S W → Calls Tryz.prog g (#[.agg #[.int .i64 x.a, .int .i64 x.b]] ++ cb) W fun e w' => e = .returned (.bool (p x)) ∧ S w') :
    Calls Tryz.prog 98 #[.slice A l.length c, .func (.func g) #[] cb] w (IsIdxF (l.any p = true) S) := by
  have HF := Lib.hid hf
  have HRr := Lib.hid hr
  have HS := Lib.hid hS
  obtain ⟨P, hP⟩ : ∃ P : Prop, P = (l.any p = true) := ⟨_, rfl⟩
  rw [← hP]
  have HP := Lib.hid hP
  clear hP hf hr hS
  go_enter Tryz.func98, Tryz.ntmps98
  go_wp2_with fail
  go_loopw [5, 8] (fun _ i wr => ∃ k : Nat, k ≤ l.length ∧ i = .int .i64 (k : Int) ∧ Hid (∀ j, j < k → p (l.getD j sp0) = false) ∧ Hid (S wr)) (fun _ i _ => l.length - (intOf i).toNat)
  case atStart => exact ⟨0, by omega, rfl, fun j hj => by omega, HS⟩
  case round =>
    obtain ⟨k, hk, rfl, hall, HSr⟩ := hrel
    by_cases hlt : k < l.length
    · obtain ⟨b, o, rfl, _, hcs⟩ := (HRr.out _ HSr.out).open_ (flat_ne spF_len (by omega) l (by omega))
      have hc0 := flat_cell spF_len sp0 hcs k 0 hlt (by omega) _ rfl
      have hc1 := flat_cell spF_len sp0 hcs k 1 hlt (by omega) _ rfl
      have hmem : Hid (l.getD k sp0 ∈ l) := by unfold Hid; simp [List.getD, List.getElem?_eq_getElem hlt]
      have HX : Hid (p (l.getD k sp0) = false → ∀ j, j < k + 1 → p (l.getD j sp0) = false) := fun h j hj => by
        by_cases e : j = k
        · subst e; exact h
        · exact hall.out j (by omega)
      have hcall := HF.out _ (l.getD k sp0) HSr.out
      clear hcs
      generalize l.getD k sp0 = y at *
      rw [Nat.add_zero] at hc0
      cases hp : p y <;> rw [hp] at hcall
      · have HPy := Lib.hid hp
        clear hp
        have HCl := Lib.hid hcall
        clear hcall
        go_wp2_with (go_at_fn g; refine HCl.out.mono ?_; rintro e w' ⟨rfl, hs'⟩)
        go_roundw
        case rel => exact ⟨k + 1, by omega, by go_num, HX.out HPy.out, hs'⟩
        case measure => simp [intOf]; omega
      · have HPy := Lib.hid hp
        clear hp
        have HCl := Lib.hid hcall
        clear hcall
        go_wp2_with (go_at_fn g; refine HCl.out.mono ?_; rintro e w' ⟨rfl, hs'⟩)
        go_ret
        exact ⟨(k : Int), rfl, ⟨fun _ => by rw [HP.out]; exact List.any_eq_true.2 ⟨y, hmem.out, HPy.out⟩, fun _ => by omega⟩, hs'⟩
    · go_wp2_with fail
      go_ret
      refine ⟨-1, rfl, ⟨fun h => by omega, fun h => ?_⟩, HSr.out⟩
      rw [HP.out] at h
      obtain ⟨y, hy, hpy⟩ := List.any_eq_true.1 h
      obtain ⟨i, hi, e⟩ := List.getElem_of_mem hy
      have := hall.out i (by omega)
      simp [List.getD, List.getElem?_eq_getElem hi, e, hpy] at this

set_option maxRecDepth 100000 in
theorem containsFunc_sps (g : Nat) (cb : Array Value) (p : Sp → Bool) (S : World → Prop) (A : Option Addr) (c : Nat) (l : List Sp) (w : World) (hS : S w) (hl : l.length ≤ 1000000) (eg : ∀ args w, (callFunc g args).run Tryz.prog w = .ok (.enter g args) w)
    (hr : ∀ W, S W → Row W W.heap.size A (l.flatMap spF))
    (hf : ∀ W x, S W → Calls Tryz.prog g (#[.agg #[.int .i64 x.a, .int .i64 x.b]] ++ cb) W fun e w' => e = .returned (.bool (p x)) ∧ S w') :
    Calls Tryz.prog 53 #[.slice A l.length c, .func (.func g) #[] cb] w fun e w' => e = .returned (.bool (l.any p)) ∧ S w' := by
  have HI := Lib.hid (indexFunc_sps g cb p S A c l w hS hl eg hr hf)
  obtain ⟨R, hR⟩ : ∃ R, R = l.any p := ⟨_, rfl⟩
  rw [← hR]
  have HR := Lib.hid hR
  clear hR hl hS hr hf
  go_enter Tryz.func53, Tryz.ntmps53
  go_wp2_with fail
  refine HI.out.mono ?_
  rintro e w' ⟨i, rfl, hi, hs'⟩
  have HH := Lib.hid hi
  have HS' := Lib.hid hs'
  clear hi HI hs'
  by_cases h0 : 0 ≤ i
  · go_wp2_with fail
    go_ret
    exact ⟨by rw [HR.out, HH.out.1 h0]; simp, HS'.out⟩
  · have t1 : decide (0 ≤ i) = false := decide_eq_false h0
    have hf : l.any p = false := by
      cases h : l.any p
      · rfl
      · exact absurd (HH.out.2 h) h0
    have HFF := Lib.hid hf
    clear hf
    go_wp2_with fail
    go_ret
    exact ⟨by rw [HR.out, HFF.out]; rfl, HS'.out⟩

set_option maxRecDepth 100000 in
theorem open1_any (gm : Nat) (ms : Int) (x : Sp) (W : World) (hx : W.cell? ⟨gm, 0, none⟩ = some (.int .i64 ms)) :
    Calls Tryz.prog 55 (#[.agg #[.int .i64 x.a, .int .i64 x.b]] ++ #[.pointer (some ⟨gm, 0, none⟩)]) W fun e w' => e = .returned (.bool (decide (x.a ≤ ms) && decide (ms < x.b))) ∧ Below W.heap.size W w' := by
  have hlt : gm < W.heap.size := block_lt_of_cell hx
  have hx' : (W.alloc (Obj.cells #[.int .i64 x.a, .int .i64 x.b] 49)).cell? ⟨gm, 0, none⟩ = some (.int .i64 ms) := ((below_alloc1 W _).cell (p := ⟨gm, 0, none⟩) hlt).trans hx
  have HB := Lib.hid (below_alloc1 W (Obj.cells #[.int .i64 x.a, .int .i64 x.b] 49))
  by_cases h1 : x.a ≤ ms
  · have t1 : decide (x.a ≤ ms) = true := decide_eq_true h1
    by_cases h2 : ms < x.b
    · have t2 : decide (ms < x.b) = true := decide_eq_true h2
      go_enter Tryz.func55, Tryz.ntmps55
      go_wp2_with fail
      go_ret
      exact ⟨by simp [h1, h2], HB.out⟩
    · have t2 : decide (ms < x.b) = false := decide_eq_false h2
      go_enter Tryz.func55, Tryz.ntmps55
      go_wp2_with fail
      go_ret
      exact ⟨by simp, HB.out⟩
  · have t1 : decide (x.a ≤ ms) = false := decide_eq_false h1
    go_enter Tryz.func55, Tryz.ntmps55
    go_wp2_with fail
    go_ret
    exact ⟨by simp, HB.out⟩
def HIsQ (h : Hr) (z : Zn) (t : Int) (w : World) (e : Ending) (w' : World) : Prop := ∃ B : Bool, e = .returned (.tuple #[.bool B, .int .i64 0]) ∧ (B = true ↔ OpenAt h z.first z.chs t) ∧ Below w.heap.size w w'
theorem any_insp (l : List Sp) (ms : Int) : l.any (fun x => decide (x.a ≤ ms) && decide (ms < x.b)) = true ↔ InSp l ms := by
  rw [List.any_eq_true]
  constructor
  · rintro ⟨x, hx, h⟩
    obtain ⟨i, hi, rfl⟩ := List.getElem_of_mem hx
    simp only [Bool.and_eq_true, decide_eq_true_eq] at h
    refine ⟨i, hi, ?_⟩
    rw [List.getD_eq_getElem?_getD, List.getElem?_eq_getElem hi]
    exact h
  · rintro ⟨i, hi, h⟩
    refine ⟨l.getD i sp0, getD_sp hi, ?_⟩
    simp only [Bool.and_eq_true, decide_eq_true_eq]
    exact h
set_option maxHeartbeats 8000000 in
set_option maxRecDepth 100000 in
theorem hopenat_any (h : Hr) (z : Zn) (t : Int) (w : World) (hv : Env w) (hin : HrIn w w.heap.size h) (zin : ZnIn w w.heap.size z) (ok : HrOk h) (zok : ZOk z) (h1 : -300000000000000 ≤ t) (h2 : t ≤ 300000000000000) :
    Calls Tryz.prog 25 #[hrV h, znV z, .int .i64 t] w (HIsQ h z t w) := by
  have HBo := Lib.hid (fun W (hb : Below w.heap.size w W) => hboth_any h z W (hv.next hb) (hin.next hb hb.size) (zin.next hb hb.size))
  have HLo := Lib.hid (fun W (hb : Below w.heap.size w W) => zlocal_in z t W (zin.next hb hb.size) zok h1 h2)
  have HOp := Lib.hid (fun W (hb : Below w.heap.size w W) => hopen_any h z ok W (hv.next hb) (hin.next hb hb.size) (fun x => True) (fun b hb2 => trivial) ((hin.at_ (Nat.le_refl _)).keep (fun b hl _ => ⟨hb.block b hl, trivial⟩) hb.size) ((zin.row.allAt (Nat.le_refl _)).keep (fun b hl _ => ⟨hb.block b hl, trivial⟩) hb.size))
  have HPt := Lib.hid (fun g At ct Ts W (k : BkAt W (fun _ => True) g h z At ct Ts) => hparts_any g h z At ct Ts (fun _ => True) (locD z t) W ok (loc_day zok h1 h2) k)
  have HRw := Lib.hid (fun g At ct Ts W (k : BkAt W (fun _ => True) g h z At ct Ts) => (k.hat.parts (locD z t)).row)
  have hpl := (parts_ok ok (locD z t)).ln
  have HOA : Hid (OpenAt h z.first z.chs t ↔ InSp (h.parts (locD z t)).l (locM z t)) := ⟨fun q => q.2, fun q => ⟨loc_day zok h1 h2, q⟩⟩
  unfold HOpenQ at HOp
  unfold IsChk at HBo
  have HQ : Hid (∀ (B : Bool) w', (B = true ↔ OpenAt h z.first z.chs t) → Below w.heap.size w w' → HIsQ h z t w (.returned (.tuple #[.bool B, .int .i64 0])) w') := fun B w' a d => ⟨B, rfl, a, d⟩
  generalize HIsQ h z t w = POST at *
  have HZv : Hid (znV z = .agg #[.string z.nm, .int .i64 z.first, .slice z.A z.chs.length z.c]) := rfl
  have HOk : Hid (HrOk h ∧ ZOk z) := ⟨ok, zok⟩
  clear hv hin zin ok zok
  have HB := Lib.hid (below_alloc2 w (Obj.cells #[wdV h.w0, wdV h.w1, wdV h.w2, wdV h.w3, wdV h.w4, wdV h.w5, wdV h.w6, .slice h.A h.ex.length h.c] 44) (Obj.cells #[.string z.nm, .int .i64 z.first, .slice z.A z.chs.length z.c] 47))
  have hx2 := (Box.new w 44 #[wdV h.w0, wdV h.w1, wdV h.w2, wdV h.w3, wdV h.w4, wdV h.w5, wdV h.w6, .slice h.A h.ex.length h.c]).alloc (Obj.cells #[.string z.nm, .int .i64 z.first, .slice z.A z.chs.length z.c] 47)
  have hz2 := Box.new (w.alloc (Obj.cells #[wdV h.w0, wdV h.w1, wdV h.w2, wdV h.w3, wdV h.w4, wdV h.w5, wdV h.w6, .slice h.A h.ex.length h.c] 44)) 47 #[.string z.nm, .int .i64 z.first, .slice z.A z.chs.length z.c]
  simp only [World.size_alloc] at hx2 hz2
  have HX := Lib.hid hx2
  have HZ := Lib.hid hz2
  clear hx2 hz2
  rw [HZv.out] at HBo HOp ⊢
  unfold hrV at *
  go_enter Tryz.func25, Tryz.ntmps25
  go_upto_region 1 with fail
  generalize wdV h.w0 = v0 at *
  generalize wdV h.w1 = v1 at *
  generalize wdV h.w2 = v2 at *
  generalize wdV h.w3 = v3 at *
  generalize wdV h.w4 = v4 at *
  generalize wdV h.w5 = v5 at *
  generalize wdV h.w6 = v6 at *
  generalize (w.alloc (Obj.cells #[v0, v1, v2, v3, v4, v5, v6, .slice h.A h.ex.length h.c] 44)).alloc (Obj.cells #[.string z.nm, .int .i64 z.first, .slice z.A z.chs.length z.c] 47) = W2 at *
  obtain ⟨g0, hg0⟩ : ∃ g0, g0 = w.heap.size := ⟨_, rfl⟩
  have HG0 := Lib.hid hg0
  rw [← hg0] at HX HZ ⊢
  clear hg0
  obtain ⟨x0, x1, x2, x3, x4, x5, x6, x7⟩ := hrcells HX.out
  obtain ⟨z0, z1, z2⟩ := zncells HZ.out
  go_wp2_with fail
  refine (HBo.out W2 HB.out).mono ?_
  rintro e w3 ⟨E, rfl, hE, hb3⟩
  obtain rfl : E = 0 := hE.2 HOk.out
  have HB3 := Lib.hid (below_then HB.out hb3)
  have HX3 := Lib.hid (HX.out.below hb3)
  have HZ3 := Lib.hid (HZ.out.below hb3)
  clear hE hb3 HX HZ HB HBo x0 x1 x2 x3 x4 x5 x6 x7 z0 z1 z2
  obtain ⟨z0, z1, z2⟩ := zncells HZ3.out
  have HL := Lib.hid (HLo.out w3 HB3.out)
  generalize locD z t = ld at *
  generalize locM z t = lm at *
  go_wp2_with fail
  refine HL.out.mono ?_
  rintro e w4 ⟨rfl, hb4⟩
  obtain ⟨gm, hgm⟩ : ∃ gm, gm = w4.heap.size := ⟨_, rfl⟩
  have HB4 := Lib.hid (below_then (below_then HB3.out hb4) (below_alloc1 w4 (Obj.cells #[.int .i64 lm] 3)))
  have hT5 := Box.new w4 3 #[.int .i64 lm]
  rw [← hgm] at hT5
  have HT5 := Lib.hid hT5
  have HX5 := Lib.hid ((HX3.out.below hb4).alloc (Obj.cells #[.int .i64 lm] 3))
  have HZ5 := Lib.hid ((HZ3.out.below hb4).alloc (Obj.cells #[.int .i64 lm] 3))
  clear hT5 hb4 HB3 HX3 HZ3 z0 z1 z2 HL HLo
  go_upto_region 5 with fail
  rw [← hgm]
  generalize w4.alloc (Obj.cells #[.int .i64 lm] 3) = w5 at *
  clear hgm
  obtain ⟨x0, x1, x2, x3, x4, x5, x6, x7⟩ := hrcells HX5.out
  obtain ⟨z0, z1, z2⟩ := zncells HZ5.out
  have HO5 := Lib.hid (HOp.out w5 HB4.out)
  clear HOp HX5 HZ5
  go_wp2_with fail
  refine HO5.out.mono ?_
  rintro e w6 ⟨g, At, ct, Ts, rfl, hg, hbk, hb6⟩
  have HT6 := Lib.hid (HT5.out.below hb6)
  have HB6 := Lib.hid (below_then HB4.out hb6)
  have HBk := Lib.hid hbk
  have HP6 := Lib.hid (HPt.out g At ct Ts w6 hbk)
  clear hbk hb6 HO5 hg HT5 HB4 x0 x1 x2 x3 x4 x5 x6 x7 z0 z1 z2
  go_wp2_with fail
  refine HP6.out.mono ?_
  rintro e w7 ⟨rfl, hb7⟩
  have HT7 := Lib.hid (HT6.out.below hb7)
  have HB7 := Lib.hid (below_then HB6.out hb7)
  have HR7 := Lib.hid (HRw.out g At ct Ts w7 (HBk.out.next hb7))
  clear hb7 HP6 HT6 HB6 HBk HRw HPt
  generalize h.parts ld = pd at *
  obtain ⟨Ap, cp, lp⟩ := pd
  unfold wdV at *
  dsimp only at HR7 HOA hpl ⊢
  have HCf := Lib.hid (containsFunc_sps 55 #[.pointer (some ⟨gm, 0, none⟩)] (fun x => decide (x.a ≤ lm) && decide (lm < x.b)) (fun W => Box W gm 3 #[.int .i64 lm] ∧ Row W W.heap.size Ap (lp.flatMap spF) ∧ Below w.heap.size w W) Ap cp lp w7 ⟨HT7.out, HR7.out, HB7.out⟩ (by omega) (fun _ _ => rfl) (fun W q => q.2.1) (fun W x q => (open1_any gm lm x W (q.1.cell 0)).mono fun e w' ⟨he, hb⟩ => ⟨he, q.1.below hb, q.2.1.next hb, below_then q.2.2 hb⟩))
  obtain ⟨V, hV⟩ : ∃ V, V = lp.any (fun x => decide (x.a ≤ lm) && decide (lm < x.b)) := ⟨_, rfl⟩
  rw [← hV] at HCf
  have HVi : Hid (V = true ↔ OpenAt h z.first z.chs t) := by unfold Hid; rw [hV]; exact (any_insp lp lm).trans HOA.out.symm
  clear hV HOA
  go_wp2_with fail
  refine HCf.out.mono ?_
  rintro e w8 ⟨rfl, _, _, hb8⟩
  have HB8 := Lib.hid hb8
  clear hb8 HCf
  go_wp2_with fail
  exact HQ.out V _ HVi.out HB8.out

structure NxtI (w : World) (p : Nat → Prop) (g go gi : Nat) (h : Hr) (z : Zn) (At : Option Addr) (ct : Nat) (Ts : List ST) (a q : Int) (W : World) : Prop where
  bk : BkAt W p g h z At ct Ts
  bo : Box W go 3 #[.int .i64 0]
  bi : Box W gi 4 #[.bool false]
  bel : Below w.heap.size w W
  no : ∀ t, a ≤ t → t < q → ¬ OpenAt h z.first z.chs t
def FirstO (h : Hr) (z : Zn) (a high t : Int) : Prop := a ≤ t ∧ t < high ∧ OpenAt h z.first z.chs t ∧ ∀ u, a ≤ u → u < t → ¬ OpenAt h z.first z.chs u
structure NxtD (w : World) (go gi : Nat) (h : Hr) (z : Zn) (a high t : Int) (W : World) : Prop where
  bo : Box W go 3 #[.int .i64 t]
  bi : Box W gi 4 #[.bool true]
  bel : Below w.heap.size w W
  fo : FirstO h z a high t
set_option maxHeartbeats 1000000 in
set_option maxRecDepth 100000 in
theorem next1_any (go gi : Nat) (a b : Int) (w : World) (ho : Box w go 3 #[.int .i64 0]) (hi : Box w gi 4 #[.bool false]) (hne : go ≠ gi) :
    Calls Tryz.prog 52 #[.int .i64 a, .int .i64 b, .pointer (some ⟨go, 0, none⟩), .pointer (some ⟨gi, 0, none⟩)] w fun e w' => e = .returned (.bool false) ∧ w' = (w.setCell ⟨go, 0, none⟩ (.int .i64 a)).setCell ⟨gi, 0, none⟩ (.bool true) := by
  have x0 : w.cell? ⟨go, 0, none⟩ = some (.int .i64 0) := ho.cell 0
  have xf : w.frozen? ⟨go, 0, none⟩ = false := ho.free 0
  have xl := ho.lt
  have y0 : w.cell? ⟨gi, 0, none⟩ = some (.bool false) := hi.cell 0
  have yf : w.frozen? ⟨gi, 0, none⟩ = false := hi.free 0
  have yl := hi.lt
  have hne2 : ¬ gi = go := fun e => hne e.symm
  clear ho hi
  go_enter Tryz.func52, Tryz.ntmps52
  go_wp2_with fail
  go_ret
  exact ⟨rfl, rfl⟩
set_option maxRecDepth 100000 in
theorem next_str (w : World) (g go gi : Nat) (h : Hr) (z : Zn) (At : Option Addr) (ct : Nat) (Ts : List ST) (a b : Int) (hgo : w.heap.size ≤ go) (hgi : w.heap.size ≤ gi) (hne : go ≠ gi) :
    StrH (fun x => x ≠ go ∧ x ≠ gi) g h z At ct Ts a b 52 #[.pointer (some ⟨go, 0, none⟩), .pointer (some ⟨gi, 0, none⟩)] (fun q W => NxtI w (fun x => x ≠ go ∧ x ≠ gi) g go gi h z At ct Ts a q W) (fun W => ∃ t, NxtD w go gi h z a b t W) where
  keep := fun q W k => k.bk
  skip := fun x y W hx hxy hy k hn => ⟨k.bk, k.bo, k.bi, k.bel, fun t q1 q2 => by
    rcases Int.lt_or_le t x with q | q
    · exact k.no t q1 q
    · exact hn t q q2⟩
  bel := fun q W W' k hb => ⟨k.bk.next hb, k.bo.below hb, k.bi.below hb, below_then k.bel hb, k.no⟩
  call := fun x y W hx hxy hy k hp => by
    refine (next1_any go gi x y W k.bo k.bi hne).mono ?_
    rintro e w' ⟨rfl, rfl⟩
    refine ⟨false, rfl, fun h => (by cases h), fun _ => ⟨x, ?_, ?_, ?_, ?_⟩⟩
    · exact (k.bo.set_ 0 _).far (p := ⟨gi, 0, none⟩) hne _
    · exact (k.bi.far (p := ⟨go, 0, none⟩) (fun e => hne e.symm) _).set_ 0 _
    · exact (k.bel.setCell (p := ⟨go, 0, none⟩) hgo _).setCell (p := ⟨gi, 0, none⟩) hgi _
    · exact ⟨hx, by omega, hp x (by omega) hxy, k.no⟩
  eg := fun _ _ => rfl
end Go.Proofs.YtoaflcnphijhpaaGreatDoor

/- Contract of hours.Next. -/
namespace Go.Proofs.YtoaflcnphijhpaaGreatDoor
open Go Go.RowKit
attribute [local go_sem] Oper.semAt_some
set_option linter.unusedVariables false

def HNextQ (h : Hr) (z : Zn) (t0 : Int) (w : World) (e : Ending) (w' : World) : Prop := ∃ n E : Int, e = .returned (.tuple #[.int .i64 n, .int .i64 E]) ∧ (E = 0 → HrOk h ∧ ZOk z ∧ FirstO h z t0 (t0 + 34560000001) n) ∧ (E ≠ 0 → HrOk h → ZOk z → ∀ t, t0 ≤ t → t < t0 + 34560000001 → ¬ OpenAt h z.first z.chs t) ∧ Below w.heap.size w w'
set_option maxHeartbeats 8000000 in
set_option maxRecDepth 100000 in
theorem hnext_any (h : Hr) (z : Zn) (t0 : Int) (w : World) (hv : Env w) (hin : HrIn w w.heap.size h) (zin : ZnIn w w.heap.size z) (h1 : -200000000000000 ≤ t0) (h2 : t0 ≤ 200000000000000) :
    Calls Tryz.prog 24 #[hrV h, znV z, .int .i64 t0] w (HNextQ h z t0 w) := by
  obtain ⟨hi, hhi⟩ : ∃ hi, hi = t0 + 34560000001 := ⟨_, rfl⟩
  have HBo := Lib.hid (fun W (hb : Below w.heap.size w W) => hboth_any h z W (hv.next hb) (hin.next hb hb.size) (zin.next hb hb.size))
  have HLo := Lib.hid (fun (zok : ZOk z) W (hb : Below w.heap.size w W) => zlocal_in z t0 W (zin.next hb hb.size) zok (by omega) (by omega))
  have HOp := Lib.hid (fun (ok : HrOk h) go gi W (hb : Below w.heap.size w W) (hg1 : w.heap.size ≤ go) (hg2 : go < W.heap.size) (hg3 : w.heap.size ≤ gi) (hg4 : gi < W.heap.size) => hopen_any h z ok W (hv.next hb) (hin.next hb hb.size) (fun x => x ≠ go ∧ x ≠ gi) (fun b hb2 => ⟨by omega, by omega⟩) ((hin.at_ (Nat.le_refl _)).keep (fun b hl _ => ⟨hb.block b hl, by omega, by omega⟩) hb.size) ((zin.row.allAt (Nat.le_refl _)).keep (fun b hl _ => ⟨hb.block b hl, by omega, by omega⟩) hb.size))
  have HSt := Lib.hid (fun (ok : HrOk h) (zok : ZOk z) g go gi At ct Ts W (hgo : w.heap.size ≤ go) (hgi : w.heap.size ≤ gi) (hne : go ≠ gi) (k : NxtI w (fun x => x ≠ go ∧ x ≠ gi) g go gi h z At ct Ts t0 t0 W) => stretches_any (fun x => x ≠ go ∧ x ≠ gi) g h z At ct Ts t0 hi 52 #[.pointer (some ⟨go, 0, none⟩), .pointer (some ⟨gi, 0, none⟩)] (fun q W => NxtI w (fun x => x ≠ go ∧ x ≠ gi) g go gi h z At ct Ts t0 q W) (fun W => ∃ t, NxtD w go gi h z t0 hi t W) (next_str w g go gi h z At ct Ts t0 hi hgo hgi hne) ok zok (by omega) (by omega) (by omega) W k)
  unfold HOpenQ at HOp
  unfold StrQ at HSt
  unfold IsChk at HBo
  have HQ : Hid (∀ n E w', (E = 0 → HrOk h ∧ ZOk z ∧ FirstO h z t0 hi n) → (E ≠ 0 → HrOk h → ZOk z → ∀ t, t0 ≤ t → t < hi → ¬ OpenAt h z.first z.chs t) → Below w.heap.size w w' → HNextQ h z t0 w (.returned (.tuple #[.int .i64 n, .int .i64 E])) w') := fun n E w' a b d => ⟨n, E, rfl, by rw [← hhi]; exact a, by rw [← hhi]; exact b, d⟩
  generalize HNextQ h z t0 w = POST at *
  have HZv : Hid (znV z = .agg #[.string z.nm, .int .i64 z.first, .slice z.A z.chs.length z.c]) := rfl
  clear hv hin zin
  have HB := Lib.hid (below_alloc2 w (Obj.cells #[wdV h.w0, wdV h.w1, wdV h.w2, wdV h.w3, wdV h.w4, wdV h.w5, wdV h.w6, .slice h.A h.ex.length h.c] 44) (Obj.cells #[.string z.nm, .int .i64 z.first, .slice z.A z.chs.length z.c] 47))
  have hx2 := (Box.new w 44 #[wdV h.w0, wdV h.w1, wdV h.w2, wdV h.w3, wdV h.w4, wdV h.w5, wdV h.w6, .slice h.A h.ex.length h.c]).alloc (Obj.cells #[.string z.nm, .int .i64 z.first, .slice z.A z.chs.length z.c] 47)
  have hz2 := Box.new (w.alloc (Obj.cells #[wdV h.w0, wdV h.w1, wdV h.w2, wdV h.w3, wdV h.w4, wdV h.w5, wdV h.w6, .slice h.A h.ex.length h.c] 44)) 47 #[.string z.nm, .int .i64 z.first, .slice z.A z.chs.length z.c]
  simp only [World.size_alloc] at hx2 hz2
  have HX := Lib.hid hx2
  have HZ := Lib.hid hz2
  clear hx2 hz2
  rw [HZv.out] at HBo HOp ⊢
  unfold hrV at *
  have em : min (t0 + 34560000000 + 1) 345600086400000 = hi := by omega
  have ew1 : IntKind.i64.wrap (t0 + 34560000000) = t0 + 34560000000 := intFits _ (by omega) (by omega)
  have ew2 : IntKind.i64.wrap (t0 + 34560000000 + 1) = t0 + 34560000000 + 1 := intFits _ (by omega) (by omega)
  have HHi := Lib.hid hhi
  clear hhi
  go_enter Tryz.func24, Tryz.ntmps24
  go_upto_region 1 with fail
  generalize wdV h.w0 = v0 at *
  generalize wdV h.w1 = v1 at *
  generalize wdV h.w2 = v2 at *
  generalize wdV h.w3 = v3 at *
  generalize wdV h.w4 = v4 at *
  generalize wdV h.w5 = v5 at *
  generalize wdV h.w6 = v6 at *
  generalize (w.alloc (Obj.cells #[v0, v1, v2, v3, v4, v5, v6, .slice h.A h.ex.length h.c] 44)).alloc (Obj.cells #[.string z.nm, .int .i64 z.first, .slice z.A z.chs.length z.c] 47) = W2 at *
  obtain ⟨g0, hg0⟩ : ∃ g0, g0 = w.heap.size := ⟨_, rfl⟩
  have HG0 := Lib.hid hg0
  rw [← hg0] at HX HZ ⊢
  clear hg0
  obtain ⟨x0, x1, x2, x3, x4, x5, x6, x7⟩ := hrcells HX.out
  obtain ⟨z0, z1, z2⟩ := zncells HZ.out
  go_wp2_with fail
  refine (HBo.out W2 HB.out).mono ?_
  rintro e w3 ⟨E, rfl, hE, hb3⟩
  have HE := Lib.hid hE
  have HB3 := Lib.hid (below_then HB.out hb3)
  have HX3 := Lib.hid (HX.out.below hb3)
  have HZ3 := Lib.hid (HZ.out.below hb3)
  clear hE hb3 HX HZ HB HBo x0 x1 x2 x3 x4 x5 x6 x7 z0 z1 z2
  by_cases hE0 : E = 0
  case neg =>
    have t1 : (E != 0) = true := by rw [bne_iff_ne]; exact hE0
    have HE0 := Lib.hid hE0
    clear hE0
    go_wp2_with fail
    exact HQ.out 0 E _ (fun q => absurd q HE0.out) (fun _ a b => absurd (HE.out.2 ⟨a, b⟩) HE0.out) HB3.out
  subst hE0
  have HOk := Lib.hid (HE.out.1 rfl)
  obtain ⟨z0, z1, z2⟩ := zncells HZ3.out
  have HL := Lib.hid (HLo.out HOk.out.2 w3 HB3.out)
  generalize locD z t0 = ld at *
  generalize locM z t0 = lm at *
  clear HE
  go_wp2_with fail
  refine HL.out.mono ?_
  rintro e w4 ⟨rfl, hb4⟩
  have HB4 := Lib.hid (below_then HB3.out hb4)
  have HX4 := Lib.hid (HX3.out.below hb4)
  have HZ4 := Lib.hid (HZ3.out.below hb4)
  clear hb4 HL HLo HB3 HX3 HZ3 z0 z1 z2
  obtain ⟨go, hgo⟩ : ∃ go, go = w4.heap.size := ⟨_, rfl⟩
  have hs4 := HB4.out.size
  have hwg : w.heap.size ≤ go := by omega
  have HB5 := Lib.hid (below_then HB4.out (below_alloc2 w4 (Obj.cells #[.int .i64 0] 3) (Obj.cells #[.bool false] 4)))
  have hT5 := (Box.new w4 3 #[.int .i64 0]).alloc (Obj.cells #[.bool false] 4)
  have hI5 := Box.new (w4.alloc (Obj.cells #[.int .i64 0] 3)) 4 #[.bool false]
  rw [World.size_alloc] at hI5
  rw [← hgo] at hT5 hI5
  have HT5 := Lib.hid hT5
  have HI5 := Lib.hid hI5
  have HX5 := Lib.hid ((HX4.out.alloc (Obj.cells #[.int .i64 0] 3)).alloc (Obj.cells #[.bool false] 4))
  have HZ5 := Lib.hid ((HZ4.out.alloc (Obj.cells #[.int .i64 0] 3)).alloc (Obj.cells #[.bool false] 4))
  clear hT5 hI5 HB4 HX4 HZ4 hs4
  go_upto_region 9 with fail
  rw [← hgo]
  generalize (w4.alloc (Obj.cells #[.int .i64 0] 3)).alloc (Obj.cells #[.bool false] 4) = w5 at *
  clear hgo em ew1 ew2
  obtain ⟨x0, x1, x2, x3, x4, x5, x6, x7⟩ := hrcells HX5.out
  obtain ⟨z0, z1, z2⟩ := zncells HZ5.out
  have HO5 := Lib.hid (HOp.out HOk.out.1 go (go + 1) w5 HB5.out hwg HT5.out.lt (by omega) HI5.out.lt)
  clear HOp HX5 HZ5
  go_wp2_with fail
  refine HO5.out.mono ?_
  rintro e w6 ⟨g, At, ct, Ts, rfl, hg, hbk, hb6⟩
  have HS6 := Lib.hid (HSt.out HOk.out.1 HOk.out.2 g go (go + 1) At ct Ts w6 hwg (by omega) (by omega) ⟨hbk, HT5.out.below hb6, HI5.out.below hb6, below_then HB5.out hb6, fun t a b => by omega⟩)
  clear hbk hb6 HO5 HSt hg HT5 HI5 HB5 x0 x1 x2 x3 x4 x5 x6 x7 z0 z1 z2
  go_wp2_with fail
  refine HS6.out.mono ?_
  rintro e w7 ⟨rfl, hi2⟩
  clear HS6
  rcases hi2 with k | ⟨t, k⟩
  · have i0 : w7.cell? ⟨go + 1, 0, none⟩ = some (.bool false) := k.bi.cell 0
    have il := k.bi.lt
    have HQ1 : Hid (POST (.returned (.tuple #[.int .i64 0, .int .i64 6])) w7) := HQ.out 0 6 w7 (fun q => by omega) (fun _ _ _ => k.no) k.bel
    clear k HQ
    go_wp2_with fail
    exact HQ1.out
  · have i0 : w7.cell? ⟨go + 1, 0, none⟩ = some (.bool true) := k.bi.cell 0
    have il := k.bi.lt
    have o0 : w7.cell? ⟨go, 0, none⟩ = some (.int .i64 t) := k.bo.cell 0
    have HQ1 : Hid (POST (.returned (.tuple #[.int .i64 t, .int .i64 0])) w7) := HQ.out t 0 w7 (fun _ => ⟨HOk.out.1, HOk.out.2, k.fo⟩) (fun q => absurd rfl q) k.bel
    have ol := k.bo.lt
    clear k HQ
    go_wp2_with fail
    exact HQ1.out
end Go.Proofs.YtoaflcnphijhpaaGreatDoor

/- The constants of the laws on opening hours: a zone without changes, hours on one weekday, hours on all. -/
namespace Go.Proofs.YtoaflcnphijhpaaGreatDoor
open Go Go.RowKit
set_option linter.unusedVariables false

def znA : Zn := ⟨⟨#[97]⟩, 0, none, 0, []⟩
theorem znA_in (w : World) (B : Nat) : ZnIn w B znA := ⟨.inl rfl, by decide, by decide, fun x hx => by cases hx⟩
theorem znA_ok : ZOk znA := ⟨nameB_ok ⟨#[97]⟩ (by decide), by show OffOk 0; unfold OffOk; decide, by decide, fun i hi => by exact absurd hi (Nat.not_lt_zero i)⟩
theorem znA_off (t : Int) : offAt 0 [] t = 0 := rfl
def oneHr (A : Option Addr) (s : Sp) : Hr := ⟨⟨A, 1, [s]⟩, wd0, wd0, wd0, wd0, wd0, wd0, none, 0, []⟩
def SpOk1 (s : Sp) : Prop := 0 ≤ s.a ∧ s.a < s.b ∧ s.b ≤ 86400000
theorem spans1 {s : Sp} (h : SpOk1 s) : SpansOk [s] := ⟨by simp, fun i hi => by
  have : i < 1 := hi
  obtain rfl : i = 0 := by omega
  exact h, fun i h0 hi => by have : i < 1 := hi; omega⟩
theorem spans0 : SpansOk [] := ⟨by simp, fun i hi => absurd hi (Nat.not_lt_zero i), fun i h0 hi => absurd hi (Nat.not_lt_zero i)⟩
theorem wd0_in (w : World) (B : Nat) : WdIn w B wd0 := ⟨.inl rfl, by decide, fun s hs => by cases hs⟩
theorem wd1_in {w : World} {g : Nat} {s : Sp} (hs : SpOk1 s) (hx : Box w g 49 #[.int .i64 s.a, .int .i64 s.b]) : WdIn w w.heap.size ⟨some ⟨g, 0, none⟩, 1, [s]⟩ :=
  ⟨by have := Row.of_box hx; simpa [spF] using this, by show 1 ≤ maxLen; decide, fun x h => by
    obtain rfl : x = s := by simpa using h
    obtain ⟨h1, h2, h3⟩ := hs
    unfold I64
    constructor <;> constructor <;> omega⟩
theorem one_ok (A : Option Addr) {s : Sp} (h : SpOk1 s) : HrOk (oneHr A s) := ⟨fun i hi => by
  match i, hi with
  | 0, _ => exact spans1 h
  | 1, _ => exact spans0
  | 2, _ => exact spans0
  | 3, _ => exact spans0
  | 4, _ => exact spans0
  | 5, _ => exact spans0
  | 6, _ => exact spans0, by simp [oneHr], fun i hi => absurd hi (Nat.not_lt_zero i)⟩
theorem one_in {w : World} {g : Nat} {s : Sp} (hs : SpOk1 s) (hx : Box w g 49 #[.int .i64 s.a, .int .i64 s.b]) : HrIn w w.heap.size (oneHr (some ⟨g, 0, none⟩) s) := ⟨fun i hi => by
  match i, hi with
  | 0, _ => exact wd1_in hs hx
  | 1, _ => exact wd0_in _ _
  | 2, _ => exact wd0_in _ _
  | 3, _ => exact wd0_in _ _
  | 4, _ => exact wd0_in _ _
  | 5, _ => exact wd0_in _ _
  | 6, _ => exact wd0_in _ _, .inl rfl, Nat.zero_le _, fun i hi => absurd hi (Nat.not_lt_zero i)⟩
theorem insp1 (s : Sp) (m : Int) : InSp [s] m ↔ s.a ≤ m ∧ m < s.b := ⟨fun ⟨i, hi, h⟩ => by
  have : i < 1 := hi
  obtain rfl : i = 0 := by omega
  exact h, fun h => ⟨0, by simp, h⟩⟩
theorem one_open (A : Option Addr) (s : Sp) (t : Int) : OpenAt (oneHr A s) 0 [] t ↔ DayIn (t / 86400000) ∧ (t / 86400000 - 1) % 7 = 0 ∧ s.a ≤ t % 86400000 ∧ t % 86400000 < s.b := by
  unfold OpenAt
  rw [znA_off, Int.add_zero, parts_wk (h := oneHr A s) (fun i hi => absurd hi (Nat.not_lt_zero i))]
  generalize t / 86400000 = d
  generalize t % 86400000 = m
  obtain ⟨k, hk⟩ : ∃ k : Nat, (d - 1) % 7 = (k : Int) := ⟨((d - 1) % 7).toNat, by omega⟩
  have hk7 : k < 7 := by omega
  rw [hk, Int.toNat_natCast]
  have hno : ∀ m, ¬ InSp [] m := fun m ⟨i, hi, _⟩ => by cases hi
  match k, hk7 with
  | 0, _ => exact ⟨fun h => ⟨h.1, rfl, (insp1 s m).1 h.2⟩, fun h => ⟨h.1, (insp1 s m).2 h.2.2⟩⟩
  | 1, _ | 2, _ | 3, _ | 4, _ | 5, _ | 6, _ => exact ⟨fun h => absurd h.2 (hno m), fun h => by have := h.2.1; omega⟩
def allHr (A : Nat → Nat) (s : Sp) : Hr := ⟨⟨some ⟨A 0, 0, none⟩, 1, [s]⟩, ⟨some ⟨A 1, 0, none⟩, 1, [s]⟩, ⟨some ⟨A 2, 0, none⟩, 1, [s]⟩, ⟨some ⟨A 3, 0, none⟩, 1, [s]⟩, ⟨some ⟨A 4, 0, none⟩, 1, [s]⟩, ⟨some ⟨A 5, 0, none⟩, 1, [s]⟩, ⟨some ⟨A 6, 0, none⟩, 1, [s]⟩, none, 0, []⟩
theorem all_wk (A : Nat → Nat) (s : Sp) (i : Nat) (hi : i < 7) : (allHr A s).wk i = ⟨some ⟨A i, 0, none⟩, 1, [s]⟩ := by
  match i, hi with
  | 0, _ | 1, _ | 2, _ | 3, _ | 4, _ | 5, _ | 6, _ => rfl
theorem all_ok (A : Nat → Nat) {s : Sp} (h : SpOk1 s) : HrOk (allHr A s) := ⟨fun i hi => by rw [all_wk A s i hi]; exact spans1 h, by simp [allHr], fun i hi => absurd hi (Nat.not_lt_zero i)⟩
theorem all_in {w : World} {A : Nat → Nat} {s : Sp} (hs : SpOk1 s) (hx : ∀ i, i < 7 → Box w (A i) 49 #[.int .i64 s.a, .int .i64 s.b]) : HrIn w w.heap.size (allHr A s) := ⟨fun i hi => by rw [all_wk A s i hi]; exact wd1_in hs (hx i hi), .inl rfl, Nat.zero_le _, fun i hi => absurd hi (Nat.not_lt_zero i)⟩
theorem all_open (A : Nat → Nat) (s : Sp) (t : Int) : OpenAt (allHr A s) 0 [] t ↔ DayIn (t / 86400000) ∧ s.a ≤ t % 86400000 ∧ t % 86400000 < s.b := by
  unfold OpenAt
  rw [znA_off, Int.add_zero, parts_wk (h := allHr A s) (fun i hi => absurd hi (Nat.not_lt_zero i)), all_wk A s _ (by omega), insp1]
set_option maxRecDepth 100000 in
open Go.RowKit Go.Joins Go.ChangeShapes Go.WideShapes Go.Deep in
theorem zn_open {H : Type} {enc : TypeId × Value → H} {W : World} {base : Nat} {v : Value} {d : DataW H} {p : List MemPlace} (hv : Value.okWide Tryz.prog W .any base 47 v) (h : DataW.Trod enc Tryz.prog W 0 (fun _ => true) true 47 v d p) :
    ∃ z : Zn, v = znV z ∧ ZnIn W W.heap.size z := by
  obtain ⟨nm, first, A, chs, c, e, hz⟩ := zone_open hv h
  exact ⟨⟨nm, first, A, c, chs⟩, e, hz.row, hz.name, hz.len, hz.fit⟩
end Go.Proofs.YtoaflcnphijhpaaGreatDoor
