/- HrPlain, HrArg -/
import Derived.Test.YtabidjmmgnkhkaaGreatDoorGZoneArg
/- Opening hours, plain. -/
namespace Go.Proofs.YtabidjmmgnkhkaaGreatDoor
open Go Go.RowKit
set_option linter.unusedVariables false
structure Sp where
 a : Int
 b : Int
def sp0 : Sp := ⟨0, 0⟩
def spF (s : Sp) : List Value := [.int .i64 s.a, .int .i64 s.b]
theorem spF_len (s : Sp) : (spF s).length = 2 := rfl
structure Wd where
 A : Option Addr
 c : Nat
 l : List Sp
def wd0 : Wd := ⟨none, 0, []⟩
def wdV (x : Wd) : Value := .slice x.A x.l.length x.c
structure HX where
 t : FE
 d : Wd
def hx0 : HX := ⟨fe0, wd0⟩
def hxF (x : HX) : List Value := feF x.t ++ [wdV x.d]
theorem hxF_len (x : HX) : (hxF x).length = 6 := by unfold hxF; rw [List.length_append, feF_len]; rfl
structure Hr where
 w0 : Wd
 w1 : Wd
 w2 : Wd
 w3 : Wd
 w4 : Wd
 w5 : Wd
 w6 : Wd
 A : Option Addr
 c : Nat
 ex : List HX
def Hr.wk (h : Hr) (i : Nat) : Wd := [h.w0, h.w1, h.w2, h.w3, h.w4, h.w5, h.w6].getD i wd0
def hrL (h : Hr) : List Value := [wdV h.w0, wdV h.w1, wdV h.w2, wdV h.w3, wdV h.w4, wdV h.w5, wdV h.w6, .slice h.A h.ex.length h.c]
structure SpansOk (l : List Sp) : Prop where
 ln : l.length ≤ 8
 rg : ∀ i, i < l.length → 0 ≤ (l.getD i sp0).a ∧ (l.getD i sp0).a < (l.getD i sp0).b ∧ (l.getD i sp0).b ≤ 86400000
 inc : ∀ i, 0 < i → i < l.length → (l.getD (i - 1) sp0).b ≤ (l.getD i sp0).a
structure HrOk (h : Hr) : Prop where
 wk : ∀ i, i < 7 → SpansOk (h.wk i).l
 ln : h.ex.length ≤ 10
 ex : ∀ i, i < h.ex.length → FeGood (h.ex.getD i hx0).t ∧ SpansOk (h.ex.getD i hx0).d.l
open Classical in
noncomputable def Hr.parts (h : Hr) (day : Int) : Wd := match h.ex.find? (fun x => decide (memF x.t day)) with | some x => x.d | none => h.wk ((day - 1) % 7).toNat
theorem getD_hx {l : List HX} {i : Nat} (h : i < l.length) : l.getD i hx0 ∈ l := by
 rw [List.getD_eq_getElem?_getD, List.getElem?_eq_getElem h]
 exact List.getElem_mem h
theorem hx_find {P : HX → Bool} : ∀ (l : List HX) (k : Nat), k < l.length → (∀ i, i < k → P (l.getD i hx0) = false) → P (l.getD k hx0) = true → l.find? P = some (l.getD k hx0)
 | [], k, h, _, _ => absurd h (Nat.not_lt_zero k)
 | x :: r, 0, _, _, h => by
  have h' : P x = true := h
  rw [List.find?_cons_of_pos h']; rfl
 | x :: r, k + 1, hk, ha, h => by
  have h0 : P x = false := ha 0 (by omega)
  rw [List.find?_cons_of_neg (by rw [h0]; decide)]
  exact hx_find r k (by simpa using hk) (fun i hi => ha (i + 1) (by omega)) h
theorem hx_none {P : HX → Bool} (l : List HX) (ha : ∀ i, i < l.length → P (l.getD i hx0) = false) : l.find? P = none := by
 rw [List.find?_eq_none]
 intro x hx
 obtain ⟨i, hi, rfl⟩ := List.getElem_of_mem hx
 have := ha i hi
 rw [List.getD_eq_getElem?_getD, List.getElem?_eq_getElem hi] at this
 simpa using this
theorem parts_ex {h : Hr} {day : Int} (k : Nat) (hk : k < h.ex.length) (ha : ∀ i, i < k → ¬ memF (h.ex.getD i hx0).t day) (hm : memF (h.ex.getD k hx0).t day) : h.parts day = (h.ex.getD k hx0).d := by
 classical
 unfold Hr.parts
 rw [hx_find h.ex k hk (fun i hi => decide_eq_false (ha i hi)) (decide_eq_true hm)]
theorem parts_wk {h : Hr} {day : Int} (ha : ∀ i, i < h.ex.length → ¬ memF (h.ex.getD i hx0).t day) : h.parts day = h.wk ((day - 1) % 7).toNat := by
 classical
 unfold Hr.parts
 rw [hx_none h.ex (fun i hi => decide_eq_false (ha i hi))]
theorem parts_ok {h : Hr} (ok : HrOk h) (day : Int) : SpansOk (h.parts day).l := by
 classical
 unfold Hr.parts
 cases e : h.ex.find? (fun x => decide (memF x.t day)) with
 | none => exact ok.wk _ (by omega)
 | some x =>
  obtain ⟨i, hi, rfl⟩ := List.getElem_of_mem (List.mem_of_find?_eq_some e)
  have := (ok.ex i hi).2
  rw [List.getD_eq_getElem?_getD, List.getElem?_eq_getElem hi] at this
  exact this
def InSp (l : List Sp) (ms : Int) : Prop := ∃ i, i < l.length ∧ (l.getD i sp0).a ≤ ms ∧ ms < (l.getD i sp0).b
def OpenAt (h : Hr) (first : Int) (chs : List Chg) (t : Int) : Prop := DayIn ((t + offAt first chs t) / 86400000) ∧ InSp (h.parts ((t + offAt first chs t) / 86400000)).l ((t + offAt first chs t) % 86400000)
theorem zone_sorted {nm : ByteArray} {first : Int} {chs : List Chg} (h : ZoneOk nm first chs) : Sorted chs := fun i h0 hi => (h.2.2.2 i hi).2.2.2 h0
theorem seg_same {chs : List Chg} (hs : Sorted chs) {t u : Int} (htu : t ≤ u) (h : seg chs t = chs.length ∨ u < (chs.getD (seg chs t) chg0).a) : seg chs u = seg chs t :=
 seg_eq hs _ (seg_le chs t) u ⟨(inSeg_seg chs t).1.imp_right fun h => Int.le_trans h htu, h⟩
theorem open_in {h : Hr} {first : Int} {chs : List Chg} (hs : Sorted chs) {at_ t day mid : Int} (hday : day = (at_ + offAt first chs at_) / 86400000) (hmid : mid = day * 86400000 - offAt first chs at_) (h1 : at_ ≤ t) (h2 : t < mid + 86400000) (h3 : seg chs at_ = chs.length ∨ t < (chs.getD (seg chs at_) chg0).a) :
  OpenAt h first chs t ↔ DayIn day ∧ InSp (h.parts day).l (t - mid) := by
 have e1 : offAt first chs t = offAt first chs at_ := by unfold offAt; rw [seg_same hs h1 h3]
 unfold OpenAt
 rw [e1]
 generalize offAt first chs at_ = o at *
 have e2 : (t + o) / 86400000 = day := by omega
 have e3 : (t + o) % 86400000 = t - mid := by omega
 rw [e2, e3]
theorem mid_le {at_ o day mid : Int} (hday : day = (at_ + o) / 86400000) (hmid : mid = day * 86400000 - o) : mid ≤ at_ ∧ at_ < mid + 86400000 := by omega
structure Left (P : Int → Prop) (mid at_ next : Int) (l : List Sp) (i : Nat) (q : Int) : Prop where
 lo : at_ ≤ q
 hi : q ≤ next
 be : q = at_ ∨ (0 < i ∧ q ≤ mid + (l.getD (i - 1) sp0).b)
 iff : ∀ t, q ≤ t → t < next → (P t ↔ ∃ j, i ≤ j ∧ j < l.length ∧ mid + (l.getD j sp0).a ≤ t ∧ t < mid + (l.getD j sp0).b)
theorem Left.first {P : Int → Prop} {mid at_ next : Int} {l : List Sp} (hn : at_ ≤ next) (hP : ∀ t, at_ ≤ t → t < next → (P t ↔ InSp l (t - mid))) : Left P mid at_ next l 0 at_ :=
 ⟨by omega, hn, .inl rfl, fun t h1 h2 => (hP t h1 h2).trans ⟨fun ⟨j, a, b, c⟩ => ⟨j, by omega, a, by omega, by omega⟩, fun ⟨j, _, a, b, c⟩ => ⟨j, a, by omega, by omega⟩⟩⟩
theorem spans_le {l : List Sp} (ok : SpansOk l) : ∀ (i d : Nat), i + d < l.length → (l.getD i sp0).a ≤ (l.getD (i + d) sp0).a := by
 intro i d
 induction d with
 | zero => intro h; exact Int.le_refl _
 | succ d ih =>
  intro h
  have h1 := ih (by omega)
  have h2 := ok.inc (i + (d + 1)) (by omega) h
  have h3 := ok.rg (i + d) (by omega)
  rw [show i + (d + 1) - 1 = i + d from by omega] at h2
  omega
theorem Left.skip {P : Int → Prop} {mid at_ next : Int} {l : List Sp} {i : Nat} {q : Int} (h : Left P mid at_ next l i q) (ok : SpansOk l) (hi : i < l.length) (he : ¬ max (mid + (l.getD i sp0).a) at_ < min (mid + (l.getD i sp0).b) next) : Left P mid at_ next l (i + 1) q := by
 have hr := ok.rg i hi
 refine ⟨h.lo, h.hi, ?_, fun t h1 h2 => (h.iff t h1 h2).trans ⟨fun ⟨j, a, b, c, d⟩ => ⟨j, ?_, b, c, d⟩, fun ⟨j, a, b, c⟩ => ⟨j, by omega, b, c⟩⟩⟩
 ·rcases h.be with e | ⟨e, f⟩
  ·exact .inl e
  ·have := ok.inc i e hi
   exact .inr ⟨by omega, by rw [Nat.add_sub_cancel]; omega⟩
 ·rcases Nat.lt_or_ge i j with g | g
  ·omega
  ·obtain rfl : j = i := by omega
   have := h.lo
   omega
theorem Left.take {P : Int → Prop} {mid at_ next : Int} {l : List Sp} {i : Nat} {q : Int} (h : Left P mid at_ next l i q) (ok : SpansOk l) (hi : i < l.length) (he : max (mid + (l.getD i sp0).a) at_ < min (mid + (l.getD i sp0).b) next) :
  q ≤ max (mid + (l.getD i sp0).a) at_ ∧ (∀ t, q ≤ t → t < max (mid + (l.getD i sp0).a) at_ → ¬ P t) ∧ (∀ t, max (mid + (l.getD i sp0).a) at_ ≤ t → t < min (mid + (l.getD i sp0).b) next → P t) ∧ Left P mid at_ next l (i + 1) (min (mid + (l.getD i sp0).b) next) := by
 have hr := ok.rg i hi
 have hq : q ≤ max (mid + (l.getD i sp0).a) at_ := by
  rcases h.be with e | ⟨e, f⟩
  ·omega
  ·have := ok.inc i e hi
   omega
 have hlo := h.lo
 refine ⟨hq, fun t h1 h2 hp => ?_, fun t h1 h2 => ?_, ?_, ?_, ?_, fun t h1 h2 => ?_⟩
 ·obtain ⟨j, a, b, c, d⟩ := (h.iff t h1 (by omega)).1 hp
  have := spans_le ok i (j - i) (by omega)
  rw [show i + (j - i) = j from by omega] at this
  omega
 ·exact (h.iff t (by omega) (by omega)).2 ⟨i, by omega, hi, by omega, by omega⟩
 ·omega
 ·omega
 ·exact .inr ⟨by omega, by rw [Nat.add_sub_cancel]; omega⟩
 ·refine (h.iff t (by omega) h2).trans ⟨fun ⟨j, a, b, c, d⟩ => ⟨j, ?_, b, c, d⟩, fun ⟨j, a, b, c⟩ => ⟨j, by omega, b, c⟩⟩
  rcases Nat.lt_or_ge i j with g | g
  ·omega
  ·obtain rfl : j = i := by omega
   omega
theorem Left.done {P : Int → Prop} {mid at_ next : Int} {l : List Sp} {i : Nat} {q : Int} (h : Left P mid at_ next l i q) (hi : l.length ≤ i) : ∀ t, q ≤ t → t < next → ¬ P t := fun t h1 h2 hp => by
 obtain ⟨j, a, b, _⟩ := (h.iff t h1 h2).1 hp
 omega
theorem cntW_none {P : Int → Prop} {a : Int} : ∀ (n : Nat), (∀ t, a ≤ t → t < a + n → ¬ P t) → cntW P a n = 0
 | 0, _ => rfl
 | n + 1, h => by rw [cntW_no (h _ (by omega) (by omega))]; exact cntW_none n fun t h1 h2 => h t h1 (by omega)
theorem cntW_all {P : Int → Prop} {a : Int} : ∀ (n : Nat), (∀ t, a ≤ t → t < a + n → P t) → cntW P a n = n
 | 0, _ => rfl
 | n + 1, h => by rw [cntW_yes (h _ (by omega) (by omega)), cntW_all n fun t h1 h2 => h t h1 (by omega)]
end Go.Proofs.YtabidjmmgnkhkaaGreatDoor
/- Opening hours that came in as an argument. -/
namespace Go.Proofs.YtabidjmmgnkhkaaGreatDoor
open Go.RowKit Go.Joins Go.ChangeShapes Go.WideShapes Go.Deep
set_option linter.unusedVariables false
structure WdIn (w : World) (B : Nat) (x : Wd) : Prop where
 row : Row w B x.A (x.l.flatMap spF)
 ln : x.l.length ≤ maxLen
 fit : ∀ s ∈ x.l, I64 s.a ∧ I64 s.b
theorem WdIn.next {w w' : World} {B B' : Nat} {x : Wd} (h : WdIn w B x) (hb : Below B w w') (hB : B ≤ B') : WdIn w' B' x := ⟨(h.row.below hb).more hB, h.ln, h.fit⟩
structure HxIn (w : World) (B : Nat) (x : HX) : Prop where
 fe : FeIn w B x.t
 d : WdIn w B x.d
structure HrIn (w : World) (B : Nat) (h : Hr) : Prop where
 wk : ∀ i, i < 7 → WdIn w B (h.wk i)
 row : Row w B h.A (h.ex.flatMap hxF)
 ln : h.ex.length ≤ maxLen
 ex : ∀ i, i < h.ex.length → HxIn w B (h.ex.getD i hx0)
theorem HrIn.next {w w' : World} {B B' : Nat} {h : Hr} (k : HrIn w B h) (hb : Below B w w') (hB : B ≤ B') : HrIn w' B' h :=
 ⟨fun i hi => (k.wk i hi).next hb hB, (k.row.below hb).more hB, k.ln, fun i hi => ⟨(k.ex i hi).fe.next hb hB, (k.ex i hi).d.next hb hB⟩⟩
def hrV (h : Hr) : Value := .agg #[wdV h.w0, wdV h.w1, wdV h.w2, wdV h.w3, wdV h.w4, wdV h.w5, wdV h.w6, .slice h.A h.ex.length h.c]
section
variable {H : Type} {enc : TypeId × Value → H} {W : World}
set_option maxRecDepth 100000 in
theorem sp_trod {n : Nat} {cs : List Value} {y : DataW H × List MemPlace} (h : DataW.trod enc Tryz.prog W 0 (fun _ => true) true n 34 cs = some y) : ∃ x : Sp, cs = spF x ∧ I64 x.a ∧ I64 x.b := by
 obtain ⟨xs, m, _, _, hlen, hxl, hf⟩ := DataW.trod_struct Tryz.underlying34 h
 have hC : Tryz.prog.cellsOf 34 = 2 := by kernel_rfl
 rw [hC] at hlen
 have e0 : Tryz.prog.cellsOf 3 = 1 := by kernel_rfl
 match cs, hlen with
 | [c0, c1], _ =>
  have h0 := hf 0 _ rfl
  have h1 := hf 1 _ rfl
  match xs, hxl with
  | [x0, x1], _ =>
   simp [e0] at h0 h1
   obtain ⟨k, ek, _, wk⟩ := DataW.trod_int Tryz.underlying3 h0
   obtain ⟨a, ea, _, wa⟩ := DataW.trod_int Tryz.underlying3 h1
   simp at ek ea
   subst ek ea
   exact ⟨⟨k, a⟩, rfl, bounds_i64 wk, bounds_i64 wa⟩
set_option maxRecDepth 100000 in
theorem wd_trod {n : Nat} {v : Value} {y : DataW H × List MemPlace} (h : DataW.trod enc Tryz.prog W 0 (fun _ => true) true n 28 [v] = some y) : ∃ x : Wd, v = wdV x ∧ WdIn W W.heap.size x := by
 obtain ⟨A, xs, c, e, k1, k2, row, fit⟩ := list_trod sp0 spF_len (by omega) (Fit := fun x => I64 x.a ∧ I64 x.b) Tryz.underlying28 (show Tryz.prog.cellsOf 34 = 2 by kernel_rfl) (fun n cs y hy => sp_trod hy) h
 exact ⟨⟨A, c, xs⟩, e, row, by show xs.length ≤ maxLen; omega, fit⟩
set_option maxRecDepth 100000 in
theorem hx_trod {n : Nat} {cs : List Value} {y : DataW H × List MemPlace} (h : DataW.trod enc Tryz.prog W 0 (fun _ => true) true n 153 cs = some y) : ∃ x : HX, cs = hxF x ∧ HxIn W W.heap.size x := by
 obtain ⟨xs, m, _, _, hlen, hxl, hf⟩ := DataW.trod_struct Tryz.underlying153 h
 have hC : Tryz.prog.cellsOf 153 = 6 := by kernel_rfl
 rw [hC] at hlen
 have e0 : Tryz.prog.cellsOf 57 = 5 := by kernel_rfl
 have e1 : Tryz.prog.cellsOf 28 = 1 := by kernel_rfl
 match cs, hlen with
 | [c0, c1, c2, c3, c4, c5], _ =>
  have h0 := hf 0 _ rfl
  have h1 := hf 1 _ rfl
  match xs, hxl with
  | [x0, x1], _ =>
   simp [e0, e1] at h0 h1
   obtain ⟨t, e, ht⟩ := fe_of_trod _ m _ _ (Nat.lt_succ_self _) h0
   obtain ⟨d, e2, hd⟩ := wd_trod h1
   refine ⟨⟨t, d⟩, ?_, ht, hd⟩
   show [c0, c1, c2, c3, c4, c5] = feF t ++ [wdV d]
   rw [← e, ← e2]; rfl
set_option maxRecDepth 100000 in
theorem hr_trod {n : Nat} {cs : List Value} {y : DataW H × List MemPlace} (h : DataW.trod enc Tryz.prog W 0 (fun _ => true) true n 32 cs = some y) : ∃ x : Hr, cs = hrL x ∧ HrIn W W.heap.size x := by
 obtain ⟨xs, m, _, _, hlen, hxl, hf⟩ := DataW.trod_struct Tryz.underlying32 h
 have hC : Tryz.prog.cellsOf 32 = 8 := by kernel_rfl
 rw [hC] at hlen
 have e0 : Tryz.prog.cellsOf 29 = 7 := by kernel_rfl
 have e1 : Tryz.prog.cellsOf 30 = 1 := by kernel_rfl
 have e2 : Tryz.prog.cellsOf 28 = 1 := by kernel_rfl
 match cs, hlen with
 | [c0, c1, c2, c3, c4, c5, c6, c7], _ =>
  have h0 := hf 0 _ rfl
  have h1 := hf 1 _ rfl
  match xs, hxl with
  | [x0, x1], _ =>
   simp [e0, e1] at h0 h1
   obtain ⟨ys, m2, _, _, _, hyl, hg⟩ := DataW.trod_array Tryz.underlying29 h0
   match ys, hyl with
   | [y0, y1, y2, y3, y4, y5, y6], _ =>
    have g0 := hg 0 (by omega)
    have g1 := hg 1 (by omega)
    have g2 := hg 2 (by omega)
    have g3 := hg 3 (by omega)
    have g4 := hg 4 (by omega)
    have g5 := hg 5 (by omega)
    have g6 := hg 6 (by omega)
    simp [e2] at g0 g1 g2 g3 g4 g5 g6
    obtain ⟨d0, rfl, k0⟩ := wd_trod g0
    obtain ⟨d1, rfl, k1⟩ := wd_trod g1
    obtain ⟨d2, rfl, k2⟩ := wd_trod g2
    obtain ⟨d3, rfl, k3⟩ := wd_trod g3
    obtain ⟨d4, rfl, k4⟩ := wd_trod g4
    obtain ⟨d5, rfl, k5⟩ := wd_trod g5
    obtain ⟨d6, rfl, k6⟩ := wd_trod g6
    obtain ⟨A, ex, c, rfl, q1, q2, row, kids⟩ := list_trod hx0 hxF_len (by omega) (Fit := fun x => HxIn W W.heap.size x) Tryz.underlying30 (show Tryz.prog.cellsOf 153 = 6 by kernel_rfl) (fun n cs y hy => hx_trod hy) h1
    refine ⟨⟨d0, d1, d2, d3, d4, d5, d6, A, c, ex⟩, rfl, fun i hi => ?_, row, by show ex.length ≤ maxLen; omega, fun i hi => kids _ (getD_hx hi)⟩
    match i, hi with
    | 0, _ => exact k0
    | 1, _ => exact k1
    | 2, _ => exact k2
    | 3, _ => exact k3
    | 4, _ => exact k4
    | 5, _ => exact k5
    | 6, _ => exact k6
end
end Go.Proofs.YtabidjmmgnkhkaaGreatDoor
