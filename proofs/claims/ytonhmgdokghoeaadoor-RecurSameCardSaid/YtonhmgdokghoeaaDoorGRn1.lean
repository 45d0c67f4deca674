/- Rn1, Rn2a, Rn2, Rn3, Rn5, Rn4, Rn6, Rn7 -/
import Derived.Sort.OwnSortedInts
import Derived.Lib.Join
import Derived.Deep.DeepCutAuto
import Derived.Deep.CutBlock
import Derived.Test.YtonhmgdokghoeaaDoorGRec6
import Derived.Test.YtonhmgdokghoeaaDoorGSlice1
import Derived.Test.YtonhmgdokghoeaaDoorGMem
import Derived.Test.YtonhmgdokghoeaaDoorGRnPl
import Derived.Test.YtonhmgdokghoeaaDoorGShelf1
import Derived.Test.YtonhmgdokghoeaaDoorGRec1
import Derived.Test.YtonhmgdokghoeaaDoorGFlow
import Derived.Test.YtonhmgdokghoeaaDoorGPlainItoa
import Derived.Test.YtonhmgdokghoeaaDoorGName1
import Derived.Test.YtonhmgdokghoeaaDoorGLaid
/- Contracts of recur.checkRange and recur.Days, the error told. -/
namespace Go.Proofs.YtonhmgdokghoeaaDoor
open Go.RowKit
set_option linter.unusedVariables false

/-- what checkRange says -/
def crE (fr a b : Int) : Int := if ¬ (-4000000 ≤ a ∧ a ≤ 4000000) ∨ ¬ (-4000000 ≤ b ∧ b ≤ 4000000) then 3 else if b < a then 9 else if fr + 40000 < b ∨ 3000 < b - a then 2 else 0
set_option maxHeartbeats 4000000 in
theorem crange_eq (r : Rc) (a b : Int) (w : World) (hf1 : -4000000 ≤ r.fr) (hf2 : r.fr ≤ 4000000) : Calls Tryd.prog 10 #[r.val, .int .i64 a, .int .i64 b] w fun e w' => e = .returned (.int .i64 (crE r.fr a b)) ∧ Below w.heap.size w w' := by
  have HX := Lib.hid (Box.new w 24 r.cells)
  have HB := Lib.hid (below_alloc1 w (Obj.cells r.cells 24))
  by_cases a5 : -4000000 ≤ a ∧ a ≤ 4000000
  case neg =>
    have a5' : a < -4000000 ∨ 4000000 < a := by omega
    have HE : Hid (crE r.fr a b = 3) := by unfold Hid crE; rw [if_pos (.inl a5)]
    clear a5
    go_enter Tryd.func10, Tryd.ntmps10
    go_wp2_with (go_at_call 16; refine (is_no _ _ a5').mono ?_; rintro e w' ⟨rfl, rfl⟩)
    go_ret
    exact ⟨by rw [HE.out]; rfl, HB.out⟩
  have HIf := Lib.hid (fun w => is_yes a w a5.1 a5.2)
  by_cases a6 : -4000000 ≤ b ∧ b ≤ 4000000
  case neg =>
    have a6' : b < -4000000 ∨ 4000000 < b := by omega
    have A5 := Lib.hid a5
    have HE : Hid (crE r.fr a b = 3) := by unfold Hid crE; rw [if_pos (.inr a6)]
    clear a6 a5
    go_enter Tryd.func10, Tryd.ntmps10
    go_wp2_with (first
      | (go_at_call 16; ((with_reducible refine (HIf.out _).mono ?_)); rintro e w' ⟨rfl, rfl⟩)
      | (go_at_call 16; ((with_reducible refine (is_no b _ a6').mono ?_)); rintro e w' ⟨rfl, rfl⟩))
    go_ret
    exact ⟨by rw [HE.out]; rfl, HB.out⟩
  have HIu := Lib.hid (fun w => is_yes b w a6.1 a6.2)
  have k1 := a5.1
  have k2 := a5.2
  have k3 := a6.1
  have k4 := a6.2
  clear a5 a6
  by_cases a7 : b < a
  · have t7 : decide (b < a) = true := decide_eq_true a7
    have HE : Hid (crE r.fr a b = 9) := by unfold Hid crE; rw [if_neg (by omega), if_pos a7]
    go_enter Tryd.func10, Tryd.ntmps10
    go_wp2_with (first
      | (go_at_call 16; ((with_reducible refine (HIf.out _).mono ?_)); rintro e w' ⟨rfl, rfl⟩)
      | (go_at_call 16; ((with_reducible refine (HIu.out _).mono ?_)); rintro e w' ⟨rfl, rfl⟩))
    go_ret
    exact ⟨by rw [HE.out]; rfl, HB.out⟩
  have t7 : decide (b < a) = false := decide_eq_false a7
  by_cases a8 : r.fr + 40000 < b
  · have t8 : decide (r.fr + 40000 < b) = true := decide_eq_true a8
    have HE : Hid (crE r.fr a b = 2) := by unfold Hid crE; rw [if_neg (by omega), if_neg a7, if_pos (.inl a8)]
    go_enter Tryd.func10, Tryd.ntmps10
    go_wp2_with (first
      | (go_at_call 16; ((with_reducible refine (HIf.out _).mono ?_)); rintro e w' ⟨rfl, rfl⟩)
      | (go_at_call 16; ((with_reducible refine (HIu.out _).mono ?_)); rintro e w' ⟨rfl, rfl⟩))
    go_ret
    exact ⟨by rw [HE.out]; rfl, HB.out⟩
  have t8 : decide (r.fr + 40000 < b) = false := decide_eq_false a8
  by_cases a9 : 3000 < b - a
  · have t9 : decide (3000 < b - a) = true := decide_eq_true a9
    have HE : Hid (crE r.fr a b = 2) := by unfold Hid crE; rw [if_neg (by omega), if_neg a7, if_pos (.inr a9)]
    go_enter Tryd.func10, Tryd.ntmps10
    go_wp2_with (first
      | (go_at_call 16; ((with_reducible refine (HIf.out _).mono ?_)); rintro e w' ⟨rfl, rfl⟩)
      | (go_at_call 16; ((with_reducible refine (HIu.out _).mono ?_)); rintro e w' ⟨rfl, rfl⟩))
    go_ret
    exact ⟨by rw [HE.out]; rfl, HB.out⟩
  have t9 : decide (3000 < b - a) = false := decide_eq_false a9
  have HE : Hid (crE r.fr a b = 0) := by unfold Hid crE; rw [if_neg (by omega), if_neg a7, if_neg (by omega)]
  go_enter Tryd.func10, Tryd.ntmps10
  go_wp2_with (first
    | (go_at_call 16; ((with_reducible refine (HIf.out _).mono ?_)); rintro e w' ⟨rfl, rfl⟩)
    | (go_at_call 16; ((with_reducible refine (HIu.out _).mono ?_)); rintro e w' ⟨rfl, rfl⟩))
  go_ret
  exact ⟨by rw [HE.out]; rfl, HB.out⟩

/-- what Days says -/
def DaysQ (r : Rc) (a b : Int) (w : World) (e : Ending) (w' : World) : Prop := Below w.heap.size w w' ∧ ((crE r.fr a b = 0 ∧ ∃ v, e = .returned (.tuple #[v, .int .i64 0]) ∧ w'.ownsRow w.heap.size 3 1 v (r.days a b).length (ints (r.days a b))) ∨ (crE r.fr a b ≠ 0 ∧ e = .returned (.tuple #[.slice none 0 0, .int .i64 (crE r.fr a b)])))
set_option maxHeartbeats 1000000 in
set_option maxRecDepth 100000 in
theorem Days_all (r : Rc) (a b : Int) (w : World) (hr : RcIn w r) (hf : RcFit r) (ok : RcOk r) :
    Calls Tryd.prog 4 #[r.val, .int .i64 a, .int .i64 b] w (DaysQ r a b w) := by
  have HB := Lib.hid (below_alloc1 w (Obj.cells r.cells 24))
  have HX := Lib.hid (Box.new w 24 r.cells)
  have HR := Lib.hid (hr.next HB.out)
  have HF := Lib.hid hf
  have HO := Lib.hid ok
  clear hr hf ok
  obtain ⟨E, hE⟩ : ∃ E, E = crE r.fr a b := ⟨_, rfl⟩
  have HE := Lib.hid hE
  have hCr := Lib.hid (fun W => crange_eq r a b W HO.out.f1.1 HO.out.f1.2)
  rw [← hE] at hCr
  clear hE
  go_enter Tryd.func4, Tryd.ntmps4
  go_wp2_with fail
  generalize w.alloc (Obj.cells r.cells 24) = W0 at *
  obtain ⟨g, hg⟩ : ∃ g, g = w.heap.size := ⟨_, rfl⟩
  rw [← hg] at HX
  rw [← hg]
  have HG := Lib.hid hg
  clear hg
  refine (rcheck_any r _ HR.out HF.out).mono ?_
  rintro e w1 ⟨E1, rfl, hE1, hb1⟩
  obtain rfl : E1 = 0 := hE1.2 HO.out
  clear hE1
  replace HX := Lib.hid (HX.out.below hb1)
  replace HB := Lib.hid (below_then HB.out hb1)
  replace HR := Lib.hid (HR.out.next hb1)
  clear hb1
  obtain ⟨x0, x1, x2, x3, x4, x5, x6, x7⟩ := rcells HX.out
  go_wp2_with fail
  refine (hCr.out _).mono ?_
  rintro e w2 ⟨rfl, hb1⟩
  clear x0 x1 x2 x3 x4 x5 x6 x7
  replace HX := Lib.hid (HX.out.below hb1)
  replace HB := Lib.hid (below_then HB.out hb1)
  replace HR := Lib.hid (HR.out.next hb1)
  clear hb1
  by_cases h0 : E = 0
  case neg =>
    have t1 : (E != 0) = true := by rw [bne_iff_ne]; exact h0
    have H0 := Lib.hid h0
    clear h0
    go_wp2_with fail
    go_ret2
    exact ⟨HB.out, .inr ⟨by rw [← HE.out]; exact H0.out, by rw [← HE.out]; rfl⟩⟩
  subst h0
  have hcr : (-4000000 ≤ a ∧ a ≤ 4000000) ∧ (-4000000 ≤ b ∧ b ≤ 4000000) ∧ a ≤ b ∧ b ≤ r.fr + 40000 ∧ b - a ≤ 3000 := by
    have h := HE.out
    unfold crE at h
    by_cases c1 : ¬ (-4000000 ≤ a ∧ a ≤ 4000000) ∨ ¬ (-4000000 ≤ b ∧ b ≤ 4000000)
    · rw [if_pos c1] at h; omega
    rw [if_neg c1] at h
    by_cases c2 : b < a
    · rw [if_pos c2] at h; omega
    rw [if_neg c2] at h
    by_cases c3 : r.fr + 40000 < b ∨ 3000 < b - a
    · rw [if_pos c3] at h; omega
    omega
  have HDy := Lib.hid (fun W hR => days_any r a b W hR HO.out hcr.1.1 hcr.2.1.2 hcr.2.2.1 hcr.2.2.2.1)
  clear hcr
  obtain ⟨x0, x1, x2, x3, x4, x5, x6, x7⟩ := rcells HX.out
  go_wp2_with fail
  refine (HDy.out _ HR.out).mono ?_
  rintro e w3 ⟨v, rfl, hown, hb1⟩
  clear x0 x1 x2 x3 x4 x5 x6 x7
  go_wp2_with fail
  go_ret2
  exact ⟨below_then HB.out hb1, .inl ⟨HE.out.symm, v, rfl, own_lower hown HB.out.size⟩⟩
end Go.Proofs.YtonhmgdokghoeaaDoor

/- Contract of slices.Clone at []int, empty slices too. -/
namespace Go.Proofs.YtonhmgdokghoeaaDoor
open Go Go.RowKit
set_option linter.unusedVariables false

set_option maxHeartbeats 2000000 in
set_option maxRecDepth 100000 in
theorem clone_any (A : Option Addr) (c : Nat) (l : List Int) (w : World) (hr : Row w w.heap.size A (ints l)) (hn : l.length ≤ 1000000) :
    Calls Tryd.prog 25 #[.slice A l.length c] w fun e w' => ∃ v, e = .returned v ∧ w'.ownsRow w.heap.size 3 1 v l.length (ints l) ∧ Below w.heap.size w w' := by
  obtain ⟨i0, hi0, hz0, hz1, hz2⟩ := info_parts infoInt2
  have hil := Lib.hid (ints_length l)
  cases A with
  | none =>
    have h0 : l = [] := by
      rcases hr with h | ⟨b, o, e, _⟩
      · cases l with
        | nil => rfl
        | cons x l => simp [ints] at h
      · cases e
    subst h0
    have hnil : ∀ w, (binOp .eql 22 (.slice none 0 c) (.slice none 0 0)).run Tryd.prog w = .ok (.bool true) w := fun w => Lib.run_eql_slice_nil w 22 _ _ _ _ _ _ Tryd.underlying22
    go_enter Tryd.func25, Tryd.ntmps25
    go_wp2_with fail
    go_ret
    exact ⟨_, rfl, World.ownsRow_nil _ _ _ _, Below.refl _ _⟩
  | some ad =>
    have HN : Hid (∀ j u, (ints l)[j]? = some u → (w.alloc (.cells #[] 3)).cell? (ad.add j) = some u) := newsRow (hr.alloc _)
    have HO : Hid ((w.alloc (.cells #[] 3)).ownsRow w.heap.size 3 1 (.slice (some ⟨w.heap.size, 0, none⟩) 0 0) 0 []) := World.ownsRow_made w #[] 0 (Nat.le_refl _) (by unfold maxLen; omega) (by simp)
    clear hr
    have hnil : ∀ w, (binOp .eql 22 (.slice (some ad) l.length c) (.slice none 0 0)).run Tryd.prog w = .ok (.bool false) w := fun w => Lib.run_eql_slice_nil w 22 _ _ _ _ _ _ Tryd.underlying22
    go_enter Tryd.func25, Tryd.ntmps25
    go_wp2_with (at_builtin; refine wpList_append_own _ rfl (.tmp 5) (.tmp 6) 22 rfl w.heap.size 3 i0 (.int .i64 0) 1 8 Tryd.underlying22 hi0 hz0 hz1 hz2 rfl (by decide) _ 0 [] rfl HO.out ad l.length c (ints l) rfl ?c0 ?c1 ?c2 ?c3 ?c4 ?c5 ?_)
    case c0 => rw [hil.out]; omega
    case c1 => exact HN.out
    case c2 => exact ints_one l
    case c3 => simp only [maxLen]; omega
    case c4 => omega
    case c5 => simp
    intro v' w3 hown' hgrow _
    have hB : Below w.heap.size w w3 := (below_alloc1 w _).grown hgrow (by simp) (fun k hk => by simp [Value.ownBlock] at hk; omega)
    try simp only [Nat.zero_add, List.nil_append] at hown'
    clear hgrow
    go_wp2_with fail
    go_ret
    exact ⟨v', rfl, hown', hB⟩
end Go.Proofs.YtonhmgdokghoeaaDoor

/- Contract of recur.sorted. -/
namespace Go.Proofs.YtonhmgdokghoeaaDoor
open Go Go.RowKit Go.Sort
set_option linter.unusedVariables false

theorem below_grown1 {B : Nat} {w w1 w2 : World} {g : Nat} (h : Below B w w1) (hg : w1.grownBy w2 (some g)) (hB : B ≤ g) (hs : B ≤ w1.heap.size) : Below B w w2 :=
  ⟨hg.os.trans h.os, hg.tape.trans h.tape, hg.output.trans h.output, Nat.le_trans h.size hg.size, fun k hk => (hg.block k (by omega) (fun e => by injection e with e; omega)).trans (h.block k hk)⟩
/-- a list of integers of one's own -/
def SrtQ (l : List Int) (w : World) (e : Ending) (w' : World) : Prop := ∃ v, e = .returned v ∧ w'.ownsRow w.heap.size 3 1 v l.length (ints l) ∧ Below w.heap.size w w'
/-- the sort of a row of one's own -/
theorem sort_own (B : Nat) (v : Value) (l : List Int) (w : World) (hB : B ≤ w.heap.size) (hown : w.ownsRow B 3 1 v l.length (ints l)) (hl : l.length ≤ 1000000) :
    Calls Tryd.prog 26 #[v] w fun e w' => e = .returned (.tuple #[]) ∧ w'.ownsRow B 3 1 v (srt l).length (ints (srt l)) ∧ Below B w w' := by
  have h1 := hown.1
  rcases hown.2 with ⟨rfl, hn⟩ | ⟨g, cap, cur, rfl, hbb, hg, h2, h3, h4, h5⟩
  · have h0 : l = [] := List.eq_nil_of_length_eq_zero hn
    subst h0
    refine (slices_Sort_int_none none 0 w).mono ?_
    rintro e w' ⟨rfl, rfl⟩
    exact ⟨rfl, by rw [show srt [] = [] from by simp [srt]]; exact hown, Below.refl _ _⟩
  · have hcells : cur.toList.take l.length = l.map (Value.int .i64) := by simpa [ints] using h5
    have hlt : g < w.heap.size := (Array.getElem?_eq_some_iff.1 hg).1
    refine (slices_Sort_int g 0 cap l w (holds_of_blockI hg hcells) hlt (by omega)).mono ?_
    rintro e w' ⟨rfl, n, os, rfl⟩
    have hs := ownsRow_sortedI (w := w) (base := B) (g := g) (cap := cap) (n := n) (e := 3) (os := os) (ss := l) (ts := srt l) (srt_len l) hbb hg h2 h3 h4
    refine ⟨rfl, ?_, below_grown1 (Below.refl B w) (grownBy_sortedI _) hbb hB⟩
    rw [srt_len]
    exact hs
set_option maxHeartbeats 1000000 in
set_option maxRecDepth 100000 in
theorem sorted_any (A : Option Addr) (c : Nat) (l : List Int) (w : World) (hr : Row w w.heap.size A (ints l)) (hl : l.length ≤ 31) :
    Calls Tryd.prog 14 #[.slice A l.length c] w (SrtQ (srt l) w) := by
  have HC := Lib.hid (clone_any A c l w hr (by omega))
  have HS := Lib.hid (fun v W (hB : w.heap.size ≤ W.heap.size) (ho : W.ownsRow w.heap.size 3 1 v l.length (ints l)) => sort_own w.heap.size v l W hB ho (by omega))
  unfold SrtQ
  clear hr hl
  go_enter Tryd.func14, Tryd.ntmps14
  go_wp2_with fail
  refine HC.out.mono ?_
  rintro e w1 ⟨v, rfl, hown, hb⟩
  have HB := Lib.hid hb
  have HS1 := Lib.hid (HS.out v w1 hb.size hown)
  clear hown hb HC HS
  go_wp2_with fail
  refine HS1.out.mono ?_
  rintro e w2 ⟨rfl, hown, hb⟩
  have HO := Lib.hid hown
  have HB2 := Lib.hid (HB.out.trans hb)
  clear hown hb HS1
  go_wp2_with fail
  go_ret
  exact ⟨v, rfl, HO.out, HB2.out⟩
end Go.Proofs.YtonhmgdokghoeaaDoor

/- recur.Normal: the recurrence under way in memory. -/
namespace Go.Proofs.YtonhmgdokghoeaaDoor
open Go Go.RowKit
set_option linter.unusedVariables false

/-- a list of integers in a block of its own kind: neither g nor g' -/
def RowF (W : World) (g g' : Nat) (A : Option Addr) (l : List Int) : Prop := l = [] ∨ ∃ b o, A = some ⟨b, o, none⟩ ∧ b < W.heap.size ∧ b ≠ g ∧ b ≠ g' ∧ ∀ j v, (ints l)[j]? = some v → W.cell? ⟨b, o + j, none⟩ = some v
theorem RowF.row {W : World} {g g' : Nat} {A : Option Addr} {l : List Int} (h : RowF W g g' A l) : Row W W.heap.size A (ints l) := by
  rcases h with rfl | ⟨b, o, e, hb, _, _, hc⟩
  · exact .inl rfl
  · exact .inr ⟨b, o, e, hb, hc⟩
theorem RowF.of_row {W : World} {B g g' : Nat} {A : Option Addr} {l : List Int} (h : Row W B A (ints l)) (hB : B ≤ W.heap.size) (h1 : B ≤ g) (h2 : B ≤ g') : RowF W g g' A l := by
  by_cases h0 : l = []
  · exact .inl h0
  · obtain ⟨b, o, e, hb, hc⟩ := h.open_ (ints_ne l (List.length_pos_iff.2 h0))
    exact .inr ⟨b, o, e, by omega, by omega, by omega, hc⟩
theorem RowF.next {W W' : World} {g g' : Nat} {A : Option Addr} {l : List Int} (h : RowF W g g' A l) (hb : Below W.heap.size W W') : RowF W' g g' A l := by
  rcases h with h | ⟨b, o, e, h1, h2, h3, hc⟩
  · exact .inl h
  · exact .inr ⟨b, o, e, Nat.lt_of_lt_of_le h1 hb.size, h2, h3, fun j v hv => (hb.cell (p := ⟨b, o + j, none⟩) h1).trans (hc j v hv)⟩
theorem RowF.set_ {W : World} {g g' : Nat} {A : Option Addr} {l : List Int} (h : RowF W g g' A l) (q i : Nat) (v : Value) (hq : q = g ∨ q = g') : RowF (W.setCell ⟨q, i, none⟩ v) g g' A l := by
  rcases h with h | ⟨b, o, e, h1, h2, h3, hc⟩
  · exact .inl h
  · exact .inr ⟨b, o, e, by simpa using h1, h2, h3, fun j u hu => (cell_set1 (by rcases hq with rfl | rfl <;> omega)).trans (hc j u hu)⟩
theorem RowF.one {W : World} {g g' : Nat} (x : Int) (h1 : g < W.heap.size) (h2 : g' < W.heap.size) : RowF (W.alloc (.cells #[.int .i64 x] 3)) g g' (some ⟨W.heap.size, 0, none⟩) [x] :=
  .inr ⟨_, 0, rfl, by simp, by omega, by omega, fun j v hv => by
    have hb := (Box.new W 3 #[.int .i64 x]).cell j
    rw [Nat.zero_add]
    exact hb.trans (by simpa [ints] using hv)⟩
theorem RowF.own {W : World} {B g g' : Nat} {A : Option Addr} {n c : Nat} {l : List Int} (h : W.ownsRow B 3 1 (.slice A n c) n (ints l)) (hn : n = l.length) (h1 : g < B) (h2 : g' < B) : RowF W g g' A l := by
  subst hn
  by_cases h0 : 0 < l.length
  · obtain ⟨b, cap, hv, hbb, hlt⟩ := h.form h0
    have hA : A = some ⟨b, 0, none⟩ := by injection hv
    obtain ⟨b', o', e, hb', hc⟩ := (Row.of_own h).open_ (ints_ne l h0)
    rw [hA] at e
    injection e with e
    injection e with e1 e2 _
    subst e1 e2
    exact .inr ⟨b, 0, hA, hlt, by omega, by omega, hc⟩
  · exact .inl (List.eq_nil_of_length_eq_zero (by omega))
abbrev zeroRc : Array Value := #[.int .i64 0, .int .i64 0, .int .i64 0, .int .i64 0, .int .i64 0, .slice none 0 0, .slice none 0 0, .slice none 0 0]
/-- the recurrence n lies in block g; blocks gr, gm hold the result and a moment -/
structure NmB (w : World) (g gr gm : Nat) (m : Mm) (n : Rc) (W : World) : Prop where
  r1 : RowF W g gr n.A1 n.wd
  r2 : RowF W g gr n.A2 n.md
  r3 : RowF W g gr n.A3 n.mo
  fit : RcFit n
  bx : Box W g 24 n.cells
  br : Box W gr 24 zeroRc
  bm : Box W gm 41 m.cells
  bl : Below w.heap.size w W
  o1 : w.heap.size ≤ g
  o2 : w.heap.size ≤ gr
  n1 : gr ≠ g
  n2 : gm ≠ g
  n3 : gm ≠ gr
section
variable {w W : World} {g gr gm : Nat} {m : Mm} {n : Rc}
theorem NmB.next {W' : World} (h : NmB w g gr gm m n W) (hb : Below W.heap.size W W') : NmB w g gr gm m n W' :=
  ⟨h.r1.next hb, h.r2.next hb, h.r3.next hb, h.fit, h.bx.below hb, h.br.below hb, h.bm.below hb, below_then h.bl hb, h.o1, h.o2, h.n1, h.n2, h.n3⟩
theorem NmB.alloc (h : NmB w g gr gm m n W) (o : Obj) : NmB w g gr gm m n (W.alloc o) := h.next (below_alloc1 W o)
theorem NmB.set_ (h : NmB w g gr gm m n W) (i : Nat) (v : Value) (n' : Rc) (hc : n'.cells = n.cells.setIfInBounds i v) (r1 : RowF W g gr n'.A1 n'.wd) (r2 : RowF W g gr n'.A2 n'.md) (r3 : RowF W g gr n'.A3 n'.mo) (hf : RcFit n') :
    NmB w g gr gm m n' (W.setCell ⟨g, i, none⟩ v) :=
  ⟨r1.set_ g i v (.inl rfl), r2.set_ g i v (.inl rfl), r3.set_ g i v (.inl rfl), hf, by rw [hc]; exact h.bx.set_ i v, h.br.far (p := ⟨g, i, none⟩) h.n1 v, h.bm.far (p := ⟨g, i, none⟩) h.n2 v, h.bl.setCell (p := ⟨g, i, none⟩) h.o1 v, h.o1, h.o2, h.n1, h.n2, h.n3⟩
theorem fit_wd (hf : RcFit n) (A : Option Addr) (l : List Int) (c : Nat) (h1 : l.length ≤ c) (h2 : c ≤ maxLen) : RcFit { n with wd := l, A1 := A, c1 := c } := ⟨h1, h2, hf.l2, hf.m2, hf.l3, hf.m3⟩
theorem fit_md (hf : RcFit n) (A : Option Addr) (l : List Int) (c : Nat) (h1 : l.length ≤ c) (h2 : c ≤ maxLen) : RcFit { n with md := l, A2 := A, c2 := c } := ⟨hf.l1, hf.m1, h1, h2, hf.l3, hf.m3⟩
theorem fit_mo (hf : RcFit n) (A : Option Addr) (l : List Int) (c : Nat) (h1 : l.length ≤ c) (h2 : c ≤ maxLen) : RcFit { n with mo := l, A3 := A, c3 := c } := ⟨hf.l1, hf.m1, hf.l2, hf.m2, h1, h2⟩
theorem NmB.put_wd (h : NmB w g gr gm m n W) (A : Option Addr) (l : List Int) (c : Nat) (hr : RowF W g gr A l) (h1 : l.length ≤ c) (h2 : c ≤ maxLen) : NmB w g gr gm m { n with wd := l, A1 := A, c1 := c } (W.setCell ⟨g, 5, none⟩ (.slice A l.length c)) :=
  h.set_ 5 _ _ rfl hr h.r2 h.r3 (fit_wd h.fit A l c h1 h2)
theorem NmB.put_md (h : NmB w g gr gm m n W) (A : Option Addr) (l : List Int) (c : Nat) (hr : RowF W g gr A l) (h1 : l.length ≤ c) (h2 : c ≤ maxLen) : NmB w g gr gm m { n with md := l, A2 := A, c2 := c } (W.setCell ⟨g, 6, none⟩ (.slice A l.length c)) :=
  h.set_ 6 _ _ rfl h.r1 hr h.r3 (fit_md h.fit A l c h1 h2)
theorem NmB.put_mo (h : NmB w g gr gm m n W) (A : Option Addr) (l : List Int) (c : Nat) (hr : RowF W g gr A l) (h1 : l.length ≤ c) (h2 : c ≤ maxLen) : NmB w g gr gm m { n with mo := l, A3 := A, c3 := c } (W.setCell ⟨g, 7, none⟩ (.slice A l.length c)) :=
  h.set_ 7 _ _ rfl h.r1 h.r2 hr (fit_mo h.fit A l c h1 h2)
theorem NmB.put_un (h : NmB w g gr gm m n W) (x : Int) : NmB w g gr gm m { n with un := x } (W.setCell ⟨g, 0, none⟩ (.int .i64 x)) :=
  h.set_ 0 _ _ rfl h.r1 h.r2 h.r3 ⟨h.fit.l1, h.fit.m1, h.fit.l2, h.fit.m2, h.fit.l3, h.fit.m3⟩
theorem NmB.put_ev (h : NmB w g gr gm m n W) (x : Int) : NmB w g gr gm m { n with ev := x } (W.setCell ⟨g, 1, none⟩ (.int .i64 x)) :=
  h.set_ 1 _ _ rfl h.r1 h.r2 h.r3 ⟨h.fit.l1, h.fit.m1, h.fit.l2, h.fit.m2, h.fit.l3, h.fit.m3⟩
/-- a list of one number, laid and stored -/
theorem NmB.one_wd (h : NmB w g gr gm m n W) (x : Int) : NmB w g gr gm m { n with wd := [x], A1 := some ⟨W.heap.size, 0, none⟩, c1 := 1 } ((W.setCell ⟨g, 5, none⟩ (.slice (some ⟨W.heap.size, 0, none⟩) 1 1)).alloc (.cells #[.int .i64 x] 3)) := by
  rw [← World.setCell_alloc_past _ _ _ _ h.bx.lt]
  exact (h.alloc _).put_wd _ [x] 1 (RowF.one x h.bx.lt h.br.lt) (by simp) (by unfold maxLen; omega)
theorem NmB.one_md (h : NmB w g gr gm m n W) (x : Int) : NmB w g gr gm m { n with md := [x], A2 := some ⟨W.heap.size, 0, none⟩, c2 := 1 } ((W.setCell ⟨g, 6, none⟩ (.slice (some ⟨W.heap.size, 0, none⟩) 1 1)).alloc (.cells #[.int .i64 x] 3)) := by
  rw [← World.setCell_alloc_past _ _ _ _ h.bx.lt]
  exact (h.alloc _).put_md _ [x] 1 (RowF.one x h.bx.lt h.br.lt) (by simp) (by unfold maxLen; omega)
theorem NmB.one_mo (h : NmB w g gr gm m n W) (x : Int) : NmB w g gr gm m { n with mo := [x], A3 := some ⟨W.heap.size, 0, none⟩, c3 := 1 } ((W.setCell ⟨g, 7, none⟩ (.slice (some ⟨W.heap.size, 0, none⟩) 1 1)).alloc (.cells #[.int .i64 x] 3)) := by
  rw [← World.setCell_alloc_past _ _ _ _ h.bx.lt]
  exact (h.alloc _).put_mo _ [x] 1 (RowF.one x h.bx.lt h.br.lt) (by simp) (by unfold maxLen; omega)
theorem NmB.two (h : NmB w g gr gm m n W) (x y : Int) : NmB w g gr gm m { n with mo := [x], A3 := some ⟨W.heap.size, 0, none⟩, c3 := 1, md := [y], A2 := some ⟨W.heap.size + 1, 0, none⟩, c2 := 1 }
    ((((W.setCell ⟨g, 7, none⟩ (.slice (some ⟨W.heap.size, 0, none⟩) 1 1)).setCell ⟨g, 6, none⟩ (.slice (some ⟨W.heap.size + 1, 0, none⟩) 1 1)).alloc (.cells #[.int .i64 x] 3)).alloc (.cells #[.int .i64 y] 3)) := by
  have h1 := (h.one_mo x).one_md y
  rw [World.setCell_alloc_past _ _ _ _ (by simpa using h.bx.lt)] at h1
  have e : ((W.setCell ⟨g, 7, none⟩ (.slice (some ⟨W.heap.size, 0, none⟩) 1 1)).alloc (.cells #[.int .i64 x] 3)).heap.size = W.heap.size + 1 := by simp
  rw [e] at h1
  exact h1
theorem NmB.cvt (h : NmB w g gr gm m n W) (e x : Int) : NmB w g gr gm m { n with un := 2, ev := e, wd := [x], A1 := some ⟨W.heap.size, 0, none⟩, c1 := 1 }
    ((((W.setCell ⟨g, 0, none⟩ (.int .i64 2)).setCell ⟨g, 1, none⟩ (.int .i64 e)).setCell ⟨g, 5, none⟩ (.slice (some ⟨W.heap.size, 0, none⟩) 1 1)).alloc (.cells #[.int .i64 x] 3)) := by
  have h1 := ((h.put_un 2).put_ev e).one_wd x
  have e1 : ((W.setCell ⟨g, 0, none⟩ (.int .i64 2)).setCell ⟨g, 1, none⟩ (.int .i64 e)).heap.size = W.heap.size := by simp
  rw [e1] at h1
  exact h1
end
/-- the lists are filled in -/
structure Fil (r n : Rc) (f : Mm) : Prop where
  un : n.un = r.un
  ev : n.ev = r.ev
  fr : n.fr = r.fr
  co : n.co = r.co
  ut : n.ut = r.ut
  wd : n.wd = nWd r f
  md : n.md = nMd r f
  mo : n.mo = nMo r f
theorem noD_no {r : Rc} (h : ¬ r.wd.length + r.md.length = 0) : noD r = false := by unfold noD; exact decide_eq_false h
theorem noD_yes {r : Rc} (h : r.wd.length + r.md.length = 0) : noD r = true := by unfold noD; exact decide_eq_true h
theorem Fil.none {r : Rc} {f : Mm} (h : ¬ r.wd.length + r.md.length = 0) : Fil r r f :=
  ⟨rfl, rfl, rfl, rfl, rfl, by unfold nWd; rw [noD_no h, if_neg (fun h => by cases h.1)], by unfold nMd; rw [noD_no h, if_neg (fun h => by cases h.1)], by unfold nMo; rw [noD_no h, if_neg (fun h => by cases h.1)]⟩
theorem Fil.day {r : Rc} {f : Mm} (h1 : r.un = 1) : Fil r r f :=
  ⟨rfl, rfl, rfl, rfl, rfl, by unfold nWd; rw [if_neg (fun h => by omega)], by unfold nMd; rw [if_neg (fun h => by omega)], by unfold nMo; rw [if_neg (fun h => by omega)]⟩
theorem Fil.week {r : Rc} {f : Mm} (h : r.wd.length + r.md.length = 0) (h2 : r.un = 2) (A : Option Addr) : Fil r { r with wd := [f.w], A1 := A, c1 := 1 } f :=
  ⟨rfl, rfl, rfl, rfl, rfl, by unfold nWd; rw [if_pos ⟨noD_yes h, h2⟩], by unfold nMd; rw [if_neg (fun h => by omega)], by unfold nMo; rw [if_neg (fun h => by omega)]⟩
theorem Fil.month {r : Rc} {f : Mm} (h : r.wd.length + r.md.length = 0) (h2 : r.un = 3) (A : Option Addr) : Fil r { r with md := [f.d], A2 := A, c2 := 1 } f :=
  ⟨rfl, rfl, rfl, rfl, rfl, by unfold nWd; rw [if_neg (fun h => by omega)], by unfold nMd; rw [if_pos ⟨noD_yes h, .inl h2⟩], by unfold nMo; rw [if_neg (fun h => by omega)]⟩
theorem Fil.year {r : Rc} {f : Mm} (h : r.wd.length + r.md.length = 0) (h2 : r.un = 4) (h3 : ¬ r.mo.length = 0) (A : Option Addr) : Fil r { r with md := [f.d], A2 := A, c2 := 1 } f :=
  ⟨rfl, rfl, rfl, rfl, rfl, by unfold nWd; rw [if_neg (fun h => by omega)], by unfold nMd; rw [if_pos ⟨noD_yes h, .inr h2⟩], by unfold nMo; rw [if_neg (fun h => h3 h.2.2)]⟩
theorem Fil.year0 {r : Rc} {f : Mm} (h : r.wd.length + r.md.length = 0) (h2 : r.un = 4) (h3 : r.mo.length = 0) (A B : Option Addr) : Fil r { r with mo := [(f.k : Int) + 1], A3 := B, c3 := 1, md := [f.d], A2 := A, c2 := 1 } f :=
  ⟨rfl, rfl, rfl, rfl, rfl, by unfold nWd; rw [if_neg (fun h => by omega)], by unfold nMd; rw [if_pos ⟨noD_yes h, .inr h2⟩], by unfold nMo; rw [if_pos ⟨noD_yes h, h2, h3⟩]⟩
/-- .. and days made weeks -/
structure Cvt (r n : Rc) (f : Mm) : Prop where
  un : n.un = if nCv r f then 2 else r.un
  ev : n.ev = if nCv r f then r.ev.tdiv 7 else r.ev
  fr : n.fr = r.fr
  co : n.co = r.co
  ut : n.ut = r.ut
  wd : n.wd = if nCv r f then [f.w] else nWd r f
  md : n.md = nMd r f
  mo : n.mo = nMo r f
theorem Fil.no {r n : Rc} {f : Mm} (h : Fil r n f) (hc : nCv r f = false) : Cvt r n f :=
  ⟨by rw [hc, h.un]; rfl, by rw [hc, h.ev]; rfl, h.fr, h.co, h.ut, by rw [hc, h.wd]; rfl, h.md, h.mo⟩
theorem Fil.yes {r n : Rc} {f : Mm} (h : Fil r n f) (hc : nCv r f = true) (A : Option Addr) : Cvt r { n with un := 2, ev := n.ev.tdiv 7, wd := [f.w], A1 := A, c1 := 1 } f :=
  ⟨by rw [hc]; rfl, by rw [hc, ← h.ev]; rfl, h.fr, h.co, h.ut, by rw [hc]; rfl, h.md, h.mo⟩
/-- .. and the lists sorted -/
theorem Cvt.norm {r n : Rc} {f : Mm} (h : Cvt r n f) (A1 A2 A3 : Option Addr) (c1 c2 c3 : Nat) : NormOf r { n with wd := srt n.wd, A1 := A1, c1 := c1, md := srt n.md, A2 := A2, c2 := c2, mo := srt n.mo, A3 := A3, c3 := c3 } f :=
  ⟨h.un, h.ev, h.fr, h.co, h.ut, congrArg srt h.wd, congrArg srt h.md, congrArg srt h.mo⟩
theorem Fil.cv {r n : Rc} {f : Mm} (h : Fil r n f) : nCv r f = (decide (n.un = 1) && decide (n.ev.tmod 7 = 0) && lisB n.wd [f.w]) := by
  unfold nCv
  rw [h.un, h.ev, h.wd]
/-- a sorted list of one's own, told -/
def toldS (B : Nat) (l : List Int) : Told := ⟨fun v => ∃ A c, v = .slice A l.length c ∧ l.length ≤ c ∧ c ≤ maxLen, fun v W => W.ownsRow B 3 1 v l.length (ints l)⟩
theorem toldS_some (B : Nat) (l : List Int) (h : l.length ≤ 31) : ∃ v, (toldS B l).V v := ⟨.slice none l.length l.length, none, l.length, rfl, Nat.le_refl _, by unfold maxLen; omega⟩
theorem toldS_next (B : Nat) (l : List Int) (v : Value) (w w' : World) (hb : Below w.heap.size w w') (h : (toldS B l).F v w) : (toldS B l).F v w' := own_next h hb
theorem toldS_of {B : Nat} {l : List Int} {w w' : World} {e : Ending} (hB : B ≤ w.heap.size) (h : SrtQ l w e w') : ∃ v, e = .returned v ∧ (toldS B l).V v ∧ (toldS B l).F v w' ∧ Below w.heap.size w w' := by
  obtain ⟨v, rfl, ho, hb⟩ := h
  exact ⟨v, rfl, own_form ho, own_lower ho hB, hb⟩
abbrev set8 (W : World) (q : Nat) (v0 v1 v2 v3 v4 v5 v6 v7 : Value) : World := (((((((W.setCell ⟨q, 0, none⟩ v0).setCell ⟨q, 1, none⟩ v1).setCell ⟨q, 2, none⟩ v2).setCell ⟨q, 3, none⟩ v3).setCell ⟨q, 4, none⟩ v4).setCell ⟨q, 5, none⟩ v5).setCell ⟨q, 6, none⟩ v6).setCell ⟨q, 7, none⟩ v7
theorem box_set8 {W : World} {q : Nat} {t : TypeId} {c0 c1 c2 c3 c4 c5 c6 c7 : Value} (h : Box W q t #[c0, c1, c2, c3, c4, c5, c6, c7]) (v0 v1 v2 v3 v4 v5 v6 v7 : Value) : Box (set8 W q v0 v1 v2 v3 v4 v5 v6 v7) q t #[v0, v1, v2, v3, v4, v5, v6, v7] := by
  have h1 := (((((((h.set_ 0 v0).set_ 1 v1).set_ 2 v2).set_ 3 v3).set_ 4 v4).set_ 5 v5).set_ 6 v6).set_ 7 v7
  simp only [List.setIfInBounds_toArray, List.set_cons_zero, List.set_cons_succ] at h1
  exact h1
theorem below_set8 {B : Nat} {w W : World} (h : Below B w W) (q : Nat) (hq : B ≤ q) (v0 v1 v2 v3 v4 v5 v6 v7 : Value) : Below B w (set8 W q v0 v1 v2 v3 v4 v5 v6 v7) :=
  (((((((h.setCell (p := ⟨q, 0, none⟩) hq v0).setCell (p := ⟨q, 1, none⟩) hq v1).setCell (p := ⟨q, 2, none⟩) hq v2).setCell (p := ⟨q, 3, none⟩) hq v3).setCell (p := ⟨q, 4, none⟩) hq v4).setCell (p := ⟨q, 5, none⟩) hq v5).setCell (p := ⟨q, 6, none⟩) hq v6).setCell (p := ⟨q, 7, none⟩) hq v7
theorem RowF.set8 {W : World} {g g' : Nat} {A : Option Addr} {l : List Int} (h : RowF W g g' A l) (v0 v1 v2 v3 v4 v5 v6 v7 : Value) : RowF (set8 W g' v0 v1 v2 v3 v4 v5 v6 v7) g g' A l :=
  (((((((h.set_ g' 0 v0 (.inr rfl)).set_ g' 1 v1 (.inr rfl)).set_ g' 2 v2 (.inr rfl)).set_ g' 3 v3 (.inr rfl)).set_ g' 4 v4 (.inr rfl)).set_ g' 5 v5 (.inr rfl)).set_ g' 6 v6 (.inr rfl)).set_ g' 7 v7 (.inr rfl)
end Go.Proofs.YtonhmgdokghoeaaDoor

/- Contract of recur.join. -/
namespace Go.Proofs.YtonhmgdokghoeaaDoor
open Go Go.RowKit
set_option linter.unusedVariables false

theorem infoStrR : (Tryd.prog.info? 9).map (fun i => (i.zero, i.size, i.bytes)) = some (some (.string ⟨#[]⟩), 1, 16) := by kernel_rfl
/-- the numerals of a list -/
def numB (l : List Int) : List ByteArray := l.map fun n => str (Lib.itoa n)
def numV (l : List Int) : List Value := l.map fun n => .string (str (Lib.itoa n))
theorem numV_take (l : List Int) (j : Nat) (h : j < l.length) : numV (l.take (j + 1)) = numV (l.take j) ++ [.string (str (Lib.itoa (l.getD j 0)))] := by
  unfold numV
  rw [← List.take_append_getElem h, List.map_append]
  simp [List.getD, List.getElem?_eq_getElem h]
/-- the text of a list -/
def jnL (l : List Int) : List UInt8 := Lib.join (l.map Lib.itoa) [44]
theorem one_strR (x : ByteArray) : ∀ u ∈ [Value.string x], u.oneCell' = true := fun u hu => by simp at hu; subst hu; rfl
theorem lens_leR (k : Nat) : ∀ l : List (List UInt8), (∀ x ∈ l, x.length ≤ k) → Lib.lens l ≤ l.length * k
  | [], _ => by simp [Lib.lens]
  | x :: r, h => by
    have h1 := h x (by simp)
    have h2 := lens_leR k r (fun z hz => h z (by simp [hz]))
    unfold Lib.lens at h2 ⊢
    simp only [List.map_cons, List.sum_cons, List.length_cons]
    rw [Nat.add_mul]
    omega
theorem join_len (l : List (List UInt8)) (k : Nat) (h : ∀ x ∈ l, x.length ≤ k) : (Lib.join l [44]).length ≤ l.length * (k + 1) := by
  cases l with
  | nil => simp [Lib.join_nil]
  | cons x r =>
    have h1 := lens_leR k (x :: r) h
    rw [Lib.join_length, Nat.mul_add]
    simp only [List.length_cons, List.length_nil] at h1 ⊢
    omega
theorem jnL_len (l : List Int) (h : ∀ x ∈ l, -9223372036854775808 ≤ x ∧ x ≤ 9223372036854775807) : (jnL l).length ≤ l.length * 22 := by
  have := join_len (l.map Lib.itoa) 21 (fun x hx => by
    obtain ⟨n, hn, rfl⟩ := List.mem_map.1 hx
    exact Lib.itoa_length_le n (h n hn).1 (h n hn).2)
  simpa [jnL] using this
set_option maxHeartbeats 2000000 in
set_option maxRecDepth 100000 in
theorem join_any (A : Option Addr) (c : Nat) (l : List Int) (w : World) (hp : Pow w) (hr : Row w w.heap.size A (ints l)) (h0 : 0 < l.length) (hl : l.length ≤ 31) (hf : ∀ x ∈ l, -9223372036854775808 ≤ x ∧ x ≤ 9223372036854775807) :
    Calls Tryd.prog 28 #[.slice A l.length c] w fun e w' => e = .returned (.string (str (jnL l))) ∧ Below w.heap.size w w' := by
  obtain ⟨i0, hi0, hz0, hz1, hz2⟩ := info_parts infoStrR
  obtain ⟨b, o, rfl, hbl, hcs⟩ := hr.open_ (ints_ne l h0)
  have HCs := Lib.hid hcs
  have HIt := Lib.hid (fun j (hj : j < l.length) W (h : Below w.heap.size w W) => itoa_any (l.getD j 0) W (hf _ (by rw [List.getD_eq_getElem?_getD, List.getElem?_eq_getElem hj]; exact List.getElem_mem hj)).1 (hf _ (by rw [List.getD_eq_getElem?_getD, List.getElem?_eq_getElem hj]; exact List.getElem_mem hj)).2 (hp.next h))
  have HJl := Lib.hid (jnL_len l hf)
  clear hcs hr hp hf
  go_enter Tryd.func28, Tryd.ntmps28
  go_wp2_with fail
  go_loopw [3, 5, 8] (fun s3 _ i wr => ∃ j : Nat, j ≤ l.length ∧ i = .int .i64 (j : Int) ∧ Hid (wr.ownsRow w.heap.size 9 1 s3 j (numV (l.take j))) ∧ Hid (Below w.heap.size w wr)) (fun _ _ i _ => l.length - (intOf i).toNat)
  case atStart => exact ⟨0, by omega, rfl, World.ownsRow_nil _ _ _ _, Below.refl _ _⟩
  case round =>
    obtain ⟨j, hj, rfl, hown, hbr⟩ := hrel
    by_cases hlt : j < l.length
    case neg =>
      have hje : j = l.length := by omega
      have HO : Hid (wr.ownsRow w.heap.size 9 1 u3 l.length (numV l)) := by
        have h := hown.out
        rw [hje, List.take_length] at h
        exact h
      clear hown hje
      obtain ⟨n', hn'⟩ : ∃ n', l.length = n' + 1 := ⟨l.length - 1, by omega⟩
      have hform := HO.out.form h0
      obtain ⟨b2, cap, hv, hbb, hlt2⟩ := hform
      subst hv
      have hcap : l.length ≤ cap := by
        obtain ⟨_, _, e, q1, _⟩ := own_form HO.out
        injection e with _ _ e
        omega
      have HJ : Hid (Calls Tryd.prog 40 #[.slice (some ⟨b2, 0, none⟩) l.length cap, .string ⟨#[44]⟩] wr fun e w' => e = .returned (.string (str (jnL l))) ∧ Below wr.heap.size wr w') := by
        have hlen : (numB l).length = l.length := by simp [numB]
        have e1 : (numB l).map (·.data.toList) = l.map Lib.itoa := by simp [numB, str_data, Function.comp_def]
        have h := strings_Join b2 0 cap (numB l) ⟨#[44]⟩ wr (fun j x hx => by
          have hx' : (numV l)[j]? = some (.string x) := by
            unfold numB at hx
            unfold numV
            rw [List.getElem?_map] at hx ⊢
            cases h : l[j]? with
            | none => rw [h] at hx; cases hx
            | some y => rw [h] at hx; injection hx with hx; rw [← hx]; rfl
          obtain ⟨b', o', e, hb', hc⟩ := (Row.of_own HO.out).open_ (fun e => by rw [e] at hx'; cases hx')
          injection e with e
          injection e with e3 e4 _
          subst e3 e4
          exact hc j _ hx') hlt2 (by rw [hlen]; omega) (by rw [hlen]; exact hcap) (by
            rw [e1, show (⟨#[44]⟩ : ByteArray).data.toList = [44] from rfl]
            have := HJl.out
            unfold jnL at this
            omega)
        rw [hlen, e1] at h
        exact h
      clear hn' hlt2
      go_wp2_with fail
      refine HJ.out.mono ?_
      rintro e w2 ⟨rfl, hb2⟩
      have HB2 := Lib.hid (below_then hbr.out hb2)
      clear hb2 HJ
      go_wp2_with fail
      go_ret
      exact ⟨rfl, HB2.out⟩
    have hcell := (hbr.out.cell (p := ⟨b, o + j, none⟩) hbl).trans (ints_cell HCs.out j hlt)
    have HI := Lib.hid (HIt.out j hlt wr hbr.out)
    have HT := Lib.hid (numV_take l j hlt)
    obtain ⟨x, hx⟩ : ∃ x, x = l.getD j 0 := ⟨_, rfl⟩
    rw [← hx] at hcell HI HT
    clear hx
    go_wp2_with fail
    refine HI.out.mono ?_
    rintro e w2 ⟨rfl, hb2⟩
    have hown2 := own_next hown.out hb2
    have HB2 := Lib.hid (below_then hbr.out hb2)
    have hsz2 := HB2.out.size
    clear hb2 HI hown hcell
    generalize str (Lib.itoa x) = X at *
    go_wp2_with (at_builtin; refine wpList_append_own _ rfl (.tmp 12) (.tmp 15) 70 rfl w.heap.size 9 i0 (.string ⟨#[]⟩) 1 16 Tryd.underlying70 hi0 hz0 hz1 hz2 rfl (by decide) u3 j _ rfl (hown2.alloc _) ⟨w2.heap.size, 0, none⟩ 1 1 [.string X] rfl rfl (cell_one_new _ _ _) (one_strR _) ?c3 ?c4 ?c5 ?_)
    case c3 => first | omega | (simp only [maxLen]; omega) | (simp; omega)
    case c4 => first | omega | (simp only [maxLen]; omega) | (simp; omega)
    case c5 => first | omega | (simp only [World.size_alloc]; omega) | (simp; omega)
    intro v' w6 hown6 hgrow _
    have HO : Hid (w6.ownsRow w.heap.size 9 1 v' (j + 1) (numV (l.take (j + 1)))) := by
      unfold Hid
      rw [HT.out]
      exact hown6
    have HB6 : Hid (Below w.heap.size w w6) := (HB2.out.alloc hsz2 _).grown hgrow (by simp only [World.size_alloc]; omega) (fun k hk => (own_lt hown2 k hk).1)
    clear hown6 hgrow hown2 HT
    go_wp2_with fail
    go_roundw
    case rel => exact ⟨j + 1, by omega, by go_num, HO, HB6⟩
    case measure => simp [intOf]; omega
end Go.Proofs.YtonhmgdokghoeaaDoor

/- Contract of recur.Normal. -/
namespace Go.Proofs.YtonhmgdokghoeaaDoor
open Go Go.RowKit
set_option linter.unusedVariables false

/-- what Normal says -/
def NmQ (r : Rc) (w : World) (e : Ending) (w' : World) : Prop := Below w.heap.size w w' ∧ ((RcOk r ∧ ∃ n, NormOf r n (mmAt r.fr) ∧ RcIn w' n ∧ RcFit n ∧ e = .returned (.tuple #[n.val, .int .i64 0])) ∨ (¬ RcOk r ∧ ∃ E : Int, E ≠ 0 ∧ e = .returned (.tuple #[.agg zeroRc, .int .i64 E])))
theorem NmQ.no {r : Rc} {w w' : World} {E : Int} (h : ¬ RcOk r) (hE : E ≠ 0) (hb : Below w.heap.size w w') : NmQ r w (.returned (.tuple #[.agg zeroRc, .int .i64 E])) w' := ⟨hb, .inr ⟨h, E, hE, rfl⟩⟩
theorem NmQ.yes {r n : Rc} {w w' : World} (ok : RcOk r) (h : NormOf r n (mmAt r.fr)) (hin : RcIn w' n) (hf : RcFit n) (hb : Below w.heap.size w w') : NmQ r w (.returned (.tuple #[n.val, .int .i64 0])) w' := ⟨hb, .inl ⟨ok, n, h, hin, hf, rfl⟩⟩
theorem mcells {W : World} {g : Nat} {m : Mm} (h : Box W g 41 m.cells) : W.cell? ⟨g, 0, none⟩ = some (.int .i64 m.day) ∧ W.cell? ⟨g, 1, none⟩ = some (.int .i64 m.w) ∧ W.cell? ⟨g, 2, none⟩ = some (.int .i64 m.y) ∧ W.cell? ⟨g, 3, none⟩ = some (.int .i64 ((m.k : Int) + 1)) ∧ W.cell? ⟨g, 4, none⟩ = some (.int .i64 m.d) ∧ W.cell? ⟨g, 5, none⟩ = some (.int .i64 (len (feb m.y) m.k)) := ⟨h.cell 0, h.cell 1, h.cell 2, h.cell 3, h.cell 4, h.cell 5⟩
set_option maxHeartbeats 8000000 in
set_option maxRecDepth 100000 in
theorem normal_any (r : Rc) (w : World) (hr : RcIn w r) (hf : RcFit r) : Calls Tryd.prog 5 #[r.val] w (NmQ r w) := by
  have HB0 := Lib.hid (below_alloc2 w (Obj.cells r.cells 24) (Obj.cells zeroRc 24))
  have HX0 := Lib.hid ((Box.new w 24 r.cells).alloc (Obj.cells zeroRc 24))
  have hY := Box.new (w.alloc (Obj.cells r.cells 24)) 24 zeroRc
  rw [World.size_alloc] at hY
  have HY0 := Lib.hid hY
  have HR := Lib.hid (hr.next HB0.out)
  have HF := Lib.hid hf
  have HIn := Lib.hid hr
  clear hr hf hY
  obtain ⟨x0, x1, x2, x3, x4, x5, x6, x7⟩ := rcells HX0.out
  go_enter Tryd.func5, Tryd.ntmps5
  go_wp2_with fail
  clear x0 x1 x2 x3 x4 x5 x6 x7
  generalize (w.alloc (Obj.cells r.cells 24)).alloc (Obj.cells zeroRc 24) = W0 at *
  obtain ⟨g, hg⟩ : ∃ g, g = w.heap.size := ⟨_, rfl⟩
  rw [← hg] at HX0 HY0 ⊢
  have HG := Lib.hid hg
  clear hg
  refine (rcheck_any r _ HR.out HF.out).mono ?_
  rintro e w1 ⟨E1, rfl, hE1, hb1⟩
  have HE1 := Lib.hid hE1
  have HX1 := Lib.hid (HX0.out.below hb1)
  have HY1 := Lib.hid (HY0.out.below hb1)
  have HB1 := Lib.hid (below_then HB0.out hb1)
  clear hb1 hE1 HX0 HY0 HB0 HR
  by_cases h0 : E1 = 0
  case neg =>
    have t1 : (E1 != 0) = true := by rw [bne_iff_ne]; exact h0
    have HR : Hid (¬ RcOk r ∧ E1 ≠ 0) := ⟨fun h => h0 (HE1.out.2 h), h0⟩
    have hyl := HY1.out.lt
    obtain ⟨y0, y1, y2, y3, y4, y5, y6, y7⟩ : w1.cell? ⟨g + 1, 0, none⟩ = some (.int .i64 0) ∧ w1.cell? ⟨g + 1, 1, none⟩ = some (.int .i64 0) ∧ w1.cell? ⟨g + 1, 2, none⟩ = some (.int .i64 0) ∧ w1.cell? ⟨g + 1, 3, none⟩ = some (.int .i64 0) ∧ w1.cell? ⟨g + 1, 4, none⟩ = some (.int .i64 0) ∧ w1.cell? ⟨g + 1, 5, none⟩ = some (.slice none 0 0) ∧ w1.cell? ⟨g + 1, 6, none⟩ = some (.slice none 0 0) ∧ w1.cell? ⟨g + 1, 7, none⟩ = some (.slice none 0 0) := ⟨HY1.out.cell 0, HY1.out.cell 1, HY1.out.cell 2, HY1.out.cell 3, HY1.out.cell 4, HY1.out.cell 5, HY1.out.cell 6, HY1.out.cell 7⟩
    have yf : ∀ i, w1.frozen? ⟨g + 1, i, none⟩ = false := fun i => HY1.out.free i
    clear h0 HE1
    have HB8 := below_set8 HB1.out (g + 1) (by rw [HG.out]; omega) (.int .i64 0) (.int .i64 0) (.int .i64 0) (.int .i64 0) (.int .i64 0) (.slice none 0 0) (.slice none 0 0) (.slice none 0 0)
    have HX8 := box_set8 HY1.out (.int .i64 0) (.int .i64 0) (.int .i64 0) (.int .i64 0) (.int .i64 0) (.slice none 0 0) (.slice none 0 0) (.slice none 0 0)
    dsimp only [set8] at HB8 HX8
    have HB9 := Lib.hid HB8
    have HX9 := Lib.hid HX8
    clear HB8 HX8
    go_wp2_with fail
    clear y0 y1 y2 y3 y4 y5 y6 y7 yf hyl HX1 HY1 HB1
    generalize (((((((w1.setCell ⟨g + 1, 0, none⟩ (.int .i64 0)).setCell ⟨g + 1, 1, none⟩ (.int .i64 0)).setCell ⟨g + 1, 2, none⟩ (.int .i64 0)).setCell ⟨g + 1, 3, none⟩ (.int .i64 0)).setCell ⟨g + 1, 4, none⟩ (.int .i64 0)).setCell ⟨g + 1, 5, none⟩ (.slice none 0 0)).setCell ⟨g + 1, 6, none⟩ (.slice none 0 0)).setCell ⟨g + 1, 7, none⟩ (.slice none 0 0) = W8 at *
    have z0 := HX9.out.cell 0
    have z1 := HX9.out.cell 1
    have z2 := HX9.out.cell 2
    have z3 := HX9.out.cell 3
    have z4 := HX9.out.cell 4
    have z5 := HX9.out.cell 5
    have z6 := HX9.out.cell 6
    have z7 := HX9.out.cell 7
    simp at z0 z1 z2 z3 z4 z5 z6 z7
    refine bodyPost_ret (v := .tuple #[.agg zeroRc, .int .i64 E1]) (by simp [results, Tryd.results5, go_sem, z0, z1, z2, z3, z4, z5, z6, z7]) rfl ?_
    exact NmQ.no HR.out.1 HR.out.2 HB9.out
  subst h0
  have HOk := Lib.hid (HE1.out.1 rfl)
  obtain ⟨f, hf⟩ : ∃ f, f = mmAt r.fr := ⟨_, rfl⟩
  have HFe := Lib.hid hf
  have HAt := Lib.hid (fun W => at_day r.fr W HOk.out.f1.1 HOk.out.f1.2)
  rw [← hf] at HAt
  clear hf
  obtain ⟨x0, x1, x2, x3, x4, x5, x6, x7⟩ := rcells HX1.out
  go_wp2_with fail
  refine (HAt.out _).mono ?_
  rintro e w2 ⟨rfl, hb2⟩
  clear x0 x1 x2 x3 x4 x5 x6 x7 HAt HE1
  have HN0 : Hid (NmB w g (g + 1) w2.heap.size f r (w2.alloc (Obj.cells f.cells 41))) := by
    have hx := HX1.out.below hb2
    have hy := HY1.out.below hb2
    have hb := below_then HB1.out hb2
    have e := HG.out
    exact ⟨(RowF.of_row (HIn.out.r1.below hb) hb.size (by omega) (by omega)).next (below_alloc1 _ _), (RowF.of_row (HIn.out.r2.below hb) hb.size (by omega) (by omega)).next (below_alloc1 _ _), (RowF.of_row (HIn.out.r3.below hb) hb.size (by omega) (by omega)).next (below_alloc1 _ _), HF.out, hx.alloc _, hy.alloc _, Box.new _ _ _, below_then hb (below_alloc1 _ _), by omega, by omega, by omega, by have := hx.lt; omega, by have := hy.lt; omega⟩
  clear hb2 HX1 HY1 HB1
  have hl1 := HOk.out.wd.1
  have hl2 := HOk.out.md.1
  have hl3 := HOk.out.mo.1
  have ew1 : IntKind.i64.wrap ((r.wd.length : Int) + (r.md.length : Int)) = (r.wd.length : Int) + (r.md.length : Int) := intFits _ (by omega) (by omega)
  go_upto_region 5 with fail
  generalize w2.alloc (Obj.cells f.cells 41) = W1 at *
  generalize w2.heap.size = gm at *
  obtain ⟨x0, x1, x2, x3, x4, x5, x6, x7⟩ := rcells HN0.out.bx
  go_upto_if 22 with fail
  clear x0 x1 x2 x3 x4 x5 x6 x7 ew1
  go_cut [24] (fun _ wx => ∃ n, Fil r n f ∧ Hid (NmB w g (g + 1) gm f n wx))
  case first =>
    obtain ⟨x0, x1, x2, x3, x4, x5, x6, x7⟩ := rcells HN0.out.bx
    obtain ⟨z0, z1, z2, z3, z4, z5⟩ := mcells HN0.out.bm
    have xf : ∀ i, W1.frozen? ⟨g, i, none⟩ = false := fun i => HN0.out.bx.free i
    have xl := HN0.out.bx.lt
    have zl := HN0.out.bm.lt
    have nmg : gm ≠ g := HN0.out.n2
    by_cases hn : r.wd.length + r.md.length = 0
    case neg =>
      have t1 : ((r.wd.length : Int) + (r.md.length : Int) == 0) = false := by rw [beq_eq_false_iff_ne]; omega
      have HR := Lib.hid (Fil.none (f := f) hn)
      clear hn x0 x1 x2 x3 x4 x5 x6 x7 z0 z1 z2 z3 z4 z5 xf
      go_wp2_with fail
      go_meet
      exact ⟨r, HR.out, HN0⟩
    have t1 : ((r.wd.length : Int) + (r.md.length : Int) == 0) = true := by rw [beq_iff_eq]; omega
    have HNo := Lib.hid hn
    have hu := HOk.out.u1
    have hu2 := HOk.out.u2
    clear hn
    by_cases h2 : r.un = 2
    · have t2 : (r.un == 2) = true := by rw [beq_iff_eq]; exact h2
      have HR := Lib.hid (fun A => Fil.week (f := f) HNo.out h2 A)
      have HM := Lib.hid (HN0.out.one_wd f.w)
      clear h2
      go_wp2_with fail
      go_meet
      exact ⟨_, HR.out _, HM⟩
    have t2 : (r.un == 2) = false := by rw [beq_eq_false_iff_ne]; exact h2
    by_cases h4 : r.un = 4
    · have t3 : (r.un == 4) = true := by rw [beq_iff_eq]; exact h4
      by_cases hm : r.mo.length = 0
      · have t4 : ((r.mo.length : Int) == 0) = true := by rw [beq_iff_eq]; omega
        have HR := Lib.hid (fun A B => Fil.year0 (f := f) HNo.out h4 hm A B)
        have HM := Lib.hid (HN0.out.two ((f.k : Int) + 1) f.d)
        clear h2 h4 hm
        go_wp2_with fail
        go_meet
        exact ⟨_, HR.out _ _, HM⟩
      · have t4 : ((r.mo.length : Int) == 0) = false := by rw [beq_eq_false_iff_ne]; omega
        have HR := Lib.hid (fun A => Fil.year (f := f) HNo.out h4 hm A)
        have HM := Lib.hid (HN0.out.one_md f.d)
        clear h2 h4 hm
        go_wp2_with fail
        go_meet
        exact ⟨_, HR.out _, HM⟩
    have t3 : (r.un == 4) = false := by rw [beq_eq_false_iff_ne]; exact h4
    by_cases h3 : r.un = 3
    · have t4 : (r.un == 3) = true := by rw [beq_iff_eq]; exact h3
      have HR := Lib.hid (fun A => Fil.month (f := f) HNo.out h3 A)
      have HM := Lib.hid (HN0.out.one_md f.d)
      clear h2 h4 h3
      go_wp2_with fail
      go_meet
      exact ⟨_, HR.out _, HM⟩
    · have t4 : (r.un == 3) = false := by rw [beq_eq_false_iff_ne]; exact h3
      have HR := Lib.hid (Fil.day (r := r) (f := f) (by omega))
      clear h2 h4 h3
      go_wp2_with fail
      go_meet
      exact ⟨r, HR.out, HN0⟩
  case rest =>
  obtain ⟨n, hfil, HN⟩ := hcut
  have HFil := Lib.hid hfil
  clear hfil HN0
  have hnl : n.wd.length ≤ 31 := by rw [HFil.out.wd]; exact (nWd_ok HOk.out).1
  have hev : 1 ≤ n.ev ∧ n.ev ≤ 1000 := by rw [HFil.out.ev]; exact ⟨HOk.out.e1, HOk.out.e2⟩
  go_upto_region 15 with fail
  go_cut [70] (fun s70 wx => s70 = .bool (nCv r f) ∧ Hid (NmB w g (g + 1) gm f n wx))
  case first =>
    obtain ⟨x0, x1, x2, x3, x4, x5, x6, x7⟩ := rcells HN.out.bx
    obtain ⟨z0, z1, z2, z3, z4, z5⟩ := mcells HN.out.bm
    have zl := HN.out.bm.lt
    have xl := HN.out.bx.lt
    have HC := Lib.hid HFil.out.cv
    by_cases h1 : n.un = 1
    case neg =>
      have t1 : (n.un == 1) = false := by rw [beq_eq_false_iff_ne]; exact h1
      have HR : Hid (nCv r f = false) := by unfold Hid; rw [HC.out, decide_eq_false h1]; rfl
      clear h1 HC
      go_wp2_with fail
      go_meet
      exact ⟨by rw [HR.out], HN⟩
    have t1 : (n.un == 1) = true := by rw [beq_iff_eq]; exact h1
    by_cases h2 : n.ev.tmod 7 = 0
    case neg =>
      have h2' : ¬ n.ev % 7 = 0 := by rw [Int.tmod_eq_emod_of_nonneg (by omega)] at h2; exact h2
      have t2 : (n.ev % 7 == 0) = false := by rw [beq_eq_false_iff_ne]; exact h2'
      have t3 : decide (n.ev % 7 = 0) = false := decide_eq_false h2'
      have HR : Hid (nCv r f = false) := by unfold Hid; rw [HC.out, decide_eq_false h2]; simp
      clear h1 h2 HC
      go_wp2_with fail
      go_meet
      exact ⟨by rw [HR.out], HN⟩
    have h2' : n.ev % 7 = 0 := by rw [Int.tmod_eq_emod_of_nonneg (by omega)] at h2; exact h2
    have t2 : (n.ev % 7 == 0) = true := by rw [beq_iff_eq]; exact h2'
    have t3 : decide (n.ev % 7 = 0) = true := decide_eq_true h2'
    have HR : Hid (nCv r f = lisB n.wd [f.w]) := by unfold Hid; rw [HC.out, decide_eq_true h1, decide_eq_true h2]; rfl
    have HM := Lib.hid (HN.out.alloc (Obj.cells #[.int .i64 f.w] 3))
    have HLi := Lib.hid (listed_any n.A1 (some ⟨wc.heap.size, 0, none⟩) n.c1 1 n.wd [f.w] (wc.alloc (Obj.cells #[.int .i64 f.w] 3)) HM.out.r1.row (Row.of_box (Box.new wc 3 #[.int .i64 f.w])) (by unfold maxLen; omega) (by unfold maxLen; simp))
    clear h1 h2 HC
    go_wp2_with fail
    refine HLi.out.mono ?_
    rintro e w3 ⟨rfl, hb3⟩
    have HM3 := Lib.hid (HM.out.next hb3)
    clear hb3 HLi x0 x1 x2 x3 x4 x5 x6 x7 z0 z1 z2 z3 z4 z5
    go_wp2_with fail
    go_meet
    exact ⟨by rw [HR.out], HM3⟩
  case rest =>
  obtain ⟨rfl, HN2⟩ := hcut
  obtain ⟨C, hC⟩ : ∃ C, C = nCv r f := ⟨_, rfl⟩
  rw [← hC]
  have HC := Lib.hid hC
  clear hC HN
  go_upto_if 70 with fail
  go_cut [71] (fun _ wx => ∃ n2, Cvt r n2 f ∧ Hid (NmB w g (g + 1) gm f n2 wx))
  case first =>
    cases C with
    | false =>
      have HR := Lib.hid (HFil.out.no HC.out.symm)
      clear HC
      go_wp2_with fail
      go_meet
      exact ⟨n, HR.out, HN2⟩
    | true =>
      have HR := Lib.hid (fun A => HFil.out.yes HC.out.symm A)
      have HM := Lib.hid (HN2.out.cvt (n.ev.tdiv 7) f.w)
      have etd : n.ev.tdiv 7 = n.ev / 7 := Int.tdiv_eq_ediv_of_nonneg (by omega)
      rw [etd] at HM HR
      have ewq : IntKind.i64.wrap (n.ev / 7) = n.ev / 7 := intFits _ (by omega) (by omega)
      clear etd
      obtain ⟨x0, x1, x2, x3, x4, x5, x6, x7⟩ := rcells HN2.out.bx
      obtain ⟨z0, z1, z2, z3, z4, z5⟩ := mcells HN2.out.bm
      have zl := HN2.out.bm.lt
      have xl := HN2.out.bx.lt
      have nmg : gm ≠ g := HN2.out.n2
      have xf : ∀ i, wc.frozen? ⟨g, i, none⟩ = false := fun i => HN2.out.bx.free i
      clear HC
      go_upto_region 16 with fail
      go_region
      all_goals
        go_wp2_with fail
        go_meet
        exact ⟨_, HR.out _, Lib.hid (HM.out.next (below_drew (Below.refl _ _) 1))⟩
  case rest =>
  obtain ⟨n2, hcvt, HN3⟩ := hcut
  have HCvt := Lib.hid hcvt
  have HGl : Hid (g < wc.heap.size ∧ g + 1 < wc.heap.size) := ⟨HN3.out.bx.lt, HN3.out.br.lt⟩
  clear hcvt HN2 HFil HC hev hnl
  have hm1 : n2.wd.length ≤ 31 := by
    rw [HCvt.out.wd]
    split
    · simp
    · exact (nWd_ok HOk.out).1
  have hm2 : n2.md.length ≤ 31 := by
    rw [HCvt.out.md]
    unfold nMd
    split
    · simp
    · exact HOk.out.md.1
  have hm3 : n2.mo.length ≤ 31 := by
    rw [HCvt.out.mo]
    unfold nMo
    split
    · simp
    · exact HOk.out.mo.1
  have HS1 := Lib.hid (fun W (hW : Below wc.heap.size wc W) => sorted_any n2.A1 n2.c1 n2.wd W (HN3.out.next hW).r1.row hm1)
  have HS2 := Lib.hid (fun W (hW : Below wc.heap.size wc W) => sorted_any n2.A2 n2.c2 n2.md W (HN3.out.next hW).r2.row hm2)
  have HS3 := Lib.hid (fun W (hW : Below wc.heap.size wc W) => sorted_any n2.A3 n2.c3 n2.mo W (HN3.out.next hW).r3.row hm3)
  have x5 : ∀ W, Below wc.heap.size wc W → W.cell? ⟨g, 5, none⟩ = some (.slice n2.A1 n2.wd.length n2.c1) := fun W hW => (HN3.out.next hW).bx.cell 5
  have x6 : ∀ W, Below wc.heap.size wc W → W.cell? ⟨g, 6, none⟩ = some (.slice n2.A2 n2.md.length n2.c2) := fun W hW => (HN3.out.next hW).bx.cell 6
  have x7 : ∀ W, Below wc.heap.size wc W → W.cell? ⟨g, 7, none⟩ = some (.slice n2.A3 n2.mo.length n2.c3) := fun W hW => (HN3.out.next hW).bx.cell 7
  have hs1 := srt_len n2.wd
  have hs2 := srt_len n2.md
  have hs3 := srt_len n2.mo
  have hn1 : (srt n2.wd).length ≤ 31 := by omega
  have hn2 : (srt n2.md).length ≤ 31 := by omega
  have hn3 : (srt n2.mo).length ≤ 31 := by omega
  have HSl := Lib.hid (And.intro hs1 (And.intro hs2 hs3))
  clear hs1 hs2 hs3 hl1 hl2 hl3
  go_upto_region 17 with fail
  refine flow_begin_tail 10 (tellOf [(2, toldS wc.heap.size (srt n2.wd)), (5, toldS wc.heap.size (srt n2.md)), (8, toldS wc.heap.size (srt n2.mo))]) (by kernel_rfl) (by kernel_rfl) ?_
  repeat (first | (refine flow_val (v := ?_) (by rfl) (by rfl) (fun w hb => ?_) ?_; rotate_left; (· ((go_simp) <;> ((repeat' apply And.intro) <;> with_reducible rfl))); try simp only [Act.put, List.setIfInBounds_toArray, List.set_cons_zero, List.set_cons_succ, Nat.reduceAdd]) | (refine flow_skip (by rfl) (by rfl) ?_; try simp only [Act.put, List.setIfInBounds_toArray, List.set_cons_zero, List.set_cons_succ, Nat.reduceAdd]))
  refine flow_told (f := ?_) (args := ?_) (t := toldS wc.heap.size (srt n2.wd)) [] (by kernel_rfl) (by rfl) (by rfl) (toldS_some _ _ hn1) (toldS_next _ _) (fun w hb => ?_) (fun w hb hu => ?_) ?_; rotate_left 2; (· ((go_simp) <;> ((repeat' apply And.intro) <;> with_reducible rfl)))
  · exact (HS1.out _ hb).mono fun e w' h => toldS_of hb.size h
  rintro v1 ⟨B1, d1, rfl, e1, e1'⟩
  try simp only [Act.put, List.setIfInBounds_toArray, List.set_cons_zero, List.set_cons_succ, Nat.reduceAdd]
  repeat (first | (refine flow_val (v := ?_) (by rfl) (by rfl) (fun w hb => ?_) ?_; rotate_left; (· ((go_simp) <;> ((repeat' apply And.intro) <;> with_reducible rfl))); try simp only [Act.put, List.setIfInBounds_toArray, List.set_cons_zero, List.set_cons_succ, Nat.reduceAdd]) | (refine flow_skip (by rfl) (by rfl) ?_; try simp only [Act.put, List.setIfInBounds_toArray, List.set_cons_zero, List.set_cons_succ, Nat.reduceAdd]))
  refine flow_told (f := ?_) (args := ?_) (t := toldS wc.heap.size (srt n2.md)) [] (by kernel_rfl) (by rfl) (by rfl) (toldS_some _ _ hn2) (toldS_next _ _) (fun w hb => ?_) (fun w hb hu => ?_) ?_; rotate_left 2; (· ((go_simp) <;> ((repeat' apply And.intro) <;> with_reducible rfl)))
  · exact (HS2.out _ hb).mono fun e w' h => toldS_of hb.size h
  rintro v2 ⟨B2, d2, rfl, e2, e2'⟩
  try simp only [Act.put, List.setIfInBounds_toArray, List.set_cons_zero, List.set_cons_succ, Nat.reduceAdd]
  repeat (first | (refine flow_val (v := ?_) (by rfl) (by rfl) (fun w hb => ?_) ?_; rotate_left; (· ((go_simp) <;> ((repeat' apply And.intro) <;> with_reducible rfl))); try simp only [Act.put, List.setIfInBounds_toArray, List.set_cons_zero, List.set_cons_succ, Nat.reduceAdd]) | (refine flow_skip (by rfl) (by rfl) ?_; try simp only [Act.put, List.setIfInBounds_toArray, List.set_cons_zero, List.set_cons_succ, Nat.reduceAdd]))
  refine flow_told (f := ?_) (args := ?_) (t := toldS wc.heap.size (srt n2.mo)) [] (by kernel_rfl) (by rfl) (by rfl) (toldS_some _ _ hn3) (toldS_next _ _) (fun w hb => ?_) (fun w hb hu => ?_) ?_; rotate_left 2; (· ((go_simp) <;> ((repeat' apply And.intro) <;> with_reducible rfl)))
  · exact (HS3.out _ hb).mono fun e w' h => toldS_of hb.size h
  rintro v3 ⟨B3, d3, rfl, e3, e3'⟩
  try simp only [Act.put, List.setIfInBounds_toArray, List.set_cons_zero, List.set_cons_succ, Nat.reduceAdd]
  repeat (first | (refine flow_val (v := ?_) (by rfl) (by rfl) (fun w hb => ?_) ?_; rotate_left; (· ((go_simp) <;> ((repeat' apply And.intro) <;> with_reducible rfl))); try simp only [Act.put, List.setIfInBounds_toArray, List.set_cons_zero, List.set_cons_succ, Nat.reduceAdd]) | (refine flow_skip (by rfl) (by rfl) ?_; try simp only [Act.put, List.setIfInBounds_toArray, List.set_cons_zero, List.set_cons_succ, Nat.reduceAdd]))
  refine flow_nil fun W2 hb2 hf => ?_
  have HN4 := Lib.hid (HN3.out.next hb2)
  have HO3 := Lib.hid hf.1
  have HO2 := Lib.hid hf.2.1
  have HO1 := Lib.hid hf.2.2.1
  have y5 : W2.cell? ⟨g, 5, none⟩ = some (.slice n2.A1 n2.wd.length n2.c1) := HN4.out.bx.cell 5
  have y6 : W2.cell? ⟨g, 6, none⟩ = some (.slice n2.A2 n2.md.length n2.c2) := HN4.out.bx.cell 6
  have y7 : W2.cell? ⟨g, 7, none⟩ = some (.slice n2.A3 n2.mo.length n2.c3) := HN4.out.bx.cell 7
  have yf : ∀ i, W2.frozen? ⟨g, i, none⟩ = false := fun i => HN4.out.bx.free i
  have yl := HN4.out.bx.lt
  clear hf hb2 x5 x6 x7 HS1 HS2 HS3 HN3
  have hgl : g < wc.heap.size ∧ g + 1 < wc.heap.size := by
    obtain ⟨q1, q2⟩ := HGl.out
    exact ⟨q1, q2⟩
  have R1 := RowF.own (g := g) (g' := g + 1) HO1.out rfl hgl.1 hgl.2
  have R2 := RowF.own (g := g) (g' := g + 1) HO2.out rfl hgl.1 hgl.2
  have R3 := RowF.own (g := g) (g' := g + 1) HO3.out rfl hgl.1 hgl.2
  have HN5 := Lib.hid (((HN4.out.put_wd B1 (srt n2.wd) d1 R1 e1 e1').put_md B2 (srt n2.md) d2 (R2.set_ g 5 _ (.inl rfl)) e2 e2').put_mo B3 (srt n2.mo) d3 ((R3.set_ g 5 _ (.inl rfl)).set_ g 6 _ (.inl rfl)) e3 e3')
  have HNo := Lib.hid (HCvt.out.norm B1 B2 B3 d1 d2 d3)
  clear R1 R2 R3 HO1 HO2 HO3 HCvt HGl hgl
  go_upto_region 18 with fail
  clear y5 y6 y7 yf yl HN4 HSl hn1 hn2 hn3 hm1 hm2 hm3
  generalize ((W2.setCell ⟨g, 5, none⟩ (.slice B1 (srt n2.wd).length d1)).setCell ⟨g, 6, none⟩ (.slice B2 (srt n2.md).length d2)).setCell ⟨g, 7, none⟩ (.slice B3 (srt n2.mo).length d3) = W3 at *
  obtain ⟨n3, hn3⟩ : ∃ n3 : Rc, n3 = { n2 with wd := srt n2.wd, A1 := B1, c1 := d1, md := srt n2.md, A2 := B2, c2 := d2, mo := srt n2.mo, A3 := B3, c3 := d3 } := ⟨_, rfl⟩
  rw [← hn3] at HN5 HNo
  clear hn3 e1 e1' e2 e2' e3 e3'
  have HB8 := below_set8 HN5.out.bl (g + 1) HN5.out.o2 (.int .i64 n3.un) (.int .i64 n3.ev) (.int .i64 n3.fr) (.int .i64 n3.co) (.int .i64 n3.ut) (.slice n3.A1 n3.wd.length n3.c1) (.slice n3.A2 n3.md.length n3.c2) (.slice n3.A3 n3.mo.length n3.c3)
  have HX8 := box_set8 HN5.out.br (.int .i64 n3.un) (.int .i64 n3.ev) (.int .i64 n3.fr) (.int .i64 n3.co) (.int .i64 n3.ut) (.slice n3.A1 n3.wd.length n3.c1) (.slice n3.A2 n3.md.length n3.c2) (.slice n3.A3 n3.mo.length n3.c3)
  have R1 := HN5.out.r1.set8 (.int .i64 n3.un) (.int .i64 n3.ev) (.int .i64 n3.fr) (.int .i64 n3.co) (.int .i64 n3.ut) (.slice n3.A1 n3.wd.length n3.c1) (.slice n3.A2 n3.md.length n3.c2) (.slice n3.A3 n3.mo.length n3.c3)
  have R2 := HN5.out.r2.set8 (.int .i64 n3.un) (.int .i64 n3.ev) (.int .i64 n3.fr) (.int .i64 n3.co) (.int .i64 n3.ut) (.slice n3.A1 n3.wd.length n3.c1) (.slice n3.A2 n3.md.length n3.c2) (.slice n3.A3 n3.mo.length n3.c3)
  have R3 := HN5.out.r3.set8 (.int .i64 n3.un) (.int .i64 n3.ev) (.int .i64 n3.fr) (.int .i64 n3.co) (.int .i64 n3.ut) (.slice n3.A1 n3.wd.length n3.c1) (.slice n3.A2 n3.md.length n3.c2) (.slice n3.A3 n3.mo.length n3.c3)
  dsimp only [set8] at HB8 HX8 R1 R2 R3
  have HB9 := Lib.hid HB8
  have HX9 := Lib.hid HX8
  have HI9 := Lib.hid (And.intro R1 (And.intro R2 R3))
  have HFit := Lib.hid HN5.out.fit
  obtain ⟨x0, x1, x2, x3, x4, x5, x6, x7⟩ := rcells HN5.out.bx
  obtain ⟨y0, y1, y2, y3, y4, y5, y6, y7⟩ : W3.cell? ⟨g + 1, 0, none⟩ = some (.int .i64 0) ∧ W3.cell? ⟨g + 1, 1, none⟩ = some (.int .i64 0) ∧ W3.cell? ⟨g + 1, 2, none⟩ = some (.int .i64 0) ∧ W3.cell? ⟨g + 1, 3, none⟩ = some (.int .i64 0) ∧ W3.cell? ⟨g + 1, 4, none⟩ = some (.int .i64 0) ∧ W3.cell? ⟨g + 1, 5, none⟩ = some (.slice none 0 0) ∧ W3.cell? ⟨g + 1, 6, none⟩ = some (.slice none 0 0) ∧ W3.cell? ⟨g + 1, 7, none⟩ = some (.slice none 0 0) := ⟨HN5.out.br.cell 0, HN5.out.br.cell 1, HN5.out.br.cell 2, HN5.out.br.cell 3, HN5.out.br.cell 4, HN5.out.br.cell 5, HN5.out.br.cell 6, HN5.out.br.cell 7⟩
  have yf : ∀ i, W3.frozen? ⟨g + 1, i, none⟩ = false := fun i => HN5.out.br.free i
  have yl := HN5.out.br.lt
  clear HB8 HX8 R1 R2 R3 HN5
  go_wp2_with fail
  clear x0 x1 x2 x3 x4 x5 x6 x7 y0 y1 y2 y3 y4 y5 y6 y7 yf yl
  generalize (((((((W3.setCell ⟨g + 1, 0, none⟩ (.int .i64 n3.un)).setCell ⟨g + 1, 1, none⟩ (.int .i64 n3.ev)).setCell ⟨g + 1, 2, none⟩ (.int .i64 n3.fr)).setCell ⟨g + 1, 3, none⟩ (.int .i64 n3.co)).setCell ⟨g + 1, 4, none⟩ (.int .i64 n3.ut)).setCell ⟨g + 1, 5, none⟩ (.slice n3.A1 n3.wd.length n3.c1)).setCell ⟨g + 1, 6, none⟩ (.slice n3.A2 n3.md.length n3.c2)).setCell ⟨g + 1, 7, none⟩ (.slice n3.A3 n3.mo.length n3.c3) = W8 at *
  obtain ⟨z0, z1, z2, z3, z4, z5, z6, z7⟩ := rcells (r := n3) HX9.out
  refine bodyPost_ret (v := .tuple #[n3.val, .int .i64 0]) (by simp [results, Tryd.results5, go_sem, z0, z1, z2, z3, z4, z5, z6, z7]) rfl ?_
  rw [HFe.out] at HNo
  exact NmQ.yes HOk.out HNo.out ⟨HI9.out.1.row, HI9.out.2.1.row, HI9.out.2.2.row⟩ HFit.out HB9.out
end Go.Proofs.YtonhmgdokghoeaaDoor

/- Contracts of recur.show and recur.Print. -/
namespace Go.Proofs.YtonhmgdokghoeaaDoor
open Go Go.RowKit Go.Lib
set_option linter.unusedVariables false

def strsData {H : Type} (zs : List (List UInt8)) : DataW H := .agg (zs.map fun z => .lit (.string z))
/-- an array of strings that reads as the table holds the table's texts -/
theorem cells_of_strs {H : Type} {enc : TypeId × Value → H} {P : Program} {w : World} {base : Nat} {sp : Nat → Bool} {held : Bool} {fuel : Nat} {t e : TypeId} {n : Nat} {cs : List Value} {zs : List (List UInt8)} {p : List MemPlace}
    (ht : P.underlying t = some (.array n e)) (he : P.underlying e = some .string) (hce : P.cellsOf e = 1) (hct : P.cellsOf t = n)
    (h : DataW.trod enc P w base sp held fuel t cs = some (strsData zs, p)) : cs = zs.map fun z => Value.string (str z) := by
  cases fuel with
  | zero => simp [DataW.trod] at h
  | succ fuel =>
    simp only [DataW.trod, ht, hce, hct, Nat.mul_one] at h
    split at h
    · rename_i hl
      obtain ⟨xs, hm, hx⟩ := Option.map_eq_some_iff.1 h
      have hxs : xs.map (·.1) = zs.map fun z => (DataW.lit (.string z) : DataW H) := by
        have := congrArg Prod.fst hx
        simpa [strsData] using this
      have hxl : xs.length = n := by simpa using mapM_length hm
      have hzl : zs.length = n := by
        have := congrArg List.length hxs
        simp at this
        omega
      apply List.ext_getElem?
      intro i
      by_cases hi : i < n
      · obtain ⟨b, hb, hf⟩ := mapM_at hm i i (by simp [hi])
        obtain ⟨z, hc, rfl, _⟩ := DataW.trod_string he hf
        have h1 : cs[i]? = some (.string z) := by
          have := congrArg (·[0]?) hc
          simpa [List.getElem?_take, List.getElem?_drop] using this
        have h2 : (xs.map (·.1))[i]? = some (DataW.lit (.string z.data.toList) : DataW H) := by simp [hb]
        rw [hxs] at h2
        simp only [List.getElem?_map, Option.map_eq_some_iff, DataW.lit.injEq, Lit.string.injEq] at h2
        obtain ⟨z', hz', rfl⟩ := h2
        simp [h1, hz', str]
      · rw [List.getElem?_eq_none (by omega), List.getElem?_eq_none (by simp; omega)]
    · cases h

def unZ : List (List UInt8) := [[], [100, 97, 121], [119, 101, 101, 107], [109, 111, 110, 116, 104], [121, 101, 97, 114]]
def unW (k : Nat) : List UInt8 := unZ.getD k []
def Uns (w : World) : Prop := ∀ k, k < 5 → w.cell? ⟨0, k, none⟩ = some (.string (str (unW k)))
theorem Uns.next {w w' : World} (h : Uns w) (hb : Below w.heap.size w w') : Uns w' := fun k hk => (hb.cell (p := ⟨0, k, none⟩) (block_lt_of_cell (h k hk))).trans (h k hk)
theorem un_datum : (Rows.laid_ephemeris_recur_units : DataW Unit) = strsData unZ := by kernel_rfl
theorem gUn : Tryd.prog.globalNamed "ephemeris/recur.units" = some 0 := by kernel_rfl
theorem gUnType : (Tryd.prog.globals[0]?).map (·.type) = some 57 := by kernel_rfl
theorem uns_of {W : World} {rest : List (String × DataW Unit)} (h : laidMet Tryd.prog (("ephemeris/recur.units", Rows.laid_ephemeris_recur_units) :: rest) W) : Uns W := by
  rw [un_datum] at h
  obtain ⟨ps, ⟨g', t', cs, fuel, p, q, hg', ht', hvar, hd, _, _⟩, _⟩ := h
  obtain rfl := Option.some.inj (gUn.symm.trans hg')
  obtain rfl := Option.some.inj (gUnType.symm.trans ht')
  have hcs := cells_of_strs Tryd.underlying57 Tryd.underlying9 (by kernel_rfl) (by kernel_rfl) hd
  intro k hk
  have := World.var?_cell gUn hvar k
  rw [this]
  have h2 : ∀ k : Nat, k < 5 → unZ[k]? = some (unW k) := by decide
  have h3 : cs.toList[k]? = some (.string (str (unW k))) := by rw [hcs, List.getElem?_map, h2 k hk]; rfl
  simpa using h3
/-- the lists of a recurrence, by number -/
def Rc.lK (r : Rc) (k : Nat) : List Int := if k = 0 then r.wd else if k = 1 then r.md else r.mo
def Rc.aK (r : Rc) (k : Nat) : Option Addr := if k = 0 then r.A1 else if k = 1 then r.A2 else r.A3
def Rc.cK (r : Rc) (k : Nat) : Nat := if k = 0 then r.c1 else if k = 1 then r.c2 else r.c3
def wK (k : Nat) : List UInt8 := if k = 0 then [119, 101, 101, 107, 100, 97, 121, 115] else if k = 1 then [109, 111, 110, 116, 104, 100, 97, 121, 115] else [109, 111, 110, 116, 104, 115]
abbrev wAgg : Array Value := #[.string ⟨#[119, 101, 101, 107, 100, 97, 121, 115]⟩, .string ⟨#[109, 111, 110, 116, 104, 100, 97, 121, 115]⟩, .string ⟨#[109, 111, 110, 116, 104, 115]⟩]
set_option maxRecDepth 100000 in
theorem run_w3 (k : Nat) (hk : k < 3) (W : World) : (Instr.index 59 (.agg wAgg) (.int .i64 (k : Int))).run Tryd.prog W = .ok (.string (str (wK k))) W := by
  match k, hk with
  | 0, _ | 1, _ | 2, _ => (show _ = _; kernel_rfl)
set_option maxRecDepth 100000 in
theorem run_l3 (r : Rc) (k : Nat) (hk : k < 3) (W : World) : (Instr.index 58 (.agg #[.slice r.A1 r.wd.length r.c1, .slice r.A2 r.md.length r.c2, .slice r.A3 r.mo.length r.c3]) (.int .i64 (k : Int))).run Tryd.prog W = .ok (.slice (r.aK k) (r.lK k).length (r.cK k)) W := by
  match k, hk with
  | 0, _ | 1, _ | 2, _ => (show _ = _; rfl)
/-- the text of a recurrence -/
def rcH (r : Rc) : ByteArray := ((((((⟨#[101, 118, 101, 114, 121, 32]⟩ ++ str (itoa r.ev)) ++ ⟨#[32]⟩) ++ str (unW r.un.toNat)) ++ ⟨#[32, 102, 114, 111, 109, 32]⟩) ++ str (itoa r.fr)) ++ ⟨#[32, 117, 110, 116, 105, 108, 32]⟩) ++ str (itoa r.ut)
def rcT (r : Rc) : ByteArray := if r.co = 0 then rcH r else rcH r ++ (⟨#[32, 116, 105, 109, 101, 115, 32]⟩ ++ str (itoa r.co))
def rcP (r : Rc) : Nat → ByteArray
  | 0 => rcT r
  | k + 1 => if 0 < (r.lK k).length then rcP r k ++ (((⟨#[32]⟩ ++ str (wK k)) ++ ⟨#[32]⟩) ++ str (jnL (r.lK k))) else rcP r k
theorem unW_len (k : Nat) : (unW k).length ≤ 5 := by
  unfold unW
  rw [List.getD_eq_getElem?_getD]
  match k with
  | 0 | 1 | 2 | 3 | 4 => decide
  | k + 5 => simp [unZ]
theorem wK_len (k : Nat) : (wK k).length ≤ 9 := by unfold wK; (repeat' split) <;> decide
theorem Rc.lK_ok {r : Rc} (ok : RcOk r) (k : Nat) : (r.lK k).length ≤ 31 ∧ ∀ x ∈ r.lK k, -31 ≤ x ∧ x ≤ 31 := by
  unfold Rc.lK
  (repeat' split)
  · have := (listOk_iff _ _ _ _).1 ok.wd; exact ⟨this.1, fun x hx => by have := this.2.1 x hx; omega⟩
  · have := (listOk_iff _ _ _ _).1 ok.md; exact ⟨this.1, fun x hx => by have := this.2.1 x hx; omega⟩
  · have := (listOk_iff _ _ _ _).1 ok.mo; exact ⟨this.1, fun x hx => by have := this.2.1 x hx; omega⟩
theorem Rc.lK_row {r : Rc} {w : World} (h : RcIn w r) (k : Nat) : Row w w.heap.size (r.aK k) (ints (r.lK k)) := by
  unfold Rc.lK Rc.aK
  (repeat' split)
  · exact h.r1
  · exact h.r2
  · exact h.r3
theorem jnL_size {r : Rc} (ok : RcOk r) (k : Nat) : (str (jnL (r.lK k))).size ≤ 700 := by
  obtain ⟨h1, h2⟩ := Rc.lK_ok ok k
  have := jnL_len (r.lK k) (fun x hx => by have := h2 x hx; omega)
  rw [str_size]
  omega
theorem wK_size (k : Nat) : (str (wK k)).size ≤ 9 := by rw [str_size]; exact wK_len k
theorem unW_size (k : Nat) : (str (unW k)).size ≤ 5 := by rw [str_size]; exact unW_len k
theorem rcT_size {r : Rc} (ok : RcOk r) : (rcH r).size ≤ 100 ∧ (rcT r).size ≤ 130 := by
  have a1 := itoa_size r.ev (by have := ok.e1; omega) (by have := ok.e2; omega)
  have a2 := itoa_size r.fr (by have := ok.f1; omega) (by have := ok.f1; omega)
  have a3 := itoa_size r.ut (by have := ok.t1; omega) (by have := ok.t1; omega)
  have a4 := itoa_size r.co (by have := ok.c1; omega) (by have := ok.c2; omega)
  have a5 := unW_size r.un.toNat
  have l1 : (⟨#[101, 118, 101, 114, 121, 32]⟩ : ByteArray).size = 6 := rfl
  have l2 : (⟨#[32]⟩ : ByteArray).size = 1 := rfl
  have l3 : (⟨#[32, 102, 114, 111, 109, 32]⟩ : ByteArray).size = 6 := rfl
  have l4 : (⟨#[32, 117, 110, 116, 105, 108, 32]⟩ : ByteArray).size = 7 := rfl
  have l5 : (⟨#[32, 116, 105, 109, 101, 115, 32]⟩ : ByteArray).size = 7 := rfl
  have h : (rcH r).size ≤ 100 := by unfold rcH; simp only [ByteArray.size_append, l1, l2, l3, l4]; omega
  refine ⟨h, ?_⟩
  unfold rcT
  split
  · omega
  · simp only [ByteArray.size_append, l5]; omega
set_option maxRecDepth 100000 in
theorem rcP_size {r : Rc} (ok : RcOk r) : ∀ k, (rcP r k).size ≤ 130 + k * 720
  | 0 => by rw [rcP]; have := (rcT_size ok).2; omega
  | k + 1 => by
    have h1 := rcP_size ok k
    have h2 := jnL_size ok k
    have h3 := wK_size k
    have l2 : (⟨#[32]⟩ : ByteArray).size = 1 := rfl
    show (if 0 < (r.lK k).length then rcP r k ++ (((⟨#[32]⟩ ++ str (wK k)) ++ ⟨#[32]⟩) ++ str (jnL (r.lK k))) else rcP r k : ByteArray).size ≤ _
    generalize rcP r k = X at *
    by_cases h : 0 < (r.lK k).length
    · rw [if_pos h, ByteArray.size_append, ByteArray.size_append, ByteArray.size_append, ByteArray.size_append, l2]; omega
    · rw [if_neg h]; omega
end Go.Proofs.YtonhmgdokghoeaaDoor

/- Contract of recur.show. -/
namespace Go.Proofs.YtonhmgdokghoeaaDoor
open Go Go.RowKit Go.Lib
set_option linter.unusedVariables false

set_option maxHeartbeats 4000000 in
set_option maxRecDepth 100000 in
theorem rshow_any (r : Rc) (w : World) (hr : RcIn w r) (ok : RcOk r) (hp : Pow w) (hu : Uns w) : Calls Tryd.prog 15 #[r.val] w fun e w' => e = .returned (.string (rcP r 3)) ∧ Below w.heap.size w w' := by
  have HB := Lib.hid (below_alloc1 w (Obj.cells r.cells 24))
  have HX := Lib.hid (Box.new w 24 r.cells)
  have HR := Lib.hid (fun W (h : Below w.heap.size w W) => hr.next h)
  have HOk := Lib.hid ok
  have HE := Lib.hid (fun W (h : Below w.heap.size w W) => itoa_any r.ev W (by have := ok.e1; omega) (by have := ok.e2; omega) (hp.next h))
  have HFr := Lib.hid (fun W (h : Below w.heap.size w W) => itoa_any r.fr W (by have := ok.f1; omega) (by have := ok.f1; omega) (hp.next h))
  have HUt := Lib.hid (fun W (h : Below w.heap.size w W) => itoa_any r.ut W (by have := ok.t1; omega) (by have := ok.t1; omega) (hp.next h))
  have HCo := Lib.hid (fun W (h : Below w.heap.size w W) => itoa_any r.co W (by have := ok.c1; omega) (by have := ok.c2; omega) (hp.next h))
  have HJn := Lib.hid (fun k (hk : 0 < (r.lK k).length) W (h : Below w.heap.size w W) => join_any (r.aK k) (r.cK k) (r.lK k) W (hp.next h) (Rc.lK_row (hr.next h) k) hk (Rc.lK_ok ok k).1 (fun x hx => by have := (Rc.lK_ok ok k).2 x hx; omega))
  have hu1 := ok.u1
  have hu2 := ok.u2
  obtain ⟨j, hj⟩ : ∃ j : Nat, r.un = (j : Int) := ⟨r.un.toNat, by omega⟩
  have hj5 : j < 5 := by omega
  have hj5' : (j : Int) < 5 := by omega
  have hus := (hu.next HB.out) j hj5
  have hul := block_lt_of_cell hus
  have s1 := itoa_size r.ev (by have := ok.e1; omega) (by have := ok.e2; omega)
  have s2 := itoa_size r.fr (by have := ok.f1; omega) (by have := ok.f1; omega)
  have s3 := itoa_size r.ut (by have := ok.t1; omega) (by have := ok.t1; omega)
  have s4 := itoa_size r.co (by have := ok.c1; omega) (by have := ok.c2; omega)
  have s5 := unW_size j
  have HTs := Lib.hid (rcT_size ok)
  have HPs := Lib.hid (rcP_size ok)
  have HJs := Lib.hid (jnL_size ok)
  have eH : rcH r = ((((((⟨#[101, 118, 101, 114, 121, 32]⟩ ++ str (itoa r.ev)) ++ ⟨#[32]⟩) ++ str (unW j)) ++ ⟨#[32, 102, 114, 111, 109, 32]⟩) ++ str (itoa r.fr)) ++ ⟨#[32, 117, 110, 116, 105, 108, 32]⟩) ++ str (itoa r.ut) := by
    unfold rcH
    rw [hj]
    rfl
  have HEH := Lib.hid eH
  clear hr ok hp hu eH hu1 hu2
  have hl1 : (⟨#[101, 118, 101, 114, 121, 32]⟩ : ByteArray).size = 6 := rfl
  have hl2 : (⟨#[32]⟩ : ByteArray).size = 1 := rfl
  have hl3 : (⟨#[32, 102, 114, 111, 109, 32]⟩ : ByteArray).size = 6 := rfl
  have hl4 : (⟨#[32, 117, 110, 116, 105, 108, 32]⟩ : ByteArray).size = 7 := rfl
  go_enter Tryd.func15, Tryd.ntmps15
  go_upto_region 1 with fail
  generalize w.alloc (Obj.cells r.cells 24) = W1 at *
  obtain ⟨g, hg⟩ : ∃ g, g = w.heap.size := ⟨_, rfl⟩
  rw [← hg] at HX ⊢
  have HG := Lib.hid hg
  clear hg
  have HJe := Lib.hid hj
  generalize hSe : str (itoa r.ev) = Se at *
  generalize hSf : str (itoa r.fr) = Sf at *
  generalize hSu : str (itoa r.ut) = Su at *
  generalize hSc : str (itoa r.co) = Sc at *
  generalize hSn : str (unW j) = Sn at *
  have x0 : ∀ W, Below W1.heap.size W1 W → W.cell? ⟨g, 0, none⟩ = some (.int .i64 (j : Int)) := fun W hW => by rw [← HJe.out]; exact (HX.out.below hW).cell 0
  have x1 : ∀ W, Below W1.heap.size W1 W → W.cell? ⟨g, 1, none⟩ = some (.int .i64 r.ev) := fun W hW => (HX.out.below hW).cell 1
  have x2 : ∀ W, Below W1.heap.size W1 W → W.cell? ⟨g, 2, none⟩ = some (.int .i64 r.fr) := fun W hW => (HX.out.below hW).cell 2
  have x4 : ∀ W, Below W1.heap.size W1 W → W.cell? ⟨g, 4, none⟩ = some (.int .i64 r.ut) := fun W hW => (HX.out.below hW).cell 4
  have zu : ∀ W, Below W1.heap.size W1 W → W.cell? ⟨0, j, none⟩ = some (.string Sn) := fun W hW => (hW.cell (p := ⟨0, j, none⟩) hul).trans hus
  have r1 : (⟨#[101, 118, 101, 114, 121, 32]⟩ ++ Se : ByteArray).size ≤ 27 := by rw [ByteArray.size_append]; omega
  have r2 : ((⟨#[101, 118, 101, 114, 121, 32]⟩ ++ Se) ++ ⟨#[32]⟩ : ByteArray).size ≤ 28 := by rw [ByteArray.size_append]; omega
  have r3 : (((⟨#[101, 118, 101, 114, 121, 32]⟩ ++ Se) ++ ⟨#[32]⟩) ++ Sn : ByteArray).size ≤ 33 := by rw [ByteArray.size_append]; omega
  have r4 : ((((⟨#[101, 118, 101, 114, 121, 32]⟩ ++ Se) ++ ⟨#[32]⟩) ++ Sn) ++ ⟨#[32, 102, 114, 111, 109, 32]⟩ : ByteArray).size ≤ 39 := by rw [ByteArray.size_append]; omega
  have r5 : (((((⟨#[101, 118, 101, 114, 121, 32]⟩ ++ Se) ++ ⟨#[32]⟩) ++ Sn) ++ ⟨#[32, 102, 114, 111, 109, 32]⟩) ++ Sf : ByteArray).size ≤ 60 := by rw [ByteArray.size_append]; omega
  have r6 : ((((((⟨#[101, 118, 101, 114, 121, 32]⟩ ++ Se) ++ ⟨#[32]⟩) ++ Sn) ++ ⟨#[32, 102, 114, 111, 109, 32]⟩) ++ Sf) ++ ⟨#[32, 117, 110, 116, 105, 108, 32]⟩ : ByteArray).size ≤ 67 := by rw [ByteArray.size_append]; omega
  have r7 : (((((((⟨#[101, 118, 101, 114, 121, 32]⟩ ++ Se) ++ ⟨#[32]⟩) ++ Sn) ++ ⟨#[32, 102, 114, 111, 109, 32]⟩) ++ Sf) ++ ⟨#[32, 117, 110, 116, 105, 108, 32]⟩) ++ Su : ByteArray).size ≤ 88 := by rw [ByteArray.size_append]; omega
  clear hus
  refine flow_begin (tellOf [(2, det (.string Se)), (13, det (.string Sf)), (18, det (.string Su))]) (by kernel_rfl) (by kernel_rfl) ?_
  repeat (first | (refine flow_val (v := ?_) (by rfl) (by rfl) (fun w hb => ?_) ?_; rotate_left; (· ((go_simp) <;> ((repeat' apply And.intro) <;> with_reducible rfl))); try simp only [Act.put, List.setIfInBounds_toArray, List.set_cons_zero, List.set_cons_succ, Nat.reduceAdd]) | (refine flow_val (v := ?_) (by rfl) (by rfl) (fun w hb => ?_) ?_; rotate_left; (· (go_simp; (refine (if_neg ?_).trans ?_); (· omega); (· with_reducible rfl))); try simp only [Act.put, List.setIfInBounds_toArray, List.set_cons_zero, List.set_cons_succ, Nat.reduceAdd]) | (refine flow_skip (by rfl) (by rfl) ?_; try simp only [Act.put, List.setIfInBounds_toArray, List.set_cons_zero, List.set_cons_succ, Nat.reduceAdd]))
  refine flow_call (f := ?_) (args := ?_) [] (by kernel_rfl) (by rfl) (by rfl) (fun w hb => ?_) (fun w hb hu => ?_) ?_; rotate_left 2; (· ((go_simp) <;> ((repeat' apply And.intro) <;> with_reducible rfl)))
  · exact HE.out _ (below_then HB.out hb)
  try simp only [Act.put, List.setIfInBounds_toArray, List.set_cons_zero, List.set_cons_succ, Nat.reduceAdd]
  repeat (first | (refine flow_val (v := ?_) (by rfl) (by rfl) (fun w hb => ?_) ?_; rotate_left; (· ((go_simp) <;> ((repeat' apply And.intro) <;> with_reducible rfl))); try simp only [Act.put, List.setIfInBounds_toArray, List.set_cons_zero, List.set_cons_succ, Nat.reduceAdd]) | (refine flow_val (v := ?_) (by rfl) (by rfl) (fun w hb => ?_) ?_; rotate_left; (· (go_simp; (refine (if_neg ?_).trans ?_); (· omega); (· with_reducible rfl))); try simp only [Act.put, List.setIfInBounds_toArray, List.set_cons_zero, List.set_cons_succ, Nat.reduceAdd]) | (refine flow_skip (by rfl) (by rfl) ?_; try simp only [Act.put, List.setIfInBounds_toArray, List.set_cons_zero, List.set_cons_succ, Nat.reduceAdd]))
  refine flow_call (f := ?_) (args := ?_) [] (by kernel_rfl) (by rfl) (by rfl) (fun w hb => ?_) (fun w hb hu => ?_) ?_; rotate_left 2; (· ((go_simp) <;> ((repeat' apply And.intro) <;> with_reducible rfl)))
  · exact HFr.out _ (below_then HB.out hb)
  try simp only [Act.put, List.setIfInBounds_toArray, List.set_cons_zero, List.set_cons_succ, Nat.reduceAdd]
  repeat (first | (refine flow_val (v := ?_) (by rfl) (by rfl) (fun w hb => ?_) ?_; rotate_left; (· ((go_simp) <;> ((repeat' apply And.intro) <;> with_reducible rfl))); try simp only [Act.put, List.setIfInBounds_toArray, List.set_cons_zero, List.set_cons_succ, Nat.reduceAdd]) | (refine flow_val (v := ?_) (by rfl) (by rfl) (fun w hb => ?_) ?_; rotate_left; (· (go_simp; (refine (if_neg ?_).trans ?_); (· omega); (· with_reducible rfl))); try simp only [Act.put, List.setIfInBounds_toArray, List.set_cons_zero, List.set_cons_succ, Nat.reduceAdd]) | (refine flow_skip (by rfl) (by rfl) ?_; try simp only [Act.put, List.setIfInBounds_toArray, List.set_cons_zero, List.set_cons_succ, Nat.reduceAdd]))
  refine flow_call (f := ?_) (args := ?_) [] (by kernel_rfl) (by rfl) (by rfl) (fun w hb => ?_) (fun w hb hu => ?_) ?_; rotate_left 2; (· ((go_simp) <;> ((repeat' apply And.intro) <;> with_reducible rfl)))
  · exact HUt.out _ (below_then HB.out hb)
  try simp only [Act.put, List.setIfInBounds_toArray, List.set_cons_zero, List.set_cons_succ, Nat.reduceAdd]
  repeat (first | (refine flow_val (v := ?_) (by rfl) (by rfl) (fun w hb => ?_) ?_; rotate_left; (· ((go_simp) <;> ((repeat' apply And.intro) <;> with_reducible rfl))); try simp only [Act.put, List.setIfInBounds_toArray, List.set_cons_zero, List.set_cons_succ, Nat.reduceAdd]) | (refine flow_val (v := ?_) (by rfl) (by rfl) (fun w hb => ?_) ?_; rotate_left; (· (go_simp; (refine (if_neg ?_).trans ?_); (· omega); (· with_reducible rfl))); try simp only [Act.put, List.setIfInBounds_toArray, List.set_cons_zero, List.set_cons_succ, Nat.reduceAdd]) | (refine flow_skip (by rfl) (by rfl) ?_; try simp only [Act.put, List.setIfInBounds_toArray, List.set_cons_zero, List.set_cons_succ, Nat.reduceAdd]))
  refine flow_nil fun W2 hb2 _ => ?_
  have HX2 := Lib.hid (HX.out.below hb2)
  have HB2 := Lib.hid (below_then HB.out hb2)
  clear hb2 x0 x1 x2 x4 zu HE HFr HUt HB HX r1 r2 r3 r4 r5 r6
  rw [← HEH.out]
  rw [← HEH.out] at r7
  have x3 : W2.cell? ⟨g, 3, none⟩ = some (.int .i64 r.co) := HX2.out.cell 3
  have hTs := HTs.out
  go_upto_if 28 with fail
  go_cut [3] (fun s3 wx => s3 = .string (rcT r) ∧ Hid (Below W2.heap.size W2 wx))
  case first =>
    by_cases hc : r.co = 0
    · have t1 : (r.co != 0) = false := by rw [bne_eq_false_iff_eq]; exact hc
      have HT : Hid (rcT r = rcH r) := by unfold Hid rcT; rw [if_pos hc]
      clear hc
      go_wp2_with fail
      go_meet
      exact ⟨by rw [HT.out], Below.refl _ _⟩
    · have t1 : (r.co != 0) = true := by rw [bne_iff_ne]; exact hc
      have HT : Hid (rcT r = rcH r ++ (⟨#[32, 116, 105, 109, 101, 115, 32]⟩ ++ Sc)) := by unfold Hid rcT; rw [if_neg hc, hSc]
      have HC1 := Lib.hid (HCo.out W2 HB2.out)
      have k1 : (⟨#[32, 116, 105, 109, 101, 115, 32]⟩ : ByteArray).size = 7 := rfl
      have k2 : (⟨#[32, 116, 105, 109, 101, 115, 32]⟩ ++ Sc : ByteArray).size ≤ 28 := by rw [ByteArray.size_append]; omega
      have k3 : (rcH r ++ (⟨#[32, 116, 105, 109, 101, 115, 32]⟩ ++ Sc) : ByteArray).size ≤ 130 := by rw [ByteArray.size_append]; omega
      clear hc
      generalize rcH r = H at *
      go_wp2_with fail
      refine HC1.out.mono ?_
      rintro e w3 ⟨rfl, hb3⟩
      have HB3 := Lib.hid hb3
      clear hb3 HC1 x3
      go_wp2_with fail
      go_meet
      exact ⟨by rw [HT.out], HB3⟩
  case rest =>
  obtain ⟨rfl, hbx⟩ := hcut
  have HX3 := Lib.hid (HX2.out.below hbx.out)
  have HB3 := Lib.hid (below_then HB2.out hbx.out)
  clear x3 hbx HB2 HX2 HCo hTs r7 hl1 hl3 hl4 s1 s2 s3 s4 s5 hSe hSf hSu hSc hSn HEH hj5 hj5' hul hj
  obtain ⟨y0, y1, y2, y3, y4, y5, y6, y7⟩ := rcells HX3.out
  go_wp2_with fail
  clear y0 y1 y2 y3 y4 y5 y6 y7
  go_loopw [3, 4, 5, 42] (fun s3 _ _ s42 wr => ∃ k : Nat, k ≤ 3 ∧ s42 = .int .i64 (k : Int) ∧ s3 = .string (rcP r k) ∧ Hid (Below wc.heap.size wc wr)) (fun _ _ _ s42 _ => 3 - (intOf s42).toNat)
  case atStart => exact ⟨0, by omega, rfl, rfl, Below.refl _ _⟩
  case round =>
    obtain ⟨k, hk, rfl, rfl, hbr⟩ := hrel
    have HBr := Lib.hid (below_then HB3.out hbr.out)
    by_cases hlt : k < 3
    case neg =>
      have hk3 : k = 3 := by omega
      have HK : Hid (rcP r k = rcP r 3) := by unfold Hid; rw [hk3]
      have t1 : decide ((k : Int) < 3) = false := decide_eq_false (by omega)
      clear hk3
      go_wp2_with fail
      go_ret
      exact ⟨by rw [← HK.out]; rfl, HBr.out⟩
    have hli : ∀ W, (Instr.index 58 (.agg #[.slice r.A1 r.wd.length r.c1, .slice r.A2 r.md.length r.c2, .slice r.A3 r.mo.length r.c3]) (.int .i64 (k : Int))).run Tryd.prog W = .ok (.slice (r.aK k) (r.lK k).length (r.cK k)) W := fun W => run_l3 r k hlt W
    have HP1 : Hid (rcP r (k + 1) = if 0 < (r.lK k).length then rcP r k ++ (((⟨#[32]⟩ ++ str (wK k)) ++ ⟨#[32]⟩) ++ str (jnL (r.lK k))) else rcP r k) := rfl
    have hps := HPs.out k
    have hjs := HJs.out k
    have hws := wK_size k
    have hll := (Rc.lK_ok HOk.out k).1
    have hk3' : (k : Int) < 3 := by omega
    have t1 : decide ((k : Int) < 3) = true := decide_eq_true hk3'
    by_cases hn : 0 < (r.lK k).length
    case neg =>
      have t2 : decide ((0 : Int) < ((r.lK k).length : Int)) = false := decide_eq_false (by omega)
      have t3 : decide (0 < (r.lK k).length) = false := decide_eq_false hn
      have HQ : Hid (rcP r (k + 1) = rcP r k) := by unfold Hid; rw [HP1.out, if_neg hn]
      clear HP1 hn
      go_wp2_with fail
      go_roundw
      case rel => exact ⟨k + 1, by omega, by go_num, by rw [HQ.out], hbr⟩
      case measure => simp [intOf]; omega
    have t2 : decide ((0 : Int) < ((r.lK k).length : Int)) = true := decide_eq_true (by omega)
    have t3 : decide (0 < (r.lK k).length) = true := decide_eq_true hn
    have HQ : Hid (rcP r (k + 1) = rcP r k ++ (((⟨#[32]⟩ ++ str (wK k)) ++ ⟨#[32]⟩) ++ str (jnL (r.lK k)))) := by unfold Hid; rw [HP1.out, if_pos hn]
    have HJ1 := Lib.hid (fun W hW => HJn.out k hn W hW)
    have hwi : ∀ W, (Instr.index 59 (.agg wAgg) (.int .i64 (k : Int))).run Tryd.prog W = .ok (.string (str (wK k))) W := fun W => run_w3 k hlt W
    clear HP1
    generalize hX : rcP r k = X at *
    generalize hJ : str (jnL (r.lK k)) = J at *
    generalize str (wK k) = Wd at *
    have q1 : (⟨#[32]⟩ ++ Wd : ByteArray).size ≤ 10 := by rw [ByteArray.size_append]; omega
    have q2 : ((⟨#[32]⟩ ++ Wd) ++ ⟨#[32]⟩ : ByteArray).size ≤ 11 := by rw [ByteArray.size_append]; omega
    have q3 : (((⟨#[32]⟩ ++ Wd) ++ ⟨#[32]⟩) ++ J : ByteArray).size ≤ 711 := by rw [ByteArray.size_append]; omega
    have q4 : (X ++ (((⟨#[32]⟩ ++ Wd) ++ ⟨#[32]⟩) ++ J) : ByteArray).size ≤ 4000 := by rw [ByteArray.size_append]; omega
    go_upto_region 8 with fail
    refine flow_begin (tellOf [(7, det (.string J))]) (by kernel_rfl) (by kernel_rfl) ?_
    repeat (first | (refine flow_val (v := ?_) (by rfl) (by rfl) (fun w hb => ?_) ?_; rotate_left; (· ((go_simp) <;> ((repeat' apply And.intro) <;> with_reducible rfl))); try simp only [Act.put, List.setIfInBounds_toArray, List.set_cons_zero, List.set_cons_succ, Nat.reduceAdd]) | (refine flow_val (v := ?_) (by rfl) (by rfl) (fun w hb => ?_) ?_; rotate_left; (· (go_simp; (refine (if_neg ?_).trans ?_); (· omega); (· with_reducible rfl))); try simp only [Act.put, List.setIfInBounds_toArray, List.set_cons_zero, List.set_cons_succ, Nat.reduceAdd]) | (refine flow_skip (by rfl) (by rfl) ?_; try simp only [Act.put, List.setIfInBounds_toArray, List.set_cons_zero, List.set_cons_succ, Nat.reduceAdd]))
    refine flow_call (f := ?_) (args := ?_) [] (by kernel_rfl) (by rfl) (by rfl) (fun w hb => ?_) (fun w hb hu => ?_) ?_; rotate_left 2; (· ((go_simp) <;> ((repeat' apply And.intro) <;> with_reducible rfl)))
    · exact HJ1.out _ (below_then HBr.out hb)
    try simp only [Act.put, List.setIfInBounds_toArray, List.set_cons_zero, List.set_cons_succ, Nat.reduceAdd]
    repeat (first | (refine flow_val (v := ?_) (by rfl) (by rfl) (fun w hb => ?_) ?_; rotate_left; (· ((go_simp) <;> ((repeat' apply And.intro) <;> with_reducible rfl))); try simp only [Act.put, List.setIfInBounds_toArray, List.set_cons_zero, List.set_cons_succ, Nat.reduceAdd]) | (refine flow_val (v := ?_) (by rfl) (by rfl) (fun w hb => ?_) ?_; rotate_left; (· (go_simp; (refine (if_neg ?_).trans ?_); (· omega); (· with_reducible rfl))); try simp only [Act.put, List.setIfInBounds_toArray, List.set_cons_zero, List.set_cons_succ, Nat.reduceAdd]) | (refine flow_skip (by rfl) (by rfl) ?_; try simp only [Act.put, List.setIfInBounds_toArray, List.set_cons_zero, List.set_cons_succ, Nat.reduceAdd]))
    refine flow_nil fun W4 hb4 _ => ?_
    have HB4 := Lib.hid (below_then hbr.out hb4)
    clear hb4 HJ1 hwi hli
    go_wp2_with fail
    go_roundw
    case rel => exact ⟨k + 1, by omega, by go_num, by rw [HQ.out], HB4⟩
    case measure => simp [intOf]; omega
/-- what Print says -/
def RPrQ (r : Rc) (w : World) (e : Ending) (w' : World) : Prop := Below w.heap.size w w' ∧ e = .returned (.tuple #[.string (rcP r 3), .int .i64 0])
set_option maxHeartbeats 1000000 in
set_option maxRecDepth 100000 in
theorem rprint2_any (r : Rc) (w : World) (hr : RcIn w r) (hf : RcFit r) (ok : RcOk r) (hp : Pow w) (hu : Uns w) : Calls Tryd.prog 6 #[r.val] w (RPrQ r w) := by
  have HB := Lib.hid (below_alloc1 w (Obj.cells r.cells 24))
  have HX := Lib.hid (Box.new w 24 r.cells)
  have HCk := Lib.hid (rcheck_any r _ (hr.next HB.out) hf)
  have HSh := Lib.hid (fun W (h : Below w.heap.size w W) => rshow_any r W (hr.next h) ok (hp.next h) (hu.next h))
  have HOk := Lib.hid ok
  unfold RPrQ
  generalize rcP r 3 = S at *
  clear hr hf ok hp hu
  obtain ⟨x0, x1, x2, x3, x4, x5, x6, x7⟩ := rcells HX.out
  go_enter Tryd.func6, Tryd.ntmps6
  go_wp2_with fail
  clear x0 x1 x2 x3 x4 x5 x6 x7
  generalize w.alloc (Obj.cells r.cells 24) = W1 at *
  refine HCk.out.mono ?_
  rintro e w2 ⟨E, rfl, hE, hb2⟩
  obtain rfl : E = 0 := hE.2 HOk.out
  have HB2 := Lib.hid (below_then HB.out hb2)
  have HX2 := Lib.hid (HX.out.below hb2)
  have HS2 := Lib.hid (HSh.out w2 HB2.out)
  clear hb2 hE HCk HB HX HSh
  obtain ⟨x0, x1, x2, x3, x4, x5, x6, x7⟩ := rcells HX2.out
  go_wp2_with fail
  refine HS2.out.mono ?_
  rintro e w3 ⟨rfl, hb3⟩
  have HB3 := Lib.hid (below_then HB2.out hb3)
  clear hb3 x0 x1 x2 x3 x4 x5 x6 x7 HS2
  go_wp2_with fail
  go_ret2
  exact ⟨HB3.out, rfl⟩
end Go.Proofs.YtonhmgdokghoeaaDoor
