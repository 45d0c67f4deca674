/- Srt1, Srt2, Srt3, Srt4, Srt5, Srt6, Srt7, Srt8, Srt9 -/
import Derived.WalkSpells
import Derived.Deep.DeepCutAuto
import Derived.Test.YtifhlmakacoicaaDoorGSrtPl
import Derived.Test.YtifhlmakacoicaaDoorGFlowS
import Derived.Test.YtifhlmakacoicaaDoorGBase
/- Edits in memory; the comparison; blocks of edits exchanged. -/
namespace Go.Proofs.YtifhlmakacoicaaDoor
open Go.RowKit
set_option linter.unusedVariables false

/-- an edit without its instant -/
structure EdR where
  k : Int
  o : Int
  l : ByteArray
abbrev Ed := Tg EdR
abbrev edV (x : Ed) : Value := .agg #[.int .i64 x.e.k, .int .i64 x.at_, .int .i64 x.e.o, .string x.e.l]
def set4 (w : World) (g o : Nat) (x : Ed) : World := (((w.setCell ⟨g, o, none⟩ (.int .i64 x.e.k)).setCell ⟨g, o + 1, none⟩ (.int .i64 x.at_)).setCell ⟨g, o + 2, none⟩ (.int .i64 x.e.o)).setCell ⟨g, o + 3, none⟩ (.string x.e.l)
/-- n edits at the beginning of a block -/
def EdIn (w : World) (g n : Nat) (d : Nat → Ed) : Prop := ∃ cur : Array Value, Box w g 58 cur ∧ n * 4 ≤ cur.size ∧ ∀ i, i < n → cur[i * 4]? = some (.int .i64 (d i).e.k) ∧ cur[i * 4 + 1]? = some (.int .i64 (d i).at_) ∧ cur[i * 4 + 2]? = some (.int .i64 (d i).e.o) ∧ cur[i * 4 + 3]? = some (.string (d i).e.l)
def upd (d : Nat → Ed) (i : Nat) (x : Ed) : Nat → Ed := fun k => if k = i then x else d k
theorem upd_upd (d : Nat → Ed) (i : Nat) (x y : Ed) : upd (upd d i x) i y = upd d i y := by
  funext k; unfold upd; split <;> rfl
theorem swp_upd (d : Nat → Ed) (i j : Nat) : upd (upd d i (d j)) j (d i) = swp d i j := by
  funext k
  unfold upd swp
  by_cases h : k = j
  · rw [if_pos h]
    by_cases h' : k = i
    · rw [if_pos h']; subst h; rw [h']
    · rw [if_neg h', if_pos h]
  · rw [if_neg h, if_neg h]
theorem upd_self (d : Nat → Ed) (i : Nat) (x : Ed) (j : Nat) : upd (upd d i x) j (upd d i x j) = upd d i x := by
  funext k
  unfold upd
  split
  · rename_i h; subst h; rfl
  · rfl
theorem upd_again (d : Nat → Ed) (i j : Nat) (x y : Ed) (h : i ≠ j) : upd (upd (upd d i x) j y) i x = upd (upd d i x) j y := by
  funext k
  unfold upd
  split
  · rename_i e; subst e; rw [if_neg h]
  · rfl
theorem EdIn.below {w w' : World} {g n : Nat} {d : Nat → Ed} (h : EdIn w g n d) (hb : Below w.heap.size w w') : EdIn w' g n d := by
  obtain ⟨cur, h1, h2, h3⟩ := h
  exact ⟨cur, h1.below hb, h2, h3⟩
theorem EdIn.grown {w w' : World} {g n : Nat} {d : Nat → Ed} (h : EdIn w g n d) (hb : w.grownBy w' none) : EdIn w' g n d := by
  obtain ⟨cur, h1, h2, h3⟩ := h
  exact ⟨cur, h1.grown hb (by simp), h2, h3⟩
theorem EdIn.lt {w : World} {g n : Nat} {d : Nat → Ed} (h : EdIn w g n d) : g < w.heap.size := by
  obtain ⟨cur, h1, h2, h3⟩ := h
  exact h1.lt
theorem EdIn.free {w : World} {g n : Nat} {d : Nat → Ed} (h : EdIn w g n d) (i : Nat) : w.frozen? ⟨g, i, none⟩ = false := by
  obtain ⟨cur, h1, h2, h3⟩ := h
  exact h1.free i
theorem EdIn.cells {w : World} {g n : Nat} {d : Nat → Ed} (h : EdIn w g n d) (i : Nat) (hi : i < n) : w.cell? ⟨g, i * 4, none⟩ = some (.int .i64 (d i).e.k) ∧ w.cell? ⟨g, i * 4 + 1, none⟩ = some (.int .i64 (d i).at_) ∧ w.cell? ⟨g, i * 4 + 2, none⟩ = some (.int .i64 (d i).e.o) ∧ w.cell? ⟨g, i * 4 + 3, none⟩ = some (.string (d i).e.l) := by
  obtain ⟨cur, h1, h2, h3⟩ := h
  rw [h1.cell, h1.cell, h1.cell, h1.cell]
  exact h3 i hi
theorem EdIn.set4 {w : World} {g n : Nat} {d : Nat → Ed} (h : EdIn w g n d) (i : Nat) (x : Ed) (hi : i < n) : EdIn (set4 w g (i * 4) x) g n (upd d i x) := by
  obtain ⟨cur, h1, h2, h3⟩ := h
  refine ⟨_, (((h1.set_ (i * 4) _).set_ (i * 4 + 1) _).set_ (i * 4 + 2) _).set_ (i * 4 + 3) _, by simpa using h2, fun j hj => ?_⟩
  by_cases e : j = i
  · subst e
    unfold upd
    rw [if_pos rfl]
    refine ⟨?_, ?_, ?_, ?_⟩ <;> simp only [Array.getElem?_setIfInBounds, Array.size_setIfInBounds]
    · rw [if_neg (by omega), if_neg (by omega), if_neg (by omega), if_pos trivial, if_pos (by omega)]
    · rw [if_neg (by omega), if_neg (by omega), if_pos trivial, if_pos (by omega)]
    · rw [if_neg (by omega), if_pos trivial, if_pos (by omega)]
    · rw [if_pos trivial, if_pos (by omega)]
  · unfold upd
    rw [if_neg e]
    refine ⟨?_, ?_, ?_, ?_⟩ <;> simp only [Array.getElem?_setIfInBounds, Array.size_setIfInBounds]
    · rw [if_neg (by omega), if_neg (by omega), if_neg (by omega), if_neg (by omega)]; exact (h3 j hj).1
    · rw [if_neg (by omega), if_neg (by omega), if_neg (by omega), if_neg (by omega)]; exact (h3 j hj).2.1
    · rw [if_neg (by omega), if_neg (by omega), if_neg (by omega), if_neg (by omega)]; exact (h3 j hj).2.2.1
    · rw [if_neg (by omega), if_neg (by omega), if_neg (by omega), if_neg (by omega)]; exact (h3 j hj).2.2.2
theorem set4_grown (w : World) (g o : Nat) (x : Ed) : w.grownBy (set4 w g o x) (some g) :=
  (((grown_set w g o _).trans (grown_set _ g (o + 1) _)).trans (grown_set _ g (o + 2) _)).trans (grown_set _ g (o + 3) _)

theorem transV_cases {ms : List Nat} {T : Nat → World → World → Prop} {j : Nat} {w w' : World} (h : transV ms T j w w') : (j ∈ ms ∧ T j w w') ∨ w.grownBy w' none := by
  unfold transV at h
  by_cases hj : j ∈ ms
  · rw [if_pos hj] at h; exact .inl ⟨hj, h⟩
  · rw [if_neg hj] at h; exact .inr h

set_option maxRecDepth 100000 in
theorem cmp_any (x y : Ed) (w : World) (hx : -1000000000000000000 ≤ x.at_ ∧ x.at_ ≤ 1000000000000000000) (hy : -1000000000000000000 ≤ y.at_ ∧ y.at_ ≤ 1000000000000000000) :
    Calls Tryd.prog 51 #[edV x, edV y] w fun e w' => e = .returned (.int .i64 (x.at_ - y.at_)) ∧ Below w.heap.size w w' := by
  have h1 := below_alloc2 w (Obj.cells #[.int .i64 x.e.k, .int .i64 x.at_, .int .i64 x.e.o, .string x.e.l] 58) (Obj.cells #[.int .i64 y.e.k, .int .i64 y.at_, .int .i64 y.e.o, .string y.e.l] 58)
  have y1 := (Box.new w 58 #[.int .i64 x.e.k, .int .i64 x.at_, .int .i64 x.e.o, .string x.e.l]).alloc (Obj.cells #[.int .i64 y.e.k, .int .i64 y.at_, .int .i64 y.e.o, .string y.e.l] 58)
  have y2 := Box.new (w.alloc (Obj.cells #[.int .i64 x.e.k, .int .i64 x.at_, .int .i64 x.e.o, .string x.e.l] 58)) 58 #[.int .i64 y.e.k, .int .i64 y.at_, .int .i64 y.e.o, .string y.e.l]
  rw [World.size_alloc] at y2
  have t1 : IntKind.i64.wrap (x.at_ - y.at_) = x.at_ - y.at_ := IntWalk.i64_in _ (by omega)
  have HB := Lib.hid h1
  clear hx hy
  go_enter Tryd.func51, Tryd.ntmps51
  go_upto_region 1 with fail
  generalize (w.alloc (Obj.cells #[.int .i64 x.e.k, .int .i64 x.at_, .int .i64 x.e.o, .string x.e.l] 58)).alloc (Obj.cells #[.int .i64 y.e.k, .int .i64 y.at_, .int .i64 y.e.o, .string y.e.l] 58) = W0 at *
  have x1 : W0.cell? ⟨w.heap.size, 1, none⟩ = some (.int .i64 x.at_) := y1.cell 1
  have x2 : W0.cell? ⟨w.heap.size + 1, 1, none⟩ = some (.int .i64 y.at_) := y2.cell 1
  have l1 := y1.lt
  have l2 := y2.lt
  clear y1 y2 h1
  go_wp2_with fail
  go_ret
  exact ⟨rfl, HB.out⟩
end Go.Proofs.YtifhlmakacoicaaDoor

/- Two blocks of edits exchanged. -/
namespace Go.Proofs.YtifhlmakacoicaaDoor
open Go.RowKit
set_option linter.unusedVariables false

set_option maxHeartbeats 4000000 in
set_option maxRecDepth 100000 in
theorem swapRange_any (g n c a b m : Nat) (d : Nat → Ed) (F : Value) (w : World) (h : EdIn w g n d) (h1 : a + m ≤ b) (h2 : b + m ≤ n) (h3 : n ≤ 1000) :
    Calls Tryd.prog 113 #[.slice (some ⟨g, 0, none⟩) n c, .int .i64 (a : Int), .int .i64 (b : Int), .int .i64 (m : Int), F] w fun e w' => e = .returned (.tuple #[]) ∧ EdIn w' g n (swR d a b m) ∧ w.grownBy w' (some g) := by
  have HI := Lib.hid h
  clear h
  go_enter Tryd.func113, Tryd.ntmps113
  go_upto_region 1 with fail
  go_loopw [10] (fun i wr => ∃ k : Nat, k ≤ m ∧ i = .int .i64 (k : Int) ∧ Hid (EdIn wr g n (swR d a b k)) ∧ Hid (w.grownBy wr (some g))) (fun i _ => m - (intOf i).toNat)
  case atStart => exact ⟨0, by omega, rfl, by rw [swR_zero]; exact HI, World.grownBy.refl _ _⟩
  case round =>
    obtain ⟨k, hk, rfl, hE, hbr⟩ := hrel
    by_cases hlt : k < m
    · have t1 : decide ((k : Int) < (m : Int)) = true := decide_eq_true (by omega)
      obtain ⟨P, hPe⟩ : ∃ P, P = a + k := ⟨_, rfl⟩
      obtain ⟨Q, hQe⟩ : ∃ Q, Q = b + k := ⟨_, rfl⟩
      have hP : P < n := by omega
      have hQ : Q < n := by omega
      have HPQ : Hid (P ≠ Q) := show P ≠ Q by omega
      have bP : (0 : Int) ≤ (P : Int) ∧ (P : Int) < (n : Int) := by omega
      have bQ : (0 : Int) ≤ (Q : Int) ∧ (Q : Int) < (n : Int) := by omega
      obtain ⟨dr, hdr⟩ : ∃ dr, dr = swR d a b k := ⟨_, rfl⟩
      rw [← hdr] at hE
      have HDR := Lib.hid hdr
      have HE := Lib.hid hE.out
      clear hdr hE
      have e1 : IntKind.i64.wrap ((a : Int) + (k : Int)) = (P : Int) := by rw [IntWalk.i64_in _ (by omega)]; omega
      have e2 : IntKind.i64.wrap ((b : Int) + (k : Int)) = (Q : Int) := by rw [IntWalk.i64_in _ (by omega)]; omega
      have HPe := Lib.hid hPe
      have HQe := Lib.hid hQe
      clear hPe hQe
      go_upto_region 3 with fail
      have p0 : ∀ W, GrownL [] wr W → W.cell? ⟨g, P * 4, none⟩ = some (.int .i64 (dr P).e.k) := fun W hW => ((HE.out.below hW.bel).cells _ hP).1
      have p1 : ∀ W, GrownL [] wr W → W.cell? ⟨g, P * 4 + 1, none⟩ = some (.int .i64 (dr P).at_) := fun W hW => ((HE.out.below hW.bel).cells _ hP).2.1
      have p2 : ∀ W, GrownL [] wr W → W.cell? ⟨g, P * 4 + 2, none⟩ = some (.int .i64 (dr P).e.o) := fun W hW => ((HE.out.below hW.bel).cells _ hP).2.2.1
      have p3 : ∀ W, GrownL [] wr W → W.cell? ⟨g, P * 4 + 3, none⟩ = some (.string (dr P).e.l) := fun W hW => ((HE.out.below hW.bel).cells _ hP).2.2.2
      have q0 : ∀ W, GrownL [] wr W → W.cell? ⟨g, Q * 4, none⟩ = some (.int .i64 (dr Q).e.k) := fun W hW => ((HE.out.below hW.bel).cells _ hQ).1
      have q1 : ∀ W, GrownL [] wr W → W.cell? ⟨g, Q * 4 + 1, none⟩ = some (.int .i64 (dr Q).at_) := fun W hW => ((HE.out.below hW.bel).cells _ hQ).2.1
      have q2 : ∀ W, GrownL [] wr W → W.cell? ⟨g, Q * 4 + 2, none⟩ = some (.int .i64 (dr Q).e.o) := fun W hW => ((HE.out.below hW.bel).cells _ hQ).2.2.1
      have q3 : ∀ W, GrownL [] wr W → W.cell? ⟨g, Q * 4 + 3, none⟩ = some (.string (dr Q).e.l) := fun W hW => ((HE.out.below hW.bel).cells _ hQ).2.2.2
      obtain ⟨row, hrow⟩ : ∃ row : Nat → Option Nat, row = fun _ => some g := ⟨_, rfl⟩
      have hr : ∀ j, row j = some g := fun j => by rw [hrow]
      obtain ⟨LA, hLAe⟩ : ∃ LA, LA = [some g] := ⟨_, rfl⟩
      have hLA : ∀ j ∈ [21], row j ∈ LA := fun j _ => by rw [hr, hLAe]; exact List.mem_cons_self ..
      have hLB : ∀ W, GrownL LA wr W → wr.grownBy W (some g) := fun W h => by rw [hLAe] at h; exact ⟨h.os, h.tape, h.output, h.size, fun k hk hn => h.block k hk (by simpa using hn)⟩
      obtain ⟨TT, hTT⟩ : ∃ TT : Nat → World → World → Prop, TT = fun _ W W' => W' = set4 W g (P * 4) (dr Q) := ⟨_, rfl⟩
      have T1 : ∀ jj W W', TT jj W W' ↔ W' = set4 W g (P * 4) (dr Q) := fun jj W W' => by rw [hTT]
      clear hrow hLAe hTT
      have HR := Lib.hid hr
      have HT1 := Lib.hid T1
      have HLB := Lib.hid hLB
      clear hr T1 hLB
      refine flowV_begin_tail 22 [21] [(13, []), (19, []), (21, [])] row TT (tellOf []) (by kernel_rfl) (by kernel_rfl) (by kernel_rfl) (by rfl) (fun j hj W W' ht => by rw [(HT1.out j W W').1 ht, HR.out]; exact set4_grown _ _ _ _) ?_
      simp only [List.take_succ_cons, List.take_zero, List.drop_succ_cons, List.drop_zero]
      repeat (refine flowV_val (v := ?_) LA (by rfl) (by decide) hLA (by rfl) (by rfl) (fun w hb => ?_) ?_; rotate_left; (· ((go_simp) <;> ((repeat' apply And.intro) <;> with_reducible rfl))); try simp only [Act.put, List.setIfInBounds_toArray, List.set_cons_zero, List.set_cons_succ, Nat.reduceAdd])
      (refine flowV_pre (v := ?_) [] [] (by rfl) (by decide) (fun j hj => absurd hj (by simp)) (by rfl) (by rfl) (fun w hb => ?_) ?_; rotate_left; (· ((go_simp) <;> ((repeat' apply And.intro) <;> with_reducible rfl))); try simp only [Act.put, List.setIfInBounds_toArray, List.set_cons_zero, List.set_cons_succ, Nat.reduceAdd])
      repeat (refine flowV_val (v := ?_) LA (by rfl) (by decide) hLA (by rfl) (by rfl) (fun w hb => ?_) ?_; rotate_left; (· ((go_simp) <;> ((repeat' apply And.intro) <;> with_reducible rfl))); try simp only [Act.put, List.setIfInBounds_toArray, List.set_cons_zero, List.set_cons_succ, Nat.reduceAdd])
      (refine flowV_pre (v := ?_) [] [] (by rfl) (by decide) (fun j hj => absurd hj (by simp)) (by rfl) (by rfl) (fun w hb => ?_) ?_; rotate_left; (· ((go_simp) <;> ((repeat' apply And.intro) <;> with_reducible rfl))); try simp only [Act.put, List.setIfInBounds_toArray, List.set_cons_zero, List.set_cons_succ, Nat.reduceAdd])
      repeat (refine flowV_val (v := ?_) LA (by rfl) (by decide) hLA (by rfl) (by rfl) (fun w hb => ?_) ?_; rotate_left; (· ((go_simp) <;> ((repeat' apply And.intro) <;> with_reducible rfl))); try simp only [Act.put, List.setIfInBounds_toArray, List.set_cons_zero, List.set_cons_succ, Nat.reduceAdd])
      refine flowV_store (F := fun w => EdIn w g n (upd dr P (dr Q))) [] [] (by rfl) (fun j hj => absurd hj (by simp)) [] (by kernel_rfl) (by decide) (by rfl) (by rfl) (fun j hj hp w w' ht h => by (rcases transV_cases ht with ⟨hm, ht⟩ | ht); (· exact absurd (List.mem_singleton.1 hm) hj); (· exact h.grown ht)) (fun w hb hu => ?_) ?_
      · (have hy := HE.out.below hb.bel); (have qf := fun i => hy.free i); (have ql := hy.lt); (have u0 := (hy.cells _ hP).1); (have u1 := (hy.cells _ hP).2.1); (have u2 := (hy.cells _ hP).2.2.1); (have u3 := (hy.cells _ hP).2.2.2); (have h4 := hy.set4 P (dr Q) hP); (clear hy); (exact ⟨set4 w g (P * 4) (dr Q), by unfold set4; go_simp, h4, (HT1.out _ _ _).2 rfl⟩)
      refine flowV_nil LA (by rfl) hLA fun w1 hgrow hf => ?_
      have HE1 := Lib.hid hf.1
      have HG1 := Lib.hid (HLB.out w1 hgrow)
      clear p0 p1 p2 p3 q0 q1 q2 q3 hgrow hf HLB HT1 HR hLA
      clear LA TT row
      have qf := fun i => HE1.out.free i
      have ql := HE1.out.lt
      have u0 := (HE1.out.cells _ hQ).1
      have u1 := (HE1.out.cells _ hQ).2.1
      have u2 := (HE1.out.cells _ hQ).2.2.1
      have u3 := (HE1.out.cells _ hQ).2.2.2
      have HE2 : Hid (EdIn (set4 w1 g (Q * 4) (dr P)) g n (swp dr P Q)) := by have h := HE1.out.set4 Q (dr P) hQ; rw [swp_upd] at h; exact h
      have HG2 : Hid (wr.grownBy (set4 w1 g (Q * 4) (dr P)) (some g)) := HG1.out.trans (set4_grown _ _ _ _)
      unfold set4 at HE2 HG2
      refine wpList_step fun K hK => ?_
      rw [if_pos (by rfl)]
      go_simp
      refine hK _ _ ?_
      clear hK K
      refine wpList_step fun K hK => ?_
      rw [if_pos (by rfl)]
      go_simp
      refine hK _ _ (wpList_nil ?_)
      clear hK K qf ql u0 u1 u2 u3 HE1 HG1
      generalize (((w1.setCell ⟨g, Q * 4, none⟩ (.int .i64 (dr P).e.k)).setCell ⟨g, Q * 4 + 1, none⟩ (.int .i64 (dr P).at_)).setCell ⟨g, Q * 4 + 2, none⟩ (.int .i64 (dr P).e.o)).setCell ⟨g, Q * 4 + 3, none⟩ (.string (dr P).e.l) = w2 at *
      rw [HDR.out, HPe.out, HQe.out, ← swR_succ d a b k (by omega)] at HE2
      have HG3 : Hid (w.grownBy w2 (some g)) := hbr.out.trans HG2.out
      clear hP hQ HPQ bP bQ HE HG2
      go_wp2_with fail
      go_roundw
      case rel => exact ⟨k + 1, by omega, by go_num, HE2, HG3⟩
      case measure => simp [intOf]; omega
    · obtain rfl : k = m := by omega
      have t1 : decide ((k : Int) < (k : Int)) = false := decide_eq_false (by omega)
      go_wp2_with fail
      go_end0
      exact ⟨rfl, hE.out, hbr.out⟩
end Go.Proofs.YtifhlmakacoicaaDoor

/- Two neighbouring blocks of edits exchanged, whatever their lengths; edits sorted by insertion. -/
namespace Go.Proofs.YtifhlmakacoicaaDoor
open Go.RowKit
set_option linter.unusedVariables false

set_option maxHeartbeats 4000000 in
set_option maxRecDepth 100000 in
theorem rotate_any (g n c a m b : Nat) (d : Nat → Ed) (F : Value) (w : World) (h : EdIn w g n d) (h1 : a < m) (h2 : m < b) (h3 : b ≤ n) (h4 : n ≤ 1000) :
    Calls Tryd.prog 99 #[.slice (some ⟨g, 0, none⟩) n c, .int .i64 (a : Int), .int .i64 (m : Int), .int .i64 (b : Int), F] w fun e w' => e = .returned (.tuple #[]) ∧ EdIn w' g n (rot d a m b) ∧ w.grownBy w' (some g) := by
  have HI := Lib.hid h
  clear h
  have HSw := Lib.hid (fun W d (a b m : Nat) (h : EdIn W g n d) h1 h2 => swapRange_any g n c a b m d F W h h1 h2 h4)
  have e1 : IntKind.i64.wrap ((m : Int) - (a : Int)) = ((m - a : Nat) : Int) := by rw [IntWalk.i64_in _ (by omega)]; omega
  have e2 : IntKind.i64.wrap ((b : Int) - (m : Int)) = ((b - m : Nat) : Int) := by rw [IntWalk.i64_in _ (by omega)]; omega
  obtain ⟨I, hI⟩ : ∃ I, I = m - a := ⟨_, rfl⟩
  obtain ⟨J, hJ⟩ : ∃ J, J = b - m := ⟨_, rfl⟩
  rw [← hI] at e1
  rw [← hJ] at e2
  have HIe := Lib.hid hI
  have HJe := Lib.hid hJ
  have hI0 : 0 < I ∧ I ≤ m ∧ 0 < J ∧ m + J ≤ n := by omega
  clear hI hJ
  go_enter Tryd.func99, Tryd.ntmps99
  go_upto_region 2 with fail
  clear e1 e2
  go_loopw [10, 11] (fun x y wr => ∃ (i j : Nat) (dr : Nat → Ed), x = .int .i64 (i : Int) ∧ y = .int .i64 (j : Int) ∧ 0 < i ∧ 0 < j ∧ i ≤ m ∧ m + j ≤ n ∧ Hid (EdIn wr g n dr) ∧ Hid (rot dr (m - i) m (m + j) = rot d a m b) ∧ Hid (w.grownBy wr (some g))) (fun x y _ => (intOf x).toNat + (intOf y).toNat)
  case atStart => exact ⟨I, J, d, rfl, rfl, by omega, by omega, by omega, by omega, HI, (by rw [HIe.out, HJe.out, show m - (m - a) = a from by omega, show m + (b - m) = b from by omega]; exact Lib.hid rfl), World.grownBy.refl _ _⟩
  case round =>
    obtain ⟨i, j, dr, rfl, rfl, hi, hj, him, hjn, hE, hrot, hbr⟩ := hrel
    have HRo := Lib.hid hrot.out
    have HE := Lib.hid hE.out
    clear hrot hE
    by_cases heq : i = j
    · subst heq
      have t1 : ((i : Int) != (i : Int)) = false := by simp
      have w1 : IntKind.i64.wrap ((m : Int) - (i : Int)) = ((m - i : Nat) : Int) := by rw [IntWalk.i64_in _ (by omega)]; omega
      have HC := Lib.hid (HSw.out wr dr (m - i) m i HE.out (by omega) (by omega))
      rw [← rot_one dr m i him, HRo.out] at HC
      obtain ⟨M, hM⟩ : ∃ M, M = m - i := ⟨_, rfl⟩
      rw [← hM] at HC w1
      clear hM
      go_wp2_with (go_at_call 113; refine HC.out.mono ?_; rintro e w2 ⟨rfl, hE2, hg2⟩)
      have HF : Hid (EdIn w2 g n (rot d a m b) ∧ w.grownBy w2 (some g)) := ⟨hE2, hbr.out.trans hg2⟩
      go_end0
      exact ⟨rfl, HF.out⟩
    · have t1 : ((i : Int) != (j : Int)) = true := by rw [bne_iff_ne]; omega
      by_cases hgt : j < i
      · have t2 : decide ((j : Int) < (i : Int)) = true := decide_eq_true (by omega)
        have w1 : IntKind.i64.wrap ((m : Int) - (i : Int)) = ((m - i : Nat) : Int) := by rw [IntWalk.i64_in _ (by omega)]; omega
        have w2 : IntKind.i64.wrap ((i : Int) - (j : Int)) = ((i - j : Nat) : Int) := by rw [IntWalk.i64_in _ (by omega)]; omega
        have HC := Lib.hid (HSw.out wr dr (m - i) m j HE.out (by omega) (by omega))
        have HG : Hid (rot (swR dr (m - i) m j) (m - (i - j)) m (m + j) = rot d a m b) := by rw [← rot_gt dr m i j him hgt]; exact HRo
        obtain ⟨M, hM⟩ : ∃ M, M = m - i := ⟨_, rfl⟩
        obtain ⟨I2, hI2⟩ : ∃ I2, I2 = i - j := ⟨_, rfl⟩
        rw [← hM] at HC w1 HG
        rw [← hI2] at w2 HG
        have h0 : 0 < I2 ∧ I2 ≤ m ∧ I2 < i := by omega
        clear hM hI2 HE HRo
        go_wp2_with (go_at_call 113; refine HC.out.mono ?_; rintro e wq ⟨rfl, hE2, hg2⟩)
        have HE2 := Lib.hid hE2
        have HG2 : Hid (w.grownBy wq (some g)) := hbr.out.trans hg2
        go_roundw
        case rel => exact ⟨I2, j, _, rfl, rfl, by omega, by omega, by omega, by omega, HE2, HG, HG2⟩
        case measure => simp [intOf]; omega
      · have t2 : decide ((j : Int) < (i : Int)) = false := decide_eq_false (by omega)
        have w1 : IntKind.i64.wrap ((m : Int) - (i : Int)) = ((m - i : Nat) : Int) := by rw [IntWalk.i64_in _ (by omega)]; omega
        have w3 : IntKind.i64.wrap ((m : Int) + (j : Int)) = ((m + j : Nat) : Int) := by rw [IntWalk.i64_in _ (by omega)]; omega
        have w4 : IntKind.i64.wrap (((m + j : Nat) : Int) - (i : Int)) = ((m + j - i : Nat) : Int) := by rw [IntWalk.i64_in _ (by omega)]; omega
        have w2 : IntKind.i64.wrap ((j : Int) - (i : Int)) = ((j - i : Nat) : Int) := by rw [IntWalk.i64_in _ (by omega)]; omega
        have HC := Lib.hid (HSw.out wr dr (m - i) (m + j - i) i HE.out (by omega) (by omega))
        have HG : Hid (rot (swR dr (m - i) (m + j - i) i) (m - i) m (m + (j - i)) = rot d a m b) := by rw [← rot_lt dr m i j him (by omega)]; exact HRo
        obtain ⟨M, hM⟩ : ∃ M, M = m - i := ⟨_, rfl⟩
        obtain ⟨S, hS⟩ : ∃ S, S = m + j - i := ⟨_, rfl⟩
        obtain ⟨U, hU⟩ : ∃ U, U = m + j := ⟨_, rfl⟩
        obtain ⟨J2, hJ2⟩ : ∃ J2, J2 = j - i := ⟨_, rfl⟩
        have h0 : 0 < J2 ∧ m + J2 ≤ n ∧ J2 < j := by omega
        rw [← hM] at HC w1
        rw [← hS] at HC w4
        rw [← hS] at HG
        rw [← hU] at w3 w4
        rw [← hJ2] at w2 HG
        have HM := Lib.hid hM
        clear hM hS hU hJ2 HE HRo
        go_wp2_with (go_at_call 113; refine HC.out.mono ?_; rintro e wq ⟨rfl, hE2, hg2⟩)
        rw [HM.out] at hE2
        have HE2 := Lib.hid hE2
        have HG2 : Hid (w.grownBy wq (some g)) := hbr.out.trans hg2
        go_roundw
        case rel => exact ⟨i, J2, _, rfl, rfl, by omega, by omega, by omega, by omega, HE2, HG, HG2⟩
        case measure => simp [intOf]; omega
end Go.Proofs.YtifhlmakacoicaaDoor

/- Edits sorted by insertion. -/
namespace Go.Proofs.YtifhlmakacoicaaDoor
open Go.RowKit
set_option linter.unusedVariables false

/-- every instant is small -/
def Bd (d : Nat → Ed) : Prop := ∀ i, -1000000000000000000 ≤ (d i).at_ ∧ (d i).at_ ≤ 1000000000000000000
theorem Bd.shuf {a b : Nat} {d d' : Nat → Ed} (h : Bd d) (hs : Shuf a b d d') : Bd d' := fun i => by
  obtain ⟨s, t, h1, h2, h3⟩ := hs
  rw [h3]; exact h (s i)
theorem shuf_one {a : Nat} {d d' : Nat → Ed} (h : Shuf a (a + 1) d d') : d' = d := by
  funext i
  by_cases c : i = a
  · obtain ⟨j, h1, h2, e⟩ := h.from_ i (by omega) (by omega)
    rw [e, show j = i from by omega]
  · exact h.out i (by omega)
abbrev cmpF : Value := .func (.func 51) #[] #[]
def SortQ (g n a b : Nat) (d : Nat → Ed) (w : World) (e : Ending) (w' : World) : Prop := e = .returned (.tuple #[]) ∧ ∃ d', EdIn w' g n d' ∧ Shuf a b d d' ∧ Sor d' a b ∧ w.grownBy w' (some g)
set_option maxHeartbeats 4000000 in
set_option maxRecDepth 100000 in
theorem insort_any (g n c a b : Nat) (d : Nat → Ed) (w : World) (h : EdIn w g n d) (hB : Bd d) (h1 : a ≤ b) (h2 : b ≤ n) (h3 : n ≤ 1000) (ht : ∀ p q, a ≤ p → p < q → q < b → (d p).tag < (d q).tag) :
    Calls Tryd.prog 83 #[.slice (some ⟨g, 0, none⟩) n c, .int .i64 (a : Int), .int .i64 (b : Int), .func (.func 51) #[] #[]] w (SortQ g n a b d w) := by
  have HI := Lib.hid h
  have HBd := Lib.hid hB
  have HTg := Lib.hid ht
  have eg : ∀ args w, (callFunc 51 args).run Tryd.prog w = .ok (.enter 51 args) w := fun args w => by kernel_rfl
  clear h hB ht
  unfold SortQ
  go_enter Tryd.func83, Tryd.ntmps83
  go_upto_region 1 with fail
  have e1 : IntKind.i64.wrap ((a : Int) + 1) = ((a + 1 : Nat) : Int) := by rw [IntWalk.i64_in _ (by omega)]; omega
  go_loopw [8, 9] (fun x _ wr => ∃ (i : Nat) (di : Nat → Ed), x = .int .i64 (i : Int) ∧ a + 1 ≤ i ∧ (i ≤ b ∨ i = a + 1) ∧ Hid (EdIn wr g n di) ∧ Hid (Shuf a i d di) ∧ Hid (Sor di a i) ∧ Hid (w.grownBy wr (some g))) (fun x _ _ => b + 1 - (intOf x).toNat)
  case atStart => exact ⟨a + 1, d, by go_num, by omega, by omega, HI, Shuf.refl _ _ _, (fun p q hp hpq hq => by omega), World.grownBy.refl _ _⟩
  case round =>
    clear e1
    obtain ⟨i, di, rfl, hi1, hi2, hE, hS, hO, hbr⟩ := hrel
    have HE := Lib.hid hE.out
    have HS := Lib.hid hS.out
    have HO := Lib.hid hO.out
    have HBr := Lib.hid hbr.out
    clear hE hS hO hbr
    by_cases hlt : i < b
    · have t1 : decide ((i : Int) < (b : Int)) = true := decide_eq_true (by omega)
      have HTi : Hid (Tgs di a i (i + 1)) := fun p q hp hp2 hq hq2 => by
        obtain ⟨p', g1, g2, e⟩ := HS.out.from_ p hp hp2
        rw [e, HS.out.out q (.inr hq)]
        exact HTg.out _ _ g1 (by omega) (by omega)
      have HBi := Lib.hid (HBd.out.shuf HS.out)
      go_upto_region 4 with fail
      go_loopw [9] (fun y wq => ∃ (j : Nat), y = .int .i64 (j : Int) ∧ a ≤ j ∧ j ≤ i ∧ Hid (j < i → (di i).at_ < (di j).at_) ∧ Hid (EdIn wq g n (rot di j i (i + 1))) ∧ Hid (w.grownBy wq (some g))) (fun y _ => (intOf y).toNat - a)
      case atStart => exact ⟨i, rfl, by omega, by omega, (fun h => by omega), by rw [rot_start]; exact HE, HBr⟩
      case round =>
        clear HE HBr
        obtain ⟨j, rfl, hj1, hj2, hhi, hE, hbr⟩ := hrel
        have HE := Lib.hid hE.out
        have HBr := Lib.hid hbr.out
        have HHi := Lib.hid hhi.out
        clear hE hbr hhi
        by_cases hja : a < j
        · have t2 : decide ((a : Int) < (j : Int)) = true := decide_eq_true (by omega)
          obtain ⟨Q, hQe⟩ : ∃ Q, j = Q + 1 := ⟨j - 1, by omega⟩
          obtain ⟨dr, hdr⟩ : ∃ dr, dr = rot di j i (i + 1) := ⟨_, rfl⟩
          rw [← hdr] at HE
          have ej : dr j = di i := by rw [hdr, rot_at di j i (i + 1) (by omega) (by omega), if_neg (by omega), if_pos (by omega)]; congr 1; omega
          have eQ : dr Q = di Q := by rw [hdr, rot_at di j i (i + 1) (by omega) (by omega), if_pos (by omega)]
          have HBr' : Hid (Bd dr) := by
            have := HBi.out.shuf (rot_shuf di j i (i + 1) hj2 (by omega))
            rw [← hdr] at this
            exact this
          have hP : j < n := by omega
          have hQ : Q < n := by omega
          have HPQ : Hid (j ≠ Q) := show j ≠ Q by omega
          have bP : (0 : Int) ≤ (j : Int) ∧ (j : Int) < (n : Int) := by omega
          have bQ : (0 : Int) ≤ (Q : Int) ∧ (Q : Int) < (n : Int) := by omega
          have e2 : IntKind.i64.wrap ((j : Int) - 1) = (Q : Int) := by rw [IntWalk.i64_in _ (by omega)]; omega
          have p0 : ∀ W, Below wr.heap.size wr W → W.cell? ⟨g, j * 4, none⟩ = some (.int .i64 (dr j).e.k) := fun W hW => ((HE.out.below hW).cells _ hP).1
          have p1 : ∀ W, Below wr.heap.size wr W → W.cell? ⟨g, j * 4 + 1, none⟩ = some (.int .i64 (dr j).at_) := fun W hW => ((HE.out.below hW).cells _ hP).2.1
          have p2 : ∀ W, Below wr.heap.size wr W → W.cell? ⟨g, j * 4 + 2, none⟩ = some (.int .i64 (dr j).e.o) := fun W hW => ((HE.out.below hW).cells _ hP).2.2.1
          have p3 : ∀ W, Below wr.heap.size wr W → W.cell? ⟨g, j * 4 + 3, none⟩ = some (.string (dr j).e.l) := fun W hW => ((HE.out.below hW).cells _ hP).2.2.2
          have q0 : ∀ W, Below wr.heap.size wr W → W.cell? ⟨g, Q * 4, none⟩ = some (.int .i64 (dr Q).e.k) := fun W hW => ((HE.out.below hW).cells _ hQ).1
          have q1 : ∀ W, Below wr.heap.size wr W → W.cell? ⟨g, Q * 4 + 1, none⟩ = some (.int .i64 (dr Q).at_) := fun W hW => ((HE.out.below hW).cells _ hQ).2.1
          have q2 : ∀ W, Below wr.heap.size wr W → W.cell? ⟨g, Q * 4 + 2, none⟩ = some (.int .i64 (dr Q).e.o) := fun W hW => ((HE.out.below hW).cells _ hQ).2.2.1
          have q3 : ∀ W, Below wr.heap.size wr W → W.cell? ⟨g, Q * 4 + 3, none⟩ = some (.string (dr Q).e.l) := fun W hW => ((HE.out.below hW).cells _ hQ).2.2.2
          have HCmp := Lib.hid (fun W => cmp_any (dr j) (dr Q) W (HBr'.out j) (HBr'.out Q))
          obtain ⟨D, hD⟩ : ∃ D, D = (dr j).at_ - (dr Q).at_ := ⟨_, rfl⟩
          rw [← hD] at HCmp
          have HD := Lib.hid hD
          clear hD
          have HDR := Lib.hid hdr
          have Hej := Lib.hid ej
          have HeQ := Lib.hid eQ
          have HQe := Lib.hid hQe
          clear hdr ej eQ hQe
          go_upto_region 4 with fail
          refine flow_begin (tellOf [(14, det (.int .i64 D))]) (by kernel_rfl) (by kernel_rfl) ?_
          repeat (first | (refine flow_val (v := ?_) (by rfl) (by rfl) (fun w hb => ?_) ?_; rotate_left; (· ((go_simp) <;> ((repeat' apply And.intro) <;> with_reducible rfl))); try simp only [Act.put, List.setIfInBounds_toArray, List.set_cons_zero, List.set_cons_succ, Nat.reduceAdd]) | (refine flow_skip (by rfl) (by rfl) ?_; try simp only [Act.put, List.setIfInBounds_toArray, List.set_cons_zero, List.set_cons_succ, Nat.reduceAdd]))
          refine flow_call (f := ?_) (args := ?_) [] (by kernel_rfl) (by rfl) (by rfl) (fun w hb => ?_) (fun w hb hu => ?_) ?_; rotate_left 2; (· ((go_simp) <;> ((repeat' apply And.intro) <;> with_reducible rfl)))
          · exact HCmp.out w
          try simp only [Act.put, List.setIfInBounds_toArray, List.set_cons_zero, List.set_cons_succ, Nat.reduceAdd]
          repeat (first | (refine flow_val (v := ?_) (by rfl) (by rfl) (fun w hb => ?_) ?_; rotate_left; (· ((go_simp) <;> ((repeat' apply And.intro) <;> with_reducible rfl))); try simp only [Act.put, List.setIfInBounds_toArray, List.set_cons_zero, List.set_cons_succ, Nat.reduceAdd]) | (refine flow_skip (by rfl) (by rfl) ?_; try simp only [Act.put, List.setIfInBounds_toArray, List.set_cons_zero, List.set_cons_succ, Nat.reduceAdd]))
          refine flow_nil fun w5 hb1 _ => ?_
          have HE5 := Lib.hid (HE.out.below hb1)
          have HBr5 : Hid (w.grownBy w5 (some g)) := HBr.out.trans (grown_bel hb1)
          clear p0 p1 p2 p3 q0 q1 q2 q3 hb1 HE HCmp HBr
          have HE := HE5
          clear HE5
          by_cases hc : D < 0
          · have t3 : decide (D < 0) = true := decide_eq_true hc
            rw [t3]
            have HLt : Hid (Q < i → (di i).at_ < (di Q).at_) := fun _ => by have := HD.out; rw [← Hej.out, ← HeQ.out]; omega
            clear hc
            go_upto_region 6 with fail
            clear t3
            have p0 : ∀ W, GrownL [] w5 W → W.cell? ⟨g, j * 4, none⟩ = some (.int .i64 (dr j).e.k) := fun W hW => ((HE.out.below hW.bel).cells _ hP).1
            have p1 : ∀ W, GrownL [] w5 W → W.cell? ⟨g, j * 4 + 1, none⟩ = some (.int .i64 (dr j).at_) := fun W hW => ((HE.out.below hW.bel).cells _ hP).2.1
            have p2 : ∀ W, GrownL [] w5 W → W.cell? ⟨g, j * 4 + 2, none⟩ = some (.int .i64 (dr j).e.o) := fun W hW => ((HE.out.below hW.bel).cells _ hP).2.2.1
            have p3 : ∀ W, GrownL [] w5 W → W.cell? ⟨g, j * 4 + 3, none⟩ = some (.string (dr j).e.l) := fun W hW => ((HE.out.below hW.bel).cells _ hP).2.2.2
            have q0 : ∀ W, GrownL [] w5 W → W.cell? ⟨g, Q * 4, none⟩ = some (.int .i64 (dr Q).e.k) := fun W hW => ((HE.out.below hW.bel).cells _ hQ).1
            have q1 : ∀ W, GrownL [] w5 W → W.cell? ⟨g, Q * 4 + 1, none⟩ = some (.int .i64 (dr Q).at_) := fun W hW => ((HE.out.below hW.bel).cells _ hQ).2.1
            have q2 : ∀ W, GrownL [] w5 W → W.cell? ⟨g, Q * 4 + 2, none⟩ = some (.int .i64 (dr Q).e.o) := fun W hW => ((HE.out.below hW.bel).cells _ hQ).2.2.1
            have q3 : ∀ W, GrownL [] w5 W → W.cell? ⟨g, Q * 4 + 3, none⟩ = some (.string (dr Q).e.l) := fun W hW => ((HE.out.below hW.bel).cells _ hQ).2.2.2
            obtain ⟨row, hrow⟩ : ∃ row : Nat → Option Nat, row = fun _ => some g := ⟨_, rfl⟩
            have hr : ∀ j, row j = some g := fun j => by rw [hrow]
            obtain ⟨LA, hLAe⟩ : ∃ LA, LA = [some g] := ⟨_, rfl⟩
            have hLA : ∀ j ∈ [15], row j ∈ LA := fun j _ => by rw [hr, hLAe]; exact List.mem_cons_self ..
            have hLB : ∀ W, GrownL LA w5 W → w5.grownBy W (some g) := fun W h => by rw [hLAe] at h; exact ⟨h.os, h.tape, h.output, h.size, fun k hk hn => h.block k hk (by simpa using hn)⟩
            obtain ⟨TT, hTT⟩ : ∃ TT : Nat → World → World → Prop, TT = fun _ W W' => W' = set4 W g (j * 4) (dr Q) := ⟨_, rfl⟩
            have T1 : ∀ jj W W', TT jj W W' ↔ W' = set4 W g (j * 4) (dr Q) := fun jj W W' => by rw [hTT]
            clear hrow hLAe hTT
            have HR := Lib.hid hr
            have HT1 := Lib.hid T1
            have HLB := Lib.hid hLB
            clear hr T1 hLB
            refine flowV_begin_tail 16 [15] [(9, []), (13, []), (15, [])] row TT (tellOf []) (by kernel_rfl) (by kernel_rfl) (by kernel_rfl) (by rfl) (fun j hj W W' ht => by rw [(HT1.out j W W').1 ht, HR.out]; exact set4_grown _ _ _ _) ?_
            simp only [List.take_succ_cons, List.take_zero, List.drop_succ_cons, List.drop_zero]
            repeat (refine flowV_val (v := ?_) LA (by rfl) (by decide) hLA (by rfl) (by rfl) (fun w hb => ?_) ?_; rotate_left; (· ((go_simp) <;> ((repeat' apply And.intro) <;> with_reducible rfl))); try simp only [Act.put, List.setIfInBounds_toArray, List.set_cons_zero, List.set_cons_succ, Nat.reduceAdd])
            (refine flowV_pre (v := ?_) [] [] (by rfl) (by decide) (fun j hj => absurd hj (by simp)) (by rfl) (by rfl) (fun w hb => ?_) ?_; rotate_left; (· ((go_simp) <;> ((repeat' apply And.intro) <;> with_reducible rfl))); try simp only [Act.put, List.setIfInBounds_toArray, List.set_cons_zero, List.set_cons_succ, Nat.reduceAdd])
            repeat (refine flowV_val (v := ?_) LA (by rfl) (by decide) hLA (by rfl) (by rfl) (fun w hb => ?_) ?_; rotate_left; (· ((go_simp) <;> ((repeat' apply And.intro) <;> with_reducible rfl))); try simp only [Act.put, List.setIfInBounds_toArray, List.set_cons_zero, List.set_cons_succ, Nat.reduceAdd])
            (refine flowV_pre (v := ?_) [] [] (by rfl) (by decide) (fun j hj => absurd hj (by simp)) (by rfl) (by rfl) (fun w hb => ?_) ?_; rotate_left; (· ((go_simp) <;> ((repeat' apply And.intro) <;> with_reducible rfl))); try simp only [Act.put, List.setIfInBounds_toArray, List.set_cons_zero, List.set_cons_succ, Nat.reduceAdd])
            repeat (refine flowV_val (v := ?_) LA (by rfl) (by decide) hLA (by rfl) (by rfl) (fun w hb => ?_) ?_; rotate_left; (· ((go_simp) <;> ((repeat' apply And.intro) <;> with_reducible rfl))); try simp only [Act.put, List.setIfInBounds_toArray, List.set_cons_zero, List.set_cons_succ, Nat.reduceAdd])
            refine flowV_store (F := fun w => EdIn w g n (upd dr j (dr Q))) [] [] (by rfl) (fun j hj => absurd hj (by simp)) [] (by kernel_rfl) (by decide) (by rfl) (by rfl) (fun j hj hp w w' ht h => by (rcases transV_cases ht with ⟨hm, ht⟩ | ht); (· exact absurd (List.mem_singleton.1 hm) hj); (· exact h.grown ht)) (fun w hb hu => ?_) ?_
            · (have hy := HE.out.below hb.bel); (have qf := fun i => hy.free i); (have ql := hy.lt); (have u0 := (hy.cells _ hP).1); (have u1 := (hy.cells _ hP).2.1); (have u2 := (hy.cells _ hP).2.2.1); (have u3 := (hy.cells _ hP).2.2.2); (have h4 := hy.set4 j (dr Q) hP); (clear hy); (exact ⟨set4 w g (j * 4) (dr Q), by unfold set4; go_simp, h4, (HT1.out _ _ _).2 rfl⟩)
            refine flowV_nil LA (by rfl) hLA fun w1 hgrow hf => ?_
            have HE1 := Lib.hid hf.1
            have HG1 := Lib.hid (HLB.out w1 hgrow)
            clear p0 p1 p2 p3 q0 q1 q2 q3 hgrow hf HLB HT1 HR hLA
            clear LA TT row
            have qf := fun i => HE1.out.free i
            have ql := HE1.out.lt
            have u0 := (HE1.out.cells _ hQ).1
            have u1 := (HE1.out.cells _ hQ).2.1
            have u2 := (HE1.out.cells _ hQ).2.2.1
            have u3 := (HE1.out.cells _ hQ).2.2.2
            have HE2 : Hid (EdIn (set4 w1 g (Q * 4) (dr j)) g n (swp dr j Q)) := by have h := HE1.out.set4 Q (dr j) hQ; rw [swp_upd] at h; exact h
            have HG2 : Hid (w5.grownBy (set4 w1 g (Q * 4) (dr j)) (some g)) := HG1.out.trans (set4_grown _ _ _ _)
            unfold set4 at HE2 HG2
            refine wpList_step fun K hK => ?_
            rw [if_pos (by rfl)]
            go_simp
            refine hK _ _ ?_
            clear hK K
            refine wpList_step fun K hK => ?_
            rw [if_pos (by rfl)]
            go_simp
            refine hK _ _ (wpList_nil ?_)
            clear hK K qf ql u0 u1 u2 u3 HE1 HG1
            generalize (((w1.setCell ⟨g, Q * 4, none⟩ (.int .i64 (dr j).e.k)).setCell ⟨g, Q * 4 + 1, none⟩ (.int .i64 (dr j).at_)).setCell ⟨g, Q * 4 + 2, none⟩ (.int .i64 (dr j).e.o)).setCell ⟨g, Q * 4 + 3, none⟩ (.string (dr j).e.l) = w2 at *
            have HE3 : Hid (EdIn w2 g n (rot di Q i (i + 1))) := by
              have h := HE2.out
              have e := HQe.out
              subst e
              rw [HDR.out, rot_down di Q i (by omega)] at h
              exact h
            have HG3 : Hid (w.grownBy w2 (some g)) := HBr5.out.trans HG2.out
            have hQ1 : a ≤ Q ∧ Q ≤ i ∧ Q < j := by have := HQe.out; omega
            clear hP hQ HPQ bP bQ HE HE2 HG2
            go_wp2_with fail
            go_roundw
            case rel => exact ⟨Q, by go_num, by omega, by omega, HLt, HE3, HG3⟩
            case measure => simp [intOf]; omega
          · have t3 : decide (D < 0) = false := decide_eq_false hc
            rw [t3]
            have HSo : Hid (Sor (rot di j i (i + 1)) a (i + 1)) := ins_last_of HO.out HTi.out hj1 hj2 (fun h => by
              have e := HQe.out
              subst e
              have := Hej.out
              have := HeQ.out
              have := HD.out
              rw [show Q + 1 - 1 = Q from rfl, ← Hej.out, ← HeQ.out]
              omega) HHi.out
            have HSh : Hid (Shuf a (i + 1) d (rot di j i (i + 1))) := (HS.out.wide (Nat.le_refl _) (by omega)).trans ((rot_shuf di j i (i + 1) hj2 (by omega)).wide hj1 (Nat.le_refl _))
            have HE' : Hid (EdIn w5 g n (rot di j i (i + 1))) := by rw [← HDR.out]; exact HE
            clear hc HE
            go_wp2_with fail
            exact ⟨⟨i + 1, _, by go_num, by omega, by omega, HE', HSh, HSo, HBr5⟩, by simp [intOf]; omega⟩
        · obtain rfl : j = a := by omega
          have t2 : decide ((j : Int) < (j : Int)) = false := decide_eq_false (by omega)
          have HSo : Hid (Sor (rot di j i (i + 1)) j (i + 1)) := ins_last_of HO.out HTi.out hj1 hj2 (fun h => by omega) HHi.out
          have HSh : Hid (Shuf j (i + 1) d (rot di j i (i + 1))) := (HS.out.wide (Nat.le_refl _) (by omega)).trans (rot_shuf di j i (i + 1) hj2 (by omega))
          go_upto_region 4 with fail
          refine flow_begin (tellOf []) (by kernel_rfl) (by kernel_rfl) ?_
          repeat (first | (refine flow_val (v := ?_) (by rfl) (by rfl) (fun w hb => ?_) ?_; rotate_left; (· ((go_simp) <;> ((repeat' apply And.intro) <;> with_reducible rfl))); try simp only [Act.put, List.setIfInBounds_toArray, List.set_cons_zero, List.set_cons_succ, Nat.reduceAdd]) | (refine flow_skip (by rfl) (by rfl) ?_; try simp only [Act.put, List.setIfInBounds_toArray, List.set_cons_zero, List.set_cons_succ, Nat.reduceAdd]))
          refine flow_nil fun w5 hb1 _ => ?_
          have HE5 := Lib.hid (HE.out.below hb1)
          have HBr5 : Hid (w.grownBy w5 (some g)) := HBr.out.trans (grown_bel hb1)
          clear hb1 HE HBr
          go_wp2_with fail
          exact ⟨⟨i + 1, _, by go_num, by omega, by omega, HE5, HSh, HSo, HBr5⟩, by simp [intOf]; omega⟩
    · have t1 : decide ((i : Int) < (b : Int)) = false := decide_eq_false (by omega)
      go_wp2_with fail
      go_end0
      refine ⟨rfl, di, HE.out, ?_, ?_, HBr.out⟩
      · rcases hi2 with h | h
        · obtain rfl : i = b := by omega
          exact HS.out
        · by_cases hab : a + 1 ≤ b
          · obtain rfl : i = b := by omega
            exact HS.out
          · obtain rfl : a = b := by omega
            have hs := HS.out
            rw [h] at hs
            rw [shuf_one hs]
            exact Shuf.refl _ _ _
      · exact HO.out.sub (Nat.le_refl _) (by omega)
end Go.Proofs.YtifhlmakacoicaaDoor

/- SymMerge where one run has one edit. -/
namespace Go.Proofs.YtifhlmakacoicaaDoor
open Go.RowKit
set_option linter.unusedVariables false

set_option maxHeartbeats 8000000 in
set_option maxRecDepth 100000 in
theorem sym_first (g n c a b : Nat) (d : Nat → Ed) (w : World) (h : EdIn w g n d) (hB : Bd d) (h1 : a + 1 < b) (h2 : b ≤ n) (h3 : n ≤ 1000) (hs : Sor d (a + 1) b) (ht : Tgs d a (a + 1) b) :
    Calls Tryd.prog 84 #[.slice (some ⟨g, 0, none⟩) n c, .int .i64 (a : Int), .int .i64 ((a + 1 : Nat) : Int), .int .i64 (b : Int), .func (.func 51) #[] #[]] w (SortQ g n a b d w) := by
  have HI := Lib.hid h
  have HBi := Lib.hid hB
  have HSo := Lib.hid hs
  have HTg := Lib.hid ht
  have eg : ∀ args w, (callFunc 51 args).run Tryd.prog w = .ok (.enter 51 args) w := fun args w => by kernel_rfl
  clear h hB hs ht
  obtain ⟨m, hm⟩ : ∃ m, m = a + 1 := ⟨_, rfl⟩
  rw [← hm]
  have e0 : IntKind.i64.wrap ((m : Int) - (a : Int)) = 1 := by rw [IntWalk.i64_in _ (by omega)]; omega
  have hma : a < m ∧ m < b := by omega
  have HM := Lib.hid hm
  rw [← hm] at HSo HTg
  clear hm
  unfold SortQ
  go_enter Tryd.func84, Tryd.ntmps84
  go_upto_region 3 with fail
  clear e0
  go_loopw [10, 11, 12] (fun x y _ wr => ∃ (i j : Nat), x = .int .i64 (i : Int) ∧ y = .int .i64 (j : Int) ∧ m ≤ i ∧ i ≤ j ∧ j ≤ b ∧ Hid (m < i → (d (i - 1)).at_ < (d a).at_) ∧ Hid (j < b → (d a).at_ ≤ (d j).at_) ∧ Hid (EdIn wr g n d) ∧ Hid (w.grownBy wr (some g))) (fun x y _ _ => (intOf y).toNat - (intOf x).toNat)
  case atStart => exact ⟨m, b, rfl, rfl, by omega, by omega, by omega, (fun h => by omega), (fun h => by omega), HI, World.grownBy.refl _ _⟩
  case round =>
    clear HI
    obtain ⟨i, j, rfl, rfl, hi1, hij, hj1, hlo, hhi, hE, hbr⟩ := hrel
    have HLo := Lib.hid hlo.out
    have HHi := Lib.hid hhi.out
    have HE := Lib.hid hE.out
    have HBr := Lib.hid hbr.out
    clear hlo hhi hE hbr
    by_cases hlt : i < j
    · have t1 : decide ((i : Int) < (j : Int)) = true := decide_eq_true (by omega)
      obtain ⟨H, hH⟩ : ∃ H, H = (i + j) / 2 := ⟨_, rfl⟩
      have hH1 : i ≤ H ∧ H < j ∧ H < n ∧ a < n := by omega
      have e1 : ((i : Int) + (j : Int)) / 2 = (H : Int) := by omega
      have bH : (0 : Int) ≤ (H : Int) ∧ (H : Int) < (n : Int) := by omega
      have bA : (0 : Int) ≤ (a : Int) ∧ (a : Int) < (n : Int) := by omega
      clear hH
      go_upto_region 5 with fail
      have p0 : ∀ W, Below wr.heap.size wr W → W.cell? ⟨g, H * 4, none⟩ = some (.int .i64 (d H).e.k) := fun W hW => ((HE.out.below hW).cells _ hH1.2.2.1).1
      have p1 : ∀ W, Below wr.heap.size wr W → W.cell? ⟨g, H * 4 + 1, none⟩ = some (.int .i64 (d H).at_) := fun W hW => ((HE.out.below hW).cells _ hH1.2.2.1).2.1
      have p2 : ∀ W, Below wr.heap.size wr W → W.cell? ⟨g, H * 4 + 2, none⟩ = some (.int .i64 (d H).e.o) := fun W hW => ((HE.out.below hW).cells _ hH1.2.2.1).2.2.1
      have p3 : ∀ W, Below wr.heap.size wr W → W.cell? ⟨g, H * 4 + 3, none⟩ = some (.string (d H).e.l) := fun W hW => ((HE.out.below hW).cells _ hH1.2.2.1).2.2.2
      have q0 : ∀ W, Below wr.heap.size wr W → W.cell? ⟨g, a * 4, none⟩ = some (.int .i64 (d a).e.k) := fun W hW => ((HE.out.below hW).cells _ hH1.2.2.2).1
      have q1 : ∀ W, Below wr.heap.size wr W → W.cell? ⟨g, a * 4 + 1, none⟩ = some (.int .i64 (d a).at_) := fun W hW => ((HE.out.below hW).cells _ hH1.2.2.2).2.1
      have q2 : ∀ W, Below wr.heap.size wr W → W.cell? ⟨g, a * 4 + 2, none⟩ = some (.int .i64 (d a).e.o) := fun W hW => ((HE.out.below hW).cells _ hH1.2.2.2).2.2.1
      have q3 : ∀ W, Below wr.heap.size wr W → W.cell? ⟨g, a * 4 + 3, none⟩ = some (.string (d a).e.l) := fun W hW => ((HE.out.below hW).cells _ hH1.2.2.2).2.2.2
      have HCmp := Lib.hid (fun W => cmp_any (d H) (d a) W (HBi.out H) (HBi.out a))
      obtain ⟨D, hD⟩ : ∃ D, D = (d H).at_ - (d a).at_ := ⟨_, rfl⟩
      rw [← hD] at HCmp
      have HD := Lib.hid hD
      clear hD
      refine flow_begin (tellOf [(9, det (.int .i64 D))]) (by kernel_rfl) (by kernel_rfl) ?_
      repeat (first | (refine flow_val (v := ?_) (by rfl) (by rfl) (fun w hb => ?_) ?_; rotate_left; (· ((go_simp) <;> ((repeat' apply And.intro) <;> with_reducible rfl))); try simp only [Act.put, List.setIfInBounds_toArray, List.set_cons_zero, List.set_cons_succ, Nat.reduceAdd]) | (refine flow_skip (by rfl) (by rfl) ?_; try simp only [Act.put, List.setIfInBounds_toArray, List.set_cons_zero, List.set_cons_succ, Nat.reduceAdd]))
      refine flow_call (f := ?_) (args := ?_) [] (by kernel_rfl) (by rfl) (by rfl) (fun w hb => ?_) (fun w hb hu => ?_) ?_; rotate_left 2; (· ((go_simp) <;> ((repeat' apply And.intro) <;> with_reducible rfl)))
      · exact HCmp.out w
      try simp only [Act.put, List.setIfInBounds_toArray, List.set_cons_zero, List.set_cons_succ, Nat.reduceAdd]
      repeat (first | (refine flow_val (v := ?_) (by rfl) (by rfl) (fun w hb => ?_) ?_; rotate_left; (· ((go_simp) <;> ((repeat' apply And.intro) <;> with_reducible rfl))); try simp only [Act.put, List.setIfInBounds_toArray, List.set_cons_zero, List.set_cons_succ, Nat.reduceAdd]) | (refine flow_skip (by rfl) (by rfl) ?_; try simp only [Act.put, List.setIfInBounds_toArray, List.set_cons_zero, List.set_cons_succ, Nat.reduceAdd]))
      refine flow_nil fun w5 hb1 _ => ?_
      have HE5 := Lib.hid (HE.out.below hb1)
      have HG5 : Hid (wr.grownBy w5 (some g)) := grown_bel hb1
      clear p0 p1 p2 p3 q0 q1 q2 q3 hb1 HE HCmp
      have HE := HE5
      clear HE5
      have HG : Hid (w.grownBy w5 (some g)) := HBr.out.trans HG5.out
      clear HBr HG5
      by_cases hc : D < 0
      · have t3 : decide (D < 0) = true := decide_eq_true hc
        rw [t3]
        have HLo2 : Hid (m < H + 1 → (d (H + 1 - 1)).at_ < (d a).at_) := fun _ => by
          have := HD.out
          rw [show H + 1 - 1 = H from rfl]
          omega
        clear hc t3 HLo
        go_wp2_with fail
        go_roundw
        case rel => exact ⟨H + 1, j, by go_num, rfl, by omega, by omega, by omega, HLo2, HHi, HE, HG⟩
        case measure => simp [intOf]; omega
      · have t3 : decide (D < 0) = false := decide_eq_false hc
        rw [t3]
        have HHi2 : Hid (H < b → (d a).at_ ≤ (d H).at_) := fun _ => by
          have := HD.out
          omega
        clear hc t3 HHi
        go_wp2_with fail
        go_roundw
        case rel => exact ⟨i, H, rfl, rfl, by omega, by omega, by omega, HLo, HHi2, HE, HG⟩
        case measure => simp [intOf]; omega
    · obtain rfl : j = i := by omega
      have t1 : decide ((j : Int) < (j : Int)) = false := decide_eq_false (by omega)
      have HSr : Hid (Sor (rot d a m j) a b) := by
        have e := HM.out
        subst e
        exact ins_first_of HSo.out HTg.out hi1 hj1 HLo.out HHi.out
      have HSh : Hid (Shuf a b d (rot d a m j)) := (rot_shuf d a m j (by omega) (by omega)).wide (Nat.le_refl _) hj1
      obtain ⟨I, hI⟩ : ∃ I, j = I + 1 := ⟨j - 1, by have := HM.out; omega⟩
      have e2 : IntKind.i64.wrap ((j : Int) - 1) = (I : Int) := by rw [IntWalk.i64_in _ (by omega)]; omega
      have haI : a ≤ I ∧ I + 1 ≤ b := by have := HM.out; omega
      have HIe := Lib.hid hI
      clear hI HLo HHi HSo HTg
      go_upto_region 9 with fail
      clear t1
      go_loopw [13] (fun x wq => ∃ k : Nat, x = .int .i64 (k : Int) ∧ a ≤ k ∧ k ≤ I ∧ Hid (EdIn wq g n (rot d a m (k + 1))) ∧ Hid (w.grownBy wq (some g))) (fun x _ => I - (intOf x).toNat)
      case atStart => exact ⟨a, rfl, by omega, by omega, (by rw [← HM.out, rot_self d a m (by omega)]; exact HE), HBr⟩
      case round =>
        clear HE HBr
        obtain ⟨k, rfl, hk1, hk2, hE, hbr⟩ := hrel
        have HE := Lib.hid hE.out
        have HBr := Lib.hid hbr.out
        clear hE hbr
        by_cases hkI : k < I
        · have t2 : decide ((k : Int) < (I : Int)) = true := decide_eq_true (by omega)
          obtain ⟨Q, hQe⟩ : ∃ Q, Q = k + 1 := ⟨_, rfl⟩
          obtain ⟨dr, hdr⟩ : ∃ dr, dr = rot d a m (k + 1) := ⟨_, rfl⟩
          rw [← hdr] at HE
          have hP : k < n := by omega
          have hQ : Q < n := by omega
          have HPQ : Hid (k ≠ Q) := show k ≠ Q by omega
          have bP : (0 : Int) ≤ (k : Int) ∧ (k : Int) < (n : Int) := by omega
          have bQ : (0 : Int) ≤ (Q : Int) ∧ (Q : Int) < (n : Int) := by omega
          have e3 : IntKind.i64.wrap ((k : Int) + 1) = (Q : Int) := by rw [IntWalk.i64_in _ (by omega)]; omega
          have HDR := Lib.hid hdr
          have HQe := Lib.hid hQe
          clear hdr hQe
          go_upto_region 11 with fail
          have p0 : ∀ W, GrownL [] wr W → W.cell? ⟨g, k * 4, none⟩ = some (.int .i64 (dr k).e.k) := fun W hW => ((HE.out.below hW.bel).cells _ hP).1
          have p1 : ∀ W, GrownL [] wr W → W.cell? ⟨g, k * 4 + 1, none⟩ = some (.int .i64 (dr k).at_) := fun W hW => ((HE.out.below hW.bel).cells _ hP).2.1
          have p2 : ∀ W, GrownL [] wr W → W.cell? ⟨g, k * 4 + 2, none⟩ = some (.int .i64 (dr k).e.o) := fun W hW => ((HE.out.below hW.bel).cells _ hP).2.2.1
          have p3 : ∀ W, GrownL [] wr W → W.cell? ⟨g, k * 4 + 3, none⟩ = some (.string (dr k).e.l) := fun W hW => ((HE.out.below hW.bel).cells _ hP).2.2.2
          have q0 : ∀ W, GrownL [] wr W → W.cell? ⟨g, Q * 4, none⟩ = some (.int .i64 (dr Q).e.k) := fun W hW => ((HE.out.below hW.bel).cells _ hQ).1
          have q1 : ∀ W, GrownL [] wr W → W.cell? ⟨g, Q * 4 + 1, none⟩ = some (.int .i64 (dr Q).at_) := fun W hW => ((HE.out.below hW.bel).cells _ hQ).2.1
          have q2 : ∀ W, GrownL [] wr W → W.cell? ⟨g, Q * 4 + 2, none⟩ = some (.int .i64 (dr Q).e.o) := fun W hW => ((HE.out.below hW.bel).cells _ hQ).2.2.1
          have q3 : ∀ W, GrownL [] wr W → W.cell? ⟨g, Q * 4 + 3, none⟩ = some (.string (dr Q).e.l) := fun W hW => ((HE.out.below hW.bel).cells _ hQ).2.2.2
          obtain ⟨row, hrow⟩ : ∃ row : Nat → Option Nat, row = fun _ => some g := ⟨_, rfl⟩
          have hr : ∀ j, row j = some g := fun j => by rw [hrow]
          obtain ⟨LA, hLAe⟩ : ∃ LA, LA = [some g] := ⟨_, rfl⟩
          have hLA : ∀ j ∈ [15], row j ∈ LA := fun j _ => by rw [hr, hLAe]; exact List.mem_cons_self ..
          have hLB : ∀ W, GrownL LA wr W → wr.grownBy W (some g) := fun W h => by rw [hLAe] at h; exact ⟨h.os, h.tape, h.output, h.size, fun k hk hn => h.block k hk (by simpa using hn)⟩
          obtain ⟨TT, hTT⟩ : ∃ TT : Nat → World → World → Prop, TT = fun _ W W' => W' = set4 W g (k * 4) (dr Q) := ⟨_, rfl⟩
          have T1 : ∀ jj W W', TT jj W W' ↔ W' = set4 W g (k * 4) (dr Q) := fun jj W W' => by rw [hTT]
          clear hrow hLAe hTT
          have HR := Lib.hid hr
          have HT1 := Lib.hid T1
          have HLB := Lib.hid hLB
          clear hr T1 hLB
          refine flowV_begin_tail 16 [15] [(9, []), (13, []), (15, [])] row TT (tellOf []) (by kernel_rfl) (by kernel_rfl) (by kernel_rfl) (by rfl) (fun j hj W W' ht => by rw [(HT1.out j W W').1 ht, HR.out]; exact set4_grown _ _ _ _) ?_
          simp only [List.take_succ_cons, List.take_zero, List.drop_succ_cons, List.drop_zero]
          repeat (refine flowV_val (v := ?_) LA (by rfl) (by decide) hLA (by rfl) (by rfl) (fun w hb => ?_) ?_; rotate_left; (· ((go_simp) <;> ((repeat' apply And.intro) <;> with_reducible rfl))); try simp only [Act.put, List.setIfInBounds_toArray, List.set_cons_zero, List.set_cons_succ, Nat.reduceAdd])
          (refine flowV_pre (v := ?_) [] [] (by rfl) (by decide) (fun j hj => absurd hj (by simp)) (by rfl) (by rfl) (fun w hb => ?_) ?_; rotate_left; (· ((go_simp) <;> ((repeat' apply And.intro) <;> with_reducible rfl))); try simp only [Act.put, List.setIfInBounds_toArray, List.set_cons_zero, List.set_cons_succ, Nat.reduceAdd])
          repeat (refine flowV_val (v := ?_) LA (by rfl) (by decide) hLA (by rfl) (by rfl) (fun w hb => ?_) ?_; rotate_left; (· ((go_simp) <;> ((repeat' apply And.intro) <;> with_reducible rfl))); try simp only [Act.put, List.setIfInBounds_toArray, List.set_cons_zero, List.set_cons_succ, Nat.reduceAdd])
          (refine flowV_pre (v := ?_) [] [] (by rfl) (by decide) (fun j hj => absurd hj (by simp)) (by rfl) (by rfl) (fun w hb => ?_) ?_; rotate_left; (· ((go_simp) <;> ((repeat' apply And.intro) <;> with_reducible rfl))); try simp only [Act.put, List.setIfInBounds_toArray, List.set_cons_zero, List.set_cons_succ, Nat.reduceAdd])
          repeat (refine flowV_val (v := ?_) LA (by rfl) (by decide) hLA (by rfl) (by rfl) (fun w hb => ?_) ?_; rotate_left; (· ((go_simp) <;> ((repeat' apply And.intro) <;> with_reducible rfl))); try simp only [Act.put, List.setIfInBounds_toArray, List.set_cons_zero, List.set_cons_succ, Nat.reduceAdd])
          refine flowV_store (F := fun w => EdIn w g n (upd dr k (dr Q))) [] [] (by rfl) (fun j hj => absurd hj (by simp)) [] (by kernel_rfl) (by decide) (by rfl) (by rfl) (fun j hj hp w w' ht h => by (rcases transV_cases ht with ⟨hm, ht⟩ | ht); (· exact absurd (List.mem_singleton.1 hm) hj); (· exact h.grown ht)) (fun w hb hu => ?_) ?_
          · (have hy := HE.out.below hb.bel); (have qf := fun i => hy.free i); (have ql := hy.lt); (have u0 := (hy.cells _ hP).1); (have u1 := (hy.cells _ hP).2.1); (have u2 := (hy.cells _ hP).2.2.1); (have u3 := (hy.cells _ hP).2.2.2); (have h4 := hy.set4 k (dr Q) hP); (clear hy); (exact ⟨set4 w g (k * 4) (dr Q), by unfold set4; go_simp, h4, (HT1.out _ _ _).2 rfl⟩)
          refine flowV_nil LA (by rfl) hLA fun w1 hgrow hf => ?_
          have HE1 := Lib.hid hf.1
          have HG1 := Lib.hid (HLB.out w1 hgrow)
          clear p0 p1 p2 p3 q0 q1 q2 q3 hgrow hf HLB HT1 HR hLA
          clear LA TT row
          have qf := fun i => HE1.out.free i
          have ql := HE1.out.lt
          have u0 := (HE1.out.cells _ hQ).1
          have u1 := (HE1.out.cells _ hQ).2.1
          have u2 := (HE1.out.cells _ hQ).2.2.1
          have u3 := (HE1.out.cells _ hQ).2.2.2
          have HE2 : Hid (EdIn (set4 w1 g (Q * 4) (dr k)) g n (swp dr k Q)) := by have h := HE1.out.set4 Q (dr k) hQ; rw [swp_upd] at h; exact h
          have HG2 : Hid (wr.grownBy (set4 w1 g (Q * 4) (dr k)) (some g)) := HG1.out.trans (set4_grown _ _ _ _)
          unfold set4 at HE2 HG2
          refine wpList_step fun K hK => ?_
          rw [if_pos (by rfl)]
          go_simp
          refine hK _ _ ?_
          clear hK K
          refine wpList_step fun K hK => ?_
          rw [if_pos (by rfl)]
          go_simp
          refine hK _ _ (wpList_nil ?_)
          clear hK K qf ql u0 u1 u2 u3 HE1 HG1
          generalize (((w1.setCell ⟨g, Q * 4, none⟩ (.int .i64 (dr k).e.k)).setCell ⟨g, Q * 4 + 1, none⟩ (.int .i64 (dr k).at_)).setCell ⟨g, Q * 4 + 2, none⟩ (.int .i64 (dr k).e.o)).setCell ⟨g, Q * 4 + 3, none⟩ (.string (dr k).e.l) = w2 at *
          have HE3 : Hid (EdIn w2 g n (rot d a m (Q + 1))) := by
            have h := HE2.out
            rw [HDR.out, HQe.out, HM.out, rot_up d a k hk1] at h
            rw [HQe.out, HM.out]
            exact h
          have HG3 : Hid (w.grownBy w2 (some g)) := HBr.out.trans HG2.out
          have hQ1 : a ≤ Q ∧ Q ≤ I ∧ k < Q := by have := HQe.out; omega
          clear hP hQ HPQ bP bQ HE HE2 HG2
          go_wp2_with fail
          go_roundw
          case rel => exact ⟨Q, by go_num, by omega, by omega, HE3, HG3⟩
          case measure => simp [intOf]; omega
        · obtain rfl : k = I := by omega
          have t2 : decide ((k : Int) < (k : Int)) = false := decide_eq_false (by omega)
          go_wp2_with fail
          refine bodyPost_ret (results_none rfl _ _ _) rfl ?_
          have hE' := HE.out
          rw [← HIe.out] at hE'
          exact ⟨rfl, _, hE', HSh.out, HSr.out, HBr.out⟩
end Go.Proofs.YtifhlmakacoicaaDoor

/- SymMerge where the second run has one edit. -/
namespace Go.Proofs.YtifhlmakacoicaaDoor
open Go.RowKit
set_option linter.unusedVariables false

set_option maxHeartbeats 8000000 in
set_option maxRecDepth 100000 in
theorem sym_last (g n c a m : Nat) (d : Nat → Ed) (w : World) (h : EdIn w g n d) (hB : Bd d) (h1 : a + 1 < m) (h2 : m + 1 ≤ n) (h3 : n ≤ 1000) (hs : Sor d a m) (ht : Tgs d a m (m + 1)) :
    Calls Tryd.prog 84 #[.slice (some ⟨g, 0, none⟩) n c, .int .i64 (a : Int), .int .i64 (m : Int), .int .i64 ((m + 1 : Nat) : Int), .func (.func 51) #[] #[]] w (SortQ g n a (m + 1) d w) := by
  have HI := Lib.hid h
  have HBi := Lib.hid hB
  have HSo := Lib.hid hs
  have HTg := Lib.hid ht
  have eg : ∀ args w, (callFunc 51 args).run Tryd.prog w = .ok (.enter 51 args) w := fun args w => by kernel_rfl
  clear h hB hs ht
  obtain ⟨b, hb⟩ : ∃ b, b = m + 1 := ⟨_, rfl⟩
  rw [← hb]
  obtain ⟨N, hN⟩ : ∃ N, N = m - a := ⟨_, rfl⟩
  have e0 : IntKind.i64.wrap ((m : Int) - (a : Int)) = (N : Int) := by rw [IntWalk.i64_in _ (by omega)]; omega
  have e00 : ((N : Int) == 1) = false := by rw [beq_eq_false_iff_ne]; omega
  have e01 : IntKind.i64.wrap ((b : Int) - (m : Int)) = 1 := by rw [IntWalk.i64_in _ (by omega)]; omega
  have hma : a < m ∧ m < b ∧ b ≤ n ∧ m < n := by omega
  have HM := Lib.hid hb
  clear hb hN
  unfold SortQ
  go_enter Tryd.func84, Tryd.ntmps84
  go_upto_region 15 with fail
  clear e0 e00 e01
  go_loopw [14, 15, 16] (fun x y _ wr => ∃ (i j : Nat), x = .int .i64 (i : Int) ∧ y = .int .i64 (j : Int) ∧ a ≤ i ∧ i ≤ j ∧ j ≤ m ∧ Hid (a < i → (d (i - 1)).at_ ≤ (d m).at_) ∧ Hid (j < m → (d m).at_ < (d j).at_) ∧ Hid (EdIn wr g n d) ∧ Hid (w.grownBy wr (some g))) (fun x y _ _ => (intOf y).toNat - (intOf x).toNat)
  case atStart => exact ⟨a, m, rfl, rfl, by omega, by omega, by omega, (fun h => by omega), (fun h => by omega), HI, World.grownBy.refl _ _⟩
  case round =>
    clear HI
    obtain ⟨i, j, rfl, rfl, hi1, hij, hj1, hlo, hhi, hE, hbr⟩ := hrel
    have HLo := Lib.hid hlo.out
    have HHi := Lib.hid hhi.out
    have HE := Lib.hid hE.out
    have HBr := Lib.hid hbr.out
    clear hlo hhi hE hbr
    by_cases hlt : i < j
    · have t1 : decide ((i : Int) < (j : Int)) = true := decide_eq_true (by omega)
      obtain ⟨H, hH⟩ : ∃ H, H = (i + j) / 2 := ⟨_, rfl⟩
      have hH1 : i ≤ H ∧ H < j ∧ H < n ∧ m < n := by omega
      have e1 : ((i : Int) + (j : Int)) / 2 = (H : Int) := by omega
      have bH : (0 : Int) ≤ (H : Int) ∧ (H : Int) < (n : Int) := by omega
      have bA : (0 : Int) ≤ (m : Int) ∧ (m : Int) < (n : Int) := by omega
      clear hH
      go_upto_region 17 with fail
      have p0 : ∀ W, Below wr.heap.size wr W → W.cell? ⟨g, m * 4, none⟩ = some (.int .i64 (d m).e.k) := fun W hW => ((HE.out.below hW).cells _ hH1.2.2.2).1
      have p1 : ∀ W, Below wr.heap.size wr W → W.cell? ⟨g, m * 4 + 1, none⟩ = some (.int .i64 (d m).at_) := fun W hW => ((HE.out.below hW).cells _ hH1.2.2.2).2.1
      have p2 : ∀ W, Below wr.heap.size wr W → W.cell? ⟨g, m * 4 + 2, none⟩ = some (.int .i64 (d m).e.o) := fun W hW => ((HE.out.below hW).cells _ hH1.2.2.2).2.2.1
      have p3 : ∀ W, Below wr.heap.size wr W → W.cell? ⟨g, m * 4 + 3, none⟩ = some (.string (d m).e.l) := fun W hW => ((HE.out.below hW).cells _ hH1.2.2.2).2.2.2
      have q0 : ∀ W, Below wr.heap.size wr W → W.cell? ⟨g, H * 4, none⟩ = some (.int .i64 (d H).e.k) := fun W hW => ((HE.out.below hW).cells _ hH1.2.2.1).1
      have q1 : ∀ W, Below wr.heap.size wr W → W.cell? ⟨g, H * 4 + 1, none⟩ = some (.int .i64 (d H).at_) := fun W hW => ((HE.out.below hW).cells _ hH1.2.2.1).2.1
      have q2 : ∀ W, Below wr.heap.size wr W → W.cell? ⟨g, H * 4 + 2, none⟩ = some (.int .i64 (d H).e.o) := fun W hW => ((HE.out.below hW).cells _ hH1.2.2.1).2.2.1
      have q3 : ∀ W, Below wr.heap.size wr W → W.cell? ⟨g, H * 4 + 3, none⟩ = some (.string (d H).e.l) := fun W hW => ((HE.out.below hW).cells _ hH1.2.2.1).2.2.2
      have HCmp := Lib.hid (fun W => cmp_any (d m) (d H) W (HBi.out m) (HBi.out H))
      obtain ⟨D, hD⟩ : ∃ D, D = (d m).at_ - (d H).at_ := ⟨_, rfl⟩
      rw [← hD] at HCmp
      have HD := Lib.hid hD
      clear hD
      refine flow_begin (tellOf [(9, det (.int .i64 D))]) (by kernel_rfl) (by kernel_rfl) ?_
      repeat (first | (refine flow_val (v := ?_) (by rfl) (by rfl) (fun w hb => ?_) ?_; rotate_left; (· ((go_simp) <;> ((repeat' apply And.intro) <;> with_reducible rfl))); try simp only [Act.put, List.setIfInBounds_toArray, List.set_cons_zero, List.set_cons_succ, Nat.reduceAdd]) | (refine flow_skip (by rfl) (by rfl) ?_; try simp only [Act.put, List.setIfInBounds_toArray, List.set_cons_zero, List.set_cons_succ, Nat.reduceAdd]))
      refine flow_call (f := ?_) (args := ?_) [] (by kernel_rfl) (by rfl) (by rfl) (fun w hb => ?_) (fun w hb hu => ?_) ?_; rotate_left 2; (· ((go_simp) <;> ((repeat' apply And.intro) <;> with_reducible rfl)))
      · exact HCmp.out w
      try simp only [Act.put, List.setIfInBounds_toArray, List.set_cons_zero, List.set_cons_succ, Nat.reduceAdd]
      repeat (first | (refine flow_val (v := ?_) (by rfl) (by rfl) (fun w hb => ?_) ?_; rotate_left; (· ((go_simp) <;> ((repeat' apply And.intro) <;> with_reducible rfl))); try simp only [Act.put, List.setIfInBounds_toArray, List.set_cons_zero, List.set_cons_succ, Nat.reduceAdd]) | (refine flow_skip (by rfl) (by rfl) ?_; try simp only [Act.put, List.setIfInBounds_toArray, List.set_cons_zero, List.set_cons_succ, Nat.reduceAdd]))
      refine flow_nil fun w5 hb1 _ => ?_
      have HE5 := Lib.hid (HE.out.below hb1)
      have HG5 : Hid (wr.grownBy w5 (some g)) := grown_bel hb1
      clear p0 p1 p2 p3 q0 q1 q2 q3 hb1 HE HCmp
      have HE := HE5
      clear HE5
      have HG : Hid (w.grownBy w5 (some g)) := HBr.out.trans HG5.out
      clear HBr HG5
      by_cases hc : D < 0
      · have t3 : decide (D < 0) = true := decide_eq_true hc
        rw [t3]
        have HHi2 : Hid (H < m → (d m).at_ < (d H).at_) := fun _ => by
          have := HD.out
          omega
        clear hc t3 HHi
        go_wp2_with fail
        go_roundw
        case rel => exact ⟨i, H, rfl, rfl, by omega, by omega, by omega, HLo, HHi2, HE, HG⟩
        case measure => simp [intOf]; omega
      · have t3 : decide (D < 0) = false := decide_eq_false hc
        rw [t3]
        have HLo2 : Hid (a < H + 1 → (d (H + 1 - 1)).at_ ≤ (d m).at_) := fun _ => by
          have := HD.out
          rw [show H + 1 - 1 = H from rfl]
          omega
        clear hc t3 HLo
        go_wp2_with fail
        go_roundw
        case rel => exact ⟨H + 1, j, by go_num, rfl, by omega, by omega, by omega, HLo2, HHi, HE, HG⟩
        case measure => simp [intOf]; omega
    · obtain rfl : j = i := by omega
      have t1 : decide ((j : Int) < (j : Int)) = false := decide_eq_false (by omega)
      have HSr : Hid (Sor (rot d j m b) a b) := by
        have e := HM.out
        subst e
        exact ins_last_of HSo.out HTg.out hi1 hj1 HLo.out HHi.out
      have HSh : Hid (Shuf a b d (rot d j m b)) := (rot_shuf d j m b (by omega) (by omega)).wide hi1 (Nat.le_refl _)
      clear HLo HHi HSo HTg
      go_upto_region 21 with fail
      clear t1
      go_loopw [17] (fun x wq => ∃ k : Nat, x = .int .i64 (k : Int) ∧ j ≤ k ∧ k ≤ m ∧ Hid (EdIn wq g n (rot d k m b)) ∧ Hid (w.grownBy wq (some g))) (fun x _ => (intOf x).toNat - j)
      case atStart => exact ⟨m, rfl, by omega, by omega, (by rw [rot_left d m b (by omega)]; exact HE), HBr⟩
      case round =>
        clear HE HBr
        obtain ⟨k, rfl, hk1, hk2, hE, hbr⟩ := hrel
        have HE := Lib.hid hE.out
        have HBr := Lib.hid hbr.out
        clear hE hbr
        by_cases hkI : j < k
        · have t2 : decide ((j : Int) < (k : Int)) = true := decide_eq_true (by omega)
          obtain ⟨Q, hQe⟩ : ∃ Q, k = Q + 1 := ⟨k - 1, by omega⟩
          obtain ⟨dr, hdr⟩ : ∃ dr, dr = rot d k m b := ⟨_, rfl⟩
          rw [← hdr] at HE
          have hP : k < n := by omega
          have hQ : Q < n := by omega
          have HPQ : Hid (k ≠ Q) := show k ≠ Q by omega
          have bP : (0 : Int) ≤ (k : Int) ∧ (k : Int) < (n : Int) := by omega
          have bQ : (0 : Int) ≤ (Q : Int) ∧ (Q : Int) < (n : Int) := by omega
          have e3 : IntKind.i64.wrap ((k : Int) - 1) = (Q : Int) := by rw [IntWalk.i64_in _ (by omega)]; omega
          have HDR := Lib.hid hdr
          have HQe := Lib.hid hQe
          clear hdr hQe
          go_upto_region 23 with fail
          have p0 : ∀ W, GrownL [] wr W → W.cell? ⟨g, k * 4, none⟩ = some (.int .i64 (dr k).e.k) := fun W hW => ((HE.out.below hW.bel).cells _ hP).1
          have p1 : ∀ W, GrownL [] wr W → W.cell? ⟨g, k * 4 + 1, none⟩ = some (.int .i64 (dr k).at_) := fun W hW => ((HE.out.below hW.bel).cells _ hP).2.1
          have p2 : ∀ W, GrownL [] wr W → W.cell? ⟨g, k * 4 + 2, none⟩ = some (.int .i64 (dr k).e.o) := fun W hW => ((HE.out.below hW.bel).cells _ hP).2.2.1
          have p3 : ∀ W, GrownL [] wr W → W.cell? ⟨g, k * 4 + 3, none⟩ = some (.string (dr k).e.l) := fun W hW => ((HE.out.below hW.bel).cells _ hP).2.2.2
          have q0 : ∀ W, GrownL [] wr W → W.cell? ⟨g, Q * 4, none⟩ = some (.int .i64 (dr Q).e.k) := fun W hW => ((HE.out.below hW.bel).cells _ hQ).1
          have q1 : ∀ W, GrownL [] wr W → W.cell? ⟨g, Q * 4 + 1, none⟩ = some (.int .i64 (dr Q).at_) := fun W hW => ((HE.out.below hW.bel).cells _ hQ).2.1
          have q2 : ∀ W, GrownL [] wr W → W.cell? ⟨g, Q * 4 + 2, none⟩ = some (.int .i64 (dr Q).e.o) := fun W hW => ((HE.out.below hW.bel).cells _ hQ).2.2.1
          have q3 : ∀ W, GrownL [] wr W → W.cell? ⟨g, Q * 4 + 3, none⟩ = some (.string (dr Q).e.l) := fun W hW => ((HE.out.below hW.bel).cells _ hQ).2.2.2
          obtain ⟨row, hrow⟩ : ∃ row : Nat → Option Nat, row = fun _ => some g := ⟨_, rfl⟩
          have hr : ∀ j, row j = some g := fun j => by rw [hrow]
          obtain ⟨LA, hLAe⟩ : ∃ LA, LA = [some g] := ⟨_, rfl⟩
          have hLA : ∀ j ∈ [15], row j ∈ LA := fun j _ => by rw [hr, hLAe]; exact List.mem_cons_self ..
          have hLB : ∀ W, GrownL LA wr W → wr.grownBy W (some g) := fun W h => by rw [hLAe] at h; exact ⟨h.os, h.tape, h.output, h.size, fun k hk hn => h.block k hk (by simpa using hn)⟩
          obtain ⟨TT, hTT⟩ : ∃ TT : Nat → World → World → Prop, TT = fun _ W W' => W' = set4 W g (k * 4) (dr Q) := ⟨_, rfl⟩
          have T1 : ∀ jj W W', TT jj W W' ↔ W' = set4 W g (k * 4) (dr Q) := fun jj W W' => by rw [hTT]
          clear hrow hLAe hTT
          have HR := Lib.hid hr
          have HT1 := Lib.hid T1
          have HLB := Lib.hid hLB
          clear hr T1 hLB
          refine flowV_begin_tail 16 [15] [(9, []), (13, []), (15, [])] row TT (tellOf []) (by kernel_rfl) (by kernel_rfl) (by kernel_rfl) (by rfl) (fun j hj W W' ht => by rw [(HT1.out j W W').1 ht, HR.out]; exact set4_grown _ _ _ _) ?_
          simp only [List.take_succ_cons, List.take_zero, List.drop_succ_cons, List.drop_zero]
          repeat (refine flowV_val (v := ?_) LA (by rfl) (by decide) hLA (by rfl) (by rfl) (fun w hb => ?_) ?_; rotate_left; (· ((go_simp) <;> ((repeat' apply And.intro) <;> with_reducible rfl))); try simp only [Act.put, List.setIfInBounds_toArray, List.set_cons_zero, List.set_cons_succ, Nat.reduceAdd])
          (refine flowV_pre (v := ?_) [] [] (by rfl) (by decide) (fun j hj => absurd hj (by simp)) (by rfl) (by rfl) (fun w hb => ?_) ?_; rotate_left; (· ((go_simp) <;> ((repeat' apply And.intro) <;> with_reducible rfl))); try simp only [Act.put, List.setIfInBounds_toArray, List.set_cons_zero, List.set_cons_succ, Nat.reduceAdd])
          repeat (refine flowV_val (v := ?_) LA (by rfl) (by decide) hLA (by rfl) (by rfl) (fun w hb => ?_) ?_; rotate_left; (· ((go_simp) <;> ((repeat' apply And.intro) <;> with_reducible rfl))); try simp only [Act.put, List.setIfInBounds_toArray, List.set_cons_zero, List.set_cons_succ, Nat.reduceAdd])
          (refine flowV_pre (v := ?_) [] [] (by rfl) (by decide) (fun j hj => absurd hj (by simp)) (by rfl) (by rfl) (fun w hb => ?_) ?_; rotate_left; (· ((go_simp) <;> ((repeat' apply And.intro) <;> with_reducible rfl))); try simp only [Act.put, List.setIfInBounds_toArray, List.set_cons_zero, List.set_cons_succ, Nat.reduceAdd])
          repeat (refine flowV_val (v := ?_) LA (by rfl) (by decide) hLA (by rfl) (by rfl) (fun w hb => ?_) ?_; rotate_left; (· ((go_simp) <;> ((repeat' apply And.intro) <;> with_reducible rfl))); try simp only [Act.put, List.setIfInBounds_toArray, List.set_cons_zero, List.set_cons_succ, Nat.reduceAdd])
          refine flowV_store (F := fun w => EdIn w g n (upd dr k (dr Q))) [] [] (by rfl) (fun j hj => absurd hj (by simp)) [] (by kernel_rfl) (by decide) (by rfl) (by rfl) (fun j hj hp w w' ht h => by (rcases transV_cases ht with ⟨hm, ht⟩ | ht); (· exact absurd (List.mem_singleton.1 hm) hj); (· exact h.grown ht)) (fun w hb hu => ?_) ?_
          · (have hy := HE.out.below hb.bel); (have qf := fun i => hy.free i); (have ql := hy.lt); (have u0 := (hy.cells _ hP).1); (have u1 := (hy.cells _ hP).2.1); (have u2 := (hy.cells _ hP).2.2.1); (have u3 := (hy.cells _ hP).2.2.2); (have h4 := hy.set4 k (dr Q) hP); (clear hy); (exact ⟨set4 w g (k * 4) (dr Q), by unfold set4; go_simp, h4, (HT1.out _ _ _).2 rfl⟩)
          refine flowV_nil LA (by rfl) hLA fun w1 hgrow hf => ?_
          have HE1 := Lib.hid hf.1
          have HG1 := Lib.hid (HLB.out w1 hgrow)
          clear p0 p1 p2 p3 q0 q1 q2 q3 hgrow hf HLB HT1 HR hLA
          clear LA TT row
          have qf := fun i => HE1.out.free i
          have ql := HE1.out.lt
          have u0 := (HE1.out.cells _ hQ).1
          have u1 := (HE1.out.cells _ hQ).2.1
          have u2 := (HE1.out.cells _ hQ).2.2.1
          have u3 := (HE1.out.cells _ hQ).2.2.2
          have HE2 : Hid (EdIn (set4 w1 g (Q * 4) (dr k)) g n (swp dr k Q)) := by have h := HE1.out.set4 Q (dr k) hQ; rw [swp_upd] at h; exact h
          have HG2 : Hid (wr.grownBy (set4 w1 g (Q * 4) (dr k)) (some g)) := HG1.out.trans (set4_grown _ _ _ _)
          unfold set4 at HE2 HG2
          refine wpList_step fun K hK => ?_
          rw [if_pos (by rfl)]
          go_simp
          refine hK _ _ ?_
          clear hK K
          refine wpList_step fun K hK => ?_
          rw [if_pos (by rfl)]
          go_simp
          refine hK _ _ (wpList_nil ?_)
          clear hK K qf ql u0 u1 u2 u3 HE1 HG1
          generalize (((w1.setCell ⟨g, Q * 4, none⟩ (.int .i64 (dr k).e.k)).setCell ⟨g, Q * 4 + 1, none⟩ (.int .i64 (dr k).at_)).setCell ⟨g, Q * 4 + 2, none⟩ (.int .i64 (dr k).e.o)).setCell ⟨g, Q * 4 + 3, none⟩ (.string (dr k).e.l) = w2 at *
          have HE3 : Hid (EdIn w2 g n (rot d Q m b)) := by
            have h := HE2.out
            have e := HQe.out
            subst e
            rw [HDR.out, HM.out, rot_down d Q m (by omega)] at h
            rw [HM.out]
            exact h
          have HG3 : Hid (w.grownBy w2 (some g)) := HBr.out.trans HG2.out
          have hQ1 : j ≤ Q ∧ Q ≤ m ∧ Q < k := by have := HQe.out; omega
          clear hP hQ HPQ bP bQ HE HE2 HG2
          go_wp2_with fail
          go_roundw
          case rel => exact ⟨Q, by go_num, by omega, by omega, HE3, HG3⟩
          case measure => simp [intOf]; omega
        · obtain rfl : k = j := by omega
          have t2 : decide ((k : Int) < (k : Int)) = false := decide_eq_false (by omega)
          go_wp2_with fail
          refine bodyPost_ret (results_none rfl _ _ _) rfl ?_
          exact ⟨rfl, _, HE.out, HSh.out, HSr.out, HBr.out⟩
end Go.Proofs.YtifhlmakacoicaaDoor

/- SymMerge at two long runs: the first run reaches behind the middle. -/
namespace Go.Proofs.YtifhlmakacoicaaDoor
open Go.RowKit
set_option linter.unusedVariables false

theorem sym_keep {d d' : Nat → Ed} {a mid E b : Nat} (h : Shuf a mid d d') (h1 : Sor d mid E) (h2 : Sor d E b) (h3 : Tgs d mid E b) (hm : mid ≤ E) : Sor d' mid E ∧ Sor d' E b ∧ Tgs d' mid E b :=
  ⟨h1.same fun i hi _ => h.out i (.inr hi), h2.same fun i hi _ => h.out i (.inr (by omega)), fun i j g1 g2 g3 g4 => by rw [h.out i (.inr g1), h.out j (.inr (by omega))]; exact h3 i j g1 g2 g3 g4⟩
theorem sym_done {d d1 d2 : Nat → Ed} {a mid b : Nat} (hx : ∀ i j, a ≤ i → i < mid → mid ≤ j → j < b → tlt (d i) (d j)) (h1 : Shuf a mid d d1) (o1 : Sor d1 a mid) (h2 : Shuf mid b d1 d2) (o2 : Sor d2 mid b) (ha : a ≤ mid := by omega) (hb : mid ≤ b := by omega) : Shuf a b d d2 ∧ Sor d2 a b :=
  ⟨(h1.wide (Nat.le_refl _) hb).trans (h2.wide ha (Nat.le_refl _)), Sor.join (o1.same fun i _ hi => h2.out i (.inl hi)) o2 (cross_shuf hx h1 h2)⟩
/-- SymMerge does its work at shorter rows -/
def SymIH (g n c k : Nat) : Prop := ∀ (a m b : Nat) (d : Nat → Ed) (w : World), b - a < k → a < m → m < b → b ≤ n → EdIn w g n d → Bd d → Sor d a m → Sor d m b → Tgs d a m b →
  Calls Tryd.prog 84 #[.slice (some ⟨g, 0, none⟩) n c, .int .i64 (a : Int), .int .i64 (m : Int), .int .i64 (b : Int), .func (.func 51) #[] #[]] w (SortQ g n a b d w)
set_option maxHeartbeats 16000000 in
set_option maxRecDepth 100000 in
theorem sym_hi (g n c a m b : Nat) (d : Nat → Ed) (w : World) (h : EdIn w g n d) (hB : Bd d) (h1 : a + 1 < m) (h1' : m + 1 < b) (h2 : b ≤ n) (h3 : n ≤ 1000) (hm : (a + b) / 2 < m) (hs1 : Sor d a m) (hs2 : Sor d m b) (ht : Tgs d a m b) (hIH : SymIH g n c (b - a)) :
    Calls Tryd.prog 84 #[.slice (some ⟨g, 0, none⟩) n c, .int .i64 (a : Int), .int .i64 (m : Int), .int .i64 (b : Int), .func (.func 51) #[] #[]] w (SortQ g n a b d w) := by
  have HI := Lib.hid h
  have HBi := Lib.hid hB
  have HS1 := Lib.hid hs1
  have HS2 := Lib.hid hs2
  have HTg := Lib.hid ht
  have HIH := Lib.hid hIH
  have eg : ∀ args w, (callFunc 51 args).run Tryd.prog w = .ok (.enter 51 args) w := fun args w => by kernel_rfl
  clear h hB hs1 hs2 ht hIH
  obtain ⟨N1, hN1⟩ : ∃ N1, N1 = m - a := ⟨_, rfl⟩
  obtain ⟨N2, hN2⟩ : ∃ N2, N2 = b - m := ⟨_, rfl⟩
  obtain ⟨mid, hmid⟩ : ∃ mid, mid = (a + b) / 2 := ⟨_, rfl⟩
  obtain ⟨U, hU⟩ : ∃ U, U = mid + m := ⟨_, rfl⟩
  obtain ⟨p, hp⟩ : ∃ p, p = U - 1 := ⟨_, rfl⟩
  obtain ⟨s0, hs0⟩ : ∃ s0, s0 = U - b := ⟨_, rfl⟩
  obtain ⟨r0, hr0⟩ : ∃ r0, r0 = mid := ⟨_, rfl⟩
  rw [← hmid] at hm
  have e0 : IntKind.i64.wrap ((m : Int) - (a : Int)) = (N1 : Int) := by rw [IntWalk.i64_in _ (by omega)]; omega
  have e00 : ((N1 : Int) == 1) = false := by rw [beq_eq_false_iff_ne]; omega
  have e01 : IntKind.i64.wrap ((b : Int) - (m : Int)) = (N2 : Int) := by rw [IntWalk.i64_in _ (by omega)]; omega
  have e02 : ((N2 : Int) == 1) = false := by rw [beq_eq_false_iff_ne]; omega
  have e1 : ((a : Int) + (b : Int)) / 2 = (mid : Int) := by omega
  have e2 : IntKind.i64.wrap ((mid : Int) + (m : Int)) = (U : Int) := by rw [IntWalk.i64_in _ (by omega)]; omega
  have e3 : IntKind.i64.wrap ((U : Int) - 1) = (p : Int) := by rw [IntWalk.i64_in _ (by omega)]; omega
  have t0 : decide ((mid : Int) < (m : Int)) = true := decide_eq_true (by omega)
  have e4 : IntKind.i64.wrap ((U : Int) - (b : Int)) = (s0 : Int) := by rw [IntWalk.i64_in _ (by omega)]; omega
  have hr : (m > mid ∧ s0 = mid + m - b ∧ r0 = mid) ∨ (m ≤ mid ∧ s0 = a ∧ r0 = m) := .inl ⟨by omega, by omega, by omega⟩
  have hrng : ∀ x, s0 ≤ x → x < r0 → m ≤ p - x ∧ p - x < b ∧ a ≤ x ∧ x < m ∧ x ≤ p := by omega
  have hs0r0 : s0 ≤ r0 ∧ r0 ≤ m ∧ m + mid = U ∧ p + 1 = U ∧ a < mid ∧ mid < b ∧ U ≤ 2000 := by omega
  have HMid := Lib.hid hmid
  have HR0 := Lib.hid hr
  clear hmid hU hp hN1 hN2 hr
  have hs0' := hs0
  have hr0' := hr0
  clear hs0 hr0
  unfold SortQ
  go_enter Tryd.func84, Tryd.ntmps84
  go_upto_region 33 with fail
  clear e0 e00 e01 e02 e1 e2 e3 t0 e4
  go_loopw [20, 21, 23] (fun x y _ wr => ∃ (i j : Nat), x = .int .i64 (i : Int) ∧ y = .int .i64 (j : Int) ∧ s0 ≤ i ∧ i ≤ j ∧ j ≤ r0 ∧ Hid (s0 < i → (d (i - 1)).at_ ≤ (d (mid + m - i)).at_) ∧ Hid (j < r0 → (d (mid + m - 1 - j)).at_ < (d j).at_) ∧ Hid (EdIn wr g n d) ∧ Hid (w.grownBy wr (some g))) (fun x y _ _ => (intOf y).toNat - (intOf x).toNat)
  case atStart => exact ⟨s0, r0, by rw [hs0'], by rw [hr0'], by omega, by omega, by omega, (fun h => by omega), (fun h => by omega), HI, World.grownBy.refl _ _⟩
  case round =>
    clear HI
    obtain ⟨i, j, rfl, rfl, hi1, hij, hj1, hlo, hhi, hE, hbr⟩ := hrel
    have HLo := Lib.hid hlo.out
    have HHi := Lib.hid hhi.out
    have HE := Lib.hid hE.out
    have HG0 := Lib.hid hbr.out
    clear hlo hhi hE hbr
    by_cases hlt : i < j
    · have t1 : decide ((i : Int) < (j : Int)) = true := decide_eq_true (by omega)
      obtain ⟨C, hC⟩ : ∃ C, C = (i + j) / 2 := ⟨_, rfl⟩
      obtain ⟨hx1, hx2, hx3, hx4, hx5⟩ := hrng C (by omega) (by omega)
      obtain ⟨X, hX⟩ : ∃ X, X = p - C := ⟨_, rfl⟩
      have hXn : X < n := by omega
      have hCn : C < n := by omega
      have hC1 : i ≤ C ∧ C < j := by omega
      have e1 : ((i : Int) + (j : Int)) / 2 = (C : Int) := by omega
      have e2 : IntKind.i64.wrap ((p : Int) - (C : Int)) = (X : Int) := by rw [IntWalk.i64_in _ (by omega)]; omega
      have bX : (0 : Int) ≤ (X : Int) ∧ (X : Int) < (n : Int) := by omega
      have bC : (0 : Int) ≤ (C : Int) ∧ (C : Int) < (n : Int) := by omega
      have HX1 : Hid (mid + m - (C + 1) = X ∧ mid + m - 1 - C = X) := show mid + m - (C + 1) = X ∧ mid + m - 1 - C = X by omega
      clear hC hX hx1 hx2 hx3 hx4 hx5
      go_upto_region 35 with fail
      have p0 : ∀ W, Below wr.heap.size wr W → W.cell? ⟨g, X * 4, none⟩ = some (.int .i64 (d X).e.k) := fun W hW => ((HE.out.below hW).cells _ hXn).1
      have p1 : ∀ W, Below wr.heap.size wr W → W.cell? ⟨g, X * 4 + 1, none⟩ = some (.int .i64 (d X).at_) := fun W hW => ((HE.out.below hW).cells _ hXn).2.1
      have p2 : ∀ W, Below wr.heap.size wr W → W.cell? ⟨g, X * 4 + 2, none⟩ = some (.int .i64 (d X).e.o) := fun W hW => ((HE.out.below hW).cells _ hXn).2.2.1
      have p3 : ∀ W, Below wr.heap.size wr W → W.cell? ⟨g, X * 4 + 3, none⟩ = some (.string (d X).e.l) := fun W hW => ((HE.out.below hW).cells _ hXn).2.2.2
      have q0 : ∀ W, Below wr.heap.size wr W → W.cell? ⟨g, C * 4, none⟩ = some (.int .i64 (d C).e.k) := fun W hW => ((HE.out.below hW).cells _ hCn).1
      have q1 : ∀ W, Below wr.heap.size wr W → W.cell? ⟨g, C * 4 + 1, none⟩ = some (.int .i64 (d C).at_) := fun W hW => ((HE.out.below hW).cells _ hCn).2.1
      have q2 : ∀ W, Below wr.heap.size wr W → W.cell? ⟨g, C * 4 + 2, none⟩ = some (.int .i64 (d C).e.o) := fun W hW => ((HE.out.below hW).cells _ hCn).2.2.1
      have q3 : ∀ W, Below wr.heap.size wr W → W.cell? ⟨g, C * 4 + 3, none⟩ = some (.string (d C).e.l) := fun W hW => ((HE.out.below hW).cells _ hCn).2.2.2
      have HCmp := Lib.hid (fun W => cmp_any (d X) (d C) W (HBi.out X) (HBi.out C))
      obtain ⟨D, hD⟩ : ∃ D, D = (d X).at_ - (d C).at_ := ⟨_, rfl⟩
      rw [← hD] at HCmp
      have HD := Lib.hid hD
      clear hD
      refine flow_begin (tellOf [(11, det (.int .i64 D))]) (by kernel_rfl) (by kernel_rfl) ?_
      repeat (first | (refine flow_val (v := ?_) (by rfl) (by rfl) (fun w hb => ?_) ?_; rotate_left; (· ((go_simp) <;> ((repeat' apply And.intro) <;> with_reducible rfl))); try simp only [Act.put, List.setIfInBounds_toArray, List.set_cons_zero, List.set_cons_succ, Nat.reduceAdd]) | (refine flow_skip (by rfl) (by rfl) ?_; try simp only [Act.put, List.setIfInBounds_toArray, List.set_cons_zero, List.set_cons_succ, Nat.reduceAdd]))
      refine flow_call (f := ?_) (args := ?_) [] (by kernel_rfl) (by rfl) (by rfl) (fun w hb => ?_) (fun w hb hu => ?_) ?_; rotate_left 2; (· ((go_simp) <;> ((repeat' apply And.intro) <;> with_reducible rfl)))
      · exact HCmp.out w
      try simp only [Act.put, List.setIfInBounds_toArray, List.set_cons_zero, List.set_cons_succ, Nat.reduceAdd]
      repeat (first | (refine flow_val (v := ?_) (by rfl) (by rfl) (fun w hb => ?_) ?_; rotate_left; (· ((go_simp) <;> ((repeat' apply And.intro) <;> with_reducible rfl))); try simp only [Act.put, List.setIfInBounds_toArray, List.set_cons_zero, List.set_cons_succ, Nat.reduceAdd]) | (refine flow_skip (by rfl) (by rfl) ?_; try simp only [Act.put, List.setIfInBounds_toArray, List.set_cons_zero, List.set_cons_succ, Nat.reduceAdd]))
      refine flow_nil fun w5 hb1 _ => ?_
      have HE5 := Lib.hid (HE.out.below hb1)
      have HG5 : Hid (wr.grownBy w5 (some g)) := grown_bel hb1
      clear p0 p1 p2 p3 q0 q1 q2 q3 hb1 HE HCmp
      have HE := HE5
      clear HE5
      have HG : Hid (w.grownBy w5 (some g)) := HG0.out.trans HG5.out
      clear HG0 HG5
      by_cases hc : D < 0
      · have t3 : decide (D < 0) = true := decide_eq_true hc
        rw [t3]
        have HHi2 : Hid (C < r0 → (d (mid + m - 1 - C)).at_ < (d C).at_) := fun _ => by
          have := HD.out
          rw [HX1.out.2]
          omega
        clear hc t3 HHi
        go_wp2_with fail
        go_roundw
        case rel => exact ⟨i, C, rfl, rfl, by omega, by omega, by omega, HLo, HHi2, HE, HG⟩
        case measure => simp [intOf]; omega
      · have t3 : decide (D < 0) = false := decide_eq_false hc
        rw [t3]
        have HLo2 : Hid (s0 < C + 1 → (d (C + 1 - 1)).at_ ≤ (d (mid + m - (C + 1))).at_) := fun _ => by
          have := HD.out
          rw [HX1.out.1, show C + 1 - 1 = C from rfl]
          omega
        clear hc t3 HLo
        go_wp2_with fail
        go_roundw
        case rel => exact ⟨C + 1, j, by go_num, rfl, by omega, by omega, by omega, HLo2, HHi, HE, HG⟩
        case measure => simp [intOf]; omega
    · obtain rfl : j = i := by omega
      have t0 : decide ((j : Int) < (j : Int)) = false := decide_eq_false (by omega)
      obtain ⟨S, hS⟩ : ∃ S, S = j := ⟨_, rfl⟩
      obtain ⟨S, hS⟩ : ∃ S, S = j := ⟨_, rfl⟩
      subst hS
      have HC4' := Lib.hid (cut_of HS1.out HS2.out (by omega) (by omega) HMid.out HR0.out hi1 hj1 HLo.out HHi.out)
      obtain ⟨E, hE⟩ : ∃ E, E = mid + m - S := ⟨_, rfl⟩
      rw [← hE] at HC4'
      have HC4 := HC4'
      have e1 : IntKind.i64.wrap ((U : Int) - (S : Int)) = (E : Int) := by rw [IntWalk.i64_in _ (by omega)]; omega
      obtain ⟨dr, hdr⟩ : ∃ dr, dr = rot d S m E := ⟨_, rfl⟩
      have HMd := Lib.hid (sym_mid HS1.out HS2.out HTg.out HC4.out)
      have HRS : Hid (Shuf a b d dr) := by rw [hdr]; exact (rot_shuf d S m E HC4.out.h2 HC4.out.h3).wide HC4.out.h1 HC4.out.h4
      have HBr := Lib.hid (HBi.out.shuf HRS.out)
      rw [← hdr] at HMd
      have HDR : Hid (rot d S m E = dr) := hdr.symm
      have hEm := HC4.out.h4
      have hSm := HC4.out.h2
      clear hE hdr HC4' HLo HHi HS1 HS2 HTg hrng
      go_upto_region 39 with fail
      clear t0 e1
      by_cases c1 : S < m
      · have t1 : decide ((S : Int) < (m : Int)) = true := decide_eq_true (by omega)
        by_cases c2 : m < E
        · have t2 : decide ((m : Int) < (E : Int)) = true := decide_eq_true (by omega)
          have HC0 := Lib.hid (rotate_any g n c S m E d (.func (.func 51) #[] #[]) wr HE.out c1 c2 (by omega) h3)
          rw [HDR.out] at HC0
          go_upto_region 41 with (go_at_call 99; refine HC0.out.mono ?_; rintro e w6 ⟨rfl, hE6, hg6⟩)
          have HWG : Hid (w.grownBy w6 (some g)) := HG0.out.trans hg6
          have HWE := Lib.hid hE6
          clear hE6 hg6 HE HG0 t1 t2 HC0
          by_cases c3 : a < S
          · have t3 : decide ((a : Int) < (S : Int)) = true := decide_eq_true (by omega)
            by_cases c4 : S < mid
            · have t4 : decide ((S : Int) < (mid : Int)) = true := decide_eq_true (by omega)
              have HC1 := Lib.hid (HIH.out a S mid dr w6 (by omega) c3 c4 (by omega) HWE.out HBr.out HMd.out.1 HMd.out.2.1 HMd.out.2.2.1)
              go_upto_region 43 with (go_at_call 84; refine HC1.out.mono ?_; rintro e w7 ⟨rfl, d1, hE7, hS7, hO7, hg7⟩)
              have HWG7 : Hid (w.grownBy w7 (some g)) := HWG.out.trans hg7
              have H1S := Lib.hid hS7
              have H1O := Lib.hid hO7
              have HWE7 := Lib.hid hE7
              clear hE7 hS7 hO7 hg7 HWG HWE t3 t4 HC1
              have HWG := HWG7
              have HWE := HWE7
              clear HWG7 HWE7
              have H2a : Hid (Sor d1 mid E ∧ Sor d1 E b ∧ Tgs d1 mid E b) := sym_keep H1S.out HMd.out.2.2.2.1 HMd.out.2.2.2.2.1 HMd.out.2.2.2.2.2.1 HC4.out.h7
              by_cases c5 : mid < E
              · have t5 : decide ((mid : Int) < (E : Int)) = true := decide_eq_true (by omega)
                by_cases c6 : E < b
                · have t6 : decide ((E : Int) < (b : Int)) = true := decide_eq_true (by omega)
                  have HC2 := Lib.hid (HIH.out mid E b d1 w7 (by omega) c5 c6 (by omega) HWE.out (HBr.out.shuf H1S.out) H2a.out.1 H2a.out.2.1 H2a.out.2.2)
                  go_wp2_with (go_at_call 84; refine HC2.out.mono ?_; rintro e w8 ⟨rfl, d2, hE8, hS8, hO8, hg8⟩)
                  have HFin := sym_done HMd.out.2.2.2.2.2.2 H1S.out H1O.out hS8 hO8
                  have HFG : w.grownBy w8 (some g) := HWG.out.trans hg8
                  go_end0
                  exact ⟨rfl, _, hE8, HRS.out.trans HFin.1, HFin.2, HFG⟩
                · have t6 : decide ((E : Int) < (b : Int)) = false := decide_eq_false (by omega)
                  go_wp2_with fail
                  have HFin := sym_done HMd.out.2.2.2.2.2.2 H1S.out H1O.out (Shuf.refl mid b d1) (H2a.out.1.sub (Nat.le_refl _) (by omega))
                  go_end0
                  exact ⟨rfl, _, HWE.out, HRS.out.trans HFin.1, HFin.2, HWG.out⟩
              · have t5 : decide ((mid : Int) < (E : Int)) = false := decide_eq_false (by omega)
                go_wp2_with fail
                have HFin := sym_done HMd.out.2.2.2.2.2.2 H1S.out H1O.out (Shuf.refl mid b d1) (by rw [show mid = E from by have := HC4.out.h7; omega]; exact H2a.out.2.1)
                go_end0
                exact ⟨rfl, _, HWE.out, HRS.out.trans HFin.1, HFin.2, HWG.out⟩
            · have t4 : decide ((S : Int) < (mid : Int)) = false := decide_eq_false (by omega)
              have H1S := Lib.hid (Shuf.refl a mid dr)
              have H1O : Hid (Sor dr a mid) := HMd.out.1.sub (Nat.le_refl _) (by omega)
              go_upto_region 43 with fail
              clear t3 t4
              have H2a : Hid (Sor dr mid E ∧ Sor dr E b ∧ Tgs dr mid E b) := sym_keep H1S.out HMd.out.2.2.2.1 HMd.out.2.2.2.2.1 HMd.out.2.2.2.2.2.1 HC4.out.h7
              by_cases c5 : mid < E
              · have t5 : decide ((mid : Int) < (E : Int)) = true := decide_eq_true (by omega)
                by_cases c6 : E < b
                · have t6 : decide ((E : Int) < (b : Int)) = true := decide_eq_true (by omega)
                  have HC2 := Lib.hid (HIH.out mid E b dr w6 (by omega) c5 c6 (by omega) HWE.out (HBr.out.shuf H1S.out) H2a.out.1 H2a.out.2.1 H2a.out.2.2)
                  go_wp2_with (go_at_call 84; refine HC2.out.mono ?_; rintro e w8 ⟨rfl, d2, hE8, hS8, hO8, hg8⟩)
                  have HFin := sym_done HMd.out.2.2.2.2.2.2 H1S.out H1O.out hS8 hO8
                  have HFG : w.grownBy w8 (some g) := HWG.out.trans hg8
                  go_end0
                  exact ⟨rfl, _, hE8, HRS.out.trans HFin.1, HFin.2, HFG⟩
                · have t6 : decide ((E : Int) < (b : Int)) = false := decide_eq_false (by omega)
                  go_wp2_with fail
                  have HFin := sym_done HMd.out.2.2.2.2.2.2 H1S.out H1O.out (Shuf.refl mid b dr) (H2a.out.1.sub (Nat.le_refl _) (by omega))
                  go_end0
                  exact ⟨rfl, _, HWE.out, HRS.out.trans HFin.1, HFin.2, HWG.out⟩
              · have t5 : decide ((mid : Int) < (E : Int)) = false := decide_eq_false (by omega)
                go_wp2_with fail
                have HFin := sym_done HMd.out.2.2.2.2.2.2 H1S.out H1O.out (Shuf.refl mid b dr) (by rw [show mid = E from by have := HC4.out.h7; omega]; exact H2a.out.2.1)
                go_end0
                exact ⟨rfl, _, HWE.out, HRS.out.trans HFin.1, HFin.2, HWG.out⟩
          · have t3 : decide ((a : Int) < (S : Int)) = false := decide_eq_false (by omega)
            have H1S := Lib.hid (Shuf.refl a mid dr)
            have H1O : Hid (Sor dr a mid) := by have h := HMd.out.2.1; rw [show S = a from by have := HC4.out.h1; omega] at h; exact h
            go_upto_region 43 with fail
            clear t3
            have H2a : Hid (Sor dr mid E ∧ Sor dr E b ∧ Tgs dr mid E b) := sym_keep H1S.out HMd.out.2.2.2.1 HMd.out.2.2.2.2.1 HMd.out.2.2.2.2.2.1 HC4.out.h7
            by_cases c5 : mid < E
            · have t5 : decide ((mid : Int) < (E : Int)) = true := decide_eq_true (by omega)
              by_cases c6 : E < b
              · have t6 : decide ((E : Int) < (b : Int)) = true := decide_eq_true (by omega)
                have HC2 := Lib.hid (HIH.out mid E b dr w6 (by omega) c5 c6 (by omega) HWE.out (HBr.out.shuf H1S.out) H2a.out.1 H2a.out.2.1 H2a.out.2.2)
                go_wp2_with (go_at_call 84; refine HC2.out.mono ?_; rintro e w8 ⟨rfl, d2, hE8, hS8, hO8, hg8⟩)
                have HFin := sym_done HMd.out.2.2.2.2.2.2 H1S.out H1O.out hS8 hO8
                have HFG : w.grownBy w8 (some g) := HWG.out.trans hg8
                go_end0
                exact ⟨rfl, _, hE8, HRS.out.trans HFin.1, HFin.2, HFG⟩
              · have t6 : decide ((E : Int) < (b : Int)) = false := decide_eq_false (by omega)
                go_wp2_with fail
                have HFin := sym_done HMd.out.2.2.2.2.2.2 H1S.out H1O.out (Shuf.refl mid b dr) (H2a.out.1.sub (Nat.le_refl _) (by omega))
                go_end0
                exact ⟨rfl, _, HWE.out, HRS.out.trans HFin.1, HFin.2, HWG.out⟩
            · have t5 : decide ((mid : Int) < (E : Int)) = false := decide_eq_false (by omega)
              go_wp2_with fail
              have HFin := sym_done HMd.out.2.2.2.2.2.2 H1S.out H1O.out (Shuf.refl mid b dr) (by rw [show mid = E from by have := HC4.out.h7; omega]; exact H2a.out.2.1)
              go_end0
              exact ⟨rfl, _, HWE.out, HRS.out.trans HFin.1, HFin.2, HWG.out⟩
        · have t2 : decide ((m : Int) < (E : Int)) = false := decide_eq_false (by omega)
          have HWE : Hid (EdIn wr g n dr) := by rw [← HDR.out, show E = m from by have := HC4.out.h3; omega, rot_self d S m (by omega)]; exact HE
          have HWG := HG0
          go_upto_region 41 with fail
          clear t1 t2 HE HG0
          by_cases c3 : a < S
          · have t3 : decide ((a : Int) < (S : Int)) = true := decide_eq_true (by omega)
            by_cases c4 : S < mid
            · have t4 : decide ((S : Int) < (mid : Int)) = true := decide_eq_true (by omega)
              have HC1 := Lib.hid (HIH.out a S mid dr wr (by omega) c3 c4 (by omega) HWE.out HBr.out HMd.out.1 HMd.out.2.1 HMd.out.2.2.1)
              go_upto_region 43 with (go_at_call 84; refine HC1.out.mono ?_; rintro e w7 ⟨rfl, d1, hE7, hS7, hO7, hg7⟩)
              have HWG7 : Hid (w.grownBy w7 (some g)) := HWG.out.trans hg7
              have H1S := Lib.hid hS7
              have H1O := Lib.hid hO7
              have HWE7 := Lib.hid hE7
              clear hE7 hS7 hO7 hg7 HWG HWE t3 t4 HC1
              have HWG := HWG7
              have HWE := HWE7
              clear HWG7 HWE7
              have H2a : Hid (Sor d1 mid E ∧ Sor d1 E b ∧ Tgs d1 mid E b) := sym_keep H1S.out HMd.out.2.2.2.1 HMd.out.2.2.2.2.1 HMd.out.2.2.2.2.2.1 HC4.out.h7
              by_cases c5 : mid < E
              · have t5 : decide ((mid : Int) < (E : Int)) = true := decide_eq_true (by omega)
                by_cases c6 : E < b
                · have t6 : decide ((E : Int) < (b : Int)) = true := decide_eq_true (by omega)
                  have HC2 := Lib.hid (HIH.out mid E b d1 w7 (by omega) c5 c6 (by omega) HWE.out (HBr.out.shuf H1S.out) H2a.out.1 H2a.out.2.1 H2a.out.2.2)
                  go_wp2_with (go_at_call 84; refine HC2.out.mono ?_; rintro e w8 ⟨rfl, d2, hE8, hS8, hO8, hg8⟩)
                  have HFin := sym_done HMd.out.2.2.2.2.2.2 H1S.out H1O.out hS8 hO8
                  have HFG : w.grownBy w8 (some g) := HWG.out.trans hg8
                  go_end0
                  exact ⟨rfl, _, hE8, HRS.out.trans HFin.1, HFin.2, HFG⟩
                · have t6 : decide ((E : Int) < (b : Int)) = false := decide_eq_false (by omega)
                  go_wp2_with fail
                  have HFin := sym_done HMd.out.2.2.2.2.2.2 H1S.out H1O.out (Shuf.refl mid b d1) (H2a.out.1.sub (Nat.le_refl _) (by omega))
                  go_end0
                  exact ⟨rfl, _, HWE.out, HRS.out.trans HFin.1, HFin.2, HWG.out⟩
              · have t5 : decide ((mid : Int) < (E : Int)) = false := decide_eq_false (by omega)
                go_wp2_with fail
                have HFin := sym_done HMd.out.2.2.2.2.2.2 H1S.out H1O.out (Shuf.refl mid b d1) (by rw [show mid = E from by have := HC4.out.h7; omega]; exact H2a.out.2.1)
                go_end0
                exact ⟨rfl, _, HWE.out, HRS.out.trans HFin.1, HFin.2, HWG.out⟩
            · have t4 : decide ((S : Int) < (mid : Int)) = false := decide_eq_false (by omega)
              have H1S := Lib.hid (Shuf.refl a mid dr)
              have H1O : Hid (Sor dr a mid) := HMd.out.1.sub (Nat.le_refl _) (by omega)
              go_upto_region 43 with fail
              clear t3 t4
              have H2a : Hid (Sor dr mid E ∧ Sor dr E b ∧ Tgs dr mid E b) := sym_keep H1S.out HMd.out.2.2.2.1 HMd.out.2.2.2.2.1 HMd.out.2.2.2.2.2.1 HC4.out.h7
              by_cases c5 : mid < E
              · have t5 : decide ((mid : Int) < (E : Int)) = true := decide_eq_true (by omega)
                by_cases c6 : E < b
                · have t6 : decide ((E : Int) < (b : Int)) = true := decide_eq_true (by omega)
                  have HC2 := Lib.hid (HIH.out mid E b dr wr (by omega) c5 c6 (by omega) HWE.out (HBr.out.shuf H1S.out) H2a.out.1 H2a.out.2.1 H2a.out.2.2)
                  go_wp2_with (go_at_call 84; refine HC2.out.mono ?_; rintro e w8 ⟨rfl, d2, hE8, hS8, hO8, hg8⟩)
                  have HFin := sym_done HMd.out.2.2.2.2.2.2 H1S.out H1O.out hS8 hO8
                  have HFG : w.grownBy w8 (some g) := HWG.out.trans hg8
                  go_end0
                  exact ⟨rfl, _, hE8, HRS.out.trans HFin.1, HFin.2, HFG⟩
                · have t6 : decide ((E : Int) < (b : Int)) = false := decide_eq_false (by omega)
                  go_wp2_with fail
                  have HFin := sym_done HMd.out.2.2.2.2.2.2 H1S.out H1O.out (Shuf.refl mid b dr) (H2a.out.1.sub (Nat.le_refl _) (by omega))
                  go_end0
                  exact ⟨rfl, _, HWE.out, HRS.out.trans HFin.1, HFin.2, HWG.out⟩
              · have t5 : decide ((mid : Int) < (E : Int)) = false := decide_eq_false (by omega)
                go_wp2_with fail
                have HFin := sym_done HMd.out.2.2.2.2.2.2 H1S.out H1O.out (Shuf.refl mid b dr) (by rw [show mid = E from by have := HC4.out.h7; omega]; exact H2a.out.2.1)
                go_end0
                exact ⟨rfl, _, HWE.out, HRS.out.trans HFin.1, HFin.2, HWG.out⟩
          · have t3 : decide ((a : Int) < (S : Int)) = false := decide_eq_false (by omega)
            have H1S := Lib.hid (Shuf.refl a mid dr)
            have H1O : Hid (Sor dr a mid) := by have h := HMd.out.2.1; rw [show S = a from by have := HC4.out.h1; omega] at h; exact h
            go_upto_region 43 with fail
            clear t3
            have H2a : Hid (Sor dr mid E ∧ Sor dr E b ∧ Tgs dr mid E b) := sym_keep H1S.out HMd.out.2.2.2.1 HMd.out.2.2.2.2.1 HMd.out.2.2.2.2.2.1 HC4.out.h7
            by_cases c5 : mid < E
            · have t5 : decide ((mid : Int) < (E : Int)) = true := decide_eq_true (by omega)
              by_cases c6 : E < b
              · have t6 : decide ((E : Int) < (b : Int)) = true := decide_eq_true (by omega)
                have HC2 := Lib.hid (HIH.out mid E b dr wr (by omega) c5 c6 (by omega) HWE.out (HBr.out.shuf H1S.out) H2a.out.1 H2a.out.2.1 H2a.out.2.2)
                go_wp2_with (go_at_call 84; refine HC2.out.mono ?_; rintro e w8 ⟨rfl, d2, hE8, hS8, hO8, hg8⟩)
                have HFin := sym_done HMd.out.2.2.2.2.2.2 H1S.out H1O.out hS8 hO8
                have HFG : w.grownBy w8 (some g) := HWG.out.trans hg8
                go_end0
                exact ⟨rfl, _, hE8, HRS.out.trans HFin.1, HFin.2, HFG⟩
              · have t6 : decide ((E : Int) < (b : Int)) = false := decide_eq_false (by omega)
                go_wp2_with fail
                have HFin := sym_done HMd.out.2.2.2.2.2.2 H1S.out H1O.out (Shuf.refl mid b dr) (H2a.out.1.sub (Nat.le_refl _) (by omega))
                go_end0
                exact ⟨rfl, _, HWE.out, HRS.out.trans HFin.1, HFin.2, HWG.out⟩
            · have t5 : decide ((mid : Int) < (E : Int)) = false := decide_eq_false (by omega)
              go_wp2_with fail
              have HFin := sym_done HMd.out.2.2.2.2.2.2 H1S.out H1O.out (Shuf.refl mid b dr) (by rw [show mid = E from by have := HC4.out.h7; omega]; exact H2a.out.2.1)
              go_end0
              exact ⟨rfl, _, HWE.out, HRS.out.trans HFin.1, HFin.2, HWG.out⟩
      · have t1 : decide ((S : Int) < (m : Int)) = false := decide_eq_false (by omega)
        have HWE : Hid (EdIn wr g n dr) := by rw [← HDR.out, show S = m from by have := HC4.out.h2; omega, rot_left d m E HC4.out.h3]; exact HE
        have HWG := HG0
        go_upto_region 41 with fail
        clear t1 HE HG0
        by_cases c3 : a < S
        · have t3 : decide ((a : Int) < (S : Int)) = true := decide_eq_true (by omega)
          by_cases c4 : S < mid
          · have t4 : decide ((S : Int) < (mid : Int)) = true := decide_eq_true (by omega)
            have HC1 := Lib.hid (HIH.out a S mid dr wr (by omega) c3 c4 (by omega) HWE.out HBr.out HMd.out.1 HMd.out.2.1 HMd.out.2.2.1)
            go_upto_region 43 with (go_at_call 84; refine HC1.out.mono ?_; rintro e w7 ⟨rfl, d1, hE7, hS7, hO7, hg7⟩)
            have HWG7 : Hid (w.grownBy w7 (some g)) := HWG.out.trans hg7
            have H1S := Lib.hid hS7
            have H1O := Lib.hid hO7
            have HWE7 := Lib.hid hE7
            clear hE7 hS7 hO7 hg7 HWG HWE t3 t4 HC1
            have HWG := HWG7
            have HWE := HWE7
            clear HWG7 HWE7
            have H2a : Hid (Sor d1 mid E ∧ Sor d1 E b ∧ Tgs d1 mid E b) := sym_keep H1S.out HMd.out.2.2.2.1 HMd.out.2.2.2.2.1 HMd.out.2.2.2.2.2.1 HC4.out.h7
            by_cases c5 : mid < E
            · have t5 : decide ((mid : Int) < (E : Int)) = true := decide_eq_true (by omega)
              by_cases c6 : E < b
              · have t6 : decide ((E : Int) < (b : Int)) = true := decide_eq_true (by omega)
                have HC2 := Lib.hid (HIH.out mid E b d1 w7 (by omega) c5 c6 (by omega) HWE.out (HBr.out.shuf H1S.out) H2a.out.1 H2a.out.2.1 H2a.out.2.2)
                go_wp2_with (go_at_call 84; refine HC2.out.mono ?_; rintro e w8 ⟨rfl, d2, hE8, hS8, hO8, hg8⟩)
                have HFin := sym_done HMd.out.2.2.2.2.2.2 H1S.out H1O.out hS8 hO8
                have HFG : w.grownBy w8 (some g) := HWG.out.trans hg8
                go_end0
                exact ⟨rfl, _, hE8, HRS.out.trans HFin.1, HFin.2, HFG⟩
              · have t6 : decide ((E : Int) < (b : Int)) = false := decide_eq_false (by omega)
                go_wp2_with fail
                have HFin := sym_done HMd.out.2.2.2.2.2.2 H1S.out H1O.out (Shuf.refl mid b d1) (H2a.out.1.sub (Nat.le_refl _) (by omega))
                go_end0
                exact ⟨rfl, _, HWE.out, HRS.out.trans HFin.1, HFin.2, HWG.out⟩
            · have t5 : decide ((mid : Int) < (E : Int)) = false := decide_eq_false (by omega)
              go_wp2_with fail
              have HFin := sym_done HMd.out.2.2.2.2.2.2 H1S.out H1O.out (Shuf.refl mid b d1) (by rw [show mid = E from by have := HC4.out.h7; omega]; exact H2a.out.2.1)
              go_end0
              exact ⟨rfl, _, HWE.out, HRS.out.trans HFin.1, HFin.2, HWG.out⟩
          · have t4 : decide ((S : Int) < (mid : Int)) = false := decide_eq_false (by omega)
            have H1S := Lib.hid (Shuf.refl a mid dr)
            have H1O : Hid (Sor dr a mid) := HMd.out.1.sub (Nat.le_refl _) (by omega)
            go_upto_region 43 with fail
            clear t3 t4
            have H2a : Hid (Sor dr mid E ∧ Sor dr E b ∧ Tgs dr mid E b) := sym_keep H1S.out HMd.out.2.2.2.1 HMd.out.2.2.2.2.1 HMd.out.2.2.2.2.2.1 HC4.out.h7
            by_cases c5 : mid < E
            · have t5 : decide ((mid : Int) < (E : Int)) = true := decide_eq_true (by omega)
              by_cases c6 : E < b
              · have t6 : decide ((E : Int) < (b : Int)) = true := decide_eq_true (by omega)
                have HC2 := Lib.hid (HIH.out mid E b dr wr (by omega) c5 c6 (by omega) HWE.out (HBr.out.shuf H1S.out) H2a.out.1 H2a.out.2.1 H2a.out.2.2)
                go_wp2_with (go_at_call 84; refine HC2.out.mono ?_; rintro e w8 ⟨rfl, d2, hE8, hS8, hO8, hg8⟩)
                have HFin := sym_done HMd.out.2.2.2.2.2.2 H1S.out H1O.out hS8 hO8
                have HFG : w.grownBy w8 (some g) := HWG.out.trans hg8
                go_end0
                exact ⟨rfl, _, hE8, HRS.out.trans HFin.1, HFin.2, HFG⟩
              · have t6 : decide ((E : Int) < (b : Int)) = false := decide_eq_false (by omega)
                go_wp2_with fail
                have HFin := sym_done HMd.out.2.2.2.2.2.2 H1S.out H1O.out (Shuf.refl mid b dr) (H2a.out.1.sub (Nat.le_refl _) (by omega))
                go_end0
                exact ⟨rfl, _, HWE.out, HRS.out.trans HFin.1, HFin.2, HWG.out⟩
            · have t5 : decide ((mid : Int) < (E : Int)) = false := decide_eq_false (by omega)
              go_wp2_with fail
              have HFin := sym_done HMd.out.2.2.2.2.2.2 H1S.out H1O.out (Shuf.refl mid b dr) (by rw [show mid = E from by have := HC4.out.h7; omega]; exact H2a.out.2.1)
              go_end0
              exact ⟨rfl, _, HWE.out, HRS.out.trans HFin.1, HFin.2, HWG.out⟩
        · have t3 : decide ((a : Int) < (S : Int)) = false := decide_eq_false (by omega)
          have H1S := Lib.hid (Shuf.refl a mid dr)
          have H1O : Hid (Sor dr a mid) := by have h := HMd.out.2.1; rw [show S = a from by have := HC4.out.h1; omega] at h; exact h
          go_upto_region 43 with fail
          clear t3
          have H2a : Hid (Sor dr mid E ∧ Sor dr E b ∧ Tgs dr mid E b) := sym_keep H1S.out HMd.out.2.2.2.1 HMd.out.2.2.2.2.1 HMd.out.2.2.2.2.2.1 HC4.out.h7
          by_cases c5 : mid < E
          · have t5 : decide ((mid : Int) < (E : Int)) = true := decide_eq_true (by omega)
            by_cases c6 : E < b
            · have t6 : decide ((E : Int) < (b : Int)) = true := decide_eq_true (by omega)
              have HC2 := Lib.hid (HIH.out mid E b dr wr (by omega) c5 c6 (by omega) HWE.out (HBr.out.shuf H1S.out) H2a.out.1 H2a.out.2.1 H2a.out.2.2)
              go_wp2_with (go_at_call 84; refine HC2.out.mono ?_; rintro e w8 ⟨rfl, d2, hE8, hS8, hO8, hg8⟩)
              have HFin := sym_done HMd.out.2.2.2.2.2.2 H1S.out H1O.out hS8 hO8
              have HFG : w.grownBy w8 (some g) := HWG.out.trans hg8
              go_end0
              exact ⟨rfl, _, hE8, HRS.out.trans HFin.1, HFin.2, HFG⟩
            · have t6 : decide ((E : Int) < (b : Int)) = false := decide_eq_false (by omega)
              go_wp2_with fail
              have HFin := sym_done HMd.out.2.2.2.2.2.2 H1S.out H1O.out (Shuf.refl mid b dr) (H2a.out.1.sub (Nat.le_refl _) (by omega))
              go_end0
              exact ⟨rfl, _, HWE.out, HRS.out.trans HFin.1, HFin.2, HWG.out⟩
          · have t5 : decide ((mid : Int) < (E : Int)) = false := decide_eq_false (by omega)
            go_wp2_with fail
            have HFin := sym_done HMd.out.2.2.2.2.2.2 H1S.out H1O.out (Shuf.refl mid b dr) (by rw [show mid = E from by have := HC4.out.h7; omega]; exact H2a.out.2.1)
            go_end0
            exact ⟨rfl, _, HWE.out, HRS.out.trans HFin.1, HFin.2, HWG.out⟩
end Go.Proofs.YtifhlmakacoicaaDoor

/- SymMerge at two long runs: the first run does not reach behind the middle. -/
namespace Go.Proofs.YtifhlmakacoicaaDoor
open Go.RowKit
set_option linter.unusedVariables false

set_option maxHeartbeats 16000000 in
set_option maxRecDepth 100000 in
theorem sym_lo (g n c a m b : Nat) (d : Nat → Ed) (w : World) (h : EdIn w g n d) (hB : Bd d) (h1 : a + 1 < m) (h1' : m + 1 < b) (h2 : b ≤ n) (h3 : n ≤ 1000) (hm : m ≤ (a + b) / 2) (hs1 : Sor d a m) (hs2 : Sor d m b) (ht : Tgs d a m b) (hIH : SymIH g n c (b - a)) :
    Calls Tryd.prog 84 #[.slice (some ⟨g, 0, none⟩) n c, .int .i64 (a : Int), .int .i64 (m : Int), .int .i64 (b : Int), .func (.func 51) #[] #[]] w (SortQ g n a b d w) := by
  have HI := Lib.hid h
  have HBi := Lib.hid hB
  have HS1 := Lib.hid hs1
  have HS2 := Lib.hid hs2
  have HTg := Lib.hid ht
  have HIH := Lib.hid hIH
  have eg : ∀ args w, (callFunc 51 args).run Tryd.prog w = .ok (.enter 51 args) w := fun args w => by kernel_rfl
  clear h hB hs1 hs2 ht hIH
  obtain ⟨N1, hN1⟩ : ∃ N1, N1 = m - a := ⟨_, rfl⟩
  obtain ⟨N2, hN2⟩ : ∃ N2, N2 = b - m := ⟨_, rfl⟩
  obtain ⟨mid, hmid⟩ : ∃ mid, mid = (a + b) / 2 := ⟨_, rfl⟩
  obtain ⟨U, hU⟩ : ∃ U, U = mid + m := ⟨_, rfl⟩
  obtain ⟨p, hp⟩ : ∃ p, p = U - 1 := ⟨_, rfl⟩
  obtain ⟨s0, hs0⟩ : ∃ s0, s0 = a := ⟨_, rfl⟩
  obtain ⟨r0, hr0⟩ : ∃ r0, r0 = m := ⟨_, rfl⟩
  rw [← hmid] at hm
  have e0 : IntKind.i64.wrap ((m : Int) - (a : Int)) = (N1 : Int) := by rw [IntWalk.i64_in _ (by omega)]; omega
  have e00 : ((N1 : Int) == 1) = false := by rw [beq_eq_false_iff_ne]; omega
  have e01 : IntKind.i64.wrap ((b : Int) - (m : Int)) = (N2 : Int) := by rw [IntWalk.i64_in _ (by omega)]; omega
  have e02 : ((N2 : Int) == 1) = false := by rw [beq_eq_false_iff_ne]; omega
  have e1 : ((a : Int) + (b : Int)) / 2 = (mid : Int) := by omega
  have e2 : IntKind.i64.wrap ((mid : Int) + (m : Int)) = (U : Int) := by rw [IntWalk.i64_in _ (by omega)]; omega
  have e3 : IntKind.i64.wrap ((U : Int) - 1) = (p : Int) := by rw [IntWalk.i64_in _ (by omega)]; omega
  have t0 : decide ((mid : Int) < (m : Int)) = false := decide_eq_false (by omega)
  have hr : (m > mid ∧ s0 = mid + m - b ∧ r0 = mid) ∨ (m ≤ mid ∧ s0 = a ∧ r0 = m) := .inr ⟨by omega, by omega, by omega⟩
  have hrng : ∀ x, s0 ≤ x → x < r0 → m ≤ p - x ∧ p - x < b ∧ a ≤ x ∧ x < m ∧ x ≤ p := by omega
  have hs0r0 : s0 ≤ r0 ∧ r0 ≤ m ∧ m + mid = U ∧ p + 1 = U ∧ a < mid ∧ mid < b ∧ U ≤ 2000 := by omega
  have HMid := Lib.hid hmid
  have HR0 := Lib.hid hr
  clear hmid hU hp hN1 hN2 hr
  have hs0' := hs0
  have hr0' := hr0
  clear hs0 hr0
  unfold SortQ
  go_enter Tryd.func84, Tryd.ntmps84
  go_upto_region 33 with fail
  clear e0 e00 e01 e02 e1 e2 e3 t0
  go_loopw [20, 21, 23] (fun x y _ wr => ∃ (i j : Nat), x = .int .i64 (i : Int) ∧ y = .int .i64 (j : Int) ∧ s0 ≤ i ∧ i ≤ j ∧ j ≤ r0 ∧ Hid (s0 < i → (d (i - 1)).at_ ≤ (d (mid + m - i)).at_) ∧ Hid (j < r0 → (d (mid + m - 1 - j)).at_ < (d j).at_) ∧ Hid (EdIn wr g n d) ∧ Hid (w.grownBy wr (some g))) (fun x y _ _ => (intOf y).toNat - (intOf x).toNat)
  case atStart => exact ⟨s0, r0, by rw [hs0'], by rw [hr0'], by omega, by omega, by omega, (fun h => by omega), (fun h => by omega), HI, World.grownBy.refl _ _⟩
  case round =>
    clear HI
    obtain ⟨i, j, rfl, rfl, hi1, hij, hj1, hlo, hhi, hE, hbr⟩ := hrel
    have HLo := Lib.hid hlo.out
    have HHi := Lib.hid hhi.out
    have HE := Lib.hid hE.out
    have HG0 := Lib.hid hbr.out
    clear hlo hhi hE hbr
    by_cases hlt : i < j
    · have t1 : decide ((i : Int) < (j : Int)) = true := decide_eq_true (by omega)
      obtain ⟨C, hC⟩ : ∃ C, C = (i + j) / 2 := ⟨_, rfl⟩
      obtain ⟨hx1, hx2, hx3, hx4, hx5⟩ := hrng C (by omega) (by omega)
      obtain ⟨X, hX⟩ : ∃ X, X = p - C := ⟨_, rfl⟩
      have hXn : X < n := by omega
      have hCn : C < n := by omega
      have hC1 : i ≤ C ∧ C < j := by omega
      have e1 : ((i : Int) + (j : Int)) / 2 = (C : Int) := by omega
      have e2 : IntKind.i64.wrap ((p : Int) - (C : Int)) = (X : Int) := by rw [IntWalk.i64_in _ (by omega)]; omega
      have bX : (0 : Int) ≤ (X : Int) ∧ (X : Int) < (n : Int) := by omega
      have bC : (0 : Int) ≤ (C : Int) ∧ (C : Int) < (n : Int) := by omega
      have HX1 : Hid (mid + m - (C + 1) = X ∧ mid + m - 1 - C = X) := show mid + m - (C + 1) = X ∧ mid + m - 1 - C = X by omega
      clear hC hX hx1 hx2 hx3 hx4 hx5
      go_upto_region 35 with fail
      have p0 : ∀ W, Below wr.heap.size wr W → W.cell? ⟨g, X * 4, none⟩ = some (.int .i64 (d X).e.k) := fun W hW => ((HE.out.below hW).cells _ hXn).1
      have p1 : ∀ W, Below wr.heap.size wr W → W.cell? ⟨g, X * 4 + 1, none⟩ = some (.int .i64 (d X).at_) := fun W hW => ((HE.out.below hW).cells _ hXn).2.1
      have p2 : ∀ W, Below wr.heap.size wr W → W.cell? ⟨g, X * 4 + 2, none⟩ = some (.int .i64 (d X).e.o) := fun W hW => ((HE.out.below hW).cells _ hXn).2.2.1
      have p3 : ∀ W, Below wr.heap.size wr W → W.cell? ⟨g, X * 4 + 3, none⟩ = some (.string (d X).e.l) := fun W hW => ((HE.out.below hW).cells _ hXn).2.2.2
      have q0 : ∀ W, Below wr.heap.size wr W → W.cell? ⟨g, C * 4, none⟩ = some (.int .i64 (d C).e.k) := fun W hW => ((HE.out.below hW).cells _ hCn).1
      have q1 : ∀ W, Below wr.heap.size wr W → W.cell? ⟨g, C * 4 + 1, none⟩ = some (.int .i64 (d C).at_) := fun W hW => ((HE.out.below hW).cells _ hCn).2.1
      have q2 : ∀ W, Below wr.heap.size wr W → W.cell? ⟨g, C * 4 + 2, none⟩ = some (.int .i64 (d C).e.o) := fun W hW => ((HE.out.below hW).cells _ hCn).2.2.1
      have q3 : ∀ W, Below wr.heap.size wr W → W.cell? ⟨g, C * 4 + 3, none⟩ = some (.string (d C).e.l) := fun W hW => ((HE.out.below hW).cells _ hCn).2.2.2
      have HCmp := Lib.hid (fun W => cmp_any (d X) (d C) W (HBi.out X) (HBi.out C))
      obtain ⟨D, hD⟩ : ∃ D, D = (d X).at_ - (d C).at_ := ⟨_, rfl⟩
      rw [← hD] at HCmp
      have HD := Lib.hid hD
      clear hD
      refine flow_begin (tellOf [(11, det (.int .i64 D))]) (by kernel_rfl) (by kernel_rfl) ?_
      repeat (first | (refine flow_val (v := ?_) (by rfl) (by rfl) (fun w hb => ?_) ?_; rotate_left; (· ((go_simp) <;> ((repeat' apply And.intro) <;> with_reducible rfl))); try simp only [Act.put, List.setIfInBounds_toArray, List.set_cons_zero, List.set_cons_succ, Nat.reduceAdd]) | (refine flow_skip (by rfl) (by rfl) ?_; try simp only [Act.put, List.setIfInBounds_toArray, List.set_cons_zero, List.set_cons_succ, Nat.reduceAdd]))
      refine flow_call (f := ?_) (args := ?_) [] (by kernel_rfl) (by rfl) (by rfl) (fun w hb => ?_) (fun w hb hu => ?_) ?_; rotate_left 2; (· ((go_simp) <;> ((repeat' apply And.intro) <;> with_reducible rfl)))
      · exact HCmp.out w
      try simp only [Act.put, List.setIfInBounds_toArray, List.set_cons_zero, List.set_cons_succ, Nat.reduceAdd]
      repeat (first | (refine flow_val (v := ?_) (by rfl) (by rfl) (fun w hb => ?_) ?_; rotate_left; (· ((go_simp) <;> ((repeat' apply And.intro) <;> with_reducible rfl))); try simp only [Act.put, List.setIfInBounds_toArray, List.set_cons_zero, List.set_cons_succ, Nat.reduceAdd]) | (refine flow_skip (by rfl) (by rfl) ?_; try simp only [Act.put, List.setIfInBounds_toArray, List.set_cons_zero, List.set_cons_succ, Nat.reduceAdd]))
      refine flow_nil fun w5 hb1 _ => ?_
      have HE5 := Lib.hid (HE.out.below hb1)
      have HG5 : Hid (wr.grownBy w5 (some g)) := grown_bel hb1
      clear p0 p1 p2 p3 q0 q1 q2 q3 hb1 HE HCmp
      have HE := HE5
      clear HE5
      have HG : Hid (w.grownBy w5 (some g)) := HG0.out.trans HG5.out
      clear HG0 HG5
      by_cases hc : D < 0
      · have t3 : decide (D < 0) = true := decide_eq_true hc
        rw [t3]
        have HHi2 : Hid (C < r0 → (d (mid + m - 1 - C)).at_ < (d C).at_) := fun _ => by
          have := HD.out
          rw [HX1.out.2]
          omega
        clear hc t3 HHi
        go_wp2_with fail
        go_roundw
        case rel => exact ⟨i, C, rfl, rfl, by omega, by omega, by omega, HLo, HHi2, HE, HG⟩
        case measure => simp [intOf]; omega
      · have t3 : decide (D < 0) = false := decide_eq_false hc
        rw [t3]
        have HLo2 : Hid (s0 < C + 1 → (d (C + 1 - 1)).at_ ≤ (d (mid + m - (C + 1))).at_) := fun _ => by
          have := HD.out
          rw [HX1.out.1, show C + 1 - 1 = C from rfl]
          omega
        clear hc t3 HLo
        go_wp2_with fail
        go_roundw
        case rel => exact ⟨C + 1, j, by go_num, rfl, by omega, by omega, by omega, HLo2, HHi, HE, HG⟩
        case measure => simp [intOf]; omega
    · obtain rfl : j = i := by omega
      have t0 : decide ((j : Int) < (j : Int)) = false := decide_eq_false (by omega)
      obtain ⟨S, hS⟩ : ∃ S, S = j := ⟨_, rfl⟩
      obtain ⟨S, hS⟩ : ∃ S, S = j := ⟨_, rfl⟩
      subst hS
      have HC4' := Lib.hid (cut_of HS1.out HS2.out (by omega) (by omega) HMid.out HR0.out hi1 hj1 HLo.out HHi.out)
      obtain ⟨E, hE⟩ : ∃ E, E = mid + m - S := ⟨_, rfl⟩
      rw [← hE] at HC4'
      have HC4 := HC4'
      have e1 : IntKind.i64.wrap ((U : Int) - (S : Int)) = (E : Int) := by rw [IntWalk.i64_in _ (by omega)]; omega
      obtain ⟨dr, hdr⟩ : ∃ dr, dr = rot d S m E := ⟨_, rfl⟩
      have HMd := Lib.hid (sym_mid HS1.out HS2.out HTg.out HC4.out)
      have HRS : Hid (Shuf a b d dr) := by rw [hdr]; exact (rot_shuf d S m E HC4.out.h2 HC4.out.h3).wide HC4.out.h1 HC4.out.h4
      have HBr := Lib.hid (HBi.out.shuf HRS.out)
      rw [← hdr] at HMd
      have HDR : Hid (rot d S m E = dr) := hdr.symm
      have hEm := HC4.out.h4
      have hSm := HC4.out.h2
      clear hE hdr HC4' HLo HHi HS1 HS2 HTg hrng
      go_upto_region 39 with fail
      clear t0 e1
      by_cases c1 : S < m
      · have t1 : decide ((S : Int) < (m : Int)) = true := decide_eq_true (by omega)
        by_cases c2 : m < E
        · have t2 : decide ((m : Int) < (E : Int)) = true := decide_eq_true (by omega)
          have HC0 := Lib.hid (rotate_any g n c S m E d (.func (.func 51) #[] #[]) wr HE.out c1 c2 (by omega) h3)
          rw [HDR.out] at HC0
          go_upto_region 41 with (go_at_call 99; refine HC0.out.mono ?_; rintro e w6 ⟨rfl, hE6, hg6⟩)
          have HWG : Hid (w.grownBy w6 (some g)) := HG0.out.trans hg6
          have HWE := Lib.hid hE6
          clear hE6 hg6 HE HG0 t1 t2 HC0
          by_cases c3 : a < S
          · have t3 : decide ((a : Int) < (S : Int)) = true := decide_eq_true (by omega)
            by_cases c4 : S < mid
            · have t4 : decide ((S : Int) < (mid : Int)) = true := decide_eq_true (by omega)
              have HC1 := Lib.hid (HIH.out a S mid dr w6 (by omega) c3 c4 (by omega) HWE.out HBr.out HMd.out.1 HMd.out.2.1 HMd.out.2.2.1)
              go_upto_region 43 with (go_at_call 84; refine HC1.out.mono ?_; rintro e w7 ⟨rfl, d1, hE7, hS7, hO7, hg7⟩)
              have HWG7 : Hid (w.grownBy w7 (some g)) := HWG.out.trans hg7
              have H1S := Lib.hid hS7
              have H1O := Lib.hid hO7
              have HWE7 := Lib.hid hE7
              clear hE7 hS7 hO7 hg7 HWG HWE t3 t4 HC1
              have HWG := HWG7
              have HWE := HWE7
              clear HWG7 HWE7
              have H2a : Hid (Sor d1 mid E ∧ Sor d1 E b ∧ Tgs d1 mid E b) := sym_keep H1S.out HMd.out.2.2.2.1 HMd.out.2.2.2.2.1 HMd.out.2.2.2.2.2.1 HC4.out.h7
              by_cases c5 : mid < E
              · have t5 : decide ((mid : Int) < (E : Int)) = true := decide_eq_true (by omega)
                by_cases c6 : E < b
                · have t6 : decide ((E : Int) < (b : Int)) = true := decide_eq_true (by omega)
                  have HC2 := Lib.hid (HIH.out mid E b d1 w7 (by omega) c5 c6 (by omega) HWE.out (HBr.out.shuf H1S.out) H2a.out.1 H2a.out.2.1 H2a.out.2.2)
                  go_wp2_with (go_at_call 84; refine HC2.out.mono ?_; rintro e w8 ⟨rfl, d2, hE8, hS8, hO8, hg8⟩)
                  have HFin := sym_done HMd.out.2.2.2.2.2.2 H1S.out H1O.out hS8 hO8
                  have HFG : w.grownBy w8 (some g) := HWG.out.trans hg8
                  go_end0
                  exact ⟨rfl, _, hE8, HRS.out.trans HFin.1, HFin.2, HFG⟩
                · have t6 : decide ((E : Int) < (b : Int)) = false := decide_eq_false (by omega)
                  go_wp2_with fail
                  have HFin := sym_done HMd.out.2.2.2.2.2.2 H1S.out H1O.out (Shuf.refl mid b d1) (H2a.out.1.sub (Nat.le_refl _) (by omega))
                  go_end0
                  exact ⟨rfl, _, HWE.out, HRS.out.trans HFin.1, HFin.2, HWG.out⟩
              · have t5 : decide ((mid : Int) < (E : Int)) = false := decide_eq_false (by omega)
                go_wp2_with fail
                have HFin := sym_done HMd.out.2.2.2.2.2.2 H1S.out H1O.out (Shuf.refl mid b d1) (by rw [show mid = E from by have := HC4.out.h7; omega]; exact H2a.out.2.1)
                go_end0
                exact ⟨rfl, _, HWE.out, HRS.out.trans HFin.1, HFin.2, HWG.out⟩
            · have t4 : decide ((S : Int) < (mid : Int)) = false := decide_eq_false (by omega)
              have H1S := Lib.hid (Shuf.refl a mid dr)
              have H1O : Hid (Sor dr a mid) := HMd.out.1.sub (Nat.le_refl _) (by omega)
              go_upto_region 43 with fail
              clear t3 t4
              have H2a : Hid (Sor dr mid E ∧ Sor dr E b ∧ Tgs dr mid E b) := sym_keep H1S.out HMd.out.2.2.2.1 HMd.out.2.2.2.2.1 HMd.out.2.2.2.2.2.1 HC4.out.h7
              by_cases c5 : mid < E
              · have t5 : decide ((mid : Int) < (E : Int)) = true := decide_eq_true (by omega)
                by_cases c6 : E < b
                · have t6 : decide ((E : Int) < (b : Int)) = true := decide_eq_true (by omega)
                  have HC2 := Lib.hid (HIH.out mid E b dr w6 (by omega) c5 c6 (by omega) HWE.out (HBr.out.shuf H1S.out) H2a.out.1 H2a.out.2.1 H2a.out.2.2)
                  go_wp2_with (go_at_call 84; refine HC2.out.mono ?_; rintro e w8 ⟨rfl, d2, hE8, hS8, hO8, hg8⟩)
                  have HFin := sym_done HMd.out.2.2.2.2.2.2 H1S.out H1O.out hS8 hO8
                  have HFG : w.grownBy w8 (some g) := HWG.out.trans hg8
                  go_end0
                  exact ⟨rfl, _, hE8, HRS.out.trans HFin.1, HFin.2, HFG⟩
                · have t6 : decide ((E : Int) < (b : Int)) = false := decide_eq_false (by omega)
                  go_wp2_with fail
                  have HFin := sym_done HMd.out.2.2.2.2.2.2 H1S.out H1O.out (Shuf.refl mid b dr) (H2a.out.1.sub (Nat.le_refl _) (by omega))
                  go_end0
                  exact ⟨rfl, _, HWE.out, HRS.out.trans HFin.1, HFin.2, HWG.out⟩
              · have t5 : decide ((mid : Int) < (E : Int)) = false := decide_eq_false (by omega)
                go_wp2_with fail
                have HFin := sym_done HMd.out.2.2.2.2.2.2 H1S.out H1O.out (Shuf.refl mid b dr) (by rw [show mid = E from by have := HC4.out.h7; omega]; exact H2a.out.2.1)
                go_end0
                exact ⟨rfl, _, HWE.out, HRS.out.trans HFin.1, HFin.2, HWG.out⟩
          · have t3 : decide ((a : Int) < (S : Int)) = false := decide_eq_false (by omega)
            have H1S := Lib.hid (Shuf.refl a mid dr)
            have H1O : Hid (Sor dr a mid) := by have h := HMd.out.2.1; rw [show S = a from by have := HC4.out.h1; omega] at h; exact h
            go_upto_region 43 with fail
            clear t3
            have H2a : Hid (Sor dr mid E ∧ Sor dr E b ∧ Tgs dr mid E b) := sym_keep H1S.out HMd.out.2.2.2.1 HMd.out.2.2.2.2.1 HMd.out.2.2.2.2.2.1 HC4.out.h7
            by_cases c5 : mid < E
            · have t5 : decide ((mid : Int) < (E : Int)) = true := decide_eq_true (by omega)
              by_cases c6 : E < b
              · have t6 : decide ((E : Int) < (b : Int)) = true := decide_eq_true (by omega)
                have HC2 := Lib.hid (HIH.out mid E b dr w6 (by omega) c5 c6 (by omega) HWE.out (HBr.out.shuf H1S.out) H2a.out.1 H2a.out.2.1 H2a.out.2.2)
                go_wp2_with (go_at_call 84; refine HC2.out.mono ?_; rintro e w8 ⟨rfl, d2, hE8, hS8, hO8, hg8⟩)
                have HFin := sym_done HMd.out.2.2.2.2.2.2 H1S.out H1O.out hS8 hO8
                have HFG : w.grownBy w8 (some g) := HWG.out.trans hg8
                go_end0
                exact ⟨rfl, _, hE8, HRS.out.trans HFin.1, HFin.2, HFG⟩
              · have t6 : decide ((E : Int) < (b : Int)) = false := decide_eq_false (by omega)
                go_wp2_with fail
                have HFin := sym_done HMd.out.2.2.2.2.2.2 H1S.out H1O.out (Shuf.refl mid b dr) (H2a.out.1.sub (Nat.le_refl _) (by omega))
                go_end0
                exact ⟨rfl, _, HWE.out, HRS.out.trans HFin.1, HFin.2, HWG.out⟩
            · have t5 : decide ((mid : Int) < (E : Int)) = false := decide_eq_false (by omega)
              go_wp2_with fail
              have HFin := sym_done HMd.out.2.2.2.2.2.2 H1S.out H1O.out (Shuf.refl mid b dr) (by rw [show mid = E from by have := HC4.out.h7; omega]; exact H2a.out.2.1)
              go_end0
              exact ⟨rfl, _, HWE.out, HRS.out.trans HFin.1, HFin.2, HWG.out⟩
        · have t2 : decide ((m : Int) < (E : Int)) = false := decide_eq_false (by omega)
          have HWE : Hid (EdIn wr g n dr) := by rw [← HDR.out, show E = m from by have := HC4.out.h3; omega, rot_self d S m (by omega)]; exact HE
          have HWG := HG0
          go_upto_region 41 with fail
          clear t1 t2 HE HG0
          by_cases c3 : a < S
          · have t3 : decide ((a : Int) < (S : Int)) = true := decide_eq_true (by omega)
            by_cases c4 : S < mid
            · have t4 : decide ((S : Int) < (mid : Int)) = true := decide_eq_true (by omega)
              have HC1 := Lib.hid (HIH.out a S mid dr wr (by omega) c3 c4 (by omega) HWE.out HBr.out HMd.out.1 HMd.out.2.1 HMd.out.2.2.1)
              go_upto_region 43 with (go_at_call 84; refine HC1.out.mono ?_; rintro e w7 ⟨rfl, d1, hE7, hS7, hO7, hg7⟩)
              have HWG7 : Hid (w.grownBy w7 (some g)) := HWG.out.trans hg7
              have H1S := Lib.hid hS7
              have H1O := Lib.hid hO7
              have HWE7 := Lib.hid hE7
              clear hE7 hS7 hO7 hg7 HWG HWE t3 t4 HC1
              have HWG := HWG7
              have HWE := HWE7
              clear HWG7 HWE7
              have H2a : Hid (Sor d1 mid E ∧ Sor d1 E b ∧ Tgs d1 mid E b) := sym_keep H1S.out HMd.out.2.2.2.1 HMd.out.2.2.2.2.1 HMd.out.2.2.2.2.2.1 HC4.out.h7
              by_cases c5 : mid < E
              · have t5 : decide ((mid : Int) < (E : Int)) = true := decide_eq_true (by omega)
                by_cases c6 : E < b
                · have t6 : decide ((E : Int) < (b : Int)) = true := decide_eq_true (by omega)
                  have HC2 := Lib.hid (HIH.out mid E b d1 w7 (by omega) c5 c6 (by omega) HWE.out (HBr.out.shuf H1S.out) H2a.out.1 H2a.out.2.1 H2a.out.2.2)
                  go_wp2_with (go_at_call 84; refine HC2.out.mono ?_; rintro e w8 ⟨rfl, d2, hE8, hS8, hO8, hg8⟩)
                  have HFin := sym_done HMd.out.2.2.2.2.2.2 H1S.out H1O.out hS8 hO8
                  have HFG : w.grownBy w8 (some g) := HWG.out.trans hg8
                  go_end0
                  exact ⟨rfl, _, hE8, HRS.out.trans HFin.1, HFin.2, HFG⟩
                · have t6 : decide ((E : Int) < (b : Int)) = false := decide_eq_false (by omega)
                  go_wp2_with fail
                  have HFin := sym_done HMd.out.2.2.2.2.2.2 H1S.out H1O.out (Shuf.refl mid b d1) (H2a.out.1.sub (Nat.le_refl _) (by omega))
                  go_end0
                  exact ⟨rfl, _, HWE.out, HRS.out.trans HFin.1, HFin.2, HWG.out⟩
              · have t5 : decide ((mid : Int) < (E : Int)) = false := decide_eq_false (by omega)
                go_wp2_with fail
                have HFin := sym_done HMd.out.2.2.2.2.2.2 H1S.out H1O.out (Shuf.refl mid b d1) (by rw [show mid = E from by have := HC4.out.h7; omega]; exact H2a.out.2.1)
                go_end0
                exact ⟨rfl, _, HWE.out, HRS.out.trans HFin.1, HFin.2, HWG.out⟩
            · have t4 : decide ((S : Int) < (mid : Int)) = false := decide_eq_false (by omega)
              have H1S := Lib.hid (Shuf.refl a mid dr)
              have H1O : Hid (Sor dr a mid) := HMd.out.1.sub (Nat.le_refl _) (by omega)
              go_upto_region 43 with fail
              clear t3 t4
              have H2a : Hid (Sor dr mid E ∧ Sor dr E b ∧ Tgs dr mid E b) := sym_keep H1S.out HMd.out.2.2.2.1 HMd.out.2.2.2.2.1 HMd.out.2.2.2.2.2.1 HC4.out.h7
              by_cases c5 : mid < E
              · have t5 : decide ((mid : Int) < (E : Int)) = true := decide_eq_true (by omega)
                by_cases c6 : E < b
                · have t6 : decide ((E : Int) < (b : Int)) = true := decide_eq_true (by omega)
                  have HC2 := Lib.hid (HIH.out mid E b dr wr (by omega) c5 c6 (by omega) HWE.out (HBr.out.shuf H1S.out) H2a.out.1 H2a.out.2.1 H2a.out.2.2)
                  go_wp2_with (go_at_call 84; refine HC2.out.mono ?_; rintro e w8 ⟨rfl, d2, hE8, hS8, hO8, hg8⟩)
                  have HFin := sym_done HMd.out.2.2.2.2.2.2 H1S.out H1O.out hS8 hO8
                  have HFG : w.grownBy w8 (some g) := HWG.out.trans hg8
                  go_end0
                  exact ⟨rfl, _, hE8, HRS.out.trans HFin.1, HFin.2, HFG⟩
                · have t6 : decide ((E : Int) < (b : Int)) = false := decide_eq_false (by omega)
                  go_wp2_with fail
                  have HFin := sym_done HMd.out.2.2.2.2.2.2 H1S.out H1O.out (Shuf.refl mid b dr) (H2a.out.1.sub (Nat.le_refl _) (by omega))
                  go_end0
                  exact ⟨rfl, _, HWE.out, HRS.out.trans HFin.1, HFin.2, HWG.out⟩
              · have t5 : decide ((mid : Int) < (E : Int)) = false := decide_eq_false (by omega)
                go_wp2_with fail
                have HFin := sym_done HMd.out.2.2.2.2.2.2 H1S.out H1O.out (Shuf.refl mid b dr) (by rw [show mid = E from by have := HC4.out.h7; omega]; exact H2a.out.2.1)
                go_end0
                exact ⟨rfl, _, HWE.out, HRS.out.trans HFin.1, HFin.2, HWG.out⟩
          · have t3 : decide ((a : Int) < (S : Int)) = false := decide_eq_false (by omega)
            have H1S := Lib.hid (Shuf.refl a mid dr)
            have H1O : Hid (Sor dr a mid) := by have h := HMd.out.2.1; rw [show S = a from by have := HC4.out.h1; omega] at h; exact h
            go_upto_region 43 with fail
            clear t3
            have H2a : Hid (Sor dr mid E ∧ Sor dr E b ∧ Tgs dr mid E b) := sym_keep H1S.out HMd.out.2.2.2.1 HMd.out.2.2.2.2.1 HMd.out.2.2.2.2.2.1 HC4.out.h7
            by_cases c5 : mid < E
            · have t5 : decide ((mid : Int) < (E : Int)) = true := decide_eq_true (by omega)
              by_cases c6 : E < b
              · have t6 : decide ((E : Int) < (b : Int)) = true := decide_eq_true (by omega)
                have HC2 := Lib.hid (HIH.out mid E b dr wr (by omega) c5 c6 (by omega) HWE.out (HBr.out.shuf H1S.out) H2a.out.1 H2a.out.2.1 H2a.out.2.2)
                go_wp2_with (go_at_call 84; refine HC2.out.mono ?_; rintro e w8 ⟨rfl, d2, hE8, hS8, hO8, hg8⟩)
                have HFin := sym_done HMd.out.2.2.2.2.2.2 H1S.out H1O.out hS8 hO8
                have HFG : w.grownBy w8 (some g) := HWG.out.trans hg8
                go_end0
                exact ⟨rfl, _, hE8, HRS.out.trans HFin.1, HFin.2, HFG⟩
              · have t6 : decide ((E : Int) < (b : Int)) = false := decide_eq_false (by omega)
                go_wp2_with fail
                have HFin := sym_done HMd.out.2.2.2.2.2.2 H1S.out H1O.out (Shuf.refl mid b dr) (H2a.out.1.sub (Nat.le_refl _) (by omega))
                go_end0
                exact ⟨rfl, _, HWE.out, HRS.out.trans HFin.1, HFin.2, HWG.out⟩
            · have t5 : decide ((mid : Int) < (E : Int)) = false := decide_eq_false (by omega)
              go_wp2_with fail
              have HFin := sym_done HMd.out.2.2.2.2.2.2 H1S.out H1O.out (Shuf.refl mid b dr) (by rw [show mid = E from by have := HC4.out.h7; omega]; exact H2a.out.2.1)
              go_end0
              exact ⟨rfl, _, HWE.out, HRS.out.trans HFin.1, HFin.2, HWG.out⟩
      · have t1 : decide ((S : Int) < (m : Int)) = false := decide_eq_false (by omega)
        have HWE : Hid (EdIn wr g n dr) := by rw [← HDR.out, show S = m from by have := HC4.out.h2; omega, rot_left d m E HC4.out.h3]; exact HE
        have HWG := HG0
        go_upto_region 41 with fail
        clear t1 HE HG0
        by_cases c3 : a < S
        · have t3 : decide ((a : Int) < (S : Int)) = true := decide_eq_true (by omega)
          by_cases c4 : S < mid
          · have t4 : decide ((S : Int) < (mid : Int)) = true := decide_eq_true (by omega)
            have HC1 := Lib.hid (HIH.out a S mid dr wr (by omega) c3 c4 (by omega) HWE.out HBr.out HMd.out.1 HMd.out.2.1 HMd.out.2.2.1)
            go_upto_region 43 with (go_at_call 84; refine HC1.out.mono ?_; rintro e w7 ⟨rfl, d1, hE7, hS7, hO7, hg7⟩)
            have HWG7 : Hid (w.grownBy w7 (some g)) := HWG.out.trans hg7
            have H1S := Lib.hid hS7
            have H1O := Lib.hid hO7
            have HWE7 := Lib.hid hE7
            clear hE7 hS7 hO7 hg7 HWG HWE t3 t4 HC1
            have HWG := HWG7
            have HWE := HWE7
            clear HWG7 HWE7
            have H2a : Hid (Sor d1 mid E ∧ Sor d1 E b ∧ Tgs d1 mid E b) := sym_keep H1S.out HMd.out.2.2.2.1 HMd.out.2.2.2.2.1 HMd.out.2.2.2.2.2.1 HC4.out.h7
            by_cases c5 : mid < E
            · have t5 : decide ((mid : Int) < (E : Int)) = true := decide_eq_true (by omega)
              by_cases c6 : E < b
              · have t6 : decide ((E : Int) < (b : Int)) = true := decide_eq_true (by omega)
                have HC2 := Lib.hid (HIH.out mid E b d1 w7 (by omega) c5 c6 (by omega) HWE.out (HBr.out.shuf H1S.out) H2a.out.1 H2a.out.2.1 H2a.out.2.2)
                go_wp2_with (go_at_call 84; refine HC2.out.mono ?_; rintro e w8 ⟨rfl, d2, hE8, hS8, hO8, hg8⟩)
                have HFin := sym_done HMd.out.2.2.2.2.2.2 H1S.out H1O.out hS8 hO8
                have HFG : w.grownBy w8 (some g) := HWG.out.trans hg8
                go_end0
                exact ⟨rfl, _, hE8, HRS.out.trans HFin.1, HFin.2, HFG⟩
              · have t6 : decide ((E : Int) < (b : Int)) = false := decide_eq_false (by omega)
                go_wp2_with fail
                have HFin := sym_done HMd.out.2.2.2.2.2.2 H1S.out H1O.out (Shuf.refl mid b d1) (H2a.out.1.sub (Nat.le_refl _) (by omega))
                go_end0
                exact ⟨rfl, _, HWE.out, HRS.out.trans HFin.1, HFin.2, HWG.out⟩
            · have t5 : decide ((mid : Int) < (E : Int)) = false := decide_eq_false (by omega)
              go_wp2_with fail
              have HFin := sym_done HMd.out.2.2.2.2.2.2 H1S.out H1O.out (Shuf.refl mid b d1) (by rw [show mid = E from by have := HC4.out.h7; omega]; exact H2a.out.2.1)
              go_end0
              exact ⟨rfl, _, HWE.out, HRS.out.trans HFin.1, HFin.2, HWG.out⟩
          · have t4 : decide ((S : Int) < (mid : Int)) = false := decide_eq_false (by omega)
            have H1S := Lib.hid (Shuf.refl a mid dr)
            have H1O : Hid (Sor dr a mid) := HMd.out.1.sub (Nat.le_refl _) (by omega)
            go_upto_region 43 with fail
            clear t3 t4
            have H2a : Hid (Sor dr mid E ∧ Sor dr E b ∧ Tgs dr mid E b) := sym_keep H1S.out HMd.out.2.2.2.1 HMd.out.2.2.2.2.1 HMd.out.2.2.2.2.2.1 HC4.out.h7
            by_cases c5 : mid < E
            · have t5 : decide ((mid : Int) < (E : Int)) = true := decide_eq_true (by omega)
              by_cases c6 : E < b
              · have t6 : decide ((E : Int) < (b : Int)) = true := decide_eq_true (by omega)
                have HC2 := Lib.hid (HIH.out mid E b dr wr (by omega) c5 c6 (by omega) HWE.out (HBr.out.shuf H1S.out) H2a.out.1 H2a.out.2.1 H2a.out.2.2)
                go_wp2_with (go_at_call 84; refine HC2.out.mono ?_; rintro e w8 ⟨rfl, d2, hE8, hS8, hO8, hg8⟩)
                have HFin := sym_done HMd.out.2.2.2.2.2.2 H1S.out H1O.out hS8 hO8
                have HFG : w.grownBy w8 (some g) := HWG.out.trans hg8
                go_end0
                exact ⟨rfl, _, hE8, HRS.out.trans HFin.1, HFin.2, HFG⟩
              · have t6 : decide ((E : Int) < (b : Int)) = false := decide_eq_false (by omega)
                go_wp2_with fail
                have HFin := sym_done HMd.out.2.2.2.2.2.2 H1S.out H1O.out (Shuf.refl mid b dr) (H2a.out.1.sub (Nat.le_refl _) (by omega))
                go_end0
                exact ⟨rfl, _, HWE.out, HRS.out.trans HFin.1, HFin.2, HWG.out⟩
            · have t5 : decide ((mid : Int) < (E : Int)) = false := decide_eq_false (by omega)
              go_wp2_with fail
              have HFin := sym_done HMd.out.2.2.2.2.2.2 H1S.out H1O.out (Shuf.refl mid b dr) (by rw [show mid = E from by have := HC4.out.h7; omega]; exact H2a.out.2.1)
              go_end0
              exact ⟨rfl, _, HWE.out, HRS.out.trans HFin.1, HFin.2, HWG.out⟩
        · have t3 : decide ((a : Int) < (S : Int)) = false := decide_eq_false (by omega)
          have H1S := Lib.hid (Shuf.refl a mid dr)
          have H1O : Hid (Sor dr a mid) := by have h := HMd.out.2.1; rw [show S = a from by have := HC4.out.h1; omega] at h; exact h
          go_upto_region 43 with fail
          clear t3
          have H2a : Hid (Sor dr mid E ∧ Sor dr E b ∧ Tgs dr mid E b) := sym_keep H1S.out HMd.out.2.2.2.1 HMd.out.2.2.2.2.1 HMd.out.2.2.2.2.2.1 HC4.out.h7
          by_cases c5 : mid < E
          · have t5 : decide ((mid : Int) < (E : Int)) = true := decide_eq_true (by omega)
            by_cases c6 : E < b
            · have t6 : decide ((E : Int) < (b : Int)) = true := decide_eq_true (by omega)
              have HC2 := Lib.hid (HIH.out mid E b dr wr (by omega) c5 c6 (by omega) HWE.out (HBr.out.shuf H1S.out) H2a.out.1 H2a.out.2.1 H2a.out.2.2)
              go_wp2_with (go_at_call 84; refine HC2.out.mono ?_; rintro e w8 ⟨rfl, d2, hE8, hS8, hO8, hg8⟩)
              have HFin := sym_done HMd.out.2.2.2.2.2.2 H1S.out H1O.out hS8 hO8
              have HFG : w.grownBy w8 (some g) := HWG.out.trans hg8
              go_end0
              exact ⟨rfl, _, hE8, HRS.out.trans HFin.1, HFin.2, HFG⟩
            · have t6 : decide ((E : Int) < (b : Int)) = false := decide_eq_false (by omega)
              go_wp2_with fail
              have HFin := sym_done HMd.out.2.2.2.2.2.2 H1S.out H1O.out (Shuf.refl mid b dr) (H2a.out.1.sub (Nat.le_refl _) (by omega))
              go_end0
              exact ⟨rfl, _, HWE.out, HRS.out.trans HFin.1, HFin.2, HWG.out⟩
          · have t5 : decide ((mid : Int) < (E : Int)) = false := decide_eq_false (by omega)
            go_wp2_with fail
            have HFin := sym_done HMd.out.2.2.2.2.2.2 H1S.out H1O.out (Shuf.refl mid b dr) (by rw [show mid = E from by have := HC4.out.h7; omega]; exact H2a.out.2.1)
            go_end0
            exact ⟨rfl, _, HWE.out, HRS.out.trans HFin.1, HFin.2, HWG.out⟩
end Go.Proofs.YtifhlmakacoicaaDoor

/- SymMerge; the stable sort of edits. -/
namespace Go.Proofs.YtifhlmakacoicaaDoor
open Go.RowKit
set_option linter.unusedVariables false

theorem sym_all (g n c : Nat) (h3 : n ≤ 1000) : ∀ k, SymIH g n c k
  | 0 => fun a m b d w hk => by omega
  | k + 1 => fun a m b d w hk h1 h2 hn hE hB hs1 hs2 ht => by
    have ih : SymIH g n c (b - a) := fun a' m' b' d' w' hk' => sym_all g n c h3 k a' m' b' d' w' (by omega)
    by_cases c1 : m = a + 1
    · subst c1
      exact sym_first g n c a b d w hE hB h2 hn h3 hs2 ht
    · by_cases c2 : b = m + 1
      · subst c2
        exact sym_last g n c a m d w hE hB (by omega) hn h3 hs1 ht
      · by_cases c3 : (a + b) / 2 < m
        · exact sym_hi g n c a m b d w hE hB (by omega) (by omega) hn h3 c3 hs1 hs2 ht ih
        · exact sym_lo g n c a m b d w hE hB (by omega) (by omega) hn h3 (by omega) hs1 hs2 ht ih
theorem sym_any (g n c a m b : Nat) (d : Nat → Ed) (w : World) (h3 : n ≤ 1000) (h1 : a < m) (h2 : m < b) (hn : b ≤ n) (hE : EdIn w g n d) (hB : Bd d) (hs1 : Sor d a m) (hs2 : Sor d m b) (ht : Tgs d a m b) :
    Calls Tryd.prog 84 #[.slice (some ⟨g, 0, none⟩) n c, .int .i64 (a : Int), .int .i64 (m : Int), .int .i64 (b : Int), .func (.func 51) #[] #[]] w (SortQ g n a b d w) :=
  sym_all g n c h3 (b - a + 1) a m b d w (by omega) h1 h2 hn hE hB hs1 hs2 ht

set_option maxHeartbeats 8000000 in
set_option maxRecDepth 100000 in
theorem stable_any (g n c : Nat) (d : Nat → Ed) (w : World) (h : EdIn w g n d) (hB : Bd d) (h3 : n ≤ 1000) (ht : ∀ i, i < n → (d i).tag = i) :
    Calls Tryd.prog 73 #[.slice (some ⟨g, 0, none⟩) n c, .int .i64 (n : Int), .func (.func 51) #[] #[]] w (SortQ g n 0 n d w) := by
  have HI := Lib.hid h
  have HBi := Lib.hid hB
  have HTg := Lib.hid ht
  have HIns := Lib.hid (fun a b d W h hB h1 h2 ht => insort_any g n c a b d W h hB h1 h2 h3 ht)
  have HSym := Lib.hid (fun a m b d W => sym_any g n c a m b d W h3)
  clear h hB ht
  unfold SortQ at *
  go_enter Tryd.func73, Tryd.ntmps73
  go_upto_region 2 with fail
  go_loopw [7, 8] (fun x y wr => ∃ (k a b : Nat) (dr : Nat → Ed), x = .int .i64 (a : Int) ∧ y = .int .i64 (b : Int) ∧ Hid (a = k * 20 ∧ b = a + 20) ∧ a ≤ n ∧ Hid (EdIn wr g n dr) ∧ Hid (Under d dr 20 n k) ∧ Hid (w.grownBy wr (some g))) (fun x _ _ => n + 20 - (intOf x).toNat)
  case atStart => exact ⟨0, 0, 20, d, rfl, rfl, ⟨by omega, rfl⟩, by omega, HI, Under.start (bnd_start HTg.out 20), World.grownBy.refl _ _⟩
  case round =>
    clear HI
    obtain ⟨k, a, b, dr, rfl, rfl, hab, hk, hE, hU, hbr⟩ := hrel
    have HE := Lib.hid hE.out
    have HU := Lib.hid hU.out
    have HBr := Lib.hid hbr.out
    have HAB := Lib.hid hab.out
    have HBdr : Hid (Bd dr) := HBi.out.shuf hU.out.shuf
    have hab1 : a ≤ b ∧ b ≤ a + 20 ∧ a < b := by have := hab.out; omega
    clear hE hU hbr hab
    have hT : ∀ b, b ≤ n → ∀ p q, a ≤ p → p < q → q < b → (dr p).tag < (dr q).tag := fun b hbn p q h1 h2 h4 => by
      have := HAB.out.1
      rw [HU.out.rest p (by omega), HU.out.rest q (by omega), HTg.out p (by omega), HTg.out q (by omega)]
      exact h2
    by_cases hlt : b ≤ n
    · have t1 : decide ((b : Int) ≤ (n : Int)) = true := decide_eq_true (by omega)
      have HC := Lib.hid (HIns.out a b dr wr HE.out HBdr.out (by omega) hlt (hT b hlt))
      have e1 : IntKind.i64.wrap ((b : Int) + 20) = ((b + 20 : Nat) : Int) := by rw [IntWalk.i64_in _ (by omega)]; omega
      clear hT
      go_wp2_with (go_at_call 83; refine HC.out.mono ?_; rintro e w2 ⟨rfl, d2, hE2, hS2, hO2, hg2⟩)
      have hU2 := HU.out.step (b := b) (by have := HAB.out; omega) (by have := HAB.out; omega) (by rw [← HAB.out.1]; exact hS2) (by rw [← HAB.out.1]; exact hO2)
      have HU2 := Lib.hid hU2
      have HE2 := Lib.hid hE2
      have HG2 : Hid (w.grownBy w2 (some g)) := HBr.out.trans hg2
      have HAB2 : Hid (b = (k + 1) * 20 ∧ b + 20 = b + 20) := ⟨by have := HAB.out; omega, rfl⟩
      go_roundw
      case rel => exact ⟨k + 1, b, b + 20, d2, rfl, by go_num, HAB2, hlt, HE2, HU2, HG2⟩
      case measure => simp [intOf]; omega
    · have t1 : decide ((b : Int) ≤ (n : Int)) = false := decide_eq_false (by omega)
      have HC := Lib.hid (HIns.out a n dr wr HE.out HBdr.out (by omega) (Nat.le_refl _) (hT n (Nat.le_refl _)))
      clear hT
      go_upto_region 7 with (go_at_call 83; refine HC.out.mono ?_; rintro e w2 ⟨rfl, d2, hE2, hS2, hO2, hg2⟩)
      have hU2 := HU.out.step (b := n) (by have := HAB.out; omega) (by have := HAB.out; omega) (by rw [← HAB.out.1]; exact hS2) (by rw [← HAB.out.1]; exact hO2)
      have HP2 := Lib.hid (hU2.pass (by have := HAB.out; omega))
      have HSh2 := Lib.hid hU2.shuf
      have HE2 := Lib.hid hE2
      have HG2 : Hid (w.grownBy w2 (some g)) := HBr.out.trans hg2
      clear hU2 hE2 hS2 hO2 hg2 HE HBr HBdr HU HC HAB t1 hab1 hlt hk
      go_loopw [6, 7, 8, 9] (fun x _ _ _ wr => ∃ (s : Nat) (ds : Nat → Ed), x = .int .i64 (s : Int) ∧ 0 < s ∧ s ≤ 3000 ∧ Hid (EdIn wr g n ds) ∧ Hid (Pass ds s n) ∧ Hid (Shuf 0 n d ds) ∧ Hid (w.grownBy wr (some g))) (fun x _ _ _ _ => n - (intOf x).toNat)
      case atStart => exact ⟨20, d2, rfl, by omega, by omega, HE2, HP2, HSh2, HG2⟩
      case round =>
        clear HE2 HP2 HSh2 HG2
        obtain ⟨s, ds, rfl, hs1, hs2, hE, hP, hSh, hbr⟩ := hrel
        have HPs := Lib.hid hP.out
        have HSs := Lib.hid hSh.out
        by_cases hsn : s < n
        · have t1 : decide ((s : Int) < (n : Int)) = true := decide_eq_true (by omega)
          obtain ⟨S2, hS2⟩ : ∃ S2, S2 = s * 2 := ⟨_, rfl⟩
          have e1 : IntKind.i64.wrap (2 * (s : Int)) = (S2 : Int) := by rw [IntWalk.i64_in _ (by omega)]; omega
          have e2 : IntKind.i64.wrap ((s : Int) * 2) = (S2 : Int) := by rw [IntWalk.i64_in _ (by omega)]; omega
          have hS2' : s ≤ S2 ∧ S2 ≤ 2000 ∧ 0 < S2 := by omega
          have HS2 := Lib.hid hS2
          have HEs := Lib.hid hE.out
          have HBs := Lib.hid hbr.out
          have hN2 : n - S2 < n - s ∧ s < S2 := by omega
          clear hS2 hE hP hSh hbr
          go_upto_region 9 with fail
          go_loopw [7, 8] (fun x y wq => ∃ (k a b : Nat) (dr : Nat → Ed), x = .int .i64 (a : Int) ∧ y = .int .i64 (b : Int) ∧ Hid (a = k * S2 ∧ b = a + S2) ∧ a ≤ n ∧ Hid (EdIn wq g n dr) ∧ Hid (Under ds dr S2 n k) ∧ Hid (w.grownBy wq (some g))) (fun x _ _ => n + S2 - (intOf x).toNat)
          case atStart => exact ⟨0, 0, S2, ds, rfl, rfl, ⟨by rw [Nat.zero_mul], (Nat.zero_add _).symm⟩, by omega, HEs, Under.start (by rw [HS2.out]; exact HPs.out.bnd.twice), HBs⟩
          case round =>
            clear HEs HBs
            obtain ⟨k, a, b, dr, rfl, rfl, hab, hk, hE, hU, hbr⟩ := hrel
            have HE := Lib.hid hE.out
            have HU := Lib.hid hU.out
            have HBr := Lib.hid hbr.out
            have HAB := Lib.hid hab.out
            have HBdr : Hid (Bd dr) := (HBi.out.shuf HSs.out).shuf hU.out.shuf
            have hab1 : a + S2 = b ∧ a < b := by have := hab.out; omega
            clear hE hU hbr hab
            obtain ⟨M, hM⟩ : ∃ M, M = a + s := ⟨_, rfl⟩
            have e3 : IntKind.i64.wrap ((a : Int) + (s : Int)) = (M : Int) := by rw [IntWalk.i64_in _ (by omega)]; omega
            have hM' : a < M ∧ M < b := by omega
            have HM := Lib.hid hM
            clear hM
            by_cases hlt : b ≤ n
            · have t2 : decide ((b : Int) ≤ (n : Int)) = true := decide_eq_true (by omega)
              obtain ⟨B2, hB2⟩ : ∃ B2, B2 = b + S2 := ⟨_, rfl⟩
              have e4 : IntKind.i64.wrap ((b : Int) + (S2 : Int)) = (B2 : Int) := by rw [IntWalk.i64_in _ (by omega)]; omega
              have HB2 := Lib.hid hB2
              clear hB2
              have HH : Hid (Sor dr a M ∧ Sor dr M b ∧ Tgs dr a M b) := by
                have hu := HU.out
                have e1 := HAB.out.1
                rw [HS2.out] at hu e1
                have h := hu.halves HPs.out (b := b) (by have := HAB.out; have := HS2.out; omega) (by have := HM.out; omega)
                rw [← e1, ← HM.out] at h
                exact h
              have HC := Lib.hid (HSym.out a M b dr wr hM'.1 hM'.2 hlt HE.out HBdr.out HH.out.1 HH.out.2.1 HH.out.2.2)
              go_wp2_with (go_at_call 84; refine HC.out.mono ?_; rintro e w4 ⟨rfl, d4, hE4, hS4, hO4, hg4⟩)
              have hU4 := HU.out.step (b := b) (by have := HAB.out; omega) (by have := HAB.out; omega) (by rw [← HAB.out.1]; exact hS4) (by rw [← HAB.out.1]; exact hO4)
              have HU4 := Lib.hid hU4
              have HE4 := Lib.hid hE4
              have HG4 : Hid (w.grownBy w4 (some g)) := HBr.out.trans hg4
              have HAB4 : Hid (b = (k + 1) * S2 ∧ B2 = b + S2) := ⟨by rw [Nat.succ_mul]; have := HAB.out; omega, HB2.out⟩
              go_roundw
              case rel => exact ⟨k + 1, b, B2, d4, rfl, rfl, HAB4, hlt, HE4, HU4, HG4⟩
              case measure => simp [intOf]; omega
            · have t2 : decide ((b : Int) ≤ (n : Int)) = false := decide_eq_false (by omega)
              by_cases hmn : M < n
              · have t3 : decide ((M : Int) < (n : Int)) = true := decide_eq_true (by omega)
                have HH : Hid (Sor dr a M ∧ Sor dr M n ∧ Tgs dr a M n) := by
                  have hu := HU.out
                  have e1 := HAB.out.1
                  rw [HS2.out] at hu e1
                  have h := hu.halves HPs.out (b := n) (by have := HAB.out; have := HS2.out; omega) (by have := HM.out; omega)
                  rw [← e1, ← HM.out] at h
                  exact h
                have HC := Lib.hid (HSym.out a M n dr wr hM'.1 hmn (Nat.le_refl _) HE.out HBdr.out HH.out.1 HH.out.2.1 HH.out.2.2)
                go_wp2_with (go_at_call 84; refine HC.out.mono ?_; rintro e w4 ⟨rfl, d4, hE4, hS4, hO4, hg4⟩)
                have hU4 := HU.out.step (b := n) (by have := HAB.out; omega) (by have := HAB.out; omega) (by rw [← HAB.out.1]; exact hS4) (by rw [← HAB.out.1]; exact hO4)
                have HP4 := Lib.hid (hU4.pass (by rw [Nat.succ_mul]; have := HAB.out; omega))
                have HE4 := Lib.hid hE4
                have HS4 := Lib.hid (HSs.out.trans hU4.shuf)
                have HG4 : Hid (w.grownBy w4 (some g)) := HBr.out.trans hg4
                exact ⟨⟨S2, d4, rfl, by omega, by omega, HE4, HP4, HS4, HG4⟩, by simp [intOf]; omega⟩
              · have t3 : decide ((M : Int) < (n : Int)) = false := decide_eq_false (by omega)
                have HU4 : Hid (Under ds dr S2 n (k + 1)) := by
                  have hu := HU.out
                  have e1 := HAB.out.1
                  rw [HS2.out] at hu e1
                  have h := hu.rest_half HPs.out (by omega) (by have := HM.out; omega) hs1
                  rw [← HS2.out] at h
                  exact h
                have HP4 := Lib.hid (HU4.out.pass (by rw [Nat.succ_mul]; have := HAB.out; omega))
                have HS4 := Lib.hid (HSs.out.trans HU4.out.shuf)
                go_wp2_with fail
                exact ⟨⟨S2, dr, rfl, by omega, by omega, HE, HP4, HS4, HBr⟩, by simp [intOf]; omega⟩
        · have t1 : decide ((s : Int) < (n : Int)) = false := decide_eq_false (by omega)
          have HF : Hid (Sor ds 0 n) := HPs.out.whole (by omega)
          go_wp2_with fail
          go_end0
          exact ⟨rfl, ds, hE.out, HSs.out, HF.out, hbr.out⟩
end Go.Proofs.YtifhlmakacoicaaDoor
