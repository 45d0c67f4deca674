/- FLex1, FLex2, FMem -/
import Derived.Deep.RegionHeld3
import Derived.Test.YtabidjmmgnkhkaaGreatDoorGFpPlain
import Derived.Test.YtabidjmmgnkhkaaGreatDoorGFe1
/- Contracts of package feast: run, scan, token, fail, take. -/
namespace Go.Proofs.YtabidjmmgnkhkaaGreatDoor
open Go.RowKit
set_option linter.unusedVariables false
set_option maxHeartbeats 1000000 in
set_option maxRecDepth 100000 in
theorem frun_any (S : ByteArray) (n : Nat) (lo hi : UInt8) (w : World) (hS : S.size ≤ 5000) (hn : n ≤ S.size) :
  Calls Tryz.prog 66 #[.string S, .int .i64 (n : Int), .int .u8 (lo.toNat : Int), .int .u8 (hi.toNat : Int)] w fun e w' => e = .returned (.int .i64 (runE lo hi S.data.toList n : Int)) ∧ w = w' := by
 have hl : S.data.toList.length = S.size := Array.length_toList
 have HR := Lib.hid (fun k h1 h2 h3 h4 => runE_stop lo hi S.data.toList n k h1 h2 h3 h4)
 generalize runE lo hi S.data.toList n = R at *
 go_enter Tryz.func66, Tryz.ntmps66
 go_wp2_with fail
 go_loop [1] (fun nv => ∃ k : Nat, n ≤ k ∧ k ≤ S.size ∧ nv = .int .i64 (k : Int) ∧ Hid (∀ j (h : j < S.data.toList.length), n ≤ j → j < k → inB lo hi S.data.toList[j] = true)) (fun nv => S.size - (intOf nv).toNat)
 case atStart => exact ⟨n, Nat.le_refl _, hn, rfl, fun j h h1 h2 => by omega⟩
 case round =>
  obtain ⟨k, hk1, hk2, rfl, hall⟩ := hrel
  by_cases hlt : k < S.size
  ·have hb : S.data.toList[k]'(by omega) = S[k] := by simp [ByteArray.getElem_eq_getElem_data]
   by_cases hin : inB lo hi S[k] = true
   ·have HN : Hid (∀ j (h : j < S.data.toList.length), n ≤ j → j < k + 1 → inB lo hi S.data.toList[j] = true) := fun j h h1 h2 => by
     by_cases e : j = k
     ·subst e; rw [hb]; exact hin
     ·exact hall.out j h h1 (by omega)
    unfold inB at hin
    rw [Bool.and_eq_true, decide_eq_true_eq, decide_eq_true_eq] at hin
    obtain ⟨i1, i2⟩ := hin
    have j1 : decide ((lo.toNat : Int) ≤ (S[k].toNat : Int)) = true := decide_eq_true (by omega)
    have j2 : decide ((S[k].toNat : Int) ≤ (hi.toNat : Int)) = true := decide_eq_true (by omega)
    have j3 : decide (lo.toNat ≤ S[k].toNat) = true := decide_eq_true (by omega)
    have j4 : decide (S[k].toNat ≤ hi.toNat) = true := decide_eq_true (by omega)
    clear hb
    go_wp2_with fail
    go_round
    case rel => exact ⟨k + 1, by omega, by omega, by go_num, HN⟩
    case measure => simp [intOf]; omega
   ·have hRk := HR.out k hk1 (by omega) hall.out (fun h => by rw [hb]; simpa using hin)
    have hin2 : inB lo hi S[k] = false := by simpa using hin
    clear hb hin
    subst hRk
    unfold inB at hin2
    rw [Bool.and_eq_false_iff, decide_eq_false_iff_not, decide_eq_false_iff_not] at hin2
    by_cases h1 : lo.toNat ≤ S[R].toNat
    ·have h2 : ¬ S[R].toNat ≤ hi.toNat := by rcases hin2 with h | h; exact absurd h1 h; exact h
     clear hin2
     have j1 : decide ((lo.toNat : Int) ≤ (S[R].toNat : Int)) = true := decide_eq_true (by omega)
     have j2 : decide ((S[R].toNat : Int) ≤ (hi.toNat : Int)) = false := decide_eq_false (by omega)
     have j3 : decide (lo.toNat ≤ S[R].toNat) = true := decide_eq_true (by omega)
     have j4 : decide (S[R].toNat ≤ hi.toNat) = false := decide_eq_false (by omega)
     go_wp2_with fail
     go_ret
     exact ⟨rfl, rfl⟩
    ·clear hin2
     have j1 : decide ((lo.toNat : Int) ≤ (S[R].toNat : Int)) = false := decide_eq_false (by omega)
     have j3 : decide (lo.toNat ≤ S[R].toNat) = false := decide_eq_false (by omega)
     go_wp2_with fail
     go_ret
     exact ⟨rfl, rfl⟩
  ·have hRk := HR.out k hk1 (by omega) hall.out (fun h => by omega)
   subst hRk
   go_wp2_with fail
   go_ret
   exact ⟨rfl, rfl⟩
def Rg (w : World) (g : Nat) (S : ByteArray) (a n : Nat) (op c : Int) : Prop := Box w g 92 #[.string S, .int .i64 (a : Int), .int .i64 (n : Int), .int .i64 op, .int .i64 c]
def Fd (w : World) (g : Nat) (S : ByteArray) (l : List UInt8) (op : Int) : Prop := ∃ a, a ≤ S.size ∧ S.data.toList.drop a = l ∧ Rg w g S a (a + (tk l).length) op 0
def Fx (w : World) (g : Nat) (S : ByteArray) (c : Int) : Prop := ∃ a n op, Rg w g S a n op c
theorem rg_next {w w' : World} {g : Nat} {S : ByteArray} {a n : Nat} {op c : Int} (h : Rg w g S a n op c) (hb : Below w.heap.size w w') : Rg w' g S a n op c := Box.below h hb
theorem rg_set1 {w : World} {g : Nat} {S : ByteArray} {a n : Nat} {op c : Int} (h : Rg w g S a n op c) (a' : Nat) : Rg (w.setCell ⟨g, 1, none⟩ (.int .i64 (a' : Int))) g S a' n op c := Box.set_ h 1 _
theorem rg_set2 {w : World} {g : Nat} {S : ByteArray} {a n : Nat} {op c : Int} (h : Rg w g S a n op c) (n' : Nat) : Rg (w.setCell ⟨g, 2, none⟩ (.int .i64 (n' : Int))) g S a n' op c := Box.set_ h 2 _
theorem Fd.lt {w : World} {g : Nat} {S : ByteArray} {l : List UInt8} {op : Int} (h : Fd w g S l op) : g < w.heap.size := by
 obtain ⟨a, _, _, h⟩ := h; exact Box.lt h
theorem Fd.next {w w' : World} {g : Nat} {S : ByteArray} {l : List UInt8} {op : Int} (h : Fd w g S l op) (hb : Below w.heap.size w w') : Fd w' g S l op := by
 obtain ⟨a, h1, h2, h⟩ := h; exact ⟨a, h1, h2, rg_next h hb⟩
theorem Fd.drewN {w : World} {g : Nat} {S : ByteArray} {l : List UInt8} {op : Int} (h : Fd w g S l op) (m : Nat) : Fd (w.drewN m) g S l op := h.next (below_drewN w m)
theorem Fd.set_ {w : World} {g : Nat} {S : ByteArray} {l : List UInt8} {op : Int} (h : Fd w g S l op) (b i : Nat) (v : Value) (h0 : b ≠ g) : Fd (w.setCell ⟨b, i, none⟩ v) g S l op := by
 obtain ⟨a, h1, h2, h⟩ := h
 exact ⟨a, h1, h2, Box.far h (fun e => h0 e.symm) v⟩
theorem Fd.op {w : World} {g : Nat} {S : ByteArray} {l : List UInt8} {op : Int} (h : Fd w g S l op) : w.cell? ⟨g, 3, none⟩ = some (.int .i64 op) ∧ w.frozen? ⟨g, 3, none⟩ = false := by
 obtain ⟨a, _, _, h⟩ := h
 exact ⟨Box.cell h 3, Box.free h 3⟩
theorem Fd.setop {w : World} {g : Nat} {S : ByteArray} {l : List UInt8} {op : Int} (h : Fd w g S l op) (op' : Int) : Fd (w.setCell ⟨g, 3, none⟩ (.int .i64 op')) g S l op' := by
 obtain ⟨a, h1, h2, h⟩ := h
 exact ⟨a, h1, h2, Box.set_ h 3 _⟩
theorem Fx.set_ {w : World} {g : Nat} {S : ByteArray} {c : Int} (h : Fx w g S c) (b i : Nat) (v : Value) (h0 : b ≠ g) : Fx (w.setCell ⟨b, i, none⟩ v) g S c := by
 obtain ⟨a, n, op, h⟩ := h
 exact ⟨a, n, op, Box.far h (fun e => h0 e.symm) v⟩
theorem Fx.next {w w' : World} {g : Nat} {S : ByteArray} {c : Int} (h : Fx w g S c) (hb : Below w.heap.size w w') : Fx w' g S c := by
 obtain ⟨a, n, op, h⟩ := h; exact ⟨a, n, op, rg_next h hb⟩
theorem fx_scan (S : List UInt8) (n : Nat) (hn : n ≤ S.length) (a m : Nat) (ha : a = runE 32 32 S n) (hm : m = max (runE 97 122 S a) (runE 48 57 S a)) :
  n ≤ a ∧ a ≤ S.length ∧ a ≤ m ∧ m ≤ S.length ∧ (if m = a ∧ a < S.length then m + 1 = a + (tk (S.drop a)).length else m = a + (tk (S.drop a)).length) ∧ S.drop a = sk (S.drop n) := by
 have h1 := runE_le 32 32 S n hn
 rw [← ha] at h1
 have h2 := runE_le 97 122 S a h1.2
 have h3 := runE_le 48 57 S a h1.2
 have hsk := sk_drop S n hn
 rw [← ha] at hsk
 refine ⟨h1.1, h1.2, by omega, by omega, ?_, hsk.symm⟩
 have hlow : runE 97 122 S a = a + ((S.drop a).takeWhile isLow).length := rfl
 have hdig : runE 48 57 S a = a + ((S.drop a).takeWhile isDig).length := rfl
 by_cases hend : a = S.length
 ·have he : S.drop a = [] := by rw [hend]; simp
  rw [he] at hlow hdig
  have hma : m = a := by simp at hlow hdig; omega
  rw [if_neg (by omega), he, tk_nil]
  exact hma
 ·by_cases hl : (S.drop a).takeWhile isLow = []
  ·by_cases hd : (S.drop a).takeWhile isDig = []
   ·rw [hl] at hlow
    rw [hd] at hdig
    have hma : m = a := by simp at hlow hdig; omega
    have htk : tk (S.drop a) = (S.drop a).take 1 := by unfold tk; rw [if_neg (by simpa using hl), if_neg (by simpa using hd)]
    rw [if_pos ⟨hma, by omega⟩, htk, List.length_take, List.length_drop, hma]
    omega
   ·have htk : tk (S.drop a) = (S.drop a).takeWhile isDig := by unfold tk; rw [if_neg (by simpa using hl), if_pos (by simpa using hd)]
    rw [hl] at hlow
    have hpos := List.length_pos_iff.2 hd
    have hma : m = a + ((S.drop a).takeWhile isDig).length := by simp at hlow; omega
    rw [if_neg (by omega), htk]
    exact hma
  ·have htk : tk (S.drop a) = (S.drop a).takeWhile isLow := by unfold tk; rw [if_pos (by simpa using hl)]
   have hd : (S.drop a).takeWhile isDig = [] := by
    cases hS : S.drop a with
    | nil => rfl
    | cons x l =>
     rw [hS] at hl
     rw [List.takeWhile_cons] at hl ⊢
     have hx : isLow x = true := by
      by_cases hx : isLow x = true
      ·exact hx
      ·rw [if_neg hx] at hl; exact absurd rfl hl
     rw [if_neg]
     unfold isLow at hx; unfold isDig
     simp at hx ⊢
     omega
   rw [hd] at hdig
   have hpos := List.length_pos_iff.2 hl
   have hma : m = a + ((S.drop a).takeWhile isLow).length := by simp at hdig; omega
   rw [if_neg (by omega), htk]
   exact hma
set_option maxHeartbeats 2000000 in
set_option maxRecDepth 100000 in
theorem fscan_any (g : Nat) (S : ByteArray) (a n : Nat) (op : Int) (w : World) (hx : Rg w g S a n op 0) (hS : S.size ≤ 5000) (hn : n ≤ S.size) :
  Calls Tryz.prog 39 #[.pointer (some ⟨g, 0, none⟩)] w fun e w' => e = .returned (.tuple #[]) ∧ Fd w' g S (sk (S.data.toList.drop n)) op ∧ w.grownBy w' (some g) := by
 have hl : S.data.toList.length = S.size := Array.length_toList
 obtain ⟨A, hA⟩ : ∃ A, A = runE 32 32 S.data.toList n := ⟨_, rfl⟩
 obtain ⟨M1, hM1⟩ : ∃ M1, M1 = runE 97 122 S.data.toList A := ⟨_, rfl⟩
 obtain ⟨M2, hM2⟩ : ∃ M2, M2 = runE 48 57 S.data.toList A := ⟨_, rfl⟩
 obtain ⟨h1, h2, h3, h4, hlx, hsk⟩ := fx_scan S.data.toList n (by omega) A (max M1 M2) hA (by rw [hM1, hM2])
 have HSK := Lib.hid hsk
 rw [← hsk]
 clear hsk
 have HR1 := Lib.hid (fun W => frun_any S n 32 32 W hS hn)
 have HR2 := Lib.hid (fun W => frun_any S A 97 122 W hS (by omega))
 have HR3 := Lib.hid (fun W => frun_any S A 48 57 W hS (by omega))
 rw [← hA] at HR1
 rw [← hM1] at HR2
 rw [← hM2] at HR3
 clear hA hM1 hM2
 have HX := Lib.hid hx
 have HLX := Lib.hid hlx
 unfold Rg at hx
 clear hlx
 have c0 : ∀ W, Below w.heap.size w W → W.cell? ⟨g, 0, none⟩ = some (.string S) := fun W hW => (hx.below hW).cell 0
 have c2 : ∀ W, Below w.heap.size w W → W.cell? ⟨g, 2, none⟩ = some (.int .i64 (n : Int)) := fun W hW => (hx.below hW).cell 2
 clear hx
 go_enter Tryz.func39, Tryz.ntmps39
 go_wp2_with fail
 refine flow_begin_tail 12 (tellOf [(9, det (.int .i64 (A : Int)))]) (by kernel_rfl) (by kernel_rfl) ?_
 simp only [List.take_succ_cons, List.take_zero, List.drop_succ_cons, List.drop_zero]
 repeat (first | (refine flow_val (v := ?_) (by rfl) (by rfl) (fun w hb => ?_) ?_; rotate_left; (· ((go_simp) <;> ((repeat' apply And.intro) <;> with_reducible rfl))); try simp only [Act.put, List.setIfInBounds_toArray, List.set_cons_zero, List.set_cons_succ, Nat.reduceAdd]) | (refine flow_skip (by rfl) (by rfl) ?_; try simp only [Act.put, List.setIfInBounds_toArray, List.set_cons_zero, List.set_cons_succ, Nat.reduceAdd]))
 refine flow_call (f := ?_) (args := ?_) [] (by kernel_rfl) (by rfl) (by rfl) (fun w hb => ?_) (fun w hb hu => ?_) ?_; rotate_left 2; (· ((go_simp) <;> ((repeat' apply And.intro) <;> with_reducible rfl)))
 ·exact (HR1.out w).mono fun e w' ⟨he, hw⟩ => ⟨he, by rw [← hw]; exact Below.refl _ _⟩
 try simp only [Act.put, List.setIfInBounds_toArray, List.set_cons_zero, List.set_cons_succ, Nat.reduceAdd]
 repeat (first | (refine flow_val (v := ?_) (by rfl) (by rfl) (fun w hb => ?_) ?_; rotate_left; (· ((go_simp) <;> ((repeat' apply And.intro) <;> with_reducible rfl))); try simp only [Act.put, List.setIfInBounds_toArray, List.set_cons_zero, List.set_cons_succ, Nat.reduceAdd]) | (refine flow_skip (by rfl) (by rfl) ?_; try simp only [Act.put, List.setIfInBounds_toArray, List.set_cons_zero, List.set_cons_succ, Nat.reduceAdd]))
 refine flow_nil fun w1 hb1 _ => ?_
 have hx1 := rg_next HX.out hb1
 have HG1 : Hid (w.grownBy w1 (some g)) := grown_bel hb1
 have q1 : w1.cell? ⟨g, 1, none⟩ = some (.int .i64 (a : Int)) := Box.cell hx1 1
 have qf : w1.frozen? ⟨g, 1, none⟩ = false := Box.free hx1 1
 have ql : g < w1.heap.size := Box.lt hx1
 have hx2 := rg_set1 hx1 A
 have HG2 := Lib.hid (World.grownBy.trans HG1.out (grown_set w1 g 1 (.int .i64 (A : Int))))
 clear hb1 c0 c2 hx1 HX HG1
 refine wpList_step fun K hK => ?_
 rw [if_pos (by rfl)]
 go_simp
 refine hK _ _ (wpList_nil ?_)
 clear hK K q1 qf ql
 generalize w1.setCell ⟨g, 1, none⟩ (.int .i64 (A : Int)) = w2 at *
 go_upto_region 1 with fail
 have HX2 := Lib.hid hx2
 unfold Rg at hx2
 have c0 : ∀ W, Below w2.heap.size w2 W → W.cell? ⟨g, 0, none⟩ = some (.string S) := fun W hW => (hx2.below hW).cell 0
 have c1 : ∀ W, Below w2.heap.size w2 W → W.cell? ⟨g, 1, none⟩ = some (.int .i64 (A : Int)) := fun W hW => (hx2.below hW).cell 1
 clear hx2
 refine flow_begin_tail 22 (tellOf [(9, det (.int .i64 (M1 : Int))), (18, det (.int .i64 (M2 : Int)))]) (by kernel_rfl) (by kernel_rfl) ?_
 simp only [List.take_succ_cons, List.take_zero, List.drop_succ_cons, List.drop_zero]
 repeat (first | (refine flow_val (v := ?_) (by rfl) (by rfl) (fun w hb => ?_) ?_; rotate_left; (· ((go_simp) <;> ((repeat' apply And.intro) <;> with_reducible rfl))); try simp only [Act.put, List.setIfInBounds_toArray, List.set_cons_zero, List.set_cons_succ, Nat.reduceAdd]) | (refine flow_skip (by rfl) (by rfl) ?_; try simp only [Act.put, List.setIfInBounds_toArray, List.set_cons_zero, List.set_cons_succ, Nat.reduceAdd]))
 refine flow_call (f := ?_) (args := ?_) [] (by kernel_rfl) (by rfl) (by rfl) (fun w hb => ?_) (fun w hb hu => ?_) ?_; rotate_left 2; (· ((go_simp) <;> ((repeat' apply And.intro) <;> with_reducible rfl)))
 ·exact (HR2.out w).mono fun e w' ⟨he, hw⟩ => ⟨he, by rw [← hw]; exact Below.refl _ _⟩
 try simp only [Act.put, List.setIfInBounds_toArray, List.set_cons_zero, List.set_cons_succ, Nat.reduceAdd]
 repeat (first | (refine flow_val (v := ?_) (by rfl) (by rfl) (fun w hb => ?_) ?_; rotate_left; (· ((go_simp) <;> ((repeat' apply And.intro) <;> with_reducible rfl))); try simp only [Act.put, List.setIfInBounds_toArray, List.set_cons_zero, List.set_cons_succ, Nat.reduceAdd]) | (refine flow_skip (by rfl) (by rfl) ?_; try simp only [Act.put, List.setIfInBounds_toArray, List.set_cons_zero, List.set_cons_succ, Nat.reduceAdd]))
 refine flow_call (f := ?_) (args := ?_) [] (by kernel_rfl) (by rfl) (by rfl) (fun w hb => ?_) (fun w hb hu => ?_) ?_; rotate_left 2; (· ((go_simp) <;> ((repeat' apply And.intro) <;> with_reducible rfl)))
 ·exact (HR3.out w).mono fun e w' ⟨he, hw⟩ => ⟨he, by rw [← hw]; exact Below.refl _ _⟩
 try simp only [Act.put, List.setIfInBounds_toArray, List.set_cons_zero, List.set_cons_succ, Nat.reduceAdd]
 repeat (first | (refine flow_val (v := ?_) (by rfl) (by rfl) (fun w hb => ?_) ?_; rotate_left; (· ((go_simp) <;> ((repeat' apply And.intro) <;> with_reducible rfl))); try simp only [Act.put, List.setIfInBounds_toArray, List.set_cons_zero, List.set_cons_succ, Nat.reduceAdd]) | (refine flow_skip (by rfl) (by rfl) ?_; try simp only [Act.put, List.setIfInBounds_toArray, List.set_cons_zero, List.set_cons_succ, Nat.reduceAdd]))
 refine flow_nil fun w3 hb3 _ => ?_
 have hmx : max (M1 : Int) (M2 : Int) = ((max M1 M2 : Nat) : Int) := by omega
 rw [hmx]
 clear hmx
 generalize max M1 M2 = M at *
 have hx3 := rg_next HX2.out hb3
 have HG3 := Lib.hid (World.grownBy.trans HG2.out (grown_bel (row := some g) hb3))
 have q1 : w3.cell? ⟨g, 2, none⟩ = some (.int .i64 (n : Int)) := Box.cell hx3 2
 have qf : w3.frozen? ⟨g, 2, none⟩ = false := Box.free hx3 2
 have ql : g < w3.heap.size := Box.lt hx3
 have hx4 := rg_set2 hx3 M
 have HG4 := Lib.hid (World.grownBy.trans HG3.out (grown_set w3 g 2 (.int .i64 (M : Int))))
 clear hb3 c0 c1 hx3 HX2 HG2 HG3
 refine wpList_step fun K hK => ?_
 rw [if_pos (by rfl)]
 go_simp
 refine hK _ _ (wpList_nil ?_)
 clear hK K q1 qf ql
 generalize w3.setCell ⟨g, 2, none⟩ (.int .i64 (M : Int)) = w4 at *
 go_upto_region 2 with fail
 have HX4 := Lib.hid hx4
 have x0 : w4.cell? ⟨g, 0, none⟩ = some (.string S) := Box.cell hx4 0
 have x1 : w4.cell? ⟨g, 1, none⟩ = some (.int .i64 (A : Int)) := Box.cell hx4 1
 have x2 : w4.cell? ⟨g, 2, none⟩ = some (.int .i64 (M : Int)) := Box.cell hx4 2
 have xf : w4.frozen? ⟨g, 2, none⟩ = false := Box.free hx4 2
 have xl : g < w4.heap.size := Box.lt hx4
 clear hx4
 by_cases hc : M = A ∧ A < S.size
 ·have hLX := HLX.out
  rw [if_pos (by rw [hl]; exact hc)] at hLX
  obtain ⟨hc1, hc2⟩ := hc
  have HLX2 := Lib.hid hLX
  have t1 : ((M : Int) == (A : Int)) = true := by rw [beq_iff_eq]; omega
  have t2 : decide ((A : Int) < (S.size : Int)) = true := decide_eq_true (by omega)
  have t3 : decide (A < S.size) = true := decide_eq_true hc2
  clear hLX HLX hc1
  go_quiet (fail)
  go_wp2_with fail
  go_end0
  rw [show ((M : Int) + 1) = ((M + 1 : Nat) : Int) from by omega]
  exact ⟨rfl, ⟨A, h2, rfl, by rw [← HLX2.out]; exact rg_set2 (HX4.out.drewN nq) (M + 1)⟩, World.grownBy.trans HG4.out (World.grownBy.trans (grown_bel (below_drewN w4 nq)) (grown_set (w4.drewN nq) g 2 _))⟩
 ·have hLX := HLX.out
  rw [if_neg (by rw [hl]; exact hc)] at hLX
  have HLX2 := Lib.hid hLX
  clear hLX HLX
  by_cases hma : M = A
  ·have hc2 : ¬ A < S.size := fun h => hc ⟨hma, h⟩
   have t1 : ((M : Int) == (A : Int)) = true := by rw [beq_iff_eq]; omega
   have t2 : decide ((A : Int) < (S.size : Int)) = false := decide_eq_false (by omega)
   have t3 : decide (A < S.size) = false := decide_eq_false hc2
   clear hc hma
   go_quiet (fail)
   go_wp2_with fail
   go_end0
   exact ⟨rfl, ⟨A, h2, rfl, by rw [← HLX2.out]; exact HX4.out.drewN nq⟩, World.grownBy.trans HG4.out (grown_bel (below_drewN w4 nq))⟩
  ·have t1 : ((M : Int) == (A : Int)) = false := by rw [beq_eq_false_iff_ne]; omega
   clear hc hma
   go_quiet (fail)
   go_wp2_with fail
   go_end0
   exact ⟨rfl, ⟨A, h2, rfl, by rw [← HLX2.out]; exact HX4.out.drewN nq⟩, World.grownBy.trans HG4.out (grown_bel (below_drewN w4 nq))⟩
set_option maxRecDepth 100000 in
theorem ftok_at (g : Nat) (S : ByteArray) (l : List UInt8) (op : Int) (w : World) (h : Fd w g S l op) (hS : S.size ≤ 5000) :
  Calls Tryz.prog 41 #[.pointer (some ⟨g, 0, none⟩)] w fun e w' => e = .returned (.string (str (tk l))) ∧ ∃ m, w' = w.drewN m := by
 have hl : S.data.toList.length = S.size := Array.length_toList
 obtain ⟨a, h1, h2, hx⟩ := h
 have hn : a + (tk l).length ≤ S.size := by
  have := congrArg List.length (tk_pre l)
  rw [List.length_append] at this
  have h3 := congrArg List.length h2
  rw [List.length_drop] at h3
  omega
 have e : S.extract a (a + (tk l).length) = str (tk l) := by
  have h := ext_str S.data.toList a (a + (tk l).length)
  rw [show str S.data.toList = S from by apply ByteArray.ext; simp [str]] at h
  rw [h, List.drop_take, h2, show a + (tk l).length - a = (tk l).length from by omega, take_pre _ _ _ (tk_pre l)]
 rw [← e]
 generalize hnn : a + (tk l).length = n at *
 have x0 : w.cell? ⟨g, 0, none⟩ = some (.string S) := Box.cell hx 0
 have x1 : w.cell? ⟨g, 1, none⟩ = some (.int .i64 (a : Int)) := Box.cell hx 1
 have x2 : w.cell? ⟨g, 2, none⟩ = some (.int .i64 (n : Int)) := Box.cell hx 2
 have han : a ≤ n := by omega
 clear hx e h2 hl hnn
 go_enter Tryz.func41, Tryz.ntmps41
 go_wp2_with fail
 go_quiet (fail)
 go_wp2_with fail
 go_ret
 exact ⟨rfl, _, rfl⟩
theorem fscan_at (g : Nat) (S : ByteArray) (l : List UInt8) (op : Int) (w : World) (h : Fd w g S l op) (hS : S.size ≤ 5000) :
  Calls Tryz.prog 39 #[.pointer (some ⟨g, 0, none⟩)] w fun e w' => e = .returned (.tuple #[]) ∧ Fd w' g S (nx l) op ∧ w.grownBy w' (some g) := by
 have hl : S.data.toList.length = S.size := Array.length_toList
 obtain ⟨a, h1, h2, hx⟩ := h
 have hn : a + (tk l).length ≤ S.size := by
  have := congrArg List.length (tk_pre l)
  rw [List.length_append] at this
  have h3 := congrArg List.length h2
  rw [List.length_drop] at h3
  omega
 have := fscan_any g S a (a + (tk l).length) op w hx hS hn
 rw [← List.drop_drop, h2] at this
 exact this
def FailQ (g : Nat) (S : ByteArray) (c : Int) (w : World) (e : Ending) (w' : World) : Prop := e = .returned (.bool false) ∧ Fx w' g S c ∧ w.grownBy w' (some g)
set_option maxRecDepth 100000 in
theorem ffail_at (g : Nat) (S : ByteArray) (l : List UInt8) (op : Int) (c : Int) (w : World) (h : Fd w g S l op) :
  Calls Tryz.prog 42 #[.pointer (some ⟨g, 0, none⟩), .int .i64 c] w (FailQ g S c w) := by
 obtain ⟨a, h1, h2, hx⟩ := h
 have HX : Hid (Fx (w.setCell ⟨g, 4, none⟩ (.int .i64 c)) g S c) := ⟨a, a + (tk l).length, op, Box.set_ hx 4 _⟩
 have HG := Lib.hid (grown_set w g 4 (.int .i64 c))
 have x4 : w.cell? ⟨g, 4, none⟩ = some (.int .i64 0) := Box.cell hx 4
 have xf : w.frozen? ⟨g, 4, none⟩ = false := Box.free hx 4
 have xl : g < w.heap.size := Box.lt hx
 clear hx h1 h2
 unfold FailQ
 go_enter Tryz.func42, Tryz.ntmps42
 go_wp2_with fail
 go_ret
 exact ⟨rfl, HX.out, HG.out⟩
def FTakeQ (g : Nat) (S : ByteArray) (op : Int) (l : List UInt8) (c : Tok) (w : World) (e : Ending) (w' : World) : Prop := e = .returned (.bool (decide (tk l = c))) ∧ Fd w' g S (if tk l = c then nx l else l) op ∧ w.grownBy w' (some g)
set_option maxRecDepth 100000 in
theorem ftake_any (g : Nat) (S : ByteArray) (l : List UInt8) (op : Int) (c : Tok) (w : World) (h : Fd w g S l op) (hS : S.size ≤ 5000) :
  Calls Tryz.prog 102 #[.pointer (some ⟨g, 0, none⟩), .string (str c)] w (FTakeQ g S op l c w) := by
 have HT := Lib.hid (ftok_at g S l op w h hS)
 unfold FTakeQ
 by_cases hc : tk l = c
 ·have HS := Lib.hid (fun W (hW : Below w.heap.size w W) => fscan_at g S l op W (h.next hW) hS)
  rw [if_pos hc, decide_eq_true hc]
  rw [hc] at HT
  clear hc h
  generalize str c = s at *
  go_enter Tryz.func102, Tryz.ntmps102
  go_wp2_with fail
  refine HT.out.mono ?_
  rintro e w1 ⟨rfl, m, rfl⟩
  have HS1 := Lib.hid (HS.out _ (below_drewN w m))
  go_wp2_with fail
  refine HS1.out.mono ?_
  rintro e w2 ⟨rfl, hr, hg⟩
  have HR := Lib.hid hr
  have HG : Hid (w.grownBy w2 (some g)) := World.grownBy.trans (grown_bel (below_drewN w m)) hg
  clear hr hg
  go_wp2_with fail
  go_ret
  exact ⟨rfl, HR.out, HG.out⟩
 ·have HH := Lib.hid h
  rw [if_neg hc, decide_eq_false hc]
  have e : ((str (tk l)).toList == (str c).toList) = false := by
   rw [beq_eq_false_iff_ne, str_toList, str_toList]
   exact hc
  clear h hc
  generalize str c = s at *
  generalize str (tk l) = t at *
  go_enter Tryz.func102, Tryz.ntmps102
  go_wp2_with fail
  refine HT.out.mono ?_
  rintro e w1 ⟨rfl, m, rfl⟩
  go_wp2_with fail
  go_ret
  exact ⟨rfl, HH.out.drewN m, grown_bel (below_drewN w m)⟩
end Go.Proofs.YtabidjmmgnkhkaaGreatDoor
/- Contracts of package feast: word, digits, natural, number. -/
namespace Go.Proofs.YtabidjmmgnkhkaaGreatDoor
open Go.RowKit
set_option linter.unusedVariables false
theorem grown_set_swap {w w1 : World} {r : Option Nat} (h : w.grownBy w1 r) (p i : Nat) (v : Value) (hp : p < w.heap.size) (hr : some p ≠ r) : (w.setCell ⟨p, i, none⟩ v).grownBy (w1.setCell ⟨p, i, none⟩ v) r := by
 refine ⟨h.os, h.tape, h.output, by simpa using h.size, fun b hb hne => ?_⟩
 have hb' : b < w.heap.size := by simpa using hb
 by_cases e : b = p
 ·subst e
  have := h.block b hb' hr
  simp only [World.setCell, Array.getElem?_modify, this]
 ·rw [Below.heap_setCell _ _ _ b e, Below.heap_setCell _ _ _ b e]
  exact h.block b hb' hne
theorem frozen_below {w w' : World} {p i : Nat} (h : Below w.heap.size w w') (hp : p < w.heap.size) (hf : w.frozen? ⟨p, i, none⟩ = false) : w'.frozen? ⟨p, i, none⟩ = false := by
 have h1 := h.block p hp
 simpa [World.frozen?, h1] using hf
def FNumQ (g : Nat) (S : ByteArray) (op : Int) (p i : Nat) (r : Nr) (w : World) (e : Ending) (w' : World) : Prop := match r with
 | .yes n l => e = .returned (.bool true) ∧ Fd w' g S l op ∧ (w.setCell ⟨p, i, none⟩ (.int .i64 n)).grownBy w' (some g)
 | .no c => e = .returned (.bool false) ∧ c ≠ 0 ∧ Fx w' g S c ∧ w.grownBy w' (some g)
def FWordQ (g : Nat) (S : ByteArray) (op : Int) (p i : Nat) (r : Wr) (w : World) (e : Ending) (w' : World) : Prop := match r with
 | .yes s l => e = .returned (.bool true) ∧ Fd w' g S l op ∧ (w.setCell ⟨p, i, none⟩ (.string (str s))).grownBy w' (some g)
 | .no c => e = .returned (.bool false) ∧ c ≠ 0 ∧ Fx w' g S c ∧ w.grownBy w' (some g)
theorem FNumQ.bool {g : Nat} {S : ByteArray} {op : Int} {p i : Nat} {r : Nr} {w : World} {e : Ending} {w' : World} (h : FNumQ g S op p i r w e w') : ∃ b : Bool, e = .returned (.bool b) := by
 unfold FNumQ at h
 split at h
 ·exact ⟨_, h.1⟩
 ·exact ⟨_, h.1⟩
theorem FNumQ.from_ {g : Nat} {S : ByteArray} {op : Int} {p i : Nat} {r : Nr} {w w1 : World} {e : Ending} {w' : World} (h : FNumQ g S op p i r w1 e w') (hg : w.grownBy w1 (some g)) (hp : p < w.heap.size) (hpg : p ≠ g) : FNumQ g S op p i r w e w' := by
 cases r with
 | no c => exact ⟨h.1, h.2.1, h.2.2.1, hg.trans h.2.2.2⟩
 | yes n l => exact ⟨h.1, h.2.1, (grown_set_swap hg p i _ hp (fun e => hpg (by injection e))).trans h.2.2⟩
set_option maxHeartbeats 1000000 in
set_option maxRecDepth 100000 in
theorem fword_any (g : Nat) (S : ByteArray) (l : List UInt8) (op : Int) (p i : Nat) (old : ByteArray) (w : World) (h : Fd w g S l op) (hS : S.size ≤ 5000) (hc : w.cell? ⟨p, i, none⟩ = some (.string old)) (hf : w.frozen? ⟨p, i, none⟩ = false) (hpg : p ≠ g) :
  Calls Tryz.prog 104 #[.pointer (some ⟨g, 0, none⟩), .pointer (some ⟨p, i, none⟩)] w (FWordQ g S op p i (wordR l) w) := by
 have HT := Lib.hid (ftok_at g S l op w h hS)
 have HF := Lib.hid (fun m => ffail_at g S l op 4 (w.drewN m) (h.drewN m))
 have HH := Lib.hid h
 have hpl : p < w.heap.size := block_lt_of_cell hc
 have HPG := Lib.hid hpg
 unfold FWordQ wordR
 by_cases hlow : isLow ((tk l).headD 0) = true
 ·rw [if_pos hlow]
  have HS := Lib.hid (fun W (hW : Fd W g S l op) => fscan_at g S l op W hW hS)
  obtain ⟨b, r, hbr⟩ : ∃ b r, tk l = b :: r := by
   cases hi : tk l with
   | nil => rw [hi] at hlow; exact absurd hlow (by decide)
   | cons b r => exact ⟨b, r, rfl⟩
  have hb : isLow b = true := by rw [hbr] at hlow; exact hlow
  unfold isLow at hb
  rw [Bool.and_eq_true, decide_eq_true_eq, decide_eq_true_eq] at hb
  have hs0 : 0 < (str (tk l)).size := by rw [str_size, hbr]; simp
  have h0 : ∀ h : 0 < (str (tk l)).size, (str (tk l))[0] = b := by rw [hbr]; exact fun _ => rfl
  have t0 : (str (tk l)).toList.isEmpty = false := by rw [str_toList, hbr]; rfl
  have t1 : ((str (tk l)).toList == []) = false := by rw [str_toList, hbr]; rfl
  have t2 : ¬ (str (tk l)).toList = [] := by rw [str_toList, hbr]; simp
  clear hbr hlow h hpg
  show Calls _ _ _ _ fun e w' => e = .returned (.bool true) ∧ Fd w' g S (nx l) op ∧ (w.setCell ⟨p, i, none⟩ (.string (str (tk l)))).grownBy w' (some g)
  generalize str (tk l) = s at *
  have h00 := h0 hs0
  have h1 : ¬ ((s[0].toNat : Int) < 97) := by rw [h00]; omega
  have h2 : ¬ ((122 : Int) < (s[0].toNat : Int)) := by rw [h00]; omega
  have h3 : decide (s[0].toNat < 97) = false := decide_eq_false (by omega)
  have h4 : decide (122 < s[0].toNat) = false := decide_eq_false (by omega)
  clear h0 h00 HF
  go_enter Tryz.func104, Tryz.ntmps104
  go_wp2_with fail
  refine HT.out.mono ?_
  rintro e w1 ⟨rfl, m, rfl⟩
  have HS1 := Lib.hid (HS.out ((w.drewN m).setCell ⟨p, i, none⟩ (.string s)) ((HH.out.drewN m).set_ p i _ HPG.out))
  have HGS := Lib.hid (grown_set_swap (grown_bel (row := some g) (below_drewN w m)) p i (.string s) hpl (fun e => HPG.out (by injection e)))
  have q1 : (w.drewN m).cell? ⟨p, i, none⟩ = some (.string old) := hc
  have qf : (w.drewN m).frozen? ⟨p, i, none⟩ = false := hf
  go_wp2_with fail
  refine HS1.out.mono ?_
  rintro e w2 ⟨rfl, hr, hg⟩
  have HR := Lib.hid hr
  have HG := Lib.hid (World.grownBy.trans HGS.out hg)
  clear hr hg
  go_wp2_with fail
  go_ret
  exact ⟨rfl, HR.out, HG.out⟩
 ·rw [if_neg hlow]
  show Calls _ _ _ _ fun e w' => e = .returned (.bool false) ∧ (4 : Int) ≠ 0 ∧ Fx w' g S 4 ∧ w.grownBy w' (some g)
  unfold FailQ at HF
  cases hi : tk l with
  | nil =>
   rw [hi] at HT
   have e : str [] = (⟨#[]⟩ : ByteArray) := rfl
   rw [e] at HT
   clear hi hlow h hpg hc hf
   go_enter Tryz.func104, Tryz.ntmps104
   go_wp2_with fail
   refine HT.out.mono ?_
   rintro e w1 ⟨rfl, m, rfl⟩
   go_wp2_with fail
   refine (HF.out m).mono ?_
   rintro e w2 ⟨rfl, hr, hg⟩
   have HR := Lib.hid hr
   have HG := Lib.hid (World.grownBy.trans (grown_bel (row := some g) (below_drewN w m)) hg)
   clear hr hg
   go_wp2_with fail
   go_ret
   exact ⟨rfl, by decide, HR.out, HG.out⟩
  | cons b r =>
   rw [hi] at HT hlow
   have hb : ¬ (97 ≤ b.toNat ∧ b.toNat ≤ 122) := fun ⟨x, y⟩ => hlow (by show isLow b = true; unfold isLow; simp [x, y])
   have hs0 : 0 < (str (b :: r)).size := by rw [str_size]; simp
   have h0 : ∀ h : 0 < (str (b :: r)).size, (str (b :: r))[0] = b := fun _ => rfl
   have t0 : (str (b :: r)).toList.isEmpty = false := by rw [str_toList]; rfl
   have t1 : ((str (b :: r)).toList == []) = false := by rw [str_toList]; rfl
   have t2 : ¬ (str (b :: r)).toList = [] := by rw [str_toList]; simp
   clear hi hlow h hpg hc hf
   generalize str (b :: r) = s at *
   have h00 := h0 hs0
   by_cases hlt : s[0].toNat < 97
   ·have h1 : ((s[0].toNat : Int) < 97) := by omega
    have h3 : decide (s[0].toNat < 97) = true := decide_eq_true hlt
    clear h0 h00 hb
    go_enter Tryz.func104, Tryz.ntmps104
    go_wp2_with fail
    refine HT.out.mono ?_
    rintro e w1 ⟨rfl, m, rfl⟩
    go_wp2_with fail
    refine (HF.out m).mono ?_
    rintro e w2 ⟨rfl, hr, hg⟩
    have HR := Lib.hid hr
    have HG := Lib.hid (World.grownBy.trans (grown_bel (row := some g) (below_drewN w m)) hg)
    clear hr hg
    go_wp2_with fail
    go_ret
    exact ⟨rfl, by decide, HR.out, HG.out⟩
   ·have h1 : ¬ ((s[0].toNat : Int) < 97) := by omega
    have h3 : decide (s[0].toNat < 97) = false := decide_eq_false hlt
    have hgt : 122 < s[0].toNat := by rw [h00] at hlt ⊢; omega
    have h2 : ((122 : Int) < (s[0].toNat : Int)) := by omega
    have h4 : decide (122 < s[0].toNat) = true := decide_eq_true hgt
    clear h0 h00 hb
    go_enter Tryz.func104, Tryz.ntmps104
    go_wp2_with fail
    refine HT.out.mono ?_
    rintro e w1 ⟨rfl, m, rfl⟩
    go_wp2_with fail
    refine (HF.out m).mono ?_
    rintro e w2 ⟨rfl, hr, hg⟩
    have HR := Lib.hid hr
    have HG := Lib.hid (World.grownBy.trans (grown_bel (row := some g) (below_drewN w m)) hg)
    clear hr hg
    go_wp2_with fail
    go_ret
    exact ⟨rfl, by decide, HR.out, HG.out⟩
theorem decFrom_digs : ∀ (d : List UInt8) (acc : Nat), (∀ b ∈ d, isDig b = true) → ∃ n, Lib.decFrom acc d = some n
 | [], acc, _ => ⟨acc, rfl⟩
 | b :: r, acc, h => by
  have hb := h b (List.mem_cons_self ..)
  unfold isDig at hb
  simp at hb
  unfold Lib.decFrom Lib.digitVal
  rw [if_pos hb]
  exact decFrom_digs r _ fun x hx => h x (List.mem_cons_of_mem _ hx)
theorem decNat_digs (d : List UInt8) (hne : d ≠ []) (h : ∀ b ∈ d, isDig b = true) : Lib.decNat d = some ((Lib.decNat d).getD 0) := by
 obtain ⟨n, hn⟩ := decFrom_digs d 0 h
 have : Lib.decNat d = some n := by
  unfold Lib.decNat
  rw [if_neg (by cases d with | nil => exact absurd rfl hne | cons x r => simp), hn]
 rw [this]; rfl
theorem tw_all (p : UInt8 → Bool) : ∀ l : List UInt8, ∀ b ∈ l.takeWhile p, p b = true
 | [], b, h => by cases h
 | x :: l, b, h => by
  rw [List.takeWhile_cons] at h
  split at h
  ·rcases List.mem_cons.1 h with rfl | h
   ·assumption
   ·exact tw_all p l b h
  ·cases h
def sgB (sg : Bool) : List UInt8 := if sg then [45] else []
theorem atoi_digs (sg : Bool) (d : List UInt8) (hne : d ≠ []) (h : ∀ b ∈ d, isDig b = true) : Lib.atoi (sgB sg ++ d) = some (if sg then -dv d else dv d) := by
 have hd := decNat_digs d hne h
 cases sg with
 | true =>
  show Lib.atoi (45 :: d) = _
  unfold Lib.atoi
  simp only [beq_self_eq_true, if_true]
  rw [hd]
  rfl
 | false =>
  show Lib.atoi d = _
  cases d with
  | nil => exact absurd rfl hne
  | cons b r =>
   have hb := h b (List.mem_cons_self ..)
   unfold isDig at hb
   simp at hb
   unfold Lib.atoi
   have e1 : (b == 45) = false := by
    rw [beq_eq_false_iff_ne]; rintro rfl; simp at hb
   have e2 : (b == 43) = false := by
    rw [beq_eq_false_iff_ne]; rintro rfl; simp at hb
   simp only [e1, e2, Bool.false_eq_true, if_false]
   rw [hd]
   rfl
set_option maxHeartbeats 2000000 in
set_option maxRecDepth 100000 in
theorem fdigits_any (g : Nat) (S : ByteArray) (a n fr : Nat) (sg : Bool) (op : Int) (p i : Nat) (old : Int) (w : World) (hx : Rg w g S a n op 0) (hS : S.size ≤ 5000) (hfr : fr ≤ S.size) (hsg : S.data.toList.drop a = sgB sg ++ S.data.toList.drop fr) (hal : fr = a + (sgB sg).length) (hc : w.cell? ⟨p, i, none⟩ = some (.int .i64 old)) (hf : w.frozen? ⟨p, i, none⟩ = false) (hpg : p ≠ g) :
  Calls Tryz.prog 124 #[.pointer (some ⟨g, 0, none⟩), .int .i64 (fr : Int), .pointer (some ⟨p, i, none⟩)] w (FNumQ g S op p i (natR sg (S.data.toList.drop fr)) w) := by
 have hl : S.data.toList.length = S.size := Array.length_toList
 have hrun : runE 48 57 S.data.toList fr = fr + (dg (S.data.toList.drop fr)).length := rfl
 have hle := runE_le 48 57 S.data.toList fr (by omega)
 have HR := Lib.hid (fun W => frun_any S fr 48 57 W hS hfr)
 have hpl : p < w.heap.size := block_lt_of_cell hc
 have hfail : ∀ c W, Rg W g S a n op 0 → Calls Tryz.prog 42 #[.pointer (some ⟨g, 0, none⟩), .int .i64 c] W (FailQ g S c W) := fun c W hW => by
  have HX : Hid (Fx (W.setCell ⟨g, 4, none⟩ (.int .i64 c)) g S c) := ⟨a, n, op, Box.set_ hW 4 _⟩
  have HG := Lib.hid (grown_set W g 4 (.int .i64 c))
  have x4 : W.cell? ⟨g, 4, none⟩ = some (.int .i64 0) := Box.cell hW 4
  have xf : W.frozen? ⟨g, 4, none⟩ = false := Box.free hW 4
  have xl : g < W.heap.size := Box.lt hW
  clear hW hx hrun hle hsg HR
  unfold FailQ
  go_enter Tryz.func42, Tryz.ntmps42
  go_wp2_with fail
  go_ret
  exact ⟨rfl, HX.out, HG.out⟩
 have HX := Lib.hid hx
 have HF := Lib.hid hfail
 have HPG := Lib.hid hpg
 obtain ⟨d, hd⟩ : ∃ d, d = dg (S.data.toList.drop fr) := ⟨_, rfl⟩
 rw [← hd] at hrun
 rw [hrun] at HR hle
 unfold FNumQ natR
 rw [← hd]
 have x0 : w.cell? ⟨g, 0, none⟩ = some (.string S) := Box.cell hx 0
 have xl : g < w.heap.size := Box.lt hx
 unfold FailQ at HF
 clear hfail
 by_cases h0 : d = []
 ·rw [if_pos h0]
  have hto : fr + d.length = fr := by rw [h0]; rfl
  rw [hto] at HR
  show Calls _ _ _ _ fun e w' => e = .returned (.bool false) ∧ (4 : Int) ≠ 0 ∧ Fx w' g S 4 ∧ w.grownBy w' (some g)
  clear hd hx hsg hal hrun hle hto h0 hc hf hpg
  go_enter Tryz.func124, Tryz.ntmps124
  go_wp2_with fail
  refine (HR.out w).mono ?_
  rintro e w1 ⟨rfl, hw⟩
  subst hw
  go_wp2_with fail
  refine (HF.out 4 w HX.out).mono ?_
  rintro e w2 ⟨rfl, hr, hg⟩
  have HR2 := Lib.hid hr
  have HG2 := Lib.hid hg
  clear hr hg
  go_wp2_with fail
  go_ret
  exact ⟨rfl, by decide, HR2.out, HG2.out⟩
 rw [if_neg h0]
 have hpos := List.length_pos_iff.2 h0
 by_cases h9 : 9 < d.length
 ·rw [if_pos h9]
  show Calls _ _ _ _ fun e w' => e = .returned (.bool false) ∧ (2 : Int) ≠ 0 ∧ Fx w' g S 2 ∧ w.grownBy w' (some g)
  generalize hT : fr + d.length = T at *
  have t1 : ((T : Int) == (fr : Int)) = false := by rw [beq_eq_false_iff_ne]; omega
  have t2 : decide ((9 : Int) < (T : Int) - (fr : Int)) = true := decide_eq_true (by omega)
  have hT5 : T ≤ 5000 := by omega
  have h95 : (9 : Int) < (T : Int) - (fr : Int) := by omega
  have hfr5 : fr ≤ 5000 := by omega
  clear hd hx hsg hal hrun hle hT h0 hc hf hpg hpos h9
  go_enter Tryz.func124, Tryz.ntmps124
  go_wp2_with fail
  refine (HR.out w).mono ?_
  rintro e w1 ⟨rfl, hw⟩
  subst hw
  go_wp2_with fail
  refine (HF.out 2 w HX.out).mono ?_
  rintro e w2 ⟨rfl, hr, hg⟩
  have HR2 := Lib.hid hr
  have HG2 := Lib.hid hg
  clear hr hg
  go_wp2_with fail
  go_ret
  exact ⟨rfl, by decide, HR2.out, HG2.out⟩
 ·rw [if_neg h9]
  have hdd : ∀ b ∈ d, isDig b = true := by rw [hd]; exact tw_all isDig _
  have hat := atoi_digs sg d h0 hdd
  have hpre : d ++ (S.data.toList.drop fr).drop d.length = S.data.toList.drop fr := by rw [hd]; exact takeWhile_pre isDig _
  have e : S.extract a (fr + d.length) = str (sgB sg ++ d) := by
   have h := ext_str S.data.toList a (fr + d.length)
   rw [show str S.data.toList = S from by apply ByteArray.ext; simp [str]] at h
   rw [h, List.drop_take, hsg, show fr + d.length - a = (sgB sg ++ d).length from by rw [List.length_append]; omega]
   rw [take_pre _ _ ((S.data.toList.drop fr).drop d.length) (by rw [List.append_assoc, hpre])]
  have hsgl : (sgB sg).length ≤ 1 := by cases sg <;> decide
  have HA := Lib.hid (fun W => strconv_Atoi (str (sgB sg ++ d)) (if sg then -dv d else dv d) (by rw [str_size, List.length_append]; omega) (by rw [str_data]; exact hat) W |>.mono fun e w' ⟨he, t, hw⟩ => (show e = _ ∧ Below W.heap.size W w' from ⟨he, by rw [hw]; exact Lib.bytesWorld_below _ _ _⟩))
  rw [← e] at HA
  rw [List.drop_drop]
  show Calls _ _ _ _ fun e w' => e = .returned (.bool true) ∧ Fd w' g S (sk (S.data.toList.drop (fr + d.length))) op ∧ (w.setCell ⟨p, i, none⟩ (.int .i64 (if sg then -dv d else dv d))).grownBy w' (some g)
  generalize (if sg then -dv d else dv d) = V at *
  generalize hT : fr + d.length = T at *
  have hTS : T ≤ S.size := by omega
  have haT : a ≤ T := by omega
  have HSc := Lib.hid (fun W (hW : Rg W g S a T op 0) => fscan_any g S a T op W hW hS hTS)
  have t1 : ((T : Int) == (fr : Int)) = false := by rw [beq_eq_false_iff_ne]; omega
  have t2 : decide ((9 : Int) < (T : Int) - (fr : Int)) = false := decide_eq_false (by omega)
  have hT5 : T ≤ 5000 := by omega
  have h95 : ¬ (9 : Int) < (T : Int) - (fr : Int) := by omega
  have hfr5 : fr ≤ 5000 := by omega
  have c0 : ∀ W, Below w.heap.size w W → W.cell? ⟨g, 0, none⟩ = some (.string S) := fun W hW => Box.cell (rg_next hx hW) 0
  have c1 : ∀ W, Below w.heap.size w W → W.cell? ⟨g, 1, none⟩ = some (.int .i64 (a : Int)) := fun W hW => Box.cell (rg_next hx hW) 1
  have HC := Lib.hid hc
  have HFz := Lib.hid hf
  clear hd hx hsg hal hrun hle hT h0 hpg hpos h9 hat hpre e hsgl hdd hc hf HF
  go_enter Tryz.func124, Tryz.ntmps124
  go_wp2_with fail
  refine (HR.out w).mono ?_
  rintro e w1 ⟨rfl, hw⟩
  subst hw
  go_upto_region 6 with fail
  have hb0 : Below w.heap.size w w.drew := below_drew (Below.refl _ _) 1
  have hS0 : (w.drew.cell? ⟨g, 0, none⟩ = some (.string S) ∧ w.drew.cell? ⟨g, 1, none⟩ = some (.int .i64 (a : Int))) := ⟨c0 _ hb0, c1 _ hb0⟩
  have HD0 : Hid (∀ W, Below w.heap.size w W → (W.cell? ⟨g, 0, none⟩ = some (.string S) ∧ W.cell? ⟨g, 1, none⟩ = some (.int .i64 (a : Int)))) := fun W h => ⟨c0 _ h, c1 _ h⟩
  have HKp : Hid (∀ W : World, (W.cell? ⟨g, 0, none⟩ = some (.string S) ∧ W.cell? ⟨g, 1, none⟩ = some (.int .i64 (a : Int))) → ((W.setCell ⟨p, i, none⟩ (.int .i64 V)).cell? ⟨g, 0, none⟩ = some (.string S) ∧ (W.setCell ⟨p, i, none⟩ (.int .i64 V)).cell? ⟨g, 1, none⟩ = some (.int .i64 (a : Int)))) := fun W h => ⟨(cell_heap (Below.heap_setCell _ _ _ g (fun e => HPG.out e.symm))).trans h.1, (cell_heap (Below.heap_setCell _ _ _ g (fun e => HPG.out e.symm))).trans h.2⟩
  clear c0 c1
  go_region_held3 (fun W => W.cell? ⟨g, 0, none⟩ = some (.string S) ∧ W.cell? ⟨g, 1, none⟩ = some (.int .i64 (a : Int))) (first | with_reducible assumption | (with_reducible refine HKp.out _ ?_; with_reducible assumption))
   (first
    | (go_at_call 147; ((with_reducible refine (HA.out _).mono ?_)); rintro e w1 ⟨rfl, hwA⟩; have hb1 := below_then (by assumption : Below w.heap.size w _) hwA; have hsA := HD0.out _ hb1; have q1 : w1.cell? ⟨p, i, none⟩ = some (.int .i64 old) := (hb1.cell (p := ⟨p, i, none⟩) hpl).trans HC.out; have qf : w1.frozen? ⟨p, i, none⟩ = false := frozen_below hb1 hpl HFz.out; have ql : p < w1.heap.size := Nat.lt_of_lt_of_le hpl hb1.size))
  have hx1 := rg_next HX.out hb1
  have hx2 : Rg (w1.setCell ⟨p, i, none⟩ (.int .i64 V)) g S a n op 0 := Box.far hx1 (fun e => HPG.out e.symm) _
  have HG2 := Lib.hid (grown_set_swap (grown_bel (row := some g) hb1) p i (.int .i64 V) hpl (fun e => HPG.out (by injection e)))
  clear hb1 hx1 x0 xl HX HC HFz HA HR hS0 hb0 hsA HD0 hwA q1 qf ql
  generalize w1.setCell ⟨p, i, none⟩ (.int .i64 V) = w2 at *
  have q2 : w2.cell? ⟨g, 2, none⟩ = some (.int .i64 (n : Int)) := Box.cell hx2 2
  have qf : w2.frozen? ⟨g, 2, none⟩ = false := Box.free hx2 2
  have ql : g < w2.heap.size := Box.lt hx2
  have HSd := Lib.hid (HSc.out _ (rg_set2 hx2 T))
  have HG3 := Lib.hid (World.grownBy.trans HG2.out (grown_set w2 g 2 (.int .i64 (T : Int))))
  clear hx2 HG2 HSc
  go_wp2_with fail
  refine HSd.out.mono ?_
  rintro e w3 ⟨rfl, hr, hg⟩
  have HR := Lib.hid hr
  have HG := Lib.hid (World.grownBy.trans HG3.out hg)
  clear hr hg
  go_wp2_with fail
  go_ret
  exact ⟨rfl, HR.out, HG.out⟩
set_option maxRecDepth 100000 in
theorem fnatural_any (g : Nat) (S : ByteArray) (l : List UInt8) (op : Int) (p i : Nat) (old : Int) (w : World) (h : Fd w g S l op) (hS : S.size ≤ 5000) (hc : w.cell? ⟨p, i, none⟩ = some (.int .i64 old)) (hf : w.frozen? ⟨p, i, none⟩ = false) (hpg : p ≠ g) :
  Calls Tryz.prog 106 #[.pointer (some ⟨g, 0, none⟩), .pointer (some ⟨p, i, none⟩)] w (FNumQ g S op p i (natR false l) w) := by
 obtain ⟨a, h1, h2, hx⟩ := h
 have HD := Lib.hid (fdigits_any g S a _ a false op p i old w hx hS h1 rfl rfl hc hf hpg)
 rw [h2] at HD
 have x1 : w.cell? ⟨g, 1, none⟩ = some (.int .i64 (a : Int)) := Box.cell hx 1
 have xl : g < w.heap.size := Box.lt hx
 clear hx h1 h2 hc hf hpg
 have HQ2 : Hid (∀ e w', FNumQ g S op p i (natR false l) w e w' → ∃ b : Bool, e = .returned (.bool b)) := fun e w' h => h.bool
 generalize hQ : FNumQ g S op p i (natR false l) w = Q at *
 clear hQ
 go_enter Tryz.func106, Tryz.ntmps106
 go_wp2_with fail
 refine HD.out.mono ?_
 intro e w1 hq
 obtain ⟨b, rfl⟩ := HQ2.out e w1 hq
 have HQ := Lib.hid hq
 clear hq
 go_wp2_with fail
 exact HQ.out
set_option maxHeartbeats 1000000 in
set_option maxRecDepth 100000 in
theorem fnumber_any (g : Nat) (S : ByteArray) (l : List UInt8) (op : Int) (p i : Nat) (old : Int) (w : World) (h : Fd w g S l op) (hS : S.size ≤ 5000) (hc : w.cell? ⟨p, i, none⟩ = some (.int .i64 old)) (hf : w.frozen? ⟨p, i, none⟩ = false) (hpg : p ≠ g) :
  Calls Tryz.prog 103 #[.pointer (some ⟨g, 0, none⟩), .pointer (some ⟨p, i, none⟩)] w (FNumQ g S op p i (numR l) w) := by
 have hl : S.data.toList.length = S.size := Array.length_toList
 have HT := Lib.hid (ftok_at g S l op w h hS)
 have HP := Lib.hid (fun m e w' (hq : FNumQ g S op p i (numR l) (w.drewN m) e w') => hq.from_ (grown_bel (below_drewN w m)) (block_lt_of_cell hc) hpg)
 unfold numR at *
 by_cases ht : tk l = [45]
 ·rw [if_pos ht] at HP ⊢
  have hpre := tk_pre l
  rw [ht] at hpre HT
  obtain ⟨a, h1, h2, hx⟩ := h
  rw [ht] at hx
  have hlen : a + 1 ≤ S.size := by
   have h3 := congrArg List.length h2
   rw [List.length_drop, ← hpre] at h3
   simp at h3
   omega
  have hdr : S.data.toList.drop (a + 1) = l.drop 1 := by rw [← List.drop_drop, h2]
  have HD := Lib.hid (fun m => fdigits_any g S a (a + 1) (a + 1) true op p i old (w.drewN m) (rg_next hx (below_drewN w m)) hS hlen (by rw [h2, hdr]; exact hpre.symm) rfl hc hf hpg)
  rw [hdr] at HD
  have x2 : w.cell? ⟨g, 2, none⟩ = some (.int .i64 ((a + 1 : Nat) : Int)) := Box.cell hx 2
  have xl : g < w.heap.size := Box.lt hx
  generalize a + 1 = A at *
  have e : str [45] = (⟨#[45]⟩ : ByteArray) := rfl
  rw [e] at HT
  clear hx h1 h2 hc hf hpg ht hpre hlen hdr e
  generalize natR true (l.drop 1) = NR at *
  have HQ2 : Hid (∀ W e w', FNumQ g S op p i NR W e w' → ∃ b : Bool, e = .returned (.bool b)) := fun W e w' h => h.bool
  generalize hQQ : FNumQ g S op p i NR = Q at *
  clear hQQ
  go_enter Tryz.func103, Tryz.ntmps103
  go_wp2_with fail
  refine HT.out.mono ?_
  rintro e w1 ⟨rfl, m, rfl⟩
  have y2 : (w.drewN m).cell? ⟨g, 2, none⟩ = some (.int .i64 (A : Int)) := x2
  have HD1 := Lib.hid (HD.out m)
  go_wp2_with fail
  refine HD1.out.mono ?_
  intro e w2 hq
  obtain ⟨b, rfl⟩ := HQ2.out _ e w2 hq
  have HQ := Lib.hid (HP.out m _ _ hq)
  clear hq
  go_wp2_with fail
  exact HQ.out
 ·rw [if_neg ht] at HP ⊢
  have HD := Lib.hid (fun m => fnatural_any g S l op p i old (w.drewN m) (h.drewN m) hS hc hf hpg)
  have e1 : ((str (tk l)).toList == [45]) = false := by rw [beq_eq_false_iff_ne, str_toList]; exact ht
  have e2 : ¬ (str (tk l)).toList = [45] := by rw [str_toList]; exact ht
  clear h hc hf hpg ht
  generalize natR false l = NR at *
  have HQ2 : Hid (∀ W e w', FNumQ g S op p i NR W e w' → ∃ b : Bool, e = .returned (.bool b)) := fun W e w' h => h.bool
  generalize hQQ : FNumQ g S op p i NR = Q at *
  generalize str (tk l) = t at *
  clear hQQ
  go_enter Tryz.func103, Tryz.ntmps103
  go_wp2_with fail
  refine HT.out.mono ?_
  rintro e w1 ⟨rfl, m, rfl⟩
  have HD1 := Lib.hid (HD.out m)
  go_wp2_with fail
  refine HD1.out.mono ?_
  intro e w2 hq
  obtain ⟨b, rfl⟩ := HQ2.out _ e w2 hq
  have HQ := Lib.hid (HP.out m _ _ hq)
  clear hq
  go_wp2_with fail
  exact HQ.out
end Go.Proofs.YtabidjmmgnkhkaaGreatDoor
/- Feasts that a call has built in memory; what the reading of one says. -/
namespace Go.Proofs.YtabidjmmgnkhkaaGreatDoor
open Go.RowKit
set_option linter.unusedVariables false
inductive FeAt (w : World) (p : Nat → Prop) (B : Nat) : FE → Prop
 | mk {k a b : Int} {nm : ByteArray} {A : Option Addr} {c : Nat} {ks : List FE} (hk : I64 k) (ha : I64 a) (hb : I64 b) (hs : nm.size ≤ maxLen) (hl : ks.length ≤ maxLen) (row : ks = [] ∨ ∃ b o, A = some ⟨b, o, none⟩ ∧ p b ∧ b < B ∧ ∀ j v, (ks.flatMap feF)[j]? = some v → w.cell? ⟨b, o + j, none⟩ = some v) (kids : ∀ x ∈ ks, FeAt w p B x) : FeAt w p B (.node k a b nm A c ks)
theorem FeAt.in_ {w : World} {p : Nat → Prop} {B : Nat} {t : FE} (h : FeAt w p B t) : FeIn w B t := by
 induction h with
 | mk hk ha hb hs hl row kids ih =>
  refine .mk hk ha hb hs hl ?_ ih
  rcases row with rfl | ⟨b, o, e, _, hb, hc⟩
  ·exact .inl rfl
  ·exact .inr ⟨b, o, e, hb, hc⟩
theorem FeAt.keep {w w' : World} {p p' : Nat → Prop} {B B' : Nat} {t : FE} (h : FeAt w p B t) (ha : ∀ b, p b → b < B → w'.heap[b]? = w.heap[b]?) (hp : ∀ b, p b → b < B → p' b) (hB : B ≤ B') : FeAt w' p' B' t := by
 induction h with
 | mk hk ha' hb' hs hl row kids ih =>
  refine .mk hk ha' hb' hs hl ?_ ih
  rcases row with h | ⟨b, o, e, hpb, hb, hc⟩
  ·exact .inl h
  ·exact .inr ⟨b, o, e, hp b hpb hb, by omega, fun j v hv => (cell_heap (ha b hpb hb)).trans (hc j v hv)⟩
theorem FeAt.grown {w w' : World} {p : Nat → Prop} {t : FE} {row : Option Nat} (h : FeAt w p w.heap.size t) (hg : w.grownBy w' row) (hr : ∀ b, p b → some b ≠ row) : FeAt w' p w'.heap.size t :=
 h.keep (fun b hb hB => hg.block b hB (hr b hb)) (fun b hb _ => hb) hg.size
theorem FeAt.next {w w' : World} {p : Nat → Prop} {t : FE} (h : FeAt w p w.heap.size t) (hb : Below w.heap.size w w') : FeAt w' p w'.heap.size t :=
 h.keep (fun b _ hB => hb.block b hB) (fun b hb _ => hb) hb.size
theorem FeAt.set_ {w : World} {p : Nat → Prop} {t : FE} (h : FeAt w p w.heap.size t) (g i : Nat) (v : Value) (hr : ¬ p g) : FeAt (w.setCell ⟨g, i, none⟩ v) p (w.setCell ⟨g, i, none⟩ v).heap.size t :=
 h.keep (fun b hb hB => Below.heap_setCell _ _ _ b (fun e => hr (by have : b = g := e; rw [← this]; exact hb))) (fun b hb _ => hb) (by simp)
theorem FeAt.more {w : World} {p p' : Nat → Prop} {B : Nat} {t : FE} (h : FeAt w p B t) (hp : ∀ b, p b → b < B → p' b) : FeAt w p' B t := h.keep (fun _ _ _ => rfl) hp (Nat.le_refl _)
theorem FeAt.leaf (w : World) (p : Nat → Prop) (B : Nat) (k a b : Int) (nm : ByteArray) (c : Nat) (hk : I64 k) (ha : I64 a) (hb : I64 b) (hs : nm.size ≤ maxLen) : FeAt w p B (.node k a b nm none c []) := .mk hk ha hb hs (by show 0 ≤ maxLen; unfold maxLen; omega) (.inl rfl) fun x hx => by cases hx
theorem FeAt.one {w : World} {p : Nat → Prop} {gk : Nat} {x : FE} {k a b : Int} {nm : ByteArray} {c : Nat} (h : FeAt w p w.heap.size x) (hb : Box w gk 57 (feF x).toArray) (hp : p gk) (hk : I64 k) (ha : I64 a) (hbb : I64 b) (hs : nm.size ≤ maxLen) : FeAt w p w.heap.size (.node k a b nm (some ⟨gk, 0, none⟩) c [x]) :=
 .mk hk ha hbb hs (by show 1 ≤ maxLen; unfold maxLen; omega) (.inr ⟨gk, 0, rfl, hp, hb.lt, fun j v hv => by rw [Nat.zero_add, hb.cell j]; simpa using hv⟩) fun y hy => by obtain rfl := List.mem_singleton.1 hy; exact h
theorem FeAt.two {w : World} {p : Nat → Prop} {gk : Nat} {x y : FE} {k a b : Int} {nm : ByteArray} {c : Nat} (h : FeAt w p w.heap.size x) (h2 : FeAt w p w.heap.size y) (hb : Box w gk 57 (feF x ++ feF y).toArray) (hp : p gk) (hk : I64 k) (ha : I64 a) (hbb : I64 b) (hs : nm.size ≤ maxLen) : FeAt w p w.heap.size (.node k a b nm (some ⟨gk, 0, none⟩) c [x, y]) :=
 .mk hk ha hbb hs (by show 2 ≤ maxLen; unfold maxLen; omega) (.inr ⟨gk, 0, rfl, hp, hb.lt, fun j v hv => by rw [Nat.zero_add, hb.cell j]; simpa using hv⟩) fun z hz => by
  rcases List.mem_cons.1 hz with rfl | hz
  ·exact h
  ·obtain rfl := List.mem_singleton.1 hz; exact h2
def FExQ (g : Nat) (S : ByteArray) (op : Int) (r : Fr) (w : World) (e : Ending) (w' : World) : Prop := match r with
 | .yes f l => ∃ t : FE, shp t = f ∧ e = .returned (.tuple #[feV t, .bool true]) ∧ FeAt w' (fun b => w.heap.size ≤ b) w'.heap.size t ∧ Fd w' g S l op ∧ w.grownBy w' (some g)
 | .no c => ∃ t : FE, e = .returned (.tuple #[feV t, .bool false]) ∧ c ≠ 0 ∧ Fx w' g S c ∧ w.grownBy w' (some g)
abbrev zeroFE : Array Value := #[.int .i64 0, .int .i64 0, .int .i64 0, .string ⟨#[]⟩, .slice none 0 0]
abbrev set5 (w : World) (g : Nat) (k a b : Int) (nm : ByteArray) (s : Value) : World := ((((w.setCell ⟨g, 0, none⟩ (.int .i64 k)).setCell ⟨g, 1, none⟩ (.int .i64 a)).setCell ⟨g, 2, none⟩ (.int .i64 b)).setCell ⟨g, 3, none⟩ (.string nm)).setCell ⟨g, 4, none⟩ s
theorem grown_setnew' {w w1 : World} {row : Option Nat} (h : w.grownBy w1 row) (g4 i : Nat) (v : Value) (hg : w.heap.size ≤ g4) : w.grownBy (w1.setCell ⟨g4, i, none⟩ v) row :=
 ⟨h.os, h.tape, h.output, by simpa using h.size, fun k hk hne => (Below.heap_setCell _ _ _ k (show k ≠ g4 by omega)).trans (h.block k hk hne)⟩
theorem grown_set5 {w w1 : World} {row : Option Nat} (h : w.grownBy w1 row) (g : Nat) (k a b : Int) (nm : ByteArray) (s : Value) (hg : w.heap.size ≤ g) : w.grownBy (set5 w1 g k a b nm s) row :=
 grown_setnew' (grown_setnew' (grown_setnew' (grown_setnew' (grown_setnew' h g 0 _ hg) g 1 _ hg) g 2 _ hg) g 3 _ hg) g 4 _ hg
theorem Fd.set5 {w : World} {g : Nat} {S : ByteArray} {l : List UInt8} {op : Int} (h : Fd w g S l op) (q : Nat) (k a b : Int) (nm : ByteArray) (s : Value) (h0 : q ≠ g) : Fd (set5 w q k a b nm s) g S l op :=
 ((((h.set_ q 0 _ h0).set_ q 1 _ h0).set_ q 2 _ h0).set_ q 3 _ h0).set_ q 4 _ h0
theorem Fx.set5 {w : World} {g : Nat} {S : ByteArray} {c : Int} (h : Fx w g S c) (q : Nat) (k a b : Int) (nm : ByteArray) (s : Value) (h0 : q ≠ g) : Fx (set5 w q k a b nm s) g S c :=
 ((((h.set_ q 0 _ h0).set_ q 1 _ h0).set_ q 2 _ h0).set_ q 3 _ h0).set_ q 4 _ h0
theorem FeAt.set5 {w : World} {p : Nat → Prop} {t : FE} (h : FeAt w p w.heap.size t) (g : Nat) (k a b : Int) (nm : ByteArray) (s : Value) (hr : ¬ p g) : FeAt (set5 w g k a b nm s) p (set5 w g k a b nm s).heap.size t :=
 ((((h.set_ g 0 _ hr).set_ g 1 _ hr).set_ g 2 _ hr).set_ g 3 _ hr).set_ g 4 _ hr
theorem box_set5 {w : World} {g : Nat} {k0 a0 b0 : Int} {nm0 : ByteArray} {s0 : Value} (h : Box w g 57 #[.int .i64 k0, .int .i64 a0, .int .i64 b0, .string nm0, s0]) (k a b : Int) (nm : ByteArray) (s : Value) : Box (set5 w g k a b nm s) g 57 #[.int .i64 k, .int .i64 a, .int .i64 b, .string nm, s] :=
 ((((h.set_ 0 (.int .i64 k)).set_ 1 (.int .i64 a)).set_ 2 (.int .i64 b)).set_ 3 (.string nm)).set_ 4 s
theorem box_far5 {w : World} {q : Nat} {ty : TypeId} {cs : Array Value} (h : Box w q ty cs) (g : Nat) (k a b : Int) (nm : ByteArray) (s : Value) (hne : q ≠ g) : Box (set5 w g k a b nm s) q ty cs :=
 Box.far (p := ⟨g, 4, none⟩) (Box.far (p := ⟨g, 3, none⟩) (Box.far (p := ⟨g, 2, none⟩) (Box.far (p := ⟨g, 1, none⟩) (Box.far (p := ⟨g, 0, none⟩) h hne _) hne _) hne _) hne _) hne _
theorem fex_yes {g : Nat} {S : ByteArray} {op : Int} {f : FE} {l : List UInt8} {w w1 : World} {g2 : Nat} {k a b : Int} {nm : ByteArray} {A : Option Addr} {c : Nat} {ks : List FE} (hg2 : w.heap.size = g2) (hgg : g < g2) (hr : Fd w1 g S l op) (hg : w.grownBy w1 (some g)) (hs : shp (.node k a b nm A c ks) = f)
  (ha : FeAt w1 (fun b => g2 < b) w1.heap.size (.node k a b nm A c ks)) : FExQ g S op (.yes f l) w (.returned (.tuple #[.agg #[.int .i64 k, .int .i64 a, .int .i64 b, .string nm, .slice A ks.length c], .bool true])) (set5 w1 g2 k a b nm (.slice A ks.length c)) :=
 ⟨_, hs, rfl, (ha.set5 g2 k a b nm _ (by omega)).more fun b hb _ => by omega, hr.set5 g2 _ _ _ _ _ (by omega), grown_set5 hg g2 _ _ _ _ _ (by omega)⟩
theorem fex_no {g : Nat} {S : ByteArray} {op : Int} {w w1 : World} {g2 : Nat} {k a b : Int} {nm : ByteArray} {A : Option Addr} {c : Nat} {ks : List FE} {E : Int} (hE : E ≠ 0) (hg2 : w.heap.size = g2) (hgg : g < g2) (hx : Fx w1 g S E) (hg : w.grownBy w1 (some g)) :
  FExQ g S op (.no E) w (.returned (.tuple #[.agg #[.int .i64 k, .int .i64 a, .int .i64 b, .string nm, .slice A ks.length c], .bool false])) (set5 w1 g2 k a b nm (.slice A ks.length c)) :=
 ⟨.node k a b nm A c ks, rfl, hE, hx.set5 g2 _ _ _ _ _ (by omega), grown_set5 hg g2 _ _ _ _ _ (by omega)⟩
theorem dv_bound (d : List UInt8) (h : d.length ≤ 9) : 0 ≤ dv d ∧ dv d < 1000000000 := by
 have key : ∀ (l : List UInt8) (acc n : Nat), Lib.decFrom acc l = some n → n < (acc + 1) * 10 ^ l.length := by
  intro l
  induction l with
  | nil => intro acc n h; injection h with h; subst h; simp
  | cons b r ih =>
   intro acc n h
   unfold Lib.decFrom at h
   cases hd : Lib.digitVal b with
   | none => rw [hd] at h; cases h
   | some d =>
    rw [hd] at h
    have hd9 : d ≤ 9 := by
     unfold Lib.digitVal at hd
     split at hd
     ·injection hd with hd; omega
     ·cases hd
    have h1 := ih _ _ h
    rw [List.length_cons, Nat.pow_succ]
    calc n < (acc * 10 + d + 1) * 10 ^ r.length := h1
     _ ≤ ((acc + 1) * 10) * 10 ^ r.length := Nat.mul_le_mul_right _ (by omega)
     _ = (acc + 1) * (10 ^ r.length * 10) := by rw [Nat.mul_assoc, Nat.mul_comm 10]
 unfold dv
 refine ⟨by omega, ?_⟩
 cases hd : Lib.decNat d with
 | none => simp
 | some n =>
  unfold Lib.decNat at hd
  split at hd
  ·cases hd
  ·have h1 := key d 0 n hd
   have h2 : 10 ^ d.length ≤ 10 ^ 9 := Nat.pow_le_pow_right (by omega) h
   rw [show (0 + 1) * 10 ^ d.length = 10 ^ d.length from by omega] at h1
   have : n < 1000000000 := Nat.lt_of_lt_of_le h1 h2
   show (n : Int) < 1000000000
   omega
theorem natR_bound {sg : Bool} {l : List UInt8} {n : Int} {l' : List UInt8} (h : natR sg l = .yes n l') : -1000000000 < n ∧ n < 1000000000 := by
 unfold natR at h
 split at h
 ·cases h
 split at h
 ·cases h
 rename_i h9
 injection h with h _
 have := dv_bound (dg l) (by omega)
 rw [← h]
 split <;> omega
theorem numR_bound {l : List UInt8} {n : Int} {l' : List UInt8} (h : numR l = .yes n l') : -1000000000 < n ∧ n < 1000000000 := by
 unfold numR at h
 split at h <;> exact natR_bound h
end Go.Proofs.YtabidjmmgnkhkaaGreatDoor
