/- WTopFeasts -/
import Derived.Test.YtabidjmmgnkhkaaGreatDoorGFtPl
import Derived.Test.YtabidjmmgnkhkaaGreatDoorGFtCon
import Derived.Test.YtabidjmmgnkhkaaGreatDoorGTopCut
/- The walk of TopFeasts: it returns true at every input; it writes nothing that was there. -/
namespace Go.Proofs.YtabidjmmgnkhkaaGreatDoor.topFeasts
open Go Go.RowKit
attribute [local go_sem] Oper.semAt_some
set_option linter.unusedVariables false
theorem atenth_any (w : World) : Calls Tryz.prog 19 #[] w fun e w' => e = .returned (.agg #[.int .i64 4, .int .i64 10, .int .i64 0, .string ⟨#[]⟩, .slice none 0 0]) ∧ Below w.heap.size w w' := by
 have hx := Box.new w 57 #[.int .i64 4, .int .i64 10, .int .i64 0, .string ⟨#[]⟩, .slice none 0 0]
 have HB := Lib.hid (below_alloc1 w (Obj.cells #[.int .i64 4, .int .i64 10, .int .i64 0, .string ⟨#[]⟩, .slice none 0 0] 57))
 obtain ⟨r0, r1, r2, r3, r4⟩ := fecells hx
 go_enter Tryz.func19, Tryz.ntmps19
 go_wp2_with fail
 refine bodyPost_ret (v := .agg #[.int .i64 4, .int .i64 10, .int .i64 0, .string ⟨#[]⟩, .slice none 0 0]) (by simp [results, Tryz.results19, go_sem, r0, r1, r2, r3, r4]) rfl ?_
 exact ⟨rfl, HB.out⟩
theorem anext_any (w : World) (hv : Env w) : Calls Tryz.prog 18 #[.agg #[.int .i64 4, .int .i64 10, .int .i64 0, .string ⟨#[]⟩, .slice none 0 0], .int .i64 1] w fun e w' => e = .returned (.tuple #[.int .i64 10, .int .i64 0]) ∧ Below w.heap.size w w' := by
 have h := next_any fe10 1 w hv (fe10_in w _)
 rw [show feV fe10 = .agg #[.int .i64 4, .int .i64 10, .int .i64 0, .string ⟨#[]⟩, .slice none 0 0] from rfl] at h
 refine h.mono ?_
 rintro e w2 ⟨d, E, rfl, hb2, _, hy⟩
 have hd1 : DayIn 1 := ⟨by omega, by omega⟩
 have h10 : memF fe10 10 := (fe10_mem 10).2 ⟨⟨by omega, by omega⟩, by omega⟩
 obtain ⟨rfl, rfl⟩ : d = 10 ∧ E = 0 := by
  rcases hy ⟨fe10_good, hd1⟩ with ⟨h0, h1, h2, h3, h4⟩ | ⟨_, _, h4⟩
  ·have h5 := ((fe10_mem d).1 h3).2
   have h6 : ¬ 10 < d := fun h => h4 10 (by omega) h h10
   exact ⟨by omega, h0⟩
  ·exact absurd h10 (h4 10 (by omega) (by omega))
 exact ⟨rfl, hb2⟩
set_option maxRecDepth 100000 in
set_option maxHeartbeats 8000000 in
theorem core (t : FE) (fr0 m0 : Int) (w : World) (hv : Env w) (hp : Pow w) (ht : FeIn w w.heap.size t) :
  Calls Tryz.prog 7 #[feV t, .int .i64 fr0, .int .i64 m0] w fun e w' => e = .returned (.bool true) ∧ Below w.heap.size w w' := by
 have HTn := Lib.hid (fun W => atenth_any W)
 have HAn := Lib.hid (fun W (h : Below w.heap.size w W) => anext_any W (hv.next h))
 have HPt := Lib.hid (fun W (h : Below w.heap.size w W) => fprint_any t W (hv.next h) (hp.next h) (ht.next h h.size))
 have HPa := Lib.hid (fun (hg : FeGood t) (hS : (str (fsh t)).size ≤ 600) W (h : Below w.heap.size w W) => fparse_back t W (hv.next h) hg hS)
 have HCut1 := Lib.hid (fun W => acut_any fr0 1 700000 W (by omega) (by omega) (by omega) (by omega))
 have HCut2 := Lib.hid (fun W => acut_any m0 1 120 W (by omega) (by omega) (by omega) (by omega))
 have q1 := Int.emod_nonneg fr0 (show (700000 : Int) ≠ 0 by omega)
 have q2 := Int.emod_lt_of_pos fr0 (show (0 : Int) < 700000 by omega)
 have q3 := Int.emod_nonneg m0 (show (120 : Int) ≠ 0 by omega)
 have q4 := Int.emod_lt_of_pos m0 (show (0 : Int) < 120 by omega)
 obtain ⟨fr, hfr⟩ : ∃ fr, fr = 1 + fr0 % 700000 := ⟨_, rfl⟩
 obtain ⟨m, hm⟩ : ∃ m, m = 1 + m0 % 120 := ⟨_, rfl⟩
 rw [← hfr] at HCut1
 rw [← hm] at HCut2
 have hd1 : 1 ≤ fr ∧ fr ≤ 700000 := by omega
 have hd2 : 1 ≤ m ∧ m ≤ 120 := by omega
 have HBt := Lib.hid (fun W (h : Below w.heap.size w W) => between_any t fr (fr + m) W (hv.next h) (ht.next h h.size))
 have HNx := Lib.hid (fun W (h : Below w.heap.size w W) u (hu : FeIn W W.heap.size u) d => next_any u d W (hv.next h) hu)
 have HBf := Lib.hid (fun W (h : Below w.heap.size w W) u (hu : FeIn W W.heap.size u) d => before_any u d W (hv.next h) hu)
 have HHs := Lib.hid (fun W (h : Below w.heap.size w W) u (hu : FeIn W W.heap.size u) d => has_any u d W (hv.next h) hu)
 obtain ⟨N, hN⟩ : ∃ N : Nat, N = (fr + m - fr + 1).toNat := ⟨_, rfl⟩
 have hN1 : (N : Int) ≤ m + 1 ∧ m + 1 ≤ N ∧ N ≤ 3000 := by omega
 unfold BetQ at HBt
 rw [← hN] at HBt
 unfold FPrintQ at HPt
 unfold FBackQ at HPa
 unfold NextQ at HNx
 unfold BefQ at HBf
 unfold HasQ at HHs
 have HGo : Hid (FeGood t → BetGood t fr (fr + m)) := fun h => ⟨h, ⟨by omega, by omega⟩, ⟨by omega, by omega⟩, by omega, by omega⟩
 have HListed := Lib.hid (fun i (hi : i < (daysF t fr N).length) => listed hi)
 have HRange := Lib.hid (fun i (hi : i ≤ (daysF t fr N).length) => atF_range (t := t) (a := fr) (n := N) hi)
 have HFn := Lib.hid (fun u (hs : ∀ d, memF u d ↔ memF t d) i (hi : i < (daysF t fr N).length) d E h => ft_next hs hN1.2.2 hi (d := d) (E := E) h)
 have HFs := Lib.hid (fun u (hs : ∀ d, memF u d ↔ memF t d) D (hD : memF t D) d E h => ft_self hs hD (d := d) (E := E) h)
 have HFb := Lib.hid (fun u (hs : ∀ d, memF u d ↔ memF t d) i (hi : i + 1 < (daysF t fr N).length) d E h => ft_back hs hN1.2.2 hi (d := d) (E := E) h)
 have HFl := Lib.hid (fun u (hs : ∀ d, memF u d ↔ memF t d) d h1 h2 => ft_last hs (a := fr) (n := N) (d := d) h1 h2)
 have HLen := Lib.hid (daysF_len t fr N)
 have HMs := Lib.hid (fun u (h : shp u = shp t) d => memF_same h d)
 clear q1 q2 q3 q4 hfr hm hv hp ht hN
 generalize daysF t fr N = al at *
 obtain ⟨t0, ht0⟩ : ∃ t0, t0 = t := ⟨_, rfl⟩
 obtain ⟨k, a, b, nm, A, c, ks⟩ := t
 have hfe : feV t0 = .agg #[.int .i64 k, .int .i64 a, .int .i64 b, .string nm, .slice A ks.length c] := by rw [ht0]; rfl
 rw [← ht0] at HPt HPa HBt HGo HListed HFn HFs HFb HFl HMs ⊢
 rw [hfe] at HPt HBt ⊢
 clear hfe ht0
 have HB := Lib.hid (below_alloc1 w (Obj.cells #[.int .i64 k, .int .i64 a, .int .i64 b, .string nm, .slice A ks.length c] 57))
 have HX := Lib.hid (Box.new w 57 #[.int .i64 k, .int .i64 a, .int .i64 b, .string nm, .slice A ks.length c])
 go_enter Tryz.func7, Tryz.ntmps7
 go_upto_region 1 with fail
 generalize w.alloc (Obj.cells #[.int .i64 k, .int .i64 a, .int .i64 b, .string nm, .slice A ks.length c] 57) = W1 at *
 obtain ⟨g, hg⟩ : ∃ g, g = w.heap.size := ⟨_, rfl⟩
 rw [← hg] at HX ⊢
 clear hg
 go_wp2_with fail
 refine (HTn.out W1).mono ?_
 rintro e w2 ⟨rfl, hb2⟩
 have HB2 := Lib.hid (below_then HB.out hb2)
 have HX2 := Lib.hid (HX.out.below hb2)
 clear hb2 HTn HB HX
 go_wp2_with fail
 refine (HAn.out w2 HB2.out).mono ?_
 rintro e w3 ⟨rfl, hb3⟩
 have HB3 := Lib.hid (below_then HB2.out hb3)
 have HX3 := Lib.hid (HX2.out.below hb3)
 clear hb3 HAn HB2 HX2
 obtain ⟨x0, x1, x2, x3, x4⟩ := fecells HX3.out
 go_wp2_with fail
 refine (HPt.out w3 HB3.out).mono ?_
 rintro e w4 ⟨hb4, h⟩
 have HB4 := Lib.hid (below_then HB3.out hb4)
 have HX4 := Lib.hid (HX3.out.below hb4)
 clear hb4 x0 x1 x2 x3 x4 HX3 HB3 HPt
 rcases h with ⟨hgood, rfl⟩ | ⟨_, E, hE, rfl⟩
 case inr =>
  have t1 : (E != 0) = true := by rw [bne_iff_ne]; exact hE
  clear hE
  go_wp2_with fail
  go_ret
  exact ⟨rfl, HB4.out⟩
 have HGd := Lib.hid hgood
 by_cases hlen : 600 < (str (fsh t0)).size
 ·have t1 : decide (600 < (str (fsh t0)).size) = true := decide_eq_true hlen
  have t2 : decide ((600 : Int) < ((str (fsh t0)).size : Int)) = true := decide_eq_true (by omega)
  go_wp2_with fail
  go_ret
  exact ⟨rfl, HB4.out⟩
 have HPa4 := Lib.hid (HPa.out hgood (by omega) w4 HB4.out)
 have t1 : decide (600 < (str (fsh t0)).size) = false := decide_eq_false hlen
 have t2 : decide ((600 : Int) < ((str (fsh t0)).size : Int)) = false := decide_eq_false (by omega)
 clear HPa hgood
 obtain ⟨S, hS⟩ : ∃ S, S = str (fsh t0) := ⟨_, rfl⟩
 rw [← hS] at HPa4 t1 t2 hlen ⊢
 clear hS
 go_wp2_with fail
 refine HPa4.out.mono ?_
 rintro e w5 ⟨u, hsu, hgu, rfl, hiu, hb5⟩
 have HB5 := Lib.hid (below_then HB4.out hb5)
 have HX5 := Lib.hid (HX4.out.below hb5)
 have HMu := Lib.hid (HMs.out u hsu)
 have HGu := Lib.hid hgu
 have HIu := Lib.hid hiu
 clear hb5 hsu hgu hiu HPa4 HMs HB4 HX4 t1 t2 hlen
 have HFn1 := Lib.hid (HFn.out u HMu.out)
 have HFs1 := Lib.hid (HFs.out u HMu.out)
 have HFb1 := Lib.hid (HFb.out u HMu.out)
 have HFl1 := Lib.hid (HFl.out u HMu.out)
 clear HFn HFs HFb HFl
 obtain ⟨u0, hu0⟩ : ∃ u0, u0 = u := ⟨_, rfl⟩
 obtain ⟨k', a', b', nm', A', c', ks'⟩ := u
 have hfu : feV u0 = .agg #[.int .i64 k', .int .i64 a', .int .i64 b', .string nm', .slice A' ks'.length c'] := by rw [hu0]; rfl
 rw [← hu0] at HMu HGu HIu HFn1 HFs1 HFb1 HFl1 ⊢
 have HNu := Lib.hid (fun W (h : Below w5.heap.size w5 W) d => HNx.out W (below_then HB5.out h) u0 (HIu.out.next h h.size) d)
 have HFu := Lib.hid (fun W (h : Below w5.heap.size w5 W) d => HBf.out W (below_then HB5.out h) u0 (HIu.out.next h h.size) d)
 have HHu := Lib.hid (fun W (h : Below w5.heap.size w5 W) d => HHs.out W (below_then HB5.out h) u0 (HIu.out.next h h.size) d)
 rw [hfu] at HNu HFu HHu ⊢
 clear hu0 hfu HNx HBf HHs HIu
 have HB6 := Lib.hid (below_alloc1 w5 (Obj.cells #[.int .i64 k', .int .i64 a', .int .i64 b', .string nm', .slice A' ks'.length c'] 57))
 have HY6 := Lib.hid (Box.new w5 57 #[.int .i64 k', .int .i64 a', .int .i64 b', .string nm', .slice A' ks'.length c'])
 have HX6 := Lib.hid (HX5.out.below HB6.out)
 obtain ⟨x0, x1, x2, x3, x4⟩ := fecells HX6.out
 have ew1 : IntKind.i64.wrap (fr + m) = fr + m := intFits _ (by omega) (by omega)
 clear HX5
 go_wp2_with (go_at_call 13; first | (refine (HCut1.out _).mono ?_; rintro e w' ⟨rfl, rfl⟩; clear HCut1) | (refine (HCut2.out _).mono ?_; rintro e w' ⟨rfl, rfl⟩; clear HCut2))
 clear x0 x1 x2 x3 x4 HX6
 obtain ⟨gq, hgq⟩ : ∃ gq, gq = w5.heap.size := ⟨_, rfl⟩
 rw [← hgq] at HY6 ⊢
 have HGq := Lib.hid hgq
 clear hgq
 generalize w5.alloc (Obj.cells #[.int .i64 k', .int .i64 a', .int .i64 b', .string nm', .slice A' ks'.length c'] 57) = w6 at *
 refine (HBt.out w6 (below_then HB5.out HB6.out)).mono ?_
 rintro e w7 ⟨hb7, hc⟩
 have HB7 := Lib.hid (below_then HB6.out hb7)
 have HY7 := Lib.hid (HY6.out.below hb7)
 clear hb7 HB6 HY6 HBt
 rcases hc with ⟨E, hE, rfl, hno⟩ | ⟨A9, l, c9, rfl, _, hl, hown⟩
 ·exact absurd (HGo.out HGd.out) hno
 have HRow := Lib.hid (row_own hown)
 have hl3 : l ≤ 3000 := by have := HLen.out; omega
 have HLe := Lib.hid hl
 clear hl hown HGo
 go_wp2_with fail
 go_loopw [15, 16, 17, 18, 19, 20, 21, 22, 23, 72] (fun _ _ _ _ _ _ _ _ _ s72 wr => ∃ i : Nat, i ≤ l ∧ s72 = .int .i64 (i : Int) ∧ Hid (Box wr gq 57 #[.int .i64 k', .int .i64 a', .int .i64 b', .string nm', .slice A' ks'.length c']) ∧ Hid (Below w7.heap.size w7 wr)) (fun _ _ _ _ _ _ _ _ _ s72 _ => l - (intOf s72).toNat)
 case atStart => exact ⟨0, by omega, rfl, HY7, Below.refl _ _⟩
 case round =>
  obtain ⟨i, hil, rfl, hY, hbr⟩ := hrel
  have HBr := Lib.hid (below_then HB7.out hbr.out)
  have HBw := Lib.hid (below_then HB5.out HBr.out)
  by_cases hlt : i < l
  case neg =>
   have hie : l ≤ i := by omega
   have HIl : Hid (i = l) := by unfold Hid; omega
   have ti : decide ((i : Int) < (l : Int)) = false := decide_eq_false (by omega)
   have HRg := HRange.out al.length (Nat.le_refl _)
   clear hlt
   by_cases hl0 : l = 0
   ·have t1 : decide ((0 : Int) < (l : Int)) = false := decide_eq_false (by omega)
    have t2 : decide (0 < l) = false := decide_eq_false (by omega)
    have HAt : Hid (atF al fr al.length = fr) := by unfold Hid; rw [← HLe.out, hl0]; rfl
    have HL0 := Lib.hid hl0
    obtain ⟨x0, x1, x2, x3, x4⟩ := fecells hY.out
    have hle0 : l ≤ 0 := by omega
    clear hl0 hil
    go_wp2_with fail
    refine (HNu.out wr HBr.out fr).mono ?_
    rintro e w8 ⟨d, E, rfl, hb8, _, hy⟩
    have HB8 := Lib.hid (below_then HBw.out hb8)
    have hy2 := hy ⟨HGu.out, ⟨by omega, by omega⟩⟩
    clear hb8 hy x0 x1 x2 x3 x4
    by_cases hE0 : E = 0
    ·subst hE0
     have hd : fr + (N : Int) ≤ d := by
      rcases hy2 with ⟨_, h1, _, h2, _⟩ | ⟨h, _⟩
      ·exact HFl1.out d (by rw [HAt.out]; exact h1) h2
      ·omega
     have t3 : decide (fr + m < d) = true := decide_eq_true (by omega)
     clear hy2
     go_wp2_with fail
     go_ret
     exact ⟨rfl, HB8.out⟩
    ·have t3 : (E != 0) = true := by rw [bne_iff_ne]; exact hE0
     clear hy2 hE0
     go_wp2_with fail
     go_ret
     exact ⟨rfl, HB8.out⟩
   ·obtain ⟨j, hj⟩ : ∃ j : Nat, l = j + 1 := ⟨l - 1, by omega⟩
    have hj1 : j < l := by omega
    have hj2 : (j : Int) < (l : Int) := by omega
    have t1 : decide ((0 : Int) < (l : Int)) = true := decide_eq_true (by omega)
    have t2 : decide (0 < l) = true := decide_eq_true (by omega)
    have ew2 : IntKind.i64.wrap ((l : Int) - 1) = (j : Int) := by rw [intFits _ (by omega) (by omega)]; omega
    have HJl := Lib.hid hj
    have hlP := HListed.out j (by have := HLe.out; omega)
    have HAt : Hid (atF al fr al.length = al.getD j 0 + 1) := by unfold Hid; rw [← HLe.out, hj]; rfl
    obtain ⟨bA, oA, rfl, hbA, hcA⟩ := HRow.out.open_ (ints_ne al (by have := HLe.out; omega))
    have hcell := (hbr.out.cell (p := ⟨bA, oA + j, none⟩) hbA).trans (ints_cell hcA j (by have := HLe.out; omega))
    obtain ⟨P, hP⟩ : ∃ P, P = al.getD j 0 := ⟨_, rfl⟩
    rw [← hP] at HAt hcell hlP
    clear hP
    have ew3 : IntKind.i64.wrap (P + 1) = P + 1 := intFits _ (by omega) (by omega)
    obtain ⟨x0, x1, x2, x3, x4⟩ := fecells hY.out
    have hl1 : 1 ≤ l := by omega
    clear hl0 hj hil hcA
    go_wp2_with fail
    refine (HNu.out wr HBr.out (P + 1)).mono ?_
    rintro e w8 ⟨d, E, rfl, hb8, _, hy⟩
    have HB8 := Lib.hid (below_then HBw.out hb8)
    have hy2 := hy ⟨HGu.out, ⟨by omega, by omega⟩⟩
    clear hb8 hy x0 x1 x2 x3 x4
    by_cases hE0 : E = 0
    ·subst hE0
     have hd : fr + (N : Int) ≤ d := by
      rcases hy2 with ⟨_, h1, _, h2, _⟩ | ⟨h, _⟩
      ·exact HFl1.out d (by rw [HAt.out]; exact h1) h2
      ·omega
     have t3 : decide (fr + m < d) = true := decide_eq_true (by omega)
     clear hy2
     go_wp2_with fail
     go_ret
     exact ⟨rfl, HB8.out⟩
    ·have t3 : (E != 0) = true := by rw [bne_iff_ne]; exact hE0
     clear hy2 hE0
     go_wp2_with fail
     go_ret
     exact ⟨rfl, HB8.out⟩
  have HI : Hid (i < al.length) := by unfold Hid; rw [← HLe.out]; exact hlt
  obtain ⟨bA, oA, rfl, hbA, hcA⟩ := HRow.out.open_ (ints_ne al (by have := HI.out; omega))
  have HbA := Lib.hid hbA
  have hcD := (hbr.out.cell (p := ⟨bA, oA + i, none⟩) hbA).trans (ints_cell hcA i HI.out)
  have hlD := HListed.out i HI.out
  obtain ⟨D, hD⟩ : ∃ D, D = al.getD i 0 := ⟨_, rfl⟩
  rw [← hD] at hcD hlD
  have HDe := Lib.hid hD
  have HDm := Lib.hid hlD.2.2
  have hD1 := hlD.1
  have hD2 := hlD.2.1
  have HDd : Hid (DayIn D) := ⟨by omega, by omega⟩
  clear hD hlD
  by_cases hi0 : i = 0
  ·have HAt : Hid (atF al fr i = fr) := by unfold Hid; rw [hi0]; rfl
   have HDa : Hid (DayIn fr) := ⟨by omega, by omega⟩
   have t1 : decide ((0 : Int) < (i : Int)) = false := decide_eq_false (by omega)
   have t2 : decide (0 < i) = false := decide_eq_false (by omega)
   clear hi0 hcA
   obtain ⟨x0, x1, x2, x3, x4⟩ := fecells hY.out
   go_wp2_with fail
   refine (HNu.out wr HBr.out (fr)).mono ?_
   rintro e w8 ⟨d, E, he, hb8, _, hy⟩
   obtain ⟨hE, hd⟩ := HFn1.out i HI.out d E (by rw [HAt.out]; exact hy ⟨HGu.out, HDa.out⟩)
   rw [← HDe.out] at hd
   rw [hE, hd] at he
   subst he
   clear hE hd
   have HB8 := Lib.hid (below_then HBr.out hb8)
   have HBs8 := Lib.hid (below_then hbr.out hb8)
   have HY8 := Lib.hid (hY.out.below hb8)
   clear hb8 hy x0 x1 x2 x3 x4
   obtain ⟨x0, x1, x2, x3, x4⟩ := fecells HY8.out
   go_wp2_with fail
   refine (HFu.out w8 HB8.out D).mono ?_
   rintro e w9 ⟨d, E, he, hb9, _, hy⟩
   obtain ⟨hE, hd⟩ := HFs1.out D HDm.out d E (hy ⟨HGu.out, HDd.out⟩)
   rw [hE, hd] at he
   subst he
   clear hE hd
   have HB9 := Lib.hid (below_then HB8.out hb9)
   have HBs9 := Lib.hid (below_then HBs8.out hb9)
   have HY9 := Lib.hid (HY8.out.below hb9)
   clear hb9 hy x0 x1 x2 x3 x4 HB8 HBs8 HY8
   obtain ⟨x0, x1, x2, x3, x4⟩ := fecells HY9.out
   go_wp2_with fail
   refine (HHu.out w9 HB9.out D).mono ?_
   rintro e w10 ⟨is, E, he, hE, hm, _, hb10⟩
   have hE0 : E = 0 := hE.2 ⟨HGu.out, HDd.out⟩
   have his : is = true := (hm hE0).2 ((HMu.out D).2 HDm.out)
   rw [hE0, his] at he
   subst he
   clear hE0 his
   have HB10 := Lib.hid (below_then HB9.out hb10)
   have HBs10 := Lib.hid (below_then HBs9.out hb10)
   have HY10 := Lib.hid (HY9.out.below hb10)
   clear hb10 hm hE x0 x1 x2 x3 x4 HB9 HBs9 HY9
   have td : (D != D) = false := by simp
   go_wp2_with fail
   go_roundw
   case rel => exact ⟨i + 1, by omega, by go_num, HY10, HBs10⟩
   case measure => simp [intOf]; omega
  ·obtain ⟨j, hj⟩ : ∃ j : Nat, i = j + 1 := ⟨i - 1, by omega⟩
   have hj1 : j < l := by omega
   have hj2 : (j : Int) < (l : Int) := by omega
   have t1 : decide ((0 : Int) < (i : Int)) = true := decide_eq_true (by omega)
   have t2 : decide (0 < i) = true := decide_eq_true (by omega)
   have ew2 : IntKind.i64.wrap ((i : Int) - 1) = (j : Int) := by rw [intFits _ (by omega) (by omega)]; omega
   have hjal : j < al.length := by have := HI.out; omega
   have hlP := HListed.out j hjal
   have HcA := Lib.hid hcA
   have HPc := Lib.hid (ints_cell hcA j hjal)
   have HAt : Hid (atF al fr i = al.getD j 0 + 1) := by unfold Hid; rw [hj]; rfl
   have HFj := Lib.hid (fun d E h => HFb1.out j (by rw [← hj]; exact HI.out) d E h)
   rw [← hj, ← HDe.out] at HFj
   obtain ⟨P, hP⟩ : ∃ P, P = al.getD j 0 := ⟨_, rfl⟩
   rw [← hP] at HAt HPc hlP HFj
   have hcP := (hbr.out.cell (p := ⟨bA, oA + j, none⟩) hbA).trans HPc.out
   have hP1 := hlP.1
   have hP2 := hlP.2.1
   have HDa : Hid (DayIn (P + 1)) := ⟨by omega, by omega⟩
   have ew3 : IntKind.i64.wrap (P + 1) = P + 1 := intFits _ (by omega) (by omega)
   have ew4 : IntKind.i64.wrap (D - 1) = D - 1 := intFits _ (by omega) (by omega)
   have HD1 : Hid (DayIn (D - 1)) := ⟨by omega, by omega⟩
   clear hi0 hj hcA hP hlP hjal
   obtain ⟨x0, x1, x2, x3, x4⟩ := fecells hY.out
   go_wp2_with fail
   refine (HNu.out wr HBr.out (P + 1)).mono ?_
   rintro e w8 ⟨d, E, he, hb8, _, hy⟩
   obtain ⟨hE, hd⟩ := HFn1.out i HI.out d E (by rw [HAt.out]; exact hy ⟨HGu.out, HDa.out⟩)
   rw [← HDe.out] at hd
   rw [hE, hd] at he
   subst he
   clear hE hd
   have HB8 := Lib.hid (below_then HBr.out hb8)
   have HBs8 := Lib.hid (below_then hbr.out hb8)
   have HY8 := Lib.hid (hY.out.below hb8)
   clear hb8 hy x0 x1 x2 x3 x4
   obtain ⟨x0, x1, x2, x3, x4⟩ := fecells HY8.out
   go_wp2_with fail
   refine (HFu.out w8 HB8.out D).mono ?_
   rintro e w9 ⟨d, E, he, hb9, _, hy⟩
   obtain ⟨hE, hd⟩ := HFs1.out D HDm.out d E (hy ⟨HGu.out, HDd.out⟩)
   rw [hE, hd] at he
   subst he
   clear hE hd
   have HB9 := Lib.hid (below_then HB8.out hb9)
   have HBs9 := Lib.hid (below_then HBs8.out hb9)
   have HY9 := Lib.hid (HY8.out.below hb9)
   clear hb9 hy x0 x1 x2 x3 x4 HB8 HBs8 HY8
   obtain ⟨x0, x1, x2, x3, x4⟩ := fecells HY9.out
   go_wp2_with fail
   refine (HHu.out w9 HB9.out D).mono ?_
   rintro e w10 ⟨is, E, he, hE, hm, _, hb10⟩
   have hE0 : E = 0 := hE.2 ⟨HGu.out, HDd.out⟩
   have his : is = true := (hm hE0).2 ((HMu.out D).2 HDm.out)
   rw [hE0, his] at he
   subst he
   clear hE0 his
   have HB10 := Lib.hid (below_then HB9.out hb10)
   have HBs10 := Lib.hid (below_then HBs9.out hb10)
   have HY10 := Lib.hid (HY9.out.below hb10)
   clear hb10 hm hE x0 x1 x2 x3 x4 HB9 HBs9 HY9
   have td : (D != D) = false := by simp
   obtain ⟨x0, x1, x2, x3, x4⟩ := fecells HY10.out
   go_wp2_with fail
   refine (HFu.out w10 HB10.out (D - 1)).mono ?_
   rintro e w11 ⟨d, E, he, hb11, _, hy⟩
   obtain ⟨hE, hd⟩ := HFj.out d E (hy ⟨HGu.out, HD1.out⟩)
   rw [hE, hd] at he
   subst he
   clear hE hd
   have hcQ := ((below_then HBs10.out hb11).cell (p := ⟨bA, oA + j, none⟩) HbA.out).trans HPc.out
   have HBs11 := Lib.hid (below_then HBs10.out hb11)
   have HY11 := Lib.hid (HY10.out.below hb11)
   have tp : (P != P) = false := by simp
   clear hb11 hy x0 x1 x2 x3 x4 HB10 HBs10 HY10
   go_wp2_with fail
   go_roundw
   case rel => exact ⟨i + 1, by omega, by go_num, HY11, HBs11⟩
   case measure => simp [intOf]; omega
set_option maxRecDepth 100000 in
theorem walk {H : Type} {enc : TypeId × Value → H} {base : Nat} {W : World} (v0 : Value) (d0 : DataW H) (p0 : List MemPlace) (hv0 : Value.okWide Tryz.prog W .any base 57 v0) (h0 : DataW.Trod enc Tryz.prog W 0 (fun _ => true) true 57 v0 d0 p0)
  (a1 : Int) (w1 : (Lit.int .i64 a1).wf = true) (a2 : Int) (w2 : (Lit.int .i64 a2).wf = true)
  (hL : laidMet Tryz.prog Rows.topFeastsRow.laid W) (hsh : W.ShapedOpen Tryz.prog) :
  Calls Tryz.prog 7 #[v0, .int .i64 a1, .int .i64 a2] W fun e w' => e = .returned (.bool true) ∧ Below W.heap.size W w' := by
 obtain ⟨t, rfl, ht⟩ := fe_open hv0 h0
 exact core t a1 a2 W ⟨sgs_of hL.tail.tail.tail.tail.tail.tail.tail, lvs_of hL.tail.tail.tail.tail.tail.tail, Shp.of hsh⟩ (pow_of hL.tail.tail) ht
end Go.Proofs.YtabidjmmgnkhkaaGreatDoor.topFeasts
