/- WFeastBack -/
import Derived.Test.YtabidjmmgnkhkaaGreatDoorGFtCon
/- The walk of FeastBack: it returns true at every input; it writes nothing that was there. -/
namespace Go.Proofs.YtabidjmmgnkhkaaGreatDoor.feastBack
open Go Go.RowKit
attribute [local go_sem] Oper.semAt_some
set_option linter.unusedVariables false
set_option maxRecDepth 100000 in
set_option maxHeartbeats 4000000 in
theorem core (t : FE) (w : World) (hv : Env w) (hp : Pow w) (ht : FeIn w w.heap.size t) :
  Calls Tryz.prog 5 #[feV t] w fun e w' => e = .returned (.bool true) ∧ Below w.heap.size w w' := by
 have HP := Lib.hid (fun W (h : Below w.heap.size w W) u (hu : FeIn W W.heap.size u) => fprint_any u W (hv.next h) (hp.next h) hu)
 have HPt := Lib.hid (fun W (h : Below w.heap.size w W) => fprint_any t W (hv.next h) (hp.next h) (ht.next h h.size))
 have HPa := Lib.hid (fun (hg : FeGood t) (hS : (str (fsh t)).size ≤ 600) W (h : Below w.heap.size w W) => fparse_back t W (hv.next h) hg hS)
 have HSame := Lib.hid (fun u (h : shp u = shp t) (h1 : FeGood t) (h2 : FeGood u) => fsh_same h h1 h2)
 clear hv hp ht
 unfold FPrintQ at HP HPt
 unfold FBackQ at HPa
 obtain ⟨t0, ht0⟩ : ∃ t0, t0 = t := ⟨_, rfl⟩
 obtain ⟨k, a, b, nm, A, c, ks⟩ := t
 have hfe : feV t0 = .agg #[.int .i64 k, .int .i64 a, .int .i64 b, .string nm, .slice A ks.length c] := by rw [ht0]; rfl
 rw [← ht0] at HPt HPa HSame ⊢
 rw [hfe] at HPt ⊢
 clear hfe ht0
 have HB := Lib.hid (below_alloc2 w (Obj.cells #[.int .i64 k, .int .i64 a, .int .i64 b, .string nm, .slice A ks.length c] 57) (Obj.cells #[.int .i64 5, .int .i64 5, .int .i64 0, .string ⟨#[]⟩, .slice none 0 0] 57))
 have HX := Lib.hid ((Box.new w 57 #[.int .i64 k, .int .i64 a, .int .i64 b, .string nm, .slice A ks.length c]).alloc (Obj.cells #[.int .i64 5, .int .i64 5, .int .i64 0, .string ⟨#[]⟩, .slice none 0 0] 57))
 have hY := Box.new (w.alloc (Obj.cells #[.int .i64 k, .int .i64 a, .int .i64 b, .string nm, .slice A ks.length c] 57)) 57 #[.int .i64 5, .int .i64 5, .int .i64 0, .string ⟨#[]⟩, .slice none 0 0]
 rw [World.size_alloc] at hY
 have HY := Lib.hid hY
 clear hY
 go_enter Tryz.func5, Tryz.ntmps5
 go_wp2_with fail
 generalize (w.alloc (Obj.cells #[.int .i64 k, .int .i64 a, .int .i64 b, .string nm, .slice A ks.length c] 57)).alloc (Obj.cells #[.int .i64 5, .int .i64 5, .int .i64 0, .string ⟨#[]⟩, .slice none 0 0] 57) = W1 at *
 obtain ⟨g, hg⟩ : ∃ g, g = w.heap.size := ⟨_, rfl⟩
 rw [← hg] at HX HY ⊢
 have HG := Lib.hid hg
 clear hg
 have HC : Hid (Calls Tryz.prog 15 #[.agg #[.int .i64 7, .int .i64 (-2), .int .i64 0, .string ⟨#[]⟩, .slice (some ⟨g + 1, 0, none⟩) 1 1]] W1 (fun e w' => Below W1.heap.size W1 w' ∧ e = .returned (.tuple #[.string ⟨#[100, 97, 121, 32, 53, 32, 45, 32, 50]⟩, .int .i64 0]))) := (HP.out W1 HB.out (fc7 (g + 1)) (fc7_in HY.out)).mono fun e w' h => by
  obtain ⟨hb, h | h⟩ := h
  ·exact ⟨hb, by rw [h.2, fc7_text]; rfl⟩
  ·exact absurd (fc7_good _) h.1
 refine HC.out.mono ?_
 rintro e w2 ⟨hb2, rfl⟩
 have HB2 := Lib.hid (below_then HB.out hb2)
 have HX2 := Lib.hid (HX.out.below hb2)
 clear hb2 HC HB HX HY
 obtain ⟨x0, x1, x2, x3, x4⟩ := fecells HX2.out
 go_wp2_with fail
 refine (HPt.out w2 HB2.out).mono ?_
 rintro e w3 ⟨hb3, h⟩
 have HB3 := Lib.hid (below_then HB2.out hb3)
 clear hb3 x0 x1 x2 x3 x4 HX2 HB2 HPt
 rcases h with ⟨hgood, rfl⟩ | ⟨_, E, hE, rfl⟩
 case inr =>
  have t1 : (E != 0) = true := by rw [bne_iff_ne]; exact hE
  clear hE
  go_wp2_with fail
  go_ret
  exact ⟨rfl, HB3.out⟩
 have HGd := Lib.hid hgood
 by_cases hlen : 600 < (str (fsh t0)).size
 ·have t1 : decide (600 < (str (fsh t0)).size) = true := decide_eq_true hlen
  have t2 : decide ((600 : Int) < ((str (fsh t0)).size : Int)) = true := decide_eq_true (by omega)
  go_wp2_with fail
  go_ret
  exact ⟨rfl, HB3.out⟩
 have HPa3 := Lib.hid (HPa.out hgood (by omega) w3 HB3.out)
 have t1 : decide (600 < (str (fsh t0)).size) = false := decide_eq_false hlen
 have t2 : decide ((600 : Int) < ((str (fsh t0)).size : Int)) = false := decide_eq_false (by omega)
 clear HPa hgood
 obtain ⟨S, hS⟩ : ∃ S, S = str (fsh t0) := ⟨_, rfl⟩
 rw [← hS] at HPa3 t1 t2 hlen ⊢
 have HS := Lib.hid hS
 clear hS
 go_wp2_with fail
 refine HPa3.out.mono ?_
 rintro e w4 ⟨u, hsu, hgu, rfl, hiu, hb4⟩
 have HB4 := Lib.hid (below_then HB3.out hb4)
 have HSu : Hid (str (fsh u) = S) := by unfold Hid; rw [HS.out, HSame.out u hsu HGd.out hgu]
 have HGu := Lib.hid hgu
 have HIu := Lib.hid hiu
 clear hb4 hsu hgu hiu HPa3 HSame HB3
 obtain ⟨u0, hu0⟩ : ∃ u0, u0 = u := ⟨_, rfl⟩
 obtain ⟨k', a', b', nm', A', c', ks'⟩ := u
 have hfu : feV u0 = .agg #[.int .i64 k', .int .i64 a', .int .i64 b', .string nm', .slice A' ks'.length c'] := by rw [hu0]; rfl
 rw [← hu0] at HSu HGu HIu ⊢
 have HPu := Lib.hid (fun W (h : Below w4.heap.size w4 W) => HP.out W (below_then HB4.out h) u0 (HIu.out.next h h.size))
 rw [hfu] at HPu ⊢
 clear hu0 hfu
 have HB5 := Lib.hid (below_alloc1 w4 (Obj.cells #[.int .i64 k', .int .i64 a', .int .i64 b', .string nm', .slice A' ks'.length c'] 57))
 have HX5 := Lib.hid (Box.new w4 57 #[.int .i64 k', .int .i64 a', .int .i64 b', .string nm', .slice A' ks'.length c'])
 obtain ⟨x0, x1, x2, x3, x4⟩ := fecells HX5.out
 go_wp2_with fail
 clear x0 x1 x2 x3 x4 HX5
 generalize w4.alloc (Obj.cells #[.int .i64 k', .int .i64 a', .int .i64 b', .string nm', .slice A' ks'.length c'] 57) = w5 at *
 refine (HPu.out w5 HB5.out).mono ?_
 rintro e w6 ⟨hb6, h⟩
 have HB6 := Lib.hid (below_then HB4.out (below_then HB5.out hb6))
 rcases h with ⟨_, rfl⟩ | ⟨hno, _⟩
 case inr => exact absurd HGu.out hno
 rw [HSu.out]
 clear hb6 HPu HB5 HSu HS
 have t4 : (S.toList == S.toList) = true := by simp
 go_wp2_with fail
 go_ret
 exact ⟨rfl, HB6.out⟩
set_option maxRecDepth 100000 in
theorem walk {H : Type} {enc : TypeId × Value → H} {base : Nat} {W : World} (v0 : Value) (d0 : DataW H) (p0 : List MemPlace) (hv0 : Value.okWide Tryz.prog W .any base 57 v0) (h0 : DataW.Trod enc Tryz.prog W 0 (fun _ => true) true 57 v0 d0 p0)
  (hL : laidMet Tryz.prog Rows.feastBackRow.laid W) (hsh : W.ShapedOpen Tryz.prog) :
  Calls Tryz.prog 5 #[v0] W fun e w' => e = .returned (.bool true) ∧ Below W.heap.size W w' := by
 obtain ⟨t, rfl, ht⟩ := fe_open hv0 h0
 exact core t W ⟨sgs_of hL.tail.tail.tail.tail.tail.tail.tail, lvs_of hL.tail.tail.tail.tail.tail.tail, Shp.of hsh⟩ (pow_of hL.tail.tail) ht
end Go.Proofs.YtabidjmmgnkhkaaGreatDoor.feastBack
