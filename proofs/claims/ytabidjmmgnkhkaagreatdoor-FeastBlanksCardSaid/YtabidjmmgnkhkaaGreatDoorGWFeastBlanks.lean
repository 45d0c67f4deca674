/- WFeastBlanks -/
import Derived.Test.YtabidjmmgnkhkaaGreatDoorGFtCon
import Derived.Test.YtabidjmmgnkhkaaGreatDoorGFtRep
/- The walk of FeastBlanks: it returns true at every input; it writes nothing that was there. -/
namespace Go.Proofs.YtabidjmmgnkhkaaGreatDoor.feastBlanks
open Go Go.RowKit Go.WideShapes
attribute [local go_sem] Oper.semAt_some
set_option linter.unusedVariables false
def Sec (t : FE) (w : World) (e : Ending) (w' : World) : Prop := NoFe 2 w e w' ∨ ∃ u, shp u = shp t ∧ FeGood u ∧ e = .returned (.tuple #[feV u, .int .i64 0, .int .i64 0]) ∧ FeIn w' w'.heap.size u ∧ Below w.heap.size w w'
theorem second (S : ByteArray) (hS : S.size ≤ 250) (t : FE) (hg : FeGood t) (n : Nat) (hr : rd n (.ex 0) 0 (sk S.data.toList) = some (.yes (shp t) [])) (w : World) (hv : Env w) :
  Calls Tryz.prog 16 #[.string ((⟨#[32, 40, 32, 32]⟩ ++ str (dbl S.data.toList)) ++ ⟨#[32, 41]⟩)] w (Sec t w) := by
 have hp := blank_par hr
 rw [par_text]
 have hl := dbl_size S hS
 rw [str_size] at hl
 have hsz : (str (32 :: 40 :: 32 :: 32 :: (dbl S.data.toList ++ [32, 41]))).size ≤ 600 := by
  rw [str_size]
  simp only [List.length_cons, List.length_append, List.length_nil]
  omega
 rw [← str_data (32 :: 40 :: 32 :: 32 :: (dbl S.data.toList ++ [32, 41]))] at hp
 rcases hp with hp | hp
 ·refine (fparse_any _ w hv hsz _ _ hp).mono ?_
  intro e w' h
  obtain ⟨u, E, hu, hE, h⟩ := fparse_yes h
  have hgu : FeGood u := hg.same hu.symm
  rcases h with ⟨_, he, hat, hb⟩ | ⟨_, _, hne, _⟩
  ·exact .inr ⟨u, hu, hgu, he, hat.in_, hb⟩
  ·exact absurd (hE.2 hgu) hne
 ·refine (fparse_any _ w hv hsz _ _ hp).mono ?_
  intro e w' h
  exact .inl h
def Fst (S : ByteArray) (w : World) (e : Ending) (w' : World) : Prop := (∃ E, NoFe E w e w') ∨ ∃ u n, rd n (.ex 0) 0 (sk S.data.toList) = some (.yes (shp u) []) ∧ FeGood u ∧ e = .returned (.tuple #[feV u, .int .i64 0, .int .i64 0]) ∧ FeIn w' w'.heap.size u ∧ Below w.heap.size w w'
theorem first (S : ByteArray) (hS : S.size ≤ 250) (w : World) (hv : Env w) : Calls Tryz.prog 16 #[.string S] w (Fst S w) := by
 obtain ⟨n, r, hr, hc⟩ := fparse_or S w hv (by omega)
 refine hc.mono ?_
 intro e w' h
 cases r with
 | no c => exact .inl ⟨c, h⟩
 | yes f l =>
  by_cases hl : l = []
  ·subst hl
   obtain ⟨u, E, hu, hE, h⟩ := fparse_yes h
   rcases h with ⟨h0, he, hat, hb⟩ | h
   ·exact .inr ⟨u, n, by rw [hr, hu], hE.1 h0, he, hat.in_, hb⟩
   ·exact .inl ⟨E, h⟩
  ·exact .inl ⟨4, fparse_rest h hl⟩
set_option maxRecDepth 100000 in
set_option maxHeartbeats 4000000 in
theorem core (S : ByteArray) (w : World) (hv : Env w) (hp : Pow w) :
  Calls Tryz.prog 6 #[.string S] w fun e w' => e = .returned (.bool true) ∧ Below w.heap.size w w' := by
 have HCon := Lib.hid (fparse_con w hv)
 have HP := Lib.hid (fun W (h : Below w.heap.size w W) u (hu : FeIn W W.heap.size u) => fprint_any u W (hv.next h) (hp.next h) hu)
 have HFst := Lib.hid (fun (hS : S.size ≤ 250) W (h : Below w.heap.size w W) => first S hS W (hv.next h))
 have HSec := Lib.hid (fun (hS : S.size ≤ 250) t (hg : FeGood t) n hr W (h : Below w.heap.size w W) => second S hS t hg n hr W (hv.next h))
 have HRep := Lib.hid (fun (hS : S.size ≤ 250) W (h : Below w.heap.size w W) => replace_sp S hS W (hv.h.next h))
 have HDz := Lib.hid (fun (hS : S.size ≤ 250) => dbl_size S hS)
 clear hv hp
 unfold FPrintQ at HP
 unfold Fst at HFst
 unfold Sec at HSec
 unfold NoFe zeroFE at HFst HSec
 go_enter Tryz.func6, Tryz.ntmps6
 go_wp2_with fail
 refine HCon.out.mono ?_
 rintro e w1 ⟨A0, c0, rfl, hb1⟩
 have HB1 := Lib.hid (below_then hb1 (below_alloc1 w1 (Obj.cells #[.int .i64 3, .int .i64 3, .int .i64 0, .string ⟨#[]⟩, .slice A0 0 c0] 57)))
 have HX1 := Lib.hid (Box.new w1 57 #[.int .i64 3, .int .i64 3, .int .i64 0, .string ⟨#[]⟩, .slice A0 0 c0])
 obtain ⟨x0, x1, x2, x3, x4⟩ := fecells HX1.out
 clear hb1 HCon
 by_cases hlen : 250 < S.size
 ·have t1 : decide (250 < S.size) = true := decide_eq_true hlen
  have t2 : decide ((250 : Int) < (S.size : Int)) = true := decide_eq_true (by omega)
  go_wp2_with fail
  go_ret
  exact ⟨rfl, HB1.out⟩
 have t1 : decide (250 < S.size) = false := decide_eq_false hlen
 have t2 : decide ((250 : Int) < (S.size : Int)) = false := decide_eq_false (by omega)
 have hS : S.size ≤ 250 := by omega
 have HF1 := Lib.hid (HFst.out hS)
 have HS1 := Lib.hid (HSec.out hS)
 have HR1 := Lib.hid (HRep.out hS)
 have hdz := HDz.out hS
 clear HFst HSec HRep HDz hlen
 go_wp2_with fail
 refine (HF1.out _ HB1.out).mono ?_
 clear x0 x1 x2 x3 x4 HX1 HF1 t1 t2
 generalize w1.alloc (Obj.cells #[.int .i64 3, .int .i64 3, .int .i64 0, .string ⟨#[]⟩, .slice A0 0 c0] 57) = W1 at *
 rintro e w2 (⟨E, m, rfl, hE, hb2⟩ | ⟨t, n, hrd, hgt, rfl, hit, hb2⟩)
 ·have t1 : (E != 0) = true := by rw [bne_iff_ne]; exact hE
  have HB2 := Lib.hid (below_then HB1.out (below_then hb2 (below_alloc1 w2 (Obj.cells #[.int .i64 0, .int .i64 0, .int .i64 0, .string ⟨#[]⟩, .slice none 0 0] 57))))
  clear hE hb2 HS1 HR1 HP
  go_wp2_with fail
  go_ret
  exact ⟨rfl, HB2.out⟩
 have HGt := Lib.hid hgt
 have HB2 := Lib.hid (below_then HB1.out hb2)
 have HS2 := Lib.hid (HS1.out t hgt n hrd)
 have HIt := Lib.hid hit
 clear hrd hgt hit hb2 HB1 HS1
 obtain ⟨t0, ht0⟩ : ∃ t0, t0 = t := ⟨_, rfl⟩
 obtain ⟨k, a, b, nm, A, c, ks⟩ := t
 have hft : feV t0 = .agg #[.int .i64 k, .int .i64 a, .int .i64 b, .string nm, .slice A ks.length c] := by rw [ht0]; rfl
 rw [← ht0] at HGt HIt HS2 ⊢
 have HPt := Lib.hid (fun W (h : Below w.heap.size w W) (h2 : Below w2.heap.size w2 W) => HP.out W h t0 (HIt.out.next h2 h2.size))
 rw [hft] at HPt ⊢
 clear ht0 hft HIt
 have hbn := below_alloc1 w2 (Obj.cells #[.int .i64 k, .int .i64 a, .int .i64 b, .string nm, .slice A ks.length c] 57)
 have HBn := Lib.hid hbn
 have HB3 := Lib.hid (below_then HB2.out hbn)
 have HX3 := Lib.hid (Box.new w2 57 #[.int .i64 k, .int .i64 a, .int .i64 b, .string nm, .slice A ks.length c])
 clear hbn
 go_wp2_with fail
 generalize hg3 : w2.heap.size = g3 at *
 generalize w2.alloc (Obj.cells #[.int .i64 k, .int .i64 a, .int .i64 b, .string nm, .slice A ks.length c] 57) = w3 at *
 refine (HR1.out w3 HB3.out).mono ?_
 rintro e w4 ⟨rfl, hb4⟩
 have HBm := Lib.hid (HBn.out.trans (hb4.mono (by have := HBn.out.size; omega)))
 have HB4 := Lib.hid (below_then HB3.out hb4)
 have HX4 := Lib.hid (HX3.out.below hb4)
 have HS4 := Lib.hid (HS2.out w4 HB4.out)
 clear hb4 HBn HB3 HX3 HR1 HS2
 generalize str (dbl S.data.toList) = D at *
 have q0 : (⟨#[32, 40, 32, 32]⟩ : ByteArray).size = 4 := rfl
 have q1 : (⟨#[32, 41]⟩ : ByteArray).size = 2 := rfl
 have q2 : (⟨#[32, 40, 32, 32]⟩ ++ D : ByteArray).size ≤ 504 := by rw [ByteArray.size_append]; omega
 have q3 : ((⟨#[32, 40, 32, 32]⟩ ++ D) ++ ⟨#[32, 41]⟩ : ByteArray).size ≤ 506 := by rw [ByteArray.size_append]; omega
 go_wp2_with fail
 refine HS4.out.mono ?_
 rintro e w5 (⟨m, rfl, hE, hb5⟩ | ⟨u, hsu, hgu, rfl, hiu, hb5⟩)
 ·have HB5 := Lib.hid (below_then HB4.out (below_then hb5 (below_alloc1 w5 (Obj.cells #[.int .i64 0, .int .i64 0, .int .i64 0, .string ⟨#[]⟩, .slice none 0 0] 57))))
  clear hE hb5 HS4
  go_wp2_with fail
  go_ret
  exact ⟨rfl, HB5.out⟩
 have HEq := Lib.hid (fsh_same hsu HGt.out hgu)
 have HGu := Lib.hid hgu
 have HIu := Lib.hid hiu
 have HB5 := Lib.hid (below_then HB4.out hb5)
 have HX5 := Lib.hid (HX4.out.below hb5)
 have HBr := Lib.hid (HBm.out.trans (hb5.mono (by have := HBm.out.size; omega)))
 clear hsu hgu hiu hb5 HS4 HB4 HX4 HBm
 obtain ⟨u0, hu0⟩ : ∃ u0, u0 = u := ⟨_, rfl⟩
 obtain ⟨k', a', b', nm', A', c', ks'⟩ := u
 have hfu : feV u0 = .agg #[.int .i64 k', .int .i64 a', .int .i64 b', .string nm', .slice A' ks'.length c'] := by rw [hu0]; rfl
 rw [← hu0] at HGu HIu HEq ⊢
 have HPu := Lib.hid (fun W (h : Below w.heap.size w W) (h2 : Below w5.heap.size w5 W) => HP.out W h u0 (HIu.out.next h2 h2.size))
 rw [hfu] at HPu ⊢
 clear hu0 hfu HIu
 have hbo := below_alloc1 w5 (Obj.cells #[.int .i64 k', .int .i64 a', .int .i64 b', .string nm', .slice A' ks'.length c'] 57)
 have HBo := Lib.hid hbo
 have HB6 := Lib.hid (below_then HB5.out hbo)
 have HX6 := Lib.hid (HX5.out.below hbo)
 have HY6 := Lib.hid (Box.new w5 57 #[.int .i64 k', .int .i64 a', .int .i64 b', .string nm', .slice A' ks'.length c'])
 have HBs := Lib.hid (HBr.out.trans (hbo.mono (by have := HBr.out.size; omega)))
 clear hbo
 obtain ⟨x0, x1, x2, x3, x4⟩ := fecells HX6.out
 go_wp2_with fail
 clear x0 x1 x2 x3 x4 HX6
 generalize hg5 : w5.heap.size = g5 at *
 generalize w5.alloc (Obj.cells #[.int .i64 k', .int .i64 a', .int .i64 b', .string nm', .slice A' ks'.length c'] 57) = w6 at *
 refine (HPt.out w6 HB6.out HBs.out).mono ?_
 rintro e w7 ⟨hb7, h⟩
 rcases h with ⟨_, rfl⟩ | ⟨hno, _⟩
 case inr => exact absurd HGt.out hno
 have HB7 := Lib.hid (below_then HB6.out hb7)
 have HY7 := Lib.hid (HY6.out.below hb7)
 have HBp := Lib.hid (HBo.out.trans (hb7.mono (by have := HBo.out.size; omega)))
 clear hb7 HY6 HB6 HBs HBr HBo HPt HB5 HX5
 obtain ⟨x0, x1, x2, x3, x4⟩ := fecells HY7.out
 go_wp2_with fail
 refine (HPu.out w7 HB7.out HBp.out).mono ?_
 rintro e w8 ⟨hb8, h⟩
 rcases h with ⟨_, rfl⟩ | ⟨hno, _⟩
 case inr => exact absurd HGu.out hno
 have HB8 := Lib.hid (below_then HB7.out hb8)
 rw [HEq.out]
 obtain ⟨R, hR⟩ : ∃ R, R = str (fsh t0) := ⟨_, rfl⟩
 rw [← hR]
 clear hb8 HPu x0 x1 x2 x3 x4 HEq hR
 have t4 : (R.toList == R.toList) = true := by simp
 go_wp2_with fail
 go_ret
 exact ⟨rfl, HB8.out⟩
set_option maxRecDepth 100000 in
theorem walk {H : Type} {enc : TypeId × Value → H} {base : Nat} {W : World} (v0 : Value) (d0 : DataW H) (p0 : List MemPlace) (hv0 : Value.okWide Tryz.prog W .any base 9 v0) (h0 : DataW.Trod enc Tryz.prog W 0 (fun _ => true) true 9 v0 d0 p0)
  (hL : laidMet Tryz.prog Rows.feastBlanksRow.laid W) (hsh : W.ShapedOpen Tryz.prog) :
  Calls Tryz.prog 6 #[v0] W fun e w' => e = .returned (.bool true) ∧ Below W.heap.size W w' := by
 obtain ⟨s, rfl⟩ := okWide_string Tryz.underlying9 hv0
 exact core s W ⟨sgs_of hL.tail.tail.tail.tail.tail.tail.tail, lvs_of hL.tail.tail.tail.tail.tail.tail, Shp.of hsh⟩ (pow_of hL.tail.tail)
end Go.Proofs.YtabidjmmgnkhkaaGreatDoor.feastBlanks
