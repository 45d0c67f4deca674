/- FParse -/
import Derived.Test.YtabidjmmgnkhkaaGreatDoorGFAll
/- Contract of feast.Parse. -/
namespace Go.Proofs.YtabidjmmgnkhkaaGreatDoor
open Go.RowKit
set_option linter.unusedVariables false
theorem below_grown {B : Nat} {w w1 w2 : World} {g : Nat} (h : Below B w w1) (hg : w1.grownBy w2 (some g)) (hB : B ≤ g) (hs : B ≤ w1.heap.size) : Below B w w2 :=
 ⟨hg.os.trans h.os, hg.tape.trans h.tape, hg.output.trans h.output, Nat.le_trans h.size hg.size, fun k hk => (hg.block k (by omega) (fun e => by injection e with e; omega)).trans (h.block k hk)⟩
theorem below_set {B : Nat} {w w1 : World} (h : Below B w w1) (g i : Nat) (v : Value) (hB : B ≤ g) : Below B w (w1.setCell ⟨g, i, none⟩ v) :=
 ⟨h.os, h.tape, h.output, by simpa using h.size, fun k hk => (Below.heap_setCell _ _ _ k (show k ≠ g by omega)).trans (h.block k hk)⟩
theorem below_set5 {B : Nat} {w w1 : World} (h : Below B w w1) (g : Nat) (k a b : Int) (nm : ByteArray) (s : Value) (hB : B ≤ g) : Below B w (set5 w1 g k a b nm s) :=
 below_set (below_set (below_set (below_set (below_set h g 0 _ hB) g 1 _ hB) g 2 _ hB) g 3 _ hB) g 4 _ hB
def NoFe (E : Int) (w : World) (e : Ending) (w' : World) : Prop := ∃ m : Int, e = .returned (.tuple #[.agg zeroFE, .int .i64 m, .int .i64 E]) ∧ E ≠ 0 ∧ Below w.heap.size w w'
def FParseQ (r : Fr) (w : World) (e : Ending) (w' : World) : Prop := match r with
 | .no c => NoFe c w e w'
 | .yes f l => if l = [] then ∃ t E, shp t = f ∧ (E = 0 ↔ FeGood t) ∧ ((E = 0 ∧ e = .returned (.tuple #[feV t, .int .i64 0, .int .i64 0]) ∧ FeAt w' (fun b => w.heap.size ≤ b) w'.heap.size t ∧ Below w.heap.size w w') ∨ NoFe E w e w') else NoFe 4 w e w'
set_option maxHeartbeats 4000000 in
set_option maxRecDepth 100000 in
theorem fparse_any (S : ByteArray) (w : World) (hv : Env w) (hS : S.size ≤ 600) (n : Nat) (r : Fr) (hr : rd n (.ex 0) 0 (sk S.data.toList) = some r) : Calls Tryz.prog 16 #[.string S] w (FParseQ r w) := by
 have t1 : decide ((600 : Int) < (S.size : Int)) = false := decide_eq_false (by omega)
 have t2 : decide (600 < S.size) = false := decide_eq_false (by omega)
 have HB0 := Lib.hid (below_alloc2 w (Obj.cells zeroFE 57) (Obj.cells #[.string S, .int .i64 0, .int .i64 0, .int .i64 0, .int .i64 0] 92))
 have HX0 := Lib.hid ((Box.new w 57 zeroFE).alloc (Obj.cells #[.string S, .int .i64 0, .int .i64 0, .int .i64 0, .int .i64 0] 92))
 have HY0 : Hid (Box ((w.alloc (Obj.cells zeroFE 57)).alloc (Obj.cells #[.string S, .int .i64 0, .int .i64 0, .int .i64 0, .int .i64 0] 92)) (w.heap.size + 1) 92 #[.string S, .int .i64 0, .int .i64 0, .int .i64 0, .int .i64 0]) := heap_alloc2_new _ _ _
 have HSc := Lib.hid (fscan_any (w.heap.size + 1) S 0 0 0 _ HY0.out (by omega) (by omega))
 have HE := Lib.hid (fun W (hW : Fd W (w.heap.size + 1) S (sk S.data.toList) 0) => (read_all (w.heap.size + 1) S (by omega) n).ex 0 0 0 _ r (.inl ⟨rfl, rfl⟩) (by omega) hr W hW)
 have HCk := Lib.hid (fun t W (hb : Below w.heap.size w W) hin => fcheck_any t W (hv.next hb) hin)
 rw [List.drop_zero] at HSc
 clear hv hr HY0
 unfold FCheckQ at HCk
 go_enter Tryz.func16, Tryz.ntmps16
 go_wp2_with fail
 generalize hg2 : w.heap.size = g2 at *
 have HG2 := Lib.hid hg2
 generalize (w.alloc (Obj.cells zeroFE 57)).alloc (Obj.cells #[.string S, .int .i64 0, .int .i64 0, .int .i64 0, .int .i64 0] 92) = w0 at *
 have hl0 := HX0.out.lt
 refine HSc.out.mono ?_
 rintro e w1 ⟨rfl, hf, hg⟩
 have HX1 := Lib.hid (HX0.out.grown hg (by simp))
 have HB1 := Lib.hid (below_grown HB0.out hg (by omega) (by omega))
 have HE1 := Lib.hid (HE.out w1 hf)
 have hl1 := HX1.out.lt
 clear hf hg HB0 HX0 HSc HE hg2
 go_wp2_with fail
 refine HE1.out.mono ?_
 intro e w2 hq
 obtain ⟨iv, t, he, hg, hst⟩ : ∃ (iv : Bool) (t : FE), e = .returned (.tuple #[feV t, .bool iv]) ∧ w1.grownBy w2 (some (g2 + 1)) ∧ Hid ((iv = true ∧ ∃ l, r = .yes (shp t) l ∧ FeAt w2 (fun b => g2 < b) w2.heap.size t ∧ Fd w2 (g2 + 1) S l 0) ∨ (iv = false ∧ ∃ c, r = .no c ∧ c ≠ 0 ∧ Fx w2 (g2 + 1) S c)) := by
  cases r with
  | no c =>
   obtain ⟨t, he, hc, hx, hg⟩ := hq
   exact ⟨false, t, he, hg, .inr ⟨rfl, c, rfl, hc, hx⟩⟩
  | yes x l =>
   obtain ⟨t, hs, he, ha, hf, hg⟩ := hq
   exact ⟨true, t, he, hg, .inl ⟨rfl, l, by rw [hs], ha.more fun b hb _ => by omega, hf⟩⟩
 subst he
 have HX2 := Lib.hid (HX1.out.grown hg (by simp))
 have HB2 := Lib.hid (below_grown HB1.out hg (by omega) (by have := HB1.out.size; omega))
 have hl2 := HX2.out.lt
 obtain ⟨k, a, b, nm, A, c', ks⟩ := t
 rw [show feV (.node k a b nm A c' ks) = .agg #[.int .i64 k, .int .i64 a, .int .i64 b, .string nm, .slice A ks.length c'] from rfl]
 clear hq hg HX1 HB1 HE1
 go_upto_region 6 with fail
 have hal := below_alloc1 w2 (Obj.cells #[.int .i64 k, .int .i64 a, .int .i64 b, .string nm, .slice A ks.length c'] 57)
 have HX3 := Lib.hid (HX2.out.below hal)
 have HZ3 := Lib.hid (Box.new w2 57 #[.int .i64 k, .int .i64 a, .int .i64 b, .string nm, .slice A ks.length c'])
 have HB3 : Hid (Below g2 w (w2.alloc (Obj.cells #[.int .i64 k, .int .i64 a, .int .i64 b, .string nm, .slice A ks.length c'] 57))) := HB2.out.trans (hal.mono (by omega))
 have HS3 : Hid ((iv = true ∧ ∃ l, r = .yes (shp (.node k a b nm A c' ks)) l ∧ FeAt (w2.alloc (Obj.cells #[.int .i64 k, .int .i64 a, .int .i64 b, .string nm, .slice A ks.length c'] 57)) (fun b => g2 < b) (w2.alloc (Obj.cells #[.int .i64 k, .int .i64 a, .int .i64 b, .string nm, .slice A ks.length c'] 57)).heap.size (.node k a b nm A c' ks) ∧ Fd (w2.alloc (Obj.cells #[.int .i64 k, .int .i64 a, .int .i64 b, .string nm, .slice A ks.length c'] 57)) (g2 + 1) S l 0) ∨ (iv = false ∧ ∃ c, r = .no c ∧ c ≠ 0 ∧ Fx (w2.alloc (Obj.cells #[.int .i64 k, .int .i64 a, .int .i64 b, .string nm, .slice A ks.length c'] 57)) (g2 + 1) S c)) := by
  rcases hst.out with ⟨e1, l, e2, ha, hf⟩ | ⟨e1, c, e2, hc, hx⟩
  ·exact .inl ⟨e1, l, e2, ha.next hal, hf.next hal⟩
  ·exact .inr ⟨e1, c, e2, hc, hx.next hal⟩
 clear hst hal HX2 HB2
 generalize w2.alloc (Obj.cells #[.int .i64 k, .int .i64 a, .int .i64 b, .string nm, .slice A ks.length c'] 57) = w3 at *
 generalize w2.heap.size = g6 at *
 have hB3 := HB3.out.size
 rcases HS3.out with ⟨rfl, l, e2, ha, hf⟩ | ⟨rfl, c, e2, hc, hx⟩
 ·have HT := Lib.hid (ftok_at (g2 + 1) S l 0 w3 hf (by omega))
  have HA3 := Lib.hid ha
  have HF3 := Lib.hid hf
  by_cases hl : l = []
  ·rw [hl, tk_nil, show str [] = (⟨#[]⟩ : ByteArray) from rfl] at HT
   have HR : Hid (∀ e w', (∃ t E, shp t = shp (.node k a b nm A c' ks) ∧ (E = 0 ↔ FeGood t) ∧ ((E = 0 ∧ e = .returned (.tuple #[feV t, .int .i64 0, .int .i64 0]) ∧ FeAt w' (fun b => w.heap.size ≤ b) w'.heap.size t ∧ Below w.heap.size w w') ∨ NoFe E w e w')) → FParseQ r w e w') := fun e w' h => by
    rw [e2, hl]
    unfold FParseQ
    dsimp only
    rw [if_pos rfl]
    exact h
   clear e2 hl hf ha HS3 HF3
   go_upto_region 10 with fail
   refine HT.out.mono ?_
   rintro e w4 ⟨rfl, m, rfl⟩
   have hb4 := below_drewN w3 m
   have HX4 := Lib.hid (HX3.out.below hb4)
   have HZ4 := Lib.hid (HZ3.out.below hb4)
   have HB4 : Hid (Below g2 w (w3.drewN m)) := below_drew HB3.out m
   have HA4 := Lib.hid (HA3.out.next hb4)
   clear HX3 HZ3 HB3 HA3 HT hb4
   generalize w3.drewN m = w4 at *
   have HCk4 := Lib.hid (HCk.out (.node k a b nm A c' ks) w4 HB4.out HA4.out.in_)
   rw [show feV (.node k a b nm A c' ks) = .agg #[.int .i64 k, .int .i64 a, .int .i64 b, .string nm, .slice A ks.length c'] from rfl] at HCk4
   obtain ⟨y0, y1, y2, y3, y4⟩ := fecells HZ4.out
   have yl := HZ4.out.lt
   clear HCk
   go_wp2_with fail
   refine HCk4.out.mono ?_
   rintro e w5 ⟨E, rfl, hE, hb5⟩
   have HE5 := Lib.hid hE
   have HX5 := Lib.hid (HX4.out.below hb5)
   have HZ5 := Lib.hid (HZ4.out.below hb5)
   have HB5 : Hid (Below g2 w w5) := HB4.out.trans (hb5.mono (by have := HB4.out.size; omega))
   have HA5 := Lib.hid (HA4.out.next hb5)
   clear hE hb5 HX4 HZ4 HB4 HA4 HCk4 y0 y1 y2 y3 y4 yl
   obtain ⟨y0, y1, y2, y3, y4⟩ := fecells HZ5.out
   have yl := HZ5.out.lt
   obtain ⟨r0, r1, r2, r3, r4⟩ := fecells HX5.out
   have rf : ∀ i, w5.frozen? ⟨g2, i, none⟩ = false := fun i => HX5.out.free i
   have rl := HX5.out.lt
   by_cases hE0 : E = 0
   ·subst hE0
    go_wp2_with fail
    refine bodyPost_ret (v := .tuple #[.agg #[.int .i64 k, .int .i64 a, .int .i64 b, .string nm, .slice A ks.length c'], .int .i64 0, .int .i64 0]) (by simp [results, Tryz.results16, go_sem, r0, r1, r2, r3, r4]) rfl ?_
    exact HR.out _ _ ⟨.node k a b nm A c' ks, 0, rfl, (by simpa using HE5.out), .inl ⟨rfl, rfl, (HA5.out.set5 g2 k a b nm _ (by omega)).more fun b hb _ => by rw [HG2.out]; omega, by rw [HG2.out]; exact below_set5 HB5.out g2 k a b nm _ (Nat.le_refl _)⟩⟩
   ·have tE : (E != 0) = true := by rw [bne_iff_ne]; exact hE0
    have HEn := Lib.hid hE0
    have hS1 : (S.size : Int) ≤ 600 := by omega
    clear hE0
    go_wp2_with fail
    refine bodyPost_ret (v := .tuple #[.agg #[.int .i64 0, .int .i64 0, .int .i64 0, .string ⟨#[]⟩, .slice none 0 0], .int .i64 (S.size : Int), .int .i64 E]) (by simp [results, Tryz.results16, go_sem, r0, r1, r2, r3, r4]) rfl ?_
    exact HR.out _ _ ⟨.node k a b nm A c' ks, E, rfl, HE5.out, .inr ⟨(S.size : Int), rfl, HEn.out, by rw [HG2.out]; exact below_set5 HB5.out g2 0 0 0 noB _ (Nat.le_refl _)⟩⟩
  ·have hne : tk l ≠ [] := tk_ne l hl
   have q1 : ((str (tk l)).toList == []) = false := by rw [beq_eq_false_iff_ne, str_toList]; exact hne
   have q2 : ¬ (str (tk l)).toList = [] := by rw [str_toList]; exact hne
   have q3 : (str (tk l)).toList.isEmpty = false := by rw [str_toList]; cases h : tk l with | nil => exact absurd h hne | cons x y => rfl
   have q4 : ((str (tk l)).toList != []) = true := by rw [bne_iff_ne]; exact q2
   have HFin : Hid (∀ e w', NoFe 4 w e w' → FParseQ r w e w') := fun e w' h => by
    rw [e2]
    unfold FParseQ
    dsimp only
    rw [if_neg hl]
    exact h
   have HFl := Lib.hid (fun W (hW : Fd W (g2 + 1) S l 0) => ffail_at (g2 + 1) S l 0 4 W hW)
   unfold FailQ at HFl
   clear e2 hl hf ha HS3 HA3 hne HCk
   generalize str (tk l) = T at *
   go_upto_region 9 with fail
   refine HT.out.mono ?_
   rintro e w4 ⟨rfl, m, rfl⟩
   have hb4 := below_drewN w3 m
   have HX4 := Lib.hid (HX3.out.below hb4)
   have HB4 : Hid (Below g2 w (w3.drewN m)) := below_drew HB3.out m
   have HFl4 := Lib.hid (HFl.out _ (HF3.out.next hb4))
   clear HX3 HZ3 HB3 HT hb4 HF3 HFl
   generalize w3.drewN m = w4 at *
   go_upto_region 9 with fail
   refine HFl4.out.mono ?_
   rintro e w5 ⟨rfl, hx, hg⟩
   have HFx := Lib.hid hx
   have HXf := Lib.hid (HX4.out.grown hg (by simp))
   have HBf := Lib.hid (below_grown HB4.out hg (by omega) (by have := HB4.out.size; have := HG2.out; omega))
   have HEn : Hid ((4 : Int) ≠ 0) := (show (4 : Int) ≠ 0 by decide)
   clear hx hg HX4 HB4 HFl4
   obtain ⟨a5, n5, op5, hr5⟩ := HFx.out
   have x1 : w5.cell? ⟨g2 + 1, 1, none⟩ = some (.int .i64 (a5 : Int)) := Box.cell hr5 1
   have x4 : w5.cell? ⟨g2 + 1, 4, none⟩ = some (.int .i64 4) := Box.cell hr5 4
   have xl : g2 + 1 < w5.heap.size := Box.lt hr5
   obtain ⟨r0, r1, r2, r3, r4⟩ := fecells HXf.out
   have rf : ∀ i, w5.frozen? ⟨g2, i, none⟩ = false := fun i => HXf.out.free i
   have rl := HXf.out.lt
   have hdr : ∀ W : World, Below W.heap.size W W.drew := fun W => ⟨rfl, rfl, rfl, Nat.le_refl _, fun _ _ => rfl⟩
   have HZ6 := Lib.hid ((box_set5 HXf.out 0 0 0 noB (.slice none 0 0)).below (hdr _))
   have HB6 := Lib.hid ((below_set5 HBf.out g2 0 0 0 noB (.slice none 0 0) (Nat.le_refl _)).trans ((hdr _).mono (by have := (box_set5 HXf.out 0 0 0 noB (.slice none 0 0)).lt; omega)))
   clear hr5 HFx HXf HBf hdr
   go_upto_region 9 with fail
   go_region
   dsimp only [set5] at HZ6 HB6
   clear r0 r1 r2 r3 r4 rf rl x1 x4 xl
   generalize (((((w5.setCell ⟨g2, 0, none⟩ (.int .i64 0)).setCell ⟨g2, 1, none⟩ (.int .i64 0)).setCell ⟨g2, 2, none⟩ (.int .i64 0)).setCell ⟨g2, 3, none⟩ (.string ⟨#[]⟩)).setCell ⟨g2, 4, none⟩ (.slice none 0 0)).drew = w6 at *
   obtain ⟨z0, z1, z2, z3, z4⟩ := fecells HZ6.out
   go_wp2_with fail
   refine bodyPost_ret (v := .tuple #[.agg #[.int .i64 0, .int .i64 0, .int .i64 0, .string ⟨#[]⟩, .slice none 0 0], .int .i64 (a5 : Int), .int .i64 4]) (by simp [results, Tryz.results16, go_sem, z0, z1, z2, z3, z4]) rfl ?_
   exact HFin.out _ _ ⟨(a5 : Int), rfl, HEn.out, by rw [HG2.out]; exact HB6.out⟩
 ·have HFin : Hid (∀ e w', NoFe c w e w' → FParseQ r w e w') := fun e w' h => by rw [e2]; exact h
  have HFx := Lib.hid hx
  have HXf := Lib.hid HX3.out
  have HBf := Lib.hid HB3.out
  have HEn := Lib.hid hc
  clear e2 hc hx HS3 HX3 HB3 HZ3 HCk
  obtain ⟨a5, n5, op5, hr5⟩ := HFx.out
  have x1 : w3.cell? ⟨g2 + 1, 1, none⟩ = some (.int .i64 (a5 : Int)) := Box.cell hr5 1
  have x4 : w3.cell? ⟨g2 + 1, 4, none⟩ = some (.int .i64 c) := Box.cell hr5 4
  have xl : g2 + 1 < w3.heap.size := Box.lt hr5
  obtain ⟨r0, r1, r2, r3, r4⟩ := fecells HXf.out
  have rf : ∀ i, w3.frozen? ⟨g2, i, none⟩ = false := fun i => HXf.out.free i
  have rl := HXf.out.lt
  have hdr : ∀ W : World, Below W.heap.size W W.drew := fun W => ⟨rfl, rfl, rfl, Nat.le_refl _, fun _ _ => rfl⟩
  have HZ6 := Lib.hid ((box_set5 HXf.out 0 0 0 noB (.slice none 0 0)).below (hdr _))
  have HB6 := Lib.hid ((below_set5 HBf.out g2 0 0 0 noB (.slice none 0 0) (Nat.le_refl _)).trans ((hdr _).mono (by have := (box_set5 HXf.out 0 0 0 noB (.slice none 0 0)).lt; omega)))
  clear hr5 HFx HXf HBf hdr
  go_upto_region 9 with fail
  go_region
  dsimp only [set5] at HZ6 HB6
  clear r0 r1 r2 r3 r4 rf rl x1 x4 xl
  generalize (((((w3.setCell ⟨g2, 0, none⟩ (.int .i64 0)).setCell ⟨g2, 1, none⟩ (.int .i64 0)).setCell ⟨g2, 2, none⟩ (.int .i64 0)).setCell ⟨g2, 3, none⟩ (.string ⟨#[]⟩)).setCell ⟨g2, 4, none⟩ (.slice none 0 0)).drew = w6 at *
  obtain ⟨z0, z1, z2, z3, z4⟩ := fecells HZ6.out
  go_wp2_with fail
  refine bodyPost_ret (v := .tuple #[.agg #[.int .i64 0, .int .i64 0, .int .i64 0, .string ⟨#[]⟩, .slice none 0 0], .int .i64 (a5 : Int), .int .i64 c]) (by simp [results, Tryz.results16, go_sem, z0, z1, z2, z3, z4]) rfl ?_
  exact HFin.out _ _ ⟨(a5 : Int), rfl, HEn.out, by rw [HG2.out]; exact HB6.out⟩
end Go.Proofs.YtabidjmmgnkhkaaGreatDoor
